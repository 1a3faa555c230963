/- Codes and contracts of the functions that VO reaches, and that their typed forms say what they do. No condition. -/
import Derived.Test.YtdcmnpiafeigaaaGreatDoorVOT
import Derived.Test.YtdcmnpiafeigaaaGreatDoorEngInsVolume
import Derived.Test.YtdcmnpiafeigaaaGreatDoorEngSF
import Derived.Test.YtdcmnpiafeigaaaGreatDoorRows
import Derived.WalkKit
namespace Go.Proofs.YtdcmnpiafeigaaaGreatDoor
open Go Go.RowKit
set_option linter.unusedVariables false
set_option linter.unusedSimpArgs false
set_option maxRecDepth 10000

def ir4_v : List Nat := [0, 2]
def ir4 : AFn := ⟨1, 2, .seq (.region false [ VO 1 2 (.mov (.c (.bool false)))]) (.seq (.region false [ PM 3 0, PO 4 (.len false (.s 0)), PO 5 (.bin false .gtr (.s 0) (I6 4096)), VS 1 2 0]) (.ret)), [.t 1]⟩
noncomputable def t_0 : List (Nat × Ctr) := []
noncomputable def c_0 : Ctr := mkF t_0 ir4 [.bor]
theorem s_0 : Sound Tryz.prog 4 c_0 := mkF_sound _ rfl snd_nil (by kernel_rfl : chkFn Tryz.prog 4 ir4 ir4_v = true)
theorem M_0 : c_0.modes = [.bor] := rfl
theorem Fl_0 : c_0.flat = true := rfl
attribute [go_sem] M_0 Fl_0
theorem Fs_0 {code : List UInt8} {y_ : Bool} (h : laws_f6big code = some y_) : c_0.F [.sl 1 (List.map byteAV code)] = ⟨true, .bool y_, [.any]⟩ := by
 refine mkF_E rfl ?_
 dsimp only [laws_f6big] at h
 obtain rfl := so_some h
 refine ⟨0, fun L hL => ?_⟩
 simp only [go_sem, ir4]


def ir31_v : List Nat := [0, 2]
def ir31 : AFn := ⟨1, 2, .seq (.region false [ VO 1 2 (.mov (.c (.cv (.pointer none))))]) (.seq (.region false [ PM 3 0, PO 4 (.build [.sl 1 [], .int .i64 (0), .int .u64 (0)] [(0, 1, (.s 0))]), PO 5 (.box (.s 0)), VS 1 2 0]) (.ret)), [.t 1]⟩
noncomputable def t_1 : List (Nat × Ctr) := []
noncomputable def c_1 : Ctr := mkN t_1 ir31 [.bor]
theorem s_1 : Sound Tryz.prog 31 c_1 := mkN_sound _ snd_nil (by kernel_rfl : chkFn Tryz.prog 31 ir31 ir31_v = true)
theorem M_1 : c_1.modes = [.bor] := rfl
theorem Fl_1 : c_1.flat = false := rfl
attribute [go_sem] M_1 Fl_1
theorem Fs_1 {code : List UInt8} {y_ : L00Src} (h : spec_l00From code = some y_) : c_1.F [.sl 1 (List.map byteAV code)] = ⟨true, .mem 3 [L00Src_av y_] 0, [.any]⟩ := by
 refine mkN_E ?_
 dsimp only [spec_l00From] at h
 obtain rfl := so_some h
 refine ⟨0, fun L hL => ?_⟩
 simp only [go_sem, ir31]


def ir72_v : List Nat := [0, 2, 3]
def ir72 : AFn := ⟨1, 3, .seq (.region false [ VO 1 2 (.mov (I6 0))]) (.seq (.region false [ VO 2 3 (.mov (I6 0))]) (.seq (.anyo 10 [ SO 0 4 (.mov (.v 0)), SO 1 5 (.nilck (.s 0)), SO 2 6 (.fldAddr 1 (.s 1)), SO 3 7 (.load false 1 (.s 2)), SO 4 8 (.mov (.v 0)), SO 5 9 (.nilck (.s 4)), SO 6 10 (.fldAddr 0 (.s 5)), SO 7 11 (.load false 1 (.s 6)), SO 8 12 (.len false (.s 7)), SO 9 13 (.bin false .lss (.s 3) (.s 8))] [] (.cond (.s 9) (.anyo 11 [ SO 0 14 (.mov (.v 0)), SO 1 15 (.nilck (.s 0)), SO 2 16 (.fldAddr 0 (.s 1)), SO 3 17 (.load false 1 (.s 2)), SO 4 18 (.mov (.v 0)), SO 5 19 (.nilck (.s 4)),
 SO 6 20 (.fldAddr 1 (.s 5)), SO 7 21 (.load false 1 (.s 6)), SO 8 22 (.ixAddr 1 (.s 3) (.s 7)), SO 9 23 (.load false 1 (.s 8)), SO 10 24 (.conv .i64 (.s 9)), VS 2 3 10] [] .skip) (.skip))) (.seq (.region false [ PM 25 0, PO 26 (.nilck (.s 0)), PO 27 (.fldAddr 1 (.s 0)), PO 28 (.load false 1 (.s 0)), PO 29 (.bin false .add (.s 0) (I6 1)), PO 30 (.nilck (.s 4)), PO 31 (.fldAddr 1 (.s 0)), ⟨.no, 0, none, .store 1 (.s 0) (.s 2)⟩]) (.seq (.region false [ PM 32 0, PM 33 0, PO 34 (.nilck (.s 0)), PO 35 (.fldAddr 2 (.s 0)), PO 36 (.load false 1 (.s 0)), PO 37 (.bin false .mul (.s 0) (.c (.int .u64
 (6364136223846793005)))), PM 38 2, PO 39 (.conv .u64 (.s 0)), PO 40 (.bin false .add (.s 2) (.s 0)), PO 41 (.bin false .add (.s 0) (.c (.int .u64 (1442695040888963407)))), PO 42 (.nilck (.s 9)), PO 43 (.fldAddr 2 (.s 0)), ⟨.no, 0, none, .store 1 (.s 0) (.s 2)⟩]) (.seq (.anyo 10 [ SO 0 44 (.mov (.v 0)), SO 1 45 (.nilck (.s 0)), SO 2 46 (.fldAddr 1 (.s 1)), SO 3 47 (.load false 1 (.s 2)), SO 4 48 (.mov (.v 0)), SO 5 49 (.nilck (.s 4)), SO 6 50 (.fldAddr 0 (.s 5)), SO 7 51 (.load false 1 (.s 6)), SO 8 52 (.len false (.s 7)), SO 9 53 (.bin false .leq (.s 3) (.s 8))] [] (.cond (.s 9) (.seq (.region
 false [ PM 54 2, VS 1 2 0]) (.ret)) (.skip))) (.seq (.region false [ PM 55 0, PO 56 (.nilck (.s 0)), PO 57 (.fldAddr 2 (.s 0)), PO 58 (.load false 1 (.s 0)), PO 59 (.bin false .shr (.s 0) (.c (.int .u64 (40)))), PO 60 (.bin false .and (.s 0) (.c (.int .u64 (255)))), PO 61 (.conv .i64 (.s 0)), VS 1 2 0]) (.ret))))))), [.t 1]⟩
noncomputable def t_2 : List (Nat × Ctr) := []
noncomputable def c_2 : Ctr := mkN t_2 ir72 [.io]
theorem s_2 : Sound Tryz.prog 72 c_2 := mkN_sound _ snd_nil (by kernel_rfl : chkFn Tryz.prog 72 ir72 ir72_v = true)
theorem M_2 : c_2.modes = [.io] := rfl
theorem Fl_2 : c_2.flat = false := rfl
attribute [go_sem] M_2 Fl_2
theorem Fs_2 {s_ : L00Src} {y_ : Int × L00Src} (h : spec_l00Src_next s_ = some y_) : c_2.F [.mem 3 [L00Src_av s_] 0] = ⟨true, .int .i64 y_.1, [.mem 3 [L00Src_av y_.2] 0]⟩ := by
 refine mkN_E ?_
 dsimp only [spec_l00Src_next] at h
 rcases it_some h with ⟨z1, h⟩ | ⟨z1, h⟩
 ·try simp only [go_sem, n1, n2, n3, n4] at z1
  all_goals
  obtain ⟨z2, h⟩ := ck_some h
  have lz2 := ix_lt z2
  have xz2 := getD_mapD byteAV s_.code_ lz2
  try simp only [go_sem] at lz2
  try simp only [go_sem] at xz2
  try simp only [go_sem, n1, n2, n3, n4, z1] at z2
  all_goals
  rcases it_some h with ⟨z3, h⟩ | ⟨z3, h⟩
  ·try simp only [go_sem, n1, n2, n3, n4, z1, z2] at z3
   all_goals
   obtain rfl := so_some h
   refine ⟨0, fun L hL => ?_⟩
   simp only [go_sem, ir72, z1, z2, lz2, xz2, z3]
  ·try simp only [go_sem, n1, n2, n3, n4, z1, z2] at z3
   all_goals
   obtain ⟨z4, h⟩ := ck_some h
   try simp only [go_sem, n1, n2, n3, n4, z1, z2, z3] at z4
   all_goals
   obtain rfl := so_some h
   refine ⟨0, fun L hL => ?_⟩
   simp only [go_sem, ir72, z1, z2, lz2, xz2, z3, z4]
 ·try simp only [go_sem, n1, n2, n3, n4] at z1
  all_goals
  rcases it_some h with ⟨z5, h⟩ | ⟨z5, h⟩
  ·try simp only [go_sem, n1, n2, n3, n4, z1] at z5
   all_goals
   obtain rfl := so_some h
   refine ⟨0, fun L hL => ?_⟩
   simp only [go_sem, ir72, z1, z5]
  ·try simp only [go_sem, n1, n2, n3, n4, z1] at z5
   all_goals
   obtain ⟨z6, h⟩ := ck_some h
   try simp only [go_sem, n1, n2, n3, n4, z1, z5] at z6
   all_goals
   obtain rfl := so_some h
   refine ⟨0, fun L hL => ?_⟩
   simp only [go_sem, ir72, z1, z5, z6]


def ir47_v : List Nat := [0, 1, 4, 5]
def ir47 : AFn := ⟨2, 4, .seq (.region false [ VO 2 4 (.mov (I6 0))]) (.seq (.test false [ PM 6 1, PO 7 (.bin false .leq (.s 0) (I6 1))] (.s 0) (.seq (.region false [ VO 2 4 (.mov (I6 0))]) (.ret)) (.skip)) (.seq (.region false [ PM 8 0, PO 9 (.call 72 [(.s 0)]), VS 3 5 0]) (.seq (.test false [ PM 10 1, PO 11 (.bin false .gtr (.s 0) (I6 200))] (.s 0) (.region false [ PM 12 3, PO 13 (.bin false .mul (.s 0) (I6 256)), PM 14 0, PO 15 (.call 72 [(.s 0)]), PO 16 (.bin false .add (.s 2) (.s 0)), VS 3 5 0]) (.skip)) (.seq (.region false [ PM 17 3, PM 18 1, PO 19 (.bin false .rem (.s 1) (.s 0)), VS 2 4
 0]) (.ret))))), [.t 2]⟩
noncomputable def t_3 : List (Nat × Ctr) := [(72, c_2)]
theorem lk_3_72 : look t_3 72 = some c_2 := rfl
noncomputable def c_3 : Ctr := mkN t_3 ir47 [.io, .bor]
theorem s_3 : Sound Tryz.prog 47 c_3 := mkN_sound _ (snd_cons s_2 snd_nil) (by kernel_rfl : chkFn Tryz.prog 47 ir47 ir47_v = true)
theorem M_3 : c_3.modes = [.io, .bor] := rfl
theorem Fl_3 : c_3.flat = false := rfl
attribute [go_sem] M_3 Fl_3
attribute [go_sem] lk_3_72
theorem Fs_3 {s_ : L00Src} {n : Int} {y_ : Int × L00Src} (h : spec_l00Src_pick s_ n = some y_) : c_3.F [.mem 3 [L00Src_av s_] 0, .int .i64 n] = ⟨true, .int .i64 y_.1, [.mem 3 [L00Src_av y_.2] 0, .any]⟩ := by
 refine mkN_E ?_
 dsimp only [spec_l00Src_pick] at h
 rcases it_some h with ⟨z1, h⟩ | ⟨z1, h⟩
 ·try simp only [go_sem, n1, n2, n3, n4] at z1
  all_goals
  obtain rfl := so_some h
  refine ⟨0, fun L hL => ?_⟩
  simp only [go_sem, ir47, z1]
 ·try simp only [go_sem, n1, n2, n3, n4] at z1
  all_goals
  obtain ⟨y_2, z2, h⟩ := bd_some h
  have fz2 := Fs_2 z2
  try simp only [go_sem, z1] at fz2
  rcases it_some h with ⟨z3, h⟩ | ⟨z3, h⟩
  ·try simp only [go_sem, n1, n2, n3, n4, z1] at z3
   all_goals
   obtain ⟨y_4, z4, h⟩ := bd_some h
   have fz4 := Fs_2 z4
   try simp only [go_sem, z1, z3] at fz4
   obtain ⟨z5, h⟩ := ck_some h
   try simp only [go_sem, n1, n2, n3, n4, z1, z3] at z5
   all_goals
   obtain rfl := so_some h
   refine ⟨0, fun L hL => ?_⟩
   simp only [go_sem, ir47, z1, fz2, z3, fz4, z5]
  ·try simp only [go_sem, n1, n2, n3, n4, z1] at z3
   all_goals
   obtain ⟨z6, h⟩ := ck_some h
   try simp only [go_sem, n1, n2, n3, n4, z1, z3] at z6
   all_goals
   obtain rfl := so_some h
   refine ⟨0, fun L hL => ?_⟩
   simp only [go_sem, ir47, z1, fz2, z3, z6]


def ir35_v : List Nat := [0, 1, 4]
def ir35 : AFn := ⟨2, 3, .seq (.region false [ VO 2 4 (.mov (.c (.bool false)))]) (.seq (.region false [ PM 5 0, PM 6 1, PO 7 (.call 47 [(.s 1), (.s 0)]), PO 8 (.bin false .eql (.s 0) (I6 0)), VS 2 4 0]) (.ret)), [.t 2]⟩
noncomputable def t_4 : List (Nat × Ctr) := [(47, c_3)]
theorem lk_4_47 : look t_4 47 = some c_3 := rfl
noncomputable def c_4 : Ctr := mkN t_4 ir35 [.io, .bor]
theorem s_4 : Sound Tryz.prog 35 c_4 := mkN_sound _ (snd_cons s_3 snd_nil) (by kernel_rfl : chkFn Tryz.prog 35 ir35 ir35_v = true)
theorem M_4 : c_4.modes = [.io, .bor] := rfl
theorem Fl_4 : c_4.flat = false := rfl
attribute [go_sem] M_4 Fl_4
attribute [go_sem] lk_4_47
theorem Fs_4 {s_ : L00Src} {n : Int} {y_ : Bool × L00Src} (h : spec_l00Src_one s_ n = some y_) : c_4.F [.mem 3 [L00Src_av s_] 0, .int .i64 n] = ⟨true, .bool y_.1, [.mem 3 [L00Src_av y_.2] 0, .any]⟩ := by
 refine mkN_E ?_
 dsimp only [spec_l00Src_one] at h
 obtain ⟨y_1, z1, h⟩ := bd_some h
 have fz1 := Fs_3 z1
 try simp only [go_sem] at fz1
 obtain rfl := so_some h
 refine ⟨0, fun L hL => ?_⟩
 simp only [go_sem, ir35, fz1]


def ir34_v : List Nat := [0, 1, 4, 5]
def ir34 : AFn := ⟨2, 4, .seq (.region false [ VO 2 4 (.alloc (.agg [.str [], .int .i64 (0), .int .i64 (0), .int .i64 (0), .int .i64 (0)]))]) (.seq (.region false [ PM 6 1, PM 7 0, PO 8 (.call 47 [(.s 0), (I6 60)]), PO 9 (.bin false .mul (I6 10) (.s 0)), PO 10 (.build [.str [], .int .i64 (0), .int .i64 (0), .int .i64 (0), .int .i64 (0)] [(0, 1, (.s 3)), (1, 1, (.s 0))]), VO 3 5 (.alloc (.agg [.str [], .int .i64 (0), .int .i64 (0), .int .i64 (0), .int .i64 (0)])), ⟨.no, 0, none, .store 5 (.v 3) (.s 0)⟩]) (.seq (.anyo 10 [ SO 0 11 (.fldAddr 1 (.v 3)), SO 1 12 (.load false 1 (.s 0)), SO 2 13 (.mov
 (.v 0)), SO 3 14 (.call 47 [(.s 2), (I6 30)]), SO 4 15 (.flat (.bin false .mul (I6 10) (.s 3))), SO 5 16 (.flat (.bin false .add (.s 1) (.s 4))), SO 6 17 (.mov (.v 0)), SO 7 18 (.call 47 [(.s 6), (I6 3)]), SO 8 19 (.flat (.bin false .add (.s 5) (.s 7))), SO 9 20 (.fldAddr 2 (.v 3)), ⟨.no, 0, none, .store 1 (.s 9) (.s 8)⟩] [[2, 0, 1, 3, 4, 5, 6, 7, 8, 9, 10], [2, 0, 1, 6, 3, 4, 5, 7, 8, 9, 10], [2, 0, 3, 4, 6, 1, 5, 7, 8, 9, 10], [2, 0, 3, 4, 6, 7, 1, 5, 8, 9, 10], [2, 0, 6, 1, 3, 4, 5, 7, 8, 9, 10], [2, 0, 6, 3, 4, 1, 5, 7, 8, 9, 10], [2, 0, 6, 3, 4, 7, 1, 5, 8, 9, 10], [2, 3, 4, 6, 0, 1, 5,
 7, 8, 9, 10], [2, 3, 4, 6, 0, 7, 1, 5, 8, 9, 10], [2, 3, 4, 6, 7, 0, 1, 5, 8, 9, 10], [2, 6, 0, 1, 3, 4, 5, 7, 8, 9, 10], [2, 6, 0, 3, 4, 1, 5, 7, 8, 9, 10], [2, 6, 0, 3, 4, 7, 1, 5, 8, 9, 10], [2, 6, 3, 4, 0, 1, 5, 7, 8, 9, 10], [2, 6, 3, 4, 0, 7, 1, 5, 8, 9, 10], [2, 6, 3, 4, 7, 0, 1, 5, 8, 9, 10]] .skip) (.seq (.region false [ PM 21 0, PO 22 (.call 47 [(.s 0), (I6 200)]), PO 23 (.bin false .add (I6 1) (.s 0)), PO 24 (.fldAddr 3 (.v 3)), ⟨.no, 0, none, .store 1 (.s 0) (.s 1)⟩]) (.seq (.region false [ PM 25 0, PO 26 (.call 47 [(.s 0), (I6 4)]), PO 27 (.fldAddr 4 (.v 3)), ⟨.no, 0, none, .store
 1 (.s 0) (.s 1)⟩]) (.seq (.region false [ PO 28 (.load true 5 (.v 3)), ⟨.no, 0, none, .store 5 (.v 2) (.s 0)⟩]) (.ret)))))), [.cell true 5 2]⟩
noncomputable def t_5 : List (Nat × Ctr) := [(47, c_3)]
theorem lk_5_47 : look t_5 47 = some c_3 := rfl
noncomputable def c_5 : Ctr := mkN t_5 ir34 [.io, .bor]
theorem s_5 : Sound Tryz.prog 34 c_5 := mkN_sound _ (snd_cons s_3 snd_nil) (by kernel_rfl : chkFn Tryz.prog 34 ir34 ir34_v = true)
theorem M_5 : c_5.modes = [.io, .bor] := rfl
theorem Fl_5 : c_5.flat = false := rfl
attribute [go_sem] M_5 Fl_5
attribute [go_sem] lk_5_47
theorem Fs_5 {s_ : L00Src} {name : List UInt8} {y_ : Volume × L00Src} (h : spec_l23New s_ name = some y_) : c_5.F [.mem 3 [L00Src_av s_] 0, .str name] = ⟨true, Volume_av y_.1, [.mem 3 [L00Src_av y_.2] 0, .any]⟩ := by
 refine mkN_E ?_
 dsimp only [spec_l23New] at h
 obtain ⟨y_1, z1, h⟩ := bd_some h
 have fz1 := Fs_3 z1
 try simp only [go_sem] at fz1
 obtain ⟨y_2, z2, h⟩ := bd_some h
 have fz2 := Fs_3 z2
 try simp only [go_sem] at fz2
 obtain ⟨y_3, z3, h⟩ := bd_some h
 have fz3 := Fs_3 z3
 try simp only [go_sem] at fz3
 obtain ⟨y_4, z4, h⟩ := bd_some h
 have fz4 := Fs_3 z4
 try simp only [go_sem] at fz4
 obtain ⟨y_5, z5, h⟩ := bd_some h
 have fz5 := Fs_3 z5
 try simp only [go_sem] at fz5
 obtain rfl := so_some h
 refine ⟨0, fun L hL => ?_⟩
 simp only [go_sem, ir34, fz1, fz2, fz3, fz4, fz5]


def ir46_v : List Nat := [0, 1, 4]
def ir46 : AFn := ⟨2, 3, .seq (.region false [ VO 2 4 (.mov (I6 0))]) (.seq (.region false [ PM 5 1, PM 6 0, PM 7 1, PO 8 (.len false (.s 0)), PO 9 (.call 47 [(.s 2), (.s 0)]), PO 10 (.ixAddr 1 (.s 4) (.s 0)), PO 11 (.load false 1 (.s 0)), VS 2 4 0]) (.ret)), [.t 2]⟩
noncomputable def t_6 : List (Nat × Ctr) := [(47, c_3)]
theorem lk_6_47 : look t_6 47 = some c_3 := rfl
noncomputable def c_6 : Ctr := mkN t_6 ir46 [.io, .bor]
theorem s_6 : Sound Tryz.prog 46 c_6 := mkN_sound _ (snd_cons s_3 snd_nil) (by kernel_rfl : chkFn Tryz.prog 46 ir46 ir46_v = true)
theorem M_6 : c_6.modes = [.io, .bor] := rfl
theorem Fl_6 : c_6.flat = false := rfl
attribute [go_sem] M_6 Fl_6
attribute [go_sem] lk_6_47
theorem Fs_6 {s_ : L00Src} {list : List Int} {y_ : Int × L00Src} (h : spec_l00Src_among s_ list = some y_) : c_6.F [.mem 3 [L00Src_av s_] 0, .sl 1 (List.map (AV.int .i64) list)] = ⟨true, .int .i64 y_.1, [.mem 3 [L00Src_av y_.2] 0, .any]⟩ := by
 refine mkN_E ?_
 dsimp only [spec_l00Src_among] at h
 obtain ⟨y_1, z1, h⟩ := bd_some h
 have fz1 := Fs_3 z1
 try simp only [go_sem] at fz1
 obtain ⟨z2, h⟩ := ck_some h
 have lz2 := ix_lt z2
 have xz2 := getD_mapD (AV.int .i64) list lz2
 try simp only [go_sem] at lz2
 try simp only [go_sem] at xz2
 try simp only [go_sem, n1, n2, n3, n4] at z2
 all_goals
 obtain rfl := so_some h
 refine ⟨0, fun L hL => ?_⟩
 simp only [go_sem, ir46, fz1, z2, lz2, xz2]


def ir67_v : List Nat := [0, 1, 4]
def ir67 : AFn := ⟨2, 3, .seq (.region false [ VO 2 4 (.mov (.c (.str [])))]) (.seq (.region false [ PM 5 1, PM 6 0, PM 7 1, PO 8 (.len false (.s 0)), PO 9 (.call 47 [(.s 2), (.s 0)]), PO 10 (.ixAddr 1 (.s 4) (.s 0)), PO 11 (.load false 1 (.s 0)), VS 2 4 0]) (.ret)), [.t 2]⟩
noncomputable def t_7 : List (Nat × Ctr) := [(47, c_3)]
theorem lk_7_47 : look t_7 47 = some c_3 := rfl
noncomputable def c_7 : Ctr := mkN t_7 ir67 [.io, .bor]
theorem s_7 : Sound Tryz.prog 67 c_7 := mkN_sound _ (snd_cons s_3 snd_nil) (by kernel_rfl : chkFn Tryz.prog 67 ir67 ir67_v = true)
theorem M_7 : c_7.modes = [.io, .bor] := rfl
theorem Fl_7 : c_7.flat = false := rfl
attribute [go_sem] M_7 Fl_7
attribute [go_sem] lk_7_47
theorem Fs_7 {s_ : L00Src} {list : List (List UInt8)} {y_ : (List UInt8) × L00Src} (h : spec_l00Src_text s_ list = some y_) : c_7.F [.mem 3 [L00Src_av s_] 0, .sl 1 (List.map AV.str list)] = ⟨true, .str y_.1, [.mem 3 [L00Src_av y_.2] 0, .any]⟩ := by
 refine mkN_E ?_
 dsimp only [spec_l00Src_text] at h
 obtain ⟨y_1, z1, h⟩ := bd_some h
 have fz1 := Fs_3 z1
 try simp only [go_sem] at fz1
 obtain ⟨z2, h⟩ := ck_some h
 have lz2 := ix_lt z2
 have xz2 := getD_mapD AV.str list lz2
 try simp only [go_sem] at lz2
 try simp only [go_sem] at xz2
 try simp only [go_sem, n1, n2, n3, n4] at z2
 all_goals
 obtain rfl := so_some h
 refine ⟨0, fun L hL => ?_⟩
 simp only [go_sem, ir67, fz1, z2, lz2, xz2]


def ir36_v : List Nat := [0, 1, 5]
def ir36 : AFn := ⟨2, 3, .seq (.region false [ PM 4 0, VO 2 5 (.call 47 [(.s 0), (I6 5)])]) (.block 0 (.test false [ PO 7 (.bin false .eql (.v 2) (I6 0)), PO 6 (.mov (.s 0))] (.s 0) (.region false [ PM 8 1, PM 9 0, PO 10 (.mkSl 1 (.str []) 3 [(0, (.c (.str []))), (1, (.c (.str [65]))), (2, (.c (.str [122, 122])))]), PO 11 (.call 67 [(.s 1), (.s 0)]), PO 12 (.nilck (.s 3)), PO 13 (.fldAddr 0 (.s 0)), ⟨.no, 0, none, .store 1 (.s 0) (.s 2)⟩]) (.test false [ PO 15 (.bin false .eql (.v 2) (I6 1)), PO 14 (.mov (.s 0))] (.s 0) (.anyo 15 [ SO 0 16 (.mov (.v 1)), SO 1 17 (.mov (.v 0)), SO 2 18 (.mov (.v
 1)), SO 3 19 (.nilck (.s 2)), SO 4 20 (.fldAddr 2 (.s 3)), SO 5 21 (.load false 1 (.s 4)), SO 6 22 (.mov (.v 1)), SO 7 23 (.nilck (.s 6)), SO 8 24 (.fldAddr 2 (.s 7)), SO 9 25 (.load false 1 (.s 8)), SO 10 26 (.bin false .add (.s 9) (I6 1)), SO 11 27 (.pur (.mkSl 1 (.int .i64 (0)) 4 [(0, (.c (.int .i64 (-1)))), (1, (I6 0)), (2, (.s 5)), (3, (.s 10))])), SO 12 28 (.call 46 [(.s 1), (.s 11)]), SO 13 29 (.nilck (.s 0)), SO 14 30 (.fldAddr 1 (.s 13)), ⟨.no, 0, none, .store 1 (.s 14) (.s 12)⟩] [[1, 2, 3, 4, 5, 6, 7, 8, 9, 10, 11, 0, 12, 13, 14, 15], [1, 2, 3, 4, 5, 6, 7, 8, 9, 10, 11, 12, 0, 13,
 14, 15]] .skip) (.test false [ PO 32 (.bin false .eql (.v 2) (I6 2)), PO 31 (.mov (.s 0))] (.s 0) (.region false [ PM 33 1, PM 34 0, PO 35 (.mkSl 1 (.int .i64 (0)) 3 [(0, (.c (.int .i64 (-1)))), (1, (I6 10000000)), (2, (I6 10000001))]), PO 36 (.call 46 [(.s 1), (.s 0)]), PO 37 (.nilck (.s 3)), PO 38 (.fldAddr 2 (.s 0)), ⟨.no, 0, none, .store 1 (.s 0) (.s 2)⟩]) (.test false [ PO 40 (.bin false .eql (.v 2) (I6 3)), PO 39 (.mov (.s 0))] (.s 0) (.region false [ PM 41 1, PM 42 0, PO 43 (.mkSl 1 (.int .i64 (0)) 5 [(0, (I6 0)), (1, (I6 1)), (2, (I6 1000000)), (3, (I6 1000001)), (4, (.c (.int .i64
 (-9223372036854775808))))]), PO 44 (.call 46 [(.s 1), (.s 0)]), PO 45 (.nilck (.s 3)), PO 46 (.fldAddr 3 (.s 0)), ⟨.no, 0, none, .store 1 (.s 0) (.s 2)⟩]) (.test false [ PO 48 (.bin false .eql (.v 2) (I6 4)), PO 47 (.mov (.s 0))] (.s 0) (.region false [ PM 49 1, PM 50 0, PO 51 (.mkSl 1 (.int .i64 (0)) 4 [(0, (.c (.int .i64 (-1)))), (1, (I6 0)), (2, (I6 5)), (3, (I6 6))]), PO 52 (.call 46 [(.s 1), (.s 0)]), PO 53 (.nilck (.s 3)), PO 54 (.fldAddr 4 (.s 0)), ⟨.no, 0, none, .store 1 (.s 0) (.s 2)⟩]) (.skip))))))), []⟩
noncomputable def t_8 : List (Nat × Ctr) := [(47, c_3), (67, c_7), (46, c_6)]
theorem lk_8_47 : look t_8 47 = some c_3 := rfl
theorem lk_8_67 : look t_8 67 = some c_7 := rfl
theorem lk_8_46 : look t_8 46 = some c_6 := rfl
noncomputable def c_8 : Ctr := mkN t_8 ir36 [.io, .io]
theorem s_8 : Sound Tryz.prog 36 c_8 := mkN_sound _ (snd_cons s_3 (snd_cons s_7 (snd_cons s_6 snd_nil))) (by kernel_rfl : chkFn Tryz.prog 36 ir36 ir36_v = true)
theorem M_8 : c_8.modes = [.io, .io] := rfl
theorem Fl_8 : c_8.flat = false := rfl
attribute [go_sem] M_8 Fl_8
attribute [go_sem] lk_8_47 lk_8_67 lk_8_46
theorem Fs_8 {s_ : L00Src} {x : Volume} {y_ : L00Src × Volume} (h : spec_l23Spoil s_ x = some y_) : c_8.F [.mem 3 [L00Src_av s_] 0, .mem 5 [Volume_av x] 0] = ⟨true, .cv undef, [.mem 3 [L00Src_av y_.1] 0, .mem 5 [Volume_av y_.2] 0]⟩ := by
 refine mkN_E ?_
 dsimp only [spec_l23Spoil] at h
 obtain ⟨y_1, z1, h⟩ := bd_some h
 have fz1 := Fs_3 z1
 try simp only [go_sem] at fz1
 rcases it_some h with ⟨z2, h⟩ | ⟨z2, h⟩
 ·try simp only [go_sem, n1, n2, n3, n4] at z2
  all_goals
  obtain ⟨y_3, z3, h⟩ := bd_some h
  have fz3 := Fs_7 z3
  try simp only [go_sem, z2] at fz3
  obtain rfl := so_some h
  refine ⟨0, fun L hL => ?_⟩
  simp only [go_sem, ir36, fz1, z2, fz3]
 ·try simp only [go_sem, n1, n2, n3, n4] at z2
  all_goals
  rcases it_some h with ⟨z4, h⟩ | ⟨z4, h⟩
  ·try simp only [go_sem, n1, n2, n3, n4, z2] at z4
   all_goals
   obtain ⟨y_5, z5, h⟩ := bd_some h
   have fz5 := Fs_6 z5
   try simp only [go_sem, z2, z4] at fz5
   obtain rfl := so_some h
   refine ⟨0, fun L hL => ?_⟩
   simp only [go_sem, ir36, fz1, z2, z4, fz5]
  ·try simp only [go_sem, n1, n2, n3, n4, z2] at z4
   all_goals
   rcases it_some h with ⟨z6, h⟩ | ⟨z6, h⟩
   ·try simp only [go_sem, n1, n2, n3, n4, z2, z4] at z6
    all_goals
    obtain ⟨y_7, z7, h⟩ := bd_some h
    have fz7 := Fs_6 z7
    try simp only [go_sem, z2, z4, z6] at fz7
    obtain rfl := so_some h
    refine ⟨0, fun L hL => ?_⟩
    simp only [go_sem, ir36, fz1, z2, z4, z6, fz7]
   ·try simp only [go_sem, n1, n2, n3, n4, z2, z4] at z6
    all_goals
    rcases it_some h with ⟨z8, h⟩ | ⟨z8, h⟩
    ·try simp only [go_sem, n1, n2, n3, n4, z2, z4, z6] at z8
     all_goals
     obtain ⟨y_9, z9, h⟩ := bd_some h
     have fz9 := Fs_6 z9
     try simp only [go_sem, z2, z4, z6, z8] at fz9
     obtain rfl := so_some h
     refine ⟨0, fun L hL => ?_⟩
     simp only [go_sem, ir36, fz1, z2, z4, z6, z8, fz9]
    ·try simp only [go_sem, n1, n2, n3, n4, z2, z4, z6] at z8
     all_goals
     rcases it_some h with ⟨z10, h⟩ | ⟨z10, h⟩
     ·try simp only [go_sem, n1, n2, n3, n4, z2, z4, z6, z8] at z10
      all_goals
      obtain ⟨y_11, z11, h⟩ := bd_some h
      have fz11 := Fs_6 z11
      try simp only [go_sem, z2, z4, z6, z8, z10] at fz11
      obtain rfl := so_some h
      refine ⟨0, fun L hL => ?_⟩
      simp only [go_sem, ir36, fz1, z2, z4, z6, z8, z10, fz11]
     ·try simp only [go_sem, n1, n2, n3, n4, z2, z4, z6, z8] at z10
      all_goals
      obtain rfl := so_some h
      refine ⟨0, fun L hL => ?_⟩
      simp only [go_sem, ir36, fz1, z2, z4, z6, z8, z10]


noncomputable def t_9 : List (Nat × Ctr) := [(47, c_3), (67, c_7), (46, c_6)]
theorem lk_9_47 : look t_9 47 = some c_3 := rfl
theorem lk_9_67 : look t_9 67 = some c_7 := rfl
theorem lk_9_46 : look t_9 46 = some c_6 := rfl
noncomputable def c_9 : Ctr := mkN t_9 ir36 [.io, .io]
theorem s_9 : Sound Tryz.prog 36 c_9 := mkN_sound _ (snd_cons s_3 (snd_cons s_7 (snd_cons s_6 snd_nil))) (by kernel_rfl : chkFn Tryz.prog 36 ir36 ir36_v = true)
theorem M_9 : c_9.modes = [.io, .io] := rfl
theorem Fl_9 : c_9.flat = false := rfl
attribute [go_sem] M_9 Fl_9
attribute [go_sem] lk_9_47 lk_9_67 lk_9_46
theorem Fs_9 {s_ : L00Src} {x : List Volume} {x_ix : Int} {y_ : L00Src × (List Volume)} (h : spec_l23Spoil_ix1 s_ x x_ix = some y_) : c_9.F [.mem 3 [L00Src_av s_] 0, .mem 5 (List.map Volume_av x) x_ix.toNat] = ⟨true, .cv undef, [.mem 3 [L00Src_av y_.1] 0, .mem 5 (List.map Volume_av y_.2) 0]⟩ := by
 refine mkN_E ?_
 dsimp only [spec_l23Spoil_ix1] at h
 obtain ⟨z1, h⟩ := ck_some h
 have lz1 := ix_lt z1
 have xz1 := getD_mapD Volume_av x lz1
 try simp only [go_sem] at lz1
 try simp only [go_sem] at xz1
 try simp only [go_sem, n1, n2, n3, n4] at z1
 all_goals
 obtain ⟨y_2, z2, h⟩ := bd_some h
 have fz2 := Fs_3 z2
 try simp only [go_sem, z1] at fz2
 rcases it_some h with ⟨z3, h⟩ | ⟨z3, h⟩
 ·try simp only [go_sem, n1, n2, n3, n4, z1] at z3
  all_goals
  obtain ⟨y_4, z4, h⟩ := bd_some h
  have fz4 := Fs_7 z4
  try simp only [go_sem, z1, z3] at fz4
  obtain ⟨z5, h⟩ := ck_some h
  try simp only [go_sem, n1, n2, n3, n4, z1, z3] at z5
  all_goals
  obtain rfl := so_some h
  refine ⟨0, fun L hL => ?_⟩
  simp only [go_sem, ir36, z1, lz1, xz1, fz2, z3, fz4, z5]
 ·try simp only [go_sem, n1, n2, n3, n4, z1] at z3
  all_goals
  rcases it_some h with ⟨z6, h⟩ | ⟨z6, h⟩
  ·try simp only [go_sem, n1, n2, n3, n4, z1, z3] at z6
   all_goals
   obtain ⟨y_7, z7, h⟩ := bd_some h
   have fz7 := Fs_6 z7
   try simp only [go_sem, z1, z3, z6] at fz7
   obtain ⟨z8, h⟩ := ck_some h
   try simp only [go_sem, n1, n2, n3, n4, z1, z3, z6] at z8
   all_goals
   obtain rfl := so_some h
   refine ⟨0, fun L hL => ?_⟩
   simp only [go_sem, ir36, z1, lz1, xz1, fz2, z3, z6, fz7, z8]
  ·try simp only [go_sem, n1, n2, n3, n4, z1, z3] at z6
   all_goals
   rcases it_some h with ⟨z9, h⟩ | ⟨z9, h⟩
   ·try simp only [go_sem, n1, n2, n3, n4, z1, z3, z6] at z9
    all_goals
    obtain ⟨y_10, z10, h⟩ := bd_some h
    have fz10 := Fs_6 z10
    try simp only [go_sem, z1, z3, z6, z9] at fz10
    obtain ⟨z11, h⟩ := ck_some h
    try simp only [go_sem, n1, n2, n3, n4, z1, z3, z6, z9] at z11
    all_goals
    obtain rfl := so_some h
    refine ⟨0, fun L hL => ?_⟩
    simp only [go_sem, ir36, z1, lz1, xz1, fz2, z3, z6, z9, fz10, z11]
   ·try simp only [go_sem, n1, n2, n3, n4, z1, z3, z6] at z9
    all_goals
    rcases it_some h with ⟨z12, h⟩ | ⟨z12, h⟩
    ·try simp only [go_sem, n1, n2, n3, n4, z1, z3, z6, z9] at z12
     all_goals
     obtain ⟨y_13, z13, h⟩ := bd_some h
     have fz13 := Fs_6 z13
     try simp only [go_sem, z1, z3, z6, z9, z12] at fz13
     obtain ⟨z14, h⟩ := ck_some h
     try simp only [go_sem, n1, n2, n3, n4, z1, z3, z6, z9, z12] at z14
     all_goals
     obtain rfl := so_some h
     refine ⟨0, fun L hL => ?_⟩
     simp only [go_sem, ir36, z1, lz1, xz1, fz2, z3, z6, z9, z12, fz13, z14]
    ·try simp only [go_sem, n1, n2, n3, n4, z1, z3, z6, z9] at z12
     all_goals
     rcases it_some h with ⟨z15, h⟩ | ⟨z15, h⟩
     ·try simp only [go_sem, n1, n2, n3, n4, z1, z3, z6, z9, z12] at z15
      all_goals
      obtain ⟨y_16, z16, h⟩ := bd_some h
      have fz16 := Fs_6 z16
      try simp only [go_sem, z1, z3, z6, z9, z12, z15] at fz16
      obtain ⟨z17, h⟩ := ck_some h
      try simp only [go_sem, n1, n2, n3, n4, z1, z3, z6, z9, z12, z15] at z17
      all_goals
      obtain rfl := so_some h
      refine ⟨0, fun L hL => ?_⟩
      simp only [go_sem, ir36, z1, lz1, xz1, fz2, z3, z6, z9, z12, z15, fz16, z17]
     ·try simp only [go_sem, n1, n2, n3, n4, z1, z3, z6, z9, z12] at z15
      all_goals
      obtain rfl := so_some h
      refine ⟨0, fun L hL => ?_⟩
      simp only [go_sem, ir36, z1, lz1, xz1, fz2, z3, z6, z9, z12, z15]


def ir32_b0 : IR := .seq (.test false [ PM 10 4, PM 11 2, PO 12 (.len false (.s 0)), PO 13 (.bin false .lss (.s 2) (.s 0))] (.s 0) (.skip) (.exit 0)) (.seq (.block 1 (.test false [ PM 16 0, PO 17 (.call 35 [(.s 0), (I6 3)]), PO 18 (.un .not (.s 0))] (.s 0) (.region false [ PM 19 3, PM 20 0, PM 21 2, PM 22 4, PO 23 (.ixAddr 1 (.s 1) (.s 0)), PO 24 (.load false 1 (.s 0)), PO 25 (.call 34 [(.s 4), (.s 0)]), PO 26 (.mkSl 5 (.agg [.str [], .int .i64 (0), .int .i64 (0), .int .i64 (0), .int .i64 (0)]) 1 [(0, (.s 0))]), PO 27 (.app 5 48 (.agg [.str [], .int .i64 (0), .int .i64 (0), .int .i64 (0), .int
 .i64 (0)]) (.s 7) (.s 0)), VS 3 4 0]) (.skip))) (.region false [ PM 14 4, PO 15 (.bin false .add (.s 0) (I6 1)), VS 4 5 0]))
def ir32_k0 : List Bool := [true, false, true, true, true, false, false]
def ir32_o0 : List Bool := [true, false, false, true, false, false, false]
def ir32_r0 : List Bool := [true, true, false, false, false, false, false]
def ir32_b1 : IR := .seq (.test false [ PM 34 5, PO 35 (.bin false .gtr (.s 0) (I6 0))] (.s 0) (.skip) (.exit 2)) (.seq (.block 3 (.seq (.region false [ PM 38 3, PO 39 (.len false (.s 0)), VS 6 7 0]) (.region false [ PM 40 3, PM 41 6, PO 42 (.bin false .quo (.s 0) (I6 26)), PO 43 (.bin false .add (I6 97) (.s 0)), PO 44 (.conv .u8 (.s 0)), PM 45 6, PO 46 (.bin false .rem (.s 0) (I6 26)), PO 47 (.bin false .add (I6 97) (.s 0)), PO 48 (.conv .u8 (.s 0)), PO 49 (.mkSl 1 (.int .u8 (0)) 2 [(0, (.s 4)), (1, (.s 0))]), PO 50 (.b2s (.s 0)), PO 51 (.bin false .add (.c (.str [118])) (.s 0)), PM 52 6, PO
 53 (.bin false .mul (I6 20) (.s 0)), PM 54 6, PO 55 (.bin false .mul (I6 20) (.s 0)), PO 56 (.bin false .add (.s 0) (I6 5)), PO 57 (.build [.str [], .int .i64 (0), .int .i64 (0), .int .i64 (0), .int .i64 (0)] [(0, 1, (.s 5)), (1, 1, (.s 3)), (2, 1, (.s 0)), (3, 1, (I6 1)), (4, 1, (I6 1))]), PO 58 (.mkSl 5 (.agg [.str [], .int .i64 (0), .int .i64 (0), .int .i64 (0), .int .i64 (0)]) 1 [(0, (.s 0))]), PO 59 (.app 5 48 (.agg [.str [], .int .i64 (0), .int .i64 (0), .int .i64 (0), .int .i64 (0)]) (.s 18) (.s 0)), VS 3 4 0]))) (.region false [ PM 36 5, PO 37 (.bin false .sub (.s 0) (I6 1)), VS 5 6
 0]))
def ir32_k1 : List Bool := [true, false, false, true, false, true, false]
def ir32_o1 : List Bool := [true, false, false, true, false, false, false]
def ir32_r1 : List Bool := [true, true, false, false, false, false, false]
def ir32_v : List Nat := [0, 2, 3, 4, 5, 6, 7]
def ir32 : AFn := ⟨1, 7, .seq (.region false [ VO 1 2 (.newnil 5)]) (.seq (.region false [ PO 8 (.mkSl 1 (.str []) 7 [(0, (.c (.str [97]))), (1, (.c (.str [98]))), (2, (.c (.str [99, 45, 49]))), (3, (.c (.str [100]))), (4, (.c (.str [101]))), (5, (.c (.str [102]))), (6, (.c (.str [103])))]), VS 2 3 0]) (.seq (.region false [ PO 9 (.mkSl 5 (.agg [.str [], .int .i64 (0), .int .i64 (0), .int .i64 (0), .int .i64 (0)]) 0 []), VS 3 4 0]) (.seq (.seq (.region false [ VO 4 5 (.mov (I6 0))]) (.block 0 (.loop ir32_k0 ir32_o0 ir32_r0 ir32_b0))) (.seq (.test false [ PM 28 0, PO 29 (.call 35 [(.s 0), (I6
 20)])] (.s 0) (.seq (.region false [ PO 30 (.mkSl 5 (.agg [.str [], .int .i64 (0), .int .i64 (0), .int .i64 (0), .int .i64 (0)]) 0 []), VS 3 4 0]) (.seq (.region false [ PM 31 0, PO 32 (.call 47 [(.s 0), (I6 2)]), PO 33 (.bin false .add (I6 40) (.s 0)), VS 5 6 0]) (.block 2 (.loop ir32_k1 ir32_o1 ir32_r1 ir32_b1)))) (.skip)) (.seq (.test false [ PM 60 3, PO 61 (.len false (.s 0)), PO 62 (.bin false .gtr (.s 0) (I6 0)), PO 63 (.mov (.s 0)), ⟨.push, 64, (some ((.s 0), true)), .mov (.v 0)⟩, ⟨.push, 65, (some ((.s 1), true)), .callw 35 [(.s 0), (I6 10)]⟩, PO 66 (.pick (.s 2) (.s 0) (.c (.bool
 false)))] (.s 0) (.region false [ PM 67 0, PM 68 3, PM 69 0, PM 70 3, PO 71 (.len false (.s 0)), PO 72 (.call 47 [(.s 2), (.s 0)]), PO 73 (.ixAddr 5 (.s 4) (.s 0)), PO 74 (.call 36 [(.s 6), (.s 0)])]) (.skip)) (.seq (.region false [ PM 75 3, VS 1 2 0]) (.ret))))))), [.t 1]⟩
noncomputable def t_10 : List (Nat × Ctr) := [(35, c_4), (34, c_5), (47, c_3), (36, c_9)]
theorem lk_10_35 : look t_10 35 = some c_4 := rfl
theorem lk_10_34 : look t_10 34 = some c_5 := rfl
theorem lk_10_47 : look t_10 47 = some c_3 := rfl
theorem lk_10_36 : look t_10 36 = some c_9 := rfl
noncomputable def c_10 : Ctr := mkN t_10 ir32 [.io]
theorem s_10 : Sound Tryz.prog 32 c_10 := mkN_sound _ (snd_cons s_4 (snd_cons s_5 (snd_cons s_3 (snd_cons s_9 snd_nil)))) (by kernel_rfl : chkFn Tryz.prog 32 ir32 ir32_v = true)
theorem M_10 : c_10.modes = [.io] := rfl
theorem Fl_10 : c_10.flat = false := rfl
attribute [go_sem] M_10 Fl_10
attribute [go_sem] lk_10_35 lk_10_34 lk_10_47 lk_10_36
def E_10_l1 (names : List (List UInt8)) : (L00Src × (List Volume) × Int) → St
 | (s_, list, k) => ⟨[.ref 31 0 0, .any, .own 3200032, .own 3200064, .int .i64 k, .any, .any], [], [(31, ⟨3, [L00Src_av s_]⟩), (3200032, ⟨1, List.map AV.str names⟩), (3200064, ⟨5, List.map Volume_av list⟩)], true⟩
def R_10_l1 (names : List (List UInt8)) (y : L00Src × (List Volume)) : Res := (.exit 0, ⟨[.ref 31 0 0, .any, .any, .own 3200032, .any, .any, .any], [], [(31, ⟨3, [L00Src_av y.1]⟩), (3200032, ⟨5, List.map Volume_av y.2⟩)], true⟩)
theorem spec_l23Bent_l1_ex {names : List (List UInt8)} {sgm_ : L00Src × (List Volume) × Int} {rho_ : L00Src × (List Volume)} (h : whileE (spec_l23Bent_l1 names) sgm_ = some rho_) : ∃ L0, ∀ L, L0 ≤ L → iter (exec (look t_10) L ir32_b0) ir32_k0 ir32_o0 ir32_r0 L (E_10_l1 names sgm_) = R_10_l1 names rho_ := by
 refine loop_ex (E := E_10_l1 names) (R := R_10_l1 names) (fun y => by first | (intro c; cases c) | (rcases y with y | y <;> (intro c; cases c)) | (rcases y with y | y | y <;> (intro c; cases c))) ?_ h
 clear h
 rintro ⟨s_, list, k⟩ o_ h
 dsimp only [spec_l23Bent_l1] at h
 rcases it_some h with ⟨z1, h⟩ | ⟨z1, h⟩
 ·try simp only [go_sem, n1, n2, n3, n4] at z1
  all_goals
  obtain ⟨y_2, z2, h⟩ := bd_some h
  have fz2 := Fs_4 z2
  try simp only [go_sem, z1] at fz2
  rcases it_some h with ⟨z3, h⟩ | ⟨z3, h⟩
  ·try simp only [go_sem, n1, n2, n3, n4, z1] at z3
   all_goals
   obtain ⟨z4, h⟩ := ck_some h
   have lz4 := ix_lt z4
   have xz4 := getD_mapD AV.str names lz4
   try simp only [go_sem] at lz4
   try simp only [go_sem] at xz4
   try simp only [go_sem, n1, n2, n3, n4, z1, z3] at z4
   all_goals
   obtain ⟨y_5, z5, h⟩ := bd_some h
   have fz5 := Fs_5 z5
   try simp only [go_sem, z1, z3, z4] at fz5
   obtain ⟨z6, h⟩ := ck_some h
   try simp only [go_sem, n1, n2, n3, n4, z1, z3, z4] at z6
   all_goals
   obtain rfl := so_some h
   refine ⟨0, fun L hL => ?_⟩
   simp only [go_sem, ir32, E_10_l1, R_10_l1, ir32_b0, ir32_k0, ir32_o0, ir32_r0, z1, fz2, z3, z4, lz4, xz4, fz5, z6]
  ·try simp only [go_sem, n1, n2, n3, n4, z1] at z3
   all_goals
   obtain rfl := so_some h
   refine ⟨0, fun L hL => ?_⟩
   simp only [go_sem, ir32, E_10_l1, R_10_l1, ir32_b0, ir32_k0, ir32_o0, ir32_r0, z1, fz2, z3]
 ·try simp only [go_sem, n1, n2, n3, n4] at z1
  all_goals
  obtain rfl := so_some h
  refine ⟨0, fun L hL => ?_⟩
  simp only [go_sem, ir32, E_10_l1, R_10_l1, ir32_b0, ir32_k0, ir32_o0, ir32_r0, z1]

def E_10_l2 (s_ : L00Src) : ((List Volume) × Int) → St
 | (list, k) => ⟨[.ref 31 0 0, .any, .any, .own 3200032, .any, .int .i64 k, .any], [], [(31, ⟨3, [L00Src_av s_]⟩), (3200032, ⟨5, List.map Volume_av list⟩)], true⟩
def R_10_l2 (s_ : L00Src) (y : (List Volume)) : Res := (.exit 2, ⟨[.ref 31 0 0, .any, .any, .own 3200032, .any, .any, .any], [], [(31, ⟨3, [L00Src_av s_]⟩), (3200032, ⟨5, List.map Volume_av y⟩)], true⟩)
theorem spec_l23Bent_l2_ex {s_ : L00Src} {sgm_ : (List Volume) × Int} {rho_ : (List Volume)} (h : whileE (spec_l23Bent_l2 s_) sgm_ = some rho_) : ∃ L0, ∀ L, L0 ≤ L → iter (exec (look t_10) L ir32_b1) ir32_k1 ir32_o1 ir32_r1 L (E_10_l2 s_ sgm_) = R_10_l2 s_ rho_ := by
 refine loop_ex (E := E_10_l2 s_) (R := R_10_l2 s_) (fun y => by first | (intro c; cases c) | (rcases y with y | y <;> (intro c; cases c)) | (rcases y with y | y | y <;> (intro c; cases c))) ?_ h
 clear h
 rintro ⟨list, k⟩ o_ h
 dsimp only [spec_l23Bent_l2] at h
 rcases it_some h with ⟨z11, h⟩ | ⟨z11, h⟩
 ·try simp only [go_sem, n1, n2, n3, n4] at z11
  all_goals
  obtain ⟨z12, h⟩ := ck_some h
  try simp only [go_sem, n1, n2, n3, n4, z11] at z12
  all_goals
  obtain ⟨z13, h⟩ := ck_some h
  try simp only [go_sem, n1, n2, n3, n4, z11, z12] at z13
  all_goals
  obtain ⟨z14, h⟩ := ck_some h
  try simp only [go_sem, n1, n2, n3, n4, z11, z12, z13] at z14
  all_goals
  obtain rfl := so_some h
  refine ⟨0, fun L hL => ?_⟩
  simp only [go_sem, ir32, E_10_l2, R_10_l2, ir32_b1, ir32_k1, ir32_o1, ir32_r1, E_10_l1, R_10_l1, ir32_k0, ir32_o0, ir32_r0, z11, z12, z13, z14]
 ·try simp only [go_sem, n1, n2, n3, n4] at z11
  all_goals
  obtain rfl := so_some h
  refine ⟨0, fun L hL => ?_⟩
  simp only [go_sem, ir32, E_10_l2, R_10_l2, ir32_b1, ir32_k1, ir32_o1, ir32_r1, E_10_l1, R_10_l1, ir32_k0, ir32_o0, ir32_r0, z11]

theorem Fs_10 {s_ : L00Src} {y_ : (List Volume) × L00Src} (h : spec_l23Bent s_ = some y_) : c_10.F [.mem 3 [L00Src_av s_] 0] = ⟨true, .fresh 5 (List.map Volume_av y_.1), [.mem 3 [L00Src_av y_.2] 0]⟩ := by
 refine mkN_E ?_
 dsimp only [spec_l23Bent] at h
 obtain ⟨y_7, z7, h⟩ := bd_some h
 obtain ⟨Lz7, ez7⟩ := spec_l23Bent_l1_ex z7
 obtain ⟨y_8, z8, h⟩ := bd_some h
 have fz8 := Fs_4 z8
 try simp only [go_sem] at fz8
 rcases it_some h with ⟨z9, h⟩ | ⟨z9, h⟩
 ·try simp only [go_sem, n1, n2, n3, n4] at z9
  all_goals
  obtain ⟨y_10, z10, h⟩ := bd_some h
  have fz10 := Fs_3 z10
  try simp only [go_sem, z9] at fz10
  obtain ⟨y_15, z15, h⟩ := bd_some h
  obtain ⟨Lz15, ez15⟩ := spec_l23Bent_l2_ex z15
  rcases it_some h with ⟨z16, h⟩ | ⟨z16, h⟩
  ·try simp only [go_sem, n1, n2, n3, n4, z9] at z16
   all_goals
   obtain ⟨y_17, z17, h⟩ := bd_some h
   have fz17 := Fs_4 z17
   try simp only [go_sem, z9, z16] at fz17
   rcases it_some h with ⟨z18, h⟩ | ⟨z18, h⟩
   ·try simp only [go_sem, n1, n2, n3, n4, z9, z16] at z18
    all_goals
    obtain ⟨y_19, z19, h⟩ := bd_some h
    have fz19 := Fs_3 z19
    try simp only [go_sem, z9, z16, z18] at fz19
    obtain ⟨z20, h⟩ := ck_some h
    have lz20 := ix_lt z20
    have xz20 := getD_mapD Volume_av y_15 lz20
    try simp only [go_sem] at lz20
    try simp only [go_sem] at xz20
    try simp only [go_sem, n1, n2, n3, n4, z9, z16, z18] at z20
    all_goals
    obtain ⟨y_21, z21, h⟩ := bd_some h
    have fz21 := Fs_9 z21
    try simp only [go_sem, z9, z16, z18, z20] at fz21
    obtain rfl := so_some h
    refine ⟨Lz7 + Lz15, fun L hL => ?_⟩
    have ez7 := ez7 L (by omega)
    have ez15 := ez15 L (by omega)
    try simp only [go_sem, E_10_l1, R_10_l1, ir32_k0, ir32_o0, ir32_r0, E_10_l2, R_10_l2, ir32_k1, ir32_o1, ir32_r1, z9, z16, z18, z20] at ez7
    try simp only [go_sem, E_10_l1, R_10_l1, ir32_k0, ir32_o0, ir32_r0, E_10_l2, R_10_l2, ir32_k1, ir32_o1, ir32_r1, z9, z16, z18, z20] at ez15
    simp only [go_sem, ir32, E_10_l1, R_10_l1, ir32_k0, ir32_o0, ir32_r0, E_10_l2, R_10_l2, ir32_k1, ir32_o1, ir32_r1, fz8, z9, fz10, z16, fz17, z18, fz19, z20, lz20, xz20, fz21, ez7, ez15]
   ·try simp only [go_sem, n1, n2, n3, n4, z9, z16] at z18
    all_goals
    obtain rfl := so_some h
    refine ⟨Lz7 + Lz15, fun L hL => ?_⟩
    have ez7 := ez7 L (by omega)
    have ez15 := ez15 L (by omega)
    try simp only [go_sem, E_10_l1, R_10_l1, ir32_k0, ir32_o0, ir32_r0, E_10_l2, R_10_l2, ir32_k1, ir32_o1, ir32_r1, z9, z16, z18] at ez7
    try simp only [go_sem, E_10_l1, R_10_l1, ir32_k0, ir32_o0, ir32_r0, E_10_l2, R_10_l2, ir32_k1, ir32_o1, ir32_r1, z9, z16, z18] at ez15
    simp only [go_sem, ir32, E_10_l1, R_10_l1, ir32_k0, ir32_o0, ir32_r0, E_10_l2, R_10_l2, ir32_k1, ir32_o1, ir32_r1, fz8, z9, fz10, z16, fz17, z18, ez7, ez15]
  ·try simp only [go_sem, n1, n2, n3, n4, z9] at z16
   all_goals
   obtain rfl := so_some h
   refine ⟨Lz7 + Lz15, fun L hL => ?_⟩
   have ez7 := ez7 L (by omega)
   have ez15 := ez15 L (by omega)
   try simp only [go_sem, E_10_l1, R_10_l1, ir32_k0, ir32_o0, ir32_r0, E_10_l2, R_10_l2, ir32_k1, ir32_o1, ir32_r1, z9, z16] at ez7
   try simp only [go_sem, E_10_l1, R_10_l1, ir32_k0, ir32_o0, ir32_r0, E_10_l2, R_10_l2, ir32_k1, ir32_o1, ir32_r1, z9, z16] at ez15
   simp only [go_sem, ir32, E_10_l1, R_10_l1, ir32_k0, ir32_o0, ir32_r0, E_10_l2, R_10_l2, ir32_k1, ir32_o1, ir32_r1, fz8, z9, fz10, z16, ez7, ez15]
 ·try simp only [go_sem, n1, n2, n3, n4] at z9
  all_goals
  rcases it_some h with ⟨z22, h⟩ | ⟨z22, h⟩
  ·try simp only [go_sem, n1, n2, n3, n4, z9] at z22
   all_goals
   obtain ⟨y_23, z23, h⟩ := bd_some h
   have fz23 := Fs_4 z23
   try simp only [go_sem, z9, z22] at fz23
   rcases it_some h with ⟨z24, h⟩ | ⟨z24, h⟩
   ·try simp only [go_sem, n1, n2, n3, n4, z9, z22] at z24
    all_goals
    obtain ⟨y_25, z25, h⟩ := bd_some h
    have fz25 := Fs_3 z25
    try simp only [go_sem, z9, z22, z24] at fz25
    obtain ⟨z26, h⟩ := ck_some h
    have lz26 := ix_lt z26
    have xz26 := getD_mapD Volume_av y_7.2 lz26
    try simp only [go_sem] at lz26
    try simp only [go_sem] at xz26
    try simp only [go_sem, n1, n2, n3, n4, z9, z22, z24] at z26
    all_goals
    obtain ⟨y_27, z27, h⟩ := bd_some h
    have fz27 := Fs_9 z27
    try simp only [go_sem, z9, z22, z24, z26] at fz27
    obtain rfl := so_some h
    refine ⟨Lz7, fun L hL => ?_⟩
    have ez7 := ez7 L (by omega)
    try simp only [go_sem, E_10_l1, R_10_l1, ir32_k0, ir32_o0, ir32_r0, E_10_l2, R_10_l2, ir32_k1, ir32_o1, ir32_r1, z9, z22, z24, z26] at ez7
    simp only [go_sem, ir32, E_10_l1, R_10_l1, ir32_k0, ir32_o0, ir32_r0, E_10_l2, R_10_l2, ir32_k1, ir32_o1, ir32_r1, fz8, z9, z22, fz23, z24, fz25, z26, lz26, xz26, fz27, ez7]
   ·try simp only [go_sem, n1, n2, n3, n4, z9, z22] at z24
    all_goals
    obtain rfl := so_some h
    refine ⟨Lz7, fun L hL => ?_⟩
    have ez7 := ez7 L (by omega)
    try simp only [go_sem, E_10_l1, R_10_l1, ir32_k0, ir32_o0, ir32_r0, E_10_l2, R_10_l2, ir32_k1, ir32_o1, ir32_r1, z9, z22, z24] at ez7
    simp only [go_sem, ir32, E_10_l1, R_10_l1, ir32_k0, ir32_o0, ir32_r0, E_10_l2, R_10_l2, ir32_k1, ir32_o1, ir32_r1, fz8, z9, z22, fz23, z24, ez7]
  ·try simp only [go_sem, n1, n2, n3, n4, z9] at z22
   all_goals
   obtain rfl := so_some h
   refine ⟨Lz7, fun L hL => ?_⟩
   have ez7 := ez7 L (by omega)
   try simp only [go_sem, E_10_l1, R_10_l1, ir32_k0, ir32_o0, ir32_r0, E_10_l2, R_10_l2, ir32_k1, ir32_o1, ir32_r1, z9, z22] at ez7
   simp only [go_sem, ir32, E_10_l1, R_10_l1, ir32_k0, ir32_o0, ir32_r0, E_10_l2, R_10_l2, ir32_k1, ir32_o1, ir32_r1, fz8, z9, z22, ez7]


def ir33_v : List Nat := [0, 2]
def ir33 : AFn := ⟨1, 2, .seq (.region false [ VO 1 2 (.mov (.c (.str [])))]) (.seq (.region false [ PM 3 0, PO 4 (.mkSl 1 (.str []) 8 [(0, (.c (.str [97]))), (1, (.c (.str [98]))), (2, (.c (.str [99, 45, 49]))), (3, (.c (.str [100]))), (4, (.c (.str [101]))), (5, (.c (.str [102]))), (6, (.c (.str [110, 101, 119]))), (7, (.c (.str [])))]), PO 5 (.call 67 [(.s 1), (.s 0)]), VS 1 2 0]) (.ret)), [.t 1]⟩
noncomputable def t_11 : List (Nat × Ctr) := [(67, c_7)]
theorem lk_11_67 : look t_11 67 = some c_7 := rfl
noncomputable def c_11 : Ctr := mkN t_11 ir33 [.io]
theorem s_11 : Sound Tryz.prog 33 c_11 := mkN_sound _ (snd_cons s_7 snd_nil) (by kernel_rfl : chkFn Tryz.prog 33 ir33 ir33_v = true)
theorem M_11 : c_11.modes = [.io] := rfl
theorem Fl_11 : c_11.flat = false := rfl
attribute [go_sem] M_11 Fl_11
attribute [go_sem] lk_11_67
theorem Fs_11 {s_ : L00Src} {y_ : (List UInt8) × L00Src} (h : spec_l23Name s_ = some y_) : c_11.F [.mem 3 [L00Src_av s_] 0] = ⟨true, .str y_.1, [.mem 3 [L00Src_av y_.2] 0]⟩ := by
 refine mkN_E ?_
 dsimp only [spec_l23Name] at h
 obtain ⟨y_1, z1, h⟩ := bd_some h
 have fz1 := Fs_7 z1
 try simp only [go_sem] at fz1
 obtain rfl := so_some h
 refine ⟨0, fun L hL => ?_⟩
 simp only [go_sem, ir33, fz1]


def ir5_v : List Nat := [0, 2, 3, 4, 5, 6, 7]
def ir5 : AFn := ⟨1, 7, .seq (.region false [ VO 1 2 (.newnil 5), VO 2 3 (.alloc (.agg [.str [], .int .i64 (0), .int .i64 (0), .int .i64 (0), .int .i64 (0)]))]) (.seq (.region false [ PM 8 0, PO 9 (.call 31 [(.s 0)]), VS 3 4 0]) (.seq (.region false [ PM 10 3, PO 11 (.call 32 [(.s 0)]), VS 4 5 0]) (.seq (.region false [ PM 12 3, PO 13 (.call 33 [(.s 0)]), VS 5 6 0]) (.seq (.region false [ PM 14 3, PM 15 5, PO 16 (.call 34 [(.s 1), (.s 0)]), VO 6 7 (.alloc (.agg [.str [], .int .i64 (0), .int .i64 (0), .int .i64 (0), .int .i64 (0)])), ⟨.no, 0, none, .store 5 (.v 6) (.s 0)⟩]) (.seq (.test false [
 PM 17 3, PO 18 (.call 35 [(.s 0), (I6 8)])] (.s 0) (.region false [ PM 19 3, PO 20 (.call 36 [(.s 0), (.v 6)])]) (.skip)) (.seq (.anyo 2 [ SO 0 21 (.mov (.v 4)), SO 1 22 (.load true 5 (.v 6)), VS 1 2 0, ⟨.no, 0, none, .store 5 (.v 2) (.s 1)⟩] [] .skip) (.ret))))))), [.t 1, .cell true 5 2]⟩
noncomputable def t_12 : List (Nat × Ctr) := [(31, c_1), (32, c_10), (33, c_11), (34, c_5), (35, c_4), (36, c_8)]
theorem lk_12_31 : look t_12 31 = some c_1 := rfl
theorem lk_12_32 : look t_12 32 = some c_10 := rfl
theorem lk_12_33 : look t_12 33 = some c_11 := rfl
theorem lk_12_34 : look t_12 34 = some c_5 := rfl
theorem lk_12_35 : look t_12 35 = some c_4 := rfl
theorem lk_12_36 : look t_12 36 = some c_8 := rfl
noncomputable def c_12 : Ctr := mkN t_12 ir5 [.bor]
theorem s_12 : Sound Tryz.prog 5 c_12 := mkN_sound _ (snd_cons s_1 (snd_cons s_10 (snd_cons s_11 (snd_cons s_5 (snd_cons s_4 (snd_cons s_8 snd_nil)))))) (by kernel_rfl : chkFn Tryz.prog 5 ir5 ir5_v = true)
theorem M_12 : c_12.modes = [.bor] := rfl
theorem Fl_12 : c_12.flat = false := rfl
attribute [go_sem] M_12 Fl_12
attribute [go_sem] lk_12_31 lk_12_32 lk_12_33 lk_12_34 lk_12_35 lk_12_36
theorem Fs_12 {code : List UInt8} {y_ : (List Volume) × Volume} (h : spec_DrawStoreVolume code = some y_) : c_12.F [.sl 1 (List.map byteAV code)] = ⟨true, .tup [.fresh 5 (List.map Volume_av y_.1), Volume_av y_.2], [.any]⟩ := by
 refine mkN_E ?_
 dsimp only [spec_DrawStoreVolume] at h
 obtain ⟨y_1, z1, h⟩ := bd_some h
 have fz1 := Fs_1 z1
 try simp only [go_sem] at fz1
 obtain ⟨y_2, z2, h⟩ := bd_some h
 have fz2 := Fs_10 z2
 try simp only [go_sem] at fz2
 obtain ⟨y_3, z3, h⟩ := bd_some h
 have fz3 := Fs_11 z3
 try simp only [go_sem] at fz3
 obtain ⟨y_4, z4, h⟩ := bd_some h
 have fz4 := Fs_5 z4
 try simp only [go_sem] at fz4
 obtain ⟨y_5, z5, h⟩ := bd_some h
 have fz5 := Fs_4 z5
 try simp only [go_sem] at fz5
 rcases it_some h with ⟨z6, h⟩ | ⟨z6, h⟩
 ·try simp only [go_sem, n1, n2, n3, n4] at z6
  all_goals
  obtain ⟨y_7, z7, h⟩ := bd_some h
  have fz7 := Fs_8 z7
  try simp only [go_sem, z6] at fz7
  obtain rfl := so_some h
  refine ⟨0, fun L hL => ?_⟩
  simp only [go_sem, ir5, fz1, fz2, fz3, fz4, fz5, z6, fz7]
 ·try simp only [go_sem, n1, n2, n3, n4] at z6
  all_goals
  obtain rfl := so_some h
  refine ⟨0, fun L hL => ?_⟩
  simp only [go_sem, ir5, fz1, fz2, fz3, fz4, fz5, z6]


def ir51_v : List Nat := [0, 1, 2, 6]
def ir51 : AFn := ⟨3, 4, .seq (.region false [ VO 3 6 (.mov (.c (.bool false)))]) (.seq (.region false [ PM 7 0, PM 8 1, PO 9 (.bin false .geq (.s 1) (.s 0)), PO 10 (.mov (.s 0)), ⟨.push, 11, (some ((.s 0), true)), .mov (.v 0)⟩, ⟨.push, 12, (some ((.s 1), true)), .mov (.v 2)⟩, ⟨.push, 13, (some ((.s 2), true)), .bin false .leq (.s 1) (.s 0)⟩, PO 14 (.pick (.s 3) (.s 0) (.c (.bool false))), VS 3 6 0]) (.ret)), [.t 3]⟩
noncomputable def t_13 : List (Nat × Ctr) := []
noncomputable def c_13 : Ctr := mkF t_13 ir51 [.bor, .bor, .bor]
theorem s_13 : Sound Tryz.prog 51 c_13 := mkF_sound _ rfl snd_nil (by kernel_rfl : chkFn Tryz.prog 51 ir51 ir51_v = true)
theorem M_13 : c_13.modes = [.bor, .bor, .bor] := rfl
theorem Fl_13 : c_13.flat = true := rfl
attribute [go_sem] M_13 Fl_13
theorem Fs_13 {n : Int} {low : Int} {high : Int} {y_ : Bool} (h : impl_in n low high = some y_) : c_13.F [.int .i64 n, .int .i64 low, .int .i64 high] = ⟨true, .bool y_, [.any, .any, .any]⟩ := by
 refine mkF_E rfl ?_
 dsimp only [impl_in] at h
 obtain rfl := so_some h
 refine ⟨0, fun L hL => ?_⟩
 simp only [go_sem, ir51]


def ir48_v : List Nat := [0, 2]
def ir48 : AFn := ⟨1, 2, .seq (.region false [ VO 1 2 (.mov (.c (.bool false)))]) (.seq (.region false [ PM 3 0, PO 4 (.call 51 [(.s 0), (I6 0), (I6 10000000)]), VS 1 2 0]) (.ret)), [.t 1]⟩
noncomputable def t_14 : List (Nat × Ctr) := [(51, c_13)]
theorem lk_14_51 : look t_14 51 = some c_13 := rfl
noncomputable def c_14 : Ctr := mkF t_14 ir48 [.bor]
theorem s_14 : Sound Tryz.prog 48 c_14 := mkF_sound _ rfl (snd_cons s_13 snd_nil) (by kernel_rfl : chkFn Tryz.prog 48 ir48 ir48_v = true)
theorem M_14 : c_14.modes = [.bor] := rfl
theorem Fl_14 : c_14.flat = true := rfl
attribute [go_sem] M_14 Fl_14
attribute [go_sem] lk_14_51
theorem Fs_14 {t : Int} {y_ : Bool} (h : impl_ValidTime t = some y_) : c_14.F [.int .i64 t] = ⟨true, .bool y_, [.any]⟩ := by
 refine mkF_E rfl ?_
 dsimp only [impl_ValidTime] at h
 obtain ⟨y_1, z1, h⟩ := bd_some h
 have fz1 := Fs_13 z1
 try simp only [go_sem] at fz1
 obtain rfl := so_some h
 refine ⟨0, fun L hL => ?_⟩
 simp only [go_sem, ir48, fz1]


def ir58_b0 : IR := .seq (.region false [ VO 7 17 (.bin false .lss (.v 6) (.v 5))]) (.seq (.cond (.v 7) (.skip) (.exit 0)) (.seq (.block 1 (.seq (.region false [ PM 18 6, VS 2 3 0]) (.seq (.region false [ PM 19 0, PM 20 2, PO 21 (.ixStr (.s 1) (.s 0)), PO 22 (.bin false .geq (.s 0) (.c (.int .u8 (97)))), PO 23 (.mov (.s 0)), ⟨.push, 24, (some ((.s 0), true)), .mov (.v 0)⟩, ⟨.push, 25, (some ((.s 1), true)), .mov (.v 2)⟩, ⟨.push, 26, (some ((.s 2), true)), .ixStr (.s 1) (.s 0)⟩, ⟨.push, 27, (some ((.s 3), true)), .bin false .leq (.s 0) (.c (.int .u8 (122)))⟩, PO 28 (.pick (.s 4) (.s 0) (.c
 (.bool false))), VS 3 4 0]) (.seq (.region false [ PM 29 0, PM 30 2, PO 31 (.ixStr (.s 1) (.s 0)), PO 32 (.bin false .geq (.s 0) (.c (.int .u8 (48)))), PO 33 (.mov (.s 0)), ⟨.push, 34, (some ((.s 0), true)), .mov (.v 0)⟩, ⟨.push, 35, (some ((.s 1), true)), .mov (.v 2)⟩, ⟨.push, 36, (some ((.s 2), true)), .ixStr (.s 1) (.s 0)⟩, ⟨.push, 37, (some ((.s 3), true)), .bin false .leq (.s 0) (.c (.int .u8 (57)))⟩, PO 38 (.pick (.s 4) (.s 0) (.c (.bool false))), PO 39 (.mov (.s 0)), ⟨.push, 40, (some ((.s 0), false)), .mov (.v 0)⟩, ⟨.push, 41, (some ((.s 1), false)), .mov (.v 2)⟩, ⟨.push, 42, (some
 ((.s 2), false)), .ixStr (.s 1) (.s 0)⟩, ⟨.push, 43, (some ((.s 3), false)), .bin false .eql (.s 0) (.c (.int .u8 (45)))⟩, PO 44 (.pick (.s 4) (.c (.bool true)) (.s 0)), VS 4 5 0]) (.test false [ PM 45 3, PO 46 (.un .not (.s 0)), PO 47 (.mov (.s 0)), ⟨.push, 48, (some ((.s 0), true)), .mov (.v 2)⟩, ⟨.push, 49, (some ((.s 1), true)), .bin false .eql (.s 0) (I6 0)⟩, ⟨.push, 50, (some ((.s 2), true)), .mov (.s 0)⟩, ⟨.push, 51, (some ((.s 0), false)), .mov (.v 4)⟩, ⟨.push, 52, (some ((.s 1), false)), .un .not (.s 0)⟩, ⟨.push, 53, (some ((.s 5), true)), .pick (.s 2) (.c (.bool true)) (.s 0)⟩, PO 54
 (.pick (.s 6) (.s 0) (.c (.bool false)))] (.s 0) (.seq (.region false [ VO 1 2 (.mov (.c (.bool false)))]) (.ret)) (.skip)))))) (.region false [ PO 55 (.bin false .add (.v 6) (I6 1)), VS 6 16 0])))
def ir58_k0 : List Bool := [true, false, false, false, false, true, true, false]
def ir58_o0 : List Bool := [false, false, false, false, false, false, false, false]
def ir58_r0 : List Bool := [false, true, false, false, false, false, false, false]
def ir58_v : List Nat := [0, 2, 3, 4, 5, 15, 16, 17]
def ir58 : AFn := ⟨1, 8, .seq (.region false [ VO 1 2 (.mov (.c (.bool false)))]) (.seq (.test false [ PM 6 0, PO 7 (.len true (.s 0)), PO 8 (.bin false .lss (.s 0) (I6 1)), PO 9 (.mov (.s 0)), ⟨.push, 10, (some ((.s 0), false)), .mov (.v 0)⟩, ⟨.push, 11, (some ((.s 1), false)), .len true (.s 0)⟩, ⟨.push, 12, (some ((.s 2), false)), .bin false .gtr (.s 0) (I6 12)⟩, PO 13 (.pick (.s 3) (.c (.bool true)) (.s 0))] (.s 0) (.seq (.region false [ VO 1 2 (.mov (.c (.bool false)))]) (.ret)) (.skip)) (.seq (.seq (.region false [ PM 14 0, VO 5 15 (.len true (.s 0)), VO 6 16 (.mov (I6 0))]) (.block 0
 (.loop ir58_k0 ir58_o0 ir58_r0 ir58_b0))) (.seq (.region false [ VO 1 2 (.mov (.c (.bool true)))]) (.ret)))), [.t 1]⟩
noncomputable def t_15 : List (Nat × Ctr) := []
noncomputable def c_15 : Ctr := mkF t_15 ir58 [.bor]
theorem s_15 : Sound Tryz.prog 58 c_15 := mkF_sound _ rfl snd_nil (by kernel_rfl : chkFn Tryz.prog 58 ir58 ir58_v = true)
theorem M_15 : c_15.modes = [.bor] := rfl
theorem Fl_15 : c_15.flat = true := rfl
attribute [go_sem] M_15 Fl_15
def E_15_l1 (s_ : List UInt8) (t15 : Int) : Int → St
 | t16 => ⟨[.str s_, .any, .any, .any, .any, .int .i64 t15, .int .i64 t16, .any], [], [], true⟩
def R_15_l1 (s_ : List UInt8) (t15 : Int) : (Unit ⊕ Bool) → Res
 | .inl y => (.exit 0, ⟨[.any, .any, .any, .any, .any, .any, .any, .any], [], [], true⟩)
 | .inr y => (.ret, ⟨[.any, .bool y, .any, .any, .any, .any, .any, .any], [], [], true⟩)
theorem impl_IsName_l1_ex {s_ : List UInt8} {t15 : Int} {sgm_ : Int} {rho_ : Unit ⊕ Bool} (h : whileE (impl_IsName_l1 s_ t15) sgm_ = some rho_) : ∃ L0, ∀ L, L0 ≤ L → iter (exec (look t_15) L ir58_b0) ir58_k0 ir58_o0 ir58_r0 L (E_15_l1 s_ t15 sgm_) = R_15_l1 s_ t15 rho_ := by
 refine loop_ex (E := E_15_l1 s_ t15) (R := R_15_l1 s_ t15) (fun y => by first | (intro c; cases c) | (rcases y with y | y <;> (intro c; cases c)) | (rcases y with y | y | y <;> (intro c; cases c))) ?_ h
 clear h
 intro t16 o_ h
 dsimp only [impl_IsName_l1] at h
 rcases it_some h with ⟨z2, h⟩ | ⟨z2, h⟩
 ·try simp only [go_sem, n1, n2, n3, n4] at z2
  all_goals
  obtain ⟨z3, h⟩ := ck_some h
  try simp only [go_sem, n1, n2, n3, n4, z2] at z3
  all_goals
  rcases it_some h with ⟨z4, h⟩ | ⟨z4, h⟩
  ·try simp only [go_sem, n1, n2, n3, n4, z2, z3] at z4
   all_goals
   obtain rfl := so_some h
   refine ⟨0, fun L hL => ?_⟩
   simp only [go_sem, ir58, E_15_l1, R_15_l1, ir58_b0, ir58_k0, ir58_o0, ir58_r0, z2, z3, z4]
  ·try simp only [go_sem, n1, n2, n3, n4, z2, z3] at z4
   all_goals
   obtain rfl := so_some h
   refine ⟨0, fun L hL => ?_⟩
   simp only [go_sem, ir58, E_15_l1, R_15_l1, ir58_b0, ir58_k0, ir58_o0, ir58_r0, z2, z3, z4]
 ·try simp only [go_sem, n1, n2, n3, n4] at z2
  all_goals
  obtain rfl := so_some h
  refine ⟨0, fun L hL => ?_⟩
  simp only [go_sem, ir58, E_15_l1, R_15_l1, ir58_b0, ir58_k0, ir58_o0, ir58_r0, z2]

theorem Fs_15 {s_ : List UInt8} {y_ : Bool} (h : impl_IsName s_ = some y_) : c_15.F [.str s_] = ⟨true, .bool y_, [.any]⟩ := by
 refine mkF_E rfl ?_
 dsimp only [impl_IsName] at h
 rcases it_some h with ⟨z1, h⟩ | ⟨z1, h⟩
 ·try simp only [go_sem, n1, n2, n3, n4] at z1
  all_goals
  obtain rfl := so_some h
  refine ⟨0, fun L hL => ?_⟩
  simp only [go_sem, ir58, E_15_l1, R_15_l1, ir58_k0, ir58_o0, ir58_r0, z1]
 ·try simp only [go_sem, n1, n2, n3, n4] at z1
  all_goals
  obtain ⟨y_5, z5, h⟩ := bd_some h
  obtain ⟨Lz5, ez5⟩ := impl_IsName_l1_ex z5
  rcases y_5 with y_5a | y_5b
  ·dsimp only at h
   obtain rfl := so_some h
   refine ⟨Lz5, fun L hL => ?_⟩
   have ez5 := ez5 L (by omega)
   try simp only [go_sem, E_15_l1, R_15_l1, ir58_k0, ir58_o0, ir58_r0, z1] at ez5
   simp only [go_sem, ir58, E_15_l1, R_15_l1, ir58_k0, ir58_o0, ir58_r0, z1, ez5]
  ·dsimp only at h
   obtain rfl := so_some h
   refine ⟨Lz5, fun L hL => ?_⟩
   have ez5 := ez5 L (by omega)
   try simp only [go_sem, E_15_l1, R_15_l1, ir58_k0, ir58_o0, ir58_r0, z1] at ez5
   simp only [go_sem, ir58, E_15_l1, R_15_l1, ir58_k0, ir58_o0, ir58_r0, z1, ez5]


def ir37_v : List Nat := [0, 1, 2, 3]
def ir37 : AFn := ⟨1, 4, .seq (.region false [ VO 1 1 (.box (.v 0)), VO 2 2 (.mov (.c (.bool false)))]) (.seq (.region false [ PO 4 (.fldAddr 1 (.v 1)), PO 5 (.load false 1 (.s 0)), PO 6 (.call 48 [(.s 0)]), PO 7 (.mov (.s 0)), ⟨.push, 8, (some ((.s 0), true)), .fldAddr 2 (.v 1)⟩, ⟨.push, 9, (some ((.s 1), true)), .load false 1 (.s 0)⟩, ⟨.push, 10, (some ((.s 2), true)), .call 48 [(.s 0)]⟩, PO 11 (.pick (.s 3) (.s 0) (.c (.bool false))), PO 12 (.mov (.s 0)), ⟨.push, 13, (some ((.s 0), true)), .fldAddr 1 (.v 1)⟩, ⟨.push, 14, (some ((.s 1), true)), .load false 1 (.s 0)⟩, ⟨.push, 15, (some ((.s
 2), true)), .fldAddr 2 (.v 1)⟩, ⟨.push, 16, (some ((.s 3), true)), .load false 1 (.s 0)⟩, ⟨.push, 17, (some ((.s 4), true)), .bin false .leq (.s 2) (.s 0)⟩, PO 18 (.pick (.s 5) (.s 0) (.c (.bool false))), VS 3 3 0]) (.seq (.region false [ PO 19 (.fldAddr 0 (.v 1)), PO 20 (.load false 1 (.s 0)), PO 21 (.call 58 [(.s 0)]), PO 22 (.mov (.s 0)), ⟨.push, 23, (some ((.s 0), true)), .mov (.v 3)⟩, PO 24 (.pick (.s 1) (.s 0) (.c (.bool false))), PO 25 (.mov (.s 0)), ⟨.push, 26, (some ((.s 0), true)), .fldAddr 3 (.v 1)⟩, ⟨.push, 27, (some ((.s 1), true)), .load false 1 (.s 0)⟩, ⟨.push, 28, (some ((.s
 2), true)), .call 51 [(.s 0), (I6 1), (I6 1000000)]⟩, PO 29 (.pick (.s 3) (.s 0) (.c (.bool false))), PO 30 (.mov (.s 0)), ⟨.push, 31, (some ((.s 0), true)), .fldAddr 4 (.v 1)⟩, ⟨.push, 32, (some ((.s 1), true)), .load false 1 (.s 0)⟩, ⟨.push, 33, (some ((.s 2), true)), .call 51 [(.s 0), (I6 0), (I6 5)]⟩, PO 34 (.pick (.s 3) (.s 0) (.c (.bool false))), VS 2 2 0]) (.ret))), [.t 2]⟩
noncomputable def t_16 : List (Nat × Ctr) := [(48, c_14), (58, c_15), (51, c_13)]
theorem lk_16_48 : look t_16 48 = some c_14 := rfl
theorem lk_16_58 : look t_16 58 = some c_15 := rfl
theorem lk_16_51 : look t_16 51 = some c_13 := rfl
noncomputable def c_16 : Ctr := mkF t_16 ir37 [.bor]
theorem s_16 : Sound Tryz.prog 37 c_16 := mkF_sound _ rfl (snd_cons s_14 (snd_cons s_15 (snd_cons s_13 snd_nil))) (by kernel_rfl : chkFn Tryz.prog 37 ir37 ir37_v = true)
theorem M_16 : c_16.modes = [.bor] := rfl
theorem Fl_16 : c_16.flat = true := rfl
attribute [go_sem] M_16 Fl_16
attribute [go_sem] lk_16_48 lk_16_58 lk_16_51
theorem Fs_16 {x : Volume} {y_ : Bool} (h : impl_isVolume x = some y_) : c_16.F [Volume_av x] = ⟨true, .bool y_, [.any]⟩ := by
 refine mkF_E rfl ?_
 dsimp only [impl_isVolume] at h
 obtain ⟨y_1, z1, h⟩ := bd_some h
 have fz1 := Fs_14 z1
 try simp only [go_sem] at fz1
 obtain ⟨z2, h⟩ := ck_some h
 rcases or_split z2 with ⟨gz2, z2⟩ | gz2
 ·try simp only [go_sem, n1, n2, n3, n4] at gz2
  all_goals
  obtain ⟨y_2, hz2⟩ := Option.isSome_iff_exists.1 z2
  have fz2 := Fs_14 hz2
  try simp only [go_sem, n1, n2, n3, n4, gz2] at hz2
  all_goals
  try simp only [go_sem, gz2] at fz2
  obtain ⟨y_3, z3, h⟩ := bd_some h
  have fz3 := Fs_15 z3
  try simp only [go_sem, gz2, hz2] at fz3
  obtain ⟨z4, h⟩ := ck_some h
  rcases or_split z4 with ⟨gz4, z4⟩ | gz4
  ·try simp only [go_sem, n1, n2, n3, n4, gz2, hz2] at gz4
   all_goals
   obtain ⟨y_4, hz4⟩ := Option.isSome_iff_exists.1 z4
   have fz4 := Fs_13 hz4
   try simp only [go_sem, n1, n2, n3, n4, gz2, hz2, gz4] at hz4
   all_goals
   try simp only [go_sem, gz2, hz2, gz4] at fz4
   obtain ⟨z5, h⟩ := ck_some h
   rcases or_split z5 with ⟨gz5, z5⟩ | gz5
   ·try simp only [go_sem, n1, n2, n3, n4, gz2, hz2, gz4, hz4] at gz5
    all_goals
    obtain ⟨y_5, hz5⟩ := Option.isSome_iff_exists.1 z5
    have fz5 := Fs_13 hz5
    try simp only [go_sem, n1, n2, n3, n4, gz2, hz2, gz4, hz4, gz5] at hz5
    all_goals
    try simp only [go_sem, gz2, hz2, gz4, hz4, gz5] at fz5
    obtain rfl := so_some h
    refine ⟨0, fun L hL => ?_⟩
    simp only [go_sem, ir37, fz1, gz2, hz2, fz2, fz3, gz4, hz4, fz4, gz5, hz5, fz5]
   ·try simp only [go_sem, n1, n2, n3, n4, gz2, hz2, gz4, hz4] at gz5
    all_goals
    obtain rfl := so_some h
    refine ⟨0, fun L hL => ?_⟩
    simp only [go_sem, ir37, fz1, gz2, hz2, fz2, fz3, gz4, hz4, fz4, gz5]
  ·rcases and_f gz4 with gz4a | ⟨gz4a, gz4b⟩
   ·try simp only [go_sem, n1, n2, n3, n4, gz2, hz2] at gz4a
    all_goals
    obtain ⟨z5, h⟩ := ck_some h
    obtain rfl := so_some h
    refine ⟨0, fun L hL => ?_⟩
    simp only [go_sem, ir37, fz1, gz2, hz2, fz2, fz3, gz4a]
   ·rcases and_f gz4b with gz4ba | ⟨gz4ba, gz4bb⟩
    ·rcases and_f gz4ba with gz4baa | ⟨gz4baa, gz4bab⟩
     ·try simp only [go_sem, n1, n2, n3, n4, gz2, hz2, gz4a] at gz4baa
      all_goals
      (simp_all)
     ·try simp only [go_sem, n1, n2, n3, n4, gz2, hz2] at gz4a
      all_goals
      try simp only [go_sem, n1, n2, n3, n4, gz2, hz2, gz4a] at gz4baa
      all_goals
      try simp only [go_sem, n1, n2, n3, n4, gz2, hz2, gz4a, gz4baa] at gz4bab
      all_goals
      obtain ⟨z5, h⟩ := ck_some h
      obtain rfl := so_some h
      refine ⟨0, fun L hL => ?_⟩
      simp only [go_sem, ir37, fz1, gz2, hz2, fz2, fz3, gz4a, gz4baa, gz4bab]
    ·obtain ⟨gz4baa, gz4bab⟩ := and_t gz4ba
     try simp only [go_sem, n1, n2, n3, n4, gz2, hz2] at gz4a
     all_goals
     try simp only [go_sem, n1, n2, n3, n4, gz2, hz2, gz4a] at gz4baa
     all_goals
     try simp only [go_sem, n1, n2, n3, n4, gz2, hz2, gz4a, gz4baa] at gz4bab
     all_goals
     try simp only [go_sem, n1, n2, n3, n4, gz2, hz2, gz4a, gz4baa, gz4bab] at gz4bb
     all_goals
     obtain ⟨z5, h⟩ := ck_some h
     obtain rfl := so_some h
     refine ⟨0, fun L hL => ?_⟩
     simp only [go_sem, ir37, fz1, gz2, hz2, fz2, fz3, gz4a, gz4baa, gz4bab, gz4bb]
 ·try simp only [go_sem, n1, n2, n3, n4] at gz2
  all_goals
  obtain ⟨y_3, z3, h⟩ := bd_some h
  have fz3 := Fs_15 z3
  try simp only [go_sem, gz2] at fz3
  obtain ⟨z4, h⟩ := ck_some h
  obtain ⟨z5, h⟩ := ck_some h
  obtain rfl := so_some h
  refine ⟨0, fun L hL => ?_⟩
  simp only [go_sem, ir37, fz1, gz2, fz3]


def ir40_v : List Nat := [0, 1, 2]
def ir40 : AFn := ⟨1, 3, .seq (.region false [ VO 1 1 (.box (.v 0)), VO 2 2 (.mov (.c (.str [])))]) (.seq (.region false [ PO 3 (.fldAddr 0 (.v 1)), PO 4 (.load false 1 (.s 0)), VS 2 2 0]) (.ret)), [.t 2]⟩
noncomputable def t_17 : List (Nat × Ctr) := []
noncomputable def c_17 : Ctr := mkF t_17 ir40 [.bor]
theorem s_17 : Sound Tryz.prog 40 c_17 := mkF_sound _ rfl snd_nil (by kernel_rfl : chkFn Tryz.prog 40 ir40 ir40_v = true)
theorem M_17 : c_17.modes = [.bor] := rfl
theorem Fl_17 : c_17.flat = true := rfl
attribute [go_sem] M_17 Fl_17
theorem Fs_17 {x : Volume} {y_ : (List UInt8)} (h : impl_volumeName x = some y_) : c_17.F [Volume_av x] = ⟨true, .str y_, [.any]⟩ := by
 refine mkF_E rfl ?_
 dsimp only [impl_volumeName] at h
 obtain rfl := so_some h
 refine ⟨0, fun L hL => ?_⟩
 simp only [go_sem, ir40]


def ir63_b0 : IR := .seq (.region false [ VO 10 18 (.bin false .lss (.v 9) (.v 8))]) (.seq (.cond (.v 10) (.skip) (.exit 0)) (.seq (.block 1 (.seq (.region false [ PM 19 9, PO 20 (.ixAddr 5 (.v 7) (.v 9)), PO 21 (.load true 5 (.s 0)), VO 6 10 (.alloc (.agg [.str [], .int .i64 (0), .int .i64 (0), .int .i64 (0), .int .i64 (0)])), VS 5 9 2, ⟨.no, 0, none, .store 5 (.v 6) (.s 0)⟩]) (.anyo 21 [ SO 0 22 (.mov (.v 2)), SO 1 23 (.load true 5 (.v 6)), SO 2 24 (.pur (.callv (.s 0) [(.s 1)])), SO 3 25 (.un .not (.s 2)), SO 4 26 (.mov (.s 3)), ⟨.slot 5, 27, (some ((.s 4), false)), .mov (.v 5)⟩, ⟨.slot 6,
 28, (some ((.s 4), false)), .bin false .gtr (.s 5) (I6 0)⟩, ⟨.slot 7, 29, (some ((.s 4), false)), .mov (.s 6)⟩, ⟨.slot 8, 30, (some ((.s 7), true)), .mov (.v 3)⟩, ⟨.slot 9, 31, (some ((.s 7), true)), .mov (.v 0)⟩, ⟨.slot 10, 32, (some ((.s 7), true)), .mov (.v 5)⟩, ⟨.slot 11, 33, (some ((.s 7), true)), .bin false .sub (.s 10) (I6 1)⟩, ⟨.slot 12, 34, (some ((.s 7), true)), .ixAddr 5 (.s 9) (.s 11)⟩, ⟨.slot 13, 35, (some ((.s 7), true)), .load true 5 (.s 12)⟩, ⟨.slot 14, 36, (some ((.s 7), true)), .callv (.s 8) [(.s 13)]⟩, ⟨.slot 15, 37, (some ((.s 7), true)), .mov (.v 3)⟩, ⟨.slot 16, 38, (some
 ((.s 7), true)), .load true 5 (.v 6)⟩, ⟨.slot 17, 39, (some ((.s 7), true)), .callv (.s 15) [(.s 16)]⟩, ⟨.slot 18, 40, (some ((.s 7), true)), .bin false .geq (.s 14) (.s 17)⟩, ⟨.slot 19, 41, (some ((.s 4), false)), .pick (.s 7) (.s 18) (.c (.bool false))⟩, SO 20 42 (.pick (.s 4) (.c (.bool true)) (.s 19))] [] (.cond (.s 20) (.seq (.region false [ VO 4 8 (.mov (.c (.bool false)))]) (.ret)) (.skip))))) (.region false [ PO 43 (.bin false .add (.v 9) (I6 1)), VS 9 17 0])))
def ir63_k0 : List Bool := [true, false, true, true, false, false, false, true, true, true, false]
def ir63_o0 : List Bool := [false, false, false, false, false, false, false, false, false, false, false]
def ir63_r0 : List Bool := [false, false, false, false, true, false, false, false, false, false, false]
def ir63_v : List Nat := [0, 1, 2, 3, 8, 9, 10, 15, 16, 17, 18]
def ir63 : AFn := ⟨4, 11, .seq (.region false [ VO 4 8 (.mov (.c (.bool false)))]) (.seq (.test false [ PM 11 0, PO 12 (.len false (.s 0)), PM 13 1, PO 14 (.bin false .gtr (.s 1) (.s 0))] (.s 0) (.seq (.region false [ VO 4 8 (.mov (.c (.bool false)))]) (.ret)) (.skip)) (.seq (.seq (.region false [ VO 7 15 (.mov (.v 0)), VO 8 16 (.len false (.v 7)), VO 9 17 (.mov (I6 0))]) (.block 0 (.loop ir63_k0 ir63_o0 ir63_r0 ir63_b0))) (.seq (.region false [ VO 4 8 (.mov (.c (.bool true)))]) (.ret)))), [.t 4]⟩
noncomputable def t_18 : List (Nat × Ctr) := [(37, c_16), (40, c_17)]
theorem lk_18_37 : look t_18 37 = some c_16 := rfl
theorem lk_18_40 : look t_18 40 = some c_17 := rfl
noncomputable def c_18 : Ctr := mkF t_18 ir63 [.bor, .bor, .bor, .bor]
theorem s_18 : Sound Tryz.prog 63 c_18 := mkF_sound _ rfl (snd_cons s_16 (snd_cons s_17 snd_nil)) (by kernel_rfl : chkFn Tryz.prog 63 ir63 ir63_v = true)
theorem M_18 : c_18.modes = [.bor, .bor, .bor, .bor] := rfl
theorem Fl_18 : c_18.flat = true := rfl
attribute [go_sem] M_18 Fl_18
attribute [go_sem] lk_18_37 lk_18_40
def E_18_l1 (list : List Volume) (t15 : List Volume) (t16 : Int) : Int → St
 | t17 => ⟨[.sl 5 (List.map Volume_av list), .any, .fn (.func 37) [] [], .fn (.func 40) [] [], .any, .any, .any, .sl 5 (List.map Volume_av t15), .int .i64 t16, .int .i64 t17, .any], [], [], true⟩
def R_18_l1 (list : List Volume) (t15 : List Volume) (t16 : Int) : (Unit ⊕ Bool) → Res
 | .inl y => (.exit 0, ⟨[.any, .any, .any, .any, .any, .any, .any, .any, .any, .any, .any], [], [], true⟩)
 | .inr y => (.ret, ⟨[.any, .any, .any, .any, .bool y, .any, .any, .any, .any, .any, .any], [], [], true⟩)
theorem impl_rising_impl_Volume__impl_isVolume__impl_volumeName_l1_ex {list : List Volume} {t15 : List Volume} {t16 : Int} {sgm_ : Int} {rho_ : Unit ⊕ Bool} (h : whileE (impl_rising_impl_Volume__impl_isVolume__impl_volumeName_l1 list t15 t16) sgm_ = some rho_) : ∃ L0, ∀ L, L0 ≤ L → iter (exec (look t_18) L ir63_b0) ir63_k0 ir63_o0 ir63_r0 L (E_18_l1 list t15 t16 sgm_) = R_18_l1 list t15 t16 rho_ := by
 refine loop_ex (E := E_18_l1 list t15 t16) (R := R_18_l1 list t15 t16) (fun y => by first | (intro c; cases c) | (rcases y with y | y <;> (intro c; cases c)) | (rcases y with y | y | y <;> (intro c; cases c))) ?_ h
 clear h
 intro t17 o_ h
 dsimp only [impl_rising_impl_Volume__impl_isVolume__impl_volumeName_l1] at h
 rcases it_some h with ⟨z2, h⟩ | ⟨z2, h⟩
 ·try simp only [go_sem, n1, n2, n3, n4] at z2
  all_goals
  obtain ⟨z3, h⟩ := ck_some h
  have lz3 := ix_lt z3
  have xz3 := getD_mapD Volume_av t15 lz3
  try simp only [go_sem] at lz3
  try simp only [go_sem] at xz3
  try simp only [go_sem, n1, n2, n3, n4, z2] at z3
  all_goals
  obtain ⟨y_4, z4, h⟩ := bd_some h
  have fz4 := Fs_16 z4
  try simp only [go_sem, z2, z3] at fz4
  obtain ⟨z5, h⟩ := ck_some h
  rcases or_split z5 with ⟨gz5, z5⟩ | gz5
  ·try simp only [go_sem, n1, n2, n3, n4, z2, z3] at gz5
   all_goals
   have lz5 := ix_lt z5
   have xz5 := getD_mapD Volume_av list lz5
   try simp only [go_sem] at lz5
   try simp only [go_sem] at xz5
   try simp only [go_sem, n1, n2, n3, n4, z2, z3, gz5] at z5
   all_goals
   obtain ⟨z6, h⟩ := ck_some h
   rcases or_split z6 with ⟨gz6, z6⟩ | gz6
   ·try simp only [go_sem, n1, n2, n3, n4, z2, z3, gz5, z5] at gz6
    all_goals
    obtain ⟨y_6, hz6⟩ := Option.isSome_iff_exists.1 z6
    have fz6 := Fs_17 hz6
    try simp only [go_sem, n1, n2, n3, n4, z2, z3, gz5, z5, gz6] at hz6
    all_goals
    try simp only [go_sem, z2, z3, gz5, z5, gz6] at fz6
    obtain ⟨z7, h⟩ := ck_some h
    rcases or_split z7 with ⟨gz7, z7⟩ | gz7
    ·try simp only [go_sem, n1, n2, n3, n4, z2, z3, gz5, z5, gz6, hz6] at gz7
     all_goals
     obtain ⟨y_7, hz7⟩ := Option.isSome_iff_exists.1 z7
     have fz7 := Fs_17 hz7
     try simp only [go_sem, n1, n2, n3, n4, z2, z3, gz5, z5, gz6, hz6, gz7] at hz7
     all_goals
     try simp only [go_sem, z2, z3, gz5, z5, gz6, hz6, gz7] at fz7
     rcases it_some h with ⟨z8, h⟩ | ⟨z8, h⟩
     ·try simp only [go_sem, n1, n2, n3, n4, z2, z3, gz5, z5, gz6, hz6, gz7, hz7] at z8
      all_goals
      obtain rfl := so_some h
      refine ⟨0, fun L hL => ?_⟩
      simp only [go_sem, ir63, E_18_l1, R_18_l1, ir63_b0, ir63_k0, ir63_o0, ir63_r0, z2, z3, lz3, xz3, fz4, gz5, z5, lz5, xz5, gz6, hz6, fz6, gz7, hz7, fz7, z8]
     ·try simp only [go_sem, n1, n2, n3, n4, z2, z3, gz5, z5, gz6, hz6, gz7, hz7] at z8
      all_goals
      obtain rfl := so_some h
      refine ⟨0, fun L hL => ?_⟩
      simp only [go_sem, ir63, E_18_l1, R_18_l1, ir63_b0, ir63_k0, ir63_o0, ir63_r0, z2, z3, lz3, xz3, fz4, gz5, z5, lz5, xz5, gz6, hz6, fz6, gz7, hz7, fz7, z8]
    ·rcases and_f gz7 with gz7a | ⟨gz7a, gz7b⟩
     ·try simp only [go_sem, n1, n2, n3, n4, z2, z3, gz5, z5, gz6, hz6] at gz7a
      all_goals
      (simp_all)
     ·have gz7an := no_t gz7a
      have gz7ann := no_f gz7an
      try simp only [go_sem, n1, n2, n3, n4, z2, z3, gz5, z5, gz6, hz6] at gz7ann
      all_goals
      try simp only [go_sem, n1, n2, n3, n4, z2, z3, gz5, z5, gz6, hz6, gz7ann] at gz7b
      all_goals
      rcases it_some h with ⟨z8, h⟩ | ⟨z8, h⟩
      ·try simp only [go_sem, n1, n2, n3, n4, z2, z3, gz5, z5, gz6, hz6, gz7ann, gz7b] at z8
       all_goals
       (simp_all)
      ·try simp only [go_sem, n1, n2, n3, n4, z2, z3, gz5, z5, gz6, hz6, gz7ann, gz7b] at z8
       all_goals
       obtain rfl := so_some h
       refine ⟨0, fun L hL => ?_⟩
       simp only [go_sem, ir63, E_18_l1, R_18_l1, ir63_b0, ir63_k0, ir63_o0, ir63_r0, z2, z3, lz3, xz3, fz4, gz5, z5, lz5, xz5, gz6, hz6, fz6, gz7ann, gz7b, z8]
   ·rcases and_f gz6 with gz6a | ⟨gz6a, gz6b⟩
    ·try simp only [go_sem, n1, n2, n3, n4, z2, z3, gz5, z5] at gz6a
     all_goals
     (simp_all)
    ·have gz6an := no_t gz6a
     have gz6ann := no_f gz6an
     try simp only [go_sem, n1, n2, n3, n4, z2, z3, gz5, z5] at gz6ann
     all_goals
     try simp only [go_sem, n1, n2, n3, n4, z2, z3, gz5, z5, gz6ann] at gz6b
     all_goals
     obtain ⟨z7, h⟩ := ck_some h
     rcases or_split z7 with ⟨gz7, z7⟩ | gz7
     ·try simp only [go_sem, n1, n2, n3, n4, z2, z3, gz5, z5, gz6ann, gz6b] at gz7
      all_goals
      obtain ⟨y_7, hz7⟩ := Option.isSome_iff_exists.1 z7
      have fz7 := Fs_17 hz7
      try simp only [go_sem, n1, n2, n3, n4, z2, z3, gz5, z5, gz6ann, gz6b, gz7] at hz7
      all_goals
      try simp only [go_sem, z2, z3, gz5, z5, gz6ann, gz6b, gz7] at fz7
      rcases it_some h with ⟨z8, h⟩ | ⟨z8, h⟩
      ·try simp only [go_sem, n1, n2, n3, n4, z2, z3, gz5, z5, gz6ann, gz6b, gz7, hz7] at z8
       all_goals
       obtain rfl := so_some h
       refine ⟨0, fun L hL => ?_⟩
       simp only [go_sem, ir63, E_18_l1, R_18_l1, ir63_b0, ir63_k0, ir63_o0, ir63_r0, z2, z3, lz3, xz3, fz4, gz5, z5, lz5, xz5, gz6ann, gz6b, gz7, hz7, fz7, z8]
      ·try simp only [go_sem, n1, n2, n3, n4, z2, z3, gz5, z5, gz6ann, gz6b, gz7, hz7] at z8
       all_goals
       obtain rfl := so_some h
       refine ⟨0, fun L hL => ?_⟩
       simp only [go_sem, ir63, E_18_l1, R_18_l1, ir63_b0, ir63_k0, ir63_o0, ir63_r0, z2, z3, lz3, xz3, fz4, gz5, z5, lz5, xz5, gz6ann, gz6b, gz7, hz7, fz7, z8]
     ·rcases and_f gz7 with gz7a | ⟨gz7a, gz7b⟩
      ·try simp only [go_sem, n1, n2, n3, n4, z2, z3, gz5, z5, gz6ann, gz6b] at gz7a
       all_goals
       (simp_all)
      ·have gz7an := no_t gz7a
       have gz7ann := no_f gz7an
       try simp only [go_sem, n1, n2, n3, n4, z2, z3, gz5, z5, gz6ann, gz6b] at gz7ann
       all_goals
       try simp only [go_sem, n1, n2, n3, n4, z2, z3, gz5, z5, gz6ann, gz6b, gz7ann] at gz7b
       all_goals
       rcases it_some h with ⟨z8, h⟩ | ⟨z8, h⟩
       ·try simp only [go_sem, n1, n2, n3, n4, z2, z3, gz5, z5, gz6ann, gz6b, gz7ann, gz7b] at z8
        all_goals
        (simp_all)
       ·try simp only [go_sem, n1, n2, n3, n4, z2, z3, gz5, z5, gz6ann, gz6b, gz7ann, gz7b] at z8
        all_goals
        obtain rfl := so_some h
        refine ⟨0, fun L hL => ?_⟩
        simp only [go_sem, ir63, E_18_l1, R_18_l1, ir63_b0, ir63_k0, ir63_o0, ir63_r0, z2, z3, lz3, xz3, fz4, gz5, z5, lz5, xz5, gz6ann, gz6b, gz7ann, gz7b, z8]
  ·rcases and_f gz5 with gz5a | ⟨gz5a, gz5b⟩
   ·have gz5an := no_f gz5a
    have gz5ann := no_t gz5an
    try simp only [go_sem, n1, n2, n3, n4, z2, z3] at gz5ann
    all_goals
    obtain ⟨z6, h⟩ := ck_some h
    obtain ⟨z7, h⟩ := ck_some h
    rcases it_some h with ⟨z8, h⟩ | ⟨z8, h⟩
    ·try simp only [go_sem, n1, n2, n3, n4, z2, z3, gz5ann] at z8
     all_goals
     obtain rfl := so_some h
     refine ⟨0, fun L hL => ?_⟩
     simp only [go_sem, ir63, E_18_l1, R_18_l1, ir63_b0, ir63_k0, ir63_o0, ir63_r0, z2, z3, lz3, xz3, fz4, gz5ann, z8]
    ·try simp only [go_sem, n1, n2, n3, n4, z2, z3, gz5ann] at z8
     all_goals
     (simp_all)
   ·have gz5an := no_t gz5a
    have gz5ann := no_f gz5an
    try simp only [go_sem, n1, n2, n3, n4, z2, z3] at gz5ann
    all_goals
    try simp only [go_sem, n1, n2, n3, n4, z2, z3, gz5ann] at gz5b
    all_goals
    obtain ⟨z6, h⟩ := ck_some h
    obtain ⟨z7, h⟩ := ck_some h
    rcases it_some h with ⟨z8, h⟩ | ⟨z8, h⟩
    ·try simp only [go_sem, n1, n2, n3, n4, z2, z3, gz5ann, gz5b] at z8
     all_goals
     (simp_all)
    ·try simp only [go_sem, n1, n2, n3, n4, z2, z3, gz5ann, gz5b] at z8
     all_goals
     obtain rfl := so_some h
     refine ⟨0, fun L hL => ?_⟩
     simp only [go_sem, ir63, E_18_l1, R_18_l1, ir63_b0, ir63_k0, ir63_o0, ir63_r0, z2, z3, lz3, xz3, fz4, gz5ann, gz5b, z8]
 ·try simp only [go_sem, n1, n2, n3, n4] at z2
  all_goals
  obtain rfl := so_some h
  refine ⟨0, fun L hL => ?_⟩
  simp only [go_sem, ir63, E_18_l1, R_18_l1, ir63_b0, ir63_k0, ir63_o0, ir63_r0, z2]

theorem Fs_18 {list : List Volume} {most : Int} {y_ : Bool} (h : impl_rising_impl_Volume__impl_isVolume__impl_volumeName list most = some y_) : c_18.F [.sl 5 (List.map Volume_av list), .int .i64 most, .fn (.func 37) [] [], .fn (.func 40) [] []] = ⟨true, .bool y_, [.any, .any, .any, .any]⟩ := by
 refine mkF_E rfl ?_
 dsimp only [impl_rising_impl_Volume__impl_isVolume__impl_volumeName] at h
 rcases it_some h with ⟨z1, h⟩ | ⟨z1, h⟩
 ·try simp only [go_sem, n1, n2, n3, n4] at z1
  all_goals
  obtain rfl := so_some h
  refine ⟨0, fun L hL => ?_⟩
  simp only [go_sem, ir63, E_18_l1, R_18_l1, ir63_k0, ir63_o0, ir63_r0, z1]
 ·try simp only [go_sem, n1, n2, n3, n4] at z1
  all_goals
  obtain ⟨y_9, z9, h⟩ := bd_some h
  obtain ⟨Lz9, ez9⟩ := impl_rising_impl_Volume__impl_isVolume__impl_volumeName_l1_ex z9
  rcases y_9 with y_9a | y_9b
  ·dsimp only at h
   obtain rfl := so_some h
   refine ⟨Lz9, fun L hL => ?_⟩
   have ez9 := ez9 L (by omega)
   try simp only [go_sem, E_18_l1, R_18_l1, ir63_k0, ir63_o0, ir63_r0, z1] at ez9
   simp only [go_sem, ir63, E_18_l1, R_18_l1, ir63_k0, ir63_o0, ir63_r0, z1, ez9]
  ·dsimp only at h
   obtain rfl := so_some h
   refine ⟨Lz9, fun L hL => ?_⟩
   have ez9 := ez9 L (by omega)
   try simp only [go_sem, E_18_l1, R_18_l1, ir63_k0, ir63_o0, ir63_r0, z1] at ez9
   simp only [go_sem, ir63, E_18_l1, R_18_l1, ir63_k0, ir63_o0, ir63_r0, z1, ez9]


def ir27_v : List Nat := [0, 2]
def ir27 : AFn := ⟨1, 2, .seq (.region false [ VO 1 2 (.mov (.c (.bool false)))]) (.seq (.region false [ PM 3 0, PO 4 (.call 63 [(.s 0), (I6 40), (.c (.fn (.func 37) [] [])), (.c (.fn (.func 40) [] []))]), VS 1 2 0]) (.ret)), [.t 1]⟩
noncomputable def t_19 : List (Nat × Ctr) := [(63, c_18)]
theorem lk_19_63 : look t_19 63 = some c_18 := rfl
noncomputable def c_19 : Ctr := mkF t_19 ir27 [.bor]
theorem s_19 : Sound Tryz.prog 27 c_19 := mkF_sound _ rfl (snd_cons s_18 snd_nil) (by kernel_rfl : chkFn Tryz.prog 27 ir27 ir27_v = true)
theorem M_19 : c_19.modes = [.bor] := rfl
theorem Fl_19 : c_19.flat = true := rfl
attribute [go_sem] M_19 Fl_19
attribute [go_sem] lk_19_63
theorem Fs_19 {list : List Volume} {y_ : Bool} (h : impl_ValidVolumes list = some y_) : c_19.F [.sl 5 (List.map Volume_av list)] = ⟨true, .bool y_, [.any]⟩ := by
 refine mkF_E rfl ?_
 dsimp only [impl_ValidVolumes] at h
 obtain ⟨y_1, z1, h⟩ := bd_some h
 have fz1 := Fs_18 z1
 try simp only [go_sem] at fz1
 obtain rfl := so_some h
 refine ⟨0, fun L hL => ?_⟩
 simp only [go_sem, ir27, fz1]


def ir69_v : List Nat := [0, 1, 2, 3]
def ir69 : AFn := ⟨2, 4, .seq (.region false [ VO 2 2 (.box (.v 0)), VO 3 3 (.mov (.c (.bool false)))]) (.seq (.region false [ PO 4 (.fldAddr 0 (.v 2)), PO 5 (.load false 1 (.s 0)), PO 6 (.load false 1 (.v 1)), PO 7 (.bin false .eql (.s 1) (.s 0)), VS 3 3 0]) (.ret)), [.t 3]⟩
noncomputable def t_20 : List (Nat × Ctr) := []
noncomputable def c_20 : Ctr := mkF t_20 ir69 [.bor, .bor]
theorem s_20 : Sound Tryz.prog 69 c_20 := mkF_sound _ rfl snd_nil (by kernel_rfl : chkFn Tryz.prog 69 ir69 ir69_v = true)
theorem M_20 : c_20.modes = [.bor, .bor] := rfl
theorem Fl_20 : c_20.flat = true := rfl
attribute [go_sem] M_20 Fl_20
theorem Fs_20 {x : Volume} {t1 : List UInt8} {y_ : Bool} (h : impl_findVolume_c1 x t1 = some y_) : c_20.F [Volume_av x, .ptr 1 [.str t1] 0 0] = ⟨true, .bool y_, [.any, .any]⟩ := by
 refine mkF_E rfl ?_
 dsimp only [impl_findVolume_c1] at h
 obtain rfl := so_some h
 refine ⟨0, fun L hL => ?_⟩
 simp only [go_sem, ir69]


def ir82_b0 : IR := .seq (.region false [ VO 6 9 (.bin false .lss (.v 5) (.v 4))]) (.seq (.cond (.v 6) (.skip) (.exit 0)) (.seq (.block 1 (.seq (.region false [ PM 10 5, VS 3 5 0]) (.test false [ PM 11 1, PM 12 0, PM 13 3, PO 14 (.ixAddr 5 (.s 1) (.s 0)), PO 15 (.load true 5 (.s 0)), PO 16 (.callv (.s 4) [(.s 0)])] (.s 0) (.seq (.region false [ PM 17 3, VS 2 4 0]) (.ret)) (.skip)))) (.region false [ PO 18 (.bin false .add (.v 5) (I6 1)), VS 5 8 0])))
def ir82_k0 : List Bool := [true, true, false, false, true, true, false]
def ir82_o0 : List Bool := [false, false, false, false, false, false, false]
def ir82_r0 : List Bool := [false, false, true, false, false, false, false]
def ir82_v : List Nat := [0, 1, 4, 5, 7, 8, 9]
def ir82 : AFn := ⟨2, 7, .seq (.region false [ VO 2 4 (.mov (I6 0))]) (.seq (.seq (.region false [ PM 6 0, VO 4 7 (.len false (.s 0)), VO 5 8 (.mov (I6 0))]) (.block 0 (.loop ir82_k0 ir82_o0 ir82_r0 ir82_b0))) (.seq (.region false [ VO 2 4 (.mov (.c (.int .i64 (-1))))]) (.ret))), [.t 2]⟩
noncomputable def t_21 : List (Nat × Ctr) := [(69, c_20)]
theorem lk_21_69 : look t_21 69 = some c_20 := rfl
noncomputable def c_21 : Ctr := mkF t_21 ir82 [.bor, .bor]
theorem s_21 : Sound Tryz.prog 82 c_21 := mkF_sound _ rfl (snd_cons s_20 snd_nil) (by kernel_rfl : chkFn Tryz.prog 82 ir82 ir82_v = true)
theorem M_21 : c_21.modes = [.bor, .bor] := rfl
theorem Fl_21 : c_21.flat = true := rfl
attribute [go_sem] M_21 Fl_21
attribute [go_sem] lk_21_69
def E_21_l1 (s_ : List Volume) (c : List UInt8) (t7 : Int) : Int → St
 | t8 => ⟨[.sl 5 (List.map Volume_av s_), .fn (.func 69) [] [.ptr 1 [.str c] 0 0], .any, .any, .int .i64 t7, .int .i64 t8, .any], [], [], true⟩
def R_21_l1 (s_ : List Volume) (c : List UInt8) (t7 : Int) : (Unit ⊕ Int) → Res
 | .inl y => (.exit 0, ⟨[.any, .any, .any, .any, .any, .any, .any], [], [], true⟩)
 | .inr y => (.ret, ⟨[.any, .any, .int .i64 y, .any, .any, .any, .any], [], [], true⟩)
theorem slices_IndexFunc_impl_Volume_impl_Volume__impl_findVolume_c1_l1_ex {s_ : List Volume} {c : List UInt8} {t7 : Int} {sgm_ : Int} {rho_ : Unit ⊕ Int} (h : whileE (slices_IndexFunc_impl_Volume_impl_Volume__impl_findVolume_c1_l1 s_ c t7) sgm_ = some rho_) : ∃ L0, ∀ L, L0 ≤ L → iter (exec (look t_21) L ir82_b0) ir82_k0 ir82_o0 ir82_r0 L (E_21_l1 s_ c t7 sgm_) = R_21_l1 s_ c t7 rho_ := by
 refine loop_ex (E := E_21_l1 s_ c t7) (R := R_21_l1 s_ c t7) (fun y => by first | (intro c; cases c) | (rcases y with y | y <;> (intro c; cases c)) | (rcases y with y | y | y <;> (intro c; cases c))) ?_ h
 clear h
 intro t8 o_ h
 dsimp only [slices_IndexFunc_impl_Volume_impl_Volume__impl_findVolume_c1_l1] at h
 rcases it_some h with ⟨z1, h⟩ | ⟨z1, h⟩
 ·try simp only [go_sem, n1, n2, n3, n4] at z1
  all_goals
  obtain ⟨z2, h⟩ := ck_some h
  have lz2 := ix_lt z2
  have xz2 := getD_mapD Volume_av s_ lz2
  try simp only [go_sem] at lz2
  try simp only [go_sem] at xz2
  try simp only [go_sem, n1, n2, n3, n4, z1] at z2
  all_goals
  obtain ⟨y_3, z3, h⟩ := bd_some h
  have fz3 := Fs_20 z3
  try simp only [go_sem, z1, z2] at fz3
  rcases it_some h with ⟨z4, h⟩ | ⟨z4, h⟩
  ·try simp only [go_sem, n1, n2, n3, n4, z1, z2] at z4
   all_goals
   obtain rfl := so_some h
   refine ⟨0, fun L hL => ?_⟩
   simp only [go_sem, ir82, E_21_l1, R_21_l1, ir82_b0, ir82_k0, ir82_o0, ir82_r0, z1, z2, lz2, xz2, fz3, z4]
  ·try simp only [go_sem, n1, n2, n3, n4, z1, z2] at z4
   all_goals
   obtain rfl := so_some h
   refine ⟨0, fun L hL => ?_⟩
   simp only [go_sem, ir82, E_21_l1, R_21_l1, ir82_b0, ir82_k0, ir82_o0, ir82_r0, z1, z2, lz2, xz2, fz3, z4]
 ·try simp only [go_sem, n1, n2, n3, n4] at z1
  all_goals
  obtain rfl := so_some h
  refine ⟨0, fun L hL => ?_⟩
  simp only [go_sem, ir82, E_21_l1, R_21_l1, ir82_b0, ir82_k0, ir82_o0, ir82_r0, z1]

theorem Fs_21 {s_ : List Volume} {f_c0 : List UInt8} {y_ : Int} (h : slices_IndexFunc_impl_Volume_impl_Volume__impl_findVolume_c1 s_ f_c0 = some y_) : c_21.F [.sl 5 (List.map Volume_av s_), .fn (.func 69) [] [.ptr 1 [.str f_c0] 0 0]] = ⟨true, .int .i64 y_, [.any, .any]⟩ := by
 refine mkF_E rfl ?_
 dsimp only [slices_IndexFunc_impl_Volume_impl_Volume__impl_findVolume_c1] at h
 obtain ⟨y_5, z5, h⟩ := bd_some h
 obtain ⟨Lz5, ez5⟩ := slices_IndexFunc_impl_Volume_impl_Volume__impl_findVolume_c1_l1_ex z5
 rcases y_5 with y_5a | y_5b
 ·dsimp only at h
  obtain rfl := so_some h
  refine ⟨Lz5, fun L hL => ?_⟩
  have ez5 := ez5 L (by omega)
  try simp only [go_sem, E_21_l1, R_21_l1, ir82_k0, ir82_o0, ir82_r0] at ez5
  simp only [go_sem, ir82, E_21_l1, R_21_l1, ir82_k0, ir82_o0, ir82_r0, ez5]
 ·dsimp only at h
  obtain rfl := so_some h
  refine ⟨Lz5, fun L hL => ?_⟩
  have ez5 := ez5 L (by omega)
  try simp only [go_sem, E_21_l1, R_21_l1, ir82_k0, ir82_o0, ir82_r0] at ez5
  simp only [go_sem, ir82, E_21_l1, R_21_l1, ir82_k0, ir82_o0, ir82_r0, ez5]


def ir68_v : List Nat := [0, 1, 4, 5, 6]
def ir68 : AFn := ⟨2, 5, .seq (.region false [ VO 2 4 (.mov (I6 0)), VO 3 5 (.mov (I6 0))]) (.seq (.seq (.region false [ PM 7 0, PM 8 1, PO 9 (.call 82 [(.s 1), (.s 0)]), VS 4 6 0]) (.test false [ PM 10 4, PO 11 (.bin false .geq (.s 0) (I6 0))] (.s 0) (.seq (.region false [ PM 12 4, VS 2 4 0, VO 3 5 (.mov (I6 0))]) (.ret)) (.skip))) (.seq (.region false [ VO 2 4 (.mov (I6 0)), VO 3 5 (.mov (I6 3))]) (.ret))), [.t 2, .t 3]⟩
noncomputable def t_22 : List (Nat × Ctr) := [(82, c_21)]
theorem lk_22_82 : look t_22 82 = some c_21 := rfl
noncomputable def c_22 : Ctr := mkF t_22 ir68 [.bor, .bor]
theorem s_22 : Sound Tryz.prog 68 c_22 := mkF_sound _ rfl (snd_cons s_21 snd_nil) (by kernel_rfl : chkFn Tryz.prog 68 ir68 ir68_v = true)
theorem M_22 : c_22.modes = [.bor, .bor] := rfl
theorem Fl_22 : c_22.flat = true := rfl
attribute [go_sem] M_22 Fl_22
attribute [go_sem] lk_22_82
theorem Fs_22 {list : List Volume} {wanted_c0 : List UInt8} {y_ : Int × Int} (h : impl_indexOf_impl_Volume__impl_findVolume_c1 list wanted_c0 = some y_) : c_22.F [.sl 5 (List.map Volume_av list), .fn (.func 69) [] [.ptr 1 [.str wanted_c0] 0 0]] = ⟨true, .tup [.int .i64 y_.1, .int .i64 y_.2], [.any, .any]⟩ := by
 refine mkF_E rfl ?_
 dsimp only [impl_indexOf_impl_Volume__impl_findVolume_c1] at h
 obtain ⟨y_1, z1, h⟩ := bd_some h
 have fz1 := Fs_21 z1
 try simp only [go_sem] at fz1
 rcases it_some h with ⟨z2, h⟩ | ⟨z2, h⟩
 ·try simp only [go_sem, n1, n2, n3, n4] at z2
  all_goals
  obtain rfl := so_some h
  refine ⟨0, fun L hL => ?_⟩
  simp only [go_sem, ir68, fz1, z2]
 ·try simp only [go_sem, n1, n2, n3, n4] at z2
  all_goals
  obtain rfl := so_some h
  refine ⟨0, fun L hL => ?_⟩
  simp only [go_sem, ir68, fz1, z2]


def ir38_v : List Nat := [0, 1, 3, 4, 5]
def ir38 : AFn := ⟨2, 5, .seq (.region false [ VO 2 3 (.box (.v 1)), VO 3 4 (.mov (I6 0)), VO 4 5 (.mov (I6 0))]) (.seq (.region false [ PM 6 0, PO 7 (.mkFn (.func 69) [] [(.v 2)]), PO 8 (.call 68 [(.s 1), (.s 0)]), PO 9 (.ext (.s 0) 0), PO 10 (.ext (.s 1) 1), VS 3 4 1, VS 4 5 0]) (.ret)), [.t 3, .t 4]⟩
noncomputable def t_23 : List (Nat × Ctr) := [(68, c_22)]
theorem lk_23_68 : look t_23 68 = some c_22 := rfl
noncomputable def c_23 : Ctr := mkF t_23 ir38 [.bor, .bor]
theorem s_23 : Sound Tryz.prog 38 c_23 := mkF_sound _ rfl (snd_cons s_22 snd_nil) (by kernel_rfl : chkFn Tryz.prog 38 ir38 ir38_v = true)
theorem M_23 : c_23.modes = [.bor, .bor] := rfl
theorem Fl_23 : c_23.flat = true := rfl
attribute [go_sem] M_23 Fl_23
attribute [go_sem] lk_23_68
theorem Fs_23 {list : List Volume} {name : List UInt8} {y_ : Int × Int} (h : impl_findVolume list name = some y_) : c_23.F [.sl 5 (List.map Volume_av list), .str name] = ⟨true, .tup [.int .i64 y_.1, .int .i64 y_.2], [.any, .any]⟩ := by
 refine mkF_E rfl ?_
 dsimp only [impl_findVolume] at h
 obtain ⟨y_1, z1, h⟩ := bd_some h
 have fz1 := Fs_22 z1
 try simp only [go_sem] at fz1
 obtain rfl := so_some h
 refine ⟨0, fun L hL => ?_⟩
 simp only [go_sem, ir38, fz1]


def ir71_v : List Nat := [0, 2]
def ir71 : AFn := ⟨1, 2, .seq (.region false [ VO 1 2 (.newnil 5)]) (.seq (.region false [ PO 3 (.mkSl 5 (.agg [.str [], .int .i64 (0), .int .i64 (0), .int .i64 (0), .int .i64 (0)]) 0 []), PM 4 0, PO 5 (.app 5 48 (.agg [.str [], .int .i64 (0), .int .i64 (0), .int .i64 (0), .int .i64 (0)]) (.s 1) (.s 0)), VS 1 2 0]) (.ret)), [.t 1]⟩
noncomputable def t_24 : List (Nat × Ctr) := []
noncomputable def c_24 : Ctr := mkF t_24 ir71 [.bor]
theorem s_24 : Sound Tryz.prog 71 c_24 := mkF_sound _ rfl snd_nil (by kernel_rfl : chkFn Tryz.prog 71 ir71 ir71_v = true)
theorem M_24 : c_24.modes = [.bor] := rfl
theorem Fl_24 : c_24.flat = true := rfl
attribute [go_sem] M_24 Fl_24
theorem Fs_24 {list : List Volume} {y_ : (List Volume)} (h : impl_copyOf_impl_Volume list = some y_) : c_24.F [.sl 5 (List.map Volume_av list)] = ⟨true, .fresh 5 (List.map Volume_av y_), [.any]⟩ := by
 refine mkF_E (by simp only [flatA, flatB, flat1, List.all_cons, List.all_nil, Bool.and_self, flatE_map (f := Volume_av) (fun _ => rfl)]) ?_
 dsimp only [impl_copyOf_impl_Volume] at h
 obtain ⟨z1, h⟩ := ck_some h
 try simp only [go_sem, n1, n2, n3, n4] at z1
 all_goals
 obtain rfl := so_some h
 refine ⟨0, fun L hL => ?_⟩
 simp only [go_sem, ir71, z1]


theorem s_hInsVolume : Sound Tryz.prog 70 c_hInsVolume := hInsVolume_is

def ir39_b0 : IR := .seq (.anyo 16 [ SO 0 8 (.mov (.v 5)), SO 1 9 (.mov (.v 0)), SO 2 10 (.len false (.s 1)), SO 3 11 (.bin false .lss (.s 0) (.s 2)), SO 4 12 (.mov (.s 3)), ⟨.slot 5, 13, (some ((.s 4), true)), .mov (.v 2)⟩, ⟨.slot 6, 14, (some ((.s 4), true)), .mov (.v 0)⟩, ⟨.slot 7, 15, (some ((.s 4), true)), .mov (.v 5)⟩, ⟨.slot 8, 16, (some ((.s 4), true)), .ixAddr 5 (.s 6) (.s 7)⟩, ⟨.slot 9, 17, (some ((.s 4), true)), .load true 5 (.s 8)⟩, ⟨.slot 10, 18, (some ((.s 4), true)), .callv (.s 5) [(.s 9)]⟩, ⟨.slot 11, 19, (some ((.s 4), true)), .mov (.v 2)⟩, ⟨.slot 12, 20, (some ((.s 4), true)),
 .load true 5 (.v 3)⟩, ⟨.slot 13, 21, (some ((.s 4), true)), .callv (.s 11) [(.s 12)]⟩, ⟨.slot 14, 22, (some ((.s 4), true)), .bin false .lss (.s 10) (.s 13)⟩, SO 15 23 (.pick (.s 4) (.s 14) (.c (.bool false)))] [] (.cond (.s 15) (.skip) (.exit 0))) (.block 1 (.region false [ PM 24 5, PO 25 (.bin false .add (.s 0) (I6 1)), VS 5 7 0]))
def ir39_k0 : List Bool := [true, false, true, true, false, true]
def ir39_o0 : List Bool := [true, false, false, true, false, true]
def ir39_r0 : List Bool := [false, false, false, false, true, false]
def ir39_v : List Nat := [0, 1, 2, 4, 6, 7]
def ir39 : AFn := ⟨3, 6, .seq (.region false [ VO 3 4 (.box (.v 1)), VO 4 6 (.newnil 5)]) (.seq (.region false [ VO 5 7 (.mov (I6 0))]) (.seq (.block 0 (.loop ir39_k0 ir39_o0 ir39_r0 ir39_b0)) (.seq (.anyo 6 [ SO 0 26 (.mov (.v 0)), SO 1 27 (.call 71 [(.s 0)]), SO 2 28 (.flat (.mov (.v 5))), SO 3 29 (.load true 5 (.v 3)), SO 4 30 (.mkSl 5 (.agg [.str [], .int .i64 (0), .int .i64 (0), .int .i64 (0), .int .i64 (0)]) 1 [(0, (.s 3))]), SO 5 31 (.call 70 [(.s 1), (.s 2), (.s 4)]), VS 4 6 5] [[2, 0, 1, 3, 4, 5, 6], [2, 0, 3, 1, 4, 5, 6], [2, 0, 3, 4, 1, 5, 6], [2, 3, 0, 1, 4, 5, 6], [2, 3, 0, 4, 1,
 5, 6], [2, 3, 4, 0, 1, 5, 6]] .skip) (.ret)))), [.t 4]⟩
noncomputable def t_26 : List (Nat × Ctr) := [(40, c_17), (71, c_24), (70, c_hInsVolume)]
theorem lk_26_40 : look t_26 40 = some c_17 := rfl
theorem lk_26_71 : look t_26 71 = some c_24 := rfl
theorem lk_26_70 : look t_26 70 = some c_hInsVolume := rfl
noncomputable def c_26 : Ctr := mkF t_26 ir39 [.bor, .bor, .bor]
theorem s_26 : Sound Tryz.prog 39 c_26 := mkF_sound _ rfl (snd_cons s_17 (snd_cons s_24 (snd_cons s_hInsVolume snd_nil))) (by kernel_rfl : chkFn Tryz.prog 39 ir39 ir39_v = true)
theorem M_26 : c_26.modes = [.bor, .bor, .bor] := rfl
theorem Fl_26 : c_26.flat = true := rfl
attribute [go_sem] M_26 Fl_26
attribute [go_sem] lk_26_40 lk_26_71 lk_26_70
def E_26_l1 (list : List Volume) (x : Volume) : Int → St
 | k => ⟨[.sl 5 (List.map Volume_av list), .any, .fn (.func 40) [] [], .ref 3200000 0 0, .any, .int .i64 k], [], [(3200000, ⟨5, [Volume_av x]⟩)], true⟩
def R_26_l1 (list : List Volume) (x : Volume) (y : Int) : Res := (.exit 0, ⟨[.sl 5 (List.map Volume_av list), .any, .any, .ref 3200000 0 0, .any, .int .i64 y], [], [(3200000, ⟨5, [Volume_av x]⟩)], true⟩)
theorem impl_inserted_impl_Volume__impl_volumeName_l1_ex {list : List Volume} {x : Volume} {sgm_ : Int} {rho_ : Int} (h : whileE (impl_inserted_impl_Volume__impl_volumeName_l1 list x) sgm_ = some rho_) : ∃ L0, ∀ L, L0 ≤ L → iter (exec (look t_26) L ir39_b0) ir39_k0 ir39_o0 ir39_r0 L (E_26_l1 list x sgm_) = R_26_l1 list x rho_ := by
 refine loop_ex (E := E_26_l1 list x) (R := R_26_l1 list x) (fun y => by first | (intro c; cases c) | (rcases y with y | y <;> (intro c; cases c)) | (rcases y with y | y | y <;> (intro c; cases c))) ?_ h
 clear h
 intro k o_ h
 dsimp only [impl_inserted_impl_Volume__impl_volumeName_l1] at h
 obtain ⟨z1, h⟩ := ck_some h
 rcases or_split z1 with ⟨gz1, z1⟩ | gz1
 ·try simp only [go_sem, n1, n2, n3, n4] at gz1
  all_goals
  have lz1 := ix_lt z1
  have xz1 := getD_mapD Volume_av list lz1
  try simp only [go_sem] at lz1
  try simp only [go_sem] at xz1
  try simp only [go_sem, n1, n2, n3, n4, gz1] at z1
  all_goals
  obtain ⟨z2, h⟩ := ck_some h
  rcases or_split z2 with ⟨gz2, z2⟩ | gz2
  ·try simp only [go_sem, n1, n2, n3, n4, gz1, z1] at gz2
   all_goals
   obtain ⟨y_2, hz2⟩ := Option.isSome_iff_exists.1 z2
   have fz2 := Fs_17 hz2
   try simp only [go_sem, n1, n2, n3, n4, gz1, z1, gz2] at hz2
   all_goals
   try simp only [go_sem, gz1, z1, gz2] at fz2
   obtain ⟨z3, h⟩ := ck_some h
   rcases or_split z3 with ⟨gz3, z3⟩ | gz3
   ·try simp only [go_sem, n1, n2, n3, n4, gz1, z1, gz2, hz2] at gz3
    all_goals
    obtain ⟨y_3, hz3⟩ := Option.isSome_iff_exists.1 z3
    have fz3 := Fs_17 hz3
    try simp only [go_sem, n1, n2, n3, n4, gz1, z1, gz2, hz2, gz3] at hz3
    all_goals
    try simp only [go_sem, gz1, z1, gz2, hz2, gz3] at fz3
    rcases it_some h with ⟨z4, h⟩ | ⟨z4, h⟩
    ·try simp only [go_sem, n1, n2, n3, n4, gz1, z1, gz2, hz2, gz3, hz3] at z4
     all_goals
     obtain rfl := so_some h
     refine ⟨0, fun L hL => ?_⟩
     simp only [go_sem, ir39, E_26_l1, R_26_l1, ir39_b0, ir39_k0, ir39_o0, ir39_r0, gz1, z1, lz1, xz1, gz2, hz2, fz2, gz3, hz3, fz3, z4]
    ·try simp only [go_sem, n1, n2, n3, n4, gz1, z1, gz2, hz2, gz3, hz3] at z4
     all_goals
     obtain rfl := so_some h
     refine ⟨0, fun L hL => ?_⟩
     simp only [go_sem, ir39, E_26_l1, R_26_l1, ir39_b0, ir39_k0, ir39_o0, ir39_r0, gz1, z1, lz1, xz1, gz2, hz2, fz2, gz3, hz3, fz3, z4]
   ·try simp only [go_sem, n1, n2, n3, n4, gz1, z1, gz2, hz2] at gz3
    all_goals
    rcases it_some h with ⟨z4, h⟩ | ⟨z4, h⟩
    ·try simp only [go_sem, n1, n2, n3, n4, gz1, z1, gz2, hz2, gz3] at z4
     all_goals
     (simp_all)
    ·try simp only [go_sem, n1, n2, n3, n4, gz1, z1, gz2, hz2, gz3] at z4
     all_goals
     obtain rfl := so_some h
     refine ⟨0, fun L hL => ?_⟩
     simp only [go_sem, ir39, E_26_l1, R_26_l1, ir39_b0, ir39_k0, ir39_o0, ir39_r0, gz1, z1, lz1, xz1, gz2, hz2, fz2, gz3, z4]
  ·try simp only [go_sem, n1, n2, n3, n4, gz1, z1] at gz2
   all_goals
   obtain ⟨z3, h⟩ := ck_some h
   rcases it_some h with ⟨z4, h⟩ | ⟨z4, h⟩
   ·try simp only [go_sem, n1, n2, n3, n4, gz1, z1, gz2] at z4
    all_goals
    (simp_all)
   ·try simp only [go_sem, n1, n2, n3, n4, gz1, z1, gz2] at z4
    all_goals
    obtain rfl := so_some h
    refine ⟨0, fun L hL => ?_⟩
    simp only [go_sem, ir39, E_26_l1, R_26_l1, ir39_b0, ir39_k0, ir39_o0, ir39_r0, gz1, z1, lz1, xz1, gz2, z4]
 ·try simp only [go_sem, n1, n2, n3, n4] at gz1
  all_goals
  obtain ⟨z2, h⟩ := ck_some h
  obtain ⟨z3, h⟩ := ck_some h
  rcases it_some h with ⟨z4, h⟩ | ⟨z4, h⟩
  ·try simp only [go_sem, n1, n2, n3, n4, gz1] at z4
   all_goals
   (simp_all)
  ·try simp only [go_sem, n1, n2, n3, n4, gz1] at z4
   all_goals
   obtain rfl := so_some h
   refine ⟨0, fun L hL => ?_⟩
   simp only [go_sem, ir39, E_26_l1, R_26_l1, ir39_b0, ir39_k0, ir39_o0, ir39_r0, gz1, z4]

theorem Fs_26 {list : List Volume} {x : Volume} {y_ : (List Volume)} (h : impl_inserted_impl_Volume__impl_volumeName list x = some y_) : c_26.F [.sl 5 (List.map Volume_av list), Volume_av x, .fn (.func 40) [] []] = ⟨true, .fresh 5 (List.map Volume_av y_), [.any, .any, .any]⟩ := by
 refine mkF_E (by simp only [flatA, flatB, flat1, List.all_cons, List.all_nil, Bool.and_self, flatE_map (f := Volume_av) (fun _ => rfl)]) ?_
 dsimp only [impl_inserted_impl_Volume__impl_volumeName] at h
 obtain ⟨y_5, z5, h⟩ := bd_some h
 obtain ⟨Lz5, ez5⟩ := impl_inserted_impl_Volume__impl_volumeName_l1_ex z5
 obtain ⟨y_6, z6, h⟩ := bd_some h
 have fz6 := Fs_24 z6
 try simp only [go_sem] at fz6
 obtain ⟨y_7, z7, h⟩ := bd_some h
 have fz7 := (Fs_hInsVolume Volume_av) z7
 try simp only [go_sem] at fz7
 obtain rfl := so_some h
 refine ⟨Lz5, fun L hL => ?_⟩
 have ez5 := ez5 L (by omega)
 try simp only [go_sem, E_26_l1, R_26_l1, ir39_k0, ir39_o0, ir39_r0] at ez5
 simp only [go_sem, ir39, E_26_l1, R_26_l1, ir39_k0, ir39_o0, ir39_r0, fz6, fz7, ez5]


def ir6_v : List Nat := [0, 1, 3, 4, 5, 7]
def ir6 : AFn := ⟨2, 6, .seq (.region false [ VO 2 3 (.box (.v 1)), VO 3 4 (.newnil 5), VO 4 5 (.mov (I6 0))]) (.seq (.block 0 (.test false [ PM 9 0, PO 10 (.call 27 [(.s 0)]), PO 11 (.un .not (.s 0)), PO 8 (.mov (.s 0))] (.s 0) (.seq (.region false [ VO 3 4 (.newnil 5), VO 4 5 (.mov (I6 1))]) (.ret)) (.test false [ PO 13 (.load true 5 (.v 2)), PO 14 (.call 37 [(.s 0)]), PO 15 (.un .not (.s 0)), PO 12 (.mov (.s 0))] (.s 0) (.seq (.region false [ VO 3 4 (.newnil 5), VO 4 5 (.mov (I6 2))]) (.ret)) (.skip)))) (.seq (.seq (.region false [ PM 17 0, PO 18 (.fldAddr 0 (.v 2)), PO 19 (.load false 1 (.s
 0)), PO 20 (.call 38 [(.s 2), (.s 0)]), PO 16 (.mov (.s 0)), PO 21 (.ext (.s 0) 0), PO 22 (.ext (.s 1) 1), PO 6 (.mov (.s 1)), VS 5 7 1]) (.test false [ PM 23 5, PO 24 (.bin false .eql (.s 0) (I6 0))] (.s 0) (.seq (.region false [ VO 3 4 (.newnil 5), VO 4 5 (.mov (I6 4))]) (.ret)) (.skip))) (.seq (.test false [ PM 25 0, PO 26 (.len false (.s 0)), PO 27 (.bin false .eql (.s 0) (I6 40))] (.s 0) (.seq (.region false [ VO 3 4 (.newnil 5), VO 4 5 (.mov (I6 5))]) (.ret)) (.skip)) (.seq (.region false [ PM 28 0, PO 29 (.load true 5 (.v 2)), PO 30 (.call 39 [(.s 1), (.s 0), (.c (.fn (.func 40) []
 []))]), VS 3 4 0, VO 4 5 (.mov (I6 0))]) (.ret))))), [.t 3, .t 4]⟩
noncomputable def t_27 : List (Nat × Ctr) := [(27, c_19), (37, c_16), (38, c_23), (39, c_26)]
theorem lk_27_27 : look t_27 27 = some c_19 := rfl
theorem lk_27_37 : look t_27 37 = some c_16 := rfl
theorem lk_27_38 : look t_27 38 = some c_23 := rfl
theorem lk_27_39 : look t_27 39 = some c_26 := rfl
noncomputable def c_27 : Ctr := mkF t_27 ir6 [.bor, .bor]
theorem s_27 : Sound Tryz.prog 6 c_27 := mkF_sound _ rfl (snd_cons s_19 (snd_cons s_16 (snd_cons s_23 (snd_cons s_26 snd_nil)))) (by kernel_rfl : chkFn Tryz.prog 6 ir6 ir6_v = true)
theorem M_27 : c_27.modes = [.bor, .bor] := rfl
theorem Fl_27 : c_27.flat = true := rfl
attribute [go_sem] M_27 Fl_27
attribute [go_sem] lk_27_27 lk_27_37 lk_27_38 lk_27_39
theorem Fs_27 {list : List Volume} {x : Volume} {y_ : (List Volume) × Int} (h : impl_StoreVolume list x = some y_) : c_27.F [.sl 5 (List.map Volume_av list), Volume_av x] = ⟨true, .tup [.fresh 5 (List.map Volume_av y_.1), .int .i64 y_.2], [.any, .any]⟩ := by
 refine mkF_E (by simp only [flatA, flatB, flat1, List.all_cons, List.all_nil, Bool.and_self, flatE_map (f := Volume_av) (fun _ => rfl)]) ?_
 dsimp only [impl_StoreVolume] at h
 obtain ⟨y_1, z1, h⟩ := bd_some h
 have fz1 := Fs_19 z1
 try simp only [go_sem] at fz1
 rcases it_some h with ⟨z2, h⟩ | ⟨z2, h⟩
 ·try simp only [go_sem, n1, n2, n3, n4] at z2
  all_goals
  obtain rfl := so_some h
  refine ⟨0, fun L hL => ?_⟩
  simp only [go_sem, ir6, fz1, z2]
 ·try simp only [go_sem, n1, n2, n3, n4] at z2
  all_goals
  obtain ⟨y_3, z3, h⟩ := bd_some h
  have fz3 := Fs_16 z3
  try simp only [go_sem, z2] at fz3
  rcases it_some h with ⟨z4, h⟩ | ⟨z4, h⟩
  ·try simp only [go_sem, n1, n2, n3, n4, z2] at z4
   all_goals
   obtain rfl := so_some h
   refine ⟨0, fun L hL => ?_⟩
   simp only [go_sem, ir6, fz1, z2, fz3, z4]
  ·try simp only [go_sem, n1, n2, n3, n4, z2] at z4
   all_goals
   obtain ⟨y_5, z5, h⟩ := bd_some h
   have fz5 := Fs_23 z5
   try simp only [go_sem, z2, z4] at fz5
   rcases it_some h with ⟨z6, h⟩ | ⟨z6, h⟩
   ·try simp only [go_sem, n1, n2, n3, n4, z2, z4] at z6
    all_goals
    obtain rfl := so_some h
    refine ⟨0, fun L hL => ?_⟩
    simp only [go_sem, ir6, fz1, z2, fz3, z4, fz5, z6]
   ·try simp only [go_sem, n1, n2, n3, n4, z2, z4] at z6
    all_goals
    rcases it_some h with ⟨z7, h⟩ | ⟨z7, h⟩
    ·try simp only [go_sem, n1, n2, n3, n4, z2, z4, z6] at z7
     all_goals
     obtain rfl := so_some h
     refine ⟨0, fun L hL => ?_⟩
     simp only [go_sem, ir6, fz1, z2, fz3, z4, fz5, z6, z7]
    ·try simp only [go_sem, n1, n2, n3, n4, z2, z4, z6] at z7
     all_goals
     obtain ⟨y_8, z8, h⟩ := bd_some h
     have fz8 := Fs_26 z8
     try simp only [go_sem, z2, z4, z6, z7] at fz8
     obtain rfl := so_some h
     refine ⟨0, fun L hL => ?_⟩
     simp only [go_sem, ir6, fz1, z2, fz3, z4, fz5, z6, z7, fz8]


def ir79_v : List Nat := [0, 2]
def ir79 : AFn := ⟨1, 2, .seq (.region false [ VO 1 2 (.mov (.c (.bool false)))]) (.seq (.region false [ PM 3 0, PO 4 (.bin false .geq (.s 0) (.c (.int .u8 (97)))), PO 5 (.mov (.s 0)), ⟨.push, 6, (some ((.s 0), true)), .mov (.v 0)⟩, ⟨.push, 7, (some ((.s 1), true)), .bin false .leq (.s 0) (.c (.int .u8 (122)))⟩, PO 8 (.pick (.s 2) (.s 0) (.c (.bool false))), VS 1 2 0]) (.ret)), [.t 1]⟩
noncomputable def t_28 : List (Nat × Ctr) := []
noncomputable def c_28 : Ctr := mkF t_28 ir79 [.bor]
theorem s_28 : Sound Tryz.prog 79 c_28 := mkF_sound _ rfl snd_nil (by kernel_rfl : chkFn Tryz.prog 79 ir79 ir79_v = true)
theorem M_28 : c_28.modes = [.bor] := rfl
theorem Fl_28 : c_28.flat = true := rfl
attribute [go_sem] M_28 Fl_28
theorem Fs_28 {c : UInt8} {y_ : Bool} (h : spec_l01Small c = some y_) : c_28.F [.int .u8 (c.toNat : Int)] = ⟨true, .bool y_, [.any]⟩ := by
 refine mkF_E rfl ?_
 dsimp only [spec_l01Small] at h
 obtain rfl := so_some h
 refine ⟨0, fun L hL => ?_⟩
 simp only [go_sem, ir79]


def ir80_v : List Nat := [0, 2]
def ir80 : AFn := ⟨1, 2, .seq (.region false [ VO 1 2 (.mov (.c (.bool false)))]) (.seq (.region false [ PM 3 0, PO 4 (.bin false .geq (.s 0) (.c (.int .u8 (48)))), PO 5 (.mov (.s 0)), ⟨.push, 6, (some ((.s 0), true)), .mov (.v 0)⟩, ⟨.push, 7, (some ((.s 1), true)), .bin false .leq (.s 0) (.c (.int .u8 (57)))⟩, PO 8 (.pick (.s 2) (.s 0) (.c (.bool false))), VS 1 2 0]) (.ret)), [.t 1]⟩
noncomputable def t_29 : List (Nat × Ctr) := []
noncomputable def c_29 : Ctr := mkF t_29 ir80 [.bor]
theorem s_29 : Sound Tryz.prog 80 c_29 := mkF_sound _ rfl snd_nil (by kernel_rfl : chkFn Tryz.prog 80 ir80 ir80_v = true)
theorem M_29 : c_29.modes = [.bor] := rfl
theorem Fl_29 : c_29.flat = true := rfl
attribute [go_sem] M_29 Fl_29
theorem Fs_29 {c : UInt8} {y_ : Bool} (h : spec_l01Digit c = some y_) : c_29.F [.int .u8 (c.toNat : Int)] = ⟨true, .bool y_, [.any]⟩ := by
 refine mkF_E rfl ?_
 dsimp only [spec_l01Digit] at h
 obtain rfl := so_some h
 refine ⟨0, fun L hL => ?_⟩
 simp only [go_sem, ir80]


def ir61_b0 : IR := .seq (.test false [ PM 17 2, PM 18 0, PO 19 (.len true (.s 0)), PO 20 (.bin false .lss (.s 2) (.s 0))] (.s 0) (.skip) (.exit 0)) (.seq (.block 1 (.test false [ PM 23 0, PM 24 2, PO 25 (.ixStr (.s 1) (.s 0)), PO 26 (.call 79 [(.s 0)]), PO 27 (.un .not (.s 0)), PO 28 (.mov (.s 0)), ⟨.push, 29, (some ((.s 0), true)), .mov (.v 0)⟩, ⟨.push, 30, (some ((.s 1), true)), .mov (.v 2)⟩, ⟨.push, 31, (some ((.s 2), true)), .ixStr (.s 1) (.s 0)⟩, ⟨.push, 32, (some ((.s 3), true)), .call 80 [(.s 0)]⟩, ⟨.push, 33, (some ((.s 4), true)), .un .not (.s 0)⟩, PO 34 (.pick (.s 5) (.s 0) (.c
 (.bool false))), PO 35 (.mov (.s 0)), ⟨.push, 36, (some ((.s 0), true)), .mov (.v 0)⟩, ⟨.push, 37, (some ((.s 1), true)), .mov (.v 2)⟩, ⟨.push, 38, (some ((.s 2), true)), .ixStr (.s 1) (.s 0)⟩, ⟨.push, 39, (some ((.s 3), true)), .bin false .neq (.s 0) (.c (.int .u8 (45)))⟩, PO 40 (.pick (.s 4) (.s 0) (.c (.bool false)))] (.s 0) (.seq (.region false [ VO 1 2 (.mov (.c (.bool false)))]) (.ret)) (.skip))) (.region false [ PM 21 2, PO 22 (.bin false .add (.s 0) (I6 1)), VS 2 3 0]))
def ir61_k0 : List Bool := [true, false, true]
def ir61_o0 : List Bool := [false, false, false]
def ir61_r0 : List Bool := [false, true, false]
def ir61_v : List Nat := [0, 2, 3]
def ir61 : AFn := ⟨1, 3, .seq (.region false [ VO 1 2 (.mov (.c (.bool false)))]) (.seq (.test false [ PM 4 0, PO 5 (.bin false .eql (.s 0) (.c (.str []))), PO 6 (.mov (.s 0)), ⟨.push, 7, (some ((.s 0), false)), .mov (.v 0)⟩, ⟨.push, 8, (some ((.s 1), false)), .len true (.s 0)⟩, ⟨.push, 9, (some ((.s 2), false)), .bin false .gtr (.s 0) (I6 12)⟩, PO 10 (.pick (.s 3) (.c (.bool true)) (.s 0)), PO 11 (.mov (.s 0)), ⟨.push, 12, (some ((.s 0), false)), .mov (.v 0)⟩, ⟨.push, 13, (some ((.s 1), false)), .ixStr (.s 0) (I6 0)⟩, ⟨.push, 14, (some ((.s 2), false)), .call 79 [(.s 0)]⟩, ⟨.push, 15, (some
 ((.s 3), false)), .un .not (.s 0)⟩, PO 16 (.pick (.s 4) (.c (.bool true)) (.s 0))] (.s 0) (.seq (.region false [ VO 1 2 (.mov (.c (.bool false)))]) (.ret)) (.skip)) (.seq (.seq (.region false [ VO 2 3 (.mov (I6 0))]) (.block 0 (.loop ir61_k0 ir61_o0 ir61_r0 ir61_b0))) (.seq (.region false [ VO 1 2 (.mov (.c (.bool true)))]) (.ret)))), [.t 1]⟩
noncomputable def t_30 : List (Nat × Ctr) := [(79, c_28), (80, c_29)]
theorem lk_30_79 : look t_30 79 = some c_28 := rfl
theorem lk_30_80 : look t_30 80 = some c_29 := rfl
noncomputable def c_30 : Ctr := mkF t_30 ir61 [.bor]
theorem s_30 : Sound Tryz.prog 61 c_30 := mkF_sound _ rfl (snd_cons s_28 (snd_cons s_29 snd_nil)) (by kernel_rfl : chkFn Tryz.prog 61 ir61 ir61_v = true)
theorem M_30 : c_30.modes = [.bor] := rfl
theorem Fl_30 : c_30.flat = true := rfl
attribute [go_sem] M_30 Fl_30
attribute [go_sem] lk_30_79 lk_30_80
def E_30_l1 (s_ : List UInt8) : Int → St
 | i => ⟨[.str s_, .any, .int .i64 i], [], [], true⟩
def R_30_l1 (s_ : List UInt8) : (Unit ⊕ Bool) → Res
 | .inl y => (.exit 0, ⟨[.any, .any, .any], [], [], true⟩)
 | .inr y => (.ret, ⟨[.any, .bool y, .any], [], [], true⟩)
theorem spec_IsName_l1_ex {s_ : List UInt8} {sgm_ : Int} {rho_ : Unit ⊕ Bool} (h : whileE (spec_IsName_l1 s_) sgm_ = some rho_) : ∃ L0, ∀ L, L0 ≤ L → iter (exec (look t_30) L ir61_b0) ir61_k0 ir61_o0 ir61_r0 L (E_30_l1 s_ sgm_) = R_30_l1 s_ rho_ := by
 refine loop_ex (E := E_30_l1 s_) (R := R_30_l1 s_) (fun y => by first | (intro c; cases c) | (rcases y with y | y <;> (intro c; cases c)) | (rcases y with y | y | y <;> (intro c; cases c))) ?_ h
 clear h
 intro i o_ h
 dsimp only [spec_IsName_l1] at h
 rcases it_some h with ⟨z4, h⟩ | ⟨z4, h⟩
 ·try simp only [go_sem, n1, n2, n3, n4] at z4
  all_goals
  obtain ⟨z5, h⟩ := ck_some h
  try simp only [go_sem, n1, n2, n3, n4, z4] at z5
  all_goals
  obtain ⟨y_6, z6, h⟩ := bd_some h
  have fz6 := Fs_28 z6
  try simp only [go_sem, z4, z5] at fz6
  obtain ⟨z7, h⟩ := ck_some h
  rcases or_split z7 with ⟨gz7, z7⟩ | gz7
  ·try simp only [go_sem, n1, n2, n3, n4, z4, z5] at gz7
   all_goals
   obtain ⟨y_7, hz7⟩ := Option.isSome_iff_exists.1 z7
   have fz7 := Fs_29 hz7
   try simp only [go_sem, n1, n2, n3, n4, z4, z5, gz7] at hz7
   all_goals
   try simp only [go_sem, z4, z5, gz7] at fz7
   rcases it_some h with ⟨z8, h⟩ | ⟨z8, h⟩
   ·try simp only [go_sem, n1, n2, n3, n4, z4, z5, gz7, hz7] at z8
    all_goals
    obtain rfl := so_some h
    refine ⟨0, fun L hL => ?_⟩
    simp only [go_sem, ir61, E_30_l1, R_30_l1, ir61_b0, ir61_k0, ir61_o0, ir61_r0, z4, z5, fz6, gz7, hz7, fz7, z8]
   ·try simp only [go_sem, n1, n2, n3, n4, z4, z5, gz7, hz7] at z8
    all_goals
    obtain rfl := so_some h
    refine ⟨0, fun L hL => ?_⟩
    simp only [go_sem, ir61, E_30_l1, R_30_l1, ir61_b0, ir61_k0, ir61_o0, ir61_r0, z4, z5, fz6, gz7, hz7, fz7, z8]
  ·have gz7n := no_f gz7
   try simp only [go_sem, n1, n2, n3, n4, z4, z5] at gz7n
   all_goals
   rcases it_some h with ⟨z8, h⟩ | ⟨z8, h⟩
   ·try simp only [go_sem, n1, n2, n3, n4, z4, z5, gz7n] at z8
    all_goals
    (simp_all)
   ·try simp only [go_sem, n1, n2, n3, n4, z4, z5, gz7n] at z8
    all_goals
    obtain rfl := so_some h
    refine ⟨0, fun L hL => ?_⟩
    simp only [go_sem, ir61, E_30_l1, R_30_l1, ir61_b0, ir61_k0, ir61_o0, ir61_r0, z4, z5, fz6, gz7n, z8]
 ·try simp only [go_sem, n1, n2, n3, n4] at z4
  all_goals
  obtain rfl := so_some h
  refine ⟨0, fun L hL => ?_⟩
  simp only [go_sem, ir61, E_30_l1, R_30_l1, ir61_b0, ir61_k0, ir61_o0, ir61_r0, z4]

theorem Fs_30 {s_ : List UInt8} {y_ : Bool} (h : spec_IsName s_ = some y_) : c_30.F [.str s_] = ⟨true, .bool y_, [.any]⟩ := by
 refine mkF_E rfl ?_
 dsimp only [spec_IsName] at h
 obtain ⟨z1, h⟩ := ck_some h
 rcases or_split z1 with ⟨gz1, z1⟩ | gz1
 ·try simp only [go_sem, n1, n2, n3, n4] at gz1
  all_goals
  try simp only [go_sem, n1, n2, n3, n4, gz1] at z1
  all_goals
  obtain ⟨z2, h⟩ := ck_some h
  rcases or_split z2 with ⟨gz2, z2⟩ | gz2
  ·try simp only [go_sem, n1, n2, n3, n4, gz1, z1] at gz2
   all_goals
   obtain ⟨y_2, hz2⟩ := Option.isSome_iff_exists.1 z2
   have fz2 := Fs_28 hz2
   try simp only [go_sem, n1, n2, n3, n4, gz1, z1, gz2] at hz2
   all_goals
   try simp only [go_sem, gz1, z1, gz2] at fz2
   rcases it_some h with ⟨z3, h⟩ | ⟨z3, h⟩
   ·try simp only [go_sem, n1, n2, n3, n4, gz1, z1, gz2, hz2] at z3
    all_goals
    obtain rfl := so_some h
    refine ⟨0, fun L hL => ?_⟩
    simp only [go_sem, ir61, E_30_l1, R_30_l1, ir61_k0, ir61_o0, ir61_r0, gz1, z1, gz2, hz2, fz2, z3]
   ·try simp only [go_sem, n1, n2, n3, n4, gz1, z1, gz2, hz2] at z3
    all_goals
    obtain ⟨y_9, z9, h⟩ := bd_some h
    obtain ⟨Lz9, ez9⟩ := spec_IsName_l1_ex z9
    rcases y_9 with y_9a | y_9b
    ·dsimp only at h
     obtain rfl := so_some h
     refine ⟨Lz9, fun L hL => ?_⟩
     have ez9 := ez9 L (by omega)
     try simp only [go_sem, E_30_l1, R_30_l1, ir61_k0, ir61_o0, ir61_r0, gz1, z1, gz2, hz2, z3] at ez9
     simp only [go_sem, ir61, E_30_l1, R_30_l1, ir61_k0, ir61_o0, ir61_r0, gz1, z1, gz2, hz2, fz2, z3, ez9]
    ·dsimp only at h
     obtain rfl := so_some h
     refine ⟨Lz9, fun L hL => ?_⟩
     have ez9 := ez9 L (by omega)
     try simp only [go_sem, E_30_l1, R_30_l1, ir61_k0, ir61_o0, ir61_r0, gz1, z1, gz2, hz2, z3] at ez9
     simp only [go_sem, ir61, E_30_l1, R_30_l1, ir61_k0, ir61_o0, ir61_r0, gz1, z1, gz2, hz2, fz2, z3, ez9]
  ·have gz2n := no_f gz2
   rcases or_t gz2n with gz2na | ⟨gz2na, gz2nb⟩
   ·try simp only [go_sem, n1, n2, n3, n4, gz1, z1] at gz2na
    all_goals
    (simp_all)
   ·try simp only [go_sem, n1, n2, n3, n4, gz1, z1] at gz2na
    all_goals
    try simp only [go_sem, n1, n2, n3, n4, gz1, z1, gz2na] at gz2nb
    all_goals
    rcases it_some h with ⟨z3, h⟩ | ⟨z3, h⟩
    ·try simp only [go_sem, n1, n2, n3, n4, gz1, z1, gz2na, gz2nb] at z3
     all_goals
     obtain rfl := so_some h
     refine ⟨0, fun L hL => ?_⟩
     simp only [go_sem, ir61, E_30_l1, R_30_l1, ir61_k0, ir61_o0, ir61_r0, gz1, z1, gz2na, gz2nb, z3]
    ·try simp only [go_sem, n1, n2, n3, n4, gz1, z1, gz2na, gz2nb] at z3
     all_goals
     obtain ⟨y_9, z9, h⟩ := bd_some h
     obtain ⟨Lz9, ez9⟩ := spec_IsName_l1_ex z9
     rcases y_9 with y_9a | y_9b
     ·dsimp only at h
      obtain rfl := so_some h
      refine ⟨Lz9, fun L hL => ?_⟩
      have ez9 := ez9 L (by omega)
      try simp only [go_sem, E_30_l1, R_30_l1, ir61_k0, ir61_o0, ir61_r0, gz1, z1, gz2na, gz2nb, z3] at ez9
      simp only [go_sem, ir61, E_30_l1, R_30_l1, ir61_k0, ir61_o0, ir61_r0, gz1, z1, gz2na, gz2nb, z3, ez9]
     ·dsimp only at h
      obtain rfl := so_some h
      refine ⟨Lz9, fun L hL => ?_⟩
      have ez9 := ez9 L (by omega)
      try simp only [go_sem, E_30_l1, R_30_l1, ir61_k0, ir61_o0, ir61_r0, gz1, z1, gz2na, gz2nb, z3] at ez9
      simp only [go_sem, ir61, E_30_l1, R_30_l1, ir61_k0, ir61_o0, ir61_r0, gz1, z1, gz2na, gz2nb, z3, ez9]
 ·have gz1n := no_f gz1
  rcases or_t gz1n with gz1na | ⟨gz1na, gz1nb⟩
  ·try simp only [go_sem, n1, n2, n3, n4] at gz1na
   all_goals
   obtain ⟨z2, h⟩ := ck_some h
   rcases it_some h with ⟨z3, h⟩ | ⟨z3, h⟩
   ·try simp only [go_sem, n1, n2, n3, n4, gz1na] at z3
    all_goals
    obtain rfl := so_some h
    refine ⟨0, fun L hL => ?_⟩
    simp only [go_sem, ir61, E_30_l1, R_30_l1, ir61_k0, ir61_o0, ir61_r0, gz1na, z3]
   ·try simp only [go_sem, n1, n2, n3, n4, gz1na] at z3
    all_goals
    (simp_all)
  ·try simp only [go_sem, n1, n2, n3, n4] at gz1na
   all_goals
   try simp only [go_sem, n1, n2, n3, n4, gz1na] at gz1nb
   all_goals
   obtain ⟨z2, h⟩ := ck_some h
   rcases it_some h with ⟨z3, h⟩ | ⟨z3, h⟩
   ·try simp only [go_sem, n1, n2, n3, n4, gz1na, gz1nb] at z3
    all_goals
    obtain rfl := so_some h
    refine ⟨0, fun L hL => ?_⟩
    simp only [go_sem, ir61, E_30_l1, R_30_l1, ir61_k0, ir61_o0, ir61_r0, gz1na, gz1nb, z3]
   ·try simp only [go_sem, n1, n2, n3, n4, gz1na, gz1nb] at z3
    all_goals
    (simp_all)


def ir53_v : List Nat := [0, 1, 2, 6]
def ir53 : AFn := ⟨3, 4, .seq (.region false [ VO 3 6 (.mov (.c (.bool false)))]) (.seq (.region false [ PM 7 0, PM 8 1, PO 9 (.bin false .geq (.s 1) (.s 0)), PO 10 (.mov (.s 0)), ⟨.push, 11, (some ((.s 0), true)), .mov (.v 0)⟩, ⟨.push, 12, (some ((.s 1), true)), .mov (.v 2)⟩, ⟨.push, 13, (some ((.s 2), true)), .bin false .leq (.s 1) (.s 0)⟩, PO 14 (.pick (.s 3) (.s 0) (.c (.bool false))), VS 3 6 0]) (.ret)), [.t 3]⟩
noncomputable def t_31 : List (Nat × Ctr) := []
noncomputable def c_31 : Ctr := mkF t_31 ir53 [.bor, .bor, .bor]
theorem s_31 : Sound Tryz.prog 53 c_31 := mkF_sound _ rfl snd_nil (by kernel_rfl : chkFn Tryz.prog 53 ir53 ir53_v = true)
theorem M_31 : c_31.modes = [.bor, .bor, .bor] := rfl
theorem Fl_31 : c_31.flat = true := rfl
attribute [go_sem] M_31 Fl_31
theorem Fs_31 {n : Int} {low : Int} {high : Int} {y_ : Bool} (h : spec_l00In n low high = some y_) : c_31.F [.int .i64 n, .int .i64 low, .int .i64 high] = ⟨true, .bool y_, [.any, .any, .any]⟩ := by
 refine mkF_E rfl ?_
 dsimp only [spec_l00In] at h
 obtain rfl := so_some h
 refine ⟨0, fun L hL => ?_⟩
 simp only [go_sem, ir53]


def ir52_v : List Nat := [0, 2]
def ir52 : AFn := ⟨1, 2, .seq (.region false [ VO 1 2 (.mov (.c (.bool false)))]) (.seq (.region false [ PM 3 0, PO 4 (.call 53 [(.s 0), (I6 0), (I6 10000000)]), VS 1 2 0]) (.ret)), [.t 1]⟩
noncomputable def t_32 : List (Nat × Ctr) := [(53, c_31)]
theorem lk_32_53 : look t_32 53 = some c_31 := rfl
noncomputable def c_32 : Ctr := mkF t_32 ir52 [.bor]
theorem s_32 : Sound Tryz.prog 52 c_32 := mkF_sound _ rfl (snd_cons s_31 snd_nil) (by kernel_rfl : chkFn Tryz.prog 52 ir52 ir52_v = true)
theorem M_32 : c_32.modes = [.bor] := rfl
theorem Fl_32 : c_32.flat = true := rfl
attribute [go_sem] M_32 Fl_32
attribute [go_sem] lk_32_53
theorem Fs_32 {t : Int} {y_ : Bool} (h : spec_l03Time t = some y_) : c_32.F [.int .i64 t] = ⟨true, .bool y_, [.any]⟩ := by
 refine mkF_E rfl ?_
 dsimp only [spec_l03Time] at h
 obtain ⟨y_1, z1, h⟩ := bd_some h
 have fz1 := Fs_31 z1
 try simp only [go_sem] at fz1
 obtain rfl := so_some h
 refine ⟨0, fun L hL => ?_⟩
 simp only [go_sem, ir52, fz1]


def ir42_v : List Nat := [0, 2]
def ir42 : AFn := ⟨1, 2, .seq (.region false [ VO 1 2 (.mov (.c (.bool false)))]) (.seq (.anyo 37 [ SO 0 3 (.mov (.v 0)), SO 1 4 (.nilck (.s 0)), SO 2 5 (.fldAddr 0 (.s 1)), SO 3 6 (.load false 1 (.s 2)), SO 4 7 (.callp 61 [(.s 3)]), SO 5 8 (.mov (.s 4)), ⟨.slot 6, 9, (some ((.s 5), true)), .mov (.v 0)⟩, ⟨.slot 7, 10, (some ((.s 5), true)), .nilck (.s 6)⟩, ⟨.slot 8, 11, (some ((.s 5), true)), .fldAddr 1 (.s 7)⟩, ⟨.slot 9, 12, (some ((.s 5), true)), .load false 1 (.s 8)⟩, ⟨.slot 10, 13, (some ((.s 5), true)), .call 52 [(.s 9)]⟩, SO 11 14 (.pick (.s 5) (.s 10) (.c (.bool false))), SO 12 15 (.mov
 (.s 11)), ⟨.slot 13, 16, (some ((.s 12), true)), .mov (.v 0)⟩, ⟨.slot 14, 17, (some ((.s 12), true)), .nilck (.s 13)⟩, ⟨.slot 15, 18, (some ((.s 12), true)), .fldAddr 2 (.s 14)⟩, ⟨.slot 16, 19, (some ((.s 12), true)), .load false 1 (.s 15)⟩, ⟨.slot 17, 20, (some ((.s 12), true)), .mov (.v 0)⟩, ⟨.slot 18, 21, (some ((.s 12), true)), .nilck (.s 17)⟩, ⟨.slot 19, 22, (some ((.s 12), true)), .fldAddr 1 (.s 18)⟩, ⟨.slot 20, 23, (some ((.s 12), true)), .load false 1 (.s 19)⟩, ⟨.slot 21, 24, (some ((.s 12), true)), .call 53 [(.s 16), (.s 20), (I6 10000000)]⟩, SO 22 25 (.pick (.s 12) (.s 21) (.c (.bool
 false))), SO 23 26 (.mov (.s 22)), ⟨.slot 24, 27, (some ((.s 23), true)), .mov (.v 0)⟩, ⟨.slot 25, 28, (some ((.s 23), true)), .nilck (.s 24)⟩, ⟨.slot 26, 29, (some ((.s 23), true)), .fldAddr 3 (.s 25)⟩, ⟨.slot 27, 30, (some ((.s 23), true)), .load false 1 (.s 26)⟩, ⟨.slot 28, 31, (some ((.s 23), true)), .call 53 [(.s 27), (I6 1), (I6 1000000)]⟩, SO 29 32 (.pick (.s 23) (.s 28) (.c (.bool false))), SO 30 33 (.mov (.s 29)), ⟨.slot 31, 34, (some ((.s 30), true)), .mov (.v 0)⟩, ⟨.slot 32, 35, (some ((.s 30), true)), .nilck (.s 31)⟩, ⟨.slot 33, 36, (some ((.s 30), true)), .fldAddr 4 (.s 32)⟩,
 ⟨.slot 34, 37, (some ((.s 30), true)), .load false 1 (.s 33)⟩, ⟨.slot 35, 38, (some ((.s 30), true)), .call 53 [(.s 34), (I6 0), (I6 5)]⟩, SO 36 39 (.pick (.s 30) (.s 35) (.c (.bool false))), VS 1 2 36] [] .skip) (.ret)), [.t 1]⟩
noncomputable def t_33 : List (Nat × Ctr) := [(61, c_30), (52, c_32), (53, c_31)]
theorem lk_33_61 : look t_33 61 = some c_30 := rfl
theorem lk_33_52 : look t_33 52 = some c_32 := rfl
theorem lk_33_53 : look t_33 53 = some c_31 := rfl
noncomputable def c_33 : Ctr := mkF t_33 ir42 [.bor]
theorem s_33 : Sound Tryz.prog 42 c_33 := mkF_sound _ rfl (snd_cons s_30 (snd_cons s_32 (snd_cons s_31 snd_nil))) (by kernel_rfl : chkFn Tryz.prog 42 ir42 ir42_v = true)
theorem M_33 : c_33.modes = [.bor] := rfl
theorem Fl_33 : c_33.flat = true := rfl
attribute [go_sem] M_33 Fl_33
attribute [go_sem] lk_33_61 lk_33_52 lk_33_53
theorem Fs_33 {x : Volume} {y_ : Bool} (h : spec_l23One x = some y_) : c_33.F [.ptr 5 [Volume_av x] 0 0] = ⟨true, .bool y_, [.any]⟩ := by
 refine mkF_E rfl ?_
 dsimp only [spec_l23One] at h
 obtain ⟨y_1, z1, h⟩ := bd_some h
 have fz1 := Fs_30 z1
 try simp only [go_sem] at fz1
 obtain ⟨z2, h⟩ := ck_some h
 rcases or_split z2 with ⟨gz2, z2⟩ | gz2
 ·try simp only [go_sem, n1, n2, n3, n4] at gz2
  all_goals
  obtain ⟨y_2, hz2⟩ := Option.isSome_iff_exists.1 z2
  have fz2 := Fs_32 hz2
  try simp only [go_sem, n1, n2, n3, n4, gz2] at hz2
  all_goals
  try simp only [go_sem, gz2] at fz2
  obtain ⟨z3, h⟩ := ck_some h
  rcases or_split z3 with ⟨gz3, z3⟩ | gz3
  ·try simp only [go_sem, n1, n2, n3, n4, gz2, hz2] at gz3
   all_goals
   obtain ⟨y_3, hz3⟩ := Option.isSome_iff_exists.1 z3
   have fz3 := Fs_31 hz3
   try simp only [go_sem, n1, n2, n3, n4, gz2, hz2, gz3] at hz3
   all_goals
   try simp only [go_sem, gz2, hz2, gz3] at fz3
   obtain ⟨z4, h⟩ := ck_some h
   rcases or_split z4 with ⟨gz4, z4⟩ | gz4
   ·try simp only [go_sem, n1, n2, n3, n4, gz2, hz2, gz3, hz3] at gz4
    all_goals
    obtain ⟨y_4, hz4⟩ := Option.isSome_iff_exists.1 z4
    have fz4 := Fs_31 hz4
    try simp only [go_sem, n1, n2, n3, n4, gz2, hz2, gz3, hz3, gz4] at hz4
    all_goals
    try simp only [go_sem, gz2, hz2, gz3, hz3, gz4] at fz4
    obtain ⟨z5, h⟩ := ck_some h
    rcases or_split z5 with ⟨gz5, z5⟩ | gz5
    ·try simp only [go_sem, n1, n2, n3, n4, gz2, hz2, gz3, hz3, gz4, hz4] at gz5
     all_goals
     obtain ⟨y_5, hz5⟩ := Option.isSome_iff_exists.1 z5
     have fz5 := Fs_31 hz5
     try simp only [go_sem, n1, n2, n3, n4, gz2, hz2, gz3, hz3, gz4, hz4, gz5] at hz5
     all_goals
     try simp only [go_sem, gz2, hz2, gz3, hz3, gz4, hz4, gz5] at fz5
     obtain rfl := so_some h
     refine ⟨0, fun L hL => ?_⟩
     simp only [go_sem, ir42, fz1, gz2, hz2, fz2, gz3, hz3, fz3, gz4, hz4, fz4, gz5, hz5, fz5]
    ·rcases and_f gz5 with gz5a | ⟨gz5a, gz5b⟩
     ·try simp only [go_sem, n1, n2, n3, n4, gz2, hz2, gz3, hz3, gz4, hz4] at gz5a
      all_goals
      (simp_all)
     ·obtain ⟨gz5aa, gz5ab⟩ := and_t gz5a
      obtain ⟨gz5aaa, gz5aab⟩ := and_t gz5aa
      try simp only [go_sem, n1, n2, n3, n4, gz2, hz2, gz3, hz3, gz4, hz4] at gz5aaa
      all_goals
      try simp only [go_sem, n1, n2, n3, n4, gz2, hz2, gz3, hz3, gz4, hz4, gz5aaa] at gz5aab
      all_goals
      try simp only [go_sem, n1, n2, n3, n4, gz2, hz2, gz3, hz3, gz4, hz4, gz5aaa, gz5aab] at gz5ab
      all_goals
      try simp only [go_sem, n1, n2, n3, n4, gz2, hz2, gz3, hz3, gz4, hz4, gz5aaa, gz5aab, gz5ab] at gz5b
      all_goals
      obtain rfl := so_some h
      refine ⟨0, fun L hL => ?_⟩
      simp only [go_sem, ir42, fz1, gz2, hz2, fz2, gz3, hz3, fz3, gz4, hz4, fz4, gz5aaa, gz5aab, gz5ab, gz5b]
   ·rcases and_f gz4 with gz4a | ⟨gz4a, gz4b⟩
    ·try simp only [go_sem, n1, n2, n3, n4, gz2, hz2, gz3, hz3] at gz4a
     all_goals
     (simp_all)
    ·obtain ⟨gz4aa, gz4ab⟩ := and_t gz4a
     try simp only [go_sem, n1, n2, n3, n4, gz2, hz2, gz3, hz3] at gz4aa
     all_goals
     try simp only [go_sem, n1, n2, n3, n4, gz2, hz2, gz3, hz3, gz4aa] at gz4ab
     all_goals
     try simp only [go_sem, n1, n2, n3, n4, gz2, hz2, gz3, hz3, gz4aa, gz4ab] at gz4b
     all_goals
     obtain ⟨z5, h⟩ := ck_some h
     obtain rfl := so_some h
     refine ⟨0, fun L hL => ?_⟩
     simp only [go_sem, ir42, fz1, gz2, hz2, fz2, gz3, hz3, fz3, gz4aa, gz4ab, gz4b]
  ·rcases and_f gz3 with gz3a | ⟨gz3a, gz3b⟩
   ·try simp only [go_sem, n1, n2, n3, n4, gz2, hz2] at gz3a
    all_goals
    (simp_all)
   ·try simp only [go_sem, n1, n2, n3, n4, gz2, hz2] at gz3a
    all_goals
    try simp only [go_sem, n1, n2, n3, n4, gz2, hz2, gz3a] at gz3b
    all_goals
    obtain ⟨z4, h⟩ := ck_some h
    obtain ⟨z5, h⟩ := ck_some h
    obtain rfl := so_some h
    refine ⟨0, fun L hL => ?_⟩
    simp only [go_sem, ir42, fz1, gz2, hz2, fz2, gz3a, gz3b]
 ·try simp only [go_sem, n1, n2, n3, n4] at gz2
  all_goals
  obtain ⟨z3, h⟩ := ck_some h
  obtain ⟨z4, h⟩ := ck_some h
  obtain ⟨z5, h⟩ := ck_some h
  obtain rfl := so_some h
  refine ⟨0, fun L hL => ?_⟩
  simp only [go_sem, ir42, fz1, gz2]


def ir41_b0 : IR := .seq (.test false [ PM 4 2, PM 5 0, PO 6 (.len false (.s 0)), PO 7 (.bin false .lss (.s 2) (.s 0))] (.s 0) (.skip) (.exit 0)) (.seq (.block 1 (.anyo 23 [ SO 0 10 (.mov (.v 0)), SO 1 11 (.mov (.v 2)), SO 2 12 (.ixAddr 5 (.s 0) (.s 1)), SO 3 13 (.callp 42 [(.s 2)]), SO 4 14 (.un .not (.s 3)), SO 5 15 (.mov (.s 4)), ⟨.slot 6, 16, (some ((.s 5), false)), .mov (.v 2)⟩, ⟨.slot 7, 17, (some ((.s 5), false)), .bin false .gtr (.s 6) (I6 0)⟩, ⟨.slot 8, 18, (some ((.s 5), false)), .mov (.s 7)⟩, ⟨.slot 9, 19, (some ((.s 8), true)), .mov (.v 0)⟩, ⟨.slot 10, 20, (some ((.s 8), true)),
 .mov (.v 2)⟩, ⟨.slot 11, 21, (some ((.s 8), true)), .bin false .sub (.s 10) (I6 1)⟩, ⟨.slot 12, 22, (some ((.s 8), true)), .ixAddr 5 (.s 9) (.s 11)⟩, ⟨.slot 13, 23, (some ((.s 8), true)), .fldAddr 0 (.s 12)⟩, ⟨.slot 14, 24, (some ((.s 8), true)), .load false 1 (.s 13)⟩, ⟨.slot 15, 25, (some ((.s 8), true)), .mov (.v 0)⟩, ⟨.slot 16, 26, (some ((.s 8), true)), .mov (.v 2)⟩, ⟨.slot 17, 27, (some ((.s 8), true)), .ixAddr 5 (.s 15) (.s 16)⟩, ⟨.slot 18, 28, (some ((.s 8), true)), .fldAddr 0 (.s 17)⟩, ⟨.slot 19, 29, (some ((.s 8), true)), .load false 1 (.s 18)⟩, ⟨.slot 20, 30, (some ((.s 8), true)),
 .bin false .geq (.s 14) (.s 19)⟩, ⟨.slot 21, 31, (some ((.s 5), false)), .pick (.s 8) (.s 20) (.c (.bool false))⟩, SO 22 32 (.pick (.s 5) (.c (.bool true)) (.s 21))] [] (.cond (.s 22) (.seq (.region false [ VO 1 2 (.mov (.c (.bool false)))]) (.ret)) (.skip)))) (.region false [ PM 8 2, PO 9 (.bin false .add (.s 0) (I6 1)), VS 2 3 0]))
def ir41_k0 : List Bool := [true, false, true]
def ir41_o0 : List Bool := [true, false, false]
def ir41_r0 : List Bool := [false, true, false]
def ir41_v : List Nat := [0, 2, 3]
def ir41 : AFn := ⟨1, 3, .seq (.region false [ VO 1 2 (.mov (.c (.bool false)))]) (.seq (.seq (.region false [ VO 2 3 (.mov (I6 0))]) (.block 0 (.loop ir41_k0 ir41_o0 ir41_r0 ir41_b0))) (.seq (.region false [ PM 33 0, PO 34 (.len false (.s 0)), PO 35 (.bin false .leq (.s 0) (I6 40)), VS 1 2 0]) (.ret))), [.t 1]⟩
noncomputable def t_34 : List (Nat × Ctr) := [(42, c_33)]
theorem lk_34_42 : look t_34 42 = some c_33 := rfl
noncomputable def c_34 : Ctr := mkF t_34 ir41 [.bor]
theorem s_34 : Sound Tryz.prog 41 c_34 := mkF_sound _ rfl (snd_cons s_33 snd_nil) (by kernel_rfl : chkFn Tryz.prog 41 ir41 ir41_v = true)
theorem M_34 : c_34.modes = [.bor] := rfl
theorem Fl_34 : c_34.flat = true := rfl
attribute [go_sem] M_34 Fl_34
attribute [go_sem] lk_34_42
def E_34_l1 (list : List Volume) : Int → St
 | i => ⟨[.sl 5 (List.map Volume_av list), .any, .int .i64 i], [], [], true⟩
def R_34_l1 (list : List Volume) : (Unit ⊕ Bool) → Res
 | .inl y => (.exit 0, ⟨[.sl 5 (List.map Volume_av list), .any, .any], [], [], true⟩)
 | .inr y => (.ret, ⟨[.any, .bool y, .any], [], [], true⟩)
theorem spec_l23Ok_l1_ex {list : List Volume} {sgm_ : Int} {rho_ : Unit ⊕ Bool} (h : whileE (spec_l23Ok_l1 list) sgm_ = some rho_) : ∃ L0, ∀ L, L0 ≤ L → iter (exec (look t_34) L ir41_b0) ir41_k0 ir41_o0 ir41_r0 L (E_34_l1 list sgm_) = R_34_l1 list rho_ := by
 refine loop_ex (E := E_34_l1 list) (R := R_34_l1 list) (fun y => by first | (intro c; cases c) | (rcases y with y | y <;> (intro c; cases c)) | (rcases y with y | y | y <;> (intro c; cases c))) ?_ h
 clear h
 intro i o_ h
 dsimp only [spec_l23Ok_l1] at h
 rcases it_some h with ⟨z1, h⟩ | ⟨z1, h⟩
 ·try simp only [go_sem, n1, n2, n3, n4] at z1
  all_goals
  obtain ⟨z2, h⟩ := ck_some h
  have lz2 := ix_lt z2
  have xz2 := getD_mapD Volume_av list lz2
  try simp only [go_sem] at lz2
  try simp only [go_sem] at xz2
  try simp only [go_sem, n1, n2, n3, n4, z1] at z2
  all_goals
  obtain ⟨y_3, z3, h⟩ := bd_some h
  have fz3 := Fs_33 z3
  try simp only [go_sem, z1, z2] at fz3
  obtain ⟨z4, h⟩ := ck_some h
  rcases or_split z4 with ⟨gz4, z4⟩ | gz4
  ·try simp only [go_sem, n1, n2, n3, n4, z1, z2] at gz4
   all_goals
   have lz4 := ix_lt z4
   have xz4 := getD_mapD Volume_av list lz4
   try simp only [go_sem] at lz4
   try simp only [go_sem] at xz4
   try simp only [go_sem, n1, n2, n3, n4, z1, z2, gz4] at z4
   all_goals
   rcases it_some h with ⟨z5, h⟩ | ⟨z5, h⟩
   ·try simp only [go_sem, n1, n2, n3, n4, z1, z2, gz4, z4] at z5
    all_goals
    obtain rfl := so_some h
    refine ⟨0, fun L hL => ?_⟩
    simp only [go_sem, ir41, E_34_l1, R_34_l1, ir41_b0, ir41_k0, ir41_o0, ir41_r0, z1, z2, lz2, xz2, fz3, gz4, z4, lz4, xz4, z5]
   ·try simp only [go_sem, n1, n2, n3, n4, z1, z2, gz4, z4] at z5
    all_goals
    obtain rfl := so_some h
    refine ⟨0, fun L hL => ?_⟩
    simp only [go_sem, ir41, E_34_l1, R_34_l1, ir41_b0, ir41_k0, ir41_o0, ir41_r0, z1, z2, lz2, xz2, fz3, gz4, z4, lz4, xz4, z5]
  ·rcases and_f gz4 with gz4a | ⟨gz4a, gz4b⟩
   ·have gz4an := no_f gz4a
    have gz4ann := no_t gz4an
    try simp only [go_sem, n1, n2, n3, n4, z1, z2] at gz4ann
    all_goals
    rcases it_some h with ⟨z5, h⟩ | ⟨z5, h⟩
    ·try simp only [go_sem, n1, n2, n3, n4, z1, z2, gz4ann] at z5
     all_goals
     obtain rfl := so_some h
     refine ⟨0, fun L hL => ?_⟩
     simp only [go_sem, ir41, E_34_l1, R_34_l1, ir41_b0, ir41_k0, ir41_o0, ir41_r0, z1, z2, lz2, xz2, fz3, gz4ann, z5]
    ·try simp only [go_sem, n1, n2, n3, n4, z1, z2, gz4ann] at z5
     all_goals
     (simp_all)
   ·have gz4an := no_t gz4a
    have gz4ann := no_f gz4an
    try simp only [go_sem, n1, n2, n3, n4, z1, z2] at gz4ann
    all_goals
    try simp only [go_sem, n1, n2, n3, n4, z1, z2, gz4ann] at gz4b
    all_goals
    rcases it_some h with ⟨z5, h⟩ | ⟨z5, h⟩
    ·try simp only [go_sem, n1, n2, n3, n4, z1, z2, gz4ann, gz4b] at z5
     all_goals
     (simp_all)
    ·try simp only [go_sem, n1, n2, n3, n4, z1, z2, gz4ann, gz4b] at z5
     all_goals
     obtain rfl := so_some h
     refine ⟨0, fun L hL => ?_⟩
     simp only [go_sem, ir41, E_34_l1, R_34_l1, ir41_b0, ir41_k0, ir41_o0, ir41_r0, z1, z2, lz2, xz2, fz3, gz4ann, gz4b, z5]
 ·try simp only [go_sem, n1, n2, n3, n4] at z1
  all_goals
  obtain rfl := so_some h
  refine ⟨0, fun L hL => ?_⟩
  simp only [go_sem, ir41, E_34_l1, R_34_l1, ir41_b0, ir41_k0, ir41_o0, ir41_r0, z1]

theorem Fs_34 {list : List Volume} {y_ : Bool} (h : spec_l23Ok list = some y_) : c_34.F [.sl 5 (List.map Volume_av list)] = ⟨true, .bool y_, [.any]⟩ := by
 refine mkF_E rfl ?_
 dsimp only [spec_l23Ok] at h
 obtain ⟨y_6, z6, h⟩ := bd_some h
 obtain ⟨Lz6, ez6⟩ := spec_l23Ok_l1_ex z6
 rcases y_6 with y_6a | y_6b
 ·dsimp only at h
  obtain rfl := so_some h
  refine ⟨Lz6, fun L hL => ?_⟩
  have ez6 := ez6 L (by omega)
  try simp only [go_sem, E_34_l1, R_34_l1, ir41_k0, ir41_o0, ir41_r0] at ez6
  simp only [go_sem, ir41, E_34_l1, R_34_l1, ir41_k0, ir41_o0, ir41_r0, ez6]
 ·dsimp only at h
  obtain rfl := so_some h
  refine ⟨Lz6, fun L hL => ?_⟩
  have ez6 := ez6 L (by omega)
  try simp only [go_sem, E_34_l1, R_34_l1, ir41_k0, ir41_o0, ir41_r0] at ez6
  simp only [go_sem, ir41, E_34_l1, R_34_l1, ir41_k0, ir41_o0, ir41_r0, ez6]


def ir43_b0 : IR := .seq (.test false [ PM 6 3, PM 7 0, PO 8 (.len false (.s 0)), PO 9 (.bin false .lss (.s 2) (.s 0))] (.s 0) (.skip) (.exit 0)) (.seq (.block 1 (.test false [ PM 12 0, PM 13 3, PO 14 (.ixAddr 5 (.s 1) (.s 0)), PO 15 (.fldAddr 0 (.s 0)), PO 16 (.load false 1 (.s 0)), PM 17 1, PO 18 (.bin false .eql (.s 1) (.s 0))] (.s 0) (.seq (.region false [ PM 19 3, VS 2 4 0]) (.ret)) (.skip))) (.region false [ PM 10 3, PO 11 (.bin false .add (.s 0) (I6 1)), VS 3 5 0]))
def ir43_k0 : List Bool := [true, true, false, true]
def ir43_o0 : List Bool := [false, false, false, false]
def ir43_r0 : List Bool := [false, false, true, false]
def ir43_v : List Nat := [0, 1, 4, 5]
def ir43 : AFn := ⟨2, 4, .seq (.region false [ VO 2 4 (.mov (I6 0))]) (.seq (.seq (.region false [ VO 3 5 (.mov (I6 0))]) (.block 0 (.loop ir43_k0 ir43_o0 ir43_r0 ir43_b0))) (.seq (.region false [ VO 2 4 (.mov (.c (.int .i64 (-1))))]) (.ret))), [.t 2]⟩
noncomputable def t_35 : List (Nat × Ctr) := []
noncomputable def c_35 : Ctr := mkF t_35 ir43 [.bor, .bor]
theorem s_35 : Sound Tryz.prog 43 c_35 := mkF_sound _ rfl snd_nil (by kernel_rfl : chkFn Tryz.prog 43 ir43 ir43_v = true)
theorem M_35 : c_35.modes = [.bor, .bor] := rfl
theorem Fl_35 : c_35.flat = true := rfl
attribute [go_sem] M_35 Fl_35
def E_35_l1 (list : List Volume) (name : List UInt8) : Int → St
 | i => ⟨[.sl 5 (List.map Volume_av list), .str name, .any, .int .i64 i], [], [], true⟩
def R_35_l1 (list : List Volume) (name : List UInt8) : (Unit ⊕ Int) → Res
 | .inl y => (.exit 0, ⟨[.any, .any, .any, .any], [], [], true⟩)
 | .inr y => (.ret, ⟨[.any, .any, .int .i64 y, .any], [], [], true⟩)
theorem spec_l23Find_l1_ex {list : List Volume} {name : List UInt8} {sgm_ : Int} {rho_ : Unit ⊕ Int} (h : whileE (spec_l23Find_l1 list name) sgm_ = some rho_) : ∃ L0, ∀ L, L0 ≤ L → iter (exec (look t_35) L ir43_b0) ir43_k0 ir43_o0 ir43_r0 L (E_35_l1 list name sgm_) = R_35_l1 list name rho_ := by
 refine loop_ex (E := E_35_l1 list name) (R := R_35_l1 list name) (fun y => by first | (intro c; cases c) | (rcases y with y | y <;> (intro c; cases c)) | (rcases y with y | y | y <;> (intro c; cases c))) ?_ h
 clear h
 intro i o_ h
 dsimp only [spec_l23Find_l1] at h
 rcases it_some h with ⟨z1, h⟩ | ⟨z1, h⟩
 ·try simp only [go_sem, n1, n2, n3, n4] at z1
  all_goals
  obtain ⟨z2, h⟩ := ck_some h
  have lz2 := ix_lt z2
  have xz2 := getD_mapD Volume_av list lz2
  try simp only [go_sem] at lz2
  try simp only [go_sem] at xz2
  try simp only [go_sem, n1, n2, n3, n4, z1] at z2
  all_goals
  rcases it_some h with ⟨z3, h⟩ | ⟨z3, h⟩
  ·try simp only [go_sem, n1, n2, n3, n4, z1, z2] at z3
   all_goals
   obtain rfl := so_some h
   refine ⟨0, fun L hL => ?_⟩
   simp only [go_sem, ir43, E_35_l1, R_35_l1, ir43_b0, ir43_k0, ir43_o0, ir43_r0, z1, z2, lz2, xz2, z3]
  ·try simp only [go_sem, n1, n2, n3, n4, z1, z2] at z3
   all_goals
   obtain rfl := so_some h
   refine ⟨0, fun L hL => ?_⟩
   simp only [go_sem, ir43, E_35_l1, R_35_l1, ir43_b0, ir43_k0, ir43_o0, ir43_r0, z1, z2, lz2, xz2, z3]
 ·try simp only [go_sem, n1, n2, n3, n4] at z1
  all_goals
  obtain rfl := so_some h
  refine ⟨0, fun L hL => ?_⟩
  simp only [go_sem, ir43, E_35_l1, R_35_l1, ir43_b0, ir43_k0, ir43_o0, ir43_r0, z1]

theorem Fs_35 {list : List Volume} {name : List UInt8} {y_ : Int} (h : spec_l23Find list name = some y_) : c_35.F [.sl 5 (List.map Volume_av list), .str name] = ⟨true, .int .i64 y_, [.any, .any]⟩ := by
 refine mkF_E rfl ?_
 dsimp only [spec_l23Find] at h
 obtain ⟨y_4, z4, h⟩ := bd_some h
 obtain ⟨Lz4, ez4⟩ := spec_l23Find_l1_ex z4
 rcases y_4 with y_4a | y_4b
 ·dsimp only at h
  obtain rfl := so_some h
  refine ⟨Lz4, fun L hL => ?_⟩
  have ez4 := ez4 L (by omega)
  try simp only [go_sem, E_35_l1, R_35_l1, ir43_k0, ir43_o0, ir43_r0] at ez4
  simp only [go_sem, ir43, E_35_l1, R_35_l1, ir43_k0, ir43_o0, ir43_r0, ez4]
 ·dsimp only at h
  obtain rfl := so_some h
  refine ⟨Lz4, fun L hL => ?_⟩
  have ez4 := ez4 L (by omega)
  try simp only [go_sem, E_35_l1, R_35_l1, ir43_k0, ir43_o0, ir43_r0] at ez4
  simp only [go_sem, ir43, E_35_l1, R_35_l1, ir43_k0, ir43_o0, ir43_r0, ez4]


def ir7_b0 : IR := .seq (.anyo 13 [ SO 0 23 (.mov (.v 5)), SO 1 24 (.bin false .gtr (.s 0) (I6 0)), SO 2 25 (.mov (.s 1)), ⟨.slot 3, 26, (some ((.s 2), true)), .mov (.v 0)⟩, ⟨.slot 4, 27, (some ((.s 2), true)), .mov (.v 5)⟩, ⟨.slot 5, 28, (some ((.s 2), true)), .bin false .sub (.s 4) (I6 1)⟩, ⟨.slot 6, 29, (some ((.s 2), true)), .ixAddr 5 (.s 3) (.s 5)⟩, ⟨.slot 7, 30, (some ((.s 2), true)), .fldAddr 0 (.s 6)⟩, ⟨.slot 8, 31, (some ((.s 2), true)), .load false 1 (.s 7)⟩, ⟨.slot 9, 32, (some ((.s 2), true)), .fldAddr 0 (.v 2)⟩, ⟨.slot 10, 33, (some ((.s 2), true)), .load false 1 (.s 9)⟩, ⟨.slot
 11, 34, (some ((.s 2), true)), .bin false .gtr (.s 8) (.s 10)⟩, SO 12 35 (.pick (.s 2) (.s 11) (.c (.bool false)))] [] (.cond (.s 12) (.skip) (.exit 0))) (.block 1 (.region false [ PM 36 5, PO 37 (.bin false .sub (.s 0) (I6 1)), VS 5 6 0]))
def ir7_k0 : List Bool := [true, false, true, false, false, true, false]
def ir7_o0 : List Bool := [true, false, true, false, false, true, false]
def ir7_r0 : List Bool := [false, false, false, true, true, false, false]
def ir7_v : List Nat := [0, 1, 3, 4, 5, 6, 7]
def ir7 : AFn := ⟨2, 7, .seq (.region false [ VO 2 3 (.box (.v 1)), VO 3 4 (.newnil 5), VO 4 5 (.mov (I6 0))]) (.seq (.test false [ PM 8 0, PO 9 (.call 41 [(.s 0)]), PO 10 (.un .not (.s 0))] (.s 0) (.seq (.region false [ VO 3 4 (.newnil 5), VO 4 5 (.mov (I6 1))]) (.ret)) (.skip)) (.seq (.test false [ PO 11 (.call 42 [(.v 2)]), PO 12 (.un .not (.s 0))] (.s 0) (.seq (.region false [ VO 3 4 (.newnil 5), VO 4 5 (.mov (I6 2))]) (.ret)) (.skip)) (.seq (.test false [ PM 13 0, PO 14 (.fldAddr 0 (.v 2)), PO 15 (.load false 1 (.s 0)), PO 16 (.call 43 [(.s 2), (.s 0)]), PO 17 (.bin false .geq (.s 0) (I6
 0))] (.s 0) (.seq (.region false [ VO 3 4 (.newnil 5), VO 4 5 (.mov (I6 4))]) (.ret)) (.skip)) (.seq (.test false [ PM 18 0, PO 19 (.len false (.s 0)), PO 20 (.bin false .geq (.s 0) (I6 40))] (.s 0) (.seq (.region false [ VO 3 4 (.newnil 5), VO 4 5 (.mov (I6 5))]) (.ret)) (.skip)) (.seq (.region false [ PM 21 0, PO 22 (.len false (.s 0)), VS 5 6 0]) (.seq (.block 0 (.loop ir7_k0 ir7_o0 ir7_r0 ir7_b0)) (.seq (.region false [ PO 38 (.mkSl 5 (.agg [.str [], .int .i64 (0), .int .i64 (0), .int .i64 (0), .int .i64 (0)]) 0 []), PM 39 0, PM 40 5, PO 41 (.slice 5 (.s 1) none (some (.s 0))), PO 42 (.app
 5 48 (.agg [.str [], .int .i64 (0), .int .i64 (0), .int .i64 (0), .int .i64 (0)]) (.s 3) (.s 0)), VS 6 7 0]) (.seq (.region false [ PM 43 6, PO 44 (.load true 5 (.v 2)), PO 45 (.mkSl 5 (.agg [.str [], .int .i64 (0), .int .i64 (0), .int .i64 (0), .int .i64 (0)]) 1 [(0, (.s 0))]), PO 46 (.app 5 48 (.agg [.str [], .int .i64 (0), .int .i64 (0), .int .i64 (0), .int .i64 (0)]) (.s 2) (.s 0)), VS 6 7 0]) (.seq (.region false [ PM 47 6, PM 48 0, PM 49 5, PO 50 (.slice 5 (.s 1) (some (.s 0)) none), PO 51 (.app 5 48 (.agg [.str [], .int .i64 (0), .int .i64 (0), .int .i64 (0), .int .i64 (0)]) (.s 3) (.s
 0)), VS 3 4 0, VO 4 5 (.mov (I6 0))]) (.ret)))))))))), [.t 3, .t 4]⟩
noncomputable def t_36 : List (Nat × Ctr) := [(41, c_34), (42, c_33), (43, c_35)]
theorem lk_36_41 : look t_36 41 = some c_34 := rfl
theorem lk_36_42 : look t_36 42 = some c_33 := rfl
theorem lk_36_43 : look t_36 43 = some c_35 := rfl
noncomputable def c_36 : Ctr := mkF t_36 ir7 [.bor, .bor]
theorem s_36 : Sound Tryz.prog 7 c_36 := mkF_sound _ rfl (snd_cons s_34 (snd_cons s_33 (snd_cons s_35 snd_nil))) (by kernel_rfl : chkFn Tryz.prog 7 ir7 ir7_v = true)
theorem M_36 : c_36.modes = [.bor, .bor] := rfl
theorem Fl_36 : c_36.flat = true := rfl
attribute [go_sem] M_36 Fl_36
attribute [go_sem] lk_36_41 lk_36_42 lk_36_43
def E_36_l1 (list : List Volume) (x : Volume) : Int → St
 | k => ⟨[.sl 5 (List.map Volume_av list), .any, .ref 3200000 0 0, .any, .any, .int .i64 k, .any], [], [(3200000, ⟨5, [Volume_av x]⟩)], true⟩
def R_36_l1 (list : List Volume) (x : Volume) (y : Int) : Res := (.exit 0, ⟨[.sl 5 (List.map Volume_av list), .any, .ref 3200000 0 0, .any, .any, .int .i64 y, .any], [], [(3200000, ⟨5, [Volume_av x]⟩)], true⟩)
theorem spec_StoreVolume_l1_ex {list : List Volume} {x : Volume} {sgm_ : Int} {rho_ : Int} (h : whileE (spec_StoreVolume_l1 list x) sgm_ = some rho_) : ∃ L0, ∀ L, L0 ≤ L → iter (exec (look t_36) L ir7_b0) ir7_k0 ir7_o0 ir7_r0 L (E_36_l1 list x sgm_) = R_36_l1 list x rho_ := by
 refine loop_ex (E := E_36_l1 list x) (R := R_36_l1 list x) (fun y => by first | (intro c; cases c) | (rcases y with y | y <;> (intro c; cases c)) | (rcases y with y | y | y <;> (intro c; cases c))) ?_ h
 clear h
 intro k o_ h
 dsimp only [spec_StoreVolume_l1] at h
 obtain ⟨z8, h⟩ := ck_some h
 rcases or_split z8 with ⟨gz8, z8⟩ | gz8
 ·try simp only [go_sem, n1, n2, n3, n4] at gz8
  all_goals
  have lz8 := ix_lt z8
  have xz8 := getD_mapD Volume_av list lz8
  try simp only [go_sem] at lz8
  try simp only [go_sem] at xz8
  try simp only [go_sem, n1, n2, n3, n4, gz8] at z8
  all_goals
  rcases it_some h with ⟨z9, h⟩ | ⟨z9, h⟩
  ·try simp only [go_sem, n1, n2, n3, n4, gz8, z8] at z9
   all_goals
   obtain rfl := so_some h
   refine ⟨0, fun L hL => ?_⟩
   simp only [go_sem, ir7, E_36_l1, R_36_l1, ir7_b0, ir7_k0, ir7_o0, ir7_r0, gz8, z8, lz8, xz8, z9]
  ·try simp only [go_sem, n1, n2, n3, n4, gz8, z8] at z9
   all_goals
   obtain rfl := so_some h
   refine ⟨0, fun L hL => ?_⟩
   simp only [go_sem, ir7, E_36_l1, R_36_l1, ir7_b0, ir7_k0, ir7_o0, ir7_r0, gz8, z8, lz8, xz8, z9]
 ·try simp only [go_sem, n1, n2, n3, n4] at gz8
  all_goals
  rcases it_some h with ⟨z9, h⟩ | ⟨z9, h⟩
  ·try simp only [go_sem, n1, n2, n3, n4, gz8] at z9
   all_goals
   (simp_all)
  ·try simp only [go_sem, n1, n2, n3, n4, gz8] at z9
   all_goals
   obtain rfl := so_some h
   refine ⟨0, fun L hL => ?_⟩
   simp only [go_sem, ir7, E_36_l1, R_36_l1, ir7_b0, ir7_k0, ir7_o0, ir7_r0, gz8, z9]

theorem Fs_36 {list : List Volume} {x : Volume} {y_ : (List Volume) × Int} (h : spec_StoreVolume list x = some y_) : c_36.F [.sl 5 (List.map Volume_av list), Volume_av x] = ⟨true, .tup [.fresh 5 (List.map Volume_av y_.1), .int .i64 y_.2], [.any, .any]⟩ := by
 refine mkF_E (by simp only [flatA, flatB, flat1, List.all_cons, List.all_nil, Bool.and_self, flatE_map (f := Volume_av) (fun _ => rfl)]) ?_
 dsimp only [spec_StoreVolume] at h
 obtain ⟨y_1, z1, h⟩ := bd_some h
 have fz1 := Fs_34 z1
 try simp only [go_sem] at fz1
 rcases it_some h with ⟨z2, h⟩ | ⟨z2, h⟩
 ·try simp only [go_sem, n1, n2, n3, n4] at z2
  all_goals
  obtain rfl := so_some h
  refine ⟨0, fun L hL => ?_⟩
  simp only [go_sem, ir7, E_36_l1, R_36_l1, ir7_k0, ir7_o0, ir7_r0, fz1, z2]
 ·try simp only [go_sem, n1, n2, n3, n4] at z2
  all_goals
  obtain ⟨y_3, z3, h⟩ := bd_some h
  have fz3 := Fs_33 z3
  try simp only [go_sem, z2] at fz3
  rcases it_some h with ⟨z4, h⟩ | ⟨z4, h⟩
  ·try simp only [go_sem, n1, n2, n3, n4, z2] at z4
   all_goals
   obtain rfl := so_some h
   refine ⟨0, fun L hL => ?_⟩
   simp only [go_sem, ir7, E_36_l1, R_36_l1, ir7_k0, ir7_o0, ir7_r0, fz1, z2, fz3, z4]
  ·try simp only [go_sem, n1, n2, n3, n4, z2] at z4
   all_goals
   obtain ⟨y_5, z5, h⟩ := bd_some h
   have fz5 := Fs_35 z5
   try simp only [go_sem, z2, z4] at fz5
   rcases it_some h with ⟨z6, h⟩ | ⟨z6, h⟩
   ·try simp only [go_sem, n1, n2, n3, n4, z2, z4] at z6
    all_goals
    obtain rfl := so_some h
    refine ⟨0, fun L hL => ?_⟩
    simp only [go_sem, ir7, E_36_l1, R_36_l1, ir7_k0, ir7_o0, ir7_r0, fz1, z2, fz3, z4, fz5, z6]
   ·try simp only [go_sem, n1, n2, n3, n4, z2, z4] at z6
    all_goals
    rcases it_some h with ⟨z7, h⟩ | ⟨z7, h⟩
    ·try simp only [go_sem, n1, n2, n3, n4, z2, z4, z6] at z7
     all_goals
     obtain rfl := so_some h
     refine ⟨0, fun L hL => ?_⟩
     simp only [go_sem, ir7, E_36_l1, R_36_l1, ir7_k0, ir7_o0, ir7_r0, fz1, z2, fz3, z4, fz5, z6, z7]
    ·try simp only [go_sem, n1, n2, n3, n4, z2, z4, z6] at z7
     all_goals
     obtain ⟨y_10, z10, h⟩ := bd_some h
     obtain ⟨Lz10, ez10⟩ := spec_StoreVolume_l1_ex z10
     obtain ⟨z11, h⟩ := ck_some h
     try simp only [go_sem, n1, n2, n3, n4, z2, z4, z6, z7] at z11
     all_goals
     obtain ⟨z12, h⟩ := ck_some h
     try simp only [go_sem, n1, n2, n3, n4, z2, z4, z6, z7, z11] at z12
     all_goals
     obtain ⟨z13, h⟩ := ck_some h
     try simp only [go_sem, n1, n2, n3, n4, z2, z4, z6, z7, z11, z12] at z13
     all_goals
     obtain ⟨z14, h⟩ := ck_some h
     try simp only [go_sem, n1, n2, n3, n4, z2, z4, z6, z7, z11, z12, z13] at z14
     all_goals
     obtain ⟨z15, h⟩ := ck_some h
     try simp only [go_sem, n1, n2, n3, n4, z2, z4, z6, z7, z11, z12, z13, z14] at z15
     all_goals
     obtain rfl := so_some h
     refine ⟨Lz10, fun L hL => ?_⟩
     have ez10 := ez10 L (by omega)
     try simp only [go_sem, E_36_l1, R_36_l1, ir7_k0, ir7_o0, ir7_r0, z2, z4, z6, z7, z11, z12, z13, z14, z15] at ez10
     simp only [go_sem, ir7, E_36_l1, R_36_l1, ir7_k0, ir7_o0, ir7_r0, fz1, z2, fz3, z4, fz5, z6, z7, z11, z12, z13, z14, z15, ez10]


def ir8_v : List Nat := [0, 2, 3, 4, 5]
def ir8 : AFn := ⟨1, 5, .seq (.region false [ VO 1 2 (.newnil 5), VO 2 3 (.mov (.c (.str [])))]) (.seq (.region false [ PM 6 0, PO 7 (.call 31 [(.s 0)]), VS 3 4 0]) (.seq (.region false [ PM 8 3, PO 9 (.call 32 [(.s 0)]), VS 4 5 0]) (.seq (.test false [ PM 10 4, PO 11 (.len false (.s 0)), PO 12 (.bin false .gtr (.s 0) (I6 0)), PO 13 (.mov (.s 0)), ⟨.push, 14, (some ((.s 0), true)), .mov (.v 3)⟩, ⟨.push, 15, (some ((.s 1), true)), .callw 35 [(.s 0), (I6 8)]⟩, PO 16 (.pick (.s 2) (.s 0) (.c (.bool false)))] (.s 0) (.seq (.region false [ PM 17 4, PO 18 (.ixAddr 5 (.s 0) (I6 0)), PO 19 (.fldAddr 4
 (.s 0)), ⟨.no, 0, none, .store 1 (.s 0) (I6 5)⟩]) (.seq (.anyo 5 [ SO 0 20 (.mov (.v 4)), SO 1 21 (.mov (.v 4)), SO 2 22 (.ixAddr 5 (.s 1) (I6 0)), SO 3 23 (.fldAddr 0 (.s 2)), SO 4 24 (.load false 1 (.s 3)), VS 1 2 0, VS 2 3 4] [] .skip) (.ret))) (.skip)) (.seq (.region false [ PM 25 4, PM 26 3, PO 27 (.call 33 [(.s 0)]), VS 1 2 2, VS 2 3 0]) (.ret))))), [.t 1, .t 2]⟩
noncomputable def t_37 : List (Nat × Ctr) := [(31, c_1), (32, c_10), (35, c_4), (33, c_11)]
theorem lk_37_31 : look t_37 31 = some c_1 := rfl
theorem lk_37_32 : look t_37 32 = some c_10 := rfl
theorem lk_37_35 : look t_37 35 = some c_4 := rfl
theorem lk_37_33 : look t_37 33 = some c_11 := rfl
noncomputable def c_37 : Ctr := mkF t_37 ir8 [.bor]
theorem s_37 : Sound Tryz.prog 8 c_37 := mkF_sound _ rfl (snd_cons s_1 (snd_cons s_10 (snd_cons s_4 (snd_cons s_11 snd_nil)))) (by kernel_rfl : chkFn Tryz.prog 8 ir8 ir8_v = true)
theorem M_37 : c_37.modes = [.bor] := rfl
theorem Fl_37 : c_37.flat = true := rfl
attribute [go_sem] M_37 Fl_37
attribute [go_sem] lk_37_31 lk_37_32 lk_37_35 lk_37_33
theorem Fs_37 {code : List UInt8} {y_ : (List Volume) × (List UInt8)} (h : spec_DrawCopyVolume code = some y_) : c_37.F [.sl 1 (List.map byteAV code)] = ⟨true, .tup [.fresh 5 (List.map Volume_av y_.1), .str y_.2], [.any]⟩ := by
 refine mkF_E (by simp only [flatA, flatB, flat1, List.all_cons, List.all_nil, Bool.and_self, flatE_map (f := Volume_av) (fun _ => rfl)]) ?_
 dsimp only [spec_DrawCopyVolume] at h
 obtain ⟨y_1, z1, h⟩ := bd_some h
 have fz1 := Fs_1 z1
 try simp only [go_sem] at fz1
 obtain ⟨y_2, z2, h⟩ := bd_some h
 have fz2 := Fs_10 z2
 try simp only [go_sem] at fz2
 rcases it_some h with ⟨z3, h⟩ | ⟨z3, h⟩
 ·try simp only [go_sem, n1, n2, n3, n4] at z3
  all_goals
  obtain ⟨y_4, z4, h⟩ := bd_some h
  have fz4 := Fs_4 z4
  try simp only [go_sem, z3] at fz4
  rcases it_some h with ⟨z5, h⟩ | ⟨z5, h⟩
  ·try simp only [go_sem, n1, n2, n3, n4, z3] at z5
   all_goals
   obtain ⟨z6, h⟩ := ck_some h
   have lz6 := ix_lt z6
   have xz6 := getD_mapD Volume_av y_2.1 lz6
   try simp only [go_sem] at lz6
   try simp only [go_sem] at xz6
   try simp only [go_sem, n1, n2, n3, n4, z3, z5] at z6
   all_goals
   obtain rfl := so_some h
   refine ⟨0, fun L hL => ?_⟩
   simp only [go_sem, ir8, fz1, fz2, z3, fz4, z5, z6, lz6, xz6]
  ·try simp only [go_sem, n1, n2, n3, n4, z3] at z5
   all_goals
   obtain ⟨y_7, z7, h⟩ := bd_some h
   have fz7 := Fs_11 z7
   try simp only [go_sem, z3, z5] at fz7
   obtain rfl := so_some h
   refine ⟨0, fun L hL => ?_⟩
   simp only [go_sem, ir8, fz1, fz2, z3, fz4, z5, fz7]
 ·try simp only [go_sem, n1, n2, n3, n4] at z3
  all_goals
  obtain ⟨y_8, z8, h⟩ := bd_some h
  have fz8 := Fs_11 z8
  try simp only [go_sem, z3] at fz8
  obtain rfl := so_some h
  refine ⟨0, fun L hL => ?_⟩
  simp only [go_sem, ir8, fz1, fz2, z3, fz8]


def ir44_v : List Nat := [0, 1, 2, 6, 7, 8, 9, 10]
def ir44 : AFn := ⟨3, 8, .seq (.region false [ VO 3 6 (.newnil 5), VO 4 7 (.mov (I6 0))]) (.seq (.test false [ PM 11 0, PO 12 (.call 27 [(.s 0)]), PO 13 (.un .not (.s 0))] (.s 0) (.seq (.region false [ VO 3 6 (.newnil 5), VO 4 7 (.mov (I6 1))]) (.ret)) (.skip)) (.seq (.region false [ PM 15 0, PM 16 1, PO 17 (.call 38 [(.s 1), (.s 0)]), PO 14 (.mov (.s 0)), PO 18 (.ext (.s 0) 0), PO 19 (.ext (.s 1) 1), VS 5 8 1, VS 6 9 0]) (.seq (.block 0 (.test false [ PM 21 6, PO 22 (.bin false .neq (.s 0) (I6 0)), PO 20 (.mov (.s 0))] (.s 0) (.seq (.region false [ PM 23 6, VO 3 6 (.newnil 5), VS 4 7 0])
 (.ret)) (.test false [ PM 25 0, PM 26 5, PO 27 (.ixAddr 5 (.s 1) (.s 0)), PO 28 (.fldAddr 4 (.s 0)), PO 29 (.load false 1 (.s 0)), PO 30 (.bin false .eql (.s 0) (I6 0)), PO 24 (.mov (.s 0))] (.s 0) (.seq (.region false [ VO 3 6 (.newnil 5), VO 4 7 (.mov (I6 6))]) (.ret)) (.test false [ PM 32 0, PM 33 5, PO 34 (.ixAddr 5 (.s 1) (.s 0)), PO 35 (.fldAddr 4 (.s 0)), PO 36 (.load false 1 (.s 0)), PM 37 2, PO 38 (.bin false .add (.s 1) (.s 0)), PO 39 (.bin false .gtr (.s 0) (I6 5)), PO 31 (.mov (.s 0))] (.s 0) (.seq (.region false [ VO 3 6 (.newnil 5), VO 4 7 (.mov (I6 5))]) (.ret)) (.skip)))))
 (.seq (.region false [ PM 40 0, PO 41 (.call 71 [(.s 0)]), VS 7 10 0]) (.seq (.region false [ PM 42 7, PM 43 5, PO 44 (.ixAddr 5 (.s 1) (.s 0)), PO 45 (.fldAddr 4 (.s 0)), PO 46 (.load false 1 (.s 0)), PM 47 2, PO 48 (.bin false .add (.s 1) (.s 0)), PO 49 (.ixAddr 5 (.s 6) (.s 5)), PO 50 (.fldAddr 4 (.s 0)), ⟨.no, 0, none, .store 1 (.s 0) (.s 2)⟩]) (.seq (.region false [ PM 51 7, VS 3 6 0, VO 4 7 (.mov (I6 0))]) (.ret))))))), [.t 3, .t 4]⟩
noncomputable def t_38 : List (Nat × Ctr) := [(27, c_19), (38, c_23), (71, c_24)]
theorem lk_38_27 : look t_38 27 = some c_19 := rfl
theorem lk_38_38 : look t_38 38 = some c_23 := rfl
theorem lk_38_71 : look t_38 71 = some c_24 := rfl
noncomputable def c_38 : Ctr := mkF t_38 ir44 [.bor, .bor, .bor]
theorem s_38 : Sound Tryz.prog 44 c_38 := mkF_sound _ rfl (snd_cons s_19 (snd_cons s_23 (snd_cons s_24 snd_nil))) (by kernel_rfl : chkFn Tryz.prog 44 ir44 ir44_v = true)
theorem M_38 : c_38.modes = [.bor, .bor, .bor] := rfl
theorem Fl_38 : c_38.flat = true := rfl
attribute [go_sem] M_38 Fl_38
attribute [go_sem] lk_38_27 lk_38_38 lk_38_71
theorem Fs_38 {list : List Volume} {name : List UInt8} {by_ : Int} {y_ : (List Volume) × Int} (h : impl_changeCopies list name by_ = some y_) : c_38.F [.sl 5 (List.map Volume_av list), .str name, .int .i64 by_] = ⟨true, .tup [.fresh 5 (List.map Volume_av y_.1), .int .i64 y_.2], [.any, .any, .any]⟩ := by
 refine mkF_E (by simp only [flatA, flatB, flat1, List.all_cons, List.all_nil, Bool.and_self, flatE_map (f := Volume_av) (fun _ => rfl)]) ?_
 dsimp only [impl_changeCopies] at h
 obtain ⟨y_1, z1, h⟩ := bd_some h
 have fz1 := Fs_19 z1
 try simp only [go_sem] at fz1
 rcases it_some h with ⟨z2, h⟩ | ⟨z2, h⟩
 ·try simp only [go_sem, n1, n2, n3, n4] at z2
  all_goals
  obtain rfl := so_some h
  refine ⟨0, fun L hL => ?_⟩
  simp only [go_sem, ir44, fz1, z2]
 ·try simp only [go_sem, n1, n2, n3, n4] at z2
  all_goals
  obtain ⟨y_3, z3, h⟩ := bd_some h
  have fz3 := Fs_23 z3
  try simp only [go_sem, z2] at fz3
  rcases it_some h with ⟨z4, h⟩ | ⟨z4, h⟩
  ·try simp only [go_sem, n1, n2, n3, n4, z2] at z4
   all_goals
   obtain rfl := so_some h
   refine ⟨0, fun L hL => ?_⟩
   simp only [go_sem, ir44, fz1, z2, fz3, z4]
  ·try simp only [go_sem, n1, n2, n3, n4, z2] at z4
   all_goals
   obtain ⟨z5, h⟩ := ck_some h
   have lz5 := ix_lt z5
   have xz5 := getD_mapD Volume_av list lz5
   try simp only [go_sem] at lz5
   try simp only [go_sem] at xz5
   try simp only [go_sem, n1, n2, n3, n4, z2, z4] at z5
   all_goals
   rcases it_some h with ⟨z6, h⟩ | ⟨z6, h⟩
   ·try simp only [go_sem, n1, n2, n3, n4, z2, z4, z5] at z6
    all_goals
    obtain rfl := so_some h
    refine ⟨0, fun L hL => ?_⟩
    simp only [go_sem, ir44, fz1, z2, fz3, z4, z5, lz5, xz5, z6]
   ·try simp only [go_sem, n1, n2, n3, n4, z2, z4, z5] at z6
    all_goals
    rcases it_some h with ⟨z7, h⟩ | ⟨z7, h⟩
    ·try simp only [go_sem, n1, n2, n3, n4, z2, z4, z5, z6] at z7
     all_goals
     obtain rfl := so_some h
     refine ⟨0, fun L hL => ?_⟩
     simp only [go_sem, ir44, fz1, z2, fz3, z4, z5, lz5, xz5, z6, z7]
    ·try simp only [go_sem, n1, n2, n3, n4, z2, z4, z5, z6] at z7
     all_goals
     obtain ⟨y_8, z8, h⟩ := bd_some h
     have fz8 := Fs_24 z8
     try simp only [go_sem, z2, z4, z5, z6, z7] at fz8
     obtain ⟨z9, h⟩ := ck_some h
     have lz9 := ix_lt z9
     have xz9 := getD_mapD Volume_av y_8 lz9
     try simp only [go_sem] at lz9
     try simp only [go_sem] at xz9
     try simp only [go_sem, n1, n2, n3, n4, z2, z4, z5, z6, z7] at z9
     all_goals
     obtain rfl := so_some h
     refine ⟨0, fun L hL => ?_⟩
     simp only [go_sem, ir44, fz1, z2, fz3, z4, z5, lz5, xz5, z6, z7, fz8, z9, lz9, xz9]


def ir9_v : List Nat := [0, 1, 4, 5]
def ir9 : AFn := ⟨2, 4, .seq (.region false [ VO 2 4 (.newnil 5), VO 3 5 (.mov (I6 0))]) (.seq (.region false [ PM 6 0, PM 7 1, PO 8 (.call 44 [(.s 1), (.s 0), (I6 1)]), PO 9 (.ext (.s 0) 0), PO 10 (.ext (.s 1) 1), VS 2 4 1, VS 3 5 0]) (.ret)), [.t 2, .t 3]⟩
noncomputable def t_39 : List (Nat × Ctr) := [(44, c_38)]
theorem lk_39_44 : look t_39 44 = some c_38 := rfl
noncomputable def c_39 : Ctr := mkF t_39 ir9 [.bor, .bor]
theorem s_39 : Sound Tryz.prog 9 c_39 := mkF_sound _ rfl (snd_cons s_38 snd_nil) (by kernel_rfl : chkFn Tryz.prog 9 ir9 ir9_v = true)
theorem M_39 : c_39.modes = [.bor, .bor] := rfl
theorem Fl_39 : c_39.flat = true := rfl
attribute [go_sem] M_39 Fl_39
attribute [go_sem] lk_39_44
theorem Fs_39 {list : List Volume} {name : List UInt8} {y_ : (List Volume) × Int} (h : impl_CopyVolume list name = some y_) : c_39.F [.sl 5 (List.map Volume_av list), .str name] = ⟨true, .tup [.fresh 5 (List.map Volume_av y_.1), .int .i64 y_.2], [.any, .any]⟩ := by
 refine mkF_E (by simp only [flatA, flatB, flat1, List.all_cons, List.all_nil, Bool.and_self, flatE_map (f := Volume_av) (fun _ => rfl)]) ?_
 dsimp only [impl_CopyVolume] at h
 obtain ⟨y_1, z1, h⟩ := bd_some h
 have fz1 := Fs_38 z1
 try simp only [go_sem] at fz1
 obtain rfl := so_some h
 refine ⟨0, fun L hL => ?_⟩
 simp only [go_sem, ir9, fz1]


def ir45_v : List Nat := [0, 1, 2, 6, 7, 8, 9, 10, 11]
def ir45 : AFn := ⟨3, 9, .seq (.region false [ VO 3 6 (.newnil 5), VO 4 7 (.mov (I6 0))]) (.seq (.test false [ PM 12 0, PO 13 (.call 41 [(.s 0)]), PO 14 (.un .not (.s 0))] (.s 0) (.seq (.region false [ VO 3 6 (.newnil 5), VO 4 7 (.mov (I6 1))]) (.ret)) (.skip)) (.seq (.region false [ PM 15 0, PM 16 1, PO 17 (.call 43 [(.s 1), (.s 0)]), VS 5 8 0]) (.seq (.test false [ PM 18 5, PO 19 (.bin false .lss (.s 0) (I6 0))] (.s 0) (.seq (.region false [ VO 3 6 (.newnil 5), VO 4 7 (.mov (I6 3))]) (.ret)) (.skip)) (.seq (.region false [ PM 20 0, PM 21 5, PO 22 (.ixAddr 5 (.s 1) (.s 0)), PO 23 (.fldAddr 4
 (.s 0)), PO 24 (.load false 1 (.s 0)), PM 25 2, PO 26 (.bin false .add (.s 1) (.s 0)), VS 6 9 0]) (.seq (.test false [ PM 27 0, PM 28 5, PO 29 (.ixAddr 5 (.s 1) (.s 0)), PO 30 (.fldAddr 4 (.s 0)), PO 31 (.load false 1 (.s 0)), PO 32 (.bin false .eql (.s 0) (I6 0))] (.s 0) (.seq (.region false [ VO 3 6 (.newnil 5), VO 4 7 (.mov (I6 6))]) (.ret)) (.skip)) (.seq (.test false [ PM 33 6, PO 34 (.bin false .gtr (.s 0) (I6 5))] (.s 0) (.seq (.region false [ VO 3 6 (.newnil 5), VO 4 7 (.mov (I6 5))]) (.ret)) (.skip)) (.seq (.region false [ PO 35 (.mkSl 5 (.agg [.str [], .int .i64 (0), .int .i64 (0),
 .int .i64 (0), .int .i64 (0)]) 0 []), PM 36 0, PO 37 (.app 5 48 (.agg [.str [], .int .i64 (0), .int .i64 (0), .int .i64 (0), .int .i64 (0)]) (.s 1) (.s 0)), VS 7 10 0]) (.seq (.region false [ PM 38 7, PM 39 5, PO 40 (.ixAddr 5 (.s 1) (.s 0)), PO 41 (.load true 5 (.s 0)), VO 8 11 (.alloc (.agg [.str [], .int .i64 (0), .int .i64 (0), .int .i64 (0), .int .i64 (0)])), ⟨.no, 0, none, .store 5 (.v 8) (.s 0)⟩]) (.seq (.region false [ PM 42 6, PO 43 (.fldAddr 4 (.v 8)), ⟨.no, 0, none, .store 1 (.s 0) (.s 1)⟩]) (.seq (.region false [ PM 44 7, PM 45 5, PO 46 (.load true 5 (.v 8)), PO 47 (.ixAddr 5 (.s
 2) (.s 1)), ⟨.no, 0, none, .store 5 (.s 0) (.s 1)⟩]) (.seq (.region false [ PM 48 7, VS 3 6 0, VO 4 7 (.mov (I6 0))]) (.ret)))))))))))), [.t 3, .t 4]⟩
noncomputable def t_40 : List (Nat × Ctr) := [(41, c_34), (43, c_35)]
theorem lk_40_41 : look t_40 41 = some c_34 := rfl
theorem lk_40_43 : look t_40 43 = some c_35 := rfl
noncomputable def c_40 : Ctr := mkF t_40 ir45 [.bor, .bor, .bor]
theorem s_40 : Sound Tryz.prog 45 c_40 := mkF_sound _ rfl (snd_cons s_34 (snd_cons s_35 snd_nil)) (by kernel_rfl : chkFn Tryz.prog 45 ir45 ir45_v = true)
theorem M_40 : c_40.modes = [.bor, .bor, .bor] := rfl
theorem Fl_40 : c_40.flat = true := rfl
attribute [go_sem] M_40 Fl_40
attribute [go_sem] lk_40_41 lk_40_43
theorem Fs_40 {list : List Volume} {name : List UInt8} {more : Int} {y_ : (List Volume) × Int} (h : spec_l23Change list name more = some y_) : c_40.F [.sl 5 (List.map Volume_av list), .str name, .int .i64 more] = ⟨true, .tup [.fresh 5 (List.map Volume_av y_.1), .int .i64 y_.2], [.any, .any, .any]⟩ := by
 refine mkF_E (by simp only [flatA, flatB, flat1, List.all_cons, List.all_nil, Bool.and_self, flatE_map (f := Volume_av) (fun _ => rfl)]) ?_
 dsimp only [spec_l23Change] at h
 obtain ⟨y_1, z1, h⟩ := bd_some h
 have fz1 := Fs_34 z1
 try simp only [go_sem] at fz1
 rcases it_some h with ⟨z2, h⟩ | ⟨z2, h⟩
 ·try simp only [go_sem, n1, n2, n3, n4] at z2
  all_goals
  obtain rfl := so_some h
  refine ⟨0, fun L hL => ?_⟩
  simp only [go_sem, ir45, fz1, z2]
 ·try simp only [go_sem, n1, n2, n3, n4] at z2
  all_goals
  obtain ⟨y_3, z3, h⟩ := bd_some h
  have fz3 := Fs_35 z3
  try simp only [go_sem, z2] at fz3
  rcases it_some h with ⟨z4, h⟩ | ⟨z4, h⟩
  ·try simp only [go_sem, n1, n2, n3, n4, z2] at z4
   all_goals
   obtain rfl := so_some h
   refine ⟨0, fun L hL => ?_⟩
   simp only [go_sem, ir45, fz1, z2, fz3, z4]
  ·try simp only [go_sem, n1, n2, n3, n4, z2] at z4
   all_goals
   obtain ⟨z5, h⟩ := ck_some h
   have lz5 := ix_lt z5
   have xz5 := getD_mapD Volume_av list lz5
   try simp only [go_sem] at lz5
   try simp only [go_sem] at xz5
   try simp only [go_sem, n1, n2, n3, n4, z2, z4] at z5
   all_goals
   rcases it_some h with ⟨z6, h⟩ | ⟨z6, h⟩
   ·try simp only [go_sem, n1, n2, n3, n4, z2, z4, z5] at z6
    all_goals
    obtain rfl := so_some h
    refine ⟨0, fun L hL => ?_⟩
    simp only [go_sem, ir45, fz1, z2, fz3, z4, z5, lz5, xz5, z6]
   ·try simp only [go_sem, n1, n2, n3, n4, z2, z4, z5] at z6
    all_goals
    rcases it_some h with ⟨z7, h⟩ | ⟨z7, h⟩
    ·try simp only [go_sem, n1, n2, n3, n4, z2, z4, z5, z6] at z7
     all_goals
     obtain rfl := so_some h
     refine ⟨0, fun L hL => ?_⟩
     simp only [go_sem, ir45, fz1, z2, fz3, z4, z5, lz5, xz5, z6, z7]
    ·try simp only [go_sem, n1, n2, n3, n4, z2, z4, z5, z6] at z7
     all_goals
     obtain ⟨z8, h⟩ := ck_some h
     try simp only [go_sem, n1, n2, n3, n4, z2, z4, z5, z6, z7] at z8
     all_goals
     obtain ⟨z9, h⟩ := ck_some h
     have lz9 := ix_lt z9
     have xz9 := getD_mapD Volume_av (([] : List Volume) ++ list) lz9
     try simp only [go_sem] at lz9
     try simp only [go_sem] at xz9
     try simp only [go_sem, n1, n2, n3, n4, z2, z4, z5, z6, z7, z8] at z9
     all_goals
     obtain rfl := so_some h
     refine ⟨0, fun L hL => ?_⟩
     simp only [go_sem, ir45, fz1, z2, fz3, z4, z5, lz5, xz5, z6, z7, z8, z9, lz9, xz9]


def ir10_v : List Nat := [0, 1, 4, 5]
def ir10 : AFn := ⟨2, 4, .seq (.region false [ VO 2 4 (.newnil 5), VO 3 5 (.mov (I6 0))]) (.seq (.region false [ PM 6 0, PM 7 1, PO 8 (.call 45 [(.s 1), (.s 0), (I6 1)]), PO 9 (.ext (.s 0) 0), PO 10 (.ext (.s 1) 1), VS 2 4 1, VS 3 5 0]) (.ret)), [.t 2, .t 3]⟩
noncomputable def t_41 : List (Nat × Ctr) := [(45, c_40)]
theorem lk_41_45 : look t_41 45 = some c_40 := rfl
noncomputable def c_41 : Ctr := mkF t_41 ir10 [.bor, .bor]
theorem s_41 : Sound Tryz.prog 10 c_41 := mkF_sound _ rfl (snd_cons s_40 snd_nil) (by kernel_rfl : chkFn Tryz.prog 10 ir10 ir10_v = true)
theorem M_41 : c_41.modes = [.bor, .bor] := rfl
theorem Fl_41 : c_41.flat = true := rfl
attribute [go_sem] M_41 Fl_41
attribute [go_sem] lk_41_45
theorem Fs_41 {list : List Volume} {name : List UInt8} {y_ : (List Volume) × Int} (h : spec_CopyVolume list name = some y_) : c_41.F [.sl 5 (List.map Volume_av list), .str name] = ⟨true, .tup [.fresh 5 (List.map Volume_av y_.1), .int .i64 y_.2], [.any, .any]⟩ := by
 refine mkF_E (by simp only [flatA, flatB, flat1, List.all_cons, List.all_nil, Bool.and_self, flatE_map (f := Volume_av) (fun _ => rfl)]) ?_
 dsimp only [spec_CopyVolume] at h
 obtain ⟨y_1, z1, h⟩ := bd_some h
 have fz1 := Fs_40 z1
 try simp only [go_sem] at fz1
 obtain rfl := so_some h
 refine ⟨0, fun L hL => ?_⟩
 simp only [go_sem, ir10, fz1]


def ir11_v : List Nat := [0, 1, 4, 5]
def ir11 : AFn := ⟨2, 4, .seq (.region false [ VO 2 4 (.newnil 5), VO 3 5 (.mov (I6 0))]) (.seq (.region false [ PM 6 0, PM 7 1, PO 8 (.call 44 [(.s 1), (.s 0), (.c (.int .i64 (-1)))]), PO 9 (.ext (.s 0) 0), PO 10 (.ext (.s 1) 1), VS 2 4 1, VS 3 5 0]) (.ret)), [.t 2, .t 3]⟩
noncomputable def t_42 : List (Nat × Ctr) := [(44, c_38)]
theorem lk_42_44 : look t_42 44 = some c_38 := rfl
noncomputable def c_42 : Ctr := mkF t_42 ir11 [.bor, .bor]
theorem s_42 : Sound Tryz.prog 11 c_42 := mkF_sound _ rfl (snd_cons s_38 snd_nil) (by kernel_rfl : chkFn Tryz.prog 11 ir11 ir11_v = true)
theorem M_42 : c_42.modes = [.bor, .bor] := rfl
theorem Fl_42 : c_42.flat = true := rfl
attribute [go_sem] M_42 Fl_42
attribute [go_sem] lk_42_44
theorem Fs_42 {list : List Volume} {name : List UInt8} {y_ : (List Volume) × Int} (h : impl_LoseCopy list name = some y_) : c_42.F [.sl 5 (List.map Volume_av list), .str name] = ⟨true, .tup [.fresh 5 (List.map Volume_av y_.1), .int .i64 y_.2], [.any, .any]⟩ := by
 refine mkF_E (by simp only [flatA, flatB, flat1, List.all_cons, List.all_nil, Bool.and_self, flatE_map (f := Volume_av) (fun _ => rfl)]) ?_
 dsimp only [impl_LoseCopy] at h
 obtain ⟨y_1, z1, h⟩ := bd_some h
 have fz1 := Fs_38 z1
 try simp only [go_sem] at fz1
 obtain rfl := so_some h
 refine ⟨0, fun L hL => ?_⟩
 simp only [go_sem, ir11, fz1]


def ir12_v : List Nat := [0, 1, 4, 5]
def ir12 : AFn := ⟨2, 4, .seq (.region false [ VO 2 4 (.newnil 5), VO 3 5 (.mov (I6 0))]) (.seq (.region false [ PM 6 0, PM 7 1, PO 8 (.call 45 [(.s 1), (.s 0), (.c (.int .i64 (-1)))]), PO 9 (.ext (.s 0) 0), PO 10 (.ext (.s 1) 1), VS 2 4 1, VS 3 5 0]) (.ret)), [.t 2, .t 3]⟩
noncomputable def t_43 : List (Nat × Ctr) := [(45, c_40)]
theorem lk_43_45 : look t_43 45 = some c_40 := rfl
noncomputable def c_43 : Ctr := mkF t_43 ir12 [.bor, .bor]
theorem s_43 : Sound Tryz.prog 12 c_43 := mkF_sound _ rfl (snd_cons s_40 snd_nil) (by kernel_rfl : chkFn Tryz.prog 12 ir12 ir12_v = true)
theorem M_43 : c_43.modes = [.bor, .bor] := rfl
theorem Fl_43 : c_43.flat = true := rfl
attribute [go_sem] M_43 Fl_43
attribute [go_sem] lk_43_45
theorem Fs_43 {list : List Volume} {name : List UInt8} {y_ : (List Volume) × Int} (h : spec_LoseCopy list name = some y_) : c_43.F [.sl 5 (List.map Volume_av list), .str name] = ⟨true, .tup [.fresh 5 (List.map Volume_av y_.1), .int .i64 y_.2], [.any, .any]⟩ := by
 refine mkF_E (by simp only [flatA, flatB, flat1, List.all_cons, List.all_nil, Bool.and_self, flatE_map (f := Volume_av) (fun _ => rfl)]) ?_
 dsimp only [spec_LoseCopy] at h
 obtain ⟨y_1, z1, h⟩ := bd_some h
 have fz1 := Fs_40 z1
 try simp only [go_sem] at fz1
 obtain rfl := so_some h
 refine ⟨0, fun L hL => ?_⟩
 simp only [go_sem, ir12, fz1]


def ir13_v : List Nat := [0, 2, 3, 4, 5]
def ir13 : AFn := ⟨1, 5, .seq (.region false [ VO 1 2 (.newnil 5), VO 2 3 (.mov (I6 0))]) (.seq (.region false [ PM 6 0, PO 7 (.call 31 [(.s 0)]), VS 3 4 0]) (.seq (.region false [ PM 8 3, PO 9 (.call 32 [(.s 0)]), VS 4 5 0]) (.seq (.test false [ PM 10 3, PO 11 (.call 35 [(.s 0), (I6 10)])] (.s 0) (.seq (.region false [ PM 12 4, PM 13 3, PO 14 (.mkSl 1 (.int .i64 (0)) 4 [(0, (.c (.int .i64 (-1)))), (1, (I6 0)), (2, (I6 10000000)), (3, (I6 10000001))]), PO 15 (.call 46 [(.s 1), (.s 0)]), VS 1 2 3, VS 2 3 0]) (.ret)) (.skip)) (.seq (.region false [ PM 16 4, PM 17 3, PO 18 (.call 47 [(.s 0), (I6
 900)]), VS 1 2 2, VS 2 3 0]) (.ret))))), [.t 1, .t 2]⟩
noncomputable def t_44 : List (Nat × Ctr) := [(31, c_1), (32, c_10), (35, c_4), (46, c_6), (47, c_3)]
theorem lk_44_31 : look t_44 31 = some c_1 := rfl
theorem lk_44_32 : look t_44 32 = some c_10 := rfl
theorem lk_44_35 : look t_44 35 = some c_4 := rfl
theorem lk_44_46 : look t_44 46 = some c_6 := rfl
theorem lk_44_47 : look t_44 47 = some c_3 := rfl
noncomputable def c_44 : Ctr := mkF t_44 ir13 [.bor]
theorem s_44 : Sound Tryz.prog 13 c_44 := mkF_sound _ rfl (snd_cons s_1 (snd_cons s_10 (snd_cons s_4 (snd_cons s_6 (snd_cons s_3 snd_nil))))) (by kernel_rfl : chkFn Tryz.prog 13 ir13 ir13_v = true)
theorem M_44 : c_44.modes = [.bor] := rfl
theorem Fl_44 : c_44.flat = true := rfl
attribute [go_sem] M_44 Fl_44
attribute [go_sem] lk_44_31 lk_44_32 lk_44_35 lk_44_46 lk_44_47
theorem Fs_44 {code : List UInt8} {y_ : (List Volume) × Int} (h : spec_DrawVolumesAt code = some y_) : c_44.F [.sl 1 (List.map byteAV code)] = ⟨true, .tup [.fresh 5 (List.map Volume_av y_.1), .int .i64 y_.2], [.any]⟩ := by
 refine mkF_E (by simp only [flatA, flatB, flat1, List.all_cons, List.all_nil, Bool.and_self, flatE_map (f := Volume_av) (fun _ => rfl)]) ?_
 dsimp only [spec_DrawVolumesAt] at h
 obtain ⟨y_1, z1, h⟩ := bd_some h
 have fz1 := Fs_1 z1
 try simp only [go_sem] at fz1
 obtain ⟨y_2, z2, h⟩ := bd_some h
 have fz2 := Fs_10 z2
 try simp only [go_sem] at fz2
 obtain ⟨y_3, z3, h⟩ := bd_some h
 have fz3 := Fs_4 z3
 try simp only [go_sem] at fz3
 rcases it_some h with ⟨z4, h⟩ | ⟨z4, h⟩
 ·try simp only [go_sem, n1, n2, n3, n4] at z4
  all_goals
  obtain ⟨y_5, z5, h⟩ := bd_some h
  have fz5 := Fs_6 z5
  try simp only [go_sem, z4] at fz5
  obtain rfl := so_some h
  refine ⟨0, fun L hL => ?_⟩
  simp only [go_sem, ir13, fz1, fz2, fz3, z4, fz5]
 ·try simp only [go_sem, n1, n2, n3, n4] at z4
  all_goals
  obtain ⟨y_6, z6, h⟩ := bd_some h
  have fz6 := Fs_3 z6
  try simp only [go_sem, z4] at fz6
  obtain rfl := so_some h
  refine ⟨0, fun L hL => ?_⟩
  simp only [go_sem, ir13, fz1, fz2, fz3, z4, fz6]


def ir50_v : List Nat := [0, 1, 2, 4]
def ir50 : AFn := ⟨3, 4, .seq (.region false [ VO 3 4 (.mov (.c (.bool false)))]) (.seq (.anyo 12 [ SO 0 5 (.load false 1 (.v 1)), SO 1 6 (.load false 1 (.v 2)), SO 2 7 (.mov (.v 0)), SO 3 8 (.ixAddr 5 (.s 1) (.s 2)), SO 4 9 (.fldAddr 1 (.s 3)), SO 5 10 (.load false 1 (.s 4)), SO 6 11 (.load false 1 (.v 2)), SO 7 12 (.mov (.v 0)), SO 8 13 (.ixAddr 5 (.s 6) (.s 7)), SO 9 14 (.fldAddr 2 (.s 8)), SO 10 15 (.load false 1 (.s 9)), SO 11 16 (.callp 51 [(.s 0), (.s 5), (.s 10)]), VS 3 4 11] [] .skip) (.ret)), [.t 3]⟩
noncomputable def t_45 : List (Nat × Ctr) := [(51, c_13)]
theorem lk_45_51 : look t_45 51 = some c_13 := rfl
noncomputable def c_45 : Ctr := mkF t_45 ir50 [.bor, .bor, .bor]
theorem s_45 : Sound Tryz.prog 50 c_45 := mkF_sound _ rfl (snd_cons s_13 snd_nil) (by kernel_rfl : chkFn Tryz.prog 50 ir50 ir50_v = true)
theorem M_45 : c_45.modes = [.bor, .bor, .bor] := rfl
theorem Fl_45 : c_45.flat = true := rfl
attribute [go_sem] M_45 Fl_45
attribute [go_sem] lk_45_51
theorem Fs_45 {i : Int} {t1 : Int} {t2 : List Volume} {y_ : Bool} (h : impl_VolumesAt_c1 i t1 t2 = some y_) : c_45.F [.int .i64 i, .ptr 1 [.int .i64 t1] 0 0, .ptr 1 [.sl 5 (List.map Volume_av t2)] 0 0] = ⟨true, .bool y_, [.any, .any, .any]⟩ := by
 refine mkF_E rfl ?_
 dsimp only [impl_VolumesAt_c1] at h
 obtain ⟨z1, h⟩ := ck_some h
 have lz1 := ix_lt z1
 have xz1 := getD_mapD Volume_av t2 lz1
 try simp only [go_sem] at lz1
 try simp only [go_sem] at xz1
 try simp only [go_sem, n1, n2, n3, n4] at z1
 all_goals
 obtain ⟨y_2, z2, h⟩ := bd_some h
 have fz2 := Fs_13 z2
 try simp only [go_sem, z1] at fz2
 obtain rfl := so_some h
 refine ⟨0, fun L hL => ?_⟩
 simp only [go_sem, ir50, z1, lz1, xz1, fz2]


def ir49_b0 : IR := .seq (.region false [ VO 7 10 (.bin false .lss (.v 6) (.v 5))]) (.seq (.cond (.v 7) (.skip) (.exit 0)) (.seq (.block 1 (.seq (.region false [ PM 11 6, VS 4 6 0]) (.test false [ PM 12 1, PM 13 4, PO 14 (.callv (.s 1) [(.s 0)])] (.s 0) (.region false [ PM 15 3, PM 16 4, PO 17 (.mkSl 1 (.int .i64 (0)) 1 [(0, (.s 0))]), PO 18 (.app 1 8 (.int .i64 (0)) (.s 2) (.s 0)), VS 3 5 0]) (.skip)))) (.region false [ PO 19 (.bin false .add (.v 6) (I6 1)), VS 6 9 0])))
def ir49_k0 : List Bool := [false, true, false, true, false, true, true, false]
def ir49_o0 : List Bool := [false, false, false, true, false, false, false, false]
def ir49_r0 : List Bool := [false, false, true, false, false, false, false, false]
def ir49_v : List Nat := [0, 1, 4, 5, 6, 8, 9, 10]
def ir49 : AFn := ⟨2, 8, .seq (.region false [ VO 2 4 (.newnil 1)]) (.seq (.region false [ PO 7 (.mkSl 1 (.int .i64 (0)) 0 []), VS 3 5 0]) (.seq (.seq (.region false [ VO 5 8 (.mov (.v 0)), VO 6 9 (.mov (I6 0))]) (.block 0 (.loop ir49_k0 ir49_o0 ir49_r0 ir49_b0))) (.seq (.region false [ PM 20 3, VS 2 4 0]) (.ret)))), [.t 2]⟩
noncomputable def t_46 : List (Nat × Ctr) := [(50, c_45)]
theorem lk_46_50 : look t_46 50 = some c_45 := rfl
noncomputable def c_46 : Ctr := mkF t_46 ir49 [.bor, .bor]
theorem s_46 : Sound Tryz.prog 49 c_46 := mkF_sound _ rfl (snd_cons s_45 snd_nil) (by kernel_rfl : chkFn Tryz.prog 49 ir49 ir49_v = true)
theorem M_46 : c_46.modes = [.bor, .bor] := rfl
theorem Fl_46 : c_46.flat = true := rfl
attribute [go_sem] M_46 Fl_46
attribute [go_sem] lk_46_50
def E_46_l1 (c : Int) (c2 : List Volume) (t8 : Int) : ((List Int) × Int) → St
 | (out, t9) => ⟨[.any, .fn (.func 50) [] [.ptr 1 [.int .i64 c] 0 0, .ptr 1 [.sl 5 (List.map Volume_av c2)] 0 0], .any, .own 3200000, .any, .int .i64 t8, .int .i64 t9, .any], [], [(3200000, ⟨1, List.map (AV.int .i64) out⟩)], true⟩
def R_46_l1 (c : Int) (c2 : List Volume) (t8 : Int) (y : (List Int)) : Res := (.exit 0, ⟨[.any, .any, .any, .own 3200000, .any, .any, .any, .any], [], [(3200000, ⟨1, List.map (AV.int .i64) y⟩)], true⟩)
theorem impl_indicesWhere__impl_VolumesAt_c1_l1_ex {c : Int} {c2 : List Volume} {t8 : Int} {sgm_ : (List Int) × Int} {rho_ : (List Int)} (h : whileE (impl_indicesWhere__impl_VolumesAt_c1_l1 c c2 t8) sgm_ = some rho_) : ∃ L0, ∀ L, L0 ≤ L → iter (exec (look t_46) L ir49_b0) ir49_k0 ir49_o0 ir49_r0 L (E_46_l1 c c2 t8 sgm_) = R_46_l1 c c2 t8 rho_ := by
 refine loop_ex (E := E_46_l1 c c2 t8) (R := R_46_l1 c c2 t8) (fun y => by first | (intro c; cases c) | (rcases y with y | y <;> (intro c; cases c)) | (rcases y with y | y | y <;> (intro c; cases c))) ?_ h
 clear h
 rintro ⟨out, t9⟩ o_ h
 dsimp only [impl_indicesWhere__impl_VolumesAt_c1_l1] at h
 rcases it_some h with ⟨z1, h⟩ | ⟨z1, h⟩
 ·try simp only [go_sem, n1, n2, n3, n4] at z1
  all_goals
  obtain ⟨y_2, z2, h⟩ := bd_some h
  have fz2 := Fs_45 z2
  try simp only [go_sem, z1] at fz2
  rcases it_some h with ⟨z3, h⟩ | ⟨z3, h⟩
  ·try simp only [go_sem, n1, n2, n3, n4, z1] at z3
   all_goals
   obtain ⟨z4, h⟩ := ck_some h
   try simp only [go_sem, n1, n2, n3, n4, z1, z3] at z4
   all_goals
   obtain rfl := so_some h
   refine ⟨0, fun L hL => ?_⟩
   simp only [go_sem, ir49, E_46_l1, R_46_l1, ir49_b0, ir49_k0, ir49_o0, ir49_r0, z1, fz2, z3, z4]
  ·try simp only [go_sem, n1, n2, n3, n4, z1] at z3
   all_goals
   obtain rfl := so_some h
   refine ⟨0, fun L hL => ?_⟩
   simp only [go_sem, ir49, E_46_l1, R_46_l1, ir49_b0, ir49_k0, ir49_o0, ir49_r0, z1, fz2, z3]
 ·try simp only [go_sem, n1, n2, n3, n4] at z1
  all_goals
  obtain rfl := so_some h
  refine ⟨0, fun L hL => ?_⟩
  simp only [go_sem, ir49, E_46_l1, R_46_l1, ir49_b0, ir49_k0, ir49_o0, ir49_r0, z1]

theorem Fs_46 {n : Int} {wanted_c0 : Int} {wanted_c1 : List Volume} {y_ : (List Int)} (h : impl_indicesWhere__impl_VolumesAt_c1 n wanted_c0 wanted_c1 = some y_) : c_46.F [.int .i64 n, .fn (.func 50) [] [.ptr 1 [.int .i64 wanted_c0] 0 0, .ptr 1 [.sl 5 (List.map Volume_av wanted_c1)] 0 0]] = ⟨true, .fresh 1 (List.map (AV.int .i64) y_), [.any, .any]⟩ := by
 refine mkF_E (by simp only [flatA, flatB, flat1, List.all_cons, List.all_nil, Bool.and_self, flatE_map (f := (AV.int .i64)) (fun _ => rfl)]) ?_
 dsimp only [impl_indicesWhere__impl_VolumesAt_c1] at h
 obtain ⟨y_5, z5, h⟩ := bd_some h
 obtain ⟨Lz5, ez5⟩ := impl_indicesWhere__impl_VolumesAt_c1_l1_ex z5
 obtain rfl := so_some h
 refine ⟨Lz5, fun L hL => ?_⟩
 have ez5 := ez5 L (by omega)
 try simp only [go_sem, E_46_l1, R_46_l1, ir49_k0, ir49_o0, ir49_r0] at ez5
 simp only [go_sem, ir49, E_46_l1, R_46_l1, ir49_k0, ir49_o0, ir49_r0, ez5]


def ir14_v : List Nat := [0, 1, 2, 3, 4, 5]
def ir14 : AFn := ⟨2, 6, .seq (.region false [ VO 2 2 (.box (.v 0)), VO 3 3 (.box (.v 1)), VO 4 4 (.newnil 1), VO 5 5 (.mov (I6 0))]) (.seq (.block 0 (.test false [ PO 7 (.load false 1 (.v 2)), PO 8 (.call 27 [(.s 0)]), PO 9 (.un .not (.s 0)), PO 6 (.mov (.s 0))] (.s 0) (.seq (.region false [ VO 4 4 (.newnil 1), VO 5 5 (.mov (I6 1))]) (.ret)) (.test false [ PO 11 (.load false 1 (.v 3)), PO 12 (.call 48 [(.s 0)]), PO 13 (.un .not (.s 0)), PO 10 (.mov (.s 0))] (.s 0) (.seq (.region false [ VO 4 4 (.newnil 1), VO 5 5 (.mov (I6 2))]) (.ret)) (.skip)))) (.seq (.region false [ PO 14 (.load false 1
 (.v 2)), PO 15 (.len false (.s 0)), PO 16 (.mkFn (.func 50) [] [(.v 3), (.v 2)]), PO 17 (.call 49 [(.s 1), (.s 0)]), VS 4 4 0, VO 5 5 (.mov (I6 0))]) (.ret))), [.t 4, .t 5]⟩
noncomputable def t_47 : List (Nat × Ctr) := [(27, c_19), (48, c_14), (49, c_46)]
theorem lk_47_27 : look t_47 27 = some c_19 := rfl
theorem lk_47_48 : look t_47 48 = some c_14 := rfl
theorem lk_47_49 : look t_47 49 = some c_46 := rfl
noncomputable def c_47 : Ctr := mkF t_47 ir14 [.bor, .bor]
theorem s_47 : Sound Tryz.prog 14 c_47 := mkF_sound _ rfl (snd_cons s_19 (snd_cons s_14 (snd_cons s_46 snd_nil))) (by kernel_rfl : chkFn Tryz.prog 14 ir14 ir14_v = true)
theorem M_47 : c_47.modes = [.bor, .bor] := rfl
theorem Fl_47 : c_47.flat = true := rfl
attribute [go_sem] M_47 Fl_47
attribute [go_sem] lk_47_27 lk_47_48 lk_47_49
theorem Fs_47 {list : List Volume} {t : Int} {y_ : (List Int) × Int} (h : impl_VolumesAt list t = some y_) : c_47.F [.sl 5 (List.map Volume_av list), .int .i64 t] = ⟨true, .tup [.fresh 1 (List.map (AV.int .i64) y_.1), .int .i64 y_.2], [.any, .any]⟩ := by
 refine mkF_E (by simp only [flatA, flatB, flat1, List.all_cons, List.all_nil, Bool.and_self, flatE_map (f := (AV.int .i64)) (fun _ => rfl)]) ?_
 dsimp only [impl_VolumesAt] at h
 obtain ⟨y_1, z1, h⟩ := bd_some h
 have fz1 := Fs_19 z1
 try simp only [go_sem] at fz1
 rcases it_some h with ⟨z2, h⟩ | ⟨z2, h⟩
 ·try simp only [go_sem, n1, n2, n3, n4] at z2
  all_goals
  obtain rfl := so_some h
  refine ⟨0, fun L hL => ?_⟩
  simp only [go_sem, ir14, fz1, z2]
 ·try simp only [go_sem, n1, n2, n3, n4] at z2
  all_goals
  obtain ⟨y_3, z3, h⟩ := bd_some h
  have fz3 := Fs_14 z3
  try simp only [go_sem, z2] at fz3
  rcases it_some h with ⟨z4, h⟩ | ⟨z4, h⟩
  ·try simp only [go_sem, n1, n2, n3, n4, z2] at z4
   all_goals
   obtain rfl := so_some h
   refine ⟨0, fun L hL => ?_⟩
   simp only [go_sem, ir14, fz1, z2, fz3, z4]
  ·try simp only [go_sem, n1, n2, n3, n4, z2] at z4
   all_goals
   obtain ⟨y_5, z5, h⟩ := bd_some h
   have fz5 := Fs_46 z5
   try simp only [go_sem, z2, z4] at fz5
   obtain rfl := so_some h
   refine ⟨0, fun L hL => ?_⟩
   simp only [go_sem, ir14, fz1, z2, fz3, z4, fz5]


def ir15_b0 : IR := .seq (.test false [ PM 15 5, PM 16 0, PO 17 (.len false (.s 0)), PO 18 (.bin false .lss (.s 2) (.s 0))] (.s 0) (.skip) (.exit 0)) (.seq (.block 1 (.anyo 12 [ SO 0 21 (.mov (.v 1)), SO 1 22 (.mov (.v 0)), SO 2 23 (.mov (.v 5)), SO 3 24 (.ixAddr 5 (.s 1) (.s 2)), SO 4 25 (.fldAddr 1 (.s 3)), SO 5 26 (.load false 1 (.s 4)), SO 6 27 (.mov (.v 0)), SO 7 28 (.mov (.v 5)), SO 8 29 (.ixAddr 5 (.s 6) (.s 7)), SO 9 30 (.fldAddr 2 (.s 8)), SO 10 31 (.load false 1 (.s 9)), SO 11 32 (.callp 53 [(.s 0), (.s 5), (.s 10)])] [] (.cond (.s 11) (.region false [ PM 33 4, PM 34 5, PO 35 (.mkSl 1
 (.int .i64 (0)) 1 [(0, (.s 0))]), PO 36 (.app 1 8 (.int .i64 (0)) (.s 2) (.s 0)), VS 4 6 0]) (.skip)))) (.region false [ PM 19 5, PO 20 (.bin false .add (.s 0) (I6 1)), VS 5 7 0]))
def ir15_k0 : List Bool := [true, true, false, false, true, true]
def ir15_o0 : List Bool := [false, false, false, false, true, false]
def ir15_r0 : List Bool := [false, false, true, true, false, false]
def ir15_v : List Nat := [0, 1, 4, 5, 6, 7]
def ir15 : AFn := ⟨2, 6, .seq (.region false [ VO 2 4 (.newnil 1), VO 3 5 (.mov (I6 0))]) (.seq (.test false [ PM 8 0, PO 9 (.call 41 [(.s 0)]), PO 10 (.un .not (.s 0))] (.s 0) (.seq (.region false [ VO 2 4 (.newnil 1), VO 3 5 (.mov (I6 1))]) (.ret)) (.skip)) (.seq (.test false [ PM 11 1, PO 12 (.call 52 [(.s 0)]), PO 13 (.un .not (.s 0))] (.s 0) (.seq (.region false [ VO 2 4 (.newnil 1), VO 3 5 (.mov (I6 2))]) (.ret)) (.skip)) (.seq (.region false [ PO 14 (.mkSl 1 (.int .i64 (0)) 0 []), VS 4 6 0]) (.seq (.seq (.region false [ VO 5 7 (.mov (I6 0))]) (.block 0 (.loop ir15_k0 ir15_o0 ir15_r0
 ir15_b0))) (.seq (.region false [ PM 37 4, VS 2 4 0, VO 3 5 (.mov (I6 0))]) (.ret)))))), [.t 2, .t 3]⟩
noncomputable def t_48 : List (Nat × Ctr) := [(41, c_34), (52, c_32), (53, c_31)]
theorem lk_48_41 : look t_48 41 = some c_34 := rfl
theorem lk_48_52 : look t_48 52 = some c_32 := rfl
theorem lk_48_53 : look t_48 53 = some c_31 := rfl
noncomputable def c_48 : Ctr := mkF t_48 ir15 [.bor, .bor]
theorem s_48 : Sound Tryz.prog 15 c_48 := mkF_sound _ rfl (snd_cons s_34 (snd_cons s_32 (snd_cons s_31 snd_nil))) (by kernel_rfl : chkFn Tryz.prog 15 ir15 ir15_v = true)
theorem M_48 : c_48.modes = [.bor, .bor] := rfl
theorem Fl_48 : c_48.flat = true := rfl
attribute [go_sem] M_48 Fl_48
attribute [go_sem] lk_48_41 lk_48_52 lk_48_53
def E_48_l1 (list : List Volume) (t : Int) : ((List Int) × Int) → St
 | (out, i) => ⟨[.sl 5 (List.map Volume_av list), .int .i64 t, .any, .any, .own 3200000, .int .i64 i], [], [(3200000, ⟨1, List.map (AV.int .i64) out⟩)], true⟩
def R_48_l1 (list : List Volume) (t : Int) (y : (List Int)) : Res := (.exit 0, ⟨[.any, .any, .any, .any, .own 3200000, .any], [], [(3200000, ⟨1, List.map (AV.int .i64) y⟩)], true⟩)
theorem spec_VolumesAt_l1_ex {list : List Volume} {t : Int} {sgm_ : (List Int) × Int} {rho_ : (List Int)} (h : whileE (spec_VolumesAt_l1 list t) sgm_ = some rho_) : ∃ L0, ∀ L, L0 ≤ L → iter (exec (look t_48) L ir15_b0) ir15_k0 ir15_o0 ir15_r0 L (E_48_l1 list t sgm_) = R_48_l1 list t rho_ := by
 refine loop_ex (E := E_48_l1 list t) (R := R_48_l1 list t) (fun y => by first | (intro c; cases c) | (rcases y with y | y <;> (intro c; cases c)) | (rcases y with y | y | y <;> (intro c; cases c))) ?_ h
 clear h
 rintro ⟨out, i⟩ o_ h
 dsimp only [spec_VolumesAt_l1] at h
 rcases it_some h with ⟨z5, h⟩ | ⟨z5, h⟩
 ·try simp only [go_sem, n1, n2, n3, n4] at z5
  all_goals
  obtain ⟨z6, h⟩ := ck_some h
  have lz6 := ix_lt z6
  have xz6 := getD_mapD Volume_av list lz6
  try simp only [go_sem] at lz6
  try simp only [go_sem] at xz6
  try simp only [go_sem, n1, n2, n3, n4, z5] at z6
  all_goals
  obtain ⟨y_7, z7, h⟩ := bd_some h
  have fz7 := Fs_31 z7
  try simp only [go_sem, z5, z6] at fz7
  rcases it_some h with ⟨z8, h⟩ | ⟨z8, h⟩
  ·try simp only [go_sem, n1, n2, n3, n4, z5, z6] at z8
   all_goals
   obtain ⟨z9, h⟩ := ck_some h
   try simp only [go_sem, n1, n2, n3, n4, z5, z6, z8] at z9
   all_goals
   obtain rfl := so_some h
   refine ⟨0, fun L hL => ?_⟩
   simp only [go_sem, ir15, E_48_l1, R_48_l1, ir15_b0, ir15_k0, ir15_o0, ir15_r0, z5, z6, lz6, xz6, fz7, z8, z9]
  ·try simp only [go_sem, n1, n2, n3, n4, z5, z6] at z8
   all_goals
   obtain rfl := so_some h
   refine ⟨0, fun L hL => ?_⟩
   simp only [go_sem, ir15, E_48_l1, R_48_l1, ir15_b0, ir15_k0, ir15_o0, ir15_r0, z5, z6, lz6, xz6, fz7, z8]
 ·try simp only [go_sem, n1, n2, n3, n4] at z5
  all_goals
  obtain rfl := so_some h
  refine ⟨0, fun L hL => ?_⟩
  simp only [go_sem, ir15, E_48_l1, R_48_l1, ir15_b0, ir15_k0, ir15_o0, ir15_r0, z5]

theorem Fs_48 {list : List Volume} {t : Int} {y_ : (List Int) × Int} (h : spec_VolumesAt list t = some y_) : c_48.F [.sl 5 (List.map Volume_av list), .int .i64 t] = ⟨true, .tup [.fresh 1 (List.map (AV.int .i64) y_.1), .int .i64 y_.2], [.any, .any]⟩ := by
 refine mkF_E (by simp only [flatA, flatB, flat1, List.all_cons, List.all_nil, Bool.and_self, flatE_map (f := (AV.int .i64)) (fun _ => rfl)]) ?_
 dsimp only [spec_VolumesAt] at h
 obtain ⟨y_1, z1, h⟩ := bd_some h
 have fz1 := Fs_34 z1
 try simp only [go_sem] at fz1
 rcases it_some h with ⟨z2, h⟩ | ⟨z2, h⟩
 ·try simp only [go_sem, n1, n2, n3, n4] at z2
  all_goals
  obtain rfl := so_some h
  refine ⟨0, fun L hL => ?_⟩
  simp only [go_sem, ir15, E_48_l1, R_48_l1, ir15_k0, ir15_o0, ir15_r0, fz1, z2]
 ·try simp only [go_sem, n1, n2, n3, n4] at z2
  all_goals
  obtain ⟨y_3, z3, h⟩ := bd_some h
  have fz3 := Fs_32 z3
  try simp only [go_sem, z2] at fz3
  rcases it_some h with ⟨z4, h⟩ | ⟨z4, h⟩
  ·try simp only [go_sem, n1, n2, n3, n4, z2] at z4
   all_goals
   obtain rfl := so_some h
   refine ⟨0, fun L hL => ?_⟩
   simp only [go_sem, ir15, E_48_l1, R_48_l1, ir15_k0, ir15_o0, ir15_r0, fz1, z2, fz3, z4]
  ·try simp only [go_sem, n1, n2, n3, n4, z2] at z4
   all_goals
   obtain ⟨y_10, z10, h⟩ := bd_some h
   obtain ⟨Lz10, ez10⟩ := spec_VolumesAt_l1_ex z10
   obtain rfl := so_some h
   refine ⟨Lz10, fun L hL => ?_⟩
   have ez10 := ez10 L (by omega)
   try simp only [go_sem, E_48_l1, R_48_l1, ir15_k0, ir15_o0, ir15_r0, z2, z4] at ez10
   simp only [go_sem, ir15, E_48_l1, R_48_l1, ir15_k0, ir15_o0, ir15_r0, fz1, z2, fz3, z4, ez10]


def ir16_v : List Nat := [0, 2]
def ir16 : AFn := ⟨1, 2, .seq (.region false [ VO 1 2 (.newnil 5)]) (.seq (.region false [ PM 3 0, PO 4 (.call 31 [(.s 0)]), PO 5 (.call 32 [(.s 0)]), VS 1 2 0]) (.ret)), [.t 1]⟩
noncomputable def t_49 : List (Nat × Ctr) := [(31, c_1), (32, c_10)]
theorem lk_49_31 : look t_49 31 = some c_1 := rfl
theorem lk_49_32 : look t_49 32 = some c_10 := rfl
noncomputable def c_49 : Ctr := mkF t_49 ir16 [.bor]
theorem s_49 : Sound Tryz.prog 16 c_49 := mkF_sound _ rfl (snd_cons s_1 (snd_cons s_10 snd_nil)) (by kernel_rfl : chkFn Tryz.prog 16 ir16 ir16_v = true)
theorem M_49 : c_49.modes = [.bor] := rfl
theorem Fl_49 : c_49.flat = true := rfl
attribute [go_sem] M_49 Fl_49
attribute [go_sem] lk_49_31 lk_49_32
theorem Fs_49 {code : List UInt8} {y_ : (List Volume)} (h : spec_DrawEndangeredVolumes code = some y_) : c_49.F [.sl 1 (List.map byteAV code)] = ⟨true, .fresh 5 (List.map Volume_av y_), [.any]⟩ := by
 refine mkF_E (by simp only [flatA, flatB, flat1, List.all_cons, List.all_nil, Bool.and_self, flatE_map (f := Volume_av) (fun _ => rfl)]) ?_
 dsimp only [spec_DrawEndangeredVolumes] at h
 obtain ⟨y_1, z1, h⟩ := bd_some h
 have fz1 := Fs_1 z1
 try simp only [go_sem] at fz1
 obtain ⟨y_2, z2, h⟩ := bd_some h
 have fz2 := Fs_10 z2
 try simp only [go_sem] at fz2
 obtain rfl := so_some h
 refine ⟨0, fun L hL => ?_⟩
 simp only [go_sem, ir16, fz1, fz2]


def ir54_v : List Nat := [0, 1, 2, 4]
def ir54 : AFn := ⟨3, 4, .seq (.region false [ VO 3 4 (.mov (.c (.bool false)))]) (.seq (.anyo 7 [ SO 0 5 (.load false 1 (.v 1)), SO 1 6 (.mov (.v 0)), SO 2 7 (.ixAddr 5 (.s 0) (.s 1)), SO 3 8 (.fldAddr 4 (.s 2)), SO 4 9 (.load false 1 (.s 3)), SO 5 10 (.load false 1 (.v 2)), SO 6 11 (.bin false .eql (.s 4) (.s 5)), VS 3 4 6] [] .skip) (.ret)), [.t 3]⟩
noncomputable def t_50 : List (Nat × Ctr) := []
noncomputable def c_50 : Ctr := mkF t_50 ir54 [.bor, .bor, .bor]
theorem s_50 : Sound Tryz.prog 54 c_50 := mkF_sound _ rfl snd_nil (by kernel_rfl : chkFn Tryz.prog 54 ir54 ir54_v = true)
theorem M_50 : c_50.modes = [.bor, .bor, .bor] := rfl
theorem Fl_50 : c_50.flat = true := rfl
attribute [go_sem] M_50 Fl_50
theorem Fs_50 {i : Int} {t1 : List Volume} {t2 : Int} {y_ : Bool} (h : impl_EndangeredVolumes_c1 i t1 t2 = some y_) : c_50.F [.int .i64 i, .ptr 1 [.sl 5 (List.map Volume_av t1)] 0 0, .ptr 1 [.int .i64 t2] 0 0] = ⟨true, .bool y_, [.any, .any, .any]⟩ := by
 refine mkF_E rfl ?_
 dsimp only [impl_EndangeredVolumes_c1] at h
 obtain ⟨z1, h⟩ := ck_some h
 have lz1 := ix_lt z1
 have xz1 := getD_mapD Volume_av t1 lz1
 try simp only [go_sem] at lz1
 try simp only [go_sem] at xz1
 try simp only [go_sem, n1, n2, n3, n4] at z1
 all_goals
 obtain rfl := so_some h
 refine ⟨0, fun L hL => ?_⟩
 simp only [go_sem, ir54, z1, lz1, xz1]


noncomputable def t_51 : List (Nat × Ctr) := [(54, c_50)]
theorem lk_51_54 : look t_51 54 = some c_50 := rfl
noncomputable def c_51 : Ctr := mkF t_51 ir49 [.bor, .bor]
theorem s_51 : Sound Tryz.prog 49 c_51 := mkF_sound _ rfl (snd_cons s_50 snd_nil) (by kernel_rfl : chkFn Tryz.prog 49 ir49 ir49_v = true)
theorem M_51 : c_51.modes = [.bor, .bor] := rfl
theorem Fl_51 : c_51.flat = true := rfl
attribute [go_sem] M_51 Fl_51
attribute [go_sem] lk_51_54
def E_51_l1 (c : List Volume) (c2 : Int) (t8 : Int) : ((List Int) × Int) → St
 | (out, t9) => ⟨[.any, .fn (.func 54) [] [.ptr 1 [.sl 5 (List.map Volume_av c)] 0 0, .ptr 1 [.int .i64 c2] 0 0], .any, .own 3200000, .any, .int .i64 t8, .int .i64 t9, .any], [], [(3200000, ⟨1, List.map (AV.int .i64) out⟩)], true⟩
def R_51_l1 (c : List Volume) (c2 : Int) (t8 : Int) (y : (List Int)) : Res := (.exit 0, ⟨[.any, .any, .any, .own 3200000, .any, .any, .any, .any], [], [(3200000, ⟨1, List.map (AV.int .i64) y⟩)], true⟩)
theorem impl_indicesWhere__impl_EndangeredVolumes_c1_l1_ex {c : List Volume} {c2 : Int} {t8 : Int} {sgm_ : (List Int) × Int} {rho_ : (List Int)} (h : whileE (impl_indicesWhere__impl_EndangeredVolumes_c1_l1 c c2 t8) sgm_ = some rho_) : ∃ L0, ∀ L, L0 ≤ L → iter (exec (look t_51) L ir49_b0) ir49_k0 ir49_o0 ir49_r0 L (E_51_l1 c c2 t8 sgm_) = R_51_l1 c c2 t8 rho_ := by
 refine loop_ex (E := E_51_l1 c c2 t8) (R := R_51_l1 c c2 t8) (fun y => by first | (intro c; cases c) | (rcases y with y | y <;> (intro c; cases c)) | (rcases y with y | y | y <;> (intro c; cases c))) ?_ h
 clear h
 rintro ⟨out, t9⟩ o_ h
 dsimp only [impl_indicesWhere__impl_EndangeredVolumes_c1_l1] at h
 rcases it_some h with ⟨z1, h⟩ | ⟨z1, h⟩
 ·try simp only [go_sem, n1, n2, n3, n4] at z1
  all_goals
  obtain ⟨y_2, z2, h⟩ := bd_some h
  have fz2 := Fs_50 z2
  try simp only [go_sem, z1] at fz2
  rcases it_some h with ⟨z3, h⟩ | ⟨z3, h⟩
  ·try simp only [go_sem, n1, n2, n3, n4, z1] at z3
   all_goals
   obtain ⟨z4, h⟩ := ck_some h
   try simp only [go_sem, n1, n2, n3, n4, z1, z3] at z4
   all_goals
   obtain rfl := so_some h
   refine ⟨0, fun L hL => ?_⟩
   simp only [go_sem, ir49, E_51_l1, R_51_l1, ir49_b0, ir49_k0, ir49_o0, ir49_r0, z1, fz2, z3, z4]
  ·try simp only [go_sem, n1, n2, n3, n4, z1] at z3
   all_goals
   obtain rfl := so_some h
   refine ⟨0, fun L hL => ?_⟩
   simp only [go_sem, ir49, E_51_l1, R_51_l1, ir49_b0, ir49_k0, ir49_o0, ir49_r0, z1, fz2, z3]
 ·try simp only [go_sem, n1, n2, n3, n4] at z1
  all_goals
  obtain rfl := so_some h
  refine ⟨0, fun L hL => ?_⟩
  simp only [go_sem, ir49, E_51_l1, R_51_l1, ir49_b0, ir49_k0, ir49_o0, ir49_r0, z1]

theorem Fs_51 {n : Int} {wanted_c0 : List Volume} {wanted_c1 : Int} {y_ : (List Int)} (h : impl_indicesWhere__impl_EndangeredVolumes_c1 n wanted_c0 wanted_c1 = some y_) : c_51.F [.int .i64 n, .fn (.func 54) [] [.ptr 1 [.sl 5 (List.map Volume_av wanted_c0)] 0 0, .ptr 1 [.int .i64 wanted_c1] 0 0]] = ⟨true, .fresh 1 (List.map (AV.int .i64) y_), [.any, .any]⟩ := by
 refine mkF_E (by simp only [flatA, flatB, flat1, List.all_cons, List.all_nil, Bool.and_self, flatE_map (f := (AV.int .i64)) (fun _ => rfl)]) ?_
 dsimp only [impl_indicesWhere__impl_EndangeredVolumes_c1] at h
 obtain ⟨y_5, z5, h⟩ := bd_some h
 obtain ⟨Lz5, ez5⟩ := impl_indicesWhere__impl_EndangeredVolumes_c1_l1_ex z5
 obtain rfl := so_some h
 refine ⟨Lz5, fun L hL => ?_⟩
 have ez5 := ez5 L (by omega)
 try simp only [go_sem, E_51_l1, R_51_l1, ir49_k0, ir49_o0, ir49_r0] at ez5
 simp only [go_sem, ir49, E_51_l1, R_51_l1, ir49_k0, ir49_o0, ir49_r0, ez5]


def ir17_b0 : IR := .seq (.region false [ VO 9 13 (.bin false .lss (.v 8) (.v 7))]) (.seq (.cond (.v 9) (.skip) (.exit 0)) (.seq (.block 1 (.seq (.region false [ PO 14 (.ixAddr 5 (.v 6) (.v 8)), PO 15 (.load true 5 (.s 0)), VO 5 6 (.alloc (.agg [.str [], .int .i64 (0), .int .i64 (0), .int .i64 (0), .int .i64 (0)])), ⟨.no, 0, none, .store 5 (.v 5) (.s 0)⟩]) (.test false [ PO 16 (.fldAddr 4 (.v 5)), PO 17 (.load false 1 (.s 0)), PO 18 (.bin false .gtr (.s 0) (I6 0))] (.s 0) (.region false [ PO 19 (.load false 1 (.v 4)), PO 20 (.fldAddr 4 (.v 5)), PO 21 (.load false 1 (.s 0)), PO 22 (.minmax false
 [(.s 2), (.s 0)]), ⟨.no, 0, none, .store 1 (.v 4) (.s 0)⟩]) (.skip)))) (.region false [ PO 23 (.bin false .add (.v 8) (I6 1)), VS 8 12 0])))
def ir17_k0 : List Bool := [false, true, false, false, true, false, true, true, true, false]
def ir17_o0 : List Bool := [false, true, false, false, true, false, false, false, false, false]
def ir17_r0 : List Bool := [false, false, true, true, false, false, false, false, false, false]
def ir17_v : List Nat := [0, 1, 2, 3, 4, 6, 10, 11, 12, 13]
def ir17 : AFn := ⟨1, 10, .seq (.region false [ VO 1 1 (.box (.v 0)), VO 2 2 (.newnil 1), VO 3 3 (.mov (I6 0))]) (.seq (.test false [ PO 7 (.load false 1 (.v 1)), PO 8 (.call 27 [(.s 0)]), PO 9 (.un .not (.s 0))] (.s 0) (.seq (.region false [ VO 2 2 (.newnil 1), VO 3 3 (.mov (I6 1))]) (.ret)) (.skip)) (.seq (.region false [ VO 4 4 (.alloc (.int .i64 (0))), ⟨.no, 0, none, .store 1 (.v 4) (I6 5)⟩]) (.seq (.seq (.region false [ VO 6 10 (.load false 1 (.v 1)), VO 7 11 (.len false (.v 6)), VO 8 12 (.mov (I6 0))]) (.block 0 (.loop ir17_k0 ir17_o0 ir17_r0 ir17_b0))) (.seq (.region false [ PO 24 (.load
 false 1 (.v 1)), PO 25 (.len false (.s 0)), PO 26 (.mkFn (.func 54) [] [(.v 1), (.v 4)]), PO 27 (.call 49 [(.s 1), (.s 0)]), VS 2 2 0, VO 3 3 (.mov (I6 0))]) (.ret))))), [.t 2, .t 3]⟩
noncomputable def t_52 : List (Nat × Ctr) := [(27, c_19), (49, c_51)]
theorem lk_52_27 : look t_52 27 = some c_19 := rfl
theorem lk_52_49 : look t_52 49 = some c_51 := rfl
noncomputable def c_52 : Ctr := mkF t_52 ir17 [.bor]
theorem s_52 : Sound Tryz.prog 17 c_52 := mkF_sound _ rfl (snd_cons s_19 (snd_cons s_51 snd_nil)) (by kernel_rfl : chkFn Tryz.prog 17 ir17 ir17_v = true)
theorem M_52 : c_52.modes = [.bor] := rfl
theorem Fl_52 : c_52.flat = true := rfl
attribute [go_sem] M_52 Fl_52
attribute [go_sem] lk_52_27 lk_52_49
def E_52_l1 (list : List Volume) (t10 : List Volume) (t11 : Int) : (Int × Int) → St
 | (least, t12) => ⟨[.any, .ref 3200000 0 0, .any, .any, .ref 3200032 0 0, .any, .sl 5 (List.map Volume_av t10), .int .i64 t11, .int .i64 t12, .any], [], [(3200000, ⟨1, [.sl 5 (List.map Volume_av list)]⟩), (3200032, ⟨1, [.int .i64 least]⟩)], true⟩
def R_52_l1 (list : List Volume) (t10 : List Volume) (t11 : Int) (y : Int) : Res := (.exit 0, ⟨[.any, .ref 3200000 0 0, .any, .any, .ref 3200032 0 0, .any, .any, .any, .any, .any], [], [(3200000, ⟨1, [.sl 5 (List.map Volume_av list)]⟩), (3200032, ⟨1, [.int .i64 y]⟩)], true⟩)
theorem impl_EndangeredVolumes_l1_ex {list : List Volume} {t10 : List Volume} {t11 : Int} {sgm_ : Int × Int} {rho_ : Int} (h : whileE (impl_EndangeredVolumes_l1 list t10 t11) sgm_ = some rho_) : ∃ L0, ∀ L, L0 ≤ L → iter (exec (look t_52) L ir17_b0) ir17_k0 ir17_o0 ir17_r0 L (E_52_l1 list t10 t11 sgm_) = R_52_l1 list t10 t11 rho_ := by
 refine loop_ex (E := E_52_l1 list t10 t11) (R := R_52_l1 list t10 t11) (fun y => by first | (intro c; cases c) | (rcases y with y | y <;> (intro c; cases c)) | (rcases y with y | y | y <;> (intro c; cases c))) ?_ h
 clear h
 rintro ⟨least, t12⟩ o_ h
 dsimp only [impl_EndangeredVolumes_l1] at h
 rcases it_some h with ⟨z3, h⟩ | ⟨z3, h⟩
 ·try simp only [go_sem, n1, n2, n3, n4] at z3
  all_goals
  obtain ⟨z4, h⟩ := ck_some h
  have lz4 := ix_lt z4
  have xz4 := getD_mapD Volume_av t10 lz4
  try simp only [go_sem] at lz4
  try simp only [go_sem] at xz4
  try simp only [go_sem, n1, n2, n3, n4, z3] at z4
  all_goals
  rcases it_some h with ⟨z5, h⟩ | ⟨z5, h⟩
  ·try simp only [go_sem, n1, n2, n3, n4, z3, z4] at z5
   all_goals
   obtain rfl := so_some h
   refine ⟨0, fun L hL => ?_⟩
   simp only [go_sem, ir17, E_52_l1, R_52_l1, ir17_b0, ir17_k0, ir17_o0, ir17_r0, z3, z4, lz4, xz4, z5]
  ·try simp only [go_sem, n1, n2, n3, n4, z3, z4] at z5
   all_goals
   obtain rfl := so_some h
   refine ⟨0, fun L hL => ?_⟩
   simp only [go_sem, ir17, E_52_l1, R_52_l1, ir17_b0, ir17_k0, ir17_o0, ir17_r0, z3, z4, lz4, xz4, z5]
 ·try simp only [go_sem, n1, n2, n3, n4] at z3
  all_goals
  obtain rfl := so_some h
  refine ⟨0, fun L hL => ?_⟩
  simp only [go_sem, ir17, E_52_l1, R_52_l1, ir17_b0, ir17_k0, ir17_o0, ir17_r0, z3]

theorem Fs_52 {list : List Volume} {y_ : (List Int) × Int} (h : impl_EndangeredVolumes list = some y_) : c_52.F [.sl 5 (List.map Volume_av list)] = ⟨true, .tup [.fresh 1 (List.map (AV.int .i64) y_.1), .int .i64 y_.2], [.any]⟩ := by
 refine mkF_E (by simp only [flatA, flatB, flat1, List.all_cons, List.all_nil, Bool.and_self, flatE_map (f := (AV.int .i64)) (fun _ => rfl)]) ?_
 dsimp only [impl_EndangeredVolumes] at h
 obtain ⟨y_1, z1, h⟩ := bd_some h
 have fz1 := Fs_19 z1
 try simp only [go_sem] at fz1
 rcases it_some h with ⟨z2, h⟩ | ⟨z2, h⟩
 ·try simp only [go_sem, n1, n2, n3, n4] at z2
  all_goals
  obtain rfl := so_some h
  refine ⟨0, fun L hL => ?_⟩
  simp only [go_sem, ir17, E_52_l1, R_52_l1, ir17_k0, ir17_o0, ir17_r0, fz1, z2]
 ·try simp only [go_sem, n1, n2, n3, n4] at z2
  all_goals
  obtain ⟨y_6, z6, h⟩ := bd_some h
  obtain ⟨Lz6, ez6⟩ := impl_EndangeredVolumes_l1_ex z6
  obtain ⟨y_7, z7, h⟩ := bd_some h
  have fz7 := Fs_51 z7
  try simp only [go_sem, z2] at fz7
  obtain rfl := so_some h
  refine ⟨Lz6, fun L hL => ?_⟩
  have ez6 := ez6 L (by omega)
  try simp only [go_sem, E_52_l1, R_52_l1, ir17_k0, ir17_o0, ir17_r0, z2] at ez6
  simp only [go_sem, ir17, E_52_l1, R_52_l1, ir17_k0, ir17_o0, ir17_r0, fz1, z2, fz7, ez6]


def ir55_v : List Nat := [0, 1, 4]
def ir55 : AFn := ⟨2, 3, .seq (.region false [ VO 2 4 (.mov (I6 0))]) (.seq (.test false [ PM 5 0, PM 6 1, PO 7 (.bin false .lss (.s 1) (.s 0))] (.s 0) (.seq (.region false [ PM 8 0, VS 2 4 0]) (.ret)) (.skip)) (.seq (.region false [ PM 9 1, VS 2 4 0]) (.ret))), [.t 2]⟩
noncomputable def t_53 : List (Nat × Ctr) := []
noncomputable def c_53 : Ctr := mkF t_53 ir55 [.bor, .bor]
theorem s_53 : Sound Tryz.prog 55 c_53 := mkF_sound _ rfl snd_nil (by kernel_rfl : chkFn Tryz.prog 55 ir55 ir55_v = true)
theorem M_53 : c_53.modes = [.bor, .bor] := rfl
theorem Fl_53 : c_53.flat = true := rfl
attribute [go_sem] M_53 Fl_53
theorem Fs_53 {a : Int} {b : Int} {y_ : Int} (h : spec_l00Min a b = some y_) : c_53.F [.int .i64 a, .int .i64 b] = ⟨true, .int .i64 y_, [.any, .any]⟩ := by
 refine mkF_E rfl ?_
 dsimp only [spec_l00Min] at h
 rcases it_some h with ⟨z1, h⟩ | ⟨z1, h⟩
 ·try simp only [go_sem, n1, n2, n3, n4] at z1
  all_goals
  obtain rfl := so_some h
  refine ⟨0, fun L hL => ?_⟩
  simp only [go_sem, ir55, z1]
 ·try simp only [go_sem, n1, n2, n3, n4] at z1
  all_goals
  obtain rfl := so_some h
  refine ⟨0, fun L hL => ?_⟩
  simp only [go_sem, ir55, z1]


def ir18_b0 : IR := .seq (.test false [ PM 11 4, PM 12 0, PO 13 (.len false (.s 0)), PO 14 (.bin false .lss (.s 2) (.s 0))] (.s 0) (.skip) (.exit 0)) (.seq (.block 1 (.test false [ PM 17 0, PM 18 4, PO 19 (.ixAddr 5 (.s 1) (.s 0)), PO 20 (.fldAddr 4 (.s 0)), PO 21 (.load false 1 (.s 0)), PO 22 (.bin false .gtr (.s 0) (I6 0))] (.s 0) (.region false [ PM 23 3, PM 24 0, PM 25 4, PO 26 (.ixAddr 5 (.s 1) (.s 0)), PO 27 (.fldAddr 4 (.s 0)), PO 28 (.load false 1 (.s 0)), PO 29 (.call 55 [(.s 5), (.s 0)]), VS 3 4 0]) (.skip))) (.region false [ PM 15 4, PO 16 (.bin false .add (.s 0) (I6 1)), VS 4 5 0]))
def ir18_k0 : List Bool := [true, false, false, true, true, false, false]
def ir18_o0 : List Bool := [true, false, false, true, false, false, false]
def ir18_r0 : List Bool := [false, true, true, false, false, false, false]
def ir18_b1 : IR := .seq (.test false [ PM 31 6, PM 32 0, PO 33 (.len false (.s 0)), PO 34 (.bin false .lss (.s 2) (.s 0))] (.s 0) (.skip) (.exit 2)) (.seq (.block 3 (.test false [ PM 37 0, PM 38 6, PO 39 (.ixAddr 5 (.s 1) (.s 0)), PO 40 (.fldAddr 4 (.s 0)), PO 41 (.load false 1 (.s 0)), PM 42 3, PO 43 (.bin false .eql (.s 1) (.s 0))] (.s 0) (.region false [ PM 44 5, PM 45 6, PO 46 (.mkSl 1 (.int .i64 (0)) 1 [(0, (.s 0))]), PO 47 (.app 1 8 (.int .i64 (0)) (.s 2) (.s 0)), VS 5 6 0]) (.skip))) (.region false [ PM 35 6, PO 36 (.bin false .add (.s 0) (I6 1)), VS 6 7 0]))
def ir18_k1 : List Bool := [true, false, false, true, false, true, true]
def ir18_o1 : List Bool := [false, false, false, false, false, true, false]
def ir18_r1 : List Bool := [false, true, true, false, false, false, false]
def ir18_v : List Nat := [0, 2, 3, 4, 5, 6, 7]
def ir18 : AFn := ⟨1, 7, .seq (.region false [ VO 1 2 (.newnil 1), VO 2 3 (.mov (I6 0))]) (.seq (.test false [ PM 8 0, PO 9 (.call 41 [(.s 0)]), PO 10 (.un .not (.s 0))] (.s 0) (.seq (.region false [ VO 1 2 (.newnil 1), VO 2 3 (.mov (I6 1))]) (.ret)) (.skip)) (.seq (.region false [ VO 3 4 (.mov (I6 6))]) (.seq (.seq (.region false [ VO 4 5 (.mov (I6 0))]) (.block 0 (.loop ir18_k0 ir18_o0 ir18_r0 ir18_b0))) (.seq (.region false [ PO 30 (.mkSl 1 (.int .i64 (0)) 0 []), VS 5 6 0]) (.seq (.seq (.region false [ VO 6 7 (.mov (I6 0))]) (.block 2 (.loop ir18_k1 ir18_o1 ir18_r1 ir18_b1))) (.seq (.region
 false [ PM 48 5, VS 1 2 0, VO 2 3 (.mov (I6 0))]) (.ret))))))), [.t 1, .t 2]⟩
noncomputable def t_54 : List (Nat × Ctr) := [(41, c_34), (55, c_53)]
theorem lk_54_41 : look t_54 41 = some c_34 := rfl
theorem lk_54_55 : look t_54 55 = some c_53 := rfl
noncomputable def c_54 : Ctr := mkF t_54 ir18 [.bor]
theorem s_54 : Sound Tryz.prog 18 c_54 := mkF_sound _ rfl (snd_cons s_34 (snd_cons s_53 snd_nil)) (by kernel_rfl : chkFn Tryz.prog 18 ir18 ir18_v = true)
theorem M_54 : c_54.modes = [.bor] := rfl
theorem Fl_54 : c_54.flat = true := rfl
attribute [go_sem] M_54 Fl_54
attribute [go_sem] lk_54_41 lk_54_55
def E_54_l1 (list : List Volume) : (Int × Int) → St
 | (least, i) => ⟨[.sl 5 (List.map Volume_av list), .any, .any, .int .i64 least, .int .i64 i, .any, .any], [], [], true⟩
def R_54_l1 (list : List Volume) (y : Int) : Res := (.exit 0, ⟨[.sl 5 (List.map Volume_av list), .any, .any, .int .i64 y, .any, .any, .any], [], [], true⟩)
theorem spec_EndangeredVolumes_l1_ex {list : List Volume} {sgm_ : Int × Int} {rho_ : Int} (h : whileE (spec_EndangeredVolumes_l1 list) sgm_ = some rho_) : ∃ L0, ∀ L, L0 ≤ L → iter (exec (look t_54) L ir18_b0) ir18_k0 ir18_o0 ir18_r0 L (E_54_l1 list sgm_) = R_54_l1 list rho_ := by
 refine loop_ex (E := E_54_l1 list) (R := R_54_l1 list) (fun y => by first | (intro c; cases c) | (rcases y with y | y <;> (intro c; cases c)) | (rcases y with y | y | y <;> (intro c; cases c))) ?_ h
 clear h
 rintro ⟨least, i⟩ o_ h
 dsimp only [spec_EndangeredVolumes_l1] at h
 rcases it_some h with ⟨z3, h⟩ | ⟨z3, h⟩
 ·try simp only [go_sem, n1, n2, n3, n4] at z3
  all_goals
  obtain ⟨z4, h⟩ := ck_some h
  have lz4 := ix_lt z4
  have xz4 := getD_mapD Volume_av list lz4
  try simp only [go_sem] at lz4
  try simp only [go_sem] at xz4
  try simp only [go_sem, n1, n2, n3, n4, z3] at z4
  all_goals
  rcases it_some h with ⟨z5, h⟩ | ⟨z5, h⟩
  ·try simp only [go_sem, n1, n2, n3, n4, z3, z4] at z5
   all_goals
   obtain ⟨y_6, z6, h⟩ := bd_some h
   have fz6 := Fs_53 z6
   try simp only [go_sem, z3, z4, z5] at fz6
   obtain rfl := so_some h
   refine ⟨0, fun L hL => ?_⟩
   simp only [go_sem, ir18, E_54_l1, R_54_l1, ir18_b0, ir18_k0, ir18_o0, ir18_r0, z3, z4, lz4, xz4, z5, fz6]
  ·try simp only [go_sem, n1, n2, n3, n4, z3, z4] at z5
   all_goals
   obtain rfl := so_some h
   refine ⟨0, fun L hL => ?_⟩
   simp only [go_sem, ir18, E_54_l1, R_54_l1, ir18_b0, ir18_k0, ir18_o0, ir18_r0, z3, z4, lz4, xz4, z5]
 ·try simp only [go_sem, n1, n2, n3, n4] at z3
  all_goals
  obtain rfl := so_some h
  refine ⟨0, fun L hL => ?_⟩
  simp only [go_sem, ir18, E_54_l1, R_54_l1, ir18_b0, ir18_k0, ir18_o0, ir18_r0, z3]

def E_54_l2 (list : List Volume) (least : Int) : ((List Int) × Int) → St
 | (out, i) => ⟨[.sl 5 (List.map Volume_av list), .any, .any, .int .i64 least, .any, .own 3200000, .int .i64 i], [], [(3200000, ⟨1, List.map (AV.int .i64) out⟩)], true⟩
def R_54_l2 (list : List Volume) (least : Int) (y : (List Int)) : Res := (.exit 2, ⟨[.any, .any, .any, .any, .any, .own 3200000, .any], [], [(3200000, ⟨1, List.map (AV.int .i64) y⟩)], true⟩)
theorem spec_EndangeredVolumes_l2_ex {list : List Volume} {least : Int} {sgm_ : (List Int) × Int} {rho_ : (List Int)} (h : whileE (spec_EndangeredVolumes_l2 list least) sgm_ = some rho_) : ∃ L0, ∀ L, L0 ≤ L → iter (exec (look t_54) L ir18_b1) ir18_k1 ir18_o1 ir18_r1 L (E_54_l2 list least sgm_) = R_54_l2 list least rho_ := by
 refine loop_ex (E := E_54_l2 list least) (R := R_54_l2 list least) (fun y => by first | (intro c; cases c) | (rcases y with y | y <;> (intro c; cases c)) | (rcases y with y | y | y <;> (intro c; cases c))) ?_ h
 clear h
 rintro ⟨out, i⟩ o_ h
 dsimp only [spec_EndangeredVolumes_l2] at h
 rcases it_some h with ⟨z8, h⟩ | ⟨z8, h⟩
 ·try simp only [go_sem, n1, n2, n3, n4] at z8
  all_goals
  obtain ⟨z9, h⟩ := ck_some h
  have lz9 := ix_lt z9
  have xz9 := getD_mapD Volume_av list lz9
  try simp only [go_sem] at lz9
  try simp only [go_sem] at xz9
  try simp only [go_sem, n1, n2, n3, n4, z8] at z9
  all_goals
  rcases it_some h with ⟨z10, h⟩ | ⟨z10, h⟩
  ·try simp only [go_sem, n1, n2, n3, n4, z8, z9] at z10
   all_goals
   obtain ⟨z11, h⟩ := ck_some h
   try simp only [go_sem, n1, n2, n3, n4, z8, z9, z10] at z11
   all_goals
   obtain rfl := so_some h
   refine ⟨0, fun L hL => ?_⟩
   simp only [go_sem, ir18, E_54_l2, R_54_l2, ir18_b1, ir18_k1, ir18_o1, ir18_r1, E_54_l1, R_54_l1, ir18_k0, ir18_o0, ir18_r0, z8, z9, lz9, xz9, z10, z11]
  ·try simp only [go_sem, n1, n2, n3, n4, z8, z9] at z10
   all_goals
   obtain rfl := so_some h
   refine ⟨0, fun L hL => ?_⟩
   simp only [go_sem, ir18, E_54_l2, R_54_l2, ir18_b1, ir18_k1, ir18_o1, ir18_r1, E_54_l1, R_54_l1, ir18_k0, ir18_o0, ir18_r0, z8, z9, lz9, xz9, z10]
 ·try simp only [go_sem, n1, n2, n3, n4] at z8
  all_goals
  obtain rfl := so_some h
  refine ⟨0, fun L hL => ?_⟩
  simp only [go_sem, ir18, E_54_l2, R_54_l2, ir18_b1, ir18_k1, ir18_o1, ir18_r1, E_54_l1, R_54_l1, ir18_k0, ir18_o0, ir18_r0, z8]

theorem Fs_54 {list : List Volume} {y_ : (List Int) × Int} (h : spec_EndangeredVolumes list = some y_) : c_54.F [.sl 5 (List.map Volume_av list)] = ⟨true, .tup [.fresh 1 (List.map (AV.int .i64) y_.1), .int .i64 y_.2], [.any]⟩ := by
 refine mkF_E (by simp only [flatA, flatB, flat1, List.all_cons, List.all_nil, Bool.and_self, flatE_map (f := (AV.int .i64)) (fun _ => rfl)]) ?_
 dsimp only [spec_EndangeredVolumes] at h
 obtain ⟨y_1, z1, h⟩ := bd_some h
 have fz1 := Fs_34 z1
 try simp only [go_sem] at fz1
 rcases it_some h with ⟨z2, h⟩ | ⟨z2, h⟩
 ·try simp only [go_sem, n1, n2, n3, n4] at z2
  all_goals
  obtain rfl := so_some h
  refine ⟨0, fun L hL => ?_⟩
  simp only [go_sem, ir18, E_54_l1, R_54_l1, ir18_k0, ir18_o0, ir18_r0, E_54_l2, R_54_l2, ir18_k1, ir18_o1, ir18_r1, fz1, z2]
 ·try simp only [go_sem, n1, n2, n3, n4] at z2
  all_goals
  obtain ⟨y_7, z7, h⟩ := bd_some h
  obtain ⟨Lz7, ez7⟩ := spec_EndangeredVolumes_l1_ex z7
  obtain ⟨y_12, z12, h⟩ := bd_some h
  obtain ⟨Lz12, ez12⟩ := spec_EndangeredVolumes_l2_ex z12
  obtain rfl := so_some h
  refine ⟨Lz7 + Lz12, fun L hL => ?_⟩
  have ez7 := ez7 L (by omega)
  have ez12 := ez12 L (by omega)
  try simp only [go_sem, E_54_l1, R_54_l1, ir18_k0, ir18_o0, ir18_r0, E_54_l2, R_54_l2, ir18_k1, ir18_o1, ir18_r1, z2] at ez7
  try simp only [go_sem, E_54_l1, R_54_l1, ir18_k0, ir18_o0, ir18_r0, E_54_l2, R_54_l2, ir18_k1, ir18_o1, ir18_r1, z2] at ez12
  simp only [go_sem, ir18, E_54_l1, R_54_l1, ir18_k0, ir18_o0, ir18_r0, E_54_l2, R_54_l2, ir18_k1, ir18_o1, ir18_r1, fz1, z2, ez7, ez12]


def ir85_v : List Nat := [0, 2, 3]
def ir85 : AFn := ⟨1, 3, .seq (.region false [ VO 1 2 (.alloc (.agg [.int .i64 (0), .str [], .str [], .int .i64 (0), .bool false]))]) (.seq (.region false [ PM 4 0, PO 5 (.call 47 [(.s 0), (I6 30)]), PO 6 (.bin false .mul (I6 1000) (.s 0)), PO 7 (.build [.int .i64 (0), .str [], .str [], .int .i64 (0), .bool false] [(0, 1, (.s 0))]), VO 2 3 (.alloc (.agg [.int .i64 (0), .str [], .str [], .int .i64 (0), .bool false])), ⟨.no, 0, none, .store 5 (.v 2) (.s 0)⟩]) (.seq (.test false [ PM 8 0, PO 9 (.call 35 [(.s 0), (I6 2)])] (.s 0) (.anyo 6 [ SO 0 10 (.fldAddr 0 (.v 2)), SO 1 11 (.load false 1 (.s
 0)), SO 2 12 (.mov (.v 0)), SO 3 13 (.call 47 [(.s 2), (I6 3000)]), SO 4 14 (.bin false .add (.s 1) (.s 3)), SO 5 15 (.fldAddr 0 (.v 2)), ⟨.no, 0, none, .store 1 (.s 5) (.s 4)⟩] [[2, 0, 1, 3, 4, 5, 6], [2, 0, 3, 1, 4, 5, 6], [2, 3, 0, 1, 4, 5, 6]] .skip) (.skip)) (.seq (.region false [ PM 16 0, PO 17 (.mkSl 1 (.str []) 3 [(0, (.c (.str [109, 105, 114, 97]))), (1, (.c (.str [114, 114, 45, 108, 121, 114]))), (2, (.c (.str [115, 115, 45, 99, 121, 103])))]), PO 18 (.call 67 [(.s 1), (.s 0)]), PO 19 (.fldAddr 1 (.v 2)), ⟨.no, 0, none, .store 1 (.s 0) (.s 1)⟩]) (.seq (.region false [ PM 20 0, PO 21
 (.mkSl 1 (.str []) 3 [(0, (.c (.str [97, 98]))), (1, (.c (.str [99, 100]))), (2, (.c (.str [101])))]), PO 22 (.call 67 [(.s 1), (.s 0)]), PO 23 (.fldAddr 2 (.v 2)), ⟨.no, 0, none, .store 1 (.s 0) (.s 1)⟩]) (.seq (.region false [ PM 24 0, PO 25 (.call 47 [(.s 0), (I6 60)]), PO 26 (.bin false .mul (I6 50) (.s 0)), PO 27 (.bin false .add (I6 8000) (.s 0)), PO 28 (.fldAddr 3 (.v 2)), ⟨.no, 0, none, .store 1 (.s 0) (.s 1)⟩]) (.seq (.region false [ PM 29 0, PO 30 (.call 35 [(.s 0), (I6 5)]), PO 31 (.fldAddr 4 (.v 2)), ⟨.no, 0, none, .store 1 (.s 0) (.s 1)⟩]) (.seq (.region false [ PO 32 (.load true
 5 (.v 2)), ⟨.no, 0, none, .store 5 (.v 1) (.s 0)⟩]) (.ret)))))))), [.cell true 5 1]⟩
noncomputable def t_55 : List (Nat × Ctr) := [(47, c_3), (35, c_4), (67, c_7)]
theorem lk_55_47 : look t_55 47 = some c_3 := rfl
theorem lk_55_35 : look t_55 35 = some c_4 := rfl
theorem lk_55_67 : look t_55 67 = some c_7 := rfl
noncomputable def c_55 : Ctr := mkN t_55 ir85 [.io]
theorem s_55 : Sound Tryz.prog 85 c_55 := mkN_sound _ (snd_cons s_3 (snd_cons s_4 (snd_cons s_7 snd_nil))) (by kernel_rfl : chkFn Tryz.prog 85 ir85 ir85_v = true)
theorem M_55 : c_55.modes = [.io] := rfl
theorem Fl_55 : c_55.flat = false := rfl
attribute [go_sem] M_55 Fl_55
attribute [go_sem] lk_55_47 lk_55_35 lk_55_67
theorem Fs_55 {s_ : L00Src} {y_ : Estimate × L00Src} (h : spec_l06New s_ = some y_) : c_55.F [.mem 3 [L00Src_av s_] 0] = ⟨true, Estimate_av y_.1, [.mem 3 [L00Src_av y_.2] 0]⟩ := by
 refine mkN_E ?_
 dsimp only [spec_l06New] at h
 obtain ⟨y_1, z1, h⟩ := bd_some h
 have fz1 := Fs_3 z1
 try simp only [go_sem] at fz1
 obtain ⟨y_2, z2, h⟩ := bd_some h
 have fz2 := Fs_4 z2
 try simp only [go_sem] at fz2
 rcases it_some h with ⟨z3, h⟩ | ⟨z3, h⟩
 ·try simp only [go_sem, n1, n2, n3, n4] at z3
  all_goals
  obtain ⟨y_4, z4, h⟩ := bd_some h
  have fz4 := Fs_3 z4
  try simp only [go_sem, z3] at fz4
  obtain ⟨y_5, z5, h⟩ := bd_some h
  have fz5 := Fs_7 z5
  try simp only [go_sem, z3] at fz5
  obtain ⟨y_6, z6, h⟩ := bd_some h
  have fz6 := Fs_7 z6
  try simp only [go_sem, z3] at fz6
  obtain ⟨y_7, z7, h⟩ := bd_some h
  have fz7 := Fs_3 z7
  try simp only [go_sem, z3] at fz7
  obtain ⟨y_8, z8, h⟩ := bd_some h
  have fz8 := Fs_4 z8
  try simp only [go_sem, z3] at fz8
  obtain rfl := so_some h
  refine ⟨0, fun L hL => ?_⟩
  simp only [go_sem, ir85, fz1, fz2, z3, fz4, fz5, fz6, fz7, fz8]
 ·try simp only [go_sem, n1, n2, n3, n4] at z3
  all_goals
  obtain ⟨y_9, z9, h⟩ := bd_some h
  have fz9 := Fs_7 z9
  try simp only [go_sem, z3] at fz9
  obtain ⟨y_10, z10, h⟩ := bd_some h
  have fz10 := Fs_7 z10
  try simp only [go_sem, z3] at fz10
  obtain ⟨y_11, z11, h⟩ := bd_some h
  have fz11 := Fs_3 z11
  try simp only [go_sem, z3] at fz11
  obtain ⟨y_12, z12, h⟩ := bd_some h
  have fz12 := Fs_4 z12
  try simp only [go_sem, z3] at fz12
  obtain rfl := so_some h
  refine ⟨0, fun L hL => ?_⟩
  simp only [go_sem, ir85, fz1, fz2, z3, fz9, fz10, fz11, fz12]


def ir78_v : List Nat := [0, 1, 4]
def ir78 : AFn := ⟨2, 3, .seq (.region false [ VO 2 4 (.mov (.c (.bool false)))]) (.seq (.anyo 9 [ SO 0 5 (.mov (.v 0)), SO 1 6 (.nilck (.s 0)), SO 2 7 (.fldAddr 0 (.s 1)), SO 3 8 (.load false 1 (.s 2)), SO 4 9 (.mov (.v 1)), SO 5 10 (.nilck (.s 4)), SO 6 11 (.fldAddr 0 (.s 5)), SO 7 12 (.load false 1 (.s 6)), SO 8 13 (.bin false .neq (.s 3) (.s 7))] [] (.cond (.s 8) (.seq (.anyo 9 [ SO 0 14 (.mov (.v 0)), SO 1 15 (.nilck (.s 0)), SO 2 16 (.fldAddr 0 (.s 1)), SO 3 17 (.load false 1 (.s 2)), SO 4 18 (.mov (.v 1)), SO 5 19 (.nilck (.s 4)), SO 6 20 (.fldAddr 0 (.s 5)), SO 7 21 (.load false 1 (.s
 6)), SO 8 22 (.bin false .lss (.s 3) (.s 7)), VS 2 4 8] [] .skip) (.ret)) (.skip))) (.seq (.anyo 9 [ SO 0 23 (.mov (.v 0)), SO 1 24 (.nilck (.s 0)), SO 2 25 (.fldAddr 1 (.s 1)), SO 3 26 (.load false 1 (.s 2)), SO 4 27 (.mov (.v 1)), SO 5 28 (.nilck (.s 4)), SO 6 29 (.fldAddr 1 (.s 5)), SO 7 30 (.load false 1 (.s 6)), SO 8 31 (.bin false .neq (.s 3) (.s 7))] [] (.cond (.s 8) (.seq (.anyo 9 [ SO 0 32 (.mov (.v 0)), SO 1 33 (.nilck (.s 0)), SO 2 34 (.fldAddr 1 (.s 1)), SO 3 35 (.load false 1 (.s 2)), SO 4 36 (.mov (.v 1)), SO 5 37 (.nilck (.s 4)), SO 6 38 (.fldAddr 1 (.s 5)), SO 7 39 (.load false
 1 (.s 6)), SO 8 40 (.bin false .lss (.s 3) (.s 7)), VS 2 4 8] [] .skip) (.ret)) (.skip))) (.seq (.anyo 9 [ SO 0 41 (.mov (.v 0)), SO 1 42 (.nilck (.s 0)), SO 2 43 (.fldAddr 2 (.s 1)), SO 3 44 (.load false 1 (.s 2)), SO 4 45 (.mov (.v 1)), SO 5 46 (.nilck (.s 4)), SO 6 47 (.fldAddr 2 (.s 5)), SO 7 48 (.load false 1 (.s 6)), SO 8 49 (.bin false .lss (.s 3) (.s 7)), VS 2 4 8] [] .skip) (.ret)))), [.t 2]⟩
noncomputable def t_56 : List (Nat × Ctr) := []
noncomputable def c_56 : Ctr := mkF t_56 ir78 [.bor, .bor]
theorem s_56 : Sound Tryz.prog 78 c_56 := mkF_sound _ rfl snd_nil (by kernel_rfl : chkFn Tryz.prog 78 ir78 ir78_v = true)
theorem M_56 : c_56.modes = [.bor, .bor] := rfl
theorem Fl_56 : c_56.flat = true := rfl
attribute [go_sem] M_56 Fl_56
theorem Fs_56 {a : Estimate} {b : Estimate} {y_ : Bool} (h : spec_l06Before a b = some y_) : c_56.F [.ptr 5 [Estimate_av a] 0 0, .ptr 5 [Estimate_av b] 0 0] = ⟨true, .bool y_, [.any, .any]⟩ := by
 refine mkF_E rfl ?_
 dsimp only [spec_l06Before] at h
 rcases it_some h with ⟨z1, h⟩ | ⟨z1, h⟩
 ·try simp only [go_sem, n1, n2, n3, n4] at z1
  all_goals
  obtain rfl := so_some h
  refine ⟨0, fun L hL => ?_⟩
  simp only [go_sem, ir78, z1]
 ·try simp only [go_sem, n1, n2, n3, n4] at z1
  all_goals
  rcases it_some h with ⟨z2, h⟩ | ⟨z2, h⟩
  ·try simp only [go_sem, n1, n2, n3, n4, z1] at z2
   all_goals
   obtain rfl := so_some h
   refine ⟨0, fun L hL => ?_⟩
   simp only [go_sem, ir78, z1, z2]
  ·try simp only [go_sem, n1, n2, n3, n4, z1] at z2
   all_goals
   obtain rfl := so_some h
   refine ⟨0, fun L hL => ?_⟩
   simp only [go_sem, ir78, z1, z2]


def ir86_b0 : IR := .seq (.test false [ PM 6 3, PM 7 0, PO 8 (.len false (.s 0)), PO 9 (.bin false .lss (.s 2) (.s 0))] (.s 0) (.skip) (.exit 0)) (.seq (.block 1 (.test false [ PM 12 0, PM 13 3, PO 14 (.ixAddr 5 (.s 1) (.s 0)), PM 15 1, PO 16 (.call 78 [(.s 1), (.s 0)]), PO 17 (.un .not (.s 0)), PO 18 (.mov (.s 0)), ⟨.push, 19, (some ((.s 0), true)), .mov (.v 1)⟩, ⟨.push, 20, (some ((.s 1), true)), .mov (.v 0)⟩, ⟨.push, 21, (some ((.s 2), true)), .mov (.v 3)⟩, ⟨.push, 22, (some ((.s 3), true)), .ixAddr 5 (.s 1) (.s 0)⟩, ⟨.push, 23, (some ((.s 4), true)), .call 78 [(.s 3), (.s 0)]⟩, ⟨.push, 24,
 (some ((.s 5), true)), .un .not (.s 0)⟩, PO 25 (.pick (.s 6) (.s 0) (.c (.bool false)))] (.s 0) (.seq (.region false [ PM 26 3, VS 2 4 0]) (.ret)) (.skip))) (.region false [ PM 10 3, PO 11 (.bin false .add (.s 0) (I6 1)), VS 3 5 0]))
def ir86_k0 : List Bool := [true, true, false, true]
def ir86_o0 : List Bool := [false, false, false, false]
def ir86_r0 : List Bool := [false, false, true, false]
def ir86_v : List Nat := [0, 1, 4, 5]
def ir86 : AFn := ⟨2, 4, .seq (.region false [ VO 2 4 (.mov (I6 0))]) (.seq (.seq (.region false [ VO 3 5 (.mov (I6 0))]) (.block 0 (.loop ir86_k0 ir86_o0 ir86_r0 ir86_b0))) (.seq (.region false [ VO 2 4 (.mov (.c (.int .i64 (-1))))]) (.ret))), [.t 2]⟩
noncomputable def t_57 : List (Nat × Ctr) := [(78, c_56)]
theorem lk_57_78 : look t_57 78 = some c_56 := rfl
noncomputable def c_57 : Ctr := mkF t_57 ir86 [.bor, .bor]
theorem s_57 : Sound Tryz.prog 86 c_57 := mkF_sound _ rfl (snd_cons s_56 snd_nil) (by kernel_rfl : chkFn Tryz.prog 86 ir86 ir86_v = true)
theorem M_57 : c_57.modes = [.bor, .bor] := rfl
theorem Fl_57 : c_57.flat = true := rfl
attribute [go_sem] M_57 Fl_57
attribute [go_sem] lk_57_78
def E_57_l1 (list : List Estimate) (e_ : Estimate) : Int → St
 | i => ⟨[.sl 5 (List.map Estimate_av list), .ptr 5 [Estimate_av e_] 0 0, .any, .int .i64 i], [], [], true⟩
def R_57_l1 (list : List Estimate) (e_ : Estimate) : (Unit ⊕ Int) → Res
 | .inl y => (.exit 0, ⟨[.any, .any, .any, .any], [], [], true⟩)
 | .inr y => (.ret, ⟨[.any, .any, .int .i64 y, .any], [], [], true⟩)
theorem spec_l06Find_l1_ex {list : List Estimate} {e_ : Estimate} {sgm_ : Int} {rho_ : Unit ⊕ Int} (h : whileE (spec_l06Find_l1 list e_) sgm_ = some rho_) : ∃ L0, ∀ L, L0 ≤ L → iter (exec (look t_57) L ir86_b0) ir86_k0 ir86_o0 ir86_r0 L (E_57_l1 list e_ sgm_) = R_57_l1 list e_ rho_ := by
 refine loop_ex (E := E_57_l1 list e_) (R := R_57_l1 list e_) (fun y => by first | (intro c; cases c) | (rcases y with y | y <;> (intro c; cases c)) | (rcases y with y | y | y <;> (intro c; cases c))) ?_ h
 clear h
 intro i o_ h
 dsimp only [spec_l06Find_l1] at h
 rcases it_some h with ⟨z1, h⟩ | ⟨z1, h⟩
 ·try simp only [go_sem, n1, n2, n3, n4] at z1
  all_goals
  obtain ⟨z2, h⟩ := ck_some h
  have lz2 := ix_lt z2
  have xz2 := getD_mapD Estimate_av list lz2
  try simp only [go_sem] at lz2
  try simp only [go_sem] at xz2
  try simp only [go_sem, n1, n2, n3, n4, z1] at z2
  all_goals
  obtain ⟨y_3, z3, h⟩ := bd_some h
  have fz3 := Fs_56 z3
  try simp only [go_sem, z1, z2] at fz3
  obtain ⟨z4, h⟩ := ck_some h
  rcases or_split z4 with ⟨gz4, z4⟩ | gz4
  ·try simp only [go_sem, n1, n2, n3, n4, z1, z2] at gz4
   all_goals
   obtain ⟨y_4, hz4⟩ := Option.isSome_iff_exists.1 z4
   have fz4 := Fs_56 hz4
   try simp only [go_sem, n1, n2, n3, n4, z1, z2, gz4] at hz4
   all_goals
   try simp only [go_sem, z1, z2, gz4] at fz4
   rcases it_some h with ⟨z5, h⟩ | ⟨z5, h⟩
   ·try simp only [go_sem, n1, n2, n3, n4, z1, z2, gz4, hz4] at z5
    all_goals
    obtain rfl := so_some h
    refine ⟨0, fun L hL => ?_⟩
    simp only [go_sem, ir86, E_57_l1, R_57_l1, ir86_b0, ir86_k0, ir86_o0, ir86_r0, z1, z2, lz2, xz2, fz3, gz4, hz4, fz4, z5]
   ·try simp only [go_sem, n1, n2, n3, n4, z1, z2, gz4, hz4] at z5
    all_goals
    obtain rfl := so_some h
    refine ⟨0, fun L hL => ?_⟩
    simp only [go_sem, ir86, E_57_l1, R_57_l1, ir86_b0, ir86_k0, ir86_o0, ir86_r0, z1, z2, lz2, xz2, fz3, gz4, hz4, fz4, z5]
  ·have gz4n := no_f gz4
   try simp only [go_sem, n1, n2, n3, n4, z1, z2] at gz4n
   all_goals
   rcases it_some h with ⟨z5, h⟩ | ⟨z5, h⟩
   ·try simp only [go_sem, n1, n2, n3, n4, z1, z2, gz4n] at z5
    all_goals
    (simp_all)
   ·try simp only [go_sem, n1, n2, n3, n4, z1, z2, gz4n] at z5
    all_goals
    obtain rfl := so_some h
    refine ⟨0, fun L hL => ?_⟩
    simp only [go_sem, ir86, E_57_l1, R_57_l1, ir86_b0, ir86_k0, ir86_o0, ir86_r0, z1, z2, lz2, xz2, fz3, gz4n, z5]
 ·try simp only [go_sem, n1, n2, n3, n4] at z1
  all_goals
  obtain rfl := so_some h
  refine ⟨0, fun L hL => ?_⟩
  simp only [go_sem, ir86, E_57_l1, R_57_l1, ir86_b0, ir86_k0, ir86_o0, ir86_r0, z1]

theorem Fs_57 {list : List Estimate} {e_ : Estimate} {y_ : Int} (h : spec_l06Find list e_ = some y_) : c_57.F [.sl 5 (List.map Estimate_av list), .ptr 5 [Estimate_av e_] 0 0] = ⟨true, .int .i64 y_, [.any, .any]⟩ := by
 refine mkF_E rfl ?_
 dsimp only [spec_l06Find] at h
 obtain ⟨y_6, z6, h⟩ := bd_some h
 obtain ⟨Lz6, ez6⟩ := spec_l06Find_l1_ex z6
 rcases y_6 with y_6a | y_6b
 ·dsimp only at h
  obtain rfl := so_some h
  refine ⟨Lz6, fun L hL => ?_⟩
  have ez6 := ez6 L (by omega)
  try simp only [go_sem, E_57_l1, R_57_l1, ir86_k0, ir86_o0, ir86_r0] at ez6
  simp only [go_sem, ir86, E_57_l1, R_57_l1, ir86_k0, ir86_o0, ir86_r0, ez6]
 ·dsimp only at h
  obtain rfl := so_some h
  refine ⟨Lz6, fun L hL => ?_⟩
  have ez6 := ez6 L (by omega)
  try simp only [go_sem, E_57_l1, R_57_l1, ir86_k0, ir86_o0, ir86_r0] at ez6
  simp only [go_sem, ir86, E_57_l1, R_57_l1, ir86_k0, ir86_o0, ir86_r0, ez6]


def ir87_b0 : IR := .seq (.test false [ PM 9 4, PO 10 (.bin false .gtr (.s 0) (I6 0)), PO 11 (.mov (.s 0)), ⟨.push, 12, (some ((.s 0), true)), .mov (.v 0)⟩, ⟨.push, 13, (some ((.s 1), true)), .mov (.v 4)⟩, ⟨.push, 14, (some ((.s 2), true)), .bin false .sub (.s 0) (I6 1)⟩, ⟨.push, 15, (some ((.s 3), true)), .ixAddr 5 (.s 2) (.s 0)⟩, ⟨.push, 16, (some ((.s 4), true)), .call 78 [(.v 2), (.s 0)]⟩, PO 17 (.pick (.s 5) (.s 0) (.c (.bool false)))] (.s 0) (.skip) (.exit 0)) (.block 1 (.region false [ PM 18 4, PO 19 (.bin false .sub (.s 0) (I6 1)), VS 4 5 0]))
def ir87_k0 : List Bool := [true, false, true, false, true, false]
def ir87_o0 : List Bool := [true, false, true, false, true, false]
def ir87_r0 : List Bool := [false, false, false, true, false, false]
def ir87_v : List Nat := [0, 1, 3, 4, 5, 6]
def ir87 : AFn := ⟨2, 6, .seq (.region false [ VO 2 3 (.box (.v 1)), VO 3 4 (.newnil 5)]) (.seq (.region false [ PM 7 0, PO 8 (.len false (.s 0)), VS 4 5 0]) (.seq (.block 0 (.loop ir87_k0 ir87_o0 ir87_r0 ir87_b0)) (.seq (.region false [ PO 20 (.mkSl 5 (.agg [.int .i64 (0), .str [], .str [], .int .i64 (0), .bool false]) 0 []), PM 21 0, PM 22 4, PO 23 (.slice 5 (.s 1) none (some (.s 0))), PO 24 (.app 5 56 (.agg [.int .i64 (0), .str [], .str [], .int .i64 (0), .bool false]) (.s 3) (.s 0)), VS 5 6 0]) (.seq (.region false [ PM 25 5, PO 26 (.load true 5 (.v 2)), PO 27 (.mkSl 5 (.agg [.int .i64 (0),
 .str [], .str [], .int .i64 (0), .bool false]) 1 [(0, (.s 0))]), PO 28 (.app 5 56 (.agg [.int .i64 (0), .str [], .str [], .int .i64 (0), .bool false]) (.s 2) (.s 0)), VS 5 6 0]) (.seq (.region false [ PM 29 5, PM 30 0, PM 31 4, PO 32 (.slice 5 (.s 1) (some (.s 0)) none), PO 33 (.app 5 56 (.agg [.int .i64 (0), .str [], .str [], .int .i64 (0), .bool false]) (.s 3) (.s 0)), VS 3 4 0]) (.ret)))))), [.t 3]⟩
noncomputable def t_58 : List (Nat × Ctr) := [(78, c_56)]
theorem lk_58_78 : look t_58 78 = some c_56 := rfl
noncomputable def c_58 : Ctr := mkF t_58 ir87 [.bor, .bor]
theorem s_58 : Sound Tryz.prog 87 c_58 := mkF_sound _ rfl (snd_cons s_56 snd_nil) (by kernel_rfl : chkFn Tryz.prog 87 ir87 ir87_v = true)
theorem M_58 : c_58.modes = [.bor, .bor] := rfl
theorem Fl_58 : c_58.flat = true := rfl
attribute [go_sem] M_58 Fl_58
attribute [go_sem] lk_58_78
def E_58_l1 (list : List Estimate) (e_ : Estimate) : Int → St
 | k => ⟨[.sl 5 (List.map Estimate_av list), .any, .ref 3200000 0 0, .any, .int .i64 k, .any], [], [(3200000, ⟨5, [Estimate_av e_]⟩)], true⟩
def R_58_l1 (list : List Estimate) (e_ : Estimate) (y : Int) : Res := (.exit 0, ⟨[.sl 5 (List.map Estimate_av list), .any, .ref 3200000 0 0, .any, .int .i64 y, .any], [], [(3200000, ⟨5, [Estimate_av e_]⟩)], true⟩)
theorem spec_l06Put_l1_ex {list : List Estimate} {e_ : Estimate} {sgm_ : Int} {rho_ : Int} (h : whileE (spec_l06Put_l1 list e_) sgm_ = some rho_) : ∃ L0, ∀ L, L0 ≤ L → iter (exec (look t_58) L ir87_b0) ir87_k0 ir87_o0 ir87_r0 L (E_58_l1 list e_ sgm_) = R_58_l1 list e_ rho_ := by
 refine loop_ex (E := E_58_l1 list e_) (R := R_58_l1 list e_) (fun y => by first | (intro c; cases c) | (rcases y with y | y <;> (intro c; cases c)) | (rcases y with y | y | y <;> (intro c; cases c))) ?_ h
 clear h
 intro k o_ h
 dsimp only [spec_l06Put_l1] at h
 obtain ⟨z1, h⟩ := ck_some h
 rcases or_split z1 with ⟨gz1, z1⟩ | gz1
 ·try simp only [go_sem, n1, n2, n3, n4] at gz1
  all_goals
  have lz1 := ix_lt z1
  have xz1 := getD_mapD Estimate_av list lz1
  try simp only [go_sem] at lz1
  try simp only [go_sem] at xz1
  try simp only [go_sem, n1, n2, n3, n4, gz1] at z1
  all_goals
  obtain ⟨z2, h⟩ := ck_some h
  rcases or_split z2 with ⟨gz2, z2⟩ | gz2
  ·try simp only [go_sem, n1, n2, n3, n4, gz1, z1] at gz2
   all_goals
   obtain ⟨y_2, hz2⟩ := Option.isSome_iff_exists.1 z2
   have fz2 := Fs_56 hz2
   try simp only [go_sem, n1, n2, n3, n4, gz1, z1, gz2] at hz2
   all_goals
   try simp only [go_sem, gz1, z1, gz2] at fz2
   rcases it_some h with ⟨z3, h⟩ | ⟨z3, h⟩
   ·try simp only [go_sem, n1, n2, n3, n4, gz1, z1, gz2, hz2] at z3
    all_goals
    obtain rfl := so_some h
    refine ⟨0, fun L hL => ?_⟩
    simp only [go_sem, ir87, E_58_l1, R_58_l1, ir87_b0, ir87_k0, ir87_o0, ir87_r0, gz1, z1, lz1, xz1, gz2, hz2, fz2, z3]
   ·try simp only [go_sem, n1, n2, n3, n4, gz1, z1, gz2, hz2] at z3
    all_goals
    obtain rfl := so_some h
    refine ⟨0, fun L hL => ?_⟩
    simp only [go_sem, ir87, E_58_l1, R_58_l1, ir87_b0, ir87_k0, ir87_o0, ir87_r0, gz1, z1, lz1, xz1, gz2, hz2, fz2, z3]
  ·try simp only [go_sem, n1, n2, n3, n4, gz1, z1] at gz2
   all_goals
   rcases it_some h with ⟨z3, h⟩ | ⟨z3, h⟩
   ·try simp only [go_sem, n1, n2, n3, n4, gz1, z1, gz2] at z3
    all_goals
    (simp_all)
   ·try simp only [go_sem, n1, n2, n3, n4, gz1, z1, gz2] at z3
    all_goals
    obtain rfl := so_some h
    refine ⟨0, fun L hL => ?_⟩
    simp only [go_sem, ir87, E_58_l1, R_58_l1, ir87_b0, ir87_k0, ir87_o0, ir87_r0, gz1, z1, lz1, xz1, gz2, z3]
 ·try simp only [go_sem, n1, n2, n3, n4] at gz1
  all_goals
  obtain ⟨z2, h⟩ := ck_some h
  rcases it_some h with ⟨z3, h⟩ | ⟨z3, h⟩
  ·try simp only [go_sem, n1, n2, n3, n4, gz1] at z3
   all_goals
   (simp_all)
  ·try simp only [go_sem, n1, n2, n3, n4, gz1] at z3
   all_goals
   obtain rfl := so_some h
   refine ⟨0, fun L hL => ?_⟩
   simp only [go_sem, ir87, E_58_l1, R_58_l1, ir87_b0, ir87_k0, ir87_o0, ir87_r0, gz1, z3]

theorem Fs_58 {list : List Estimate} {e_ : Estimate} {y_ : (List Estimate)} (h : spec_l06Put list e_ = some y_) : c_58.F [.sl 5 (List.map Estimate_av list), Estimate_av e_] = ⟨true, .fresh 5 (List.map Estimate_av y_), [.any, .any]⟩ := by
 refine mkF_E (by simp only [flatA, flatB, flat1, List.all_cons, List.all_nil, Bool.and_self, flatE_map (f := Estimate_av) (fun _ => rfl)]) ?_
 dsimp only [spec_l06Put] at h
 obtain ⟨y_4, z4, h⟩ := bd_some h
 obtain ⟨Lz4, ez4⟩ := spec_l06Put_l1_ex z4
 obtain ⟨z5, h⟩ := ck_some h
 try simp only [go_sem, n1, n2, n3, n4] at z5
 all_goals
 obtain ⟨z6, h⟩ := ck_some h
 try simp only [go_sem, n1, n2, n3, n4, z5] at z6
 all_goals
 obtain ⟨z7, h⟩ := ck_some h
 try simp only [go_sem, n1, n2, n3, n4, z5, z6] at z7
 all_goals
 obtain ⟨z8, h⟩ := ck_some h
 try simp only [go_sem, n1, n2, n3, n4, z5, z6, z7] at z8
 all_goals
 obtain ⟨z9, h⟩ := ck_some h
 try simp only [go_sem, n1, n2, n3, n4, z5, z6, z7, z8] at z9
 all_goals
 obtain rfl := so_some h
 refine ⟨Lz4, fun L hL => ?_⟩
 have ez4 := ez4 L (by omega)
 try simp only [go_sem, E_58_l1, R_58_l1, ir87_k0, ir87_o0, ir87_r0, z5, z6, z7, z8, z9] at ez4
 simp only [go_sem, ir87, E_58_l1, R_58_l1, ir87_k0, ir87_o0, ir87_r0, z5, z6, z7, z8, z9, ez4]


def ir73_b0 : IR := .seq (.test false [ PM 13 4, PO 14 (.bin false .gtr (.s 0) (I6 0))] (.s 0) (.skip) (.exit 0)) (.seq (.block 1 (.seq (.region false [ PM 17 0, PO 18 (.call 85 [(.s 0)]), VO 5 7 (.alloc (.agg [.int .i64 (0), .str [], .str [], .int .i64 (0), .bool false])), ⟨.no, 0, none, .store 5 (.v 5) (.s 0)⟩]) (.test false [ PM 19 3, PO 20 (.call 86 [(.s 0), (.v 5)]), PO 21 (.bin false .lss (.s 0) (I6 0))] (.s 0) (.region false [ PM 22 3, PO 23 (.load true 5 (.v 5)), PO 24 (.call 87 [(.s 1), (.s 0)]), VS 3 5 0]) (.skip)))) (.region false [ PM 15 4, PO 16 (.bin false .sub (.s 0) (I6 1)), VS
 4 6 0]))
def ir73_k0 : List Bool := [true, false, false, true, true, false]
def ir73_o0 : List Bool := [true, false, false, true, false, false]
def ir73_r0 : List Bool := [true, false, true, false, false, false]
def ir73_v : List Nat := [0, 1, 4, 5, 6, 7]
def ir73 : AFn := ⟨2, 6, .seq (.region false [ VO 2 4 (.newnil 5)]) (.seq (.region false [ PO 8 (.mkSl 5 (.agg [.int .i64 (0), .str [], .str [], .int .i64 (0), .bool false]) 0 []), VS 3 5 0]) (.seq (.seq (.region false [ PM 9 0, PM 10 1, PO 11 (.bin false .add (.s 0) (I6 1)), PO 12 (.call 47 [(.s 2), (.s 0)]), VS 4 6 0]) (.block 0 (.loop ir73_k0 ir73_o0 ir73_r0 ir73_b0))) (.seq (.region false [ PM 25 3, VS 2 4 0]) (.ret)))), [.t 2]⟩
noncomputable def t_59 : List (Nat × Ctr) := [(47, c_3), (85, c_55), (86, c_57), (87, c_58)]
theorem lk_59_47 : look t_59 47 = some c_3 := rfl
theorem lk_59_85 : look t_59 85 = some c_55 := rfl
theorem lk_59_86 : look t_59 86 = some c_57 := rfl
theorem lk_59_87 : look t_59 87 = some c_58 := rfl
noncomputable def c_59 : Ctr := mkN t_59 ir73 [.io, .bor]
theorem s_59 : Sound Tryz.prog 73 c_59 := mkN_sound _ (snd_cons s_3 (snd_cons s_55 (snd_cons s_57 (snd_cons s_58 snd_nil)))) (by kernel_rfl : chkFn Tryz.prog 73 ir73 ir73_v = true)
theorem M_59 : c_59.modes = [.io, .bor] := rfl
theorem Fl_59 : c_59.flat = false := rfl
attribute [go_sem] M_59 Fl_59
attribute [go_sem] lk_59_47 lk_59_85 lk_59_86 lk_59_87
def E_59_l1  : (L00Src × (List Estimate) × Int) → St
 | (s_, out, k) => ⟨[.ref 31 0 0, .any, .any, .own 3200032, .int .i64 k, .any], [], [(31, ⟨3, [L00Src_av s_]⟩), (3200032, ⟨5, List.map Estimate_av out⟩)], true⟩
def R_59_l1  (y : L00Src × (List Estimate)) : Res := (.exit 0, ⟨[.ref 31 0 0, .any, .any, .own 3200032, .any, .any], [], [(31, ⟨3, [L00Src_av y.1]⟩), (3200032, ⟨5, List.map Estimate_av y.2⟩)], true⟩)
theorem spec_l06Draw_l1_ex  {sgm_ : L00Src × (List Estimate) × Int} {rho_ : L00Src × (List Estimate)} (h : whileE (spec_l06Draw_l1) sgm_ = some rho_) : ∃ L0, ∀ L, L0 ≤ L → iter (exec (look t_59) L ir73_b0) ir73_k0 ir73_o0 ir73_r0 L (E_59_l1 sgm_) = R_59_l1 rho_ := by
 refine loop_ex (E := E_59_l1) (R := R_59_l1) (fun y => by first | (intro c; cases c) | (rcases y with y | y <;> (intro c; cases c)) | (rcases y with y | y | y <;> (intro c; cases c))) ?_ h
 clear h
 rintro ⟨s_, out, k⟩ o_ h
 dsimp only [spec_l06Draw_l1] at h
 rcases it_some h with ⟨z2, h⟩ | ⟨z2, h⟩
 ·try simp only [go_sem, n1, n2, n3, n4] at z2
  all_goals
  obtain ⟨y_3, z3, h⟩ := bd_some h
  have fz3 := Fs_55 z3
  try simp only [go_sem, z2] at fz3
  obtain ⟨y_4, z4, h⟩ := bd_some h
  have fz4 := Fs_57 z4
  try simp only [go_sem, z2] at fz4
  rcases it_some h with ⟨z5, h⟩ | ⟨z5, h⟩
  ·try simp only [go_sem, n1, n2, n3, n4, z2] at z5
   all_goals
   obtain ⟨y_6, z6, h⟩ := bd_some h
   have fz6 := Fs_58 z6
   try simp only [go_sem, z2, z5] at fz6
   obtain rfl := so_some h
   refine ⟨0, fun L hL => ?_⟩
   simp only [go_sem, ir73, E_59_l1, R_59_l1, ir73_b0, ir73_k0, ir73_o0, ir73_r0, z2, fz3, fz4, z5, fz6]
  ·try simp only [go_sem, n1, n2, n3, n4, z2] at z5
   all_goals
   obtain rfl := so_some h
   refine ⟨0, fun L hL => ?_⟩
   simp only [go_sem, ir73, E_59_l1, R_59_l1, ir73_b0, ir73_k0, ir73_o0, ir73_r0, z2, fz3, fz4, z5]
 ·try simp only [go_sem, n1, n2, n3, n4] at z2
  all_goals
  obtain rfl := so_some h
  refine ⟨0, fun L hL => ?_⟩
  simp only [go_sem, ir73, E_59_l1, R_59_l1, ir73_b0, ir73_k0, ir73_o0, ir73_r0, z2]

theorem Fs_59 {s_ : L00Src} {most : Int} {y_ : (List Estimate) × L00Src} (h : spec_l06Draw s_ most = some y_) : c_59.F [.mem 3 [L00Src_av s_] 0, .int .i64 most] = ⟨true, .fresh 5 (List.map Estimate_av y_.1), [.mem 3 [L00Src_av y_.2] 0, .any]⟩ := by
 refine mkN_E ?_
 dsimp only [spec_l06Draw] at h
 obtain ⟨y_1, z1, h⟩ := bd_some h
 have fz1 := Fs_3 z1
 try simp only [go_sem] at fz1
 obtain ⟨y_7, z7, h⟩ := bd_some h
 obtain ⟨Lz7, ez7⟩ := spec_l06Draw_l1_ex z7
 obtain rfl := so_some h
 refine ⟨Lz7, fun L hL => ?_⟩
 have ez7 := ez7 L (by omega)
 try simp only [go_sem, E_59_l1, R_59_l1, ir73_k0, ir73_o0, ir73_r0] at ez7
 simp only [go_sem, ir73, E_59_l1, R_59_l1, ir73_k0, ir73_o0, ir73_r0, fz1, ez7]


def ir97_v : List Nat := [0, 2]
def ir97 : AFn := ⟨1, 2, .seq (.region false [ VO 1 2 (.mov (I6 0))]) (.seq (.test false [ PM 3 0, PO 4 (.call 35 [(.s 0), (I6 8)])] (.s 0) (.seq (.region false [ PM 5 0, PO 6 (.call 47 [(.s 0), (I6 22001)]), PO 7 (.bin false .add (.s 0) (.c (.int .i64 (-2000)))), VS 1 2 0]) (.ret)) (.skip)) (.seq (.region false [ PM 8 0, PO 9 (.call 47 [(.s 0), (I6 60)]), PO 10 (.bin false .mul (I6 50) (.s 0)), PO 11 (.bin false .add (I6 8000) (.s 0)), VS 1 2 0]) (.ret))), [.t 1]⟩
noncomputable def t_60 : List (Nat × Ctr) := [(35, c_4), (47, c_3)]
theorem lk_60_35 : look t_60 35 = some c_4 := rfl
theorem lk_60_47 : look t_60 47 = some c_3 := rfl
noncomputable def c_60 : Ctr := mkN t_60 ir97 [.io]
theorem s_60 : Sound Tryz.prog 97 c_60 := mkN_sound _ (snd_cons s_4 (snd_cons s_3 snd_nil)) (by kernel_rfl : chkFn Tryz.prog 97 ir97 ir97_v = true)
theorem M_60 : c_60.modes = [.io] := rfl
theorem Fl_60 : c_60.flat = false := rfl
attribute [go_sem] M_60 Fl_60
attribute [go_sem] lk_60_35 lk_60_47
theorem Fs_60 {s_ : L00Src} {y_ : Int × L00Src} (h : spec_l02Draw s_ = some y_) : c_60.F [.mem 3 [L00Src_av s_] 0] = ⟨true, .int .i64 y_.1, [.mem 3 [L00Src_av y_.2] 0]⟩ := by
 refine mkN_E ?_
 dsimp only [spec_l02Draw] at h
 obtain ⟨y_1, z1, h⟩ := bd_some h
 have fz1 := Fs_4 z1
 try simp only [go_sem] at fz1
 rcases it_some h with ⟨z2, h⟩ | ⟨z2, h⟩
 ·try simp only [go_sem, n1, n2, n3, n4] at z2
  all_goals
  obtain ⟨y_3, z3, h⟩ := bd_some h
  have fz3 := Fs_3 z3
  try simp only [go_sem, z2] at fz3
  obtain rfl := so_some h
  refine ⟨0, fun L hL => ?_⟩
  simp only [go_sem, ir97, fz1, z2, fz3]
 ·try simp only [go_sem, n1, n2, n3, n4] at z2
  all_goals
  obtain ⟨y_4, z4, h⟩ := bd_some h
  have fz4 := Fs_3 z4
  try simp only [go_sem, z2] at fz4
  obtain rfl := so_some h
  refine ⟨0, fun L hL => ?_⟩
  simp only [go_sem, ir97, fz1, z2, fz4]


def ir88_v : List Nat := [0, 2]
def ir88 : AFn := ⟨1, 2, .seq (.region false [ VO 1 2 (.mov (I6 0))]) (.seq (.test false [ PM 3 0, PO 4 (.call 35 [(.s 0), (I6 14)])] (.s 0) (.seq (.region false [ PM 5 0, PO 6 (.mkSl 1 (.int .i64 (0)) 6 [(0, (.c (.int .i64 (-2001)))), (1, (.c (.int .i64 (-2000)))), (2, (I6 20000)), (3, (I6 20001)), (4, (.c (.int .i64 (-9223372036854775808)))), (5, (I6 9223372036854775807))]), PO 7 (.call 46 [(.s 1), (.s 0)]), VS 1 2 0]) (.ret)) (.skip)) (.seq (.region false [ PM 8 0, PO 9 (.call 97 [(.s 0)]), VS 1 2 0]) (.ret))), [.t 1]⟩
noncomputable def t_61 : List (Nat × Ctr) := [(35, c_4), (46, c_6), (97, c_60)]
theorem lk_61_35 : look t_61 35 = some c_4 := rfl
theorem lk_61_46 : look t_61 46 = some c_6 := rfl
theorem lk_61_97 : look t_61 97 = some c_60 := rfl
noncomputable def c_61 : Ctr := mkN t_61 ir88 [.io]
theorem s_61 : Sound Tryz.prog 88 c_61 := mkN_sound _ (snd_cons s_4 (snd_cons s_6 (snd_cons s_60 snd_nil))) (by kernel_rfl : chkFn Tryz.prog 88 ir88 ir88_v = true)
theorem M_61 : c_61.modes = [.io] := rfl
theorem Fl_61 : c_61.flat = false := rfl
attribute [go_sem] M_61 Fl_61
attribute [go_sem] lk_61_35 lk_61_46 lk_61_97
theorem Fs_61 {s_ : L00Src} {y_ : Int × L00Src} (h : spec_l02Bent s_ = some y_) : c_61.F [.mem 3 [L00Src_av s_] 0] = ⟨true, .int .i64 y_.1, [.mem 3 [L00Src_av y_.2] 0]⟩ := by
 refine mkN_E ?_
 dsimp only [spec_l02Bent] at h
 obtain ⟨y_1, z1, h⟩ := bd_some h
 have fz1 := Fs_4 z1
 try simp only [go_sem] at fz1
 rcases it_some h with ⟨z2, h⟩ | ⟨z2, h⟩
 ·try simp only [go_sem, n1, n2, n3, n4] at z2
  all_goals
  obtain ⟨y_3, z3, h⟩ := bd_some h
  have fz3 := Fs_6 z3
  try simp only [go_sem, z2] at fz3
  obtain rfl := so_some h
  refine ⟨0, fun L hL => ?_⟩
  simp only [go_sem, ir88, fz1, z2, fz3]
 ·try simp only [go_sem, n1, n2, n3, n4] at z2
  all_goals
  obtain ⟨y_4, z4, h⟩ := bd_some h
  have fz4 := Fs_60 z4
  try simp only [go_sem, z2] at fz4
  obtain rfl := so_some h
  refine ⟨0, fun L hL => ?_⟩
  simp only [go_sem, ir88, fz1, z2, fz4]


def ir74_v : List Nat := [0, 2, 3, 7]
def ir74 : AFn := ⟨1, 4, .seq (.region false [ VO 1 2 (.alloc (.agg [.int .i64 (0), .str [], .str [], .int .i64 (0), .bool false]))]) (.seq (.region false [ PM 4 0, PO 5 (.call 85 [(.s 0)]), VO 2 3 (.alloc (.agg [.int .i64 (0), .str [], .str [], .int .i64 (0), .bool false])), ⟨.no, 0, none, .store 5 (.v 2) (.s 0)⟩]) (.seq (.seq (.region false [ PM 6 0, VO 3 7 (.call 47 [(.s 0), (I6 24)])]) (.block 0 (.test false [ PO 9 (.bin false .eql (.v 3) (I6 0)), PO 8 (.mov (.s 0))] (.s 0) (.region false [ PM 10 0, PO 11 (.mkSl 1 (.int .i64 (0)) 4 [(0, (.c (.int .i64 (-1)))), (1, (I6 0)), (2, (I6
 10000000)), (3, (I6 10000001))]), PO 12 (.call 46 [(.s 1), (.s 0)]), PO 13 (.fldAddr 0 (.v 2)), ⟨.no, 0, none, .store 1 (.s 0) (.s 1)⟩]) (.test false [ PO 15 (.bin false .eql (.v 3) (I6 1)), PO 14 (.mov (.s 0))] (.s 0) (.region false [ PM 16 0, PO 17 (.mkSl 1 (.str []) 3 [(0, (.c (.str []))), (1, (.c (.str [77, 105, 114, 97]))), (2, (.c (.str [97, 32, 98])))]), PO 18 (.call 67 [(.s 1), (.s 0)]), PO 19 (.fldAddr 1 (.v 2)), ⟨.no, 0, none, .store 1 (.s 0) (.s 1)⟩]) (.test false [ PO 21 (.bin false .eql (.v 3) (I6 2)), PO 20 (.mov (.s 0))] (.s 0) (.region false [ PM 22 0, PO 23 (.mkSl 1 (.str [])
 2 [(0, (.c (.str []))), (1, (.c (.str [65, 66])))]), PO 24 (.call 67 [(.s 1), (.s 0)]), PO 25 (.fldAddr 2 (.v 2)), ⟨.no, 0, none, .store 1 (.s 0) (.s 1)⟩]) (.test false [ PO 27 (.bin false .eql (.v 3) (I6 3)), PO 26 (.mov (.s 0))] (.s 0) (.region false [ PM 28 0, PO 29 (.call 88 [(.s 0)]), PO 30 (.fldAddr 3 (.v 2)), ⟨.no, 0, none, .store 1 (.s 0) (.s 1)⟩]) (.skip))))))) (.seq (.region false [ PO 31 (.load true 5 (.v 2)), ⟨.no, 0, none, .store 5 (.v 1) (.s 0)⟩]) (.ret)))), [.cell true 5 1]⟩
noncomputable def t_62 : List (Nat × Ctr) := [(85, c_55), (47, c_3), (46, c_6), (67, c_7), (88, c_61)]
theorem lk_62_85 : look t_62 85 = some c_55 := rfl
theorem lk_62_47 : look t_62 47 = some c_3 := rfl
theorem lk_62_46 : look t_62 46 = some c_6 := rfl
theorem lk_62_67 : look t_62 67 = some c_7 := rfl
theorem lk_62_88 : look t_62 88 = some c_61 := rfl
noncomputable def c_62 : Ctr := mkN t_62 ir74 [.io]
theorem s_62 : Sound Tryz.prog 74 c_62 := mkN_sound _ (snd_cons s_55 (snd_cons s_3 (snd_cons s_6 (snd_cons s_7 (snd_cons s_61 snd_nil))))) (by kernel_rfl : chkFn Tryz.prog 74 ir74 ir74_v = true)
theorem M_62 : c_62.modes = [.io] := rfl
theorem Fl_62 : c_62.flat = false := rfl
attribute [go_sem] M_62 Fl_62
attribute [go_sem] lk_62_85 lk_62_47 lk_62_46 lk_62_67 lk_62_88
theorem Fs_62 {s_ : L00Src} {y_ : Estimate × L00Src} (h : spec_l06BentOne s_ = some y_) : c_62.F [.mem 3 [L00Src_av s_] 0] = ⟨true, Estimate_av y_.1, [.mem 3 [L00Src_av y_.2] 0]⟩ := by
 refine mkN_E ?_
 dsimp only [spec_l06BentOne] at h
 obtain ⟨y_1, z1, h⟩ := bd_some h
 have fz1 := Fs_55 z1
 try simp only [go_sem] at fz1
 obtain ⟨y_2, z2, h⟩ := bd_some h
 have fz2 := Fs_3 z2
 try simp only [go_sem] at fz2
 rcases it_some h with ⟨z3, h⟩ | ⟨z3, h⟩
 ·try simp only [go_sem, n1, n2, n3, n4] at z3
  all_goals
  obtain ⟨y_4, z4, h⟩ := bd_some h
  have fz4 := Fs_6 z4
  try simp only [go_sem, z3] at fz4
  obtain rfl := so_some h
  refine ⟨0, fun L hL => ?_⟩
  simp only [go_sem, ir74, fz1, fz2, z3, fz4]
 ·try simp only [go_sem, n1, n2, n3, n4] at z3
  all_goals
  rcases it_some h with ⟨z5, h⟩ | ⟨z5, h⟩
  ·try simp only [go_sem, n1, n2, n3, n4, z3] at z5
   all_goals
   obtain ⟨y_6, z6, h⟩ := bd_some h
   have fz6 := Fs_7 z6
   try simp only [go_sem, z3, z5] at fz6
   obtain rfl := so_some h
   refine ⟨0, fun L hL => ?_⟩
   simp only [go_sem, ir74, fz1, fz2, z3, z5, fz6]
  ·try simp only [go_sem, n1, n2, n3, n4, z3] at z5
   all_goals
   rcases it_some h with ⟨z7, h⟩ | ⟨z7, h⟩
   ·try simp only [go_sem, n1, n2, n3, n4, z3, z5] at z7
    all_goals
    obtain ⟨y_8, z8, h⟩ := bd_some h
    have fz8 := Fs_7 z8
    try simp only [go_sem, z3, z5, z7] at fz8
    obtain rfl := so_some h
    refine ⟨0, fun L hL => ?_⟩
    simp only [go_sem, ir74, fz1, fz2, z3, z5, z7, fz8]
   ·try simp only [go_sem, n1, n2, n3, n4, z3, z5] at z7
    all_goals
    rcases it_some h with ⟨z9, h⟩ | ⟨z9, h⟩
    ·try simp only [go_sem, n1, n2, n3, n4, z3, z5, z7] at z9
     all_goals
     obtain ⟨y_10, z10, h⟩ := bd_some h
     have fz10 := Fs_61 z10
     try simp only [go_sem, z3, z5, z7, z9] at fz10
     obtain rfl := so_some h
     refine ⟨0, fun L hL => ?_⟩
     simp only [go_sem, ir74, fz1, fz2, z3, z5, z7, z9, fz10]
    ·try simp only [go_sem, n1, n2, n3, n4, z3, z5, z7] at z9
     all_goals
     obtain rfl := so_some h
     refine ⟨0, fun L hL => ?_⟩
     simp only [go_sem, ir74, fz1, fz2, z3, z5, z7, z9]


def ir56_b0 : IR := .seq (.test false [ PM 22 3, PO 23 (.bin false .gtr (.s 0) (I6 0))] (.s 0) (.skip) (.exit 1)) (.seq (.block 2 (.region false [ PM 26 2, PM 27 2, PO 28 (.len false (.s 0)), PO 29 (.build [.int .i64 (0), .str [], .str [], .int .i64 (0), .bool false] [(0, 1, (.s 0)), (1, 1, (.c (.str [109, 105, 114, 97]))), (2, 1, (.c (.str [97, 98]))), (3, 1, (I6 9000))]), PO 30 (.mkSl 5 (.agg [.int .i64 (0), .str [], .str [], .int .i64 (0), .bool false]) 1 [(0, (.s 0))]), PO 31 (.app 5 56 (.agg [.int .i64 (0), .str [], .str [], .int .i64 (0), .bool false]) (.s 4) (.s 0)), VS 2 3 0])) (.region
 false [ PM 24 3, PO 25 (.bin false .sub (.s 0) (I6 1)), VS 3 4 0]))
def ir56_k0 : List Bool := [true, false, true, true, false]
def ir56_o0 : List Bool := [true, false, true, false, false]
def ir56_r0 : List Bool := [true, true, false, false, false]
def ir56_v : List Nat := [0, 2, 3, 4, 8]
def ir56 : AFn := ⟨1, 5, .seq (.region false [ VO 1 2 (.newnil 5)]) (.seq (.region false [ PM 5 0, PO 6 (.call 73 [(.s 0), (I6 10)]), VS 2 3 0]) (.seq (.seq (.region false [ PM 7 0, VO 4 8 (.call 47 [(.s 0), (I6 20)])]) (.block 0 (.test false [ PO 10 (.bin false .eql (.v 4) (I6 0)), PO 9 (.mov (.s 0))] (.s 0) (.region false [ PM 11 2, PM 12 0, PO 13 (.call 74 [(.s 0)]), PO 14 (.mkSl 5 (.agg [.int .i64 (0), .str [], .str [], .int .i64 (0), .bool false]) 1 [(0, (.s 0))]), PO 15 (.app 5 56 (.agg [.int .i64 (0), .str [], .str [], .int .i64 (0), .bool false]) (.s 3) (.s 0)), VS 2 3 0]) (.test false
 [ PO 17 (.bin false .eql (.v 4) (I6 1)), PO 16 (.mov (.s 0))] (.s 0) (.seq (.region false [ PO 18 (.mkSl 5 (.agg [.int .i64 (0), .str [], .str [], .int .i64 (0), .bool false]) 0 []), VS 2 3 0]) (.seq (.region false [ PM 19 0, PO 20 (.call 47 [(.s 0), (I6 2)]), PO 21 (.bin false .add (I6 100) (.s 0)), VS 3 4 0]) (.block 1 (.loop ir56_k0 ir56_o0 ir56_r0 ir56_b0)))) (.test false [ PO 33 (.bin false .eql (.v 4) (I6 2)), PO 32 (.mov (.s 0))] (.s 0) (.test false [ PM 34 2, PO 35 (.len false (.s 0)), PO 36 (.bin false .gtr (.s 0) (I6 0))] (.s 0) (.region false [ PM 37 2, PM 38 0, PM 39 2, PO 40 (.len
 false (.s 0)), PO 41 (.call 47 [(.s 2), (.s 0)]), PM 42 0, PO 43 (.call 74 [(.s 0)]), PO 44 (.ixAddr 5 (.s 6) (.s 2)), ⟨.no, 0, none, .store 5 (.s 0) (.s 1)⟩]) (.skip)) (.skip)))))) (.seq (.region false [ PM 45 2, VS 1 2 0]) (.ret)))), [.t 1]⟩
noncomputable def t_63 : List (Nat × Ctr) := [(73, c_59), (47, c_3), (74, c_62)]
theorem lk_63_73 : look t_63 73 = some c_59 := rfl
theorem lk_63_47 : look t_63 47 = some c_3 := rfl
theorem lk_63_74 : look t_63 74 = some c_62 := rfl
noncomputable def c_63 : Ctr := mkN t_63 ir56 [.io]
theorem s_63 : Sound Tryz.prog 56 c_63 := mkN_sound _ (snd_cons s_59 (snd_cons s_3 (snd_cons s_62 snd_nil))) (by kernel_rfl : chkFn Tryz.prog 56 ir56 ir56_v = true)
theorem M_63 : c_63.modes = [.io] := rfl
theorem Fl_63 : c_63.flat = false := rfl
attribute [go_sem] M_63 Fl_63
attribute [go_sem] lk_63_73 lk_63_47 lk_63_74
def E_63_l1 (s_ : L00Src) : ((List Estimate) × Int) → St
 | (list, k) => ⟨[.ref 31 0 0, .any, .own 3200032, .int .i64 k, .any], [], [(31, ⟨3, [L00Src_av s_]⟩), (3200032, ⟨5, List.map Estimate_av list⟩)], true⟩
def R_63_l1 (s_ : L00Src) (y : (List Estimate)) : Res := (.exit 1, ⟨[.ref 31 0 0, .any, .own 3200032, .any, .any], [], [(31, ⟨3, [L00Src_av s_]⟩), (3200032, ⟨5, List.map Estimate_av y⟩)], true⟩)
theorem spec_l06Bent_l1_ex {s_ : L00Src} {sgm_ : (List Estimate) × Int} {rho_ : (List Estimate)} (h : whileE (spec_l06Bent_l1 s_) sgm_ = some rho_) : ∃ L0, ∀ L, L0 ≤ L → iter (exec (look t_63) L ir56_b0) ir56_k0 ir56_o0 ir56_r0 L (E_63_l1 s_ sgm_) = R_63_l1 s_ rho_ := by
 refine loop_ex (E := E_63_l1 s_) (R := R_63_l1 s_) (fun y => by first | (intro c; cases c) | (rcases y with y | y <;> (intro c; cases c)) | (rcases y with y | y | y <;> (intro c; cases c))) ?_ h
 clear h
 rintro ⟨list, k⟩ o_ h
 dsimp only [spec_l06Bent_l1] at h
 rcases it_some h with ⟨z8, h⟩ | ⟨z8, h⟩
 ·try simp only [go_sem, n1, n2, n3, n4] at z8
  all_goals
  obtain ⟨z9, h⟩ := ck_some h
  try simp only [go_sem, n1, n2, n3, n4, z8] at z9
  all_goals
  obtain rfl := so_some h
  refine ⟨0, fun L hL => ?_⟩
  simp only [go_sem, ir56, E_63_l1, R_63_l1, ir56_b0, ir56_k0, ir56_o0, ir56_r0, z8, z9]
 ·try simp only [go_sem, n1, n2, n3, n4] at z8
  all_goals
  obtain rfl := so_some h
  refine ⟨0, fun L hL => ?_⟩
  simp only [go_sem, ir56, E_63_l1, R_63_l1, ir56_b0, ir56_k0, ir56_o0, ir56_r0, z8]

theorem Fs_63 {s_ : L00Src} {y_ : (List Estimate) × L00Src} (h : spec_l06Bent s_ = some y_) : c_63.F [.mem 3 [L00Src_av s_] 0] = ⟨true, .fresh 5 (List.map Estimate_av y_.1), [.mem 3 [L00Src_av y_.2] 0]⟩ := by
 refine mkN_E ?_
 dsimp only [spec_l06Bent] at h
 obtain ⟨y_1, z1, h⟩ := bd_some h
 have fz1 := Fs_59 z1
 try simp only [go_sem] at fz1
 obtain ⟨y_2, z2, h⟩ := bd_some h
 have fz2 := Fs_3 z2
 try simp only [go_sem] at fz2
 rcases it_some h with ⟨z3, h⟩ | ⟨z3, h⟩
 ·try simp only [go_sem, n1, n2, n3, n4] at z3
  all_goals
  obtain ⟨y_4, z4, h⟩ := bd_some h
  have fz4 := Fs_62 z4
  try simp only [go_sem, z3] at fz4
  obtain ⟨z5, h⟩ := ck_some h
  try simp only [go_sem, n1, n2, n3, n4, z3] at z5
  all_goals
  obtain rfl := so_some h
  refine ⟨0, fun L hL => ?_⟩
  simp only [go_sem, ir56, E_63_l1, R_63_l1, ir56_k0, ir56_o0, ir56_r0, fz1, fz2, z3, fz4, z5]
 ·try simp only [go_sem, n1, n2, n3, n4] at z3
  all_goals
  rcases it_some h with ⟨z6, h⟩ | ⟨z6, h⟩
  ·try simp only [go_sem, n1, n2, n3, n4, z3] at z6
   all_goals
   obtain ⟨y_7, z7, h⟩ := bd_some h
   have fz7 := Fs_3 z7
   try simp only [go_sem, z3, z6] at fz7
   obtain ⟨y_10, z10, h⟩ := bd_some h
   obtain ⟨Lz10, ez10⟩ := spec_l06Bent_l1_ex z10
   obtain rfl := so_some h
   refine ⟨Lz10, fun L hL => ?_⟩
   have ez10 := ez10 L (by omega)
   try simp only [go_sem, E_63_l1, R_63_l1, ir56_k0, ir56_o0, ir56_r0, z3, z6] at ez10
   simp only [go_sem, ir56, E_63_l1, R_63_l1, ir56_k0, ir56_o0, ir56_r0, fz1, fz2, z3, z6, fz7, ez10]
  ·try simp only [go_sem, n1, n2, n3, n4, z3] at z6
   all_goals
   rcases it_some h with ⟨z11, h⟩ | ⟨z11, h⟩
   ·try simp only [go_sem, n1, n2, n3, n4, z3, z6] at z11
    all_goals
    rcases it_some h with ⟨z12, h⟩ | ⟨z12, h⟩
    ·try simp only [go_sem, n1, n2, n3, n4, z3, z6, z11] at z12
     all_goals
     obtain ⟨y_13, z13, h⟩ := bd_some h
     have fz13 := Fs_3 z13
     try simp only [go_sem, z3, z6, z11, z12] at fz13
     obtain ⟨y_14, z14, h⟩ := bd_some h
     have fz14 := Fs_62 z14
     try simp only [go_sem, z3, z6, z11, z12] at fz14
     obtain ⟨z15, h⟩ := ck_some h
     have lz15 := ix_lt z15
     have xz15 := getD_mapD Estimate_av y_1.1 lz15
     try simp only [go_sem] at lz15
     try simp only [go_sem] at xz15
     try simp only [go_sem, n1, n2, n3, n4, z3, z6, z11, z12] at z15
     all_goals
     obtain rfl := so_some h
     refine ⟨0, fun L hL => ?_⟩
     simp only [go_sem, ir56, E_63_l1, R_63_l1, ir56_k0, ir56_o0, ir56_r0, fz1, fz2, z3, z6, z11, z12, fz13, fz14, z15, lz15, xz15]
    ·try simp only [go_sem, n1, n2, n3, n4, z3, z6, z11] at z12
     all_goals
     obtain rfl := so_some h
     refine ⟨0, fun L hL => ?_⟩
     simp only [go_sem, ir56, E_63_l1, R_63_l1, ir56_k0, ir56_o0, ir56_r0, fz1, fz2, z3, z6, z11, z12]
   ·try simp only [go_sem, n1, n2, n3, n4, z3, z6] at z11
    all_goals
    obtain rfl := so_some h
    refine ⟨0, fun L hL => ?_⟩
    simp only [go_sem, ir56, E_63_l1, R_63_l1, ir56_k0, ir56_o0, ir56_r0, fz1, fz2, z3, z6, z11]


def ir19_v : List Nat := [0, 2, 3, 4, 5]
def ir19 : AFn := ⟨1, 5, .seq (.region false [ VO 1 2 (.mov (.c (.str []))), VO 2 3 (.newnil 5)]) (.seq (.region false [ PM 6 0, PO 7 (.call 31 [(.s 0)]), VS 3 4 0]) (.seq (.region false [ PM 8 3, PO 9 (.call 33 [(.s 0)]), VS 4 5 0]) (.seq (.region false [ PM 10 4, PM 11 3, PO 12 (.call 56 [(.s 0)]), VS 1 2 2, VS 2 3 0]) (.ret)))), [.t 1, .t 2]⟩
noncomputable def t_64 : List (Nat × Ctr) := [(31, c_1), (33, c_11), (56, c_63)]
theorem lk_64_31 : look t_64 31 = some c_1 := rfl
theorem lk_64_33 : look t_64 33 = some c_11 := rfl
theorem lk_64_56 : look t_64 56 = some c_63 := rfl
noncomputable def c_64 : Ctr := mkF t_64 ir19 [.bor]
theorem s_64 : Sound Tryz.prog 19 c_64 := mkF_sound _ rfl (snd_cons s_1 (snd_cons s_11 (snd_cons s_63 snd_nil))) (by kernel_rfl : chkFn Tryz.prog 19 ir19 ir19_v = true)
theorem M_64 : c_64.modes = [.bor] := rfl
theorem Fl_64 : c_64.flat = true := rfl
attribute [go_sem] M_64 Fl_64
attribute [go_sem] lk_64_31 lk_64_33 lk_64_56
theorem Fs_64 {code : List UInt8} {y_ : (List UInt8) × (List Estimate)} (h : spec_DrawVolumeOf code = some y_) : c_64.F [.sl 1 (List.map byteAV code)] = ⟨true, .tup [.str y_.1, .fresh 5 (List.map Estimate_av y_.2)], [.any]⟩ := by
 refine mkF_E (by simp only [flatA, flatB, flat1, List.all_cons, List.all_nil, Bool.and_self, flatE_map (f := Estimate_av) (fun _ => rfl)]) ?_
 dsimp only [spec_DrawVolumeOf] at h
 obtain ⟨y_1, z1, h⟩ := bd_some h
 have fz1 := Fs_1 z1
 try simp only [go_sem] at fz1
 obtain ⟨y_2, z2, h⟩ := bd_some h
 have fz2 := Fs_11 z2
 try simp only [go_sem] at fz2
 obtain ⟨y_3, z3, h⟩ := bd_some h
 have fz3 := Fs_63 z3
 try simp only [go_sem] at fz3
 obtain rfl := so_some h
 refine ⟨0, fun L hL => ?_⟩
 simp only [go_sem, ir19, fz1, fz2, fz3]


def ir59_v : List Nat := [0, 2]
def ir59 : AFn := ⟨1, 2, .seq (.region false [ VO 1 2 (.mov (I6 0))]) (.seq (.region false [ PM 3 0, PO 4 (.len false (.s 0)), VS 1 2 0]) (.ret)), [.t 1]⟩
noncomputable def t_65 : List (Nat × Ctr) := []
noncomputable def c_65 : Ctr := mkF t_65 ir59 [.bor]
theorem s_65 : Sound Tryz.prog 59 c_65 := mkF_sound _ rfl snd_nil (by kernel_rfl : chkFn Tryz.prog 59 ir59 ir59_v = true)
theorem M_65 : c_65.modes = [.bor] := rfl
theorem Fl_65 : c_65.flat = true := rfl
attribute [go_sem] M_65 Fl_65
theorem Fs_65 {list : List Estimate} {y_ : Int} (h : impl_count_impl_Estimate list = some y_) : c_65.F [.sl 5 (List.map Estimate_av list)] = ⟨true, .int .i64 y_, [.any]⟩ := by
 refine mkF_E rfl ?_
 dsimp only [impl_count_impl_Estimate] at h
 obtain rfl := so_some h
 refine ⟨0, fun L hL => ?_⟩
 simp only [go_sem, ir59]


def ir89_v : List Nat := [0, 2]
def ir89 : AFn := ⟨1, 2, .seq (.region false [ VO 1 2 (.mov (.c (.bool false)))]) (.seq (.region false [ PM 3 0, PO 4 (.call 51 [(.s 0), (.c (.int .i64 (-2000))), (I6 20000)]), VS 1 2 0]) (.ret)), [.t 1]⟩
noncomputable def t_66 : List (Nat × Ctr) := [(51, c_13)]
theorem lk_66_51 : look t_66 51 = some c_13 := rfl
noncomputable def c_66 : Ctr := mkF t_66 ir89 [.bor]
theorem s_66 : Sound Tryz.prog 89 c_66 := mkF_sound _ rfl (snd_cons s_13 snd_nil) (by kernel_rfl : chkFn Tryz.prog 89 ir89 ir89_v = true)
theorem M_66 : c_66.modes = [.bor] := rfl
theorem Fl_66 : c_66.flat = true := rfl
attribute [go_sem] M_66 Fl_66
attribute [go_sem] lk_66_51
theorem Fs_66 {m : Int} {y_ : Bool} (h : impl_ValidMag m = some y_) : c_66.F [.int .i64 m] = ⟨true, .bool y_, [.any]⟩ := by
 refine mkF_E rfl ?_
 dsimp only [impl_ValidMag] at h
 obtain ⟨y_1, z1, h⟩ := bd_some h
 have fz1 := Fs_13 z1
 try simp only [go_sem] at fz1
 obtain rfl := so_some h
 refine ⟨0, fun L hL => ?_⟩
 simp only [go_sem, ir89, fz1]


def ir75_v : List Nat := [0, 1, 2]
def ir75 : AFn := ⟨1, 3, .seq (.region false [ VO 1 1 (.box (.v 0)), VO 2 2 (.mov (.c (.bool false)))]) (.seq (.region false [ PO 3 (.fldAddr 0 (.v 1)), PO 4 (.load false 1 (.s 0)), PO 5 (.call 48 [(.s 0)]), PO 6 (.mov (.s 0)), ⟨.push, 7, (some ((.s 0), true)), .fldAddr 1 (.v 1)⟩, ⟨.push, 8, (some ((.s 1), true)), .load false 1 (.s 0)⟩, ⟨.push, 9, (some ((.s 2), true)), .call 58 [(.s 0)]⟩, PO 10 (.pick (.s 3) (.s 0) (.c (.bool false))), PO 11 (.mov (.s 0)), ⟨.push, 12, (some ((.s 0), true)), .fldAddr 2 (.v 1)⟩, ⟨.push, 13, (some ((.s 1), true)), .load false 1 (.s 0)⟩, ⟨.push, 14, (some ((.s 2),
 true)), .call 58 [(.s 0)]⟩, PO 15 (.pick (.s 3) (.s 0) (.c (.bool false))), PO 16 (.mov (.s 0)), ⟨.push, 17, (some ((.s 0), true)), .fldAddr 3 (.v 1)⟩, ⟨.push, 18, (some ((.s 1), true)), .load false 1 (.s 0)⟩, ⟨.push, 19, (some ((.s 2), true)), .call 89 [(.s 0)]⟩, PO 20 (.pick (.s 3) (.s 0) (.c (.bool false))), VS 2 2 0]) (.ret)), [.t 2]⟩
noncomputable def t_67 : List (Nat × Ctr) := [(48, c_14), (58, c_15), (89, c_66)]
theorem lk_67_48 : look t_67 48 = some c_14 := rfl
theorem lk_67_58 : look t_67 58 = some c_15 := rfl
theorem lk_67_89 : look t_67 89 = some c_66 := rfl
noncomputable def c_67 : Ctr := mkF t_67 ir75 [.bor]
theorem s_67 : Sound Tryz.prog 75 c_67 := mkF_sound _ rfl (snd_cons s_14 (snd_cons s_15 (snd_cons s_66 snd_nil))) (by kernel_rfl : chkFn Tryz.prog 75 ir75 ir75_v = true)
theorem M_67 : c_67.modes = [.bor] := rfl
theorem Fl_67 : c_67.flat = true := rfl
attribute [go_sem] M_67 Fl_67
attribute [go_sem] lk_67_48 lk_67_58 lk_67_89
theorem Fs_67 {e_ : Estimate} {y_ : Bool} (h : impl_isEstimate e_ = some y_) : c_67.F [Estimate_av e_] = ⟨true, .bool y_, [.any]⟩ := by
 refine mkF_E rfl ?_
 dsimp only [impl_isEstimate] at h
 obtain ⟨y_1, z1, h⟩ := bd_some h
 have fz1 := Fs_14 z1
 try simp only [go_sem] at fz1
 obtain ⟨z2, h⟩ := ck_some h
 rcases or_split z2 with ⟨gz2, z2⟩ | gz2
 ·try simp only [go_sem, n1, n2, n3, n4] at gz2
  all_goals
  obtain ⟨y_2, hz2⟩ := Option.isSome_iff_exists.1 z2
  have fz2 := Fs_15 hz2
  try simp only [go_sem, n1, n2, n3, n4, gz2] at hz2
  all_goals
  try simp only [go_sem, gz2] at fz2
  obtain ⟨z3, h⟩ := ck_some h
  rcases or_split z3 with ⟨gz3, z3⟩ | gz3
  ·try simp only [go_sem, n1, n2, n3, n4, gz2, hz2] at gz3
   all_goals
   obtain ⟨y_3, hz3⟩ := Option.isSome_iff_exists.1 z3
   have fz3 := Fs_15 hz3
   try simp only [go_sem, n1, n2, n3, n4, gz2, hz2, gz3] at hz3
   all_goals
   try simp only [go_sem, gz2, hz2, gz3] at fz3
   obtain ⟨z4, h⟩ := ck_some h
   rcases or_split z4 with ⟨gz4, z4⟩ | gz4
   ·try simp only [go_sem, n1, n2, n3, n4, gz2, hz2, gz3, hz3] at gz4
    all_goals
    obtain ⟨y_4, hz4⟩ := Option.isSome_iff_exists.1 z4
    have fz4 := Fs_66 hz4
    try simp only [go_sem, n1, n2, n3, n4, gz2, hz2, gz3, hz3, gz4] at hz4
    all_goals
    try simp only [go_sem, gz2, hz2, gz3, hz3, gz4] at fz4
    obtain rfl := so_some h
    refine ⟨0, fun L hL => ?_⟩
    simp only [go_sem, ir75, fz1, gz2, hz2, fz2, gz3, hz3, fz3, gz4, hz4, fz4]
   ·rcases and_f gz4 with gz4a | ⟨gz4a, gz4b⟩
    ·try simp only [go_sem, n1, n2, n3, n4, gz2, hz2, gz3, hz3] at gz4a
     all_goals
     (simp_all)
    ·obtain ⟨gz4aa, gz4ab⟩ := and_t gz4a
     try simp only [go_sem, n1, n2, n3, n4, gz2, hz2, gz3, hz3] at gz4aa
     all_goals
     try simp only [go_sem, n1, n2, n3, n4, gz2, hz2, gz3, hz3, gz4aa] at gz4ab
     all_goals
     try simp only [go_sem, n1, n2, n3, n4, gz2, hz2, gz3, hz3, gz4aa, gz4ab] at gz4b
     all_goals
     obtain rfl := so_some h
     refine ⟨0, fun L hL => ?_⟩
     simp only [go_sem, ir75, fz1, gz2, hz2, fz2, gz3, hz3, fz3, gz4aa, gz4ab, gz4b]
  ·rcases and_f gz3 with gz3a | ⟨gz3a, gz3b⟩
   ·try simp only [go_sem, n1, n2, n3, n4, gz2, hz2] at gz3a
    all_goals
    (simp_all)
   ·try simp only [go_sem, n1, n2, n3, n4, gz2, hz2] at gz3a
    all_goals
    try simp only [go_sem, n1, n2, n3, n4, gz2, hz2, gz3a] at gz3b
    all_goals
    obtain ⟨z4, h⟩ := ck_some h
    obtain rfl := so_some h
    refine ⟨0, fun L hL => ?_⟩
    simp only [go_sem, ir75, fz1, gz2, hz2, fz2, gz3a, gz3b]
 ·try simp only [go_sem, n1, n2, n3, n4] at gz2
  all_goals
  obtain ⟨z3, h⟩ := ck_some h
  obtain ⟨z4, h⟩ := ck_some h
  obtain rfl := so_some h
  refine ⟨0, fun L hL => ?_⟩
  simp only [go_sem, ir75, fz1, gz2]


def ir98_v : List Nat := [0, 2]
def ir98 : AFn := ⟨1, 2, .seq (.region false [ VO 1 2 (.mov (.c (.bool false)))]) (.seq (.region false [ PM 3 0, PM 4 0, PO 5 (.bin false .neq (.s 1) (.s 0)), VS 1 2 0]) (.ret)), [.t 1]⟩
noncomputable def t_68 : List (Nat × Ctr) := []
noncomputable def c_68 : Ctr := mkF t_68 ir98 [.bor]
theorem s_68 : Sound Tryz.prog 98 c_68 := mkF_sound _ rfl snd_nil (by kernel_rfl : chkFn Tryz.prog 98 ir98 ir98_v = true)
theorem M_68 : c_68.modes = [.bor] := rfl
theorem Fl_68 : c_68.flat = true := rfl
attribute [go_sem] M_68 Fl_68
theorem Fs_68 {x : Int} {y_ : Bool} (h : cmp_isNaN_int64 x = some y_) : c_68.F [.int .i64 x] = ⟨true, .bool y_, [.any]⟩ := by
 refine mkF_E rfl ?_
 dsimp only [cmp_isNaN_int64] at h
 obtain rfl := so_some h
 refine ⟨0, fun L hL => ?_⟩
 simp only [go_sem, ir98]


def ir91_v : List Nat := [0, 1, 4, 5, 6]
def ir91 : AFn := ⟨2, 5, .seq (.region false [ VO 2 4 (.mov (I6 0))]) (.seq (.region false [ PM 7 0, PO 8 (.call 98 [(.s 0)]), VS 3 5 0]) (.seq (.region false [ PM 9 1, PO 10 (.call 98 [(.s 0)]), VS 4 6 0]) (.seq (.test false [ PM 11 3] (.s 0) (.seq (.test false [ PM 12 4] (.s 0) (.seq (.region false [ VO 2 4 (.mov (I6 0))]) (.ret)) (.skip)) (.seq (.region false [ VO 2 4 (.mov (.c (.int .i64 (-1))))]) (.ret))) (.skip)) (.seq (.test false [ PM 13 4] (.s 0) (.seq (.region false [ VO 2 4 (.mov (I6 1))]) (.ret)) (.skip)) (.seq (.test false [ PM 14 0, PM 15 1, PO 16 (.bin false .lss (.s 1) (.s 0))]
 (.s 0) (.seq (.region false [ VO 2 4 (.mov (.c (.int .i64 (-1))))]) (.ret)) (.skip)) (.seq (.test false [ PM 17 0, PM 18 1, PO 19 (.bin false .gtr (.s 1) (.s 0))] (.s 0) (.seq (.region false [ VO 2 4 (.mov (I6 1))]) (.ret)) (.skip)) (.seq (.region false [ VO 2 4 (.mov (I6 0))]) (.ret)))))))), [.t 2]⟩
noncomputable def t_69 : List (Nat × Ctr) := [(98, c_68)]
theorem lk_69_98 : look t_69 98 = some c_68 := rfl
noncomputable def c_69 : Ctr := mkF t_69 ir91 [.bor, .bor]
theorem s_69 : Sound Tryz.prog 91 c_69 := mkF_sound _ rfl (snd_cons s_68 snd_nil) (by kernel_rfl : chkFn Tryz.prog 91 ir91 ir91_v = true)
theorem M_69 : c_69.modes = [.bor, .bor] := rfl
theorem Fl_69 : c_69.flat = true := rfl
attribute [go_sem] M_69 Fl_69
attribute [go_sem] lk_69_98
theorem Fs_69 {x : Int} {y : Int} {y_ : Int} (h : cmp_Compare_int64 x y = some y_) : c_69.F [.int .i64 x, .int .i64 y] = ⟨true, .int .i64 y_, [.any, .any]⟩ := by
 refine mkF_E rfl ?_
 dsimp only [cmp_Compare_int64] at h
 obtain ⟨y_1, z1, h⟩ := bd_some h
 have fz1 := Fs_68 z1
 try simp only [go_sem] at fz1
 obtain ⟨y_2, z2, h⟩ := bd_some h
 have fz2 := Fs_68 z2
 try simp only [go_sem] at fz2
 rcases it_some h with ⟨z3, h⟩ | ⟨z3, h⟩
 ·try simp only [go_sem, n1, n2, n3, n4] at z3
  all_goals
  rcases it_some h with ⟨z4, h⟩ | ⟨z4, h⟩
  ·try simp only [go_sem, n1, n2, n3, n4, z3] at z4
   all_goals
   obtain rfl := so_some h
   refine ⟨0, fun L hL => ?_⟩
   simp only [go_sem, ir91, fz1, fz2, z3, z4]
  ·try simp only [go_sem, n1, n2, n3, n4, z3] at z4
   all_goals
   obtain rfl := so_some h
   refine ⟨0, fun L hL => ?_⟩
   simp only [go_sem, ir91, fz1, fz2, z3, z4]
 ·try simp only [go_sem, n1, n2, n3, n4] at z3
  all_goals
  rcases it_some h with ⟨z5, h⟩ | ⟨z5, h⟩
  ·try simp only [go_sem, n1, n2, n3, n4, z3] at z5
   all_goals
   obtain rfl := so_some h
   refine ⟨0, fun L hL => ?_⟩
   simp only [go_sem, ir91, fz1, fz2, z3, z5]
  ·try simp only [go_sem, n1, n2, n3, n4, z3] at z5
   all_goals
   rcases it_some h with ⟨z6, h⟩ | ⟨z6, h⟩
   ·try simp only [go_sem, n1, n2, n3, n4, z3, z5] at z6
    all_goals
    obtain rfl := so_some h
    refine ⟨0, fun L hL => ?_⟩
    simp only [go_sem, ir91, fz1, fz2, z3, z5, z6]
   ·try simp only [go_sem, n1, n2, n3, n4, z3, z5] at z6
    all_goals
    rcases it_some h with ⟨z7, h⟩ | ⟨z7, h⟩
    ·try simp only [go_sem, n1, n2, n3, n4, z3, z5, z6] at z7
     all_goals
     obtain rfl := so_some h
     refine ⟨0, fun L hL => ?_⟩
     simp only [go_sem, ir91, fz1, fz2, z3, z5, z6, z7]
    ·try simp only [go_sem, n1, n2, n3, n4, z3, z5, z6] at z7
     all_goals
     obtain rfl := so_some h
     refine ⟨0, fun L hL => ?_⟩
     simp only [go_sem, ir91, fz1, fz2, z3, z5, z6, z7]


theorem s_hCmp : Sound Tryz.prog 105 c_hCmp := hCmp_sound Tryz.func105 (by kernel_rfl) (by kernel_rfl) (by kernel_rfl) (by kernel_rfl)

def ir99_v : List Nat := [0, 1, 4]
def ir99 : AFn := ⟨2, 3, .seq (.region false [ VO 2 4 (.mov (I6 0))]) (.seq (.region false [ PM 5 0, PM 6 1, PO 7 (.call 105 [(.s 1), (.s 0)]), VS 2 4 0]) (.ret)), [.t 2]⟩
noncomputable def t_71 : List (Nat × Ctr) := [(105, c_hCmp)]
theorem lk_71_105 : look t_71 105 = some c_hCmp := rfl
noncomputable def c_71 : Ctr := mkF t_71 ir99 [.bor, .bor]
theorem s_71 : Sound Tryz.prog 99 c_71 := mkF_sound _ rfl (snd_cons s_hCmp snd_nil) (by kernel_rfl : chkFn Tryz.prog 99 ir99 ir99_v = true)
theorem M_71 : c_71.modes = [.bor, .bor] := rfl
theorem Fl_71 : c_71.flat = true := rfl
attribute [go_sem] M_71 Fl_71
attribute [go_sem] lk_71_105
theorem Fs_71 {a : List UInt8} {b : List UInt8} {y_ : Int} (h : internal_bytealg_CompareString a b = some y_) : c_71.F [.str a, .str b] = ⟨true, .int .i64 y_, [.any, .any]⟩ := by
 refine mkF_E rfl ?_
 dsimp only [internal_bytealg_CompareString] at h
 obtain ⟨y_1, z1, h⟩ := bd_some h
 have fz1 := Fs_hCmp z1
 try simp only [go_sem] at fz1
 obtain rfl := so_some h
 refine ⟨0, fun L hL => ?_⟩
 simp only [go_sem, ir99, fz1]


def ir92_v : List Nat := [0, 1, 4]
def ir92 : AFn := ⟨2, 3, .seq (.region false [ VO 2 4 (.mov (I6 0))]) (.seq (.region false [ PM 5 0, PM 6 1, PO 7 (.call 99 [(.s 1), (.s 0)]), VS 2 4 0]) (.ret)), [.t 2]⟩
noncomputable def t_72 : List (Nat × Ctr) := [(99, c_71)]
theorem lk_72_99 : look t_72 99 = some c_71 := rfl
noncomputable def c_72 : Ctr := mkF t_72 ir92 [.bor, .bor]
theorem s_72 : Sound Tryz.prog 92 c_72 := mkF_sound _ rfl (snd_cons s_71 snd_nil) (by kernel_rfl : chkFn Tryz.prog 92 ir92 ir92_v = true)
theorem M_72 : c_72.modes = [.bor, .bor] := rfl
theorem Fl_72 : c_72.flat = true := rfl
attribute [go_sem] M_72 Fl_72
attribute [go_sem] lk_72_99
theorem Fs_72 {a : List UInt8} {b : List UInt8} {y_ : Int} (h : strings_Compare a b = some y_) : c_72.F [.str a, .str b] = ⟨true, .int .i64 y_, [.any, .any]⟩ := by
 refine mkF_E rfl ?_
 dsimp only [strings_Compare] at h
 obtain ⟨y_1, z1, h⟩ := bd_some h
 have fz1 := Fs_71 z1
 try simp only [go_sem] at fz1
 obtain rfl := so_some h
 refine ⟨0, fun L hL => ?_⟩
 simp only [go_sem, ir92, fz1]


def ir90_b0 : IR := .seq (.region false [ VO 7 9 (.bin false .lss (.v 6) (.v 5))]) (.seq (.cond (.v 7) (.skip) (.exit 0)) (.seq (.block 1 (.seq (.region false [ PO 10 (.ixAddr 1 (.v 4) (.v 6)), PO 11 (.load false 1 (.s 0)), VS 3 5 0]) (.test false [ PM 12 3, PM 13 2, PO 14 (.bin false .neq (.s 1) (.s 0))] (.s 0) (.seq (.region false [ PM 15 3, VS 1 2 0]) (.ret)) (.skip)))) (.region false [ PO 16 (.bin false .add (.v 6) (I6 1)), VS 6 8 0])))
def ir90_k0 : List Bool := [false, false, true, false, true, true, true, false]
def ir90_o0 : List Bool := [false, false, true, false, false, false, false, false]
def ir90_r0 : List Bool := [false, true, false, false, false, false, false, false]
def ir90_v : List Nat := [0, 2, 3, 5, 6, 7, 8, 9]
def ir90 : AFn := ⟨1, 8, .seq (.region false [ VO 1 2 (.mov (I6 0))]) (.seq (.region false [ VO 2 3 (.mov (I6 0))]) (.seq (.seq (.region false [ VO 4 6 (.mov (.v 0)), VO 5 7 (.len false (.v 4)), VO 6 8 (.mov (I6 0))]) (.block 0 (.loop ir90_k0 ir90_o0 ir90_r0 ir90_b0))) (.seq (.region false [ PM 17 2, VS 1 2 0]) (.ret)))), [.t 1]⟩
noncomputable def t_73 : List (Nat × Ctr) := []
noncomputable def c_73 : Ctr := mkF t_73 ir90 [.bor]
theorem s_73 : Sound Tryz.prog 90 c_73 := mkF_sound _ rfl snd_nil (by kernel_rfl : chkFn Tryz.prog 90 ir90 ir90_v = true)
theorem M_73 : c_73.modes = [.bor] := rfl
theorem Fl_73 : c_73.flat = true := rfl
attribute [go_sem] M_73 Fl_73
def E_73_l1 (zero : Int) (t6 : List Int) (t7 : Int) : Int → St
 | t8 => ⟨[.any, .any, .int .i64 zero, .any, .sl 1 (List.map (AV.int .i64) t6), .int .i64 t7, .int .i64 t8, .any], [], [], true⟩
def R_73_l1 (zero : Int) (t6 : List Int) (t7 : Int) : (Unit ⊕ Int) → Res
 | .inl y => (.exit 0, ⟨[.any, .any, .int .i64 zero, .any, .any, .any, .any, .any], [], [], true⟩)
 | .inr y => (.ret, ⟨[.any, .int .i64 y, .any, .any, .any, .any, .any, .any], [], [], true⟩)
theorem cmp_Or_int_l1_ex {zero : Int} {t6 : List Int} {t7 : Int} {sgm_ : Int} {rho_ : Unit ⊕ Int} (h : whileE (cmp_Or_int_l1 zero t6 t7) sgm_ = some rho_) : ∃ L0, ∀ L, L0 ≤ L → iter (exec (look t_73) L ir90_b0) ir90_k0 ir90_o0 ir90_r0 L (E_73_l1 zero t6 t7 sgm_) = R_73_l1 zero t6 t7 rho_ := by
 refine loop_ex (E := E_73_l1 zero t6 t7) (R := R_73_l1 zero t6 t7) (fun y => by first | (intro c; cases c) | (rcases y with y | y <;> (intro c; cases c)) | (rcases y with y | y | y <;> (intro c; cases c))) ?_ h
 clear h
 intro t8 o_ h
 dsimp only [cmp_Or_int_l1] at h
 rcases it_some h with ⟨z1, h⟩ | ⟨z1, h⟩
 ·try simp only [go_sem, n1, n2, n3, n4] at z1
  all_goals
  obtain ⟨z2, h⟩ := ck_some h
  have lz2 := ix_lt z2
  have xz2 := getD_mapD (AV.int .i64) t6 lz2
  try simp only [go_sem] at lz2
  try simp only [go_sem] at xz2
  try simp only [go_sem, n1, n2, n3, n4, z1] at z2
  all_goals
  rcases it_some h with ⟨z3, h⟩ | ⟨z3, h⟩
  ·try simp only [go_sem, n1, n2, n3, n4, z1, z2] at z3
   all_goals
   obtain rfl := so_some h
   refine ⟨0, fun L hL => ?_⟩
   simp only [go_sem, ir90, E_73_l1, R_73_l1, ir90_b0, ir90_k0, ir90_o0, ir90_r0, z1, z2, lz2, xz2, z3]
  ·try simp only [go_sem, n1, n2, n3, n4, z1, z2] at z3
   all_goals
   obtain rfl := so_some h
   refine ⟨0, fun L hL => ?_⟩
   simp only [go_sem, ir90, E_73_l1, R_73_l1, ir90_b0, ir90_k0, ir90_o0, ir90_r0, z1, z2, lz2, xz2, z3]
 ·try simp only [go_sem, n1, n2, n3, n4] at z1
  all_goals
  obtain rfl := so_some h
  refine ⟨0, fun L hL => ?_⟩
  simp only [go_sem, ir90, E_73_l1, R_73_l1, ir90_b0, ir90_k0, ir90_o0, ir90_r0, z1]

theorem Fs_73 {vals : List Int} {y_ : Int} (h : cmp_Or_int vals = some y_) : c_73.F [.sl 1 (List.map (AV.int .i64) vals)] = ⟨true, .int .i64 y_, [.any]⟩ := by
 refine mkF_E rfl ?_
 dsimp only [cmp_Or_int] at h
 obtain ⟨y_4, z4, h⟩ := bd_some h
 obtain ⟨Lz4, ez4⟩ := cmp_Or_int_l1_ex z4
 rcases y_4 with y_4a | y_4b
 ·dsimp only at h
  obtain rfl := so_some h
  refine ⟨Lz4, fun L hL => ?_⟩
  have ez4 := ez4 L (by omega)
  try simp only [go_sem, E_73_l1, R_73_l1, ir90_k0, ir90_o0, ir90_r0] at ez4
  simp only [go_sem, ir90, E_73_l1, R_73_l1, ir90_k0, ir90_o0, ir90_r0, ez4]
 ·dsimp only at h
  obtain rfl := so_some h
  refine ⟨Lz4, fun L hL => ?_⟩
  have ez4 := ez4 L (by omega)
  try simp only [go_sem, E_73_l1, R_73_l1, ir90_k0, ir90_o0, ir90_r0] at ez4
  simp only [go_sem, ir90, E_73_l1, R_73_l1, ir90_k0, ir90_o0, ir90_r0, ez4]


def ir76_v : List Nat := [0, 1, 2, 3, 4]
def ir76 : AFn := ⟨2, 5, .seq (.region false [ VO 2 2 (.box (.v 0)), VO 3 3 (.box (.v 1)), VO 4 4 (.mov (I6 0))]) (.seq (.anyo 17 [ SO 0 5 (.fldAddr 0 (.v 2)), SO 1 6 (.load false 1 (.s 0)), SO 2 7 (.fldAddr 0 (.v 3)), SO 3 8 (.load false 1 (.s 2)), SO 4 9 (.callp 91 [(.s 1), (.s 3)]), SO 5 10 (.fldAddr 1 (.v 2)), SO 6 11 (.load false 1 (.s 5)), SO 7 12 (.fldAddr 1 (.v 3)), SO 8 13 (.load false 1 (.s 7)), SO 9 14 (.callp 92 [(.s 6), (.s 8)]), SO 10 15 (.fldAddr 2 (.v 2)), SO 11 16 (.load false 1 (.s 10)), SO 12 17 (.fldAddr 2 (.v 3)), SO 13 18 (.load false 1 (.s 12)), SO 14 19 (.callp 92 [(.s
 11), (.s 13)]), SO 15 20 (.pur (.mkSl 1 (.int .i64 (0)) 3 [(0, (.s 4)), (1, (.s 9)), (2, (.s 14))])), SO 16 21 (.callp 90 [(.s 15)]), VS 4 4 16] [] .skip) (.ret)), [.t 4]⟩
noncomputable def t_74 : List (Nat × Ctr) := [(91, c_69), (92, c_72), (90, c_73)]
theorem lk_74_91 : look t_74 91 = some c_69 := rfl
theorem lk_74_92 : look t_74 92 = some c_72 := rfl
theorem lk_74_90 : look t_74 90 = some c_73 := rfl
noncomputable def c_74 : Ctr := mkF t_74 ir76 [.bor, .bor]
theorem s_74 : Sound Tryz.prog 76 c_74 := mkF_sound _ rfl (snd_cons s_69 (snd_cons s_72 (snd_cons s_73 snd_nil))) (by kernel_rfl : chkFn Tryz.prog 76 ir76 ir76_v = true)
theorem M_74 : c_74.modes = [.bor, .bor] := rfl
theorem Fl_74 : c_74.flat = true := rfl
attribute [go_sem] M_74 Fl_74
attribute [go_sem] lk_74_91 lk_74_92 lk_74_90
theorem Fs_74 {a : Estimate} {b : Estimate} {y_ : Int} (h : impl_compareEstimates a b = some y_) : c_74.F [Estimate_av a, Estimate_av b] = ⟨true, .int .i64 y_, [.any, .any]⟩ := by
 refine mkF_E rfl ?_
 dsimp only [impl_compareEstimates] at h
 obtain ⟨y_1, z1, h⟩ := bd_some h
 have fz1 := Fs_69 z1
 try simp only [go_sem] at fz1
 obtain ⟨y_2, z2, h⟩ := bd_some h
 have fz2 := Fs_72 z2
 try simp only [go_sem] at fz2
 obtain ⟨y_3, z3, h⟩ := bd_some h
 have fz3 := Fs_72 z3
 try simp only [go_sem] at fz3
 obtain ⟨y_4, z4, h⟩ := bd_some h
 have fz4 := Fs_73 z4
 try simp only [go_sem] at fz4
 obtain rfl := so_some h
 refine ⟨0, fun L hL => ?_⟩
 simp only [go_sem, ir76, fz1, fz2, fz3, fz4]


def ir57_b0 : IR := .seq (.region false [ VO 7 11 (.bin false .lss (.v 6) (.v 5))]) (.seq (.cond (.v 7) (.skip) (.exit 0)) (.seq (.block 1 (.seq (.region false [ PM 12 6, PO 13 (.ixAddr 5 (.v 4) (.v 6)), PO 14 (.load true 5 (.s 0)), VO 3 4 (.alloc (.agg [.int .i64 (0), .str [], .str [], .int .i64 (0), .bool false])), VS 2 3 2, ⟨.no, 0, none, .store 5 (.v 3) (.s 0)⟩]) (.anyo 17 [ SO 0 15 (.load true 5 (.v 3)), SO 1 16 (.callp 75 [(.s 0)]), SO 2 17 (.un .not (.s 1)), SO 3 18 (.mov (.s 2)), ⟨.slot 4, 19, (some ((.s 3), false)), .mov (.v 2)⟩, ⟨.slot 5, 20, (some ((.s 3), false)), .bin false .gtr
 (.s 4) (I6 0)⟩, ⟨.slot 6, 21, (some ((.s 3), false)), .mov (.s 5)⟩, ⟨.slot 7, 22, (some ((.s 6), true)), .mov (.v 0)⟩, ⟨.slot 8, 23, (some ((.s 6), true)), .mov (.v 2)⟩, ⟨.slot 9, 24, (some ((.s 6), true)), .bin false .sub (.s 8) (I6 1)⟩, ⟨.slot 10, 25, (some ((.s 6), true)), .ixAddr 5 (.s 7) (.s 9)⟩, ⟨.slot 11, 26, (some ((.s 6), true)), .load true 5 (.s 10)⟩, ⟨.slot 12, 27, (some ((.s 6), true)), .load true 5 (.v 3)⟩, ⟨.slot 13, 28, (some ((.s 6), true)), .call 76 [(.s 11), (.s 12)]⟩, ⟨.slot 14, 29, (some ((.s 6), true)), .bin false .geq (.s 13) (I6 0)⟩, ⟨.slot 15, 30, (some ((.s 3),
 false)), .pick (.s 6) (.s 14) (.c (.bool false))⟩, SO 16 31 (.pick (.s 3) (.c (.bool true)) (.s 15))] [] (.cond (.s 16) (.seq (.region false [ VO 1 2 (.mov (.c (.bool false)))]) (.ret)) (.skip))))) (.region false [ PO 32 (.bin false .add (.v 6) (I6 1)), VS 6 10 0])))
def ir57_k0 : List Bool := [true, false, false, false, true, true, true, false]
def ir57_o0 : List Bool := [false, false, false, false, false, false, false, false]
def ir57_r0 : List Bool := [false, true, false, false, false, false, false, false]
def ir57_v : List Nat := [0, 2, 3, 4, 8, 9, 10, 11]
def ir57 : AFn := ⟨1, 8, .seq (.region false [ VO 1 2 (.mov (.c (.bool false)))]) (.seq (.test false [ PM 5 0, PO 6 (.len false (.s 0)), PO 7 (.bin false .gtr (.s 0) (I6 100))] (.s 0) (.seq (.region false [ VO 1 2 (.mov (.c (.bool false)))]) (.ret)) (.skip)) (.seq (.seq (.region false [ VO 4 8 (.mov (.v 0)), VO 5 9 (.len false (.v 4)), VO 6 10 (.mov (I6 0))]) (.block 0 (.loop ir57_k0 ir57_o0 ir57_r0 ir57_b0))) (.seq (.region false [ VO 1 2 (.mov (.c (.bool true)))]) (.ret)))), [.t 1]⟩
noncomputable def t_75 : List (Nat × Ctr) := [(75, c_67), (76, c_74)]
theorem lk_75_75 : look t_75 75 = some c_67 := rfl
theorem lk_75_76 : look t_75 76 = some c_74 := rfl
noncomputable def c_75 : Ctr := mkF t_75 ir57 [.bor]
theorem s_75 : Sound Tryz.prog 57 c_75 := mkF_sound _ rfl (snd_cons s_67 (snd_cons s_74 snd_nil)) (by kernel_rfl : chkFn Tryz.prog 57 ir57 ir57_v = true)
theorem M_75 : c_75.modes = [.bor] := rfl
theorem Fl_75 : c_75.flat = true := rfl
attribute [go_sem] M_75 Fl_75
attribute [go_sem] lk_75_75 lk_75_76
def E_75_l1 (list : List Estimate) (t8 : List Estimate) (t9 : Int) : Int → St
 | t10 => ⟨[.sl 5 (List.map Estimate_av list), .any, .any, .any, .sl 5 (List.map Estimate_av t8), .int .i64 t9, .int .i64 t10, .any], [], [], true⟩
def R_75_l1 (list : List Estimate) (t8 : List Estimate) (t9 : Int) : (Unit ⊕ Bool) → Res
 | .inl y => (.exit 0, ⟨[.any, .any, .any, .any, .any, .any, .any, .any], [], [], true⟩)
 | .inr y => (.ret, ⟨[.any, .bool y, .any, .any, .any, .any, .any, .any], [], [], true⟩)
theorem impl_ValidEstimates_l1_ex {list : List Estimate} {t8 : List Estimate} {t9 : Int} {sgm_ : Int} {rho_ : Unit ⊕ Bool} (h : whileE (impl_ValidEstimates_l1 list t8 t9) sgm_ = some rho_) : ∃ L0, ∀ L, L0 ≤ L → iter (exec (look t_75) L ir57_b0) ir57_k0 ir57_o0 ir57_r0 L (E_75_l1 list t8 t9 sgm_) = R_75_l1 list t8 t9 rho_ := by
 refine loop_ex (E := E_75_l1 list t8 t9) (R := R_75_l1 list t8 t9) (fun y => by first | (intro c; cases c) | (rcases y with y | y <;> (intro c; cases c)) | (rcases y with y | y | y <;> (intro c; cases c))) ?_ h
 clear h
 intro t10 o_ h
 dsimp only [impl_ValidEstimates_l1] at h
 rcases it_some h with ⟨z2, h⟩ | ⟨z2, h⟩
 ·try simp only [go_sem, n1, n2, n3, n4] at z2
  all_goals
  obtain ⟨z3, h⟩ := ck_some h
  have lz3 := ix_lt z3
  have xz3 := getD_mapD Estimate_av t8 lz3
  try simp only [go_sem] at lz3
  try simp only [go_sem] at xz3
  try simp only [go_sem, n1, n2, n3, n4, z2] at z3
  all_goals
  obtain ⟨y_4, z4, h⟩ := bd_some h
  have fz4 := Fs_67 z4
  try simp only [go_sem, z2, z3] at fz4
  obtain ⟨z5, h⟩ := ck_some h
  rcases or_split z5 with ⟨gz5, z5⟩ | gz5
  ·try simp only [go_sem, n1, n2, n3, n4, z2, z3] at gz5
   all_goals
   have lz5 := ix_lt z5
   have xz5 := getD_mapD Estimate_av list lz5
   try simp only [go_sem] at lz5
   try simp only [go_sem] at xz5
   try simp only [go_sem, n1, n2, n3, n4, z2, z3, gz5] at z5
   all_goals
   obtain ⟨z6, h⟩ := ck_some h
   rcases or_split z6 with ⟨gz6, z6⟩ | gz6
   ·try simp only [go_sem, n1, n2, n3, n4, z2, z3, gz5, z5] at gz6
    all_goals
    obtain ⟨y_6, hz6⟩ := Option.isSome_iff_exists.1 z6
    have fz6 := Fs_74 hz6
    try simp only [go_sem, n1, n2, n3, n4, z2, z3, gz5, z5, gz6] at hz6
    all_goals
    try simp only [go_sem, z2, z3, gz5, z5, gz6] at fz6
    rcases it_some h with ⟨z7, h⟩ | ⟨z7, h⟩
    ·try simp only [go_sem, n1, n2, n3, n4, z2, z3, gz5, z5, gz6, hz6] at z7
     all_goals
     obtain rfl := so_some h
     refine ⟨0, fun L hL => ?_⟩
     simp only [go_sem, ir57, E_75_l1, R_75_l1, ir57_b0, ir57_k0, ir57_o0, ir57_r0, z2, z3, lz3, xz3, fz4, gz5, z5, lz5, xz5, gz6, hz6, fz6, z7]
    ·try simp only [go_sem, n1, n2, n3, n4, z2, z3, gz5, z5, gz6, hz6] at z7
     all_goals
     obtain rfl := so_some h
     refine ⟨0, fun L hL => ?_⟩
     simp only [go_sem, ir57, E_75_l1, R_75_l1, ir57_b0, ir57_k0, ir57_o0, ir57_r0, z2, z3, lz3, xz3, fz4, gz5, z5, lz5, xz5, gz6, hz6, fz6, z7]
   ·rcases and_f gz6 with gz6a | ⟨gz6a, gz6b⟩
    ·try simp only [go_sem, n1, n2, n3, n4, z2, z3, gz5, z5] at gz6a
     all_goals
     (simp_all)
    ·have gz6an := no_t gz6a
     have gz6ann := no_f gz6an
     try simp only [go_sem, n1, n2, n3, n4, z2, z3, gz5, z5] at gz6ann
     all_goals
     try simp only [go_sem, n1, n2, n3, n4, z2, z3, gz5, z5, gz6ann] at gz6b
     all_goals
     rcases it_some h with ⟨z7, h⟩ | ⟨z7, h⟩
     ·try simp only [go_sem, n1, n2, n3, n4, z2, z3, gz5, z5, gz6ann, gz6b] at z7
      all_goals
      (simp_all)
     ·try simp only [go_sem, n1, n2, n3, n4, z2, z3, gz5, z5, gz6ann, gz6b] at z7
      all_goals
      obtain rfl := so_some h
      refine ⟨0, fun L hL => ?_⟩
      simp only [go_sem, ir57, E_75_l1, R_75_l1, ir57_b0, ir57_k0, ir57_o0, ir57_r0, z2, z3, lz3, xz3, fz4, gz5, z5, lz5, xz5, gz6ann, gz6b, z7]
  ·rcases and_f gz5 with gz5a | ⟨gz5a, gz5b⟩
   ·have gz5an := no_f gz5a
    have gz5ann := no_t gz5an
    try simp only [go_sem, n1, n2, n3, n4, z2, z3] at gz5ann
    all_goals
    obtain ⟨z6, h⟩ := ck_some h
    rcases it_some h with ⟨z7, h⟩ | ⟨z7, h⟩
    ·try simp only [go_sem, n1, n2, n3, n4, z2, z3, gz5ann] at z7
     all_goals
     obtain rfl := so_some h
     refine ⟨0, fun L hL => ?_⟩
     simp only [go_sem, ir57, E_75_l1, R_75_l1, ir57_b0, ir57_k0, ir57_o0, ir57_r0, z2, z3, lz3, xz3, fz4, gz5ann, z7]
    ·try simp only [go_sem, n1, n2, n3, n4, z2, z3, gz5ann] at z7
     all_goals
     (simp_all)
   ·have gz5an := no_t gz5a
    have gz5ann := no_f gz5an
    try simp only [go_sem, n1, n2, n3, n4, z2, z3] at gz5ann
    all_goals
    try simp only [go_sem, n1, n2, n3, n4, z2, z3, gz5ann] at gz5b
    all_goals
    obtain ⟨z6, h⟩ := ck_some h
    rcases it_some h with ⟨z7, h⟩ | ⟨z7, h⟩
    ·try simp only [go_sem, n1, n2, n3, n4, z2, z3, gz5ann, gz5b] at z7
     all_goals
     (simp_all)
    ·try simp only [go_sem, n1, n2, n3, n4, z2, z3, gz5ann, gz5b] at z7
     all_goals
     obtain rfl := so_some h
     refine ⟨0, fun L hL => ?_⟩
     simp only [go_sem, ir57, E_75_l1, R_75_l1, ir57_b0, ir57_k0, ir57_o0, ir57_r0, z2, z3, lz3, xz3, fz4, gz5ann, gz5b, z7]
 ·try simp only [go_sem, n1, n2, n3, n4] at z2
  all_goals
  obtain rfl := so_some h
  refine ⟨0, fun L hL => ?_⟩
  simp only [go_sem, ir57, E_75_l1, R_75_l1, ir57_b0, ir57_k0, ir57_o0, ir57_r0, z2]

theorem Fs_75 {list : List Estimate} {y_ : Bool} (h : impl_ValidEstimates list = some y_) : c_75.F [.sl 5 (List.map Estimate_av list)] = ⟨true, .bool y_, [.any]⟩ := by
 refine mkF_E rfl ?_
 dsimp only [impl_ValidEstimates] at h
 rcases it_some h with ⟨z1, h⟩ | ⟨z1, h⟩
 ·try simp only [go_sem, n1, n2, n3, n4] at z1
  all_goals
  obtain rfl := so_some h
  refine ⟨0, fun L hL => ?_⟩
  simp only [go_sem, ir57, E_75_l1, R_75_l1, ir57_k0, ir57_o0, ir57_r0, z1]
 ·try simp only [go_sem, n1, n2, n3, n4] at z1
  all_goals
  obtain ⟨y_8, z8, h⟩ := bd_some h
  obtain ⟨Lz8, ez8⟩ := impl_ValidEstimates_l1_ex z8
  rcases y_8 with y_8a | y_8b
  ·dsimp only at h
   obtain rfl := so_some h
   refine ⟨Lz8, fun L hL => ?_⟩
   have ez8 := ez8 L (by omega)
   try simp only [go_sem, E_75_l1, R_75_l1, ir57_k0, ir57_o0, ir57_r0, z1] at ez8
   simp only [go_sem, ir57, E_75_l1, R_75_l1, ir57_k0, ir57_o0, ir57_r0, z1, ez8]
  ·dsimp only at h
   obtain rfl := so_some h
   refine ⟨Lz8, fun L hL => ?_⟩
   have ez8 := ez8 L (by omega)
   try simp only [go_sem, E_75_l1, R_75_l1, ir57_k0, ir57_o0, ir57_r0, z1] at ez8
   simp only [go_sem, ir57, E_75_l1, R_75_l1, ir57_k0, ir57_o0, ir57_r0, z1, ez8]


def ir20_v : List Nat := [0, 1, 4, 5]
def ir20 : AFn := ⟨2, 4, .seq (.region false [ VO 2 4 (.alloc (.agg [.str [], .int .i64 (0), .int .i64 (0), .int .i64 (0), .int .i64 (0)])), VO 3 5 (.mov (I6 0))]) (.seq (.block 0 (.test false [ PM 7 1, PO 8 (.call 57 [(.s 0)]), PO 9 (.un .not (.s 0)), PO 6 (.mov (.s 0))] (.s 0) (.seq (.region false [ PO 10 (.build [.str [], .int .i64 (0), .int .i64 (0), .int .i64 (0), .int .i64 (0)] []), ⟨.no, 0, none, .store 5 (.v 2) (.s 0)⟩, VO 3 5 (.mov (I6 1))]) (.ret)) (.test false [ PM 12 0, PO 13 (.call 58 [(.s 0)]), PO 14 (.un .not (.s 0)), PO 11 (.mov (.s 0))] (.s 0) (.seq (.region false [ PO 15
 (.build [.str [], .int .i64 (0), .int .i64 (0), .int .i64 (0), .int .i64 (0)] []), ⟨.no, 0, none, .store 5 (.v 2) (.s 0)⟩, VO 3 5 (.mov (I6 2))]) (.ret)) (.test false [ PM 17 1, PO 18 (.len false (.s 0)), PO 19 (.bin false .eql (.s 0) (I6 0)), PO 16 (.mov (.s 0))] (.s 0) (.seq (.region false [ PO 20 (.build [.str [], .int .i64 (0), .int .i64 (0), .int .i64 (0), .int .i64 (0)] []), ⟨.no, 0, none, .store 5 (.v 2) (.s 0)⟩, VO 3 5 (.mov (I6 3))]) (.ret)) (.skip))))) (.seq (.anyo 15 [ SO 0 21 (.mov (.v 0)), SO 1 22 (.mov (.v 1)), SO 2 23 (.ixAddr 5 (.s 1) (I6 0)), SO 3 24 (.fldAddr 0 (.s 2)), SO 4
 25 (.load false 1 (.s 3)), SO 5 26 (.mov (.v 1)), SO 6 27 (.mov (.v 1)), SO 7 28 (.len false (.s 6)), SO 8 29 (.bin false .sub (.s 7) (I6 1)), SO 9 30 (.ixAddr 5 (.s 5) (.s 8)), SO 10 31 (.fldAddr 0 (.s 9)), SO 11 32 (.load false 1 (.s 10)), SO 12 33 (.mov (.v 1)), SO 13 34 (.callp 59 [(.s 12)]), SO 14 35 (.pur (.build [.str [], .int .i64 (0), .int .i64 (0), .int .i64 (0), .int .i64 (0)] [(0, 1, (.s 0)), (1, 1, (.s 4)), (2, 1, (.s 11)), (3, 1, (.s 13)), (4, 1, (I6 1))])), ⟨.no, 0, none, .store 5 (.v 2) (.s 14)⟩, VO 3 5 (.mov (I6 0))] [] .skip) (.ret))), [.cell true 5 2, .t 3]⟩
noncomputable def t_76 : List (Nat × Ctr) := [(57, c_75), (58, c_15), (59, c_65)]
theorem lk_76_57 : look t_76 57 = some c_75 := rfl
theorem lk_76_58 : look t_76 58 = some c_15 := rfl
theorem lk_76_59 : look t_76 59 = some c_65 := rfl
noncomputable def c_76 : Ctr := mkN t_76 ir20 [.bor, .bor]
theorem s_76 : Sound Tryz.prog 20 c_76 := mkN_sound _ (snd_cons s_75 (snd_cons s_15 (snd_cons s_65 snd_nil))) (by kernel_rfl : chkFn Tryz.prog 20 ir20 ir20_v = true)
theorem M_76 : c_76.modes = [.bor, .bor] := rfl
theorem Fl_76 : c_76.flat = false := rfl
attribute [go_sem] M_76 Fl_76
attribute [go_sem] lk_76_57 lk_76_58 lk_76_59
theorem Fs_76 {name : List UInt8} {estimates : List Estimate} {y_ : Volume × Int} (h : impl_VolumeOf name estimates = some y_) : c_76.F [.str name, .sl 5 (List.map Estimate_av estimates)] = ⟨true, .tup [Volume_av y_.1, .int .i64 y_.2], [.any, .any]⟩ := by
 refine mkN_E ?_
 dsimp only [impl_VolumeOf] at h
 obtain ⟨y_1, z1, h⟩ := bd_some h
 have fz1 := Fs_75 z1
 try simp only [go_sem] at fz1
 rcases it_some h with ⟨z2, h⟩ | ⟨z2, h⟩
 ·try simp only [go_sem, n1, n2, n3, n4] at z2
  all_goals
  obtain rfl := so_some h
  refine ⟨0, fun L hL => ?_⟩
  simp only [go_sem, ir20, fz1, z2]
 ·try simp only [go_sem, n1, n2, n3, n4] at z2
  all_goals
  obtain ⟨y_3, z3, h⟩ := bd_some h
  have fz3 := Fs_15 z3
  try simp only [go_sem, z2] at fz3
  rcases it_some h with ⟨z4, h⟩ | ⟨z4, h⟩
  ·try simp only [go_sem, n1, n2, n3, n4, z2] at z4
   all_goals
   obtain rfl := so_some h
   refine ⟨0, fun L hL => ?_⟩
   simp only [go_sem, ir20, fz1, z2, fz3, z4]
  ·try simp only [go_sem, n1, n2, n3, n4, z2] at z4
   all_goals
   rcases it_some h with ⟨z5, h⟩ | ⟨z5, h⟩
   ·try simp only [go_sem, n1, n2, n3, n4, z2, z4] at z5
    all_goals
    obtain rfl := so_some h
    refine ⟨0, fun L hL => ?_⟩
    simp only [go_sem, ir20, fz1, z2, fz3, z4, z5]
   ·try simp only [go_sem, n1, n2, n3, n4, z2, z4] at z5
    all_goals
    obtain ⟨z6, h⟩ := ck_some h
    have lz6 := ix_lt z6
    have xz6 := getD_mapD Estimate_av estimates lz6
    try simp only [go_sem] at lz6
    try simp only [go_sem] at xz6
    try simp only [go_sem, n1, n2, n3, n4, z2, z4, z5] at z6
    all_goals
    obtain ⟨z7, h⟩ := ck_some h
    have lz7 := ix_lt z7
    have xz7 := getD_mapD Estimate_av estimates lz7
    try simp only [go_sem] at lz7
    try simp only [go_sem] at xz7
    try simp only [go_sem, n1, n2, n3, n4, z2, z4, z5, z6] at z7
    all_goals
    obtain ⟨y_8, z8, h⟩ := bd_some h
    have fz8 := Fs_65 z8
    try simp only [go_sem, z2, z4, z5, z6, z7] at fz8
    obtain rfl := so_some h
    refine ⟨0, fun L hL => ?_⟩
    simp only [go_sem, ir20, fz1, z2, fz3, z4, z5, z6, lz6, xz6, z7, lz7, xz7, fz8]


def ir93_v : List Nat := [0, 2]
def ir93 : AFn := ⟨1, 2, .seq (.region false [ VO 1 2 (.mov (.c (.bool false)))]) (.seq (.region false [ PM 3 0, PO 4 (.call 53 [(.s 0), (I6 0), (I6 10000000)]), VS 1 2 0]) (.ret)), [.t 1]⟩
noncomputable def t_77 : List (Nat × Ctr) := [(53, c_31)]
theorem lk_77_53 : look t_77 53 = some c_31 := rfl
noncomputable def c_77 : Ctr := mkF t_77 ir93 [.bor]
theorem s_77 : Sound Tryz.prog 93 c_77 := mkF_sound _ rfl (snd_cons s_31 snd_nil) (by kernel_rfl : chkFn Tryz.prog 93 ir93 ir93_v = true)
theorem M_77 : c_77.modes = [.bor] := rfl
theorem Fl_77 : c_77.flat = true := rfl
attribute [go_sem] M_77 Fl_77
attribute [go_sem] lk_77_53
theorem Fs_77 {n : Int} {y_ : Bool} (h : spec_l06Time n = some y_) : c_77.F [.int .i64 n] = ⟨true, .bool y_, [.any]⟩ := by
 refine mkF_E rfl ?_
 dsimp only [spec_l06Time] at h
 obtain ⟨y_1, z1, h⟩ := bd_some h
 have fz1 := Fs_31 z1
 try simp only [go_sem] at fz1
 obtain rfl := so_some h
 refine ⟨0, fun L hL => ?_⟩
 simp only [go_sem, ir93, fz1]


def ir94_v : List Nat := [0, 2]
def ir94 : AFn := ⟨1, 2, .seq (.region false [ VO 1 2 (.mov (.c (.bool false)))]) (.seq (.region false [ PM 3 0, PO 4 (.call 53 [(.s 0), (.c (.int .i64 (-2000))), (I6 20000)]), VS 1 2 0]) (.ret)), [.t 1]⟩
noncomputable def t_78 : List (Nat × Ctr) := [(53, c_31)]
theorem lk_78_53 : look t_78 53 = some c_31 := rfl
noncomputable def c_78 : Ctr := mkF t_78 ir94 [.bor]
theorem s_78 : Sound Tryz.prog 94 c_78 := mkF_sound _ rfl (snd_cons s_31 snd_nil) (by kernel_rfl : chkFn Tryz.prog 94 ir94 ir94_v = true)
theorem M_78 : c_78.modes = [.bor] := rfl
theorem Fl_78 : c_78.flat = true := rfl
attribute [go_sem] M_78 Fl_78
attribute [go_sem] lk_78_53
theorem Fs_78 {m : Int} {y_ : Bool} (h : spec_l02Mag m = some y_) : c_78.F [.int .i64 m] = ⟨true, .bool y_, [.any]⟩ := by
 refine mkF_E rfl ?_
 dsimp only [spec_l02Mag] at h
 obtain ⟨y_1, z1, h⟩ := bd_some h
 have fz1 := Fs_31 z1
 try simp only [go_sem] at fz1
 obtain rfl := so_some h
 refine ⟨0, fun L hL => ?_⟩
 simp only [go_sem, ir94, fz1]


def ir77_v : List Nat := [0, 2]
def ir77 : AFn := ⟨1, 2, .seq (.region false [ VO 1 2 (.mov (.c (.bool false)))]) (.seq (.region false [ PM 3 0, PO 4 (.nilck (.s 0)), PO 5 (.fldAddr 0 (.s 0)), PO 6 (.load false 1 (.s 0)), PO 7 (.call 93 [(.s 0)]), PO 8 (.mov (.s 0)), ⟨.push, 9, (some ((.s 0), true)), .mov (.v 0)⟩, ⟨.push, 10, (some ((.s 1), true)), .nilck (.s 0)⟩, ⟨.push, 11, (some ((.s 2), true)), .fldAddr 1 (.s 0)⟩, ⟨.push, 12, (some ((.s 3), true)), .load false 1 (.s 0)⟩, ⟨.push, 13, (some ((.s 4), true)), .call 61 [(.s 0)]⟩, PO 14 (.pick (.s 5) (.s 0) (.c (.bool false))), PO 15 (.mov (.s 0)), ⟨.push, 16, (some ((.s 0),
 true)), .mov (.v 0)⟩, ⟨.push, 17, (some ((.s 1), true)), .nilck (.s 0)⟩, ⟨.push, 18, (some ((.s 2), true)), .fldAddr 2 (.s 0)⟩, ⟨.push, 19, (some ((.s 3), true)), .load false 1 (.s 0)⟩, ⟨.push, 20, (some ((.s 4), true)), .call 61 [(.s 0)]⟩, PO 21 (.pick (.s 5) (.s 0) (.c (.bool false))), PO 22 (.mov (.s 0)), ⟨.push, 23, (some ((.s 0), true)), .mov (.v 0)⟩, ⟨.push, 24, (some ((.s 1), true)), .nilck (.s 0)⟩, ⟨.push, 25, (some ((.s 2), true)), .fldAddr 3 (.s 0)⟩, ⟨.push, 26, (some ((.s 3), true)), .load false 1 (.s 0)⟩, ⟨.push, 27, (some ((.s 4), true)), .call 94 [(.s 0)]⟩, PO 28 (.pick (.s 5)
 (.s 0) (.c (.bool false))), VS 1 2 0]) (.ret)), [.t 1]⟩
noncomputable def t_79 : List (Nat × Ctr) := [(93, c_77), (61, c_30), (94, c_78)]
theorem lk_79_93 : look t_79 93 = some c_77 := rfl
theorem lk_79_61 : look t_79 61 = some c_30 := rfl
theorem lk_79_94 : look t_79 94 = some c_78 := rfl
noncomputable def c_79 : Ctr := mkF t_79 ir77 [.bor]
theorem s_79 : Sound Tryz.prog 77 c_79 := mkF_sound _ rfl (snd_cons s_77 (snd_cons s_30 (snd_cons s_78 snd_nil))) (by kernel_rfl : chkFn Tryz.prog 77 ir77 ir77_v = true)
theorem M_79 : c_79.modes = [.bor] := rfl
theorem Fl_79 : c_79.flat = true := rfl
attribute [go_sem] M_79 Fl_79
attribute [go_sem] lk_79_93 lk_79_61 lk_79_94
theorem Fs_79 {e_ : Estimate} {y_ : Bool} (h : spec_l06One e_ = some y_) : c_79.F [.ptr 5 [Estimate_av e_] 0 0] = ⟨true, .bool y_, [.any]⟩ := by
 refine mkF_E rfl ?_
 dsimp only [spec_l06One] at h
 obtain ⟨y_1, z1, h⟩ := bd_some h
 have fz1 := Fs_77 z1
 try simp only [go_sem] at fz1
 obtain ⟨z2, h⟩ := ck_some h
 rcases or_split z2 with ⟨gz2, z2⟩ | gz2
 ·try simp only [go_sem, n1, n2, n3, n4] at gz2
  all_goals
  obtain ⟨y_2, hz2⟩ := Option.isSome_iff_exists.1 z2
  have fz2 := Fs_30 hz2
  try simp only [go_sem, n1, n2, n3, n4, gz2] at hz2
  all_goals
  try simp only [go_sem, gz2] at fz2
  obtain ⟨z3, h⟩ := ck_some h
  rcases or_split z3 with ⟨gz3, z3⟩ | gz3
  ·try simp only [go_sem, n1, n2, n3, n4, gz2, hz2] at gz3
   all_goals
   obtain ⟨y_3, hz3⟩ := Option.isSome_iff_exists.1 z3
   have fz3 := Fs_30 hz3
   try simp only [go_sem, n1, n2, n3, n4, gz2, hz2, gz3] at hz3
   all_goals
   try simp only [go_sem, gz2, hz2, gz3] at fz3
   obtain ⟨z4, h⟩ := ck_some h
   rcases or_split z4 with ⟨gz4, z4⟩ | gz4
   ·try simp only [go_sem, n1, n2, n3, n4, gz2, hz2, gz3, hz3] at gz4
    all_goals
    obtain ⟨y_4, hz4⟩ := Option.isSome_iff_exists.1 z4
    have fz4 := Fs_78 hz4
    try simp only [go_sem, n1, n2, n3, n4, gz2, hz2, gz3, hz3, gz4] at hz4
    all_goals
    try simp only [go_sem, gz2, hz2, gz3, hz3, gz4] at fz4
    obtain rfl := so_some h
    refine ⟨0, fun L hL => ?_⟩
    simp only [go_sem, ir77, fz1, gz2, hz2, fz2, gz3, hz3, fz3, gz4, hz4, fz4]
   ·rcases and_f gz4 with gz4a | ⟨gz4a, gz4b⟩
    ·try simp only [go_sem, n1, n2, n3, n4, gz2, hz2, gz3, hz3] at gz4a
     all_goals
     (simp_all)
    ·obtain ⟨gz4aa, gz4ab⟩ := and_t gz4a
     try simp only [go_sem, n1, n2, n3, n4, gz2, hz2, gz3, hz3] at gz4aa
     all_goals
     try simp only [go_sem, n1, n2, n3, n4, gz2, hz2, gz3, hz3, gz4aa] at gz4ab
     all_goals
     try simp only [go_sem, n1, n2, n3, n4, gz2, hz2, gz3, hz3, gz4aa, gz4ab] at gz4b
     all_goals
     obtain rfl := so_some h
     refine ⟨0, fun L hL => ?_⟩
     simp only [go_sem, ir77, fz1, gz2, hz2, fz2, gz3, hz3, fz3, gz4aa, gz4ab, gz4b]
  ·rcases and_f gz3 with gz3a | ⟨gz3a, gz3b⟩
   ·try simp only [go_sem, n1, n2, n3, n4, gz2, hz2] at gz3a
    all_goals
    (simp_all)
   ·try simp only [go_sem, n1, n2, n3, n4, gz2, hz2] at gz3a
    all_goals
    try simp only [go_sem, n1, n2, n3, n4, gz2, hz2, gz3a] at gz3b
    all_goals
    obtain ⟨z4, h⟩ := ck_some h
    obtain rfl := so_some h
    refine ⟨0, fun L hL => ?_⟩
    simp only [go_sem, ir77, fz1, gz2, hz2, fz2, gz3a, gz3b]
 ·try simp only [go_sem, n1, n2, n3, n4] at gz2
  all_goals
  obtain ⟨z3, h⟩ := ck_some h
  obtain ⟨z4, h⟩ := ck_some h
  obtain rfl := so_some h
  refine ⟨0, fun L hL => ?_⟩
  simp only [go_sem, ir77, fz1, gz2]


end Go.Proofs.YtdcmnpiafeigaaaGreatDoor
