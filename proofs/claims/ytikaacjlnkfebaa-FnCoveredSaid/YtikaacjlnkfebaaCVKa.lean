/- Codes and contracts of the functions that CV reaches, and that their typed forms say what they do. No condition. -/
import Derived.Test.YtikaacjlnkfebaaCVT
import Derived.Test.YtikaacjlnkfebaaEngColWindow
import Derived.Test.YtikaacjlnkfebaaRows
import Derived.WalkKit
namespace Go.Proofs.Ytikaacjlnkfebaa
open Go Go.RowKit
set_option linter.unusedVariables false
set_option linter.unusedSimpArgs false
set_option maxRecDepth 10000

def ir6_v : List Nat := [0, 2]
def ir6 : AFn := ⟨1, 2, .seq (.region false [ VO 1 2 (.mov (.c (.bool false)))]) (.seq (.region false [ PM 3 0, PO 4 (.len false (.s 0)), PO 5 (.bin false .gtr (.s 0) (I6 4096)), VS 1 2 0]) (.ret)), [.t 1]⟩
noncomputable def t_0 : List (Nat × Ctr) := []
noncomputable def c_0 : Ctr := mkF t_0 ir6 [.bor]
theorem s_0 : Sound Try.prog 6 c_0 := mkF_sound _ rfl snd_nil (by kernel_rfl : chkFn Try.prog 6 ir6 ir6_v = true)
theorem M_0 : c_0.modes = [.bor] := rfl
theorem Fl_0 : c_0.flat = true := rfl
attribute [go_sem] M_0 Fl_0
theorem Fs_0 {code : List UInt8} {y_ : Bool} (h : laws_f6big code = some y_) : c_0.F [.sl 1 (List.map byteAV code)] = ⟨true, .bool y_, [.any]⟩ := by
 refine mkF_E rfl ?_
 dsimp only [laws_f6big] at h
 obtain rfl := so_some h
 refine ⟨0, fun L hL => ?_⟩
 simp only [go_sem, ir6]


def ir41_v : List Nat := [0, 1, 4]
def ir41 : AFn := ⟨2, 3, .seq (.region false [ VO 2 4 (.mov (I6 0))]) (.seq (.test false [ PM 5 0, PM 6 1, PO 7 (.bin false .gtr (.s 1) (.s 0))] (.s 0) (.seq (.region false [ PM 8 0, VS 2 4 0]) (.ret)) (.skip)) (.seq (.region false [ PM 9 1, VS 2 4 0]) (.ret))), [.t 2]⟩
noncomputable def t_1 : List (Nat × Ctr) := []
noncomputable def c_1 : Ctr := mkF t_1 ir41 [.bor, .bor]
theorem s_1 : Sound Try.prog 41 c_1 := mkF_sound _ rfl snd_nil (by kernel_rfl : chkFn Try.prog 41 ir41 ir41_v = true)
theorem M_1 : c_1.modes = [.bor, .bor] := rfl
theorem Fl_1 : c_1.flat = true := rfl
attribute [go_sem] M_1 Fl_1
theorem Fs_1 {a : Int} {b : Int} {y_ : Int} (h : spec_l00Max a b = some y_) : c_1.F [.int .i64 a, .int .i64 b] = ⟨true, .int .i64 y_, [.any, .any]⟩ := by
 refine mkF_E rfl ?_
 dsimp only [spec_l00Max] at h
 rcases it_some h with ⟨z1, h⟩ | ⟨z1, h⟩
 ·try simp only [go_sem, n1, n2, n3, n4] at z1
  all_goals
  obtain rfl := so_some h
  refine ⟨0, fun L hL => ?_⟩
  simp only [go_sem, ir41, z1]
 ·try simp only [go_sem, n1, n2, n3, n4] at z1
  all_goals
  obtain rfl := so_some h
  refine ⟨0, fun L hL => ?_⟩
  simp only [go_sem, ir41, z1]


def ir39_v : List Nat := [0, 2]
def ir39 : AFn := ⟨1, 2, .seq (.region false [ VO 1 2 (.mov (.c (.cv (.pointer none))))]) (.seq (.region false [ PM 3 0, PO 4 (.build [.sl 1 [], .int .i64 (0), .int .u64 (0)] [(0, 1, (.s 0))]), PO 5 (.box (.s 0)), VS 1 2 0]) (.ret)), [.t 1]⟩
noncomputable def t_2 : List (Nat × Ctr) := []
noncomputable def c_2 : Ctr := mkN t_2 ir39 [.bor]
theorem s_2 : Sound Try.prog 39 c_2 := mkN_sound _ snd_nil (by kernel_rfl : chkFn Try.prog 39 ir39 ir39_v = true)
theorem M_2 : c_2.modes = [.bor] := rfl
theorem Fl_2 : c_2.flat = false := rfl
attribute [go_sem] M_2 Fl_2
theorem Fs_2 {code : List UInt8} {y_ : L00Src} (h : spec_l00From code = some y_) : c_2.F [.sl 1 (List.map byteAV code)] = ⟨true, .mem 3 [L00Src_av y_] 0, [.any]⟩ := by
 refine mkN_E ?_
 dsimp only [spec_l00From] at h
 obtain rfl := so_some h
 refine ⟨0, fun L hL => ?_⟩
 simp only [go_sem, ir39]


def ir119_v : List Nat := [0, 2, 3]
def ir119 : AFn := ⟨1, 3, .seq (.region false [ VO 1 2 (.mov (I6 0))]) (.seq (.region false [ VO 2 3 (.mov (I6 0))]) (.seq (.anyo 10 [ SO 0 4 (.mov (.v 0)), SO 1 5 (.nilck (.s 0)), SO 2 6 (.fldAddr 1 (.s 1)), SO 3 7 (.load false 1 (.s 2)), SO 4 8 (.mov (.v 0)), SO 5 9 (.nilck (.s 4)), SO 6 10 (.fldAddr 0 (.s 5)), SO 7 11 (.load false 1 (.s 6)), SO 8 12 (.len false (.s 7)), SO 9 13 (.bin false .lss (.s 3) (.s 8))] [] (.cond (.s 9) (.anyo 11 [ SO 0 14 (.mov (.v 0)), SO 1 15 (.nilck (.s 0)), SO 2 16 (.fldAddr 0 (.s 1)), SO 3 17 (.load false 1 (.s 2)), SO 4 18 (.mov (.v 0)), SO 5 19 (.nilck (.s
 4)), SO 6 20 (.fldAddr 1 (.s 5)), SO 7 21 (.load false 1 (.s 6)), SO 8 22 (.ixAddr 1 (.s 3) (.s 7)), SO 9 23 (.load false 1 (.s 8)), SO 10 24 (.conv .i64 (.s 9)), VS 2 3 10] [] .skip) (.skip))) (.seq (.region false [ PM 25 0, PO 26 (.nilck (.s 0)), PO 27 (.fldAddr 1 (.s 0)), PO 28 (.load false 1 (.s 0)), PO 29 (.bin false .add (.s 0) (I6 1)), PO 30 (.nilck (.s 4)), PO 31 (.fldAddr 1 (.s 0)), ⟨.no, 0, none, .store 1 (.s 0) (.s 2)⟩]) (.seq (.region false [ PM 32 0, PM 33 0, PO 34 (.nilck (.s 0)), PO 35 (.fldAddr 2 (.s 0)), PO 36 (.load false 1 (.s 0)), PO 37 (.bin false .mul (.s 0) (.c (.int
 .u64 (6364136223846793005)))), PM 38 2, PO 39 (.conv .u64 (.s 0)), PO 40 (.bin false .add (.s 2) (.s 0)), PO 41 (.bin false .add (.s 0) (.c (.int .u64 (1442695040888963407)))), PO 42 (.nilck (.s 9)), PO 43 (.fldAddr 2 (.s 0)), ⟨.no, 0, none, .store 1 (.s 0) (.s 2)⟩]) (.seq (.anyo 10 [ SO 0 44 (.mov (.v 0)), SO 1 45 (.nilck (.s 0)), SO 2 46 (.fldAddr 1 (.s 1)), SO 3 47 (.load false 1 (.s 2)), SO 4 48 (.mov (.v 0)), SO 5 49 (.nilck (.s 4)), SO 6 50 (.fldAddr 0 (.s 5)), SO 7 51 (.load false 1 (.s 6)), SO 8 52 (.len false (.s 7)), SO 9 53 (.bin false .leq (.s 3) (.s 8))] [] (.cond (.s 9) (.seq
 (.region false [ PM 54 2, VS 1 2 0]) (.ret)) (.skip))) (.seq (.region false [ PM 55 0, PO 56 (.nilck (.s 0)), PO 57 (.fldAddr 2 (.s 0)), PO 58 (.load false 1 (.s 0)), PO 59 (.bin false .shr (.s 0) (.c (.int .u64 (40)))), PO 60 (.bin false .and (.s 0) (.c (.int .u64 (255)))), PO 61 (.conv .i64 (.s 0)), VS 1 2 0]) (.ret))))))), [.t 1]⟩
noncomputable def t_3 : List (Nat × Ctr) := []
noncomputable def c_3 : Ctr := mkN t_3 ir119 [.io]
theorem s_3 : Sound Try.prog 119 c_3 := mkN_sound _ snd_nil (by kernel_rfl : chkFn Try.prog 119 ir119 ir119_v = true)
theorem M_3 : c_3.modes = [.io] := rfl
theorem Fl_3 : c_3.flat = false := rfl
attribute [go_sem] M_3 Fl_3
theorem Fs_3 {s_ : L00Src} {y_ : Int × L00Src} (h : spec_l00Src_next s_ = some y_) : c_3.F [.mem 3 [L00Src_av s_] 0] = ⟨true, .int .i64 y_.1, [.mem 3 [L00Src_av y_.2] 0]⟩ := by
 refine mkN_E ?_
 dsimp only [spec_l00Src_next] at h
 rcases it_some h with ⟨z1, h⟩ | ⟨z1, h⟩
 ·try simp only [go_sem, n1, n2, n3, n4] at z1
  all_goals
  obtain ⟨z2, h⟩ := ck_some h
  have lz2 := ix_lt z2
  have xz2 := getD_mapD byteAV s_.code_ lz2
  try simp only [go_sem] at lz2
  try simp only [go_sem] at xz2
  try simp only [go_sem, n1, n2, n3, n4, z1] at z2
  all_goals
  rcases it_some h with ⟨z3, h⟩ | ⟨z3, h⟩
  ·try simp only [go_sem, n1, n2, n3, n4, z1, z2] at z3
   all_goals
   obtain rfl := so_some h
   refine ⟨0, fun L hL => ?_⟩
   simp only [go_sem, ir119, z1, z2, lz2, xz2, z3]
  ·try simp only [go_sem, n1, n2, n3, n4, z1, z2] at z3
   all_goals
   obtain ⟨z4, h⟩ := ck_some h
   try simp only [go_sem, n1, n2, n3, n4, z1, z2, z3] at z4
   all_goals
   obtain rfl := so_some h
   refine ⟨0, fun L hL => ?_⟩
   simp only [go_sem, ir119, z1, z2, lz2, xz2, z3, z4]
 ·try simp only [go_sem, n1, n2, n3, n4] at z1
  all_goals
  rcases it_some h with ⟨z5, h⟩ | ⟨z5, h⟩
  ·try simp only [go_sem, n1, n2, n3, n4, z1] at z5
   all_goals
   obtain rfl := so_some h
   refine ⟨0, fun L hL => ?_⟩
   simp only [go_sem, ir119, z1, z5]
  ·try simp only [go_sem, n1, n2, n3, n4, z1] at z5
   all_goals
   obtain ⟨z6, h⟩ := ck_some h
   try simp only [go_sem, n1, n2, n3, n4, z1, z5] at z6
   all_goals
   obtain rfl := so_some h
   refine ⟨0, fun L hL => ?_⟩
   simp only [go_sem, ir119, z1, z5, z6]


def ir82_v : List Nat := [0, 1, 4, 5]
def ir82 : AFn := ⟨2, 4, .seq (.region false [ VO 2 4 (.mov (I6 0))]) (.seq (.test false [ PM 6 1, PO 7 (.bin false .leq (.s 0) (I6 1))] (.s 0) (.seq (.region false [ VO 2 4 (.mov (I6 0))]) (.ret)) (.skip)) (.seq (.region false [ PM 8 0, PO 9 (.call 119 [(.s 0)]), VS 3 5 0]) (.seq (.test false [ PM 10 1, PO 11 (.bin false .gtr (.s 0) (I6 200))] (.s 0) (.region false [ PM 12 3, PO 13 (.bin false .mul (.s 0) (I6 256)), PM 14 0, PO 15 (.call 119 [(.s 0)]), PO 16 (.bin false .add (.s 2) (.s 0)), VS 3 5 0]) (.skip)) (.seq (.region false [ PM 17 3, PM 18 1, PO 19 (.bin false .rem (.s 1) (.s 0)), VS 2
 4 0]) (.ret))))), [.t 2]⟩
noncomputable def t_4 : List (Nat × Ctr) := [(119, c_3)]
theorem lk_4_119 : look t_4 119 = some c_3 := rfl
noncomputable def c_4 : Ctr := mkN t_4 ir82 [.io, .bor]
theorem s_4 : Sound Try.prog 82 c_4 := mkN_sound _ (snd_cons s_3 snd_nil) (by kernel_rfl : chkFn Try.prog 82 ir82 ir82_v = true)
theorem M_4 : c_4.modes = [.io, .bor] := rfl
theorem Fl_4 : c_4.flat = false := rfl
attribute [go_sem] M_4 Fl_4
attribute [go_sem] lk_4_119
theorem Fs_4 {s_ : L00Src} {n : Int} {y_ : Int × L00Src} (h : spec_l00Src_pick s_ n = some y_) : c_4.F [.mem 3 [L00Src_av s_] 0, .int .i64 n] = ⟨true, .int .i64 y_.1, [.mem 3 [L00Src_av y_.2] 0, .any]⟩ := by
 refine mkN_E ?_
 dsimp only [spec_l00Src_pick] at h
 rcases it_some h with ⟨z1, h⟩ | ⟨z1, h⟩
 ·try simp only [go_sem, n1, n2, n3, n4] at z1
  all_goals
  obtain rfl := so_some h
  refine ⟨0, fun L hL => ?_⟩
  simp only [go_sem, ir82, z1]
 ·try simp only [go_sem, n1, n2, n3, n4] at z1
  all_goals
  obtain ⟨y_2, z2, h⟩ := bd_some h
  have fz2 := Fs_3 z2
  try simp only [go_sem, z1] at fz2
  rcases it_some h with ⟨z3, h⟩ | ⟨z3, h⟩
  ·try simp only [go_sem, n1, n2, n3, n4, z1] at z3
   all_goals
   obtain ⟨y_4, z4, h⟩ := bd_some h
   have fz4 := Fs_3 z4
   try simp only [go_sem, z1, z3] at fz4
   obtain ⟨z5, h⟩ := ck_some h
   try simp only [go_sem, n1, n2, n3, n4, z1, z3] at z5
   all_goals
   obtain rfl := so_some h
   refine ⟨0, fun L hL => ?_⟩
   simp only [go_sem, ir82, z1, fz2, z3, fz4, z5]
  ·try simp only [go_sem, n1, n2, n3, n4, z1] at z3
   all_goals
   obtain ⟨z6, h⟩ := ck_some h
   try simp only [go_sem, n1, n2, n3, n4, z1, z3] at z6
   all_goals
   obtain rfl := so_some h
   refine ⟨0, fun L hL => ?_⟩
   simp only [go_sem, ir82, z1, fz2, z3, z6]


def ir40_v : List Nat := [0, 1, 4]
def ir40 : AFn := ⟨2, 3, .seq (.region false [ VO 2 4 (.mov (.c (.bool false)))]) (.seq (.region false [ PM 5 0, PM 6 1, PO 7 (.call 82 [(.s 1), (.s 0)]), PO 8 (.bin false .eql (.s 0) (I6 0)), VS 2 4 0]) (.ret)), [.t 2]⟩
noncomputable def t_5 : List (Nat × Ctr) := [(82, c_4)]
theorem lk_5_82 : look t_5 82 = some c_4 := rfl
noncomputable def c_5 : Ctr := mkN t_5 ir40 [.io, .bor]
theorem s_5 : Sound Try.prog 40 c_5 := mkN_sound _ (snd_cons s_4 snd_nil) (by kernel_rfl : chkFn Try.prog 40 ir40 ir40_v = true)
theorem M_5 : c_5.modes = [.io, .bor] := rfl
theorem Fl_5 : c_5.flat = false := rfl
attribute [go_sem] M_5 Fl_5
attribute [go_sem] lk_5_82
theorem Fs_5 {s_ : L00Src} {n : Int} {y_ : Bool × L00Src} (h : spec_l00Src_one s_ n = some y_) : c_5.F [.mem 3 [L00Src_av s_] 0, .int .i64 n] = ⟨true, .bool y_.1, [.mem 3 [L00Src_av y_.2] 0, .any]⟩ := by
 refine mkN_E ?_
 dsimp only [spec_l00Src_one] at h
 obtain ⟨y_1, z1, h⟩ := bd_some h
 have fz1 := Fs_4 z1
 try simp only [go_sem] at fz1
 obtain rfl := so_some h
 refine ⟨0, fun L hL => ?_⟩
 simp only [go_sem, ir40, fz1]


def ir117_v : List Nat := [0, 1, 4, 5]
def ir117 : AFn := ⟨2, 4, .seq (.region false [ VO 2 4 (.alloc (.agg [.str [], .int .i64 (0), .int .i64 (0), .int .i64 (0), .int .i64 (0)]))]) (.seq (.region false [ PM 6 1, PM 7 0, PO 8 (.call 82 [(.s 0), (I6 60)]), PO 9 (.bin false .mul (I6 10) (.s 0)), PO 10 (.build [.str [], .int .i64 (0), .int .i64 (0), .int .i64 (0), .int .i64 (0)] [(0, 1, (.s 3)), (1, 1, (.s 0))]), VO 3 5 (.alloc (.agg [.str [], .int .i64 (0), .int .i64 (0), .int .i64 (0), .int .i64 (0)])), ⟨.no, 0, none, .store 5 (.v 3) (.s 0)⟩]) (.seq (.anyo 10 [ SO 0 11 (.fldAddr 1 (.v 3)), SO 1 12 (.load false 1 (.s 0)), SO 2 13
 (.mov (.v 0)), SO 3 14 (.call 82 [(.s 2), (I6 30)]), SO 4 15 (.flat (.bin false .mul (I6 10) (.s 3))), SO 5 16 (.flat (.bin false .add (.s 1) (.s 4))), SO 6 17 (.mov (.v 0)), SO 7 18 (.call 82 [(.s 6), (I6 3)]), SO 8 19 (.flat (.bin false .add (.s 5) (.s 7))), SO 9 20 (.fldAddr 2 (.v 3)), ⟨.no, 0, none, .store 1 (.s 9) (.s 8)⟩] [[2, 0, 1, 3, 4, 5, 6, 7, 8, 9, 10], [2, 0, 1, 6, 3, 4, 5, 7, 8, 9, 10], [2, 0, 3, 4, 6, 1, 5, 7, 8, 9, 10], [2, 0, 3, 4, 6, 7, 1, 5, 8, 9, 10], [2, 0, 6, 1, 3, 4, 5, 7, 8, 9, 10], [2, 0, 6, 3, 4, 1, 5, 7, 8, 9, 10], [2, 0, 6, 3, 4, 7, 1, 5, 8, 9, 10], [2, 3, 4, 6, 0,
 1, 5, 7, 8, 9, 10], [2, 3, 4, 6, 0, 7, 1, 5, 8, 9, 10], [2, 3, 4, 6, 7, 0, 1, 5, 8, 9, 10], [2, 6, 0, 1, 3, 4, 5, 7, 8, 9, 10], [2, 6, 0, 3, 4, 1, 5, 7, 8, 9, 10], [2, 6, 0, 3, 4, 7, 1, 5, 8, 9, 10], [2, 6, 3, 4, 0, 1, 5, 7, 8, 9, 10], [2, 6, 3, 4, 0, 7, 1, 5, 8, 9, 10], [2, 6, 3, 4, 7, 0, 1, 5, 8, 9, 10]] .skip) (.seq (.region false [ PM 21 0, PO 22 (.call 82 [(.s 0), (I6 200)]), PO 23 (.bin false .add (I6 1) (.s 0)), PO 24 (.fldAddr 3 (.v 3)), ⟨.no, 0, none, .store 1 (.s 0) (.s 1)⟩]) (.seq (.region false [ PM 25 0, PO 26 (.call 82 [(.s 0), (I6 4)]), PO 27 (.fldAddr 4 (.v 3)), ⟨.no, 0, none,
 .store 1 (.s 0) (.s 1)⟩]) (.seq (.region false [ PO 28 (.load true 5 (.v 3)), ⟨.no, 0, none, .store 5 (.v 2) (.s 0)⟩]) (.ret)))))), [.cell true 5 2]⟩
noncomputable def t_6 : List (Nat × Ctr) := [(82, c_4)]
theorem lk_6_82 : look t_6 82 = some c_4 := rfl
noncomputable def c_6 : Ctr := mkN t_6 ir117 [.io, .bor]
theorem s_6 : Sound Try.prog 117 c_6 := mkN_sound _ (snd_cons s_4 snd_nil) (by kernel_rfl : chkFn Try.prog 117 ir117 ir117_v = true)
theorem M_6 : c_6.modes = [.io, .bor] := rfl
theorem Fl_6 : c_6.flat = false := rfl
attribute [go_sem] M_6 Fl_6
attribute [go_sem] lk_6_82
theorem Fs_6 {s_ : L00Src} {name : List UInt8} {y_ : Volume × L00Src} (h : spec_l23New s_ name = some y_) : c_6.F [.mem 3 [L00Src_av s_] 0, .str name] = ⟨true, Volume_av y_.1, [.mem 3 [L00Src_av y_.2] 0, .any]⟩ := by
 refine mkN_E ?_
 dsimp only [spec_l23New] at h
 obtain ⟨y_1, z1, h⟩ := bd_some h
 have fz1 := Fs_4 z1
 try simp only [go_sem] at fz1
 obtain ⟨y_2, z2, h⟩ := bd_some h
 have fz2 := Fs_4 z2
 try simp only [go_sem] at fz2
 obtain ⟨y_3, z3, h⟩ := bd_some h
 have fz3 := Fs_4 z3
 try simp only [go_sem] at fz3
 obtain ⟨y_4, z4, h⟩ := bd_some h
 have fz4 := Fs_4 z4
 try simp only [go_sem] at fz4
 obtain ⟨y_5, z5, h⟩ := bd_some h
 have fz5 := Fs_4 z5
 try simp only [go_sem] at fz5
 obtain rfl := so_some h
 refine ⟨0, fun L hL => ?_⟩
 simp only [go_sem, ir117, fz1, fz2, fz3, fz4, fz5]


def ir83_v : List Nat := [0, 1, 4]
def ir83 : AFn := ⟨2, 3, .seq (.region false [ VO 2 4 (.mov (I6 0))]) (.seq (.region false [ PM 5 1, PM 6 0, PM 7 1, PO 8 (.len false (.s 0)), PO 9 (.call 82 [(.s 2), (.s 0)]), PO 10 (.ixAddr 1 (.s 4) (.s 0)), PO 11 (.load false 1 (.s 0)), VS 2 4 0]) (.ret)), [.t 2]⟩
noncomputable def t_7 : List (Nat × Ctr) := [(82, c_4)]
theorem lk_7_82 : look t_7 82 = some c_4 := rfl
noncomputable def c_7 : Ctr := mkN t_7 ir83 [.io, .bor]
theorem s_7 : Sound Try.prog 83 c_7 := mkN_sound _ (snd_cons s_4 snd_nil) (by kernel_rfl : chkFn Try.prog 83 ir83 ir83_v = true)
theorem M_7 : c_7.modes = [.io, .bor] := rfl
theorem Fl_7 : c_7.flat = false := rfl
attribute [go_sem] M_7 Fl_7
attribute [go_sem] lk_7_82
theorem Fs_7 {s_ : L00Src} {list : List Int} {y_ : Int × L00Src} (h : spec_l00Src_among s_ list = some y_) : c_7.F [.mem 3 [L00Src_av s_] 0, .sl 1 (List.map (AV.int .i64) list)] = ⟨true, .int .i64 y_.1, [.mem 3 [L00Src_av y_.2] 0, .any]⟩ := by
 refine mkN_E ?_
 dsimp only [spec_l00Src_among] at h
 obtain ⟨y_1, z1, h⟩ := bd_some h
 have fz1 := Fs_4 z1
 try simp only [go_sem] at fz1
 obtain ⟨z2, h⟩ := ck_some h
 have lz2 := ix_lt z2
 have xz2 := getD_mapD (AV.int .i64) list lz2
 try simp only [go_sem] at lz2
 try simp only [go_sem] at xz2
 try simp only [go_sem, n1, n2, n3, n4] at z2
 all_goals
 obtain rfl := so_some h
 refine ⟨0, fun L hL => ?_⟩
 simp only [go_sem, ir83, fz1, z2, lz2, xz2]


def ir137_v : List Nat := [0, 1, 4]
def ir137 : AFn := ⟨2, 3, .seq (.region false [ VO 2 4 (.mov (.c (.str [])))]) (.seq (.region false [ PM 5 1, PM 6 0, PM 7 1, PO 8 (.len false (.s 0)), PO 9 (.call 82 [(.s 2), (.s 0)]), PO 10 (.ixAddr 1 (.s 4) (.s 0)), PO 11 (.load false 1 (.s 0)), VS 2 4 0]) (.ret)), [.t 2]⟩
noncomputable def t_8 : List (Nat × Ctr) := [(82, c_4)]
theorem lk_8_82 : look t_8 82 = some c_4 := rfl
noncomputable def c_8 : Ctr := mkN t_8 ir137 [.io, .bor]
theorem s_8 : Sound Try.prog 137 c_8 := mkN_sound _ (snd_cons s_4 snd_nil) (by kernel_rfl : chkFn Try.prog 137 ir137 ir137_v = true)
theorem M_8 : c_8.modes = [.io, .bor] := rfl
theorem Fl_8 : c_8.flat = false := rfl
attribute [go_sem] M_8 Fl_8
attribute [go_sem] lk_8_82
theorem Fs_8 {s_ : L00Src} {list : List (List UInt8)} {y_ : (List UInt8) × L00Src} (h : spec_l00Src_text s_ list = some y_) : c_8.F [.mem 3 [L00Src_av s_] 0, .sl 1 (List.map AV.str list)] = ⟨true, .str y_.1, [.mem 3 [L00Src_av y_.2] 0, .any]⟩ := by
 refine mkN_E ?_
 dsimp only [spec_l00Src_text] at h
 obtain ⟨y_1, z1, h⟩ := bd_some h
 have fz1 := Fs_4 z1
 try simp only [go_sem] at fz1
 obtain ⟨z2, h⟩ := ck_some h
 have lz2 := ix_lt z2
 have xz2 := getD_mapD AV.str list lz2
 try simp only [go_sem] at lz2
 try simp only [go_sem] at xz2
 try simp only [go_sem, n1, n2, n3, n4] at z2
 all_goals
 obtain rfl := so_some h
 refine ⟨0, fun L hL => ?_⟩
 simp only [go_sem, ir137, fz1, z2, lz2, xz2]


def ir118_v : List Nat := [0, 1, 5]
def ir118 : AFn := ⟨2, 3, .seq (.region false [ PM 4 0, VO 2 5 (.call 82 [(.s 0), (I6 5)])]) (.block 0 (.test false [ PO 7 (.bin false .eql (.v 2) (I6 0)), PO 6 (.mov (.s 0))] (.s 0) (.region false [ PM 8 1, PM 9 0, PO 10 (.mkSl 1 (.str []) 3 [(0, (.c (.str []))), (1, (.c (.str [65]))), (2, (.c (.str [122, 122])))]), PO 11 (.call 137 [(.s 1), (.s 0)]), PO 12 (.nilck (.s 3)), PO 13 (.fldAddr 0 (.s 0)), ⟨.no, 0, none, .store 1 (.s 0) (.s 2)⟩]) (.test false [ PO 15 (.bin false .eql (.v 2) (I6 1)), PO 14 (.mov (.s 0))] (.s 0) (.anyo 15 [ SO 0 16 (.mov (.v 1)), SO 1 17 (.mov (.v 0)), SO 2 18 (.mov
 (.v 1)), SO 3 19 (.nilck (.s 2)), SO 4 20 (.fldAddr 2 (.s 3)), SO 5 21 (.load false 1 (.s 4)), SO 6 22 (.mov (.v 1)), SO 7 23 (.nilck (.s 6)), SO 8 24 (.fldAddr 2 (.s 7)), SO 9 25 (.load false 1 (.s 8)), SO 10 26 (.bin false .add (.s 9) (I6 1)), SO 11 27 (.pur (.mkSl 1 (.int .i64 (0)) 4 [(0, (.c (.int .i64 (-1)))), (1, (I6 0)), (2, (.s 5)), (3, (.s 10))])), SO 12 28 (.call 83 [(.s 1), (.s 11)]), SO 13 29 (.nilck (.s 0)), SO 14 30 (.fldAddr 1 (.s 13)), ⟨.no, 0, none, .store 1 (.s 14) (.s 12)⟩] [[1, 2, 3, 4, 5, 6, 7, 8, 9, 10, 11, 0, 12, 13, 14, 15], [1, 2, 3, 4, 5, 6, 7, 8, 9, 10, 11, 12, 0,
 13, 14, 15]] .skip) (.test false [ PO 32 (.bin false .eql (.v 2) (I6 2)), PO 31 (.mov (.s 0))] (.s 0) (.region false [ PM 33 1, PM 34 0, PO 35 (.mkSl 1 (.int .i64 (0)) 3 [(0, (.c (.int .i64 (-1)))), (1, (I6 10000000)), (2, (I6 10000001))]), PO 36 (.call 83 [(.s 1), (.s 0)]), PO 37 (.nilck (.s 3)), PO 38 (.fldAddr 2 (.s 0)), ⟨.no, 0, none, .store 1 (.s 0) (.s 2)⟩]) (.test false [ PO 40 (.bin false .eql (.v 2) (I6 3)), PO 39 (.mov (.s 0))] (.s 0) (.region false [ PM 41 1, PM 42 0, PO 43 (.mkSl 1 (.int .i64 (0)) 5 [(0, (I6 0)), (1, (I6 1)), (2, (I6 1000000)), (3, (I6 1000001)), (4, (.c (.int .i64
 (-9223372036854775808))))]), PO 44 (.call 83 [(.s 1), (.s 0)]), PO 45 (.nilck (.s 3)), PO 46 (.fldAddr 3 (.s 0)), ⟨.no, 0, none, .store 1 (.s 0) (.s 2)⟩]) (.test false [ PO 48 (.bin false .eql (.v 2) (I6 4)), PO 47 (.mov (.s 0))] (.s 0) (.region false [ PM 49 1, PM 50 0, PO 51 (.mkSl 1 (.int .i64 (0)) 4 [(0, (.c (.int .i64 (-1)))), (1, (I6 0)), (2, (I6 5)), (3, (I6 6))]), PO 52 (.call 83 [(.s 1), (.s 0)]), PO 53 (.nilck (.s 3)), PO 54 (.fldAddr 4 (.s 0)), ⟨.no, 0, none, .store 1 (.s 0) (.s 2)⟩]) (.skip))))))), []⟩
noncomputable def t_9 : List (Nat × Ctr) := [(82, c_4), (137, c_8), (83, c_7)]
theorem lk_9_82 : look t_9 82 = some c_4 := rfl
theorem lk_9_137 : look t_9 137 = some c_8 := rfl
theorem lk_9_83 : look t_9 83 = some c_7 := rfl
noncomputable def c_9 : Ctr := mkN t_9 ir118 [.io, .io]
theorem s_9 : Sound Try.prog 118 c_9 := mkN_sound _ (snd_cons s_4 (snd_cons s_8 (snd_cons s_7 snd_nil))) (by kernel_rfl : chkFn Try.prog 118 ir118 ir118_v = true)
theorem M_9 : c_9.modes = [.io, .io] := rfl
theorem Fl_9 : c_9.flat = false := rfl
attribute [go_sem] M_9 Fl_9
attribute [go_sem] lk_9_82 lk_9_137 lk_9_83
theorem Fs_9 {s_ : L00Src} {x : List Volume} {x_ix : Int} {y_ : L00Src × (List Volume)} (h : spec_l23Spoil_ix1 s_ x x_ix = some y_) : c_9.F [.mem 3 [L00Src_av s_] 0, .mem 5 (List.map Volume_av x) x_ix.toNat] = ⟨true, .cv undef, [.mem 3 [L00Src_av y_.1] 0, .mem 5 (List.map Volume_av y_.2) 0]⟩ := by
 refine mkN_E ?_
 dsimp only [spec_l23Spoil_ix1] at h
 obtain ⟨z1, h⟩ := ck_some h
 have lz1 := ix_lt z1
 have xz1 := getD_mapD Volume_av x lz1
 try simp only [go_sem] at lz1
 try simp only [go_sem] at xz1
 try simp only [go_sem, n1, n2, n3, n4] at z1
 all_goals
 obtain ⟨y_2, z2, h⟩ := bd_some h
 have fz2 := Fs_4 z2
 try simp only [go_sem, z1] at fz2
 rcases it_some h with ⟨z3, h⟩ | ⟨z3, h⟩
 ·try simp only [go_sem, n1, n2, n3, n4, z1] at z3
  all_goals
  obtain ⟨y_4, z4, h⟩ := bd_some h
  have fz4 := Fs_8 z4
  try simp only [go_sem, z1, z3] at fz4
  obtain ⟨z5, h⟩ := ck_some h
  try simp only [go_sem, n1, n2, n3, n4, z1, z3] at z5
  all_goals
  obtain rfl := so_some h
  refine ⟨0, fun L hL => ?_⟩
  simp only [go_sem, ir118, z1, lz1, xz1, fz2, z3, fz4, z5]
 ·try simp only [go_sem, n1, n2, n3, n4, z1] at z3
  all_goals
  rcases it_some h with ⟨z6, h⟩ | ⟨z6, h⟩
  ·try simp only [go_sem, n1, n2, n3, n4, z1, z3] at z6
   all_goals
   obtain ⟨y_7, z7, h⟩ := bd_some h
   have fz7 := Fs_7 z7
   try simp only [go_sem, z1, z3, z6] at fz7
   obtain ⟨z8, h⟩ := ck_some h
   try simp only [go_sem, n1, n2, n3, n4, z1, z3, z6] at z8
   all_goals
   obtain rfl := so_some h
   refine ⟨0, fun L hL => ?_⟩
   simp only [go_sem, ir118, z1, lz1, xz1, fz2, z3, z6, fz7, z8]
  ·try simp only [go_sem, n1, n2, n3, n4, z1, z3] at z6
   all_goals
   rcases it_some h with ⟨z9, h⟩ | ⟨z9, h⟩
   ·try simp only [go_sem, n1, n2, n3, n4, z1, z3, z6] at z9
    all_goals
    obtain ⟨y_10, z10, h⟩ := bd_some h
    have fz10 := Fs_7 z10
    try simp only [go_sem, z1, z3, z6, z9] at fz10
    obtain ⟨z11, h⟩ := ck_some h
    try simp only [go_sem, n1, n2, n3, n4, z1, z3, z6, z9] at z11
    all_goals
    obtain rfl := so_some h
    refine ⟨0, fun L hL => ?_⟩
    simp only [go_sem, ir118, z1, lz1, xz1, fz2, z3, z6, z9, fz10, z11]
   ·try simp only [go_sem, n1, n2, n3, n4, z1, z3, z6] at z9
    all_goals
    rcases it_some h with ⟨z12, h⟩ | ⟨z12, h⟩
    ·try simp only [go_sem, n1, n2, n3, n4, z1, z3, z6, z9] at z12
     all_goals
     obtain ⟨y_13, z13, h⟩ := bd_some h
     have fz13 := Fs_7 z13
     try simp only [go_sem, z1, z3, z6, z9, z12] at fz13
     obtain ⟨z14, h⟩ := ck_some h
     try simp only [go_sem, n1, n2, n3, n4, z1, z3, z6, z9, z12] at z14
     all_goals
     obtain rfl := so_some h
     refine ⟨0, fun L hL => ?_⟩
     simp only [go_sem, ir118, z1, lz1, xz1, fz2, z3, z6, z9, z12, fz13, z14]
    ·try simp only [go_sem, n1, n2, n3, n4, z1, z3, z6, z9] at z12
     all_goals
     rcases it_some h with ⟨z15, h⟩ | ⟨z15, h⟩
     ·try simp only [go_sem, n1, n2, n3, n4, z1, z3, z6, z9, z12] at z15
      all_goals
      obtain ⟨y_16, z16, h⟩ := bd_some h
      have fz16 := Fs_7 z16
      try simp only [go_sem, z1, z3, z6, z9, z12, z15] at fz16
      obtain ⟨z17, h⟩ := ck_some h
      try simp only [go_sem, n1, n2, n3, n4, z1, z3, z6, z9, z12, z15] at z17
      all_goals
      obtain rfl := so_some h
      refine ⟨0, fun L hL => ?_⟩
      simp only [go_sem, ir118, z1, lz1, xz1, fz2, z3, z6, z9, z12, z15, fz16, z17]
     ·try simp only [go_sem, n1, n2, n3, n4, z1, z3, z6, z9, z12] at z15
      all_goals
      obtain rfl := so_some h
      refine ⟨0, fun L hL => ?_⟩
      simp only [go_sem, ir118, z1, lz1, xz1, fz2, z3, z6, z9, z12, z15]


def ir81_b0 : IR := .seq (.test false [ PM 10 4, PM 11 2, PO 12 (.len false (.s 0)), PO 13 (.bin false .lss (.s 2) (.s 0))] (.s 0) (.skip) (.exit 0)) (.seq (.block 1 (.test false [ PM 16 0, PO 17 (.call 40 [(.s 0), (I6 3)]), PO 18 (.un .not (.s 0))] (.s 0) (.region false [ PM 19 3, PM 20 0, PM 21 2, PM 22 4, PO 23 (.ixAddr 1 (.s 1) (.s 0)), PO 24 (.load false 1 (.s 0)), PO 25 (.call 117 [(.s 4), (.s 0)]), PO 26 (.mkSl 5 (.agg [.str [], .int .i64 (0), .int .i64 (0), .int .i64 (0), .int .i64 (0)]) 1 [(0, (.s 0))]), PO 27 (.app 5 48 (.agg [.str [], .int .i64 (0), .int .i64 (0), .int .i64 (0), .int
 .i64 (0)]) (.s 7) (.s 0)), VS 3 4 0]) (.skip))) (.region false [ PM 14 4, PO 15 (.bin false .add (.s 0) (I6 1)), VS 4 5 0]))
def ir81_k0 : List Bool := [true, false, true, true, true, false, false]
def ir81_o0 : List Bool := [true, false, false, true, false, false, false]
def ir81_r0 : List Bool := [true, true, false, false, false, false, false]
def ir81_b1 : IR := .seq (.test false [ PM 34 5, PO 35 (.bin false .gtr (.s 0) (I6 0))] (.s 0) (.skip) (.exit 2)) (.seq (.block 3 (.seq (.region false [ PM 38 3, PO 39 (.len false (.s 0)), VS 6 7 0]) (.region false [ PM 40 3, PM 41 6, PO 42 (.bin false .quo (.s 0) (I6 26)), PO 43 (.bin false .add (I6 97) (.s 0)), PO 44 (.conv .u8 (.s 0)), PM 45 6, PO 46 (.bin false .rem (.s 0) (I6 26)), PO 47 (.bin false .add (I6 97) (.s 0)), PO 48 (.conv .u8 (.s 0)), PO 49 (.mkSl 1 (.int .u8 (0)) 2 [(0, (.s 4)), (1, (.s 0))]), PO 50 (.b2s (.s 0)), PO 51 (.bin false .add (.c (.str [118])) (.s 0)), PM 52 6, PO
 53 (.bin false .mul (I6 20) (.s 0)), PM 54 6, PO 55 (.bin false .mul (I6 20) (.s 0)), PO 56 (.bin false .add (.s 0) (I6 5)), PO 57 (.build [.str [], .int .i64 (0), .int .i64 (0), .int .i64 (0), .int .i64 (0)] [(0, 1, (.s 5)), (1, 1, (.s 3)), (2, 1, (.s 0)), (3, 1, (I6 1)), (4, 1, (I6 1))]), PO 58 (.mkSl 5 (.agg [.str [], .int .i64 (0), .int .i64 (0), .int .i64 (0), .int .i64 (0)]) 1 [(0, (.s 0))]), PO 59 (.app 5 48 (.agg [.str [], .int .i64 (0), .int .i64 (0), .int .i64 (0), .int .i64 (0)]) (.s 18) (.s 0)), VS 3 4 0]))) (.region false [ PM 36 5, PO 37 (.bin false .sub (.s 0) (I6 1)), VS 5 6
 0]))
def ir81_k1 : List Bool := [true, false, false, true, false, true, false]
def ir81_o1 : List Bool := [true, false, false, true, false, false, false]
def ir81_r1 : List Bool := [true, true, false, false, false, false, false]
def ir81_v : List Nat := [0, 2, 3, 4, 5, 6, 7]
def ir81 : AFn := ⟨1, 7, .seq (.region false [ VO 1 2 (.newnil 5)]) (.seq (.region false [ PO 8 (.mkSl 1 (.str []) 7 [(0, (.c (.str [97]))), (1, (.c (.str [98]))), (2, (.c (.str [99, 45, 49]))), (3, (.c (.str [100]))), (4, (.c (.str [101]))), (5, (.c (.str [102]))), (6, (.c (.str [103])))]), VS 2 3 0]) (.seq (.region false [ PO 9 (.mkSl 5 (.agg [.str [], .int .i64 (0), .int .i64 (0), .int .i64 (0), .int .i64 (0)]) 0 []), VS 3 4 0]) (.seq (.seq (.region false [ VO 4 5 (.mov (I6 0))]) (.block 0 (.loop ir81_k0 ir81_o0 ir81_r0 ir81_b0))) (.seq (.test false [ PM 28 0, PO 29 (.call 40 [(.s 0), (I6
 20)])] (.s 0) (.seq (.region false [ PO 30 (.mkSl 5 (.agg [.str [], .int .i64 (0), .int .i64 (0), .int .i64 (0), .int .i64 (0)]) 0 []), VS 3 4 0]) (.seq (.region false [ PM 31 0, PO 32 (.call 82 [(.s 0), (I6 2)]), PO 33 (.bin false .add (I6 40) (.s 0)), VS 5 6 0]) (.block 2 (.loop ir81_k1 ir81_o1 ir81_r1 ir81_b1)))) (.skip)) (.seq (.test false [ PM 60 3, PO 61 (.len false (.s 0)), PO 62 (.bin false .gtr (.s 0) (I6 0)), PO 63 (.mov (.s 0)), ⟨.push, 64, (some ((.s 0), true)), .mov (.v 0)⟩, ⟨.push, 65, (some ((.s 1), true)), .callw 40 [(.s 0), (I6 10)]⟩, PO 66 (.pick (.s 2) (.s 0) (.c (.bool
 false)))] (.s 0) (.region false [ PM 67 0, PM 68 3, PM 69 0, PM 70 3, PO 71 (.len false (.s 0)), PO 72 (.call 82 [(.s 2), (.s 0)]), PO 73 (.ixAddr 5 (.s 4) (.s 0)), PO 74 (.call 118 [(.s 6), (.s 0)])]) (.skip)) (.seq (.region false [ PM 75 3, VS 1 2 0]) (.ret))))))), [.t 1]⟩
noncomputable def t_10 : List (Nat × Ctr) := [(40, c_5), (117, c_6), (82, c_4), (118, c_9)]
theorem lk_10_40 : look t_10 40 = some c_5 := rfl
theorem lk_10_117 : look t_10 117 = some c_6 := rfl
theorem lk_10_82 : look t_10 82 = some c_4 := rfl
theorem lk_10_118 : look t_10 118 = some c_9 := rfl
noncomputable def c_10 : Ctr := mkN t_10 ir81 [.io]
theorem s_10 : Sound Try.prog 81 c_10 := mkN_sound _ (snd_cons s_5 (snd_cons s_6 (snd_cons s_4 (snd_cons s_9 snd_nil)))) (by kernel_rfl : chkFn Try.prog 81 ir81 ir81_v = true)
theorem M_10 : c_10.modes = [.io] := rfl
theorem Fl_10 : c_10.flat = false := rfl
attribute [go_sem] M_10 Fl_10
attribute [go_sem] lk_10_40 lk_10_117 lk_10_82 lk_10_118
def E_10_l1 (names : List (List UInt8)) : (L00Src × (List Volume) × Int) → St
 | (s_, list, k) => ⟨[.ref 31 0 0, .any, .own 3200032, .own 3200064, .int .i64 k, .any, .any], [], [(31, ⟨3, [L00Src_av s_]⟩), (3200032, ⟨1, List.map AV.str names⟩), (3200064, ⟨5, List.map Volume_av list⟩)], true⟩
def R_10_l1 (names : List (List UInt8)) (y : L00Src × (List Volume)) : Res := (.exit 0, ⟨[.ref 31 0 0, .any, .any, .own 3200032, .any, .any, .any], [], [(31, ⟨3, [L00Src_av y.1]⟩), (3200032, ⟨5, List.map Volume_av y.2⟩)], true⟩)
theorem spec_l23Bent_l1_ex {names : List (List UInt8)} {sgm_ : L00Src × (List Volume) × Int} {rho_ : L00Src × (List Volume)} (h : whileE (spec_l23Bent_l1 names) sgm_ = some rho_) : ∃ L0, ∀ L, L0 ≤ L → iter (exec (look t_10) L ir81_b0) ir81_k0 ir81_o0 ir81_r0 L (E_10_l1 names sgm_) = R_10_l1 names rho_ := by
 refine loop_ex (E := E_10_l1 names) (R := R_10_l1 names) (fun y => by first | (intro c; cases c) | (rcases y with y | y <;> (intro c; cases c)) | (rcases y with y | y | y <;> (intro c; cases c))) ?_ h
 clear h
 rintro ⟨s_, list, k⟩ o_ h
 dsimp only [spec_l23Bent_l1] at h
 rcases it_some h with ⟨z1, h⟩ | ⟨z1, h⟩
 ·try simp only [go_sem, n1, n2, n3, n4] at z1
  all_goals
  obtain ⟨y_2, z2, h⟩ := bd_some h
  have fz2 := Fs_5 z2
  try simp only [go_sem, z1] at fz2
  rcases it_some h with ⟨z3, h⟩ | ⟨z3, h⟩
  ·try simp only [go_sem, n1, n2, n3, n4, z1] at z3
   all_goals
   obtain ⟨z4, h⟩ := ck_some h
   have lz4 := ix_lt z4
   have xz4 := getD_mapD AV.str names lz4
   try simp only [go_sem] at lz4
   try simp only [go_sem] at xz4
   try simp only [go_sem, n1, n2, n3, n4, z1, z3] at z4
   all_goals
   obtain ⟨y_5, z5, h⟩ := bd_some h
   have fz5 := Fs_6 z5
   try simp only [go_sem, z1, z3, z4] at fz5
   obtain ⟨z6, h⟩ := ck_some h
   try simp only [go_sem, n1, n2, n3, n4, z1, z3, z4] at z6
   all_goals
   obtain rfl := so_some h
   refine ⟨0, fun L hL => ?_⟩
   simp only [go_sem, ir81, E_10_l1, R_10_l1, ir81_b0, ir81_k0, ir81_o0, ir81_r0, z1, fz2, z3, z4, lz4, xz4, fz5, z6]
  ·try simp only [go_sem, n1, n2, n3, n4, z1] at z3
   all_goals
   obtain rfl := so_some h
   refine ⟨0, fun L hL => ?_⟩
   simp only [go_sem, ir81, E_10_l1, R_10_l1, ir81_b0, ir81_k0, ir81_o0, ir81_r0, z1, fz2, z3]
 ·try simp only [go_sem, n1, n2, n3, n4] at z1
  all_goals
  obtain rfl := so_some h
  refine ⟨0, fun L hL => ?_⟩
  simp only [go_sem, ir81, E_10_l1, R_10_l1, ir81_b0, ir81_k0, ir81_o0, ir81_r0, z1]

def E_10_l2 (s_ : L00Src) : ((List Volume) × Int) → St
 | (list, k) => ⟨[.ref 31 0 0, .any, .any, .own 3200032, .any, .int .i64 k, .any], [], [(31, ⟨3, [L00Src_av s_]⟩), (3200032, ⟨5, List.map Volume_av list⟩)], true⟩
def R_10_l2 (s_ : L00Src) (y : (List Volume)) : Res := (.exit 2, ⟨[.ref 31 0 0, .any, .any, .own 3200032, .any, .any, .any], [], [(31, ⟨3, [L00Src_av s_]⟩), (3200032, ⟨5, List.map Volume_av y⟩)], true⟩)
theorem spec_l23Bent_l2_ex {s_ : L00Src} {sgm_ : (List Volume) × Int} {rho_ : (List Volume)} (h : whileE (spec_l23Bent_l2 s_) sgm_ = some rho_) : ∃ L0, ∀ L, L0 ≤ L → iter (exec (look t_10) L ir81_b1) ir81_k1 ir81_o1 ir81_r1 L (E_10_l2 s_ sgm_) = R_10_l2 s_ rho_ := by
 refine loop_ex (E := E_10_l2 s_) (R := R_10_l2 s_) (fun y => by first | (intro c; cases c) | (rcases y with y | y <;> (intro c; cases c)) | (rcases y with y | y | y <;> (intro c; cases c))) ?_ h
 clear h
 rintro ⟨list, k⟩ o_ h
 dsimp only [spec_l23Bent_l2] at h
 rcases it_some h with ⟨z11, h⟩ | ⟨z11, h⟩
 ·try simp only [go_sem, n1, n2, n3, n4] at z11
  all_goals
  obtain ⟨z12, h⟩ := ck_some h
  try simp only [go_sem, n1, n2, n3, n4, z11] at z12
  all_goals
  obtain ⟨z13, h⟩ := ck_some h
  try simp only [go_sem, n1, n2, n3, n4, z11, z12] at z13
  all_goals
  obtain ⟨z14, h⟩ := ck_some h
  try simp only [go_sem, n1, n2, n3, n4, z11, z12, z13] at z14
  all_goals
  obtain rfl := so_some h
  refine ⟨0, fun L hL => ?_⟩
  simp only [go_sem, ir81, E_10_l2, R_10_l2, ir81_b1, ir81_k1, ir81_o1, ir81_r1, E_10_l1, R_10_l1, ir81_k0, ir81_o0, ir81_r0, z11, z12, z13, z14]
 ·try simp only [go_sem, n1, n2, n3, n4] at z11
  all_goals
  obtain rfl := so_some h
  refine ⟨0, fun L hL => ?_⟩
  simp only [go_sem, ir81, E_10_l2, R_10_l2, ir81_b1, ir81_k1, ir81_o1, ir81_r1, E_10_l1, R_10_l1, ir81_k0, ir81_o0, ir81_r0, z11]

theorem Fs_10 {s_ : L00Src} {y_ : (List Volume) × L00Src} (h : spec_l23Bent s_ = some y_) : c_10.F [.mem 3 [L00Src_av s_] 0] = ⟨true, .fresh 5 (List.map Volume_av y_.1), [.mem 3 [L00Src_av y_.2] 0]⟩ := by
 refine mkN_E ?_
 dsimp only [spec_l23Bent] at h
 obtain ⟨y_7, z7, h⟩ := bd_some h
 obtain ⟨Lz7, ez7⟩ := spec_l23Bent_l1_ex z7
 obtain ⟨y_8, z8, h⟩ := bd_some h
 have fz8 := Fs_5 z8
 try simp only [go_sem] at fz8
 rcases it_some h with ⟨z9, h⟩ | ⟨z9, h⟩
 ·try simp only [go_sem, n1, n2, n3, n4] at z9
  all_goals
  obtain ⟨y_10, z10, h⟩ := bd_some h
  have fz10 := Fs_4 z10
  try simp only [go_sem, z9] at fz10
  obtain ⟨y_15, z15, h⟩ := bd_some h
  obtain ⟨Lz15, ez15⟩ := spec_l23Bent_l2_ex z15
  rcases it_some h with ⟨z16, h⟩ | ⟨z16, h⟩
  ·try simp only [go_sem, n1, n2, n3, n4, z9] at z16
   all_goals
   obtain ⟨y_17, z17, h⟩ := bd_some h
   have fz17 := Fs_5 z17
   try simp only [go_sem, z9, z16] at fz17
   rcases it_some h with ⟨z18, h⟩ | ⟨z18, h⟩
   ·try simp only [go_sem, n1, n2, n3, n4, z9, z16] at z18
    all_goals
    obtain ⟨y_19, z19, h⟩ := bd_some h
    have fz19 := Fs_4 z19
    try simp only [go_sem, z9, z16, z18] at fz19
    obtain ⟨z20, h⟩ := ck_some h
    have lz20 := ix_lt z20
    have xz20 := getD_mapD Volume_av y_15 lz20
    try simp only [go_sem] at lz20
    try simp only [go_sem] at xz20
    try simp only [go_sem, n1, n2, n3, n4, z9, z16, z18] at z20
    all_goals
    obtain ⟨y_21, z21, h⟩ := bd_some h
    have fz21 := Fs_9 z21
    try simp only [go_sem, z9, z16, z18, z20] at fz21
    obtain rfl := so_some h
    refine ⟨Lz7 + Lz15, fun L hL => ?_⟩
    have ez7 := ez7 L (by omega)
    have ez15 := ez15 L (by omega)
    try simp only [go_sem, E_10_l1, R_10_l1, ir81_k0, ir81_o0, ir81_r0, E_10_l2, R_10_l2, ir81_k1, ir81_o1, ir81_r1, z9, z16, z18, z20] at ez7
    try simp only [go_sem, E_10_l1, R_10_l1, ir81_k0, ir81_o0, ir81_r0, E_10_l2, R_10_l2, ir81_k1, ir81_o1, ir81_r1, z9, z16, z18, z20] at ez15
    simp only [go_sem, ir81, E_10_l1, R_10_l1, ir81_k0, ir81_o0, ir81_r0, E_10_l2, R_10_l2, ir81_k1, ir81_o1, ir81_r1, fz8, z9, fz10, z16, fz17, z18, fz19, z20, lz20, xz20, fz21, ez7, ez15]
   ·try simp only [go_sem, n1, n2, n3, n4, z9, z16] at z18
    all_goals
    obtain rfl := so_some h
    refine ⟨Lz7 + Lz15, fun L hL => ?_⟩
    have ez7 := ez7 L (by omega)
    have ez15 := ez15 L (by omega)
    try simp only [go_sem, E_10_l1, R_10_l1, ir81_k0, ir81_o0, ir81_r0, E_10_l2, R_10_l2, ir81_k1, ir81_o1, ir81_r1, z9, z16, z18] at ez7
    try simp only [go_sem, E_10_l1, R_10_l1, ir81_k0, ir81_o0, ir81_r0, E_10_l2, R_10_l2, ir81_k1, ir81_o1, ir81_r1, z9, z16, z18] at ez15
    simp only [go_sem, ir81, E_10_l1, R_10_l1, ir81_k0, ir81_o0, ir81_r0, E_10_l2, R_10_l2, ir81_k1, ir81_o1, ir81_r1, fz8, z9, fz10, z16, fz17, z18, ez7, ez15]
  ·try simp only [go_sem, n1, n2, n3, n4, z9] at z16
   all_goals
   obtain rfl := so_some h
   refine ⟨Lz7 + Lz15, fun L hL => ?_⟩
   have ez7 := ez7 L (by omega)
   have ez15 := ez15 L (by omega)
   try simp only [go_sem, E_10_l1, R_10_l1, ir81_k0, ir81_o0, ir81_r0, E_10_l2, R_10_l2, ir81_k1, ir81_o1, ir81_r1, z9, z16] at ez7
   try simp only [go_sem, E_10_l1, R_10_l1, ir81_k0, ir81_o0, ir81_r0, E_10_l2, R_10_l2, ir81_k1, ir81_o1, ir81_r1, z9, z16] at ez15
   simp only [go_sem, ir81, E_10_l1, R_10_l1, ir81_k0, ir81_o0, ir81_r0, E_10_l2, R_10_l2, ir81_k1, ir81_o1, ir81_r1, fz8, z9, fz10, z16, ez7, ez15]
 ·try simp only [go_sem, n1, n2, n3, n4] at z9
  all_goals
  rcases it_some h with ⟨z22, h⟩ | ⟨z22, h⟩
  ·try simp only [go_sem, n1, n2, n3, n4, z9] at z22
   all_goals
   obtain ⟨y_23, z23, h⟩ := bd_some h
   have fz23 := Fs_5 z23
   try simp only [go_sem, z9, z22] at fz23
   rcases it_some h with ⟨z24, h⟩ | ⟨z24, h⟩
   ·try simp only [go_sem, n1, n2, n3, n4, z9, z22] at z24
    all_goals
    obtain ⟨y_25, z25, h⟩ := bd_some h
    have fz25 := Fs_4 z25
    try simp only [go_sem, z9, z22, z24] at fz25
    obtain ⟨z26, h⟩ := ck_some h
    have lz26 := ix_lt z26
    have xz26 := getD_mapD Volume_av y_7.2 lz26
    try simp only [go_sem] at lz26
    try simp only [go_sem] at xz26
    try simp only [go_sem, n1, n2, n3, n4, z9, z22, z24] at z26
    all_goals
    obtain ⟨y_27, z27, h⟩ := bd_some h
    have fz27 := Fs_9 z27
    try simp only [go_sem, z9, z22, z24, z26] at fz27
    obtain rfl := so_some h
    refine ⟨Lz7, fun L hL => ?_⟩
    have ez7 := ez7 L (by omega)
    try simp only [go_sem, E_10_l1, R_10_l1, ir81_k0, ir81_o0, ir81_r0, E_10_l2, R_10_l2, ir81_k1, ir81_o1, ir81_r1, z9, z22, z24, z26] at ez7
    simp only [go_sem, ir81, E_10_l1, R_10_l1, ir81_k0, ir81_o0, ir81_r0, E_10_l2, R_10_l2, ir81_k1, ir81_o1, ir81_r1, fz8, z9, z22, fz23, z24, fz25, z26, lz26, xz26, fz27, ez7]
   ·try simp only [go_sem, n1, n2, n3, n4, z9, z22] at z24
    all_goals
    obtain rfl := so_some h
    refine ⟨Lz7, fun L hL => ?_⟩
    have ez7 := ez7 L (by omega)
    try simp only [go_sem, E_10_l1, R_10_l1, ir81_k0, ir81_o0, ir81_r0, E_10_l2, R_10_l2, ir81_k1, ir81_o1, ir81_r1, z9, z22, z24] at ez7
    simp only [go_sem, ir81, E_10_l1, R_10_l1, ir81_k0, ir81_o0, ir81_r0, E_10_l2, R_10_l2, ir81_k1, ir81_o1, ir81_r1, fz8, z9, z22, fz23, z24, ez7]
  ·try simp only [go_sem, n1, n2, n3, n4, z9] at z22
   all_goals
   obtain rfl := so_some h
   refine ⟨Lz7, fun L hL => ?_⟩
   have ez7 := ez7 L (by omega)
   try simp only [go_sem, E_10_l1, R_10_l1, ir81_k0, ir81_o0, ir81_r0, E_10_l2, R_10_l2, ir81_k1, ir81_o1, ir81_r1, z9, z22] at ez7
   simp only [go_sem, ir81, E_10_l1, R_10_l1, ir81_k0, ir81_o0, ir81_r0, E_10_l2, R_10_l2, ir81_k1, ir81_o1, ir81_r1, fz8, z9, z22, ez7]


def ir38_v : List Nat := [0, 2, 3, 4, 5, 6, 7, 8, 22]
def ir38 : AFn := ⟨1, 9, .seq (.region false [ VO 1 2 (.newnil 5), VO 2 3 (.mov (I6 0)), VO 3 4 (.mov (I6 0))]) (.seq (.region false [ PM 9 0, PO 10 (.call 39 [(.s 0)]), VS 4 5 0]) (.seq (.region false [ PM 11 4, PO 12 (.call 81 [(.s 0)]), VS 5 6 0]) (.seq (.region false [ PM 13 4, PO 14 (.call 82 [(.s 0), (I6 60)]), PO 15 (.bin false .mul (I6 10) (.s 0)), VS 6 7 0]) (.seq (.region false [ PM 16 6, PM 17 4, PO 18 (.call 82 [(.s 0), (I6 60)]), PO 19 (.bin false .mul (I6 10) (.s 0)), PO 20 (.bin false .add (.s 3) (.s 0)), VS 7 8 0]) (.seq (.seq (.region false [ PM 21 4, VO 8 22 (.call 82 [(.s 0),
 (I6 16)])]) (.block 0 (.test false [ PO 24 (.bin false .eql (.v 8) (I6 0)), PO 23 (.mov (.s 0))] (.s 0) (.region false [ PM 25 4, PM 26 7, PM 27 7, PO 28 (.bin false .add (.s 0) (I6 1)), PO 29 (.mkSl 1 (.int .i64 (0)) 4 [(0, (.c (.int .i64 (-1)))), (1, (I6 0)), (2, (.s 2)), (3, (.s 0))]), PO 30 (.call 83 [(.s 4), (.s 0)]), VS 6 7 0]) (.test false [ PO 32 (.bin false .eql (.v 8) (I6 1)), PO 31 (.mov (.s 0))] (.s 0) (.region false [ PM 33 4, PM 34 6, PO 35 (.mkSl 1 (.int .i64 (0)) 3 [(0, (.s 0)), (1, (I6 10000000)), (2, (I6 10000001))]), PO 36 (.call 83 [(.s 2), (.s 0)]), VS 7 8 0]) (.skip)))))
 (.seq (.region false [ PM 37 5, PM 38 6, PM 39 7, VS 1 2 2, VS 2 3 1, VS 3 4 0]) (.ret))))))), [.t 1, .t 2, .t 3]⟩
noncomputable def t_11 : List (Nat × Ctr) := [(39, c_2), (81, c_10), (82, c_4), (83, c_7)]
theorem lk_11_39 : look t_11 39 = some c_2 := rfl
theorem lk_11_81 : look t_11 81 = some c_10 := rfl
theorem lk_11_82 : look t_11 82 = some c_4 := rfl
theorem lk_11_83 : look t_11 83 = some c_7 := rfl
noncomputable def c_11 : Ctr := mkF t_11 ir38 [.bor]
theorem s_11 : Sound Try.prog 38 c_11 := mkF_sound _ rfl (snd_cons s_2 (snd_cons s_10 (snd_cons s_4 (snd_cons s_7 snd_nil)))) (by kernel_rfl : chkFn Try.prog 38 ir38 ir38_v = true)
theorem M_11 : c_11.modes = [.bor] := rfl
theorem Fl_11 : c_11.flat = true := rfl
attribute [go_sem] M_11 Fl_11
attribute [go_sem] lk_11_39 lk_11_81 lk_11_82 lk_11_83
theorem Fs_11 {code : List UInt8} {y_ : (List Volume) × Int × Int} (h : spec_l23Window code = some y_) : c_11.F [.sl 1 (List.map byteAV code)] = ⟨true, .tup [.fresh 5 (List.map Volume_av y_.1), .int .i64 y_.2.1, .int .i64 y_.2.2], [.any]⟩ := by
 refine mkF_E (by simp only [flatA, flatB, flat1, List.all_cons, List.all_nil, Bool.and_self, flatE_map (f := Volume_av) (fun _ => rfl)]) ?_
 dsimp only [spec_l23Window] at h
 obtain ⟨y_1, z1, h⟩ := bd_some h
 have fz1 := Fs_2 z1
 try simp only [go_sem] at fz1
 obtain ⟨y_2, z2, h⟩ := bd_some h
 have fz2 := Fs_10 z2
 try simp only [go_sem] at fz2
 obtain ⟨y_3, z3, h⟩ := bd_some h
 have fz3 := Fs_4 z3
 try simp only [go_sem] at fz3
 obtain ⟨y_4, z4, h⟩ := bd_some h
 have fz4 := Fs_4 z4
 try simp only [go_sem] at fz4
 obtain ⟨y_5, z5, h⟩ := bd_some h
 have fz5 := Fs_4 z5
 try simp only [go_sem] at fz5
 rcases it_some h with ⟨z6, h⟩ | ⟨z6, h⟩
 ·try simp only [go_sem, n1, n2, n3, n4] at z6
  all_goals
  obtain ⟨y_7, z7, h⟩ := bd_some h
  have fz7 := Fs_7 z7
  try simp only [go_sem, z6] at fz7
  obtain rfl := so_some h
  refine ⟨0, fun L hL => ?_⟩
  simp only [go_sem, ir38, fz1, fz2, fz3, fz4, fz5, z6, fz7]
 ·try simp only [go_sem, n1, n2, n3, n4] at z6
  all_goals
  rcases it_some h with ⟨z8, h⟩ | ⟨z8, h⟩
  ·try simp only [go_sem, n1, n2, n3, n4, z6] at z8
   all_goals
   obtain ⟨y_9, z9, h⟩ := bd_some h
   have fz9 := Fs_7 z9
   try simp only [go_sem, z6, z8] at fz9
   obtain rfl := so_some h
   refine ⟨0, fun L hL => ?_⟩
   simp only [go_sem, ir38, fz1, fz2, fz3, fz4, fz5, z6, z8, fz9]
  ·try simp only [go_sem, n1, n2, n3, n4, z6] at z8
   all_goals
   obtain rfl := so_some h
   refine ⟨0, fun L hL => ?_⟩
   simp only [go_sem, ir38, fz1, fz2, fz3, fz4, fz5, z6, z8]


def ir7_v : List Nat := [0, 2, 3, 4, 5, 6, 7, 8]
def ir7 : AFn := ⟨1, 8, .seq (.region false [ VO 1 2 (.newnil 5), VO 2 3 (.mov (I6 0)), VO 3 4 (.mov (I6 0))]) (.seq (.region false [ PM 10 0, PO 11 (.call 38 [(.s 0)]), PO 9 (.mov (.s 0)), PO 12 (.ext (.s 0) 0), PO 13 (.ext (.s 1) 1), PO 14 (.ext (.s 2) 2), VS 4 5 2, VS 5 6 1, VS 6 7 0]) (.seq (.anyo 14 [ SO 0 15 (.mov (.v 4)), SO 1 16 (.len false (.s 0)), SO 2 17 (.bin false .gtr (.s 1) (I6 1)), SO 3 18 (.mov (.s 2)), ⟨.slot 4, 19, (some ((.s 3), true)), .mov (.v 4)⟩, ⟨.slot 5, 20, (some ((.s 3), true)), .ixAddr 5 (.s 4) (I6 0)⟩, ⟨.slot 6, 21, (some ((.s 3), true)), .fldAddr 1 (.s 5)⟩, ⟨.slot
 7, 22, (some ((.s 3), true)), .load false 1 (.s 6)⟩, ⟨.slot 8, 23, (some ((.s 3), true)), .mov (.v 4)⟩, ⟨.slot 9, 24, (some ((.s 3), true)), .ixAddr 5 (.s 8) (I6 0)⟩, ⟨.slot 10, 25, (some ((.s 3), true)), .fldAddr 2 (.s 9)⟩, ⟨.slot 11, 26, (some ((.s 3), true)), .load false 1 (.s 10)⟩, ⟨.slot 12, 27, (some ((.s 3), true)), .bin false .leq (.s 7) (.s 11)⟩, SO 13 28 (.pick (.s 3) (.s 12) (.c (.bool false)))] [] (.cond (.s 13) (.seq (.region false [ PM 29 0, PO 30 (.call 39 [(.s 0)]), VS 7 8 0]) (.test false [ PM 31 7, PO 32 (.call 40 [(.s 0), (I6 2)])] (.s 0) (.seq (.region false [ PM 33 4, PM
 34 4, PO 35 (.ixAddr 5 (.s 0) (I6 0)), PO 36 (.fldAddr 2 (.s 0)), PO 37 (.load false 1 (.s 0)), PO 38 (.ixAddr 5 (.s 4) (I6 1)), PO 39 (.fldAddr 1 (.s 0)), ⟨.no, 0, none, .store 1 (.s 0) (.s 2)⟩]) (.seq (.anyo 12 [ SO 0 40 (.mov (.v 4)), SO 1 41 (.mov (.v 4)), SO 2 42 (.ixAddr 5 (.s 1) (I6 1)), SO 3 43 (.fldAddr 1 (.s 2)), SO 4 44 (.load false 1 (.s 3)), SO 5 45 (.mov (.v 4)), SO 6 46 (.ixAddr 5 (.s 5) (I6 1)), SO 7 47 (.fldAddr 2 (.s 6)), SO 8 48 (.load false 1 (.s 7)), SO 9 49 (.callp 41 [(.s 4), (.s 8)]), SO 10 50 (.ixAddr 5 (.s 0) (I6 1)), SO 11 51 (.fldAddr 2 (.s 10)), ⟨.no, 0, none,
 .store 1 (.s 11) (.s 9)⟩] [] .skip) (.seq (.anyo 9 [ SO 0 52 (.mov (.v 4)), SO 1 53 (.mov (.v 4)), SO 2 54 (.ixAddr 5 (.s 1) (I6 0)), SO 3 55 (.fldAddr 1 (.s 2)), SO 4 56 (.load false 1 (.s 3)), SO 5 57 (.mov (.v 4)), SO 6 58 (.ixAddr 5 (.s 5) (I6 1)), SO 7 59 (.fldAddr 2 (.s 6)), SO 8 60 (.load false 1 (.s 7)), VS 1 2 0, VS 2 3 4, VS 3 4 8] [] .skip) (.ret)))) (.skip))) (.skip))) (.seq (.region false [ PM 61 4, PM 62 5, PM 63 6, VS 1 2 2, VS 2 3 1, VS 3 4 0]) (.ret)))), [.t 1, .t 2, .t 3]⟩
noncomputable def t_12 : List (Nat × Ctr) := [(38, c_11), (39, c_2), (40, c_5), (41, c_1)]
theorem lk_12_38 : look t_12 38 = some c_11 := rfl
theorem lk_12_39 : look t_12 39 = some c_2 := rfl
theorem lk_12_40 : look t_12 40 = some c_5 := rfl
theorem lk_12_41 : look t_12 41 = some c_1 := rfl
noncomputable def c_12 : Ctr := mkF t_12 ir7 [.bor]
theorem s_12 : Sound Try.prog 7 c_12 := mkF_sound _ rfl (snd_cons s_11 (snd_cons s_2 (snd_cons s_5 (snd_cons s_1 snd_nil)))) (by kernel_rfl : chkFn Try.prog 7 ir7 ir7_v = true)
theorem M_12 : c_12.modes = [.bor] := rfl
theorem Fl_12 : c_12.flat = true := rfl
attribute [go_sem] M_12 Fl_12
attribute [go_sem] lk_12_38 lk_12_39 lk_12_40 lk_12_41
theorem Fs_12 {code : List UInt8} {y_ : (List Volume) × Int × Int} (h : spec_DrawCoverTime code = some y_) : c_12.F [.sl 1 (List.map byteAV code)] = ⟨true, .tup [.fresh 5 (List.map Volume_av y_.1), .int .i64 y_.2.1, .int .i64 y_.2.2], [.any]⟩ := by
 refine mkF_E (by simp only [flatA, flatB, flat1, List.all_cons, List.all_nil, Bool.and_self, flatE_map (f := Volume_av) (fun _ => rfl)]) ?_
 dsimp only [spec_DrawCoverTime] at h
 obtain ⟨y_1, z1, h⟩ := bd_some h
 have fz1 := Fs_11 z1
 try simp only [go_sem] at fz1
 obtain ⟨z2, h⟩ := ck_some h
 rcases or_split z2 with ⟨gz2, z2⟩ | gz2
 ·try simp only [go_sem, n1, n2, n3, n4] at gz2
  all_goals
  have lz2 := ix_lt z2
  have xz2 := getD_mapD Volume_av y_1.1 lz2
  try simp only [go_sem] at lz2
  try simp only [go_sem] at xz2
  try simp only [go_sem, n1, n2, n3, n4, gz2] at z2
  all_goals
  rcases it_some h with ⟨z3, h⟩ | ⟨z3, h⟩
  ·try simp only [go_sem, n1, n2, n3, n4, gz2, z2] at z3
   all_goals
   obtain ⟨y_4, z4, h⟩ := bd_some h
   have fz4 := Fs_2 z4
   try simp only [go_sem, gz2, z2, z3] at fz4
   obtain ⟨y_5, z5, h⟩ := bd_some h
   have fz5 := Fs_5 z5
   try simp only [go_sem, gz2, z2, z3] at fz5
   rcases it_some h with ⟨z6, h⟩ | ⟨z6, h⟩
   ·try simp only [go_sem, n1, n2, n3, n4, gz2, z2, z3] at z6
    all_goals
    obtain ⟨z7, h⟩ := ck_some h
    have lz7 := ix_lt z7
    have xz7 := getD_mapD Volume_av y_1.1 lz7
    try simp only [go_sem] at lz7
    try simp only [go_sem] at xz7
    try simp only [go_sem, n1, n2, n3, n4, gz2, z2, z3, z6] at z7
    all_goals
    obtain ⟨z8, h⟩ := ck_some h
    have lz8 := ix_lt z8
    have xz8 := getD_mapD Volume_av y_1.1 lz8
    try simp only [go_sem] at lz8
    try simp only [go_sem] at xz8
    try simp only [go_sem, n1, n2, n3, n4, gz2, z2, z3, z6, z7] at z8
    all_goals
    obtain ⟨y_9, z9, h⟩ := bd_some h
    have fz9 := Fs_1 z9
    try simp only [go_sem, gz2, z2, z3, z6, z7, z8] at fz9
    have xz10 := (by rw [← List.map_set]; exact getD_mapD Volume_av (y_1.1.set 1 (Volume.mk ((y_1.1.getD 1 default).Name) ((y_1.1.getD 0 default).To) y_9 ((y_1.1.getD 1 default).Count) ((y_1.1.getD 1 default).Copies))) (by first | (rw [List.length_set]; exact lz7) | (simp; omega)) : ((List.map Volume_av y_1.1).set 1 (Volume_av (Volume.mk ((y_1.1.getD 1 default).Name) ((y_1.1.getD 0 default).To) y_9 ((y_1.1.getD 1 default).Count) ((y_1.1.getD 1 default).Copies)))).getD 0 .any = Volume_av ((y_1.1.set 1 (Volume.mk ((y_1.1.getD 1 default).Name) ((y_1.1.getD 0 default).To) y_9 ((y_1.1.getD 1 default).Count) ((y_1.1.getD 1 default).Copies))).getD 0 default))
    try simp only [go_sem] at xz10
    obtain rfl := so_some h
    refine ⟨0, fun L hL => ?_⟩
    simp only [go_sem, ir7, fz1, gz2, z2, lz2, xz2, z3, fz4, fz5, z6, z7, lz7, xz7, z8, lz8, xz8, fz9, xz10]
   ·try simp only [go_sem, n1, n2, n3, n4, gz2, z2, z3] at z6
    all_goals
    obtain rfl := so_some h
    refine ⟨0, fun L hL => ?_⟩
    simp only [go_sem, ir7, fz1, gz2, z2, lz2, xz2, z3, fz4, fz5, z6]
  ·try simp only [go_sem, n1, n2, n3, n4, gz2, z2] at z3
   all_goals
   obtain rfl := so_some h
   refine ⟨0, fun L hL => ?_⟩
   simp only [go_sem, ir7, fz1, gz2, z2, lz2, xz2, z3]
 ·try simp only [go_sem, n1, n2, n3, n4] at gz2
  all_goals
  rcases it_some h with ⟨z3, h⟩ | ⟨z3, h⟩
  ·try simp only [go_sem, n1, n2, n3, n4, gz2] at z3
   all_goals
   (simp_all)
  ·try simp only [go_sem, n1, n2, n3, n4, gz2] at z3
   all_goals
   obtain rfl := so_some h
   refine ⟨0, fun L hL => ?_⟩
   simp only [go_sem, ir7, fz1, gz2, z3]


def ir43_v : List Nat := [0, 1, 2, 6]
def ir43 : AFn := ⟨3, 4, .seq (.region false [ VO 3 6 (.mov (.c (.bool false)))]) (.seq (.region false [ PM 7 0, PM 8 1, PO 9 (.bin false .geq (.s 1) (.s 0)), PO 10 (.mov (.s 0)), ⟨.push, 11, (some ((.s 0), true)), .mov (.v 0)⟩, ⟨.push, 12, (some ((.s 1), true)), .mov (.v 2)⟩, ⟨.push, 13, (some ((.s 2), true)), .bin false .leq (.s 1) (.s 0)⟩, PO 14 (.pick (.s 3) (.s 0) (.c (.bool false))), VS 3 6 0]) (.ret)), [.t 3]⟩
noncomputable def t_13 : List (Nat × Ctr) := []
noncomputable def c_13 : Ctr := mkF t_13 ir43 [.bor, .bor, .bor]
theorem s_13 : Sound Try.prog 43 c_13 := mkF_sound _ rfl snd_nil (by kernel_rfl : chkFn Try.prog 43 ir43 ir43_v = true)
theorem M_13 : c_13.modes = [.bor, .bor, .bor] := rfl
theorem Fl_13 : c_13.flat = true := rfl
attribute [go_sem] M_13 Fl_13
theorem Fs_13 {n : Int} {low : Int} {high : Int} {y_ : Bool} (h : impl_in n low high = some y_) : c_13.F [.int .i64 n, .int .i64 low, .int .i64 high] = ⟨true, .bool y_, [.any, .any, .any]⟩ := by
 refine mkF_E rfl ?_
 dsimp only [impl_in] at h
 obtain rfl := so_some h
 refine ⟨0, fun L hL => ?_⟩
 simp only [go_sem, ir43]


def ir51_v : List Nat := [0, 2]
def ir51 : AFn := ⟨1, 2, .seq (.region false [ VO 1 2 (.mov (.c (.bool false)))]) (.seq (.region false [ PM 3 0, PO 4 (.call 43 [(.s 0), (I6 0), (I6 10000000)]), VS 1 2 0]) (.ret)), [.t 1]⟩
noncomputable def t_14 : List (Nat × Ctr) := [(43, c_13)]
theorem lk_14_43 : look t_14 43 = some c_13 := rfl
noncomputable def c_14 : Ctr := mkF t_14 ir51 [.bor]
theorem s_14 : Sound Try.prog 51 c_14 := mkF_sound _ rfl (snd_cons s_13 snd_nil) (by kernel_rfl : chkFn Try.prog 51 ir51 ir51_v = true)
theorem M_14 : c_14.modes = [.bor] := rfl
theorem Fl_14 : c_14.flat = true := rfl
attribute [go_sem] M_14 Fl_14
attribute [go_sem] lk_14_43
theorem Fs_14 {t : Int} {y_ : Bool} (h : impl_ValidTime t = some y_) : c_14.F [.int .i64 t] = ⟨true, .bool y_, [.any]⟩ := by
 refine mkF_E rfl ?_
 dsimp only [impl_ValidTime] at h
 obtain ⟨y_1, z1, h⟩ := bd_some h
 have fz1 := Fs_13 z1
 try simp only [go_sem] at fz1
 obtain rfl := so_some h
 refine ⟨0, fun L hL => ?_⟩
 simp only [go_sem, ir51, fz1]


def ir77_b0 : IR := .seq (.region false [ VO 7 17 (.bin false .lss (.v 6) (.v 5))]) (.seq (.cond (.v 7) (.skip) (.exit 0)) (.seq (.block 1 (.seq (.region false [ PM 18 6, VS 2 3 0]) (.seq (.region false [ PM 19 0, PM 20 2, PO 21 (.ixStr (.s 1) (.s 0)), PO 22 (.bin false .geq (.s 0) (.c (.int .u8 (97)))), PO 23 (.mov (.s 0)), ⟨.push, 24, (some ((.s 0), true)), .mov (.v 0)⟩, ⟨.push, 25, (some ((.s 1), true)), .mov (.v 2)⟩, ⟨.push, 26, (some ((.s 2), true)), .ixStr (.s 1) (.s 0)⟩, ⟨.push, 27, (some ((.s 3), true)), .bin false .leq (.s 0) (.c (.int .u8 (122)))⟩, PO 28 (.pick (.s 4) (.s 0) (.c
 (.bool false))), VS 3 4 0]) (.seq (.region false [ PM 29 0, PM 30 2, PO 31 (.ixStr (.s 1) (.s 0)), PO 32 (.bin false .geq (.s 0) (.c (.int .u8 (48)))), PO 33 (.mov (.s 0)), ⟨.push, 34, (some ((.s 0), true)), .mov (.v 0)⟩, ⟨.push, 35, (some ((.s 1), true)), .mov (.v 2)⟩, ⟨.push, 36, (some ((.s 2), true)), .ixStr (.s 1) (.s 0)⟩, ⟨.push, 37, (some ((.s 3), true)), .bin false .leq (.s 0) (.c (.int .u8 (57)))⟩, PO 38 (.pick (.s 4) (.s 0) (.c (.bool false))), PO 39 (.mov (.s 0)), ⟨.push, 40, (some ((.s 0), false)), .mov (.v 0)⟩, ⟨.push, 41, (some ((.s 1), false)), .mov (.v 2)⟩, ⟨.push, 42, (some
 ((.s 2), false)), .ixStr (.s 1) (.s 0)⟩, ⟨.push, 43, (some ((.s 3), false)), .bin false .eql (.s 0) (.c (.int .u8 (45)))⟩, PO 44 (.pick (.s 4) (.c (.bool true)) (.s 0)), VS 4 5 0]) (.test false [ PM 45 3, PO 46 (.un .not (.s 0)), PO 47 (.mov (.s 0)), ⟨.push, 48, (some ((.s 0), true)), .mov (.v 2)⟩, ⟨.push, 49, (some ((.s 1), true)), .bin false .eql (.s 0) (I6 0)⟩, ⟨.push, 50, (some ((.s 2), true)), .mov (.s 0)⟩, ⟨.push, 51, (some ((.s 0), false)), .mov (.v 4)⟩, ⟨.push, 52, (some ((.s 1), false)), .un .not (.s 0)⟩, ⟨.push, 53, (some ((.s 5), true)), .pick (.s 2) (.c (.bool true)) (.s 0)⟩, PO 54
 (.pick (.s 6) (.s 0) (.c (.bool false)))] (.s 0) (.seq (.region false [ VO 1 2 (.mov (.c (.bool false)))]) (.ret)) (.skip)))))) (.region false [ PO 55 (.bin false .add (.v 6) (I6 1)), VS 6 16 0])))
def ir77_k0 : List Bool := [true, false, false, false, false, true, true, false]
def ir77_o0 : List Bool := [false, false, false, false, false, false, false, false]
def ir77_r0 : List Bool := [false, true, false, false, false, false, false, false]
def ir77_v : List Nat := [0, 2, 3, 4, 5, 15, 16, 17]
def ir77 : AFn := ⟨1, 8, .seq (.region false [ VO 1 2 (.mov (.c (.bool false)))]) (.seq (.test false [ PM 6 0, PO 7 (.len true (.s 0)), PO 8 (.bin false .lss (.s 0) (I6 1)), PO 9 (.mov (.s 0)), ⟨.push, 10, (some ((.s 0), false)), .mov (.v 0)⟩, ⟨.push, 11, (some ((.s 1), false)), .len true (.s 0)⟩, ⟨.push, 12, (some ((.s 2), false)), .bin false .gtr (.s 0) (I6 12)⟩, PO 13 (.pick (.s 3) (.c (.bool true)) (.s 0))] (.s 0) (.seq (.region false [ VO 1 2 (.mov (.c (.bool false)))]) (.ret)) (.skip)) (.seq (.seq (.region false [ PM 14 0, VO 5 15 (.len true (.s 0)), VO 6 16 (.mov (I6 0))]) (.block 0
 (.loop ir77_k0 ir77_o0 ir77_r0 ir77_b0))) (.seq (.region false [ VO 1 2 (.mov (.c (.bool true)))]) (.ret)))), [.t 1]⟩
noncomputable def t_15 : List (Nat × Ctr) := []
noncomputable def c_15 : Ctr := mkF t_15 ir77 [.bor]
theorem s_15 : Sound Try.prog 77 c_15 := mkF_sound _ rfl snd_nil (by kernel_rfl : chkFn Try.prog 77 ir77 ir77_v = true)
theorem M_15 : c_15.modes = [.bor] := rfl
theorem Fl_15 : c_15.flat = true := rfl
attribute [go_sem] M_15 Fl_15
def E_15_l1 (s_ : List UInt8) (t15 : Int) : Int → St
 | t16 => ⟨[.str s_, .any, .any, .any, .any, .int .i64 t15, .int .i64 t16, .any], [], [], true⟩
def R_15_l1 (s_ : List UInt8) (t15 : Int) : (Unit ⊕ Bool) → Res
 | .inl y => (.exit 0, ⟨[.any, .any, .any, .any, .any, .any, .any, .any], [], [], true⟩)
 | .inr y => (.ret, ⟨[.any, .bool y, .any, .any, .any, .any, .any, .any], [], [], true⟩)
theorem impl_IsName_l1_ex {s_ : List UInt8} {t15 : Int} {sgm_ : Int} {rho_ : Unit ⊕ Bool} (h : whileE (impl_IsName_l1 s_ t15) sgm_ = some rho_) : ∃ L0, ∀ L, L0 ≤ L → iter (exec (look t_15) L ir77_b0) ir77_k0 ir77_o0 ir77_r0 L (E_15_l1 s_ t15 sgm_) = R_15_l1 s_ t15 rho_ := by
 refine loop_ex (E := E_15_l1 s_ t15) (R := R_15_l1 s_ t15) (fun y => by first | (intro c; cases c) | (rcases y with y | y <;> (intro c; cases c)) | (rcases y with y | y | y <;> (intro c; cases c))) ?_ h
 clear h
 intro t16 o_ h
 dsimp only [impl_IsName_l1] at h
 rcases it_some h with ⟨z2, h⟩ | ⟨z2, h⟩
 ·try simp only [go_sem, n1, n2, n3, n4] at z2
  all_goals
  obtain ⟨z3, h⟩ := ck_some h
  try simp only [go_sem, n1, n2, n3, n4, z2] at z3
  all_goals
  rcases it_some h with ⟨z4, h⟩ | ⟨z4, h⟩
  ·try simp only [go_sem, n1, n2, n3, n4, z2, z3] at z4
   all_goals
   obtain rfl := so_some h
   refine ⟨0, fun L hL => ?_⟩
   simp only [go_sem, ir77, E_15_l1, R_15_l1, ir77_b0, ir77_k0, ir77_o0, ir77_r0, z2, z3, z4]
  ·try simp only [go_sem, n1, n2, n3, n4, z2, z3] at z4
   all_goals
   obtain rfl := so_some h
   refine ⟨0, fun L hL => ?_⟩
   simp only [go_sem, ir77, E_15_l1, R_15_l1, ir77_b0, ir77_k0, ir77_o0, ir77_r0, z2, z3, z4]
 ·try simp only [go_sem, n1, n2, n3, n4] at z2
  all_goals
  obtain rfl := so_some h
  refine ⟨0, fun L hL => ?_⟩
  simp only [go_sem, ir77, E_15_l1, R_15_l1, ir77_b0, ir77_k0, ir77_o0, ir77_r0, z2]

theorem Fs_15 {s_ : List UInt8} {y_ : Bool} (h : impl_IsName s_ = some y_) : c_15.F [.str s_] = ⟨true, .bool y_, [.any]⟩ := by
 refine mkF_E rfl ?_
 dsimp only [impl_IsName] at h
 rcases it_some h with ⟨z1, h⟩ | ⟨z1, h⟩
 ·try simp only [go_sem, n1, n2, n3, n4] at z1
  all_goals
  obtain rfl := so_some h
  refine ⟨0, fun L hL => ?_⟩
  simp only [go_sem, ir77, E_15_l1, R_15_l1, ir77_k0, ir77_o0, ir77_r0, z1]
 ·try simp only [go_sem, n1, n2, n3, n4] at z1
  all_goals
  obtain ⟨y_5, z5, h⟩ := bd_some h
  obtain ⟨Lz5, ez5⟩ := impl_IsName_l1_ex z5
  rcases y_5 with y_5a | y_5b
  ·dsimp only at h
   obtain rfl := so_some h
   refine ⟨Lz5, fun L hL => ?_⟩
   have ez5 := ez5 L (by omega)
   try simp only [go_sem, E_15_l1, R_15_l1, ir77_k0, ir77_o0, ir77_r0, z1] at ez5
   simp only [go_sem, ir77, E_15_l1, R_15_l1, ir77_k0, ir77_o0, ir77_r0, z1, ez5]
  ·dsimp only at h
   obtain rfl := so_some h
   refine ⟨Lz5, fun L hL => ?_⟩
   have ez5 := ez5 L (by omega)
   try simp only [go_sem, E_15_l1, R_15_l1, ir77_k0, ir77_o0, ir77_r0, z1] at ez5
   simp only [go_sem, ir77, E_15_l1, R_15_l1, ir77_k0, ir77_o0, ir77_r0, z1, ez5]


def ir89_v : List Nat := [0, 1, 2, 3]
def ir89 : AFn := ⟨1, 4, .seq (.region false [ VO 1 1 (.box (.v 0)), VO 2 2 (.mov (.c (.bool false)))]) (.seq (.region false [ PO 4 (.fldAddr 1 (.v 1)), PO 5 (.load false 1 (.s 0)), PO 6 (.call 51 [(.s 0)]), PO 7 (.mov (.s 0)), ⟨.push, 8, (some ((.s 0), true)), .fldAddr 2 (.v 1)⟩, ⟨.push, 9, (some ((.s 1), true)), .load false 1 (.s 0)⟩, ⟨.push, 10, (some ((.s 2), true)), .call 51 [(.s 0)]⟩, PO 11 (.pick (.s 3) (.s 0) (.c (.bool false))), PO 12 (.mov (.s 0)), ⟨.push, 13, (some ((.s 0), true)), .fldAddr 1 (.v 1)⟩, ⟨.push, 14, (some ((.s 1), true)), .load false 1 (.s 0)⟩, ⟨.push, 15, (some ((.s
 2), true)), .fldAddr 2 (.v 1)⟩, ⟨.push, 16, (some ((.s 3), true)), .load false 1 (.s 0)⟩, ⟨.push, 17, (some ((.s 4), true)), .bin false .leq (.s 2) (.s 0)⟩, PO 18 (.pick (.s 5) (.s 0) (.c (.bool false))), VS 3 3 0]) (.seq (.region false [ PO 19 (.fldAddr 0 (.v 1)), PO 20 (.load false 1 (.s 0)), PO 21 (.call 77 [(.s 0)]), PO 22 (.mov (.s 0)), ⟨.push, 23, (some ((.s 0), true)), .mov (.v 3)⟩, PO 24 (.pick (.s 1) (.s 0) (.c (.bool false))), PO 25 (.mov (.s 0)), ⟨.push, 26, (some ((.s 0), true)), .fldAddr 3 (.v 1)⟩, ⟨.push, 27, (some ((.s 1), true)), .load false 1 (.s 0)⟩, ⟨.push, 28, (some ((.s
 2), true)), .call 43 [(.s 0), (I6 1), (I6 1000000)]⟩, PO 29 (.pick (.s 3) (.s 0) (.c (.bool false))), PO 30 (.mov (.s 0)), ⟨.push, 31, (some ((.s 0), true)), .fldAddr 4 (.v 1)⟩, ⟨.push, 32, (some ((.s 1), true)), .load false 1 (.s 0)⟩, ⟨.push, 33, (some ((.s 2), true)), .call 43 [(.s 0), (I6 0), (I6 5)]⟩, PO 34 (.pick (.s 3) (.s 0) (.c (.bool false))), VS 2 2 0]) (.ret))), [.t 2]⟩
noncomputable def t_16 : List (Nat × Ctr) := [(51, c_14), (77, c_15), (43, c_13)]
theorem lk_16_51 : look t_16 51 = some c_14 := rfl
theorem lk_16_77 : look t_16 77 = some c_15 := rfl
theorem lk_16_43 : look t_16 43 = some c_13 := rfl
noncomputable def c_16 : Ctr := mkF t_16 ir89 [.bor]
theorem s_16 : Sound Try.prog 89 c_16 := mkF_sound _ rfl (snd_cons s_14 (snd_cons s_15 (snd_cons s_13 snd_nil))) (by kernel_rfl : chkFn Try.prog 89 ir89 ir89_v = true)
theorem M_16 : c_16.modes = [.bor] := rfl
theorem Fl_16 : c_16.flat = true := rfl
attribute [go_sem] M_16 Fl_16
attribute [go_sem] lk_16_51 lk_16_77 lk_16_43
theorem Fs_16 {x : Volume} {y_ : Bool} (h : impl_isVolume x = some y_) : c_16.F [Volume_av x] = ⟨true, .bool y_, [.any]⟩ := by
 refine mkF_E rfl ?_
 dsimp only [impl_isVolume] at h
 obtain ⟨y_1, z1, h⟩ := bd_some h
 have fz1 := Fs_14 z1
 try simp only [go_sem] at fz1
 obtain ⟨z2, h⟩ := ck_some h
 rcases or_split z2 with ⟨gz2, z2⟩ | gz2
 ·try simp only [go_sem, n1, n2, n3, n4] at gz2
  all_goals
  obtain ⟨y_2, hz2⟩ := Option.isSome_iff_exists.1 z2
  have fz2 := Fs_14 hz2
  try simp only [go_sem, n1, n2, n3, n4, gz2] at hz2
  all_goals
  try simp only [go_sem, gz2] at fz2
  obtain ⟨y_3, z3, h⟩ := bd_some h
  have fz3 := Fs_15 z3
  try simp only [go_sem, gz2, hz2] at fz3
  obtain ⟨z4, h⟩ := ck_some h
  rcases or_split z4 with ⟨gz4, z4⟩ | gz4
  ·try simp only [go_sem, n1, n2, n3, n4, gz2, hz2] at gz4
   all_goals
   obtain ⟨y_4, hz4⟩ := Option.isSome_iff_exists.1 z4
   have fz4 := Fs_13 hz4
   try simp only [go_sem, n1, n2, n3, n4, gz2, hz2, gz4] at hz4
   all_goals
   try simp only [go_sem, gz2, hz2, gz4] at fz4
   obtain ⟨z5, h⟩ := ck_some h
   rcases or_split z5 with ⟨gz5, z5⟩ | gz5
   ·try simp only [go_sem, n1, n2, n3, n4, gz2, hz2, gz4, hz4] at gz5
    all_goals
    obtain ⟨y_5, hz5⟩ := Option.isSome_iff_exists.1 z5
    have fz5 := Fs_13 hz5
    try simp only [go_sem, n1, n2, n3, n4, gz2, hz2, gz4, hz4, gz5] at hz5
    all_goals
    try simp only [go_sem, gz2, hz2, gz4, hz4, gz5] at fz5
    obtain rfl := so_some h
    refine ⟨0, fun L hL => ?_⟩
    simp only [go_sem, ir89, fz1, gz2, hz2, fz2, fz3, gz4, hz4, fz4, gz5, hz5, fz5]
   ·try simp only [go_sem, n1, n2, n3, n4, gz2, hz2, gz4, hz4] at gz5
    all_goals
    obtain rfl := so_some h
    refine ⟨0, fun L hL => ?_⟩
    simp only [go_sem, ir89, fz1, gz2, hz2, fz2, fz3, gz4, hz4, fz4, gz5]
  ·rcases and_f gz4 with gz4a | ⟨gz4a, gz4b⟩
   ·try simp only [go_sem, n1, n2, n3, n4, gz2, hz2] at gz4a
    all_goals
    obtain ⟨z5, h⟩ := ck_some h
    obtain rfl := so_some h
    refine ⟨0, fun L hL => ?_⟩
    simp only [go_sem, ir89, fz1, gz2, hz2, fz2, fz3, gz4a]
   ·rcases and_f gz4b with gz4ba | ⟨gz4ba, gz4bb⟩
    ·rcases and_f gz4ba with gz4baa | ⟨gz4baa, gz4bab⟩
     ·try simp only [go_sem, n1, n2, n3, n4, gz2, hz2, gz4a] at gz4baa
      all_goals
      (simp_all)
     ·try simp only [go_sem, n1, n2, n3, n4, gz2, hz2] at gz4a
      all_goals
      try simp only [go_sem, n1, n2, n3, n4, gz2, hz2, gz4a] at gz4baa
      all_goals
      try simp only [go_sem, n1, n2, n3, n4, gz2, hz2, gz4a, gz4baa] at gz4bab
      all_goals
      obtain ⟨z5, h⟩ := ck_some h
      obtain rfl := so_some h
      refine ⟨0, fun L hL => ?_⟩
      simp only [go_sem, ir89, fz1, gz2, hz2, fz2, fz3, gz4a, gz4baa, gz4bab]
    ·obtain ⟨gz4baa, gz4bab⟩ := and_t gz4ba
     try simp only [go_sem, n1, n2, n3, n4, gz2, hz2] at gz4a
     all_goals
     try simp only [go_sem, n1, n2, n3, n4, gz2, hz2, gz4a] at gz4baa
     all_goals
     try simp only [go_sem, n1, n2, n3, n4, gz2, hz2, gz4a, gz4baa] at gz4bab
     all_goals
     try simp only [go_sem, n1, n2, n3, n4, gz2, hz2, gz4a, gz4baa, gz4bab] at gz4bb
     all_goals
     obtain ⟨z5, h⟩ := ck_some h
     obtain rfl := so_some h
     refine ⟨0, fun L hL => ?_⟩
     simp only [go_sem, ir89, fz1, gz2, hz2, fz2, fz3, gz4a, gz4baa, gz4bab, gz4bb]
 ·try simp only [go_sem, n1, n2, n3, n4] at gz2
  all_goals
  obtain ⟨y_3, z3, h⟩ := bd_some h
  have fz3 := Fs_15 z3
  try simp only [go_sem, gz2] at fz3
  obtain ⟨z4, h⟩ := ck_some h
  obtain ⟨z5, h⟩ := ck_some h
  obtain rfl := so_some h
  refine ⟨0, fun L hL => ?_⟩
  simp only [go_sem, ir89, fz1, gz2, fz3]


def ir90_v : List Nat := [0, 1, 2]
def ir90 : AFn := ⟨1, 3, .seq (.region false [ VO 1 1 (.box (.v 0)), VO 2 2 (.mov (.c (.str [])))]) (.seq (.region false [ PO 3 (.fldAddr 0 (.v 1)), PO 4 (.load false 1 (.s 0)), VS 2 2 0]) (.ret)), [.t 2]⟩
noncomputable def t_17 : List (Nat × Ctr) := []
noncomputable def c_17 : Ctr := mkF t_17 ir90 [.bor]
theorem s_17 : Sound Try.prog 90 c_17 := mkF_sound _ rfl snd_nil (by kernel_rfl : chkFn Try.prog 90 ir90 ir90_v = true)
theorem M_17 : c_17.modes = [.bor] := rfl
theorem Fl_17 : c_17.flat = true := rfl
attribute [go_sem] M_17 Fl_17
theorem Fs_17 {x : Volume} {y_ : (List UInt8)} (h : impl_volumeName x = some y_) : c_17.F [Volume_av x] = ⟨true, .str y_, [.any]⟩ := by
 refine mkF_E rfl ?_
 dsimp only [impl_volumeName] at h
 obtain rfl := so_some h
 refine ⟨0, fun L hL => ?_⟩
 simp only [go_sem, ir90]


def ir88_b0 : IR := .seq (.region false [ VO 10 18 (.bin false .lss (.v 9) (.v 8))]) (.seq (.cond (.v 10) (.skip) (.exit 0)) (.seq (.block 1 (.seq (.region false [ PM 19 9, PO 20 (.ixAddr 5 (.v 7) (.v 9)), PO 21 (.load true 5 (.s 0)), VO 6 10 (.alloc (.agg [.str [], .int .i64 (0), .int .i64 (0), .int .i64 (0), .int .i64 (0)])), VS 5 9 2, ⟨.no, 0, none, .store 5 (.v 6) (.s 0)⟩]) (.anyo 21 [ SO 0 22 (.mov (.v 2)), SO 1 23 (.load true 5 (.v 6)), SO 2 24 (.pur (.callv (.s 0) [(.s 1)])), SO 3 25 (.un .not (.s 2)), SO 4 26 (.mov (.s 3)), ⟨.slot 5, 27, (some ((.s 4), false)), .mov (.v 5)⟩, ⟨.slot 6,
 28, (some ((.s 4), false)), .bin false .gtr (.s 5) (I6 0)⟩, ⟨.slot 7, 29, (some ((.s 4), false)), .mov (.s 6)⟩, ⟨.slot 8, 30, (some ((.s 7), true)), .mov (.v 3)⟩, ⟨.slot 9, 31, (some ((.s 7), true)), .mov (.v 0)⟩, ⟨.slot 10, 32, (some ((.s 7), true)), .mov (.v 5)⟩, ⟨.slot 11, 33, (some ((.s 7), true)), .bin false .sub (.s 10) (I6 1)⟩, ⟨.slot 12, 34, (some ((.s 7), true)), .ixAddr 5 (.s 9) (.s 11)⟩, ⟨.slot 13, 35, (some ((.s 7), true)), .load true 5 (.s 12)⟩, ⟨.slot 14, 36, (some ((.s 7), true)), .callv (.s 8) [(.s 13)]⟩, ⟨.slot 15, 37, (some ((.s 7), true)), .mov (.v 3)⟩, ⟨.slot 16, 38, (some
 ((.s 7), true)), .load true 5 (.v 6)⟩, ⟨.slot 17, 39, (some ((.s 7), true)), .callv (.s 15) [(.s 16)]⟩, ⟨.slot 18, 40, (some ((.s 7), true)), .bin false .geq (.s 14) (.s 17)⟩, ⟨.slot 19, 41, (some ((.s 4), false)), .pick (.s 7) (.s 18) (.c (.bool false))⟩, SO 20 42 (.pick (.s 4) (.c (.bool true)) (.s 19))] [] (.cond (.s 20) (.seq (.region false [ VO 4 8 (.mov (.c (.bool false)))]) (.ret)) (.skip))))) (.region false [ PO 43 (.bin false .add (.v 9) (I6 1)), VS 9 17 0])))
def ir88_k0 : List Bool := [true, false, true, true, false, false, false, true, true, true, false]
def ir88_o0 : List Bool := [false, false, false, false, false, false, false, false, false, false, false]
def ir88_r0 : List Bool := [false, false, false, false, true, false, false, false, false, false, false]
def ir88_v : List Nat := [0, 1, 2, 3, 8, 9, 10, 15, 16, 17, 18]
def ir88 : AFn := ⟨4, 11, .seq (.region false [ VO 4 8 (.mov (.c (.bool false)))]) (.seq (.test false [ PM 11 0, PO 12 (.len false (.s 0)), PM 13 1, PO 14 (.bin false .gtr (.s 1) (.s 0))] (.s 0) (.seq (.region false [ VO 4 8 (.mov (.c (.bool false)))]) (.ret)) (.skip)) (.seq (.seq (.region false [ VO 7 15 (.mov (.v 0)), VO 8 16 (.len false (.v 7)), VO 9 17 (.mov (I6 0))]) (.block 0 (.loop ir88_k0 ir88_o0 ir88_r0 ir88_b0))) (.seq (.region false [ VO 4 8 (.mov (.c (.bool true)))]) (.ret)))), [.t 4]⟩
noncomputable def t_18 : List (Nat × Ctr) := [(89, c_16), (90, c_17)]
theorem lk_18_89 : look t_18 89 = some c_16 := rfl
theorem lk_18_90 : look t_18 90 = some c_17 := rfl
noncomputable def c_18 : Ctr := mkF t_18 ir88 [.bor, .bor, .bor, .bor]
theorem s_18 : Sound Try.prog 88 c_18 := mkF_sound _ rfl (snd_cons s_16 (snd_cons s_17 snd_nil)) (by kernel_rfl : chkFn Try.prog 88 ir88 ir88_v = true)
theorem M_18 : c_18.modes = [.bor, .bor, .bor, .bor] := rfl
theorem Fl_18 : c_18.flat = true := rfl
attribute [go_sem] M_18 Fl_18
attribute [go_sem] lk_18_89 lk_18_90
def E_18_l1 (list : List Volume) (t15 : List Volume) (t16 : Int) : Int → St
 | t17 => ⟨[.sl 5 (List.map Volume_av list), .any, .fn (.func 89) [] [], .fn (.func 90) [] [], .any, .any, .any, .sl 5 (List.map Volume_av t15), .int .i64 t16, .int .i64 t17, .any], [], [], true⟩
def R_18_l1 (list : List Volume) (t15 : List Volume) (t16 : Int) : (Unit ⊕ Bool) → Res
 | .inl y => (.exit 0, ⟨[.any, .any, .any, .any, .any, .any, .any, .any, .any, .any, .any], [], [], true⟩)
 | .inr y => (.ret, ⟨[.any, .any, .any, .any, .bool y, .any, .any, .any, .any, .any, .any], [], [], true⟩)
theorem impl_rising_impl_Volume__impl_isVolume__impl_volumeName_l1_ex {list : List Volume} {t15 : List Volume} {t16 : Int} {sgm_ : Int} {rho_ : Unit ⊕ Bool} (h : whileE (impl_rising_impl_Volume__impl_isVolume__impl_volumeName_l1 list t15 t16) sgm_ = some rho_) : ∃ L0, ∀ L, L0 ≤ L → iter (exec (look t_18) L ir88_b0) ir88_k0 ir88_o0 ir88_r0 L (E_18_l1 list t15 t16 sgm_) = R_18_l1 list t15 t16 rho_ := by
 refine loop_ex (E := E_18_l1 list t15 t16) (R := R_18_l1 list t15 t16) (fun y => by first | (intro c; cases c) | (rcases y with y | y <;> (intro c; cases c)) | (rcases y with y | y | y <;> (intro c; cases c))) ?_ h
 clear h
 intro t17 o_ h
 dsimp only [impl_rising_impl_Volume__impl_isVolume__impl_volumeName_l1] at h
 rcases it_some h with ⟨z2, h⟩ | ⟨z2, h⟩
 ·try simp only [go_sem, n1, n2, n3, n4] at z2
  all_goals
  obtain ⟨z3, h⟩ := ck_some h
  have lz3 := ix_lt z3
  have xz3 := getD_mapD Volume_av t15 lz3
  try simp only [go_sem] at lz3
  try simp only [go_sem] at xz3
  try simp only [go_sem, n1, n2, n3, n4, z2] at z3
  all_goals
  obtain ⟨y_4, z4, h⟩ := bd_some h
  have fz4 := Fs_16 z4
  try simp only [go_sem, z2, z3] at fz4
  obtain ⟨z5, h⟩ := ck_some h
  rcases or_split z5 with ⟨gz5, z5⟩ | gz5
  ·try simp only [go_sem, n1, n2, n3, n4, z2, z3] at gz5
   all_goals
   have lz5 := ix_lt z5
   have xz5 := getD_mapD Volume_av list lz5
   try simp only [go_sem] at lz5
   try simp only [go_sem] at xz5
   try simp only [go_sem, n1, n2, n3, n4, z2, z3, gz5] at z5
   all_goals
   obtain ⟨z6, h⟩ := ck_some h
   rcases or_split z6 with ⟨gz6, z6⟩ | gz6
   ·try simp only [go_sem, n1, n2, n3, n4, z2, z3, gz5, z5] at gz6
    all_goals
    obtain ⟨y_6, hz6⟩ := Option.isSome_iff_exists.1 z6
    have fz6 := Fs_17 hz6
    try simp only [go_sem, n1, n2, n3, n4, z2, z3, gz5, z5, gz6] at hz6
    all_goals
    try simp only [go_sem, z2, z3, gz5, z5, gz6] at fz6
    obtain ⟨z7, h⟩ := ck_some h
    rcases or_split z7 with ⟨gz7, z7⟩ | gz7
    ·try simp only [go_sem, n1, n2, n3, n4, z2, z3, gz5, z5, gz6, hz6] at gz7
     all_goals
     obtain ⟨y_7, hz7⟩ := Option.isSome_iff_exists.1 z7
     have fz7 := Fs_17 hz7
     try simp only [go_sem, n1, n2, n3, n4, z2, z3, gz5, z5, gz6, hz6, gz7] at hz7
     all_goals
     try simp only [go_sem, z2, z3, gz5, z5, gz6, hz6, gz7] at fz7
     rcases it_some h with ⟨z8, h⟩ | ⟨z8, h⟩
     ·try simp only [go_sem, n1, n2, n3, n4, z2, z3, gz5, z5, gz6, hz6, gz7, hz7] at z8
      all_goals
      obtain rfl := so_some h
      refine ⟨0, fun L hL => ?_⟩
      simp only [go_sem, ir88, E_18_l1, R_18_l1, ir88_b0, ir88_k0, ir88_o0, ir88_r0, z2, z3, lz3, xz3, fz4, gz5, z5, lz5, xz5, gz6, hz6, fz6, gz7, hz7, fz7, z8]
     ·try simp only [go_sem, n1, n2, n3, n4, z2, z3, gz5, z5, gz6, hz6, gz7, hz7] at z8
      all_goals
      obtain rfl := so_some h
      refine ⟨0, fun L hL => ?_⟩
      simp only [go_sem, ir88, E_18_l1, R_18_l1, ir88_b0, ir88_k0, ir88_o0, ir88_r0, z2, z3, lz3, xz3, fz4, gz5, z5, lz5, xz5, gz6, hz6, fz6, gz7, hz7, fz7, z8]
    ·rcases and_f gz7 with gz7a | ⟨gz7a, gz7b⟩
     ·try simp only [go_sem, n1, n2, n3, n4, z2, z3, gz5, z5, gz6, hz6] at gz7a
      all_goals
      (simp_all)
     ·have gz7an := no_t gz7a
      have gz7ann := no_f gz7an
      try simp only [go_sem, n1, n2, n3, n4, z2, z3, gz5, z5, gz6, hz6] at gz7ann
      all_goals
      try simp only [go_sem, n1, n2, n3, n4, z2, z3, gz5, z5, gz6, hz6, gz7ann] at gz7b
      all_goals
      rcases it_some h with ⟨z8, h⟩ | ⟨z8, h⟩
      ·try simp only [go_sem, n1, n2, n3, n4, z2, z3, gz5, z5, gz6, hz6, gz7ann, gz7b] at z8
       all_goals
       (simp_all)
      ·try simp only [go_sem, n1, n2, n3, n4, z2, z3, gz5, z5, gz6, hz6, gz7ann, gz7b] at z8
       all_goals
       obtain rfl := so_some h
       refine ⟨0, fun L hL => ?_⟩
       simp only [go_sem, ir88, E_18_l1, R_18_l1, ir88_b0, ir88_k0, ir88_o0, ir88_r0, z2, z3, lz3, xz3, fz4, gz5, z5, lz5, xz5, gz6, hz6, fz6, gz7ann, gz7b, z8]
   ·rcases and_f gz6 with gz6a | ⟨gz6a, gz6b⟩
    ·try simp only [go_sem, n1, n2, n3, n4, z2, z3, gz5, z5] at gz6a
     all_goals
     (simp_all)
    ·have gz6an := no_t gz6a
     have gz6ann := no_f gz6an
     try simp only [go_sem, n1, n2, n3, n4, z2, z3, gz5, z5] at gz6ann
     all_goals
     try simp only [go_sem, n1, n2, n3, n4, z2, z3, gz5, z5, gz6ann] at gz6b
     all_goals
     obtain ⟨z7, h⟩ := ck_some h
     rcases or_split z7 with ⟨gz7, z7⟩ | gz7
     ·try simp only [go_sem, n1, n2, n3, n4, z2, z3, gz5, z5, gz6ann, gz6b] at gz7
      all_goals
      obtain ⟨y_7, hz7⟩ := Option.isSome_iff_exists.1 z7
      have fz7 := Fs_17 hz7
      try simp only [go_sem, n1, n2, n3, n4, z2, z3, gz5, z5, gz6ann, gz6b, gz7] at hz7
      all_goals
      try simp only [go_sem, z2, z3, gz5, z5, gz6ann, gz6b, gz7] at fz7
      rcases it_some h with ⟨z8, h⟩ | ⟨z8, h⟩
      ·try simp only [go_sem, n1, n2, n3, n4, z2, z3, gz5, z5, gz6ann, gz6b, gz7, hz7] at z8
       all_goals
       obtain rfl := so_some h
       refine ⟨0, fun L hL => ?_⟩
       simp only [go_sem, ir88, E_18_l1, R_18_l1, ir88_b0, ir88_k0, ir88_o0, ir88_r0, z2, z3, lz3, xz3, fz4, gz5, z5, lz5, xz5, gz6ann, gz6b, gz7, hz7, fz7, z8]
      ·try simp only [go_sem, n1, n2, n3, n4, z2, z3, gz5, z5, gz6ann, gz6b, gz7, hz7] at z8
       all_goals
       obtain rfl := so_some h
       refine ⟨0, fun L hL => ?_⟩
       simp only [go_sem, ir88, E_18_l1, R_18_l1, ir88_b0, ir88_k0, ir88_o0, ir88_r0, z2, z3, lz3, xz3, fz4, gz5, z5, lz5, xz5, gz6ann, gz6b, gz7, hz7, fz7, z8]
     ·rcases and_f gz7 with gz7a | ⟨gz7a, gz7b⟩
      ·try simp only [go_sem, n1, n2, n3, n4, z2, z3, gz5, z5, gz6ann, gz6b] at gz7a
       all_goals
       (simp_all)
      ·have gz7an := no_t gz7a
       have gz7ann := no_f gz7an
       try simp only [go_sem, n1, n2, n3, n4, z2, z3, gz5, z5, gz6ann, gz6b] at gz7ann
       all_goals
       try simp only [go_sem, n1, n2, n3, n4, z2, z3, gz5, z5, gz6ann, gz6b, gz7ann] at gz7b
       all_goals
       rcases it_some h with ⟨z8, h⟩ | ⟨z8, h⟩
       ·try simp only [go_sem, n1, n2, n3, n4, z2, z3, gz5, z5, gz6ann, gz6b, gz7ann, gz7b] at z8
        all_goals
        (simp_all)
       ·try simp only [go_sem, n1, n2, n3, n4, z2, z3, gz5, z5, gz6ann, gz6b, gz7ann, gz7b] at z8
        all_goals
        obtain rfl := so_some h
        refine ⟨0, fun L hL => ?_⟩
        simp only [go_sem, ir88, E_18_l1, R_18_l1, ir88_b0, ir88_k0, ir88_o0, ir88_r0, z2, z3, lz3, xz3, fz4, gz5, z5, lz5, xz5, gz6ann, gz6b, gz7ann, gz7b, z8]
  ·rcases and_f gz5 with gz5a | ⟨gz5a, gz5b⟩
   ·have gz5an := no_f gz5a
    have gz5ann := no_t gz5an
    try simp only [go_sem, n1, n2, n3, n4, z2, z3] at gz5ann
    all_goals
    obtain ⟨z6, h⟩ := ck_some h
    obtain ⟨z7, h⟩ := ck_some h
    rcases it_some h with ⟨z8, h⟩ | ⟨z8, h⟩
    ·try simp only [go_sem, n1, n2, n3, n4, z2, z3, gz5ann] at z8
     all_goals
     obtain rfl := so_some h
     refine ⟨0, fun L hL => ?_⟩
     simp only [go_sem, ir88, E_18_l1, R_18_l1, ir88_b0, ir88_k0, ir88_o0, ir88_r0, z2, z3, lz3, xz3, fz4, gz5ann, z8]
    ·try simp only [go_sem, n1, n2, n3, n4, z2, z3, gz5ann] at z8
     all_goals
     (simp_all)
   ·have gz5an := no_t gz5a
    have gz5ann := no_f gz5an
    try simp only [go_sem, n1, n2, n3, n4, z2, z3] at gz5ann
    all_goals
    try simp only [go_sem, n1, n2, n3, n4, z2, z3, gz5ann] at gz5b
    all_goals
    obtain ⟨z6, h⟩ := ck_some h
    obtain ⟨z7, h⟩ := ck_some h
    rcases it_some h with ⟨z8, h⟩ | ⟨z8, h⟩
    ·try simp only [go_sem, n1, n2, n3, n4, z2, z3, gz5ann, gz5b] at z8
     all_goals
     (simp_all)
    ·try simp only [go_sem, n1, n2, n3, n4, z2, z3, gz5ann, gz5b] at z8
     all_goals
     obtain rfl := so_some h
     refine ⟨0, fun L hL => ?_⟩
     simp only [go_sem, ir88, E_18_l1, R_18_l1, ir88_b0, ir88_k0, ir88_o0, ir88_r0, z2, z3, lz3, xz3, fz4, gz5ann, gz5b, z8]
 ·try simp only [go_sem, n1, n2, n3, n4] at z2
  all_goals
  obtain rfl := so_some h
  refine ⟨0, fun L hL => ?_⟩
  simp only [go_sem, ir88, E_18_l1, R_18_l1, ir88_b0, ir88_k0, ir88_o0, ir88_r0, z2]

theorem Fs_18 {list : List Volume} {most : Int} {y_ : Bool} (h : impl_rising_impl_Volume__impl_isVolume__impl_volumeName list most = some y_) : c_18.F [.sl 5 (List.map Volume_av list), .int .i64 most, .fn (.func 89) [] [], .fn (.func 90) [] []] = ⟨true, .bool y_, [.any, .any, .any, .any]⟩ := by
 refine mkF_E rfl ?_
 dsimp only [impl_rising_impl_Volume__impl_isVolume__impl_volumeName] at h
 rcases it_some h with ⟨z1, h⟩ | ⟨z1, h⟩
 ·try simp only [go_sem, n1, n2, n3, n4] at z1
  all_goals
  obtain rfl := so_some h
  refine ⟨0, fun L hL => ?_⟩
  simp only [go_sem, ir88, E_18_l1, R_18_l1, ir88_k0, ir88_o0, ir88_r0, z1]
 ·try simp only [go_sem, n1, n2, n3, n4] at z1
  all_goals
  obtain ⟨y_9, z9, h⟩ := bd_some h
  obtain ⟨Lz9, ez9⟩ := impl_rising_impl_Volume__impl_isVolume__impl_volumeName_l1_ex z9
  rcases y_9 with y_9a | y_9b
  ·dsimp only at h
   obtain rfl := so_some h
   refine ⟨Lz9, fun L hL => ?_⟩
   have ez9 := ez9 L (by omega)
   try simp only [go_sem, E_18_l1, R_18_l1, ir88_k0, ir88_o0, ir88_r0, z1] at ez9
   simp only [go_sem, ir88, E_18_l1, R_18_l1, ir88_k0, ir88_o0, ir88_r0, z1, ez9]
  ·dsimp only at h
   obtain rfl := so_some h
   refine ⟨Lz9, fun L hL => ?_⟩
   have ez9 := ez9 L (by omega)
   try simp only [go_sem, E_18_l1, R_18_l1, ir88_k0, ir88_o0, ir88_r0, z1] at ez9
   simp only [go_sem, ir88, E_18_l1, R_18_l1, ir88_k0, ir88_o0, ir88_r0, z1, ez9]


def ir50_v : List Nat := [0, 2]
def ir50 : AFn := ⟨1, 2, .seq (.region false [ VO 1 2 (.mov (.c (.bool false)))]) (.seq (.region false [ PM 3 0, PO 4 (.call 88 [(.s 0), (I6 40), (.c (.fn (.func 89) [] [])), (.c (.fn (.func 90) [] []))]), VS 1 2 0]) (.ret)), [.t 1]⟩
noncomputable def t_19 : List (Nat × Ctr) := [(88, c_18)]
theorem lk_19_88 : look t_19 88 = some c_18 := rfl
noncomputable def c_19 : Ctr := mkF t_19 ir50 [.bor]
theorem s_19 : Sound Try.prog 50 c_19 := mkF_sound _ rfl (snd_cons s_18 snd_nil) (by kernel_rfl : chkFn Try.prog 50 ir50 ir50_v = true)
theorem M_19 : c_19.modes = [.bor] := rfl
theorem Fl_19 : c_19.flat = true := rfl
attribute [go_sem] M_19 Fl_19
attribute [go_sem] lk_19_88
theorem Fs_19 {list : List Volume} {y_ : Bool} (h : impl_ValidVolumes list = some y_) : c_19.F [.sl 5 (List.map Volume_av list)] = ⟨true, .bool y_, [.any]⟩ := by
 refine mkF_E rfl ?_
 dsimp only [impl_ValidVolumes] at h
 obtain ⟨y_1, z1, h⟩ := bd_some h
 have fz1 := Fs_18 z1
 try simp only [go_sem] at fz1
 obtain rfl := so_some h
 refine ⟨0, fun L hL => ?_⟩
 simp only [go_sem, ir50, fz1]


def ir42_v : List Nat := [0, 1, 2, 6]
def ir42 : AFn := ⟨3, 4, .seq (.region false [ VO 3 6 (.mov (I6 0))]) (.seq (.block 0 (.test false [ PM 8 0, PO 9 (.call 50 [(.s 0)]), PO 10 (.un .not (.s 0)), PO 7 (.mov (.s 0))] (.s 0) (.seq (.region false [ VO 3 6 (.mov (I6 1))]) (.ret)) (.test false [ PM 12 1, PO 13 (.call 51 [(.s 0)]), PO 14 (.un .not (.s 0)), PO 15 (.mov (.s 0)), ⟨.push, 16, (some ((.s 0), false)), .mov (.v 2)⟩, ⟨.push, 17, (some ((.s 1), false)), .call 51 [(.s 0)]⟩, ⟨.push, 18, (some ((.s 2), false)), .un .not (.s 0)⟩, PO 19 (.pick (.s 3) (.c (.bool true)) (.s 0)), PO 20 (.mov (.s 0)), ⟨.push, 21, (some ((.s 0), false)),
 .mov (.v 1)⟩, ⟨.push, 22, (some ((.s 1), false)), .mov (.v 2)⟩, ⟨.push, 23, (some ((.s 2), false)), .bin false .gtr (.s 1) (.s 0)⟩, PO 24 (.pick (.s 3) (.c (.bool true)) (.s 0)), PO 11 (.mov (.s 0))] (.s 0) (.seq (.region false [ VO 3 6 (.mov (I6 2))]) (.ret)) (.skip)))) (.seq (.region false [ VO 3 6 (.mov (I6 0))]) (.ret))), [.t 3]⟩
noncomputable def t_20 : List (Nat × Ctr) := [(50, c_19), (51, c_14)]
theorem lk_20_50 : look t_20 50 = some c_19 := rfl
theorem lk_20_51 : look t_20 51 = some c_14 := rfl
noncomputable def c_20 : Ctr := mkF t_20 ir42 [.bor, .bor, .bor]
theorem s_20 : Sound Try.prog 42 c_20 := mkF_sound _ rfl (snd_cons s_19 (snd_cons s_14 snd_nil)) (by kernel_rfl : chkFn Try.prog 42 ir42 ir42_v = true)
theorem M_20 : c_20.modes = [.bor, .bor, .bor] := rfl
theorem Fl_20 : c_20.flat = true := rfl
attribute [go_sem] M_20 Fl_20
attribute [go_sem] lk_20_50 lk_20_51
theorem Fs_20 {list : List Volume} {from_ : Int} {to_ : Int} {y_ : Int} (h : impl_archived list from_ to_ = some y_) : c_20.F [.sl 5 (List.map Volume_av list), .int .i64 from_, .int .i64 to_] = ⟨true, .int .i64 y_, [.any, .any, .any]⟩ := by
 refine mkF_E rfl ?_
 dsimp only [impl_archived] at h
 obtain ⟨y_1, z1, h⟩ := bd_some h
 have fz1 := Fs_19 z1
 try simp only [go_sem] at fz1
 rcases it_some h with ⟨z2, h⟩ | ⟨z2, h⟩
 ·try simp only [go_sem, n1, n2, n3, n4] at z2
  all_goals
  obtain rfl := so_some h
  refine ⟨0, fun L hL => ?_⟩
  simp only [go_sem, ir42, fz1, z2]
 ·try simp only [go_sem, n1, n2, n3, n4] at z2
  all_goals
  obtain ⟨y_3, z3, h⟩ := bd_some h
  have fz3 := Fs_14 z3
  try simp only [go_sem, z2] at fz3
  obtain ⟨z4, h⟩ := ck_some h
  rcases or_split z4 with ⟨gz4, z4⟩ | gz4
  ·try simp only [go_sem, n1, n2, n3, n4, z2] at gz4
   all_goals
   obtain ⟨y_4, hz4⟩ := Option.isSome_iff_exists.1 z4
   have fz4 := Fs_14 hz4
   try simp only [go_sem, n1, n2, n3, n4, z2, gz4] at hz4
   all_goals
   try simp only [go_sem, z2, gz4] at fz4
   rcases it_some h with ⟨z5, h⟩ | ⟨z5, h⟩
   ·try simp only [go_sem, n1, n2, n3, n4, z2, gz4, hz4] at z5
    all_goals
    obtain rfl := so_some h
    refine ⟨0, fun L hL => ?_⟩
    simp only [go_sem, ir42, fz1, z2, fz3, gz4, hz4, fz4, z5]
   ·try simp only [go_sem, n1, n2, n3, n4, z2, gz4, hz4] at z5
    all_goals
    obtain rfl := so_some h
    refine ⟨0, fun L hL => ?_⟩
    simp only [go_sem, ir42, fz1, z2, fz3, gz4, hz4, fz4, z5]
  ·have gz4n := no_f gz4
   have gz4nn := no_t gz4n
   try simp only [go_sem, n1, n2, n3, n4, z2] at gz4nn
   all_goals
   rcases it_some h with ⟨z5, h⟩ | ⟨z5, h⟩
   ·try simp only [go_sem, n1, n2, n3, n4, z2, gz4nn] at z5
    all_goals
    obtain rfl := so_some h
    refine ⟨0, fun L hL => ?_⟩
    simp only [go_sem, ir42, fz1, z2, fz3, gz4nn, z5]
   ·try simp only [go_sem, n1, n2, n3, n4, z2, gz4nn] at z5
    all_goals
    (simp_all)


def ir8_b1 : IR := .seq (.region false [ VO 14 29 (.bin false .lss (.v 13) (.v 12))]) (.seq (.cond (.v 14) (.skip) (.exit 2)) (.seq (.block 3 (.seq (.region false [ PM 30 13, PO 31 (.ixAddr 5 (.v 11) (.v 13)), PO 32 (.load true 5 (.s 0)), VO 10 13 (.alloc (.agg [.str [], .int .i64 (0), .int .i64 (0), .int .i64 (0), .int .i64 (0)])), VS 9 12 2, ⟨.no, 0, none, .store 5 (.v 10) (.s 0)⟩]) (.anyo 25 [ SO 0 33 (.fldAddr 4 (.v 10)), SO 1 34 (.load false 1 (.s 0)), SO 2 35 (.bin false .gtr (.s 1) (I6 0)), SO 3 36 (.mov (.s 2)), ⟨.slot 4, 37, (some ((.s 3), true)), .mov (.v 7)⟩, ⟨.slot 5, 38, (some ((.s
 3), true)), .fldAddr 1 (.v 10)⟩, ⟨.slot 6, 39, (some ((.s 3), true)), .load false 1 (.s 5)⟩, ⟨.slot 7, 40, (some ((.s 3), true)), .fldAddr 2 (.v 10)⟩, ⟨.slot 8, 41, (some ((.s 3), true)), .load false 1 (.s 7)⟩, ⟨.slot 9, 42, (some ((.s 3), true)), .call 43 [(.s 4), (.s 6), (.s 8)]⟩, SO 10 43 (.pick (.s 3) (.s 9) (.c (.bool false))), SO 11 44 (.mov (.s 10)), ⟨.slot 12, 45, (some ((.s 11), true)), .mov (.v 8)⟩, ⟨.slot 13, 46, (some ((.s 11), true)), .bin false .lss (.s 12) (I6 0)⟩, ⟨.slot 14, 47, (some ((.s 11), true)), .mov (.s 13)⟩, ⟨.slot 15, 48, (some ((.s 14), false)), .fldAddr 2 (.v 10)⟩,
 ⟨.slot 16, 49, (some ((.s 14), false)), .load false 1 (.s 15)⟩, ⟨.slot 17, 50, (some ((.s 14), false)), .mov (.v 0)⟩, ⟨.slot 18, 51, (some ((.s 14), false)), .mov (.v 8)⟩, ⟨.slot 19, 52, (some ((.s 14), false)), .ixAddr 5 (.s 17) (.s 18)⟩, ⟨.slot 20, 53, (some ((.s 14), false)), .fldAddr 2 (.s 19)⟩, ⟨.slot 21, 54, (some ((.s 14), false)), .load false 1 (.s 20)⟩, ⟨.slot 22, 55, (some ((.s 14), false)), .bin false .gtr (.s 16) (.s 21)⟩, ⟨.slot 23, 56, (some ((.s 11), true)), .pick (.s 14) (.c (.bool true)) (.s 22)⟩, SO 24 57 (.pick (.s 11) (.s 23) (.c (.bool false)))] [] (.cond (.s 24) (.region
 false [ PM 58 9, VS 8 11 0]) (.skip))))) (.region false [ PO 59 (.bin false .add (.v 13) (I6 1)), VS 13 28 0])))
def ir8_k1 : List Bool := [true, false, true, false, false, false, true, true, true, false, false, true, true, true, false]
def ir8_o1 : List Bool := [true, false, true, false, false, false, true, false, true, false, false, false, false, false, false]
def ir8_r1 : List Bool := [false, false, false, true, true, false, false, false, false, false, false, false, false, false, false]
def ir8_b0 : IR := .seq (.test false [ PM 23 7, PM 24 2, PO 25 (.bin false .leq (.s 1) (.s 0))] (.s 0) (.skip) (.exit 0)) (.block 1 (.seq (.region false [ VO 8 11 (.mov (.c (.int .i64 (-1))))]) (.seq (.seq (.region false [ VO 11 26 (.mov (.v 0)), VO 12 27 (.len false (.v 11)), VO 13 28 (.mov (I6 0))]) (.block 2 (.loop ir8_k1 ir8_o1 ir8_r1 ir8_b1))) (.seq (.test false [ PM 60 8, PO 61 (.bin false .lss (.s 0) (I6 0))] (.s 0) (.seq (.region false [ VO 3 6 (.newnil 1), VO 4 7 (.mov (I6 3))]) (.ret)) (.skip)) (.seq (.region false [ PM 62 6, PM 63 8, PO 64 (.mkSl 1 (.int .i64 (0)) 1 [(0, (.s 0))]),
 PO 65 (.app 1 8 (.int .i64 (0)) (.s 2) (.s 0)), VS 6 9 0]) (.region false [ PM 66 0, PM 67 8, PO 68 (.ixAddr 5 (.s 1) (.s 0)), PO 69 (.fldAddr 2 (.s 0)), PO 70 (.load false 1 (.s 0)), PO 71 (.bin false .add (.s 0) (I6 1)), VS 7 10 0]))))))
def ir8_k0 : List Bool := [true, false, true, false, false, false, true, true, false, false, false, false, false, false, false]
def ir8_o0 : List Bool := [false, false, false, false, false, false, true, false, false, false, false, false, false, false, false]
def ir8_r0 : List Bool := [false, false, false, true, true, false, false, false, false, false, false, false, false, false, false]
def ir8_v : List Nat := [0, 1, 2, 6, 7, 8, 9, 10, 11, 12, 13, 26, 27, 28, 29]
def ir8 : AFn := ⟨3, 15, .seq (.region false [ VO 3 6 (.newnil 1), VO 4 7 (.mov (I6 0))]) (.seq (.seq (.region false [ PM 14 0, PM 15 1, PM 16 2, PO 17 (.call 42 [(.s 2), (.s 1), (.s 0)]), VS 5 8 0]) (.test false [ PM 18 5, PO 19 (.bin false .neq (.s 0) (I6 0))] (.s 0) (.seq (.region false [ PM 20 5, VO 3 6 (.newnil 1), VS 4 7 0]) (.ret)) (.skip))) (.seq (.region false [ PO 21 (.mkSl 1 (.int .i64 (0)) 0 []), VS 6 9 0]) (.seq (.seq (.region false [ PM 22 1, VS 7 10 0]) (.block 0 (.loop ir8_k0 ir8_o0 ir8_r0 ir8_b0))) (.seq (.region false [ PM 72 6, VS 3 6 0, VO 4 7 (.mov (I6 0))]) (.ret))))), [.t
 3, .t 4]⟩
noncomputable def t_21 : List (Nat × Ctr) := [(42, c_20), (43, c_13)]
theorem lk_21_42 : look t_21 42 = some c_20 := rfl
theorem lk_21_43 : look t_21 43 = some c_13 := rfl
noncomputable def c_21 : Ctr := mkF t_21 ir8 [.bor, .bor, .bor]
theorem s_21 : Sound Try.prog 8 c_21 := mkF_sound _ rfl (snd_cons s_20 (snd_cons s_13 snd_nil)) (by kernel_rfl : chkFn Try.prog 8 ir8 ir8_v = true)
theorem M_21 : c_21.modes = [.bor, .bor, .bor] := rfl
theorem Fl_21 : c_21.flat = true := rfl
attribute [go_sem] M_21 Fl_21
attribute [go_sem] lk_21_42 lk_21_43
def E_21_l2 (list : List Volume) (to_ : Int) (out : List Int) (t : Int) (t26 : List Volume) (t27 : Int) : (Int × Int) → St
 | (best, t28) => ⟨[.sl 5 (List.map Volume_av list), .any, .int .i64 to_, .any, .any, .any, .own 3200000, .int .i64 t, .int .i64 best, .any, .any, .sl 5 (List.map Volume_av t26), .int .i64 t27, .int .i64 t28, .any], [], [(3200000, ⟨1, List.map (AV.int .i64) out⟩)], true⟩
def R_21_l2 (list : List Volume) (to_ : Int) (out : List Int) (t : Int) (t26 : List Volume) (t27 : Int) (y : Int) : Res := (.exit 2, ⟨[.sl 5 (List.map Volume_av list), .any, .int .i64 to_, .any, .any, .any, .own 3200000, .any, .int .i64 y, .any, .any, .any, .any, .any, .any], [], [(3200000, ⟨1, List.map (AV.int .i64) out⟩)], true⟩)
theorem impl_CoverTime_l2_ex {list : List Volume} {to_ : Int} {out : List Int} {t : Int} {t26 : List Volume} {t27 : Int} {sgm_ : Int × Int} {rho_ : Int} (h : whileE (impl_CoverTime_l2 list to_ out t t26 t27) sgm_ = some rho_) : ∃ L0, ∀ L, L0 ≤ L → iter (exec (look t_21) L ir8_b1) ir8_k1 ir8_o1 ir8_r1 L (E_21_l2 list to_ out t t26 t27 sgm_) = R_21_l2 list to_ out t t26 t27 rho_ := by
 refine loop_ex (E := E_21_l2 list to_ out t t26 t27) (R := R_21_l2 list to_ out t t26 t27) (fun y => by first | (intro c; cases c) | (rcases y with y | y <;> (intro c; cases c)) | (rcases y with y | y | y <;> (intro c; cases c))) ?_ h
 clear h
 rintro ⟨best, t28⟩ o_ h
 dsimp only [impl_CoverTime_l2] at h
 rcases it_some h with ⟨z4, h⟩ | ⟨z4, h⟩
 ·try simp only [go_sem, n1, n2, n3, n4] at z4
  all_goals
  obtain ⟨z5, h⟩ := ck_some h
  have lz5 := ix_lt z5
  have xz5 := getD_mapD Volume_av t26 lz5
  try simp only [go_sem] at lz5
  try simp only [go_sem] at xz5
  try simp only [go_sem, n1, n2, n3, n4, z4] at z5
  all_goals
  obtain ⟨z6, h⟩ := ck_some h
  rcases or_split z6 with ⟨gz6, z6⟩ | gz6
  ·try simp only [go_sem, n1, n2, n3, n4, z4, z5] at gz6
   all_goals
   obtain ⟨y_6, hz6⟩ := Option.isSome_iff_exists.1 z6
   have fz6 := Fs_13 hz6
   try simp only [go_sem, n1, n2, n3, n4, z4, z5, gz6] at hz6
   all_goals
   try simp only [go_sem, z4, z5, gz6] at fz6
   obtain ⟨z7, h⟩ := ck_some h
   rcases or_split z7 with ⟨gz7, z7⟩ | gz7
   ·try simp only [go_sem, n1, n2, n3, n4, z4, z5, gz6, hz6] at gz7
    all_goals
    have lz7 := ix_lt z7
    have xz7 := getD_mapD Volume_av list lz7
    try simp only [go_sem] at lz7
    try simp only [go_sem] at xz7
    try simp only [go_sem, n1, n2, n3, n4, z4, z5, gz6, hz6, gz7] at z7
    all_goals
    rcases it_some h with ⟨z8, h⟩ | ⟨z8, h⟩
    ·try simp only [go_sem, n1, n2, n3, n4, z4, z5, gz6, hz6, gz7, z7] at z8
     all_goals
     obtain rfl := so_some h
     refine ⟨0, fun L hL => ?_⟩
     simp only [go_sem, ir8, E_21_l2, R_21_l2, ir8_b1, ir8_k1, ir8_o1, ir8_r1, z4, z5, lz5, xz5, gz6, hz6, fz6, gz7, z7, lz7, xz7, z8]
    ·try simp only [go_sem, n1, n2, n3, n4, z4, z5, gz6, hz6, gz7, z7] at z8
     all_goals
     obtain rfl := so_some h
     refine ⟨0, fun L hL => ?_⟩
     simp only [go_sem, ir8, E_21_l2, R_21_l2, ir8_b1, ir8_k1, ir8_o1, ir8_r1, z4, z5, lz5, xz5, gz6, hz6, fz6, gz7, z7, lz7, xz7, z8]
   ·rcases and_f gz7 with gz7a | ⟨gz7a, gz7b⟩
    ·rcases and_f gz7a with gz7aa | ⟨gz7aa, gz7ab⟩
     ·try simp only [go_sem, n1, n2, n3, n4, z4, z5, gz6, hz6] at gz7aa
      all_goals
      (simp_all)
     ·try simp only [go_sem, n1, n2, n3, n4, z4, z5, gz6, hz6] at gz7aa
      all_goals
      try simp only [go_sem, n1, n2, n3, n4, z4, z5, gz6, hz6, gz7aa] at gz7ab
      all_goals
      rcases it_some h with ⟨z8, h⟩ | ⟨z8, h⟩
      ·try simp only [go_sem, n1, n2, n3, n4, z4, z5, gz6, hz6, gz7aa, gz7ab] at z8
       all_goals
       (simp_all)
      ·try simp only [go_sem, n1, n2, n3, n4, z4, z5, gz6, hz6, gz7aa, gz7ab] at z8
       all_goals
       obtain rfl := so_some h
       refine ⟨0, fun L hL => ?_⟩
       simp only [go_sem, ir8, E_21_l2, R_21_l2, ir8_b1, ir8_k1, ir8_o1, ir8_r1, z4, z5, lz5, xz5, gz6, hz6, fz6, gz7aa, gz7ab, z8]
    ·obtain ⟨gz7aa, gz7ab⟩ := and_t gz7a
     have gz7bn := no_f gz7b
     try simp only [go_sem, n1, n2, n3, n4, z4, z5, gz6, hz6] at gz7aa
     all_goals
     try simp only [go_sem, n1, n2, n3, n4, z4, z5, gz6, hz6, gz7aa] at gz7ab
     all_goals
     try simp only [go_sem, n1, n2, n3, n4, z4, z5, gz6, hz6, gz7aa, gz7ab] at gz7bn
     all_goals
     rcases it_some h with ⟨z8, h⟩ | ⟨z8, h⟩
     ·try simp only [go_sem, n1, n2, n3, n4, z4, z5, gz6, hz6, gz7aa, gz7ab, gz7bn] at z8
      all_goals
      obtain rfl := so_some h
      refine ⟨0, fun L hL => ?_⟩
      simp only [go_sem, ir8, E_21_l2, R_21_l2, ir8_b1, ir8_k1, ir8_o1, ir8_r1, z4, z5, lz5, xz5, gz6, hz6, fz6, gz7aa, gz7ab, gz7bn, z8]
     ·try simp only [go_sem, n1, n2, n3, n4, z4, z5, gz6, hz6, gz7aa, gz7ab, gz7bn] at z8
      all_goals
      (simp_all)
  ·try simp only [go_sem, n1, n2, n3, n4, z4, z5] at gz6
   all_goals
   obtain ⟨z7, h⟩ := ck_some h
   rcases it_some h with ⟨z8, h⟩ | ⟨z8, h⟩
   ·try simp only [go_sem, n1, n2, n3, n4, z4, z5, gz6] at z8
    all_goals
    (simp_all)
   ·try simp only [go_sem, n1, n2, n3, n4, z4, z5, gz6] at z8
    all_goals
    obtain rfl := so_some h
    refine ⟨0, fun L hL => ?_⟩
    simp only [go_sem, ir8, E_21_l2, R_21_l2, ir8_b1, ir8_k1, ir8_o1, ir8_r1, z4, z5, lz5, xz5, gz6, z8]
 ·try simp only [go_sem, n1, n2, n3, n4] at z4
  all_goals
  obtain rfl := so_some h
  refine ⟨0, fun L hL => ?_⟩
  simp only [go_sem, ir8, E_21_l2, R_21_l2, ir8_b1, ir8_k1, ir8_o1, ir8_r1, z4]

def E_21_l1 (list : List Volume) (to_ : Int) : ((List Int) × Int) → St
 | (out, t) => ⟨[.sl 5 (List.map Volume_av list), .any, .int .i64 to_, .any, .any, .any, .own 3200000, .int .i64 t, .any, .any, .any, .any, .any, .any, .any], [], [(3200000, ⟨1, List.map (AV.int .i64) out⟩)], true⟩
def R_21_l1 (list : List Volume) (to_ : Int) : ((List Int) ⊕ ((List Int) × Int)) → Res
 | .inl y => (.exit 0, ⟨[.any, .any, .any, .any, .any, .any, .own 3200000, .any, .any, .any, .any, .any, .any, .any, .any], [], [(3200000, ⟨1, List.map (AV.int .i64) y⟩)], true⟩)
 | .inr y => (.ret, ⟨[.any, .any, .any, .own 3200000, .int .i64 y.2, .any, .any, .any, .any, .any, .any, .any, .any, .any, .any], [], [(3200000, ⟨1, List.map (AV.int .i64) y.1⟩)], true⟩)
theorem impl_CoverTime_l1_ex {list : List Volume} {to_ : Int} {sgm_ : (List Int) × Int} {rho_ : (List Int) ⊕ ((List Int) × Int)} (h : whileE (impl_CoverTime_l1 list to_) sgm_ = some rho_) : ∃ L0, ∀ L, L0 ≤ L → iter (exec (look t_21) L ir8_b0) ir8_k0 ir8_o0 ir8_r0 L (E_21_l1 list to_ sgm_) = R_21_l1 list to_ rho_ := by
 refine loop_ex (E := E_21_l1 list to_) (R := R_21_l1 list to_) (fun y => by first | (intro c; cases c) | (rcases y with y | y <;> (intro c; cases c)) | (rcases y with y | y | y <;> (intro c; cases c))) ?_ h
 clear h
 rintro ⟨out, t⟩ o_ h
 dsimp only [impl_CoverTime_l1] at h
 rcases it_some h with ⟨z3, h⟩ | ⟨z3, h⟩
 ·try simp only [go_sem, n1, n2, n3, n4] at z3
  all_goals
  obtain ⟨y_9, z9, h⟩ := bd_some h
  obtain ⟨Lz9, ez9⟩ := impl_CoverTime_l2_ex z9
  rcases it_some h with ⟨z10, h⟩ | ⟨z10, h⟩
  ·try simp only [go_sem, n1, n2, n3, n4, z3] at z10
   all_goals
   obtain rfl := so_some h
   refine ⟨Lz9, fun L hL => ?_⟩
   have ez9 := ez9 L (by omega)
   try simp only [go_sem, E_21_l1, R_21_l1, ir8_b0, ir8_k0, ir8_o0, ir8_r0, E_21_l2, R_21_l2, ir8_k1, ir8_o1, ir8_r1, z3, z10] at ez9
   simp only [go_sem, ir8, E_21_l1, R_21_l1, ir8_b0, ir8_k0, ir8_o0, ir8_r0, E_21_l2, R_21_l2, ir8_k1, ir8_o1, ir8_r1, z3, z10, ez9]
  ·try simp only [go_sem, n1, n2, n3, n4, z3] at z10
   all_goals
   obtain ⟨z11, h⟩ := ck_some h
   try simp only [go_sem, n1, n2, n3, n4, z3, z10] at z11
   all_goals
   obtain ⟨z12, h⟩ := ck_some h
   have lz12 := ix_lt z12
   have xz12 := getD_mapD Volume_av list lz12
   try simp only [go_sem] at lz12
   try simp only [go_sem] at xz12
   try simp only [go_sem, n1, n2, n3, n4, z3, z10, z11] at z12
   all_goals
   obtain rfl := so_some h
   refine ⟨Lz9, fun L hL => ?_⟩
   have ez9 := ez9 L (by omega)
   try simp only [go_sem, E_21_l1, R_21_l1, ir8_b0, ir8_k0, ir8_o0, ir8_r0, E_21_l2, R_21_l2, ir8_k1, ir8_o1, ir8_r1, z3, z10, z11, z12] at ez9
   simp only [go_sem, ir8, E_21_l1, R_21_l1, ir8_b0, ir8_k0, ir8_o0, ir8_r0, E_21_l2, R_21_l2, ir8_k1, ir8_o1, ir8_r1, z3, z10, z11, z12, lz12, xz12, ez9]
 ·try simp only [go_sem, n1, n2, n3, n4] at z3
  all_goals
  obtain rfl := so_some h
  refine ⟨0, fun L hL => ?_⟩
  simp only [go_sem, ir8, E_21_l1, R_21_l1, ir8_b0, ir8_k0, ir8_o0, ir8_r0, E_21_l2, R_21_l2, ir8_k1, ir8_o1, ir8_r1, z3]

theorem Fs_21 {list : List Volume} {from_ : Int} {to_ : Int} {y_ : (List Int) × Int} (h : impl_CoverTime list from_ to_ = some y_) : c_21.F [.sl 5 (List.map Volume_av list), .int .i64 from_, .int .i64 to_] = ⟨true, .tup [.fresh 1 (List.map (AV.int .i64) y_.1), .int .i64 y_.2], [.any, .any, .any]⟩ := by
 refine mkF_E (by simp only [flatA, flatB, flat1, List.all_cons, List.all_nil, Bool.and_self, flatE_map (f := (AV.int .i64)) (fun _ => rfl)]) ?_
 dsimp only [impl_CoverTime] at h
 obtain ⟨y_1, z1, h⟩ := bd_some h
 have fz1 := Fs_20 z1
 try simp only [go_sem] at fz1
 rcases it_some h with ⟨z2, h⟩ | ⟨z2, h⟩
 ·try simp only [go_sem, n1, n2, n3, n4] at z2
  all_goals
  obtain rfl := so_some h
  refine ⟨0, fun L hL => ?_⟩
  simp only [go_sem, ir8, E_21_l2, R_21_l2, ir8_k1, ir8_o1, ir8_r1, E_21_l1, R_21_l1, ir8_k0, ir8_o0, ir8_r0, fz1, z2]
 ·try simp only [go_sem, n1, n2, n3, n4] at z2
  all_goals
  obtain ⟨y_13, z13, h⟩ := bd_some h
  obtain ⟨Lz13, ez13⟩ := impl_CoverTime_l1_ex z13
  rcases y_13 with y_13a | y_13b
  ·dsimp only at h
   obtain rfl := so_some h
   refine ⟨Lz13, fun L hL => ?_⟩
   have ez13 := ez13 L (by omega)
   try simp only [go_sem, E_21_l2, R_21_l2, ir8_k1, ir8_o1, ir8_r1, E_21_l1, R_21_l1, ir8_k0, ir8_o0, ir8_r0, z2] at ez13
   simp only [go_sem, ir8, E_21_l2, R_21_l2, ir8_k1, ir8_o1, ir8_r1, E_21_l1, R_21_l1, ir8_k0, ir8_o0, ir8_r0, fz1, z2, ez13]
  ·dsimp only at h
   obtain rfl := so_some h
   refine ⟨Lz13, fun L hL => ?_⟩
   have ez13 := ez13 L (by omega)
   try simp only [go_sem, E_21_l2, R_21_l2, ir8_k1, ir8_o1, ir8_r1, E_21_l1, R_21_l1, ir8_k0, ir8_o0, ir8_r0, z2] at ez13
   simp only [go_sem, ir8, E_21_l2, R_21_l2, ir8_k1, ir8_o1, ir8_r1, E_21_l1, R_21_l1, ir8_k0, ir8_o0, ir8_r0, fz1, z2, ez13]


def ir144_v : List Nat := [0, 2]
def ir144 : AFn := ⟨1, 2, .seq (.region false [ VO 1 2 (.mov (.c (.bool false)))]) (.seq (.region false [ PM 3 0, PO 4 (.bin false .geq (.s 0) (.c (.int .u8 (97)))), PO 5 (.mov (.s 0)), ⟨.push, 6, (some ((.s 0), true)), .mov (.v 0)⟩, ⟨.push, 7, (some ((.s 1), true)), .bin false .leq (.s 0) (.c (.int .u8 (122)))⟩, PO 8 (.pick (.s 2) (.s 0) (.c (.bool false))), VS 1 2 0]) (.ret)), [.t 1]⟩
noncomputable def t_22 : List (Nat × Ctr) := []
noncomputable def c_22 : Ctr := mkF t_22 ir144 [.bor]
theorem s_22 : Sound Try.prog 144 c_22 := mkF_sound _ rfl snd_nil (by kernel_rfl : chkFn Try.prog 144 ir144 ir144_v = true)
theorem M_22 : c_22.modes = [.bor] := rfl
theorem Fl_22 : c_22.flat = true := rfl
attribute [go_sem] M_22 Fl_22
theorem Fs_22 {c : UInt8} {y_ : Bool} (h : spec_l01Small c = some y_) : c_22.F [.int .u8 (c.toNat : Int)] = ⟨true, .bool y_, [.any]⟩ := by
 refine mkF_E rfl ?_
 dsimp only [spec_l01Small] at h
 obtain rfl := so_some h
 refine ⟨0, fun L hL => ?_⟩
 simp only [go_sem, ir144]


def ir145_v : List Nat := [0, 2]
def ir145 : AFn := ⟨1, 2, .seq (.region false [ VO 1 2 (.mov (.c (.bool false)))]) (.seq (.region false [ PM 3 0, PO 4 (.bin false .geq (.s 0) (.c (.int .u8 (48)))), PO 5 (.mov (.s 0)), ⟨.push, 6, (some ((.s 0), true)), .mov (.v 0)⟩, ⟨.push, 7, (some ((.s 1), true)), .bin false .leq (.s 0) (.c (.int .u8 (57)))⟩, PO 8 (.pick (.s 2) (.s 0) (.c (.bool false))), VS 1 2 0]) (.ret)), [.t 1]⟩
noncomputable def t_23 : List (Nat × Ctr) := []
noncomputable def c_23 : Ctr := mkF t_23 ir145 [.bor]
theorem s_23 : Sound Try.prog 145 c_23 := mkF_sound _ rfl snd_nil (by kernel_rfl : chkFn Try.prog 145 ir145 ir145_v = true)
theorem M_23 : c_23.modes = [.bor] := rfl
theorem Fl_23 : c_23.flat = true := rfl
attribute [go_sem] M_23 Fl_23
theorem Fs_23 {c : UInt8} {y_ : Bool} (h : spec_l01Digit c = some y_) : c_23.F [.int .u8 (c.toNat : Int)] = ⟨true, .bool y_, [.any]⟩ := by
 refine mkF_E rfl ?_
 dsimp only [spec_l01Digit] at h
 obtain rfl := so_some h
 refine ⟨0, fun L hL => ?_⟩
 simp only [go_sem, ir145]


def ir126_b0 : IR := .seq (.test false [ PM 17 2, PM 18 0, PO 19 (.len true (.s 0)), PO 20 (.bin false .lss (.s 2) (.s 0))] (.s 0) (.skip) (.exit 0)) (.seq (.block 1 (.test false [ PM 23 0, PM 24 2, PO 25 (.ixStr (.s 1) (.s 0)), PO 26 (.call 144 [(.s 0)]), PO 27 (.un .not (.s 0)), PO 28 (.mov (.s 0)), ⟨.push, 29, (some ((.s 0), true)), .mov (.v 0)⟩, ⟨.push, 30, (some ((.s 1), true)), .mov (.v 2)⟩, ⟨.push, 31, (some ((.s 2), true)), .ixStr (.s 1) (.s 0)⟩, ⟨.push, 32, (some ((.s 3), true)), .call 145 [(.s 0)]⟩, ⟨.push, 33, (some ((.s 4), true)), .un .not (.s 0)⟩, PO 34 (.pick (.s 5) (.s 0) (.c
 (.bool false))), PO 35 (.mov (.s 0)), ⟨.push, 36, (some ((.s 0), true)), .mov (.v 0)⟩, ⟨.push, 37, (some ((.s 1), true)), .mov (.v 2)⟩, ⟨.push, 38, (some ((.s 2), true)), .ixStr (.s 1) (.s 0)⟩, ⟨.push, 39, (some ((.s 3), true)), .bin false .neq (.s 0) (.c (.int .u8 (45)))⟩, PO 40 (.pick (.s 4) (.s 0) (.c (.bool false)))] (.s 0) (.seq (.region false [ VO 1 2 (.mov (.c (.bool false)))]) (.ret)) (.skip))) (.region false [ PM 21 2, PO 22 (.bin false .add (.s 0) (I6 1)), VS 2 3 0]))
def ir126_k0 : List Bool := [true, false, true]
def ir126_o0 : List Bool := [false, false, false]
def ir126_r0 : List Bool := [false, true, false]
def ir126_v : List Nat := [0, 2, 3]
def ir126 : AFn := ⟨1, 3, .seq (.region false [ VO 1 2 (.mov (.c (.bool false)))]) (.seq (.test false [ PM 4 0, PO 5 (.bin false .eql (.s 0) (.c (.str []))), PO 6 (.mov (.s 0)), ⟨.push, 7, (some ((.s 0), false)), .mov (.v 0)⟩, ⟨.push, 8, (some ((.s 1), false)), .len true (.s 0)⟩, ⟨.push, 9, (some ((.s 2), false)), .bin false .gtr (.s 0) (I6 12)⟩, PO 10 (.pick (.s 3) (.c (.bool true)) (.s 0)), PO 11 (.mov (.s 0)), ⟨.push, 12, (some ((.s 0), false)), .mov (.v 0)⟩, ⟨.push, 13, (some ((.s 1), false)), .ixStr (.s 0) (I6 0)⟩, ⟨.push, 14, (some ((.s 2), false)), .call 144 [(.s 0)]⟩, ⟨.push, 15, (some
 ((.s 3), false)), .un .not (.s 0)⟩, PO 16 (.pick (.s 4) (.c (.bool true)) (.s 0))] (.s 0) (.seq (.region false [ VO 1 2 (.mov (.c (.bool false)))]) (.ret)) (.skip)) (.seq (.seq (.region false [ VO 2 3 (.mov (I6 0))]) (.block 0 (.loop ir126_k0 ir126_o0 ir126_r0 ir126_b0))) (.seq (.region false [ VO 1 2 (.mov (.c (.bool true)))]) (.ret)))), [.t 1]⟩
noncomputable def t_24 : List (Nat × Ctr) := [(144, c_22), (145, c_23)]
theorem lk_24_144 : look t_24 144 = some c_22 := rfl
theorem lk_24_145 : look t_24 145 = some c_23 := rfl
noncomputable def c_24 : Ctr := mkF t_24 ir126 [.bor]
theorem s_24 : Sound Try.prog 126 c_24 := mkF_sound _ rfl (snd_cons s_22 (snd_cons s_23 snd_nil)) (by kernel_rfl : chkFn Try.prog 126 ir126 ir126_v = true)
theorem M_24 : c_24.modes = [.bor] := rfl
theorem Fl_24 : c_24.flat = true := rfl
attribute [go_sem] M_24 Fl_24
attribute [go_sem] lk_24_144 lk_24_145
def E_24_l1 (s_ : List UInt8) : Int → St
 | i => ⟨[.str s_, .any, .int .i64 i], [], [], true⟩
def R_24_l1 (s_ : List UInt8) : (Unit ⊕ Bool) → Res
 | .inl y => (.exit 0, ⟨[.any, .any, .any], [], [], true⟩)
 | .inr y => (.ret, ⟨[.any, .bool y, .any], [], [], true⟩)
theorem spec_IsName_l1_ex {s_ : List UInt8} {sgm_ : Int} {rho_ : Unit ⊕ Bool} (h : whileE (spec_IsName_l1 s_) sgm_ = some rho_) : ∃ L0, ∀ L, L0 ≤ L → iter (exec (look t_24) L ir126_b0) ir126_k0 ir126_o0 ir126_r0 L (E_24_l1 s_ sgm_) = R_24_l1 s_ rho_ := by
 refine loop_ex (E := E_24_l1 s_) (R := R_24_l1 s_) (fun y => by first | (intro c; cases c) | (rcases y with y | y <;> (intro c; cases c)) | (rcases y with y | y | y <;> (intro c; cases c))) ?_ h
 clear h
 intro i o_ h
 dsimp only [spec_IsName_l1] at h
 rcases it_some h with ⟨z4, h⟩ | ⟨z4, h⟩
 ·try simp only [go_sem, n1, n2, n3, n4] at z4
  all_goals
  obtain ⟨z5, h⟩ := ck_some h
  try simp only [go_sem, n1, n2, n3, n4, z4] at z5
  all_goals
  obtain ⟨y_6, z6, h⟩ := bd_some h
  have fz6 := Fs_22 z6
  try simp only [go_sem, z4, z5] at fz6
  obtain ⟨z7, h⟩ := ck_some h
  rcases or_split z7 with ⟨gz7, z7⟩ | gz7
  ·try simp only [go_sem, n1, n2, n3, n4, z4, z5] at gz7
   all_goals
   obtain ⟨y_7, hz7⟩ := Option.isSome_iff_exists.1 z7
   have fz7 := Fs_23 hz7
   try simp only [go_sem, n1, n2, n3, n4, z4, z5, gz7] at hz7
   all_goals
   try simp only [go_sem, z4, z5, gz7] at fz7
   rcases it_some h with ⟨z8, h⟩ | ⟨z8, h⟩
   ·try simp only [go_sem, n1, n2, n3, n4, z4, z5, gz7, hz7] at z8
    all_goals
    obtain rfl := so_some h
    refine ⟨0, fun L hL => ?_⟩
    simp only [go_sem, ir126, E_24_l1, R_24_l1, ir126_b0, ir126_k0, ir126_o0, ir126_r0, z4, z5, fz6, gz7, hz7, fz7, z8]
   ·try simp only [go_sem, n1, n2, n3, n4, z4, z5, gz7, hz7] at z8
    all_goals
    obtain rfl := so_some h
    refine ⟨0, fun L hL => ?_⟩
    simp only [go_sem, ir126, E_24_l1, R_24_l1, ir126_b0, ir126_k0, ir126_o0, ir126_r0, z4, z5, fz6, gz7, hz7, fz7, z8]
  ·have gz7n := no_f gz7
   try simp only [go_sem, n1, n2, n3, n4, z4, z5] at gz7n
   all_goals
   rcases it_some h with ⟨z8, h⟩ | ⟨z8, h⟩
   ·try simp only [go_sem, n1, n2, n3, n4, z4, z5, gz7n] at z8
    all_goals
    (simp_all)
   ·try simp only [go_sem, n1, n2, n3, n4, z4, z5, gz7n] at z8
    all_goals
    obtain rfl := so_some h
    refine ⟨0, fun L hL => ?_⟩
    simp only [go_sem, ir126, E_24_l1, R_24_l1, ir126_b0, ir126_k0, ir126_o0, ir126_r0, z4, z5, fz6, gz7n, z8]
 ·try simp only [go_sem, n1, n2, n3, n4] at z4
  all_goals
  obtain rfl := so_some h
  refine ⟨0, fun L hL => ?_⟩
  simp only [go_sem, ir126, E_24_l1, R_24_l1, ir126_b0, ir126_k0, ir126_o0, ir126_r0, z4]

theorem Fs_24 {s_ : List UInt8} {y_ : Bool} (h : spec_IsName s_ = some y_) : c_24.F [.str s_] = ⟨true, .bool y_, [.any]⟩ := by
 refine mkF_E rfl ?_
 dsimp only [spec_IsName] at h
 obtain ⟨z1, h⟩ := ck_some h
 rcases or_split z1 with ⟨gz1, z1⟩ | gz1
 ·try simp only [go_sem, n1, n2, n3, n4] at gz1
  all_goals
  try simp only [go_sem, n1, n2, n3, n4, gz1] at z1
  all_goals
  obtain ⟨z2, h⟩ := ck_some h
  rcases or_split z2 with ⟨gz2, z2⟩ | gz2
  ·try simp only [go_sem, n1, n2, n3, n4, gz1, z1] at gz2
   all_goals
   obtain ⟨y_2, hz2⟩ := Option.isSome_iff_exists.1 z2
   have fz2 := Fs_22 hz2
   try simp only [go_sem, n1, n2, n3, n4, gz1, z1, gz2] at hz2
   all_goals
   try simp only [go_sem, gz1, z1, gz2] at fz2
   rcases it_some h with ⟨z3, h⟩ | ⟨z3, h⟩
   ·try simp only [go_sem, n1, n2, n3, n4, gz1, z1, gz2, hz2] at z3
    all_goals
    obtain rfl := so_some h
    refine ⟨0, fun L hL => ?_⟩
    simp only [go_sem, ir126, E_24_l1, R_24_l1, ir126_k0, ir126_o0, ir126_r0, gz1, z1, gz2, hz2, fz2, z3]
   ·try simp only [go_sem, n1, n2, n3, n4, gz1, z1, gz2, hz2] at z3
    all_goals
    obtain ⟨y_9, z9, h⟩ := bd_some h
    obtain ⟨Lz9, ez9⟩ := spec_IsName_l1_ex z9
    rcases y_9 with y_9a | y_9b
    ·dsimp only at h
     obtain rfl := so_some h
     refine ⟨Lz9, fun L hL => ?_⟩
     have ez9 := ez9 L (by omega)
     try simp only [go_sem, E_24_l1, R_24_l1, ir126_k0, ir126_o0, ir126_r0, gz1, z1, gz2, hz2, z3] at ez9
     simp only [go_sem, ir126, E_24_l1, R_24_l1, ir126_k0, ir126_o0, ir126_r0, gz1, z1, gz2, hz2, fz2, z3, ez9]
    ·dsimp only at h
     obtain rfl := so_some h
     refine ⟨Lz9, fun L hL => ?_⟩
     have ez9 := ez9 L (by omega)
     try simp only [go_sem, E_24_l1, R_24_l1, ir126_k0, ir126_o0, ir126_r0, gz1, z1, gz2, hz2, z3] at ez9
     simp only [go_sem, ir126, E_24_l1, R_24_l1, ir126_k0, ir126_o0, ir126_r0, gz1, z1, gz2, hz2, fz2, z3, ez9]
  ·have gz2n := no_f gz2
   rcases or_t gz2n with gz2na | ⟨gz2na, gz2nb⟩
   ·try simp only [go_sem, n1, n2, n3, n4, gz1, z1] at gz2na
    all_goals
    (simp_all)
   ·try simp only [go_sem, n1, n2, n3, n4, gz1, z1] at gz2na
    all_goals
    try simp only [go_sem, n1, n2, n3, n4, gz1, z1, gz2na] at gz2nb
    all_goals
    rcases it_some h with ⟨z3, h⟩ | ⟨z3, h⟩
    ·try simp only [go_sem, n1, n2, n3, n4, gz1, z1, gz2na, gz2nb] at z3
     all_goals
     obtain rfl := so_some h
     refine ⟨0, fun L hL => ?_⟩
     simp only [go_sem, ir126, E_24_l1, R_24_l1, ir126_k0, ir126_o0, ir126_r0, gz1, z1, gz2na, gz2nb, z3]
    ·try simp only [go_sem, n1, n2, n3, n4, gz1, z1, gz2na, gz2nb] at z3
     all_goals
     obtain ⟨y_9, z9, h⟩ := bd_some h
     obtain ⟨Lz9, ez9⟩ := spec_IsName_l1_ex z9
     rcases y_9 with y_9a | y_9b
     ·dsimp only at h
      obtain rfl := so_some h
      refine ⟨Lz9, fun L hL => ?_⟩
      have ez9 := ez9 L (by omega)
      try simp only [go_sem, E_24_l1, R_24_l1, ir126_k0, ir126_o0, ir126_r0, gz1, z1, gz2na, gz2nb, z3] at ez9
      simp only [go_sem, ir126, E_24_l1, R_24_l1, ir126_k0, ir126_o0, ir126_r0, gz1, z1, gz2na, gz2nb, z3, ez9]
     ·dsimp only at h
      obtain rfl := so_some h
      refine ⟨Lz9, fun L hL => ?_⟩
      have ez9 := ez9 L (by omega)
      try simp only [go_sem, E_24_l1, R_24_l1, ir126_k0, ir126_o0, ir126_r0, gz1, z1, gz2na, gz2nb, z3] at ez9
      simp only [go_sem, ir126, E_24_l1, R_24_l1, ir126_k0, ir126_o0, ir126_r0, gz1, z1, gz2na, gz2nb, z3, ez9]
 ·have gz1n := no_f gz1
  rcases or_t gz1n with gz1na | ⟨gz1na, gz1nb⟩
  ·try simp only [go_sem, n1, n2, n3, n4] at gz1na
   all_goals
   obtain ⟨z2, h⟩ := ck_some h
   rcases it_some h with ⟨z3, h⟩ | ⟨z3, h⟩
   ·try simp only [go_sem, n1, n2, n3, n4, gz1na] at z3
    all_goals
    obtain rfl := so_some h
    refine ⟨0, fun L hL => ?_⟩
    simp only [go_sem, ir126, E_24_l1, R_24_l1, ir126_k0, ir126_o0, ir126_r0, gz1na, z3]
   ·try simp only [go_sem, n1, n2, n3, n4, gz1na] at z3
    all_goals
    (simp_all)
  ·try simp only [go_sem, n1, n2, n3, n4] at gz1na
   all_goals
   try simp only [go_sem, n1, n2, n3, n4, gz1na] at gz1nb
   all_goals
   obtain ⟨z2, h⟩ := ck_some h
   rcases it_some h with ⟨z3, h⟩ | ⟨z3, h⟩
   ·try simp only [go_sem, n1, n2, n3, n4, gz1na, gz1nb] at z3
    all_goals
    obtain rfl := so_some h
    refine ⟨0, fun L hL => ?_⟩
    simp only [go_sem, ir126, E_24_l1, R_24_l1, ir126_k0, ir126_o0, ir126_r0, gz1na, gz1nb, z3]
   ·try simp only [go_sem, n1, n2, n3, n4, gz1na, gz1nb] at z3
    all_goals
    (simp_all)


def ir60_v : List Nat := [0, 1, 2, 6]
def ir60 : AFn := ⟨3, 4, .seq (.region false [ VO 3 6 (.mov (.c (.bool false)))]) (.seq (.region false [ PM 7 0, PM 8 1, PO 9 (.bin false .geq (.s 1) (.s 0)), PO 10 (.mov (.s 0)), ⟨.push, 11, (some ((.s 0), true)), .mov (.v 0)⟩, ⟨.push, 12, (some ((.s 1), true)), .mov (.v 2)⟩, ⟨.push, 13, (some ((.s 2), true)), .bin false .leq (.s 1) (.s 0)⟩, PO 14 (.pick (.s 3) (.s 0) (.c (.bool false))), VS 3 6 0]) (.ret)), [.t 3]⟩
noncomputable def t_25 : List (Nat × Ctr) := []
noncomputable def c_25 : Ctr := mkF t_25 ir60 [.bor, .bor, .bor]
theorem s_25 : Sound Try.prog 60 c_25 := mkF_sound _ rfl snd_nil (by kernel_rfl : chkFn Try.prog 60 ir60 ir60_v = true)
theorem M_25 : c_25.modes = [.bor, .bor, .bor] := rfl
theorem Fl_25 : c_25.flat = true := rfl
attribute [go_sem] M_25 Fl_25
theorem Fs_25 {n : Int} {low : Int} {high : Int} {y_ : Bool} (h : spec_l00In n low high = some y_) : c_25.F [.int .i64 n, .int .i64 low, .int .i64 high] = ⟨true, .bool y_, [.any, .any, .any]⟩ := by
 refine mkF_E rfl ?_
 dsimp only [spec_l00In] at h
 obtain rfl := so_some h
 refine ⟨0, fun L hL => ?_⟩
 simp only [go_sem, ir60]


def ir85_v : List Nat := [0, 2]
def ir85 : AFn := ⟨1, 2, .seq (.region false [ VO 1 2 (.mov (.c (.bool false)))]) (.seq (.region false [ PM 3 0, PO 4 (.call 60 [(.s 0), (I6 0), (I6 10000000)]), VS 1 2 0]) (.ret)), [.t 1]⟩
noncomputable def t_26 : List (Nat × Ctr) := [(60, c_25)]
theorem lk_26_60 : look t_26 60 = some c_25 := rfl
noncomputable def c_26 : Ctr := mkF t_26 ir85 [.bor]
theorem s_26 : Sound Try.prog 85 c_26 := mkF_sound _ rfl (snd_cons s_25 snd_nil) (by kernel_rfl : chkFn Try.prog 85 ir85 ir85_v = true)
theorem M_26 : c_26.modes = [.bor] := rfl
theorem Fl_26 : c_26.flat = true := rfl
attribute [go_sem] M_26 Fl_26
attribute [go_sem] lk_26_60
theorem Fs_26 {t : Int} {y_ : Bool} (h : spec_l03Time t = some y_) : c_26.F [.int .i64 t] = ⟨true, .bool y_, [.any]⟩ := by
 refine mkF_E rfl ?_
 dsimp only [spec_l03Time] at h
 obtain ⟨y_1, z1, h⟩ := bd_some h
 have fz1 := Fs_25 z1
 try simp only [go_sem] at fz1
 obtain rfl := so_some h
 refine ⟨0, fun L hL => ?_⟩
 simp only [go_sem, ir85, fz1]


def ir120_v : List Nat := [0, 2]
def ir120 : AFn := ⟨1, 2, .seq (.region false [ VO 1 2 (.mov (.c (.bool false)))]) (.seq (.anyo 37 [ SO 0 3 (.mov (.v 0)), SO 1 4 (.nilck (.s 0)), SO 2 5 (.fldAddr 0 (.s 1)), SO 3 6 (.load false 1 (.s 2)), SO 4 7 (.callp 126 [(.s 3)]), SO 5 8 (.mov (.s 4)), ⟨.slot 6, 9, (some ((.s 5), true)), .mov (.v 0)⟩, ⟨.slot 7, 10, (some ((.s 5), true)), .nilck (.s 6)⟩, ⟨.slot 8, 11, (some ((.s 5), true)), .fldAddr 1 (.s 7)⟩, ⟨.slot 9, 12, (some ((.s 5), true)), .load false 1 (.s 8)⟩, ⟨.slot 10, 13, (some ((.s 5), true)), .call 85 [(.s 9)]⟩, SO 11 14 (.pick (.s 5) (.s 10) (.c (.bool false))), SO 12 15
 (.mov (.s 11)), ⟨.slot 13, 16, (some ((.s 12), true)), .mov (.v 0)⟩, ⟨.slot 14, 17, (some ((.s 12), true)), .nilck (.s 13)⟩, ⟨.slot 15, 18, (some ((.s 12), true)), .fldAddr 2 (.s 14)⟩, ⟨.slot 16, 19, (some ((.s 12), true)), .load false 1 (.s 15)⟩, ⟨.slot 17, 20, (some ((.s 12), true)), .mov (.v 0)⟩, ⟨.slot 18, 21, (some ((.s 12), true)), .nilck (.s 17)⟩, ⟨.slot 19, 22, (some ((.s 12), true)), .fldAddr 1 (.s 18)⟩, ⟨.slot 20, 23, (some ((.s 12), true)), .load false 1 (.s 19)⟩, ⟨.slot 21, 24, (some ((.s 12), true)), .call 60 [(.s 16), (.s 20), (I6 10000000)]⟩, SO 22 25 (.pick (.s 12) (.s 21) (.c
 (.bool false))), SO 23 26 (.mov (.s 22)), ⟨.slot 24, 27, (some ((.s 23), true)), .mov (.v 0)⟩, ⟨.slot 25, 28, (some ((.s 23), true)), .nilck (.s 24)⟩, ⟨.slot 26, 29, (some ((.s 23), true)), .fldAddr 3 (.s 25)⟩, ⟨.slot 27, 30, (some ((.s 23), true)), .load false 1 (.s 26)⟩, ⟨.slot 28, 31, (some ((.s 23), true)), .call 60 [(.s 27), (I6 1), (I6 1000000)]⟩, SO 29 32 (.pick (.s 23) (.s 28) (.c (.bool false))), SO 30 33 (.mov (.s 29)), ⟨.slot 31, 34, (some ((.s 30), true)), .mov (.v 0)⟩, ⟨.slot 32, 35, (some ((.s 30), true)), .nilck (.s 31)⟩, ⟨.slot 33, 36, (some ((.s 30), true)), .fldAddr 4 (.s
 32)⟩, ⟨.slot 34, 37, (some ((.s 30), true)), .load false 1 (.s 33)⟩, ⟨.slot 35, 38, (some ((.s 30), true)), .call 60 [(.s 34), (I6 0), (I6 5)]⟩, SO 36 39 (.pick (.s 30) (.s 35) (.c (.bool false))), VS 1 2 36] [] .skip) (.ret)), [.t 1]⟩
noncomputable def t_27 : List (Nat × Ctr) := [(126, c_24), (85, c_26), (60, c_25)]
theorem lk_27_126 : look t_27 126 = some c_24 := rfl
theorem lk_27_85 : look t_27 85 = some c_26 := rfl
theorem lk_27_60 : look t_27 60 = some c_25 := rfl
noncomputable def c_27 : Ctr := mkF t_27 ir120 [.bor]
theorem s_27 : Sound Try.prog 120 c_27 := mkF_sound _ rfl (snd_cons s_24 (snd_cons s_26 (snd_cons s_25 snd_nil))) (by kernel_rfl : chkFn Try.prog 120 ir120 ir120_v = true)
theorem M_27 : c_27.modes = [.bor] := rfl
theorem Fl_27 : c_27.flat = true := rfl
attribute [go_sem] M_27 Fl_27
attribute [go_sem] lk_27_126 lk_27_85 lk_27_60
theorem Fs_27 {x : Volume} {y_ : Bool} (h : spec_l23One x = some y_) : c_27.F [.ptr 5 [Volume_av x] 0 0] = ⟨true, .bool y_, [.any]⟩ := by
 refine mkF_E rfl ?_
 dsimp only [spec_l23One] at h
 obtain ⟨y_1, z1, h⟩ := bd_some h
 have fz1 := Fs_24 z1
 try simp only [go_sem] at fz1
 obtain ⟨z2, h⟩ := ck_some h
 rcases or_split z2 with ⟨gz2, z2⟩ | gz2
 ·try simp only [go_sem, n1, n2, n3, n4] at gz2
  all_goals
  obtain ⟨y_2, hz2⟩ := Option.isSome_iff_exists.1 z2
  have fz2 := Fs_26 hz2
  try simp only [go_sem, n1, n2, n3, n4, gz2] at hz2
  all_goals
  try simp only [go_sem, gz2] at fz2
  obtain ⟨z3, h⟩ := ck_some h
  rcases or_split z3 with ⟨gz3, z3⟩ | gz3
  ·try simp only [go_sem, n1, n2, n3, n4, gz2, hz2] at gz3
   all_goals
   obtain ⟨y_3, hz3⟩ := Option.isSome_iff_exists.1 z3
   have fz3 := Fs_25 hz3
   try simp only [go_sem, n1, n2, n3, n4, gz2, hz2, gz3] at hz3
   all_goals
   try simp only [go_sem, gz2, hz2, gz3] at fz3
   obtain ⟨z4, h⟩ := ck_some h
   rcases or_split z4 with ⟨gz4, z4⟩ | gz4
   ·try simp only [go_sem, n1, n2, n3, n4, gz2, hz2, gz3, hz3] at gz4
    all_goals
    obtain ⟨y_4, hz4⟩ := Option.isSome_iff_exists.1 z4
    have fz4 := Fs_25 hz4
    try simp only [go_sem, n1, n2, n3, n4, gz2, hz2, gz3, hz3, gz4] at hz4
    all_goals
    try simp only [go_sem, gz2, hz2, gz3, hz3, gz4] at fz4
    obtain ⟨z5, h⟩ := ck_some h
    rcases or_split z5 with ⟨gz5, z5⟩ | gz5
    ·try simp only [go_sem, n1, n2, n3, n4, gz2, hz2, gz3, hz3, gz4, hz4] at gz5
     all_goals
     obtain ⟨y_5, hz5⟩ := Option.isSome_iff_exists.1 z5
     have fz5 := Fs_25 hz5
     try simp only [go_sem, n1, n2, n3, n4, gz2, hz2, gz3, hz3, gz4, hz4, gz5] at hz5
     all_goals
     try simp only [go_sem, gz2, hz2, gz3, hz3, gz4, hz4, gz5] at fz5
     obtain rfl := so_some h
     refine ⟨0, fun L hL => ?_⟩
     simp only [go_sem, ir120, fz1, gz2, hz2, fz2, gz3, hz3, fz3, gz4, hz4, fz4, gz5, hz5, fz5]
    ·rcases and_f gz5 with gz5a | ⟨gz5a, gz5b⟩
     ·try simp only [go_sem, n1, n2, n3, n4, gz2, hz2, gz3, hz3, gz4, hz4] at gz5a
      all_goals
      (simp_all)
     ·obtain ⟨gz5aa, gz5ab⟩ := and_t gz5a
      obtain ⟨gz5aaa, gz5aab⟩ := and_t gz5aa
      try simp only [go_sem, n1, n2, n3, n4, gz2, hz2, gz3, hz3, gz4, hz4] at gz5aaa
      all_goals
      try simp only [go_sem, n1, n2, n3, n4, gz2, hz2, gz3, hz3, gz4, hz4, gz5aaa] at gz5aab
      all_goals
      try simp only [go_sem, n1, n2, n3, n4, gz2, hz2, gz3, hz3, gz4, hz4, gz5aaa, gz5aab] at gz5ab
      all_goals
      try simp only [go_sem, n1, n2, n3, n4, gz2, hz2, gz3, hz3, gz4, hz4, gz5aaa, gz5aab, gz5ab] at gz5b
      all_goals
      obtain rfl := so_some h
      refine ⟨0, fun L hL => ?_⟩
      simp only [go_sem, ir120, fz1, gz2, hz2, fz2, gz3, hz3, fz3, gz4, hz4, fz4, gz5aaa, gz5aab, gz5ab, gz5b]
   ·rcases and_f gz4 with gz4a | ⟨gz4a, gz4b⟩
    ·try simp only [go_sem, n1, n2, n3, n4, gz2, hz2, gz3, hz3] at gz4a
     all_goals
     (simp_all)
    ·obtain ⟨gz4aa, gz4ab⟩ := and_t gz4a
     try simp only [go_sem, n1, n2, n3, n4, gz2, hz2, gz3, hz3] at gz4aa
     all_goals
     try simp only [go_sem, n1, n2, n3, n4, gz2, hz2, gz3, hz3, gz4aa] at gz4ab
     all_goals
     try simp only [go_sem, n1, n2, n3, n4, gz2, hz2, gz3, hz3, gz4aa, gz4ab] at gz4b
     all_goals
     obtain ⟨z5, h⟩ := ck_some h
     obtain rfl := so_some h
     refine ⟨0, fun L hL => ?_⟩
     simp only [go_sem, ir120, fz1, gz2, hz2, fz2, gz3, hz3, fz3, gz4aa, gz4ab, gz4b]
  ·rcases and_f gz3 with gz3a | ⟨gz3a, gz3b⟩
   ·try simp only [go_sem, n1, n2, n3, n4, gz2, hz2] at gz3a
    all_goals
    (simp_all)
   ·try simp only [go_sem, n1, n2, n3, n4, gz2, hz2] at gz3a
    all_goals
    try simp only [go_sem, n1, n2, n3, n4, gz2, hz2, gz3a] at gz3b
    all_goals
    obtain ⟨z4, h⟩ := ck_some h
    obtain ⟨z5, h⟩ := ck_some h
    obtain rfl := so_some h
    refine ⟨0, fun L hL => ?_⟩
    simp only [go_sem, ir120, fz1, gz2, hz2, fz2, gz3a, gz3b]
 ·try simp only [go_sem, n1, n2, n3, n4] at gz2
  all_goals
  obtain ⟨z3, h⟩ := ck_some h
  obtain ⟨z4, h⟩ := ck_some h
  obtain ⟨z5, h⟩ := ck_some h
  obtain rfl := so_some h
  refine ⟨0, fun L hL => ?_⟩
  simp only [go_sem, ir120, fz1, gz2]


def ir84_b0 : IR := .seq (.test false [ PM 4 2, PM 5 0, PO 6 (.len false (.s 0)), PO 7 (.bin false .lss (.s 2) (.s 0))] (.s 0) (.skip) (.exit 0)) (.seq (.block 1 (.anyo 23 [ SO 0 10 (.mov (.v 0)), SO 1 11 (.mov (.v 2)), SO 2 12 (.ixAddr 5 (.s 0) (.s 1)), SO 3 13 (.callp 120 [(.s 2)]), SO 4 14 (.un .not (.s 3)), SO 5 15 (.mov (.s 4)), ⟨.slot 6, 16, (some ((.s 5), false)), .mov (.v 2)⟩, ⟨.slot 7, 17, (some ((.s 5), false)), .bin false .gtr (.s 6) (I6 0)⟩, ⟨.slot 8, 18, (some ((.s 5), false)), .mov (.s 7)⟩, ⟨.slot 9, 19, (some ((.s 8), true)), .mov (.v 0)⟩, ⟨.slot 10, 20, (some ((.s 8), true)),
 .mov (.v 2)⟩, ⟨.slot 11, 21, (some ((.s 8), true)), .bin false .sub (.s 10) (I6 1)⟩, ⟨.slot 12, 22, (some ((.s 8), true)), .ixAddr 5 (.s 9) (.s 11)⟩, ⟨.slot 13, 23, (some ((.s 8), true)), .fldAddr 0 (.s 12)⟩, ⟨.slot 14, 24, (some ((.s 8), true)), .load false 1 (.s 13)⟩, ⟨.slot 15, 25, (some ((.s 8), true)), .mov (.v 0)⟩, ⟨.slot 16, 26, (some ((.s 8), true)), .mov (.v 2)⟩, ⟨.slot 17, 27, (some ((.s 8), true)), .ixAddr 5 (.s 15) (.s 16)⟩, ⟨.slot 18, 28, (some ((.s 8), true)), .fldAddr 0 (.s 17)⟩, ⟨.slot 19, 29, (some ((.s 8), true)), .load false 1 (.s 18)⟩, ⟨.slot 20, 30, (some ((.s 8), true)),
 .bin false .geq (.s 14) (.s 19)⟩, ⟨.slot 21, 31, (some ((.s 5), false)), .pick (.s 8) (.s 20) (.c (.bool false))⟩, SO 22 32 (.pick (.s 5) (.c (.bool true)) (.s 21))] [] (.cond (.s 22) (.seq (.region false [ VO 1 2 (.mov (.c (.bool false)))]) (.ret)) (.skip)))) (.region false [ PM 8 2, PO 9 (.bin false .add (.s 0) (I6 1)), VS 2 3 0]))
def ir84_k0 : List Bool := [true, false, true]
def ir84_o0 : List Bool := [true, false, false]
def ir84_r0 : List Bool := [false, true, false]
def ir84_v : List Nat := [0, 2, 3]
def ir84 : AFn := ⟨1, 3, .seq (.region false [ VO 1 2 (.mov (.c (.bool false)))]) (.seq (.seq (.region false [ VO 2 3 (.mov (I6 0))]) (.block 0 (.loop ir84_k0 ir84_o0 ir84_r0 ir84_b0))) (.seq (.region false [ PM 33 0, PO 34 (.len false (.s 0)), PO 35 (.bin false .leq (.s 0) (I6 40)), VS 1 2 0]) (.ret))), [.t 1]⟩
noncomputable def t_28 : List (Nat × Ctr) := [(120, c_27)]
theorem lk_28_120 : look t_28 120 = some c_27 := rfl
noncomputable def c_28 : Ctr := mkF t_28 ir84 [.bor]
theorem s_28 : Sound Try.prog 84 c_28 := mkF_sound _ rfl (snd_cons s_27 snd_nil) (by kernel_rfl : chkFn Try.prog 84 ir84 ir84_v = true)
theorem M_28 : c_28.modes = [.bor] := rfl
theorem Fl_28 : c_28.flat = true := rfl
attribute [go_sem] M_28 Fl_28
attribute [go_sem] lk_28_120
def E_28_l1 (list : List Volume) : Int → St
 | i => ⟨[.sl 5 (List.map Volume_av list), .any, .int .i64 i], [], [], true⟩
def R_28_l1 (list : List Volume) : (Unit ⊕ Bool) → Res
 | .inl y => (.exit 0, ⟨[.sl 5 (List.map Volume_av list), .any, .any], [], [], true⟩)
 | .inr y => (.ret, ⟨[.any, .bool y, .any], [], [], true⟩)
theorem spec_l23Ok_l1_ex {list : List Volume} {sgm_ : Int} {rho_ : Unit ⊕ Bool} (h : whileE (spec_l23Ok_l1 list) sgm_ = some rho_) : ∃ L0, ∀ L, L0 ≤ L → iter (exec (look t_28) L ir84_b0) ir84_k0 ir84_o0 ir84_r0 L (E_28_l1 list sgm_) = R_28_l1 list rho_ := by
 refine loop_ex (E := E_28_l1 list) (R := R_28_l1 list) (fun y => by first | (intro c; cases c) | (rcases y with y | y <;> (intro c; cases c)) | (rcases y with y | y | y <;> (intro c; cases c))) ?_ h
 clear h
 intro i o_ h
 dsimp only [spec_l23Ok_l1] at h
 rcases it_some h with ⟨z1, h⟩ | ⟨z1, h⟩
 ·try simp only [go_sem, n1, n2, n3, n4] at z1
  all_goals
  obtain ⟨z2, h⟩ := ck_some h
  have lz2 := ix_lt z2
  have xz2 := getD_mapD Volume_av list lz2
  try simp only [go_sem] at lz2
  try simp only [go_sem] at xz2
  try simp only [go_sem, n1, n2, n3, n4, z1] at z2
  all_goals
  obtain ⟨y_3, z3, h⟩ := bd_some h
  have fz3 := Fs_27 z3
  try simp only [go_sem, z1, z2] at fz3
  obtain ⟨z4, h⟩ := ck_some h
  rcases or_split z4 with ⟨gz4, z4⟩ | gz4
  ·try simp only [go_sem, n1, n2, n3, n4, z1, z2] at gz4
   all_goals
   have lz4 := ix_lt z4
   have xz4 := getD_mapD Volume_av list lz4
   try simp only [go_sem] at lz4
   try simp only [go_sem] at xz4
   try simp only [go_sem, n1, n2, n3, n4, z1, z2, gz4] at z4
   all_goals
   rcases it_some h with ⟨z5, h⟩ | ⟨z5, h⟩
   ·try simp only [go_sem, n1, n2, n3, n4, z1, z2, gz4, z4] at z5
    all_goals
    obtain rfl := so_some h
    refine ⟨0, fun L hL => ?_⟩
    simp only [go_sem, ir84, E_28_l1, R_28_l1, ir84_b0, ir84_k0, ir84_o0, ir84_r0, z1, z2, lz2, xz2, fz3, gz4, z4, lz4, xz4, z5]
   ·try simp only [go_sem, n1, n2, n3, n4, z1, z2, gz4, z4] at z5
    all_goals
    obtain rfl := so_some h
    refine ⟨0, fun L hL => ?_⟩
    simp only [go_sem, ir84, E_28_l1, R_28_l1, ir84_b0, ir84_k0, ir84_o0, ir84_r0, z1, z2, lz2, xz2, fz3, gz4, z4, lz4, xz4, z5]
  ·rcases and_f gz4 with gz4a | ⟨gz4a, gz4b⟩
   ·have gz4an := no_f gz4a
    have gz4ann := no_t gz4an
    try simp only [go_sem, n1, n2, n3, n4, z1, z2] at gz4ann
    all_goals
    rcases it_some h with ⟨z5, h⟩ | ⟨z5, h⟩
    ·try simp only [go_sem, n1, n2, n3, n4, z1, z2, gz4ann] at z5
     all_goals
     obtain rfl := so_some h
     refine ⟨0, fun L hL => ?_⟩
     simp only [go_sem, ir84, E_28_l1, R_28_l1, ir84_b0, ir84_k0, ir84_o0, ir84_r0, z1, z2, lz2, xz2, fz3, gz4ann, z5]
    ·try simp only [go_sem, n1, n2, n3, n4, z1, z2, gz4ann] at z5
     all_goals
     (simp_all)
   ·have gz4an := no_t gz4a
    have gz4ann := no_f gz4an
    try simp only [go_sem, n1, n2, n3, n4, z1, z2] at gz4ann
    all_goals
    try simp only [go_sem, n1, n2, n3, n4, z1, z2, gz4ann] at gz4b
    all_goals
    rcases it_some h with ⟨z5, h⟩ | ⟨z5, h⟩
    ·try simp only [go_sem, n1, n2, n3, n4, z1, z2, gz4ann, gz4b] at z5
     all_goals
     (simp_all)
    ·try simp only [go_sem, n1, n2, n3, n4, z1, z2, gz4ann, gz4b] at z5
     all_goals
     obtain rfl := so_some h
     refine ⟨0, fun L hL => ?_⟩
     simp only [go_sem, ir84, E_28_l1, R_28_l1, ir84_b0, ir84_k0, ir84_o0, ir84_r0, z1, z2, lz2, xz2, fz3, gz4ann, gz4b, z5]
 ·try simp only [go_sem, n1, n2, n3, n4] at z1
  all_goals
  obtain rfl := so_some h
  refine ⟨0, fun L hL => ?_⟩
  simp only [go_sem, ir84, E_28_l1, R_28_l1, ir84_b0, ir84_k0, ir84_o0, ir84_r0, z1]

theorem Fs_28 {list : List Volume} {y_ : Bool} (h : spec_l23Ok list = some y_) : c_28.F [.sl 5 (List.map Volume_av list)] = ⟨true, .bool y_, [.any]⟩ := by
 refine mkF_E rfl ?_
 dsimp only [spec_l23Ok] at h
 obtain ⟨y_6, z6, h⟩ := bd_some h
 obtain ⟨Lz6, ez6⟩ := spec_l23Ok_l1_ex z6
 rcases y_6 with y_6a | y_6b
 ·dsimp only at h
  obtain rfl := so_some h
  refine ⟨Lz6, fun L hL => ?_⟩
  have ez6 := ez6 L (by omega)
  try simp only [go_sem, E_28_l1, R_28_l1, ir84_k0, ir84_o0, ir84_r0] at ez6
  simp only [go_sem, ir84, E_28_l1, R_28_l1, ir84_k0, ir84_o0, ir84_r0, ez6]
 ·dsimp only at h
  obtain rfl := so_some h
  refine ⟨Lz6, fun L hL => ?_⟩
  have ez6 := ez6 L (by omega)
  try simp only [go_sem, E_28_l1, R_28_l1, ir84_k0, ir84_o0, ir84_r0] at ez6
  simp only [go_sem, ir84, E_28_l1, R_28_l1, ir84_k0, ir84_o0, ir84_r0, ez6]


def ir44_v : List Nat := [0, 1, 2, 6]
def ir44 : AFn := ⟨3, 4, .seq (.region false [ VO 3 6 (.mov (I6 0))]) (.seq (.test false [ PM 7 0, PO 8 (.call 84 [(.s 0)]), PO 9 (.un .not (.s 0))] (.s 0) (.seq (.region false [ VO 3 6 (.mov (I6 1))]) (.ret)) (.skip)) (.seq (.test false [ PM 10 1, PO 11 (.call 85 [(.s 0)]), PO 12 (.un .not (.s 0)), PO 13 (.mov (.s 0)), ⟨.push, 14, (some ((.s 0), false)), .mov (.v 2)⟩, ⟨.push, 15, (some ((.s 1), false)), .call 85 [(.s 0)]⟩, ⟨.push, 16, (some ((.s 2), false)), .un .not (.s 0)⟩, PO 17 (.pick (.s 3) (.c (.bool true)) (.s 0)), PO 18 (.mov (.s 0)), ⟨.push, 19, (some ((.s 0), false)), .mov (.v 1)⟩,
 ⟨.push, 20, (some ((.s 1), false)), .mov (.v 2)⟩, ⟨.push, 21, (some ((.s 2), false)), .bin false .gtr (.s 1) (.s 0)⟩, PO 22 (.pick (.s 3) (.c (.bool true)) (.s 0))] (.s 0) (.seq (.region false [ VO 3 6 (.mov (I6 2))]) (.ret)) (.skip)) (.seq (.region false [ VO 3 6 (.mov (I6 0))]) (.ret)))), [.t 3]⟩
noncomputable def t_29 : List (Nat × Ctr) := [(84, c_28), (85, c_26)]
theorem lk_29_84 : look t_29 84 = some c_28 := rfl
theorem lk_29_85 : look t_29 85 = some c_26 := rfl
noncomputable def c_29 : Ctr := mkF t_29 ir44 [.bor, .bor, .bor]
theorem s_29 : Sound Try.prog 44 c_29 := mkF_sound _ rfl (snd_cons s_28 (snd_cons s_26 snd_nil)) (by kernel_rfl : chkFn Try.prog 44 ir44 ir44_v = true)
theorem M_29 : c_29.modes = [.bor, .bor, .bor] := rfl
theorem Fl_29 : c_29.flat = true := rfl
attribute [go_sem] M_29 Fl_29
attribute [go_sem] lk_29_84 lk_29_85
theorem Fs_29 {list : List Volume} {from_ : Int} {to_ : Int} {y_ : Int} (h : spec_l23Code list from_ to_ = some y_) : c_29.F [.sl 5 (List.map Volume_av list), .int .i64 from_, .int .i64 to_] = ⟨true, .int .i64 y_, [.any, .any, .any]⟩ := by
 refine mkF_E rfl ?_
 dsimp only [spec_l23Code] at h
 obtain ⟨y_1, z1, h⟩ := bd_some h
 have fz1 := Fs_28 z1
 try simp only [go_sem] at fz1
 rcases it_some h with ⟨z2, h⟩ | ⟨z2, h⟩
 ·try simp only [go_sem, n1, n2, n3, n4] at z2
  all_goals
  obtain rfl := so_some h
  refine ⟨0, fun L hL => ?_⟩
  simp only [go_sem, ir44, fz1, z2]
 ·try simp only [go_sem, n1, n2, n3, n4] at z2
  all_goals
  obtain ⟨y_3, z3, h⟩ := bd_some h
  have fz3 := Fs_26 z3
  try simp only [go_sem, z2] at fz3
  obtain ⟨z4, h⟩ := ck_some h
  rcases or_split z4 with ⟨gz4, z4⟩ | gz4
  ·try simp only [go_sem, n1, n2, n3, n4, z2] at gz4
   all_goals
   obtain ⟨y_4, hz4⟩ := Option.isSome_iff_exists.1 z4
   have fz4 := Fs_26 hz4
   try simp only [go_sem, n1, n2, n3, n4, z2, gz4] at hz4
   all_goals
   try simp only [go_sem, z2, gz4] at fz4
   rcases it_some h with ⟨z5, h⟩ | ⟨z5, h⟩
   ·try simp only [go_sem, n1, n2, n3, n4, z2, gz4, hz4] at z5
    all_goals
    obtain rfl := so_some h
    refine ⟨0, fun L hL => ?_⟩
    simp only [go_sem, ir44, fz1, z2, fz3, gz4, hz4, fz4, z5]
   ·try simp only [go_sem, n1, n2, n3, n4, z2, gz4, hz4] at z5
    all_goals
    obtain rfl := so_some h
    refine ⟨0, fun L hL => ?_⟩
    simp only [go_sem, ir44, fz1, z2, fz3, gz4, hz4, fz4, z5]
  ·have gz4n := no_f gz4
   have gz4nn := no_t gz4n
   try simp only [go_sem, n1, n2, n3, n4, z2] at gz4nn
   all_goals
   rcases it_some h with ⟨z5, h⟩ | ⟨z5, h⟩
   ·try simp only [go_sem, n1, n2, n3, n4, z2, gz4nn] at z5
    all_goals
    obtain rfl := so_some h
    refine ⟨0, fun L hL => ?_⟩
    simp only [go_sem, ir44, fz1, z2, fz3, gz4nn, z5]
   ·try simp only [go_sem, n1, n2, n3, n4, z2, gz4nn] at z5
    all_goals
    (simp_all)


def ir45_b0 : IR := .seq (.test false [ PM 7 4, PM 8 0, PO 9 (.len false (.s 0)), PO 10 (.bin false .lss (.s 2) (.s 0))] (.s 0) (.skip) (.exit 0)) (.seq (.block 1 (.anyo 37 [ SO 0 13 (.mov (.v 0)), SO 1 14 (.mov (.v 4)), SO 2 15 (.ixAddr 5 (.s 0) (.s 1)), SO 3 16 (.fldAddr 4 (.s 2)), SO 4 17 (.load false 1 (.s 3)), SO 5 18 (.bin false .gtr (.s 4) (I6 0)), SO 6 19 (.mov (.s 5)), ⟨.slot 7, 20, (some ((.s 6), true)), .mov (.v 1)⟩, ⟨.slot 8, 21, (some ((.s 6), true)), .mov (.v 0)⟩, ⟨.slot 9, 22, (some ((.s 6), true)), .mov (.v 4)⟩, ⟨.slot 10, 23, (some ((.s 6), true)), .ixAddr 5 (.s 8) (.s 9)⟩,
 ⟨.slot 11, 24, (some ((.s 6), true)), .fldAddr 1 (.s 10)⟩, ⟨.slot 12, 25, (some ((.s 6), true)), .load false 1 (.s 11)⟩, ⟨.slot 13, 26, (some ((.s 6), true)), .mov (.v 0)⟩, ⟨.slot 14, 27, (some ((.s 6), true)), .mov (.v 4)⟩, ⟨.slot 15, 28, (some ((.s 6), true)), .ixAddr 5 (.s 13) (.s 14)⟩, ⟨.slot 16, 29, (some ((.s 6), true)), .fldAddr 2 (.s 15)⟩, ⟨.slot 17, 30, (some ((.s 6), true)), .load false 1 (.s 16)⟩, ⟨.slot 18, 31, (some ((.s 6), true)), .call 60 [(.s 7), (.s 12), (.s 17)]⟩, SO 19 32 (.pick (.s 6) (.s 18) (.c (.bool false))), SO 20 33 (.mov (.s 19)), ⟨.slot 21, 34, (some ((.s 20),
 true)), .mov (.v 3)⟩, ⟨.slot 22, 35, (some ((.s 20), true)), .bin false .lss (.s 21) (I6 0)⟩, ⟨.slot 23, 36, (some ((.s 20), true)), .mov (.s 22)⟩, ⟨.slot 24, 37, (some ((.s 23), false)), .mov (.v 0)⟩, ⟨.slot 25, 38, (some ((.s 23), false)), .mov (.v 4)⟩, ⟨.slot 26, 39, (some ((.s 23), false)), .ixAddr 5 (.s 24) (.s 25)⟩, ⟨.slot 27, 40, (some ((.s 23), false)), .fldAddr 2 (.s 26)⟩, ⟨.slot 28, 41, (some ((.s 23), false)), .load false 1 (.s 27)⟩, ⟨.slot 29, 42, (some ((.s 23), false)), .mov (.v 0)⟩, ⟨.slot 30, 43, (some ((.s 23), false)), .mov (.v 3)⟩, ⟨.slot 31, 44, (some ((.s 23), false)),
 .ixAddr 5 (.s 29) (.s 30)⟩, ⟨.slot 32, 45, (some ((.s 23), false)), .fldAddr 2 (.s 31)⟩, ⟨.slot 33, 46, (some ((.s 23), false)), .load false 1 (.s 32)⟩, ⟨.slot 34, 47, (some ((.s 23), false)), .bin false .gtr (.s 28) (.s 33)⟩, ⟨.slot 35, 48, (some ((.s 20), true)), .pick (.s 23) (.c (.bool true)) (.s 34)⟩, SO 36 49 (.pick (.s 20) (.s 35) (.c (.bool false)))] [] (.cond (.s 36) (.region false [ PM 50 4, VS 3 5 0]) (.skip)))) (.region false [ PM 11 4, PO 12 (.bin false .add (.s 0) (I6 1)), VS 4 6 0]))
def ir45_k0 : List Bool := [true, true, false, true, true]
def ir45_o0 : List Bool := [false, false, false, true, false]
def ir45_r0 : List Bool := [false, false, true, false, false]
def ir45_v : List Nat := [0, 1, 4, 5, 6]
def ir45 : AFn := ⟨2, 5, .seq (.region false [ VO 2 4 (.mov (I6 0))]) (.seq (.region false [ VO 3 5 (.mov (.c (.int .i64 (-1))))]) (.seq (.seq (.region false [ VO 4 6 (.mov (I6 0))]) (.block 0 (.loop ir45_k0 ir45_o0 ir45_r0 ir45_b0))) (.seq (.region false [ PM 51 3, VS 2 4 0]) (.ret)))), [.t 2]⟩
noncomputable def t_30 : List (Nat × Ctr) := [(60, c_25)]
theorem lk_30_60 : look t_30 60 = some c_25 := rfl
noncomputable def c_30 : Ctr := mkF t_30 ir45 [.bor, .bor]
theorem s_30 : Sound Try.prog 45 c_30 := mkF_sound _ rfl (snd_cons s_25 snd_nil) (by kernel_rfl : chkFn Try.prog 45 ir45 ir45_v = true)
theorem M_30 : c_30.modes = [.bor, .bor] := rfl
theorem Fl_30 : c_30.flat = true := rfl
attribute [go_sem] M_30 Fl_30
attribute [go_sem] lk_30_60
def E_30_l1 (list : List Volume) (t : Int) : (Int × Int) → St
 | (best, i) => ⟨[.sl 5 (List.map Volume_av list), .int .i64 t, .any, .int .i64 best, .int .i64 i], [], [], true⟩
def R_30_l1 (list : List Volume) (t : Int) (y : Int) : Res := (.exit 0, ⟨[.any, .any, .any, .int .i64 y, .any], [], [], true⟩)
theorem spec_l23Reach_l1_ex {list : List Volume} {t : Int} {sgm_ : Int × Int} {rho_ : Int} (h : whileE (spec_l23Reach_l1 list t) sgm_ = some rho_) : ∃ L0, ∀ L, L0 ≤ L → iter (exec (look t_30) L ir45_b0) ir45_k0 ir45_o0 ir45_r0 L (E_30_l1 list t sgm_) = R_30_l1 list t rho_ := by
 refine loop_ex (E := E_30_l1 list t) (R := R_30_l1 list t) (fun y => by first | (intro c; cases c) | (rcases y with y | y <;> (intro c; cases c)) | (rcases y with y | y | y <;> (intro c; cases c))) ?_ h
 clear h
 rintro ⟨best, i⟩ o_ h
 dsimp only [spec_l23Reach_l1] at h
 rcases it_some h with ⟨z1, h⟩ | ⟨z1, h⟩
 ·try simp only [go_sem, n1, n2, n3, n4] at z1
  all_goals
  obtain ⟨z2, h⟩ := ck_some h
  have lz2 := ix_lt z2
  have xz2 := getD_mapD Volume_av list lz2
  try simp only [go_sem] at lz2
  try simp only [go_sem] at xz2
  try simp only [go_sem, n1, n2, n3, n4, z1] at z2
  all_goals
  obtain ⟨z3, h⟩ := ck_some h
  rcases or_split z3 with ⟨gz3, z3⟩ | gz3
  ·try simp only [go_sem, n1, n2, n3, n4, z1, z2] at gz3
   all_goals
   obtain ⟨y_3, hz3⟩ := Option.isSome_iff_exists.1 z3
   have fz3 := Fs_25 hz3
   try simp only [go_sem, n1, n2, n3, n4, z1, z2, gz3] at hz3
   all_goals
   try simp only [go_sem, z1, z2, gz3] at fz3
   obtain ⟨z4, h⟩ := ck_some h
   rcases or_split z4 with ⟨gz4, z4⟩ | gz4
   ·try simp only [go_sem, n1, n2, n3, n4, z1, z2, gz3, hz3] at gz4
    all_goals
    have lz4 := ix_lt z4
    have xz4 := getD_mapD Volume_av list lz4
    try simp only [go_sem] at lz4
    try simp only [go_sem] at xz4
    try simp only [go_sem, n1, n2, n3, n4, z1, z2, gz3, hz3, gz4] at z4
    all_goals
    rcases it_some h with ⟨z5, h⟩ | ⟨z5, h⟩
    ·try simp only [go_sem, n1, n2, n3, n4, z1, z2, gz3, hz3, gz4, z4] at z5
     all_goals
     obtain rfl := so_some h
     refine ⟨0, fun L hL => ?_⟩
     simp only [go_sem, ir45, E_30_l1, R_30_l1, ir45_b0, ir45_k0, ir45_o0, ir45_r0, z1, z2, lz2, xz2, gz3, hz3, fz3, gz4, z4, lz4, xz4, z5]
    ·try simp only [go_sem, n1, n2, n3, n4, z1, z2, gz3, hz3, gz4, z4] at z5
     all_goals
     obtain rfl := so_some h
     refine ⟨0, fun L hL => ?_⟩
     simp only [go_sem, ir45, E_30_l1, R_30_l1, ir45_b0, ir45_k0, ir45_o0, ir45_r0, z1, z2, lz2, xz2, gz3, hz3, fz3, gz4, z4, lz4, xz4, z5]
   ·rcases and_f gz4 with gz4a | ⟨gz4a, gz4b⟩
    ·rcases and_f gz4a with gz4aa | ⟨gz4aa, gz4ab⟩
     ·try simp only [go_sem, n1, n2, n3, n4, z1, z2, gz3, hz3] at gz4aa
      all_goals
      (simp_all)
     ·try simp only [go_sem, n1, n2, n3, n4, z1, z2, gz3, hz3] at gz4aa
      all_goals
      try simp only [go_sem, n1, n2, n3, n4, z1, z2, gz3, hz3, gz4aa] at gz4ab
      all_goals
      rcases it_some h with ⟨z5, h⟩ | ⟨z5, h⟩
      ·try simp only [go_sem, n1, n2, n3, n4, z1, z2, gz3, hz3, gz4aa, gz4ab] at z5
       all_goals
       (simp_all)
      ·try simp only [go_sem, n1, n2, n3, n4, z1, z2, gz3, hz3, gz4aa, gz4ab] at z5
       all_goals
       obtain rfl := so_some h
       refine ⟨0, fun L hL => ?_⟩
       simp only [go_sem, ir45, E_30_l1, R_30_l1, ir45_b0, ir45_k0, ir45_o0, ir45_r0, z1, z2, lz2, xz2, gz3, hz3, fz3, gz4aa, gz4ab, z5]
    ·obtain ⟨gz4aa, gz4ab⟩ := and_t gz4a
     have gz4bn := no_f gz4b
     try simp only [go_sem, n1, n2, n3, n4, z1, z2, gz3, hz3] at gz4aa
     all_goals
     try simp only [go_sem, n1, n2, n3, n4, z1, z2, gz3, hz3, gz4aa] at gz4ab
     all_goals
     try simp only [go_sem, n1, n2, n3, n4, z1, z2, gz3, hz3, gz4aa, gz4ab] at gz4bn
     all_goals
     rcases it_some h with ⟨z5, h⟩ | ⟨z5, h⟩
     ·try simp only [go_sem, n1, n2, n3, n4, z1, z2, gz3, hz3, gz4aa, gz4ab, gz4bn] at z5
      all_goals
      obtain rfl := so_some h
      refine ⟨0, fun L hL => ?_⟩
      simp only [go_sem, ir45, E_30_l1, R_30_l1, ir45_b0, ir45_k0, ir45_o0, ir45_r0, z1, z2, lz2, xz2, gz3, hz3, fz3, gz4aa, gz4ab, gz4bn, z5]
     ·try simp only [go_sem, n1, n2, n3, n4, z1, z2, gz3, hz3, gz4aa, gz4ab, gz4bn] at z5
      all_goals
      (simp_all)
  ·try simp only [go_sem, n1, n2, n3, n4, z1, z2] at gz3
   all_goals
   obtain ⟨z4, h⟩ := ck_some h
   rcases it_some h with ⟨z5, h⟩ | ⟨z5, h⟩
   ·try simp only [go_sem, n1, n2, n3, n4, z1, z2, gz3] at z5
    all_goals
    (simp_all)
   ·try simp only [go_sem, n1, n2, n3, n4, z1, z2, gz3] at z5
    all_goals
    obtain rfl := so_some h
    refine ⟨0, fun L hL => ?_⟩
    simp only [go_sem, ir45, E_30_l1, R_30_l1, ir45_b0, ir45_k0, ir45_o0, ir45_r0, z1, z2, lz2, xz2, gz3, z5]
 ·try simp only [go_sem, n1, n2, n3, n4] at z1
  all_goals
  obtain rfl := so_some h
  refine ⟨0, fun L hL => ?_⟩
  simp only [go_sem, ir45, E_30_l1, R_30_l1, ir45_b0, ir45_k0, ir45_o0, ir45_r0, z1]

theorem Fs_30 {list : List Volume} {t : Int} {y_ : Int} (h : spec_l23Reach list t = some y_) : c_30.F [.sl 5 (List.map Volume_av list), .int .i64 t] = ⟨true, .int .i64 y_, [.any, .any]⟩ := by
 refine mkF_E rfl ?_
 dsimp only [spec_l23Reach] at h
 obtain ⟨y_6, z6, h⟩ := bd_some h
 obtain ⟨Lz6, ez6⟩ := spec_l23Reach_l1_ex z6
 obtain rfl := so_some h
 refine ⟨Lz6, fun L hL => ?_⟩
 have ez6 := ez6 L (by omega)
 try simp only [go_sem, E_30_l1, R_30_l1, ir45_k0, ir45_o0, ir45_r0] at ez6
 simp only [go_sem, ir45, E_30_l1, R_30_l1, ir45_k0, ir45_o0, ir45_r0, ez6]


def ir9_b0 : IR := .seq (.test false [ PM 21 7, PM 22 2, PO 23 (.bin false .leq (.s 1) (.s 0))] (.s 0) (.skip) (.exit 0)) (.block 1 (.seq (.region false [ PM 24 0, PM 25 7, PO 26 (.call 45 [(.s 1), (.s 0)]), VS 8 11 0]) (.seq (.test false [ PM 27 8, PO 28 (.bin false .lss (.s 0) (I6 0))] (.s 0) (.seq (.region false [ VO 3 6 (.newnil 1), VO 4 7 (.mov (I6 3))]) (.ret)) (.skip)) (.seq (.region false [ PM 29 6, PM 30 8, PO 31 (.mkSl 1 (.int .i64 (0)) 1 [(0, (.s 0))]), PO 32 (.app 1 8 (.int .i64 (0)) (.s 2) (.s 0)), VS 6 9 0]) (.region false [ PM 33 0, PM 34 8, PO 35 (.ixAddr 5 (.s 1) (.s 0)), PO 36
 (.fldAddr 2 (.s 0)), PO 37 (.load false 1 (.s 0)), PO 38 (.bin false .add (.s 0) (I6 1)), VS 7 10 0])))))
def ir9_k0 : List Bool := [true, false, true, false, false, false, true, true, false]
def ir9_o0 : List Bool := [false, false, false, false, false, false, true, false, false]
def ir9_r0 : List Bool := [false, false, false, true, true, false, false, false, false]
def ir9_v : List Nat := [0, 1, 2, 6, 7, 8, 9, 10, 11]
def ir9 : AFn := ⟨3, 9, .seq (.region false [ VO 3 6 (.newnil 1), VO 4 7 (.mov (I6 0))]) (.seq (.region false [ PM 12 0, PM 13 1, PM 14 2, PO 15 (.call 44 [(.s 2), (.s 1), (.s 0)]), VS 5 8 0]) (.seq (.test false [ PM 16 5, PO 17 (.bin false .neq (.s 0) (I6 0))] (.s 0) (.seq (.region false [ PM 18 5, VO 3 6 (.newnil 1), VS 4 7 0]) (.ret)) (.skip)) (.seq (.region false [ PO 19 (.mkSl 1 (.int .i64 (0)) 0 []), VS 6 9 0]) (.seq (.seq (.region false [ PM 20 1, VS 7 10 0]) (.block 0 (.loop ir9_k0 ir9_o0 ir9_r0 ir9_b0))) (.seq (.region false [ PM 39 6, VS 3 6 0, VO 4 7 (.mov (I6 0))]) (.ret)))))), [.t
 3, .t 4]⟩
noncomputable def t_31 : List (Nat × Ctr) := [(44, c_29), (45, c_30)]
theorem lk_31_44 : look t_31 44 = some c_29 := rfl
theorem lk_31_45 : look t_31 45 = some c_30 := rfl
noncomputable def c_31 : Ctr := mkF t_31 ir9 [.bor, .bor, .bor]
theorem s_31 : Sound Try.prog 9 c_31 := mkF_sound _ rfl (snd_cons s_29 (snd_cons s_30 snd_nil)) (by kernel_rfl : chkFn Try.prog 9 ir9 ir9_v = true)
theorem M_31 : c_31.modes = [.bor, .bor, .bor] := rfl
theorem Fl_31 : c_31.flat = true := rfl
attribute [go_sem] M_31 Fl_31
attribute [go_sem] lk_31_44 lk_31_45
def E_31_l1 (list : List Volume) (to_ : Int) : ((List Int) × Int) → St
 | (out, t) => ⟨[.sl 5 (List.map Volume_av list), .any, .int .i64 to_, .any, .any, .any, .own 3200000, .int .i64 t, .any], [], [(3200000, ⟨1, List.map (AV.int .i64) out⟩)], true⟩
def R_31_l1 (list : List Volume) (to_ : Int) : ((List Int) ⊕ ((List Int) × Int)) → Res
 | .inl y => (.exit 0, ⟨[.any, .any, .any, .any, .any, .any, .own 3200000, .any, .any], [], [(3200000, ⟨1, List.map (AV.int .i64) y⟩)], true⟩)
 | .inr y => (.ret, ⟨[.any, .any, .any, .own 3200000, .int .i64 y.2, .any, .any, .any, .any], [], [(3200000, ⟨1, List.map (AV.int .i64) y.1⟩)], true⟩)
theorem spec_CoverTime_l1_ex {list : List Volume} {to_ : Int} {sgm_ : (List Int) × Int} {rho_ : (List Int) ⊕ ((List Int) × Int)} (h : whileE (spec_CoverTime_l1 list to_) sgm_ = some rho_) : ∃ L0, ∀ L, L0 ≤ L → iter (exec (look t_31) L ir9_b0) ir9_k0 ir9_o0 ir9_r0 L (E_31_l1 list to_ sgm_) = R_31_l1 list to_ rho_ := by
 refine loop_ex (E := E_31_l1 list to_) (R := R_31_l1 list to_) (fun y => by first | (intro c; cases c) | (rcases y with y | y <;> (intro c; cases c)) | (rcases y with y | y | y <;> (intro c; cases c))) ?_ h
 clear h
 rintro ⟨out, t⟩ o_ h
 dsimp only [spec_CoverTime_l1] at h
 rcases it_some h with ⟨z3, h⟩ | ⟨z3, h⟩
 ·try simp only [go_sem, n1, n2, n3, n4] at z3
  all_goals
  obtain ⟨y_4, z4, h⟩ := bd_some h
  have fz4 := Fs_30 z4
  try simp only [go_sem, z3] at fz4
  rcases it_some h with ⟨z5, h⟩ | ⟨z5, h⟩
  ·try simp only [go_sem, n1, n2, n3, n4, z3] at z5
   all_goals
   obtain rfl := so_some h
   refine ⟨0, fun L hL => ?_⟩
   simp only [go_sem, ir9, E_31_l1, R_31_l1, ir9_b0, ir9_k0, ir9_o0, ir9_r0, z3, fz4, z5]
  ·try simp only [go_sem, n1, n2, n3, n4, z3] at z5
   all_goals
   obtain ⟨z6, h⟩ := ck_some h
   try simp only [go_sem, n1, n2, n3, n4, z3, z5] at z6
   all_goals
   obtain ⟨z7, h⟩ := ck_some h
   have lz7 := ix_lt z7
   have xz7 := getD_mapD Volume_av list lz7
   try simp only [go_sem] at lz7
   try simp only [go_sem] at xz7
   try simp only [go_sem, n1, n2, n3, n4, z3, z5, z6] at z7
   all_goals
   obtain rfl := so_some h
   refine ⟨0, fun L hL => ?_⟩
   simp only [go_sem, ir9, E_31_l1, R_31_l1, ir9_b0, ir9_k0, ir9_o0, ir9_r0, z3, fz4, z5, z6, z7, lz7, xz7]
 ·try simp only [go_sem, n1, n2, n3, n4] at z3
  all_goals
  obtain rfl := so_some h
  refine ⟨0, fun L hL => ?_⟩
  simp only [go_sem, ir9, E_31_l1, R_31_l1, ir9_b0, ir9_k0, ir9_o0, ir9_r0, z3]

theorem Fs_31 {list : List Volume} {from_ : Int} {to_ : Int} {y_ : (List Int) × Int} (h : spec_CoverTime list from_ to_ = some y_) : c_31.F [.sl 5 (List.map Volume_av list), .int .i64 from_, .int .i64 to_] = ⟨true, .tup [.fresh 1 (List.map (AV.int .i64) y_.1), .int .i64 y_.2], [.any, .any, .any]⟩ := by
 refine mkF_E (by simp only [flatA, flatB, flat1, List.all_cons, List.all_nil, Bool.and_self, flatE_map (f := (AV.int .i64)) (fun _ => rfl)]) ?_
 dsimp only [spec_CoverTime] at h
 obtain ⟨y_1, z1, h⟩ := bd_some h
 have fz1 := Fs_29 z1
 try simp only [go_sem] at fz1
 rcases it_some h with ⟨z2, h⟩ | ⟨z2, h⟩
 ·try simp only [go_sem, n1, n2, n3, n4] at z2
  all_goals
  obtain rfl := so_some h
  refine ⟨0, fun L hL => ?_⟩
  simp only [go_sem, ir9, E_31_l1, R_31_l1, ir9_k0, ir9_o0, ir9_r0, fz1, z2]
 ·try simp only [go_sem, n1, n2, n3, n4] at z2
  all_goals
  obtain ⟨y_8, z8, h⟩ := bd_some h
  obtain ⟨Lz8, ez8⟩ := spec_CoverTime_l1_ex z8
  rcases y_8 with y_8a | y_8b
  ·dsimp only at h
   obtain rfl := so_some h
   refine ⟨Lz8, fun L hL => ?_⟩
   have ez8 := ez8 L (by omega)
   try simp only [go_sem, E_31_l1, R_31_l1, ir9_k0, ir9_o0, ir9_r0, z2] at ez8
   simp only [go_sem, ir9, E_31_l1, R_31_l1, ir9_k0, ir9_o0, ir9_r0, fz1, z2, ez8]
  ·dsimp only at h
   obtain rfl := so_some h
   refine ⟨Lz8, fun L hL => ?_⟩
   have ez8 := ez8 L (by omega)
   try simp only [go_sem, E_31_l1, R_31_l1, ir9_k0, ir9_o0, ir9_r0, z2] at ez8
   simp only [go_sem, ir9, E_31_l1, R_31_l1, ir9_k0, ir9_o0, ir9_r0, fz1, z2, ez8]


def ir122_v : List Nat := [0, 1, 2]
def ir122 : AFn := ⟨1, 3, .seq (.region false [ VO 1 1 (.pur (.box (.v 0))), VO 2 2 (.mov (.c (.cv .nilFunc)))]) (.seq (.region false [ PO 3 (.mkFn (.func 142) [] [(.v 1)]), VS 2 2 0]) (.ret)), [.t 2]⟩
noncomputable def t_32 : List (Nat × Ctr) := []
noncomputable def c_32 : Ctr := mkN t_32 ir122 [.bor]
theorem s_32 : Sound Try.prog 122 c_32 := mkN_sound _ snd_nil (by kernel_rfl : chkFn Try.prog 122 ir122 ir122_v = true)
theorem M_32 : c_32.modes = [.bor] := rfl
theorem Fl_32 : c_32.flat = false := rfl
attribute [go_sem] M_32 Fl_32
theorem Fs_32 {s_ : List Window} {y_ : (List Window)} (h : slices_Values_impl_Window_impl_Window s_ = some y_) : c_32.F [.sl 2 (List.map Window_av s_)] = ⟨true, .fn (.func 142) [] [.ptr 1 [.sl 2 (List.map Window_av y_)] 0 0], [.any]⟩ := by
 refine mkN_E ?_
 dsimp only [slices_Values_impl_Window_impl_Window] at h
 obtain rfl := so_some h
 refine ⟨0, fun L hL => ?_⟩
 simp only [go_sem, ir122]


theorem s_hCollectWindow : Sound Try.prog 140 c_hCollectWindow := hCollectWindow_is

def ir143_v : List Nat := [0, 2]
def ir143 : AFn := ⟨1, 2, .seq (.region false [ VO 1 2 (.mov (.c (.bool false)))]) (.seq (.region false [ PM 3 0, PM 4 0, PO 5 (.bin false .neq (.s 1) (.s 0)), VS 1 2 0]) (.ret)), [.t 1]⟩
noncomputable def t_34 : List (Nat × Ctr) := []
noncomputable def c_34 : Ctr := mkF t_34 ir143 [.bor]
theorem s_34 : Sound Try.prog 143 c_34 := mkF_sound _ rfl snd_nil (by kernel_rfl : chkFn Try.prog 143 ir143 ir143_v = true)
theorem M_34 : c_34.modes = [.bor] := rfl
theorem Fl_34 : c_34.flat = true := rfl
attribute [go_sem] M_34 Fl_34
theorem Fs_34 {x : Int} {y_ : Bool} (h : cmp_isNaN_int64 x = some y_) : c_34.F [.int .i64 x] = ⟨true, .bool y_, [.any]⟩ := by
 refine mkF_E rfl ?_
 dsimp only [cmp_isNaN_int64] at h
 obtain rfl := so_some h
 refine ⟨0, fun L hL => ?_⟩
 simp only [go_sem, ir143]


def ir124_v : List Nat := [0, 1, 4, 5, 6]
def ir124 : AFn := ⟨2, 5, .seq (.region false [ VO 2 4 (.mov (I6 0))]) (.seq (.region false [ PM 7 0, PO 8 (.call 143 [(.s 0)]), VS 3 5 0]) (.seq (.region false [ PM 9 1, PO 10 (.call 143 [(.s 0)]), VS 4 6 0]) (.seq (.test false [ PM 11 3] (.s 0) (.seq (.test false [ PM 12 4] (.s 0) (.seq (.region false [ VO 2 4 (.mov (I6 0))]) (.ret)) (.skip)) (.seq (.region false [ VO 2 4 (.mov (.c (.int .i64 (-1))))]) (.ret))) (.skip)) (.seq (.test false [ PM 13 4] (.s 0) (.seq (.region false [ VO 2 4 (.mov (I6 1))]) (.ret)) (.skip)) (.seq (.test false [ PM 14 0, PM 15 1, PO 16 (.bin false .lss (.s 1) (.s
 0))] (.s 0) (.seq (.region false [ VO 2 4 (.mov (.c (.int .i64 (-1))))]) (.ret)) (.skip)) (.seq (.test false [ PM 17 0, PM 18 1, PO 19 (.bin false .gtr (.s 1) (.s 0))] (.s 0) (.seq (.region false [ VO 2 4 (.mov (I6 1))]) (.ret)) (.skip)) (.seq (.region false [ VO 2 4 (.mov (I6 0))]) (.ret)))))))), [.t 2]⟩
noncomputable def t_35 : List (Nat × Ctr) := [(143, c_34)]
theorem lk_35_143 : look t_35 143 = some c_34 := rfl
noncomputable def c_35 : Ctr := mkF t_35 ir124 [.bor, .bor]
theorem s_35 : Sound Try.prog 124 c_35 := mkF_sound _ rfl (snd_cons s_34 snd_nil) (by kernel_rfl : chkFn Try.prog 124 ir124 ir124_v = true)
theorem M_35 : c_35.modes = [.bor, .bor] := rfl
theorem Fl_35 : c_35.flat = true := rfl
attribute [go_sem] M_35 Fl_35
attribute [go_sem] lk_35_143
theorem Fs_35 {x : Int} {y : Int} {y_ : Int} (h : cmp_Compare_int64 x y = some y_) : c_35.F [.int .i64 x, .int .i64 y] = ⟨true, .int .i64 y_, [.any, .any]⟩ := by
 refine mkF_E rfl ?_
 dsimp only [cmp_Compare_int64] at h
 obtain ⟨y_1, z1, h⟩ := bd_some h
 have fz1 := Fs_34 z1
 try simp only [go_sem] at fz1
 obtain ⟨y_2, z2, h⟩ := bd_some h
 have fz2 := Fs_34 z2
 try simp only [go_sem] at fz2
 rcases it_some h with ⟨z3, h⟩ | ⟨z3, h⟩
 ·try simp only [go_sem, n1, n2, n3, n4] at z3
  all_goals
  rcases it_some h with ⟨z4, h⟩ | ⟨z4, h⟩
  ·try simp only [go_sem, n1, n2, n3, n4, z3] at z4
   all_goals
   obtain rfl := so_some h
   refine ⟨0, fun L hL => ?_⟩
   simp only [go_sem, ir124, fz1, fz2, z3, z4]
  ·try simp only [go_sem, n1, n2, n3, n4, z3] at z4
   all_goals
   obtain rfl := so_some h
   refine ⟨0, fun L hL => ?_⟩
   simp only [go_sem, ir124, fz1, fz2, z3, z4]
 ·try simp only [go_sem, n1, n2, n3, n4] at z3
  all_goals
  rcases it_some h with ⟨z5, h⟩ | ⟨z5, h⟩
  ·try simp only [go_sem, n1, n2, n3, n4, z3] at z5
   all_goals
   obtain rfl := so_some h
   refine ⟨0, fun L hL => ?_⟩
   simp only [go_sem, ir124, fz1, fz2, z3, z5]
  ·try simp only [go_sem, n1, n2, n3, n4, z3] at z5
   all_goals
   rcases it_some h with ⟨z6, h⟩ | ⟨z6, h⟩
   ·try simp only [go_sem, n1, n2, n3, n4, z3, z5] at z6
    all_goals
    obtain rfl := so_some h
    refine ⟨0, fun L hL => ?_⟩
    simp only [go_sem, ir124, fz1, fz2, z3, z5, z6]
   ·try simp only [go_sem, n1, n2, n3, n4, z3, z5] at z6
    all_goals
    rcases it_some h with ⟨z7, h⟩ | ⟨z7, h⟩
    ·try simp only [go_sem, n1, n2, n3, n4, z3, z5, z6] at z7
     all_goals
     obtain rfl := so_some h
     refine ⟨0, fun L hL => ?_⟩
     simp only [go_sem, ir124, fz1, fz2, z3, z5, z6, z7]
    ·try simp only [go_sem, n1, n2, n3, n4, z3, z5, z6] at z7
     all_goals
     obtain rfl := so_some h
     refine ⟨0, fun L hL => ?_⟩
     simp only [go_sem, ir124, fz1, fz2, z3, z5, z6, z7]


def ir123_v : List Nat := [0, 1, 2, 3, 4]
def ir123 : AFn := ⟨2, 5, .seq (.region false [ VO 2 2 (.box (.v 0)), VO 3 3 (.box (.v 1)), VO 4 4 (.mov (I6 0))]) (.seq (.region false [ PO 5 (.fldAddr 0 (.v 2)), PO 6 (.load false 1 (.s 0)), PO 7 (.fldAddr 0 (.v 3)), PO 8 (.load false 1 (.s 0)), PO 9 (.call 124 [(.s 2), (.s 0)]), VS 4 4 0]) (.ret)), [.t 4]⟩
noncomputable def t_36 : List (Nat × Ctr) := [(124, c_35)]
theorem lk_36_124 : look t_36 124 = some c_35 := rfl
noncomputable def c_36 : Ctr := mkF t_36 ir123 [.bor, .bor]
theorem s_36 : Sound Try.prog 123 c_36 := mkF_sound _ rfl (snd_cons s_35 snd_nil) (by kernel_rfl : chkFn Try.prog 123 ir123 ir123_v = true)
theorem M_36 : c_36.modes = [.bor, .bor] := rfl
theorem Fl_36 : c_36.flat = true := rfl
attribute [go_sem] M_36 Fl_36
attribute [go_sem] lk_36_124
theorem Fs_36 {a : Window} {b : Window} {y_ : Int} (h : impl_longest_c1 a b = some y_) : c_36.F [Window_av a, Window_av b] = ⟨true, .int .i64 y_, [.any, .any]⟩ := by
 refine mkF_E rfl ?_
 dsimp only [impl_longest_c1] at h
 obtain ⟨y_1, z1, h⟩ := bd_some h
 have fz1 := Fs_35 z1
 try simp only [go_sem] at fz1
 obtain rfl := so_some h
 refine ⟨0, fun L hL => ?_⟩
 simp only [go_sem, ir123, fz1]


def ir168_b1 : IR := .seq (.anyo 17 [ SO 0 18 (.mov (.v 5)), SO 1 19 (.mov (.v 1)), SO 2 20 (.bin false .gtr (.s 0) (.s 1)), SO 3 21 (.mov (.s 2)), ⟨.slot 4, 22, (some ((.s 3), true)), .mov (.v 3)⟩, ⟨.slot 5, 23, (some ((.s 3), true)), .mov (.v 0)⟩, ⟨.slot 6, 24, (some ((.s 3), true)), .mov (.v 5)⟩, ⟨.slot 7, 25, (some ((.s 3), true)), .ixAddr 2 (.s 5) (.s 6)⟩, ⟨.slot 8, 26, (some ((.s 3), true)), .load true 2 (.s 7)⟩, ⟨.slot 9, 27, (some ((.s 3), true)), .mov (.v 0)⟩, ⟨.slot 10, 28, (some ((.s 3), true)), .mov (.v 5)⟩, ⟨.slot 11, 29, (some ((.s 3), true)), .bin false .sub (.s 10) (I6 1)⟩,
 ⟨.slot 12, 30, (some ((.s 3), true)), .ixAddr 2 (.s 9) (.s 11)⟩, ⟨.slot 13, 31, (some ((.s 3), true)), .load true 2 (.s 12)⟩, ⟨.slot 14, 32, (some ((.s 3), true)), .callv (.s 4) [(.s 8), (.s 13)]⟩, ⟨.slot 15, 33, (some ((.s 3), true)), .bin false .lss (.s 14) (I6 0)⟩, SO 16 34 (.pick (.s 3) (.s 15) (.c (.bool false)))] [] (.cond (.s 16) (.skip) (.exit 2))) (.seq (.block 3 (.anyo 16 [ SO 0 37 (.mov (.v 0)), SO 1 38 (.flat (.mov (.v 5))), SO 2 39 (.mov (.v 0)), SO 3 40 (.flat (.mov (.v 5))), SO 4 41 (.flat (.bin false .sub (.s 3) (I6 1))), SO 5 42 (.mov (.v 0)), SO 6 43 (.flat (.mov (.v 5))), SO
 7 44 (.flat (.bin false .sub (.s 6) (I6 1))), SO 8 45 (.ixAddr 2 (.s 5) (.s 7)), SO 9 46 (.load true 2 (.s 8)), SO 10 47 (.mov (.v 0)), SO 11 48 (.flat (.mov (.v 5))), SO 12 49 (.ixAddr 2 (.s 10) (.s 11)), SO 13 50 (.load true 2 (.s 12)), SO 14 51 (.ixAddr 2 (.s 0) (.s 1)), ⟨.no, 0, none, .store 2 (.s 14) (.s 9)⟩, SO 15 52 (.ixAddr 2 (.s 2) (.s 4)), ⟨.no, 0, none, .store 2 (.s 15) (.s 13)⟩] [[0, 1, 3, 4, 5, 6, 7, 8, 9, 10, 11, 12, 13, 14, 2, 15, 16, 17], [0, 1, 3, 4, 5, 6, 7, 8, 9, 10, 11, 12, 13, 14, 15, 2, 16, 17]] .skip)) (.region false [ PM 35 5, PO 36 (.bin false .sub (.s 0) (I6 1)), VS 5
 9 0]))
def ir168_k1 : List Bool := [true, true, true, true, true, true]
def ir168_o1 : List Bool := [true, true, true, true, true, false]
def ir168_r1 : List Bool := [true, false, false, false, false, false]
def ir168_b0 : IR := .seq (.test false [ PM 12 4, PM 13 2, PO 14 (.bin false .lss (.s 1) (.s 0))] (.s 0) (.skip) (.exit 0)) (.seq (.block 1 (.seq (.region false [ PM 17 4, VS 5 9 0]) (.block 2 (.loop ir168_k1 ir168_o1 ir168_r1 ir168_b1)))) (.region false [ PM 15 4, PO 16 (.bin false .add (.s 0) (I6 1)), VS 4 8 0]))
def ir168_k0 : List Bool := [true, true, true, true, true, false]
def ir168_o0 : List Bool := [true, false, false, false, false, false]
def ir168_r0 : List Bool := [true, false, false, false, false, false]
def ir168_v : List Nat := [0, 1, 2, 3, 8, 9]
def ir168 : AFn := ⟨4, 6, .seq (.region false [ PM 10 1, PO 11 (.bin false .add (.s 0) (I6 1)), VS 4 8 0]) (.block 0 (.loop ir168_k0 ir168_o0 ir168_r0 ir168_b0)), []⟩
noncomputable def t_37 : List (Nat × Ctr) := [(123, c_36)]
theorem lk_37_123 : look t_37 123 = some c_36 := rfl
noncomputable def c_37 : Ctr := mkN t_37 ir168 [.io, .bor, .bor, .bor]
theorem s_37 : Sound Try.prog 168 c_37 := mkN_sound _ (snd_cons s_36 snd_nil) (by kernel_rfl : chkFn Try.prog 168 ir168 ir168_v = true)
theorem M_37 : c_37.modes = [.io, .bor, .bor, .bor] := rfl
theorem Fl_37 : c_37.flat = false := rfl
attribute [go_sem] M_37 Fl_37
attribute [go_sem] lk_37_123
def E_37_l2 (a : Int) (b : Int) (i : Int) : ((List Window) × Int) → St
 | (data, j) => ⟨[.own 31, .int .i64 a, .int .i64 b, .fn (.func 123) [] [], .int .i64 i, .int .i64 j], [], [(31, ⟨2, List.map Window_av data⟩)], true⟩
def R_37_l2 (a : Int) (b : Int) (i : Int) (y : (List Window)) : Res := (.exit 2, ⟨[.own 31, .int .i64 a, .int .i64 b, .fn (.func 123) [] [], .int .i64 i, .any], [], [(31, ⟨2, List.map Window_av y⟩)], true⟩)
theorem slices_insertionSortCmpFunc_impl_Window__impl_longest_c1_l2_ex {a : Int} {b : Int} {i : Int} {sgm_ : (List Window) × Int} {rho_ : (List Window)} (h : whileE (slices_insertionSortCmpFunc_impl_Window__impl_longest_c1_l2 a b i) sgm_ = some rho_) : ∃ L0, ∀ L, L0 ≤ L → iter (exec (look t_37) L ir168_b1) ir168_k1 ir168_o1 ir168_r1 L (E_37_l2 a b i sgm_) = R_37_l2 a b i rho_ := by
 refine loop_ex (E := E_37_l2 a b i) (R := R_37_l2 a b i) (fun y => by first | (intro c; cases c) | (rcases y with y | y <;> (intro c; cases c)) | (rcases y with y | y | y <;> (intro c; cases c))) ?_ h
 clear h
 rintro ⟨data, j⟩ o_ h
 dsimp only [slices_insertionSortCmpFunc_impl_Window__impl_longest_c1_l2] at h
 obtain ⟨z2, h⟩ := ck_some h
 rcases or_split z2 with ⟨gz2, z2⟩ | gz2
 ·try simp only [go_sem, n1, n2, n3, n4] at gz2
  all_goals
  have lz2 := ix_lt z2
  have xz2 := getD_mapD Window_av data lz2
  try simp only [go_sem] at lz2
  try simp only [go_sem] at xz2
  try simp only [go_sem, n1, n2, n3, n4, gz2] at z2
  all_goals
  obtain ⟨z3, h⟩ := ck_some h
  rcases or_split z3 with ⟨gz3, z3⟩ | gz3
  ·try simp only [go_sem, n1, n2, n3, n4, gz2, z2] at gz3
   all_goals
   have lz3 := ix_lt z3
   have xz3 := getD_mapD Window_av data lz3
   try simp only [go_sem] at lz3
   try simp only [go_sem] at xz3
   try simp only [go_sem, n1, n2, n3, n4, gz2, z2, gz3] at z3
   all_goals
   obtain ⟨z4, h⟩ := ck_some h
   rcases or_split z4 with ⟨gz4, z4⟩ | gz4
   ·try simp only [go_sem, n1, n2, n3, n4, gz2, z2, gz3, z3] at gz4
    all_goals
    obtain ⟨y_4, hz4⟩ := Option.isSome_iff_exists.1 z4
    have fz4 := Fs_36 hz4
    try simp only [go_sem, n1, n2, n3, n4, gz2, z2, gz3, z3, gz4] at hz4
    all_goals
    try simp only [go_sem, gz2, z2, gz3, z3, gz4] at fz4
    rcases it_some h with ⟨z5, h⟩ | ⟨z5, h⟩
    ·try simp only [go_sem, n1, n2, n3, n4, gz2, z2, gz3, z3, gz4, hz4] at z5
     all_goals
     obtain ⟨z6, h⟩ := ck_some h
     have lz6 := ix_lt z6
     have xz6 := getD_mapD Window_av data lz6
     try simp only [go_sem] at lz6
     try simp only [go_sem] at xz6
     try simp only [go_sem, n1, n2, n3, n4, gz2, z2, gz3, z3, gz4, hz4, z5] at z6
     all_goals
     obtain ⟨z7, h⟩ := ck_some h
     have lz7 := ix_lt z7
     have xz7 := getD_mapD Window_av data lz7
     try simp only [go_sem] at lz7
     try simp only [go_sem] at xz7
     try simp only [go_sem, n1, n2, n3, n4, gz2, z2, gz3, z3, gz4, hz4, z5, z6] at z7
     all_goals
     have xz8 := (by rw [← List.map_set]; exact getD_mapD Window_av (data.set j.toNat (data.getD (IntKind.i64.wrap (j - 1)).toNat default)) (by first | (rw [List.length_set]; exact lz6) | (simp; omega)) : ((List.map Window_av data).set j.toNat (Window_av (data.getD (IntKind.i64.wrap (j - 1)).toNat default))).getD ((IntKind.i64.wrap (j - 1)).toNat) .any = Window_av ((data.set j.toNat (data.getD (IntKind.i64.wrap (j - 1)).toNat default)).getD ((IntKind.i64.wrap (j - 1)).toNat) default))
     try simp only [go_sem] at xz8
     obtain rfl := so_some h
     refine ⟨0, fun L hL => ?_⟩
     simp only [go_sem, ir168, E_37_l2, R_37_l2, ir168_b1, ir168_k1, ir168_o1, ir168_r1, gz2, z2, lz2, xz2, gz3, z3, lz3, xz3, gz4, hz4, fz4, z5, z6, lz6, xz6, z7, lz7, xz7, xz8]
    ·try simp only [go_sem, n1, n2, n3, n4, gz2, z2, gz3, z3, gz4, hz4] at z5
     all_goals
     obtain rfl := so_some h
     refine ⟨0, fun L hL => ?_⟩
     simp only [go_sem, ir168, E_37_l2, R_37_l2, ir168_b1, ir168_k1, ir168_o1, ir168_r1, gz2, z2, lz2, xz2, gz3, z3, lz3, xz3, gz4, hz4, fz4, z5]
   ·try simp only [go_sem, n1, n2, n3, n4, gz2, z2, gz3, z3] at gz4
    all_goals
    rcases it_some h with ⟨z5, h⟩ | ⟨z5, h⟩
    ·try simp only [go_sem, n1, n2, n3, n4, gz2, z2, gz3, z3, gz4] at z5
     all_goals
     (simp_all)
    ·try simp only [go_sem, n1, n2, n3, n4, gz2, z2, gz3, z3, gz4] at z5
     all_goals
     obtain rfl := so_some h
     refine ⟨0, fun L hL => ?_⟩
     simp only [go_sem, ir168, E_37_l2, R_37_l2, ir168_b1, ir168_k1, ir168_o1, ir168_r1, gz2, z2, lz2, xz2, gz3, z3, lz3, xz3, gz4, z5]
  ·try simp only [go_sem, n1, n2, n3, n4, gz2, z2] at gz3
   all_goals
   obtain ⟨z4, h⟩ := ck_some h
   rcases it_some h with ⟨z5, h⟩ | ⟨z5, h⟩
   ·try simp only [go_sem, n1, n2, n3, n4, gz2, z2, gz3] at z5
    all_goals
    (simp_all)
   ·try simp only [go_sem, n1, n2, n3, n4, gz2, z2, gz3] at z5
    all_goals
    obtain rfl := so_some h
    refine ⟨0, fun L hL => ?_⟩
    simp only [go_sem, ir168, E_37_l2, R_37_l2, ir168_b1, ir168_k1, ir168_o1, ir168_r1, gz2, z2, lz2, xz2, gz3, z5]
 ·try simp only [go_sem, n1, n2, n3, n4] at gz2
  all_goals
  obtain ⟨z3, h⟩ := ck_some h
  obtain ⟨z4, h⟩ := ck_some h
  rcases it_some h with ⟨z5, h⟩ | ⟨z5, h⟩
  ·try simp only [go_sem, n1, n2, n3, n4, gz2] at z5
   all_goals
   (simp_all)
  ·try simp only [go_sem, n1, n2, n3, n4, gz2] at z5
   all_goals
   obtain rfl := so_some h
   refine ⟨0, fun L hL => ?_⟩
   simp only [go_sem, ir168, E_37_l2, R_37_l2, ir168_b1, ir168_k1, ir168_o1, ir168_r1, gz2, z5]

def E_37_l1 (a : Int) (b : Int) : ((List Window) × Int) → St
 | (data, i) => ⟨[.own 31, .int .i64 a, .int .i64 b, .fn (.func 123) [] [], .int .i64 i, .any], [], [(31, ⟨2, List.map Window_av data⟩)], true⟩
def R_37_l1 (a : Int) (b : Int) (y : (List Window)) : Res := (.exit 0, ⟨[.own 31, .any, .any, .any, .any, .any], [], [(31, ⟨2, List.map Window_av y⟩)], true⟩)
theorem slices_insertionSortCmpFunc_impl_Window__impl_longest_c1_l1_ex {a : Int} {b : Int} {sgm_ : (List Window) × Int} {rho_ : (List Window)} (h : whileE (slices_insertionSortCmpFunc_impl_Window__impl_longest_c1_l1 a b) sgm_ = some rho_) : ∃ L0, ∀ L, L0 ≤ L → iter (exec (look t_37) L ir168_b0) ir168_k0 ir168_o0 ir168_r0 L (E_37_l1 a b sgm_) = R_37_l1 a b rho_ := by
 refine loop_ex (E := E_37_l1 a b) (R := R_37_l1 a b) (fun y => by first | (intro c; cases c) | (rcases y with y | y <;> (intro c; cases c)) | (rcases y with y | y | y <;> (intro c; cases c))) ?_ h
 clear h
 rintro ⟨data, i⟩ o_ h
 dsimp only [slices_insertionSortCmpFunc_impl_Window__impl_longest_c1_l1] at h
 rcases it_some h with ⟨z1, h⟩ | ⟨z1, h⟩
 ·try simp only [go_sem, n1, n2, n3, n4] at z1
  all_goals
  obtain ⟨y_9, z9, h⟩ := bd_some h
  obtain ⟨Lz9, ez9⟩ := slices_insertionSortCmpFunc_impl_Window__impl_longest_c1_l2_ex z9
  obtain rfl := so_some h
  refine ⟨Lz9, fun L hL => ?_⟩
  have ez9 := ez9 L (by omega)
  try simp only [go_sem, E_37_l1, R_37_l1, ir168_b0, ir168_k0, ir168_o0, ir168_r0, E_37_l2, R_37_l2, ir168_k1, ir168_o1, ir168_r1, z1] at ez9
  simp only [go_sem, ir168, E_37_l1, R_37_l1, ir168_b0, ir168_k0, ir168_o0, ir168_r0, E_37_l2, R_37_l2, ir168_k1, ir168_o1, ir168_r1, z1, ez9]
 ·try simp only [go_sem, n1, n2, n3, n4] at z1
  all_goals
  obtain rfl := so_some h
  refine ⟨0, fun L hL => ?_⟩
  simp only [go_sem, ir168, E_37_l1, R_37_l1, ir168_b0, ir168_k0, ir168_o0, ir168_r0, E_37_l2, R_37_l2, ir168_k1, ir168_o1, ir168_r1, z1]

theorem Fs_37 {data : List Window} {a : Int} {b : Int} {y_ : (List Window)} (h : slices_insertionSortCmpFunc_impl_Window__impl_longest_c1 data a b = some y_) : c_37.F [.fresh 2 (List.map Window_av data), .int .i64 a, .int .i64 b, .fn (.func 123) [] []] = ⟨true, .cv undef, [.fresh 2 (List.map Window_av y_), .any, .any, .any]⟩ := by
 refine mkN_E ?_
 dsimp only [slices_insertionSortCmpFunc_impl_Window__impl_longest_c1] at h
 obtain ⟨y_10, z10, h⟩ := bd_some h
 obtain ⟨Lz10, ez10⟩ := slices_insertionSortCmpFunc_impl_Window__impl_longest_c1_l1_ex z10
 obtain ⟨z11, h⟩ := ck_some h
 try simp only [go_sem, n1, n2, n3, n4] at z11
 all_goals
 obtain rfl := so_some h
 refine ⟨Lz10, fun L hL => ?_⟩
 have ez10 := ez10 L (by omega)
 try simp only [go_sem, E_37_l2, R_37_l2, ir168_k1, ir168_o1, ir168_r1, E_37_l1, R_37_l1, ir168_k0, ir168_o0, ir168_r0, z11] at ez10
 simp only [go_sem, ir168, E_37_l2, R_37_l2, ir168_k1, ir168_o1, ir168_r1, E_37_l1, R_37_l1, ir168_k0, ir168_o0, ir168_r0, z11, ez10]


def ir172_b0 : IR := .seq (.test false [ PM 11 5, PM 12 3, PO 13 (.bin false .lss (.s 1) (.s 0))] (.s 0) (.skip) (.exit 0)) (.seq (.block 1 (.anyo 22 [ SO 0 16 (.mov (.v 0)), SO 1 17 (.flat (.mov (.v 1))), SO 2 18 (.flat (.mov (.v 5))), SO 3 19 (.flat (.bin false .add (.s 1) (.s 2))), SO 4 20 (.mov (.v 0)), SO 5 21 (.flat (.mov (.v 2))), SO 6 22 (.flat (.mov (.v 5))), SO 7 23 (.flat (.bin false .add (.s 5) (.s 6))), SO 8 24 (.mov (.v 0)), SO 9 25 (.flat (.mov (.v 2))), SO 10 26 (.flat (.mov (.v 5))), SO 11 27 (.flat (.bin false .add (.s 9) (.s 10))), SO 12 28 (.ixAddr 2 (.s 8) (.s 11)), SO 13
 29 (.load true 2 (.s 12)), SO 14 30 (.mov (.v 0)), SO 15 31 (.flat (.mov (.v 1))), SO 16 32 (.flat (.mov (.v 5))), SO 17 33 (.flat (.bin false .add (.s 15) (.s 16))), SO 18 34 (.ixAddr 2 (.s 14) (.s 17)), SO 19 35 (.load true 2 (.s 18)), SO 20 36 (.ixAddr 2 (.s 0) (.s 3)), ⟨.no, 0, none, .store 2 (.s 20) (.s 13)⟩, SO 21 37 (.ixAddr 2 (.s 4) (.s 7)), ⟨.no, 0, none, .store 2 (.s 21) (.s 19)⟩] [[0, 1, 2, 3, 5, 6, 7, 8, 9, 10, 11, 12, 13, 14, 15, 16, 17, 18, 19, 20, 4, 21, 22, 23], [0, 1, 2, 3, 5, 6, 7, 8, 9, 10, 11, 12, 13, 14, 15, 16, 17, 18, 19, 20, 21, 4, 22, 23]] .skip)) (.region false [ PM
 14 5, PO 15 (.bin false .add (.s 0) (I6 1)), VS 5 10 0]))
def ir172_k0 : List Bool := [true, true, true, true, false, true]
def ir172_o0 : List Bool := [true, false, false, false, false, false]
def ir172_r0 : List Bool := [true, false, false, false, false, false]
def ir172_v : List Nat := [0, 1, 2, 3, 4, 10]
def ir172 : AFn := ⟨5, 6, .seq (.region false [ VO 5 10 (.mov (I6 0))]) (.block 0 (.loop ir172_k0 ir172_o0 ir172_r0 ir172_b0)), []⟩
noncomputable def t_38 : List (Nat × Ctr) := []
noncomputable def c_38 : Ctr := mkN t_38 ir172 [.io, .bor, .bor, .bor, .bor]
theorem s_38 : Sound Try.prog 172 c_38 := mkN_sound _ snd_nil (by kernel_rfl : chkFn Try.prog 172 ir172 ir172_v = true)
theorem M_38 : c_38.modes = [.io, .bor, .bor, .bor, .bor] := rfl
theorem Fl_38 : c_38.flat = false := rfl
attribute [go_sem] M_38 Fl_38
def E_38_l1 (a : Int) (b : Int) (n : Int) : ((List Window) × Int) → St
 | (data, i) => ⟨[.own 31, .int .i64 a, .int .i64 b, .int .i64 n, .any, .int .i64 i], [], [(31, ⟨2, List.map Window_av data⟩)], true⟩
def R_38_l1 (a : Int) (b : Int) (n : Int) (y : (List Window)) : Res := (.exit 0, ⟨[.own 31, .any, .any, .any, .any, .any], [], [(31, ⟨2, List.map Window_av y⟩)], true⟩)
theorem slices_swapRangeCmpFunc_impl_Window__impl_longest_c1_l1_ex {a : Int} {b : Int} {n : Int} {sgm_ : (List Window) × Int} {rho_ : (List Window)} (h : whileE (slices_swapRangeCmpFunc_impl_Window__impl_longest_c1_l1 a b n) sgm_ = some rho_) : ∃ L0, ∀ L, L0 ≤ L → iter (exec (look t_38) L ir172_b0) ir172_k0 ir172_o0 ir172_r0 L (E_38_l1 a b n sgm_) = R_38_l1 a b n rho_ := by
 refine loop_ex (E := E_38_l1 a b n) (R := R_38_l1 a b n) (fun y => by first | (intro c; cases c) | (rcases y with y | y <;> (intro c; cases c)) | (rcases y with y | y | y <;> (intro c; cases c))) ?_ h
 clear h
 rintro ⟨data, i⟩ o_ h
 dsimp only [slices_swapRangeCmpFunc_impl_Window__impl_longest_c1_l1] at h
 rcases it_some h with ⟨z1, h⟩ | ⟨z1, h⟩
 ·try simp only [go_sem, n1, n2, n3, n4] at z1
  all_goals
  obtain ⟨z2, h⟩ := ck_some h
  have lz2 := ix_lt z2
  have xz2 := getD_mapD Window_av data lz2
  try simp only [go_sem] at lz2
  try simp only [go_sem] at xz2
  try simp only [go_sem, n1, n2, n3, n4, z1] at z2
  all_goals
  obtain ⟨z3, h⟩ := ck_some h
  have lz3 := ix_lt z3
  have xz3 := getD_mapD Window_av data lz3
  try simp only [go_sem] at lz3
  try simp only [go_sem] at xz3
  try simp only [go_sem, n1, n2, n3, n4, z1, z2] at z3
  all_goals
  have xz4 := (by rw [← List.map_set]; exact getD_mapD Window_av (data.set ((IntKind.i64.wrap (a + i)).toNat) (data.getD (IntKind.i64.wrap (b + i)).toNat default)) (by first | (rw [List.length_set]; exact lz2) | (simp; omega)) : ((List.map Window_av data).set ((IntKind.i64.wrap (a + i)).toNat) (Window_av (data.getD (IntKind.i64.wrap (b + i)).toNat default))).getD ((IntKind.i64.wrap (b + i)).toNat) .any = Window_av ((data.set ((IntKind.i64.wrap (a + i)).toNat) (data.getD (IntKind.i64.wrap (b + i)).toNat default)).getD ((IntKind.i64.wrap (b + i)).toNat) default))
  try simp only [go_sem] at xz4
  obtain rfl := so_some h
  refine ⟨0, fun L hL => ?_⟩
  simp only [go_sem, ir172, E_38_l1, R_38_l1, ir172_b0, ir172_k0, ir172_o0, ir172_r0, z1, z2, lz2, xz2, z3, lz3, xz3, xz4]
 ·try simp only [go_sem, n1, n2, n3, n4] at z1
  all_goals
  obtain rfl := so_some h
  refine ⟨0, fun L hL => ?_⟩
  simp only [go_sem, ir172, E_38_l1, R_38_l1, ir172_b0, ir172_k0, ir172_o0, ir172_r0, z1]

theorem Fs_38 {data : List Window} {a : Int} {b : Int} {n : Int} {y_ : (List Window)} (h : slices_swapRangeCmpFunc_impl_Window__impl_longest_c1 data a b n = some y_) : c_38.F [.fresh 2 (List.map Window_av data), .int .i64 a, .int .i64 b, .int .i64 n, .fn (.func 123) [] []] = ⟨true, .cv undef, [.fresh 2 (List.map Window_av y_), .any, .any, .any, .any]⟩ := by
 refine mkN_E ?_
 dsimp only [slices_swapRangeCmpFunc_impl_Window__impl_longest_c1] at h
 obtain ⟨y_5, z5, h⟩ := bd_some h
 obtain ⟨Lz5, ez5⟩ := slices_swapRangeCmpFunc_impl_Window__impl_longest_c1_l1_ex z5
 obtain ⟨z6, h⟩ := ck_some h
 try simp only [go_sem, n1, n2, n3, n4] at z6
 all_goals
 obtain rfl := so_some h
 refine ⟨Lz5, fun L hL => ?_⟩
 have ez5 := ez5 L (by omega)
 try simp only [go_sem, E_38_l1, R_38_l1, ir172_k0, ir172_o0, ir172_r0, z6] at ez5
 simp only [go_sem, ir172, E_38_l1, R_38_l1, ir172_k0, ir172_o0, ir172_r0, z6, ez5]


def ir171_b0 : IR := .seq (.test false [ PM 18 5, PM 19 6, PO 20 (.bin false .neq (.s 1) (.s 0))] (.s 0) (.skip) (.exit 0)) (.block 1 (.test false [ PM 21 5, PM 22 6, PO 23 (.bin false .gtr (.s 1) (.s 0))] (.s 0) (.seq (.region false [ PM 24 0, PM 25 2, PM 26 5, PO 27 (.bin false .sub (.s 1) (.s 0)), PM 28 2, PM 29 6, PM 30 4, PO 31 (.call 172 [(.s 6), (.s 3), (.s 2), (.s 1), (.s 0)])]) (.region false [ PM 32 5, PM 33 6, PO 34 (.bin false .sub (.s 1) (.s 0)), VS 5 10 0])) (.seq (.region false [ PM 35 0, PM 36 2, PM 37 5, PO 38 (.bin false .sub (.s 1) (.s 0)), PM 39 2, PM 40 6, PO 41 (.bin false
 .add (.s 1) (.s 0)), PM 42 5, PO 43 (.bin false .sub (.s 1) (.s 0)), PM 44 5, PM 45 4, PO 46 (.call 172 [(.s 10), (.s 7), (.s 2), (.s 1), (.s 0)])]) (.region false [ PM 47 6, PM 48 5, PO 49 (.bin false .sub (.s 1) (.s 0)), VS 6 11 0]))))
def ir171_k0 : List Bool := [true, false, true, false, true, true, true]
def ir171_o0 : List Bool := [true, false, true, false, true, true, false]
def ir171_r0 : List Bool := [true, false, false, false, false, false, false]
def ir171_v : List Nat := [0, 1, 2, 3, 4, 10, 11]
def ir171 : AFn := ⟨5, 7, .seq (.region false [ PM 12 2, PM 13 1, PO 14 (.bin false .sub (.s 1) (.s 0)), VS 5 10 0]) (.seq (.region false [ PM 15 3, PM 16 2, PO 17 (.bin false .sub (.s 1) (.s 0)), VS 6 11 0]) (.seq (.block 0 (.loop ir171_k0 ir171_o0 ir171_r0 ir171_b0)) (.region false [ PM 50 0, PM 51 2, PM 52 5, PO 53 (.bin false .sub (.s 1) (.s 0)), PM 54 2, PM 55 5, PM 56 4, PO 57 (.call 172 [(.s 6), (.s 3), (.s 2), (.s 1), (.s 0)])]))), []⟩
noncomputable def t_39 : List (Nat × Ctr) := [(172, c_38)]
theorem lk_39_172 : look t_39 172 = some c_38 := rfl
noncomputable def c_39 : Ctr := mkN t_39 ir171 [.io, .bor, .bor, .bor, .bor]
theorem s_39 : Sound Try.prog 171 c_39 := mkN_sound _ (snd_cons s_38 snd_nil) (by kernel_rfl : chkFn Try.prog 171 ir171 ir171_v = true)
theorem M_39 : c_39.modes = [.io, .bor, .bor, .bor, .bor] := rfl
theorem Fl_39 : c_39.flat = false := rfl
attribute [go_sem] M_39 Fl_39
attribute [go_sem] lk_39_172
def E_39_l1 (m : Int) : ((List Window) × Int × Int) → St
 | (data, i, j) => ⟨[.own 31, .any, .int .i64 m, .any, .fn (.func 123) [] [], .int .i64 i, .int .i64 j], [], [(31, ⟨2, List.map Window_av data⟩)], true⟩
def R_39_l1 (m : Int) (y : (List Window) × Int) : Res := (.exit 0, ⟨[.own 31, .any, .int .i64 m, .any, .fn (.func 123) [] [], .int .i64 y.2, .any], [], [(31, ⟨2, List.map Window_av y.1⟩)], true⟩)
theorem slices_rotateCmpFunc_impl_Window__impl_longest_c1_l1_ex {m : Int} {sgm_ : (List Window) × Int × Int} {rho_ : (List Window) × Int} (h : whileE (slices_rotateCmpFunc_impl_Window__impl_longest_c1_l1 m) sgm_ = some rho_) : ∃ L0, ∀ L, L0 ≤ L → iter (exec (look t_39) L ir171_b0) ir171_k0 ir171_o0 ir171_r0 L (E_39_l1 m sgm_) = R_39_l1 m rho_ := by
 refine loop_ex (E := E_39_l1 m) (R := R_39_l1 m) (fun y => by first | (intro c; cases c) | (rcases y with y | y <;> (intro c; cases c)) | (rcases y with y | y | y <;> (intro c; cases c))) ?_ h
 clear h
 rintro ⟨data, i, j⟩ o_ h
 dsimp only [slices_rotateCmpFunc_impl_Window__impl_longest_c1_l1] at h
 rcases it_some h with ⟨z1, h⟩ | ⟨z1, h⟩
 ·try simp only [go_sem, n1, n2, n3, n4] at z1
  all_goals
  rcases it_some h with ⟨z2, h⟩ | ⟨z2, h⟩
  ·try simp only [go_sem, n1, n2, n3, n4, z1] at z2
   all_goals
   obtain ⟨y_3, z3, h⟩ := bd_some h
   have fz3 := Fs_38 z3
   try simp only [go_sem, z1, z2] at fz3
   obtain rfl := so_some h
   refine ⟨0, fun L hL => ?_⟩
   simp only [go_sem, ir171, E_39_l1, R_39_l1, ir171_b0, ir171_k0, ir171_o0, ir171_r0, z1, z2, fz3]
  ·try simp only [go_sem, n1, n2, n3, n4, z1] at z2
   all_goals
   obtain ⟨y_4, z4, h⟩ := bd_some h
   have fz4 := Fs_38 z4
   try simp only [go_sem, z1, z2] at fz4
   obtain rfl := so_some h
   refine ⟨0, fun L hL => ?_⟩
   simp only [go_sem, ir171, E_39_l1, R_39_l1, ir171_b0, ir171_k0, ir171_o0, ir171_r0, z1, z2, fz4]
 ·try simp only [go_sem, n1, n2, n3, n4] at z1
  all_goals
  obtain rfl := so_some h
  refine ⟨0, fun L hL => ?_⟩
  simp only [go_sem, ir171, E_39_l1, R_39_l1, ir171_b0, ir171_k0, ir171_o0, ir171_r0, z1]

theorem Fs_39 {data : List Window} {a : Int} {m : Int} {b : Int} {y_ : (List Window)} (h : slices_rotateCmpFunc_impl_Window__impl_longest_c1 data a m b = some y_) : c_39.F [.fresh 2 (List.map Window_av data), .int .i64 a, .int .i64 m, .int .i64 b, .fn (.func 123) [] []] = ⟨true, .cv undef, [.fresh 2 (List.map Window_av y_), .any, .any, .any, .any]⟩ := by
 refine mkN_E ?_
 dsimp only [slices_rotateCmpFunc_impl_Window__impl_longest_c1] at h
 obtain ⟨y_5, z5, h⟩ := bd_some h
 obtain ⟨Lz5, ez5⟩ := slices_rotateCmpFunc_impl_Window__impl_longest_c1_l1_ex z5
 obtain ⟨y_6, z6, h⟩ := bd_some h
 have fz6 := Fs_38 z6
 try simp only [go_sem] at fz6
 obtain ⟨z7, h⟩ := ck_some h
 try simp only [go_sem, n1, n2, n3, n4] at z7
 all_goals
 obtain rfl := so_some h
 refine ⟨Lz5, fun L hL => ?_⟩
 have ez5 := ez5 L (by omega)
 try simp only [go_sem, E_39_l1, R_39_l1, ir171_k0, ir171_o0, ir171_r0, z7] at ez5
 simp only [go_sem, ir171, E_39_l1, R_39_l1, ir171_k0, ir171_o0, ir171_r0, fz6, z7, ez5]


def ir169_b0 : IR := .seq (.test false [ PM 31 5, PM 32 6, PO 33 (.bin false .lss (.s 1) (.s 0))] (.s 0) (.skip) (.exit 0)) (.block 1 (.seq (.region false [ PM 34 5, PM 35 6, PO 36 (.bin false .add (.s 1) (.s 0)), PO 37 (.conv .u64 (.s 0)), PO 38 (.bin false .shr (.s 0) (.c (.int .u64 (1)))), PO 39 (.conv .i64 (.s 0)), VS 7 12 0]) (.anyo 11 [ SO 0 40 (.mov (.v 4)), SO 1 41 (.mov (.v 0)), SO 2 42 (.mov (.v 7)), SO 3 43 (.ixAddr 2 (.s 1) (.s 2)), SO 4 44 (.load true 2 (.s 3)), SO 5 45 (.mov (.v 0)), SO 6 46 (.mov (.v 1)), SO 7 47 (.ixAddr 2 (.s 5) (.s 6)), SO 8 48 (.load true 2 (.s 7)), SO 9 49
 (.pur (.callv (.s 0) [(.s 4), (.s 8)])), SO 10 50 (.bin false .lss (.s 9) (I6 0))] [] (.cond (.s 10) (.region false [ PM 51 7, PO 52 (.bin false .add (.s 0) (I6 1)), VS 5 10 0]) (.region false [ PM 53 7, VS 6 11 0])))))
def ir169_k0 : List Bool := [true, true, false, false, true, true, true, false, false, false, false, false, false, false, false, false, false, false, false, false]
def ir169_o0 : List Bool := [true, true, false, false, false, true, false, false, false, false, false, false, false, false, false, false, false, false, false, false]
def ir169_r0 : List Bool := [true, false, false, false, false, false, false, false, false, false, false, false, false, false, false, false, false, false, false, false]
def ir169_b1 : IR := .seq (.test false [ PM 55 8, PM 56 5, PO 57 (.bin false .sub (.s 0) (I6 1)), PO 58 (.bin false .lss (.s 2) (.s 0))] (.s 0) (.skip) (.exit 2)) (.seq (.block 3 (.anyo 16 [ SO 0 61 (.mov (.v 0)), SO 1 62 (.flat (.mov (.v 8))), SO 2 63 (.mov (.v 0)), SO 3 64 (.flat (.mov (.v 8))), SO 4 65 (.flat (.bin false .add (.s 3) (I6 1))), SO 5 66 (.mov (.v 0)), SO 6 67 (.flat (.mov (.v 8))), SO 7 68 (.flat (.bin false .add (.s 6) (I6 1))), SO 8 69 (.ixAddr 2 (.s 5) (.s 7)), SO 9 70 (.load true 2 (.s 8)), SO 10 71 (.mov (.v 0)), SO 11 72 (.flat (.mov (.v 8))), SO 12 73 (.ixAddr 2 (.s 10)
 (.s 11)), SO 13 74 (.load true 2 (.s 12)), SO 14 75 (.ixAddr 2 (.s 0) (.s 1)), ⟨.no, 0, none, .store 2 (.s 14) (.s 9)⟩, SO 15 76 (.ixAddr 2 (.s 2) (.s 4)), ⟨.no, 0, none, .store 2 (.s 15) (.s 13)⟩] [[0, 1, 3, 4, 5, 6, 7, 8, 9, 10, 11, 12, 13, 14, 2, 15, 16, 17], [0, 1, 3, 4, 5, 6, 7, 8, 9, 10, 11, 12, 13, 14, 15, 2, 16, 17]] .skip)) (.region false [ PM 59 8, PO 60 (.bin false .add (.s 0) (I6 1)), VS 8 13 0]))
def ir169_k1 : List Bool := [true, false, false, false, false, true, false, false, true, false, false, false, false, false, false, false, false, false, false, false]
def ir169_o1 : List Bool := [true, false, false, false, false, false, false, false, false, false, false, false, false, false, false, false, false, false, false, false]
def ir169_r1 : List Bool := [true, false, false, false, false, false, false, false, false, false, false, false, false, false, false, false, false, false, false, false]
def ir169_b2 : IR := .seq (.test false [ PM 83 9, PM 84 10, PO 85 (.bin false .lss (.s 1) (.s 0))] (.s 0) (.skip) (.exit 4)) (.block 5 (.seq (.region false [ PM 86 9, PM 87 10, PO 88 (.bin false .add (.s 1) (.s 0)), PO 89 (.conv .u64 (.s 0)), PO 90 (.bin false .shr (.s 0) (.c (.int .u64 (1)))), PO 91 (.conv .i64 (.s 0)), VS 11 16 0]) (.anyo 12 [ SO 0 92 (.mov (.v 4)), SO 1 93 (.mov (.v 0)), SO 2 94 (.mov (.v 2)), SO 3 95 (.ixAddr 2 (.s 1) (.s 2)), SO 4 96 (.load true 2 (.s 3)), SO 5 97 (.mov (.v 0)), SO 6 98 (.mov (.v 11)), SO 7 99 (.ixAddr 2 (.s 5) (.s 6)), SO 8 100 (.load true 2 (.s 7)), SO 9
 101 (.pur (.callv (.s 0) [(.s 4), (.s 8)])), SO 10 102 (.bin false .lss (.s 9) (I6 0)), SO 11 103 (.un .not (.s 10))] [] (.cond (.s 11) (.region false [ PM 104 11, PO 105 (.bin false .add (.s 0) (I6 1)), VS 9 14 0]) (.region false [ PM 106 11, VS 10 15 0])))))
def ir169_k2 : List Bool := [true, false, true, false, true, false, false, false, false, true, true, false, false, false, false, false, false, false, false, false]
def ir169_o2 : List Bool := [true, false, true, false, false, false, false, false, false, true, false, false, false, false, false, false, false, false, false, false]
def ir169_r2 : List Bool := [true, false, false, false, false, false, false, false, false, false, false, false, false, false, false, false, false, false, false, false]
def ir169_b3 : IR := .seq (.test false [ PM 108 12, PM 109 9, PO 110 (.bin false .gtr (.s 1) (.s 0))] (.s 0) (.skip) (.exit 6)) (.seq (.block 7 (.anyo 16 [ SO 0 113 (.mov (.v 0)), SO 1 114 (.flat (.mov (.v 12))), SO 2 115 (.mov (.v 0)), SO 3 116 (.flat (.mov (.v 12))), SO 4 117 (.flat (.bin false .sub (.s 3) (I6 1))), SO 5 118 (.mov (.v 0)), SO 6 119 (.flat (.mov (.v 12))), SO 7 120 (.flat (.bin false .sub (.s 6) (I6 1))), SO 8 121 (.ixAddr 2 (.s 5) (.s 7)), SO 9 122 (.load true 2 (.s 8)), SO 10 123 (.mov (.v 0)), SO 11 124 (.flat (.mov (.v 12))), SO 12 125 (.ixAddr 2 (.s 10) (.s 11)), SO 13
 126 (.load true 2 (.s 12)), SO 14 127 (.ixAddr 2 (.s 0) (.s 1)), ⟨.no, 0, none, .store 2 (.s 14) (.s 9)⟩, SO 15 128 (.ixAddr 2 (.s 2) (.s 4)), ⟨.no, 0, none, .store 2 (.s 15) (.s 13)⟩] [[0, 1, 3, 4, 5, 6, 7, 8, 9, 10, 11, 12, 13, 14, 2, 15, 16, 17], [0, 1, 3, 4, 5, 6, 7, 8, 9, 10, 11, 12, 13, 14, 15, 2, 16, 17]] .skip)) (.region false [ PM 111 12, PO 112 (.bin false .sub (.s 0) (I6 1)), VS 12 17 0]))
def ir169_k3 : List Bool := [true, false, false, false, false, false, false, false, false, true, false, false, true, false, false, false, false, false, false, false]
def ir169_o3 : List Bool := [true, false, false, false, false, false, false, false, false, false, false, false, false, false, false, false, false, false, false, false]
def ir169_r3 : List Bool := [true, false, false, false, false, false, false, false, false, false, false, false, false, false, false, false, false, false, false, false]
def ir169_b4 : IR := .seq (.test false [ PM 149 15, PM 150 16, PO 151 (.bin false .lss (.s 1) (.s 0))] (.s 0) (.skip) (.exit 8)) (.block 9 (.seq (.region false [ PM 152 15, PM 153 16, PO 154 (.bin false .add (.s 1) (.s 0)), PO 155 (.conv .u64 (.s 0)), PO 156 (.bin false .shr (.s 0) (.c (.int .u64 (1)))), PO 157 (.conv .i64 (.s 0)), VS 18 23 0]) (.anyo 14 [ SO 0 158 (.mov (.v 4)), SO 1 159 (.mov (.v 0)), SO 2 160 (.mov (.v 17)), SO 3 161 (.mov (.v 18)), SO 4 162 (.bin false .sub (.s 2) (.s 3)), SO 5 163 (.ixAddr 2 (.s 1) (.s 4)), SO 6 164 (.load true 2 (.s 5)), SO 7 165 (.mov (.v 0)), SO 8 166
 (.mov (.v 18)), SO 9 167 (.ixAddr 2 (.s 7) (.s 8)), SO 10 168 (.load true 2 (.s 9)), SO 11 169 (.pur (.callv (.s 0) [(.s 6), (.s 10)])), SO 12 170 (.bin false .lss (.s 11) (I6 0)), SO 13 171 (.un .not (.s 12))] [] (.cond (.s 13) (.region false [ PM 172 18, PO 173 (.bin false .add (.s 0) (I6 1)), VS 15 20 0]) (.region false [ PM 174 18, VS 16 21 0])))))
def ir169_k4 : List Bool := [true, true, true, true, true, false, false, false, false, false, false, false, false, true, true, true, true, true, false, false]
def ir169_o4 : List Bool := [true, true, true, true, true, false, false, false, false, false, false, false, false, true, true, true, false, false, false, false]
def ir169_r4 : List Bool := [true, false, false, false, false, false, false, false, false, false, false, false, false, false, false, false, false, false, false, false]
def ir169_v : List Nat := [0, 1, 2, 3, 4, 10, 11, 12, 13, 14, 15, 16, 17, 18, 19, 20, 21, 22, 23, 24]
def ir169 : AFn := ⟨5, 20, .seq (.test false [ PM 25 2, PM 26 1, PO 27 (.bin false .sub (.s 1) (.s 0)), PO 28 (.bin false .eql (.s 0) (I6 1))] (.s 0) (.seq (.region false [ PM 29 2, VS 5 10 0]) (.seq (.region false [ PM 30 3, VS 6 11 0]) (.seq (.block 0 (.loop ir169_k0 ir169_o0 ir169_r0 ir169_b0)) (.seq (.seq (.region false [ PM 54 1, VS 8 13 0]) (.block 2 (.loop ir169_k1 ir169_o1 ir169_r1 ir169_b1))) (.ret))))) (.skip)) (.seq (.test false [ PM 77 3, PM 78 2, PO 79 (.bin false .sub (.s 1) (.s 0)), PO 80 (.bin false .eql (.s 0) (I6 1))] (.s 0) (.seq (.region false [ PM 81 1, VS 9 14 0]) (.seq
 (.region false [ PM 82 2, VS 10 15 0]) (.seq (.block 4 (.loop ir169_k2 ir169_o2 ir169_r2 ir169_b2)) (.seq (.seq (.region false [ PM 107 2, VS 12 17 0]) (.block 6 (.loop ir169_k3 ir169_o3 ir169_r3 ir169_b3))) (.ret))))) (.skip)) (.seq (.region false [ PM 129 1, PM 130 3, PO 131 (.bin false .add (.s 1) (.s 0)), PO 132 (.conv .u64 (.s 0)), PO 133 (.bin false .shr (.s 0) (.c (.int .u64 (1)))), PO 134 (.conv .i64 (.s 0)), VS 13 18 0]) (.seq (.region false [ PM 135 13, PM 136 2, PO 137 (.bin false .add (.s 1) (.s 0)), VS 14 19 0]) (.seq (.region false [ VO 15 20 (.mov (I6 0)), VO 16 21 (.mov (I6
 0))]) (.seq (.test false [ PM 138 2, PM 139 13, PO 140 (.bin false .gtr (.s 1) (.s 0))] (.s 0) (.seq (.region false [ PM 141 14, PM 142 3, PO 143 (.bin false .sub (.s 1) (.s 0)), VS 15 20 0]) (.region false [ PM 144 13, VS 16 21 0])) (.seq (.region false [ PM 145 1, VS 15 20 0]) (.region false [ PM 146 2, VS 16 21 0]))) (.seq (.region false [ PM 147 14, PO 148 (.bin false .sub (.s 0) (I6 1)), VS 17 22 0]) (.seq (.block 8 (.loop ir169_k4 ir169_o4 ir169_r4 ir169_b4)) (.seq (.region false [ PM 175 14, PM 176 15, PO 177 (.bin false .sub (.s 1) (.s 0)), VS 19 24 0]) (.seq (.test false [ PM 178 15,
 PM 179 2, PO 180 (.bin false .lss (.s 1) (.s 0)), PO 181 (.mov (.s 0)), ⟨.push, 182, (some ((.s 0), true)), .mov (.v 2)⟩, ⟨.push, 183, (some ((.s 1), true)), .mov (.v 19)⟩, ⟨.push, 184, (some ((.s 2), true)), .bin false .lss (.s 1) (.s 0)⟩, PO 185 (.pick (.s 3) (.s 0) (.c (.bool false)))] (.s 0) (.region false [ PM 186 0, PM 187 15, PM 188 2, PM 189 19, PM 190 4, PO 191 (.call 171 [(.s 4), (.s 3), (.s 2), (.s 1), (.s 0)])]) (.skip)) (.seq (.test false [ PM 192 1, PM 193 15, PO 194 (.bin false .lss (.s 1) (.s 0)), PO 195 (.mov (.s 0)), ⟨.push, 196, (some ((.s 0), true)), .mov (.v 15)⟩, ⟨.push,
 197, (some ((.s 1), true)), .mov (.v 13)⟩, ⟨.push, 198, (some ((.s 2), true)), .bin false .lss (.s 1) (.s 0)⟩, PO 199 (.pick (.s 3) (.s 0) (.c (.bool false)))] (.s 0) (.region false [ PM 200 0, PM 201 1, PM 202 15, PM 203 13, PM 204 4, PO 205 (.call 169 [(.s 4), (.s 3), (.s 2), (.s 1), (.s 0)])]) (.skip)) (.test false [ PM 206 13, PM 207 19, PO 208 (.bin false .lss (.s 1) (.s 0)), PO 209 (.mov (.s 0)), ⟨.push, 210, (some ((.s 0), true)), .mov (.v 19)⟩, ⟨.push, 211, (some ((.s 1), true)), .mov (.v 3)⟩, ⟨.push, 212, (some ((.s 2), true)), .bin false .lss (.s 1) (.s 0)⟩, PO 213 (.pick (.s 3) (.s
 0) (.c (.bool false)))] (.s 0) (.region false [ PM 214 0, PM 215 13, PM 216 19, PM 217 3, PM 218 4, PO 219 (.call 169 [(.s 4), (.s 3), (.s 2), (.s 1), (.s 0)])]) (.skip)))))))))))), []⟩
noncomputable def cn_slices_symMergeCmpFunc_impl_Window__impl_longest_c1 : Nat → Ctr
 | 0 => badC [.io, .bor, .bor, .bor, .bor]
 | n_ + 1 => mkN [(123, c_36), (171, c_39), (169, (cn_slices_symMergeCmpFunc_impl_Window__impl_longest_c1 n_))] ir169 [.io, .bor, .bor, .bor, .bor]
theorem Mn_slices_symMergeCmpFunc_impl_Window__impl_longest_c1 (n_ : Nat) : (cn_slices_symMergeCmpFunc_impl_Window__impl_longest_c1 n_).modes = [.io, .bor, .bor, .bor, .bor] := by cases n_ <;> rfl
theorem Fln_slices_symMergeCmpFunc_impl_Window__impl_longest_c1 (n_ : Nat) : (cn_slices_symMergeCmpFunc_impl_Window__impl_longest_c1 n_).flat = false := by cases n_ <;> rfl
attribute [go_sem] Mn_slices_symMergeCmpFunc_impl_Window__impl_longest_c1 Fln_slices_symMergeCmpFunc_impl_Window__impl_longest_c1
noncomputable def t_40 (n_ : Nat) : List (Nat × Ctr) := [(123, c_36), (171, c_39), (169, (cn_slices_symMergeCmpFunc_impl_Window__impl_longest_c1 n_))]
theorem lk_40_123 (n_ : Nat) : look (t_40 n_) 123 = some c_36 := rfl
theorem lk_40_171 (n_ : Nat) : look (t_40 n_) 171 = some c_39 := rfl
theorem lk_40_169 (n_ : Nat) : look (t_40 n_) 169 = some (cn_slices_symMergeCmpFunc_impl_Window__impl_longest_c1 n_) := rfl
theorem csn_slices_symMergeCmpFunc_impl_Window__impl_longest_c1 (n_ : Nat) : cn_slices_symMergeCmpFunc_impl_Window__impl_longest_c1 (n_ + 1) = mkN (t_40 n_) ir169 [.io, .bor, .bor, .bor, .bor] := rfl
theorem sn_slices_symMergeCmpFunc_impl_Window__impl_longest_c1 : ∀ n_ : Nat, Sound Try.prog 169 (cn_slices_symMergeCmpFunc_impl_Window__impl_longest_c1 n_)
 | 0 => badC_sound
 | n_ + 1 => mkN_sound _ (snd_cons s_36 (snd_cons s_39 (snd_cons (sn_slices_symMergeCmpFunc_impl_Window__impl_longest_c1 n_) snd_nil))) (by kernel_rfl : chkFn Try.prog 169 ir169 ir169_v = true)
noncomputable def c_40 : Ctr := cn_slices_symMergeCmpFunc_impl_Window__impl_longest_c1 64
theorem s_40 : Sound Try.prog 169 c_40 := sn_slices_symMergeCmpFunc_impl_Window__impl_longest_c1 64
theorem M_40 : c_40.modes = [.io, .bor, .bor, .bor, .bor] := Mn_slices_symMergeCmpFunc_impl_Window__impl_longest_c1 64
theorem Fl_40 : c_40.flat = false := Fln_slices_symMergeCmpFunc_impl_Window__impl_longest_c1 64
attribute [go_sem] M_40 Fl_40
attribute [go_sem] lk_40_123 lk_40_171 lk_40_169
def E_40_l1 (data : List Window) (a : Int) : (Int × Int) → St
 | (i, j) => ⟨[.own 31, .int .i64 a, .any, .any, .fn (.func 123) [] [], .int .i64 i, .int .i64 j, .any, .any, .any, .any, .any, .any, .any, .any, .any, .any, .any, .any, .any], [], [(31, ⟨2, List.map Window_av data⟩)], true⟩
def R_40_l1 (data : List Window) (a : Int) (y : Int) : Res := (.exit 0, ⟨[.own 31, .int .i64 a, .any, .any, .any, .int .i64 y, .any, .any, .any, .any, .any, .any, .any, .any, .any, .any, .any, .any, .any, .any], [], [(31, ⟨2, List.map Window_av data⟩)], true⟩)
set_option maxHeartbeats 8000000 in
theorem slices_symMergeCmpFunc_impl_Window__impl_longest_c1_l1_ex (n_ : Nat) {data : List Window} {a : Int} {sgm_ : Int × Int} {rho_ : Int} (h : whileE (slices_symMergeCmpFunc_impl_Window__impl_longest_c1_l1 data a) sgm_ = some rho_) : ∃ L0, ∀ L, L0 ≤ L → iter (exec (look (t_40 n_)) L ir169_b0) ir169_k0 ir169_o0 ir169_r0 L (E_40_l1 data a sgm_) = R_40_l1 data a rho_ := by
 refine loop_ex (E := E_40_l1 data a) (R := R_40_l1 data a) (fun y => by first | (intro c; cases c) | (rcases y with y | y <;> (intro c; cases c)) | (rcases y with y | y | y <;> (intro c; cases c))) ?_ h
 clear h
 rintro ⟨i, j⟩ o_ h
 dsimp only [slices_symMergeCmpFunc_impl_Window__impl_longest_c1_l1] at h
 rcases it_some h with ⟨z2, h⟩ | ⟨z2, h⟩
 ·try simp only [go_sem, n1, n2, n3, n4] at z2
  all_goals
  obtain ⟨z3, h⟩ := ck_some h
  try simp only [go_sem, n1, n2, n3, n4, z2] at z3
  all_goals
  obtain ⟨z4, h⟩ := ck_some h
  have lz4 := ix_lt z4
  have xz4 := getD_mapD Window_av data lz4
  try simp only [go_sem] at lz4
  try simp only [go_sem] at xz4
  try simp only [go_sem, n1, n2, n3, n4, z2, z3] at z4
  all_goals
  obtain ⟨z5, h⟩ := ck_some h
  have lz5 := ix_lt z5
  have xz5 := getD_mapD Window_av data lz5
  try simp only [go_sem] at lz5
  try simp only [go_sem] at xz5
  try simp only [go_sem, n1, n2, n3, n4, z2, z3, z4] at z5
  all_goals
  obtain ⟨y_6, z6, h⟩ := bd_some h
  have fz6 := Fs_36 z6
  try simp only [go_sem, z2, z3, z4, z5] at fz6
  rcases it_some h with ⟨z7, h⟩ | ⟨z7, h⟩
  ·try simp only [go_sem, n1, n2, n3, n4, z2, z3, z4, z5] at z7
   all_goals
   obtain rfl := so_some h
   refine ⟨0, fun L hL => ?_⟩
   simp only [go_sem, ir169, E_40_l1, R_40_l1, ir169_b0, ir169_k0, ir169_o0, ir169_r0, z2, z3, z4, lz4, xz4, z5, lz5, xz5, fz6, z7]
  ·try simp only [go_sem, n1, n2, n3, n4, z2, z3, z4, z5] at z7
   all_goals
   obtain rfl := so_some h
   refine ⟨0, fun L hL => ?_⟩
   simp only [go_sem, ir169, E_40_l1, R_40_l1, ir169_b0, ir169_k0, ir169_o0, ir169_r0, z2, z3, z4, lz4, xz4, z5, lz5, xz5, fz6, z7]
 ·try simp only [go_sem, n1, n2, n3, n4] at z2
  all_goals
  obtain rfl := so_some h
  refine ⟨0, fun L hL => ?_⟩
  simp only [go_sem, ir169, E_40_l1, R_40_l1, ir169_b0, ir169_k0, ir169_o0, ir169_r0, z2]

def E_40_l2 (i : Int) : ((List Window) × Int) → St
 | (data, k) => ⟨[.own 31, .any, .any, .any, .any, .int .i64 i, .any, .any, .int .i64 k, .any, .any, .any, .any, .any, .any, .any, .any, .any, .any, .any], [], [(31, ⟨2, List.map Window_av data⟩)], true⟩
def R_40_l2 (i : Int) (y : (List Window)) : Res := (.exit 2, ⟨[.own 31, .any, .any, .any, .any, .any, .any, .any, .any, .any, .any, .any, .any, .any, .any, .any, .any, .any, .any, .any], [], [(31, ⟨2, List.map Window_av y⟩)], true⟩)
set_option maxHeartbeats 8000000 in
theorem slices_symMergeCmpFunc_impl_Window__impl_longest_c1_l2_ex (n_ : Nat) {i : Int} {sgm_ : (List Window) × Int} {rho_ : (List Window)} (h : whileE (slices_symMergeCmpFunc_impl_Window__impl_longest_c1_l2 i) sgm_ = some rho_) : ∃ L0, ∀ L, L0 ≤ L → iter (exec (look (t_40 n_)) L ir169_b1) ir169_k1 ir169_o1 ir169_r1 L (E_40_l2 i sgm_) = R_40_l2 i rho_ := by
 refine loop_ex (E := E_40_l2 i) (R := R_40_l2 i) (fun y => by first | (intro c; cases c) | (rcases y with y | y <;> (intro c; cases c)) | (rcases y with y | y | y <;> (intro c; cases c))) ?_ h
 clear h
 rintro ⟨data, k⟩ o_ h
 dsimp only [slices_symMergeCmpFunc_impl_Window__impl_longest_c1_l2] at h
 rcases it_some h with ⟨z9, h⟩ | ⟨z9, h⟩
 ·try simp only [go_sem, n1, n2, n3, n4] at z9
  all_goals
  obtain ⟨z10, h⟩ := ck_some h
  have lz10 := ix_lt z10
  have xz10 := getD_mapD Window_av data lz10
  try simp only [go_sem] at lz10
  try simp only [go_sem] at xz10
  try simp only [go_sem, n1, n2, n3, n4, z9] at z10
  all_goals
  obtain ⟨z11, h⟩ := ck_some h
  have lz11 := ix_lt z11
  have xz11 := getD_mapD Window_av data lz11
  try simp only [go_sem] at lz11
  try simp only [go_sem] at xz11
  try simp only [go_sem, n1, n2, n3, n4, z9, z10] at z11
  all_goals
  have xz12 := (by rw [← List.map_set]; exact getD_mapD Window_av (data.set k.toNat (data.getD (IntKind.i64.wrap (k + 1)).toNat default)) (by first | (rw [List.length_set]; exact lz10) | (simp; omega)) : ((List.map Window_av data).set k.toNat (Window_av (data.getD (IntKind.i64.wrap (k + 1)).toNat default))).getD ((IntKind.i64.wrap (k + 1)).toNat) .any = Window_av ((data.set k.toNat (data.getD (IntKind.i64.wrap (k + 1)).toNat default)).getD ((IntKind.i64.wrap (k + 1)).toNat) default))
  try simp only [go_sem] at xz12
  obtain rfl := so_some h
  refine ⟨0, fun L hL => ?_⟩
  simp only [go_sem, ir169, E_40_l2, R_40_l2, ir169_b1, ir169_k1, ir169_o1, ir169_r1, E_40_l1, R_40_l1, ir169_k0, ir169_o0, ir169_r0, z9, z10, lz10, xz10, z11, lz11, xz11, xz12]
 ·try simp only [go_sem, n1, n2, n3, n4] at z9
  all_goals
  obtain rfl := so_some h
  refine ⟨0, fun L hL => ?_⟩
  simp only [go_sem, ir169, E_40_l2, R_40_l2, ir169_b1, ir169_k1, ir169_o1, ir169_r1, E_40_l1, R_40_l1, ir169_k0, ir169_o0, ir169_r0, z9]

def E_40_l3 (data : List Window) (m : Int) : (Int × Int) → St
 | (i, j) => ⟨[.own 31, .any, .int .i64 m, .any, .fn (.func 123) [] [], .any, .any, .any, .any, .int .i64 i, .int .i64 j, .any, .any, .any, .any, .any, .any, .any, .any, .any], [], [(31, ⟨2, List.map Window_av data⟩)], true⟩
def R_40_l3 (data : List Window) (m : Int) (y : Int) : Res := (.exit 4, ⟨[.own 31, .any, .int .i64 m, .any, .any, .any, .any, .any, .any, .int .i64 y, .any, .any, .any, .any, .any, .any, .any, .any, .any, .any], [], [(31, ⟨2, List.map Window_av data⟩)], true⟩)
set_option maxHeartbeats 8000000 in
theorem slices_symMergeCmpFunc_impl_Window__impl_longest_c1_l3_ex (n_ : Nat) {data : List Window} {m : Int} {sgm_ : Int × Int} {rho_ : Int} (h : whileE (slices_symMergeCmpFunc_impl_Window__impl_longest_c1_l3 data m) sgm_ = some rho_) : ∃ L0, ∀ L, L0 ≤ L → iter (exec (look (t_40 n_)) L ir169_b2) ir169_k2 ir169_o2 ir169_r2 L (E_40_l3 data m sgm_) = R_40_l3 data m rho_ := by
 refine loop_ex (E := E_40_l3 data m) (R := R_40_l3 data m) (fun y => by first | (intro c; cases c) | (rcases y with y | y <;> (intro c; cases c)) | (rcases y with y | y | y <;> (intro c; cases c))) ?_ h
 clear h
 rintro ⟨i, j⟩ o_ h
 dsimp only [slices_symMergeCmpFunc_impl_Window__impl_longest_c1_l3] at h
 rcases it_some h with ⟨z16, h⟩ | ⟨z16, h⟩
 ·try simp only [go_sem, n1, n2, n3, n4] at z16
  all_goals
  obtain ⟨z17, h⟩ := ck_some h
  try simp only [go_sem, n1, n2, n3, n4, z16] at z17
  all_goals
  obtain ⟨z18, h⟩ := ck_some h
  have lz18 := ix_lt z18
  have xz18 := getD_mapD Window_av data lz18
  try simp only [go_sem] at lz18
  try simp only [go_sem] at xz18
  try simp only [go_sem, n1, n2, n3, n4, z16, z17] at z18
  all_goals
  obtain ⟨z19, h⟩ := ck_some h
  have lz19 := ix_lt z19
  have xz19 := getD_mapD Window_av data lz19
  try simp only [go_sem] at lz19
  try simp only [go_sem] at xz19
  try simp only [go_sem, n1, n2, n3, n4, z16, z17, z18] at z19
  all_goals
  obtain ⟨y_20, z20, h⟩ := bd_some h
  have fz20 := Fs_36 z20
  try simp only [go_sem, z16, z17, z18, z19] at fz20
  rcases it_some h with ⟨z21, h⟩ | ⟨z21, h⟩
  ·try simp only [go_sem, n1, n2, n3, n4, z16, z17, z18, z19] at z21
   all_goals
   obtain rfl := so_some h
   refine ⟨0, fun L hL => ?_⟩
   simp only [go_sem, ir169, E_40_l3, R_40_l3, ir169_b2, ir169_k2, ir169_o2, ir169_r2, E_40_l1, R_40_l1, ir169_k0, ir169_o0, ir169_r0, E_40_l2, R_40_l2, ir169_k1, ir169_o1, ir169_r1, z16, z17, z18, lz18, xz18, z19, lz19, xz19, fz20, z21]
  ·try simp only [go_sem, n1, n2, n3, n4, z16, z17, z18, z19] at z21
   all_goals
   obtain rfl := so_some h
   refine ⟨0, fun L hL => ?_⟩
   simp only [go_sem, ir169, E_40_l3, R_40_l3, ir169_b2, ir169_k2, ir169_o2, ir169_r2, E_40_l1, R_40_l1, ir169_k0, ir169_o0, ir169_r0, E_40_l2, R_40_l2, ir169_k1, ir169_o1, ir169_r1, z16, z17, z18, lz18, xz18, z19, lz19, xz19, fz20, z21]
 ·try simp only [go_sem, n1, n2, n3, n4] at z16
  all_goals
  obtain rfl := so_some h
  refine ⟨0, fun L hL => ?_⟩
  simp only [go_sem, ir169, E_40_l3, R_40_l3, ir169_b2, ir169_k2, ir169_o2, ir169_r2, E_40_l1, R_40_l1, ir169_k0, ir169_o0, ir169_r0, E_40_l2, R_40_l2, ir169_k1, ir169_o1, ir169_r1, z16]

def E_40_l4 (i : Int) : ((List Window) × Int) → St
 | (data, k) => ⟨[.own 31, .any, .any, .any, .any, .any, .any, .any, .any, .int .i64 i, .any, .any, .int .i64 k, .any, .any, .any, .any, .any, .any, .any], [], [(31, ⟨2, List.map Window_av data⟩)], true⟩
def R_40_l4 (i : Int) (y : (List Window)) : Res := (.exit 6, ⟨[.own 31, .any, .any, .any, .any, .any, .any, .any, .any, .any, .any, .any, .any, .any, .any, .any, .any, .any, .any, .any], [], [(31, ⟨2, List.map Window_av y⟩)], true⟩)
set_option maxHeartbeats 8000000 in
theorem slices_symMergeCmpFunc_impl_Window__impl_longest_c1_l4_ex (n_ : Nat) {i : Int} {sgm_ : (List Window) × Int} {rho_ : (List Window)} (h : whileE (slices_symMergeCmpFunc_impl_Window__impl_longest_c1_l4 i) sgm_ = some rho_) : ∃ L0, ∀ L, L0 ≤ L → iter (exec (look (t_40 n_)) L ir169_b3) ir169_k3 ir169_o3 ir169_r3 L (E_40_l4 i sgm_) = R_40_l4 i rho_ := by
 refine loop_ex (E := E_40_l4 i) (R := R_40_l4 i) (fun y => by first | (intro c; cases c) | (rcases y with y | y <;> (intro c; cases c)) | (rcases y with y | y | y <;> (intro c; cases c))) ?_ h
 clear h
 rintro ⟨data, k⟩ o_ h
 dsimp only [slices_symMergeCmpFunc_impl_Window__impl_longest_c1_l4] at h
 rcases it_some h with ⟨z23, h⟩ | ⟨z23, h⟩
 ·try simp only [go_sem, n1, n2, n3, n4] at z23
  all_goals
  obtain ⟨z24, h⟩ := ck_some h
  have lz24 := ix_lt z24
  have xz24 := getD_mapD Window_av data lz24
  try simp only [go_sem] at lz24
  try simp only [go_sem] at xz24
  try simp only [go_sem, n1, n2, n3, n4, z23] at z24
  all_goals
  obtain ⟨z25, h⟩ := ck_some h
  have lz25 := ix_lt z25
  have xz25 := getD_mapD Window_av data lz25
  try simp only [go_sem] at lz25
  try simp only [go_sem] at xz25
  try simp only [go_sem, n1, n2, n3, n4, z23, z24] at z25
  all_goals
  have xz26 := (by rw [← List.map_set]; exact getD_mapD Window_av (data.set k.toNat (data.getD (IntKind.i64.wrap (k - 1)).toNat default)) (by first | (rw [List.length_set]; exact lz24) | (simp; omega)) : ((List.map Window_av data).set k.toNat (Window_av (data.getD (IntKind.i64.wrap (k - 1)).toNat default))).getD ((IntKind.i64.wrap (k - 1)).toNat) .any = Window_av ((data.set k.toNat (data.getD (IntKind.i64.wrap (k - 1)).toNat default)).getD ((IntKind.i64.wrap (k - 1)).toNat) default))
  try simp only [go_sem] at xz26
  obtain rfl := so_some h
  refine ⟨0, fun L hL => ?_⟩
  simp only [go_sem, ir169, E_40_l4, R_40_l4, ir169_b3, ir169_k3, ir169_o3, ir169_r3, E_40_l1, R_40_l1, ir169_k0, ir169_o0, ir169_r0, E_40_l2, R_40_l2, ir169_k1, ir169_o1, ir169_r1, E_40_l3, R_40_l3, ir169_k2, ir169_o2, ir169_r2, z23, z24, lz24, xz24, z25, lz25, xz25, xz26]
 ·try simp only [go_sem, n1, n2, n3, n4] at z23
  all_goals
  obtain rfl := so_some h
  refine ⟨0, fun L hL => ?_⟩
  simp only [go_sem, ir169, E_40_l4, R_40_l4, ir169_b3, ir169_k3, ir169_o3, ir169_r3, E_40_l1, R_40_l1, ir169_k0, ir169_o0, ir169_r0, E_40_l2, R_40_l2, ir169_k1, ir169_o1, ir169_r1, E_40_l3, R_40_l3, ir169_k2, ir169_o2, ir169_r2, z23]

def E_40_l5 (data : List Window) (a : Int) (m : Int) (b : Int) (mid : Int) (n : Int) (p : Int) : (Int × Int) → St
 | (start, r) => ⟨[.own 31, .int .i64 a, .int .i64 m, .int .i64 b, .fn (.func 123) [] [], .any, .any, .any, .any, .any, .any, .any, .any, .int .i64 mid, .int .i64 n, .int .i64 start, .int .i64 r, .int .i64 p, .any, .any], [], [(31, ⟨2, List.map Window_av data⟩)], true⟩
def R_40_l5 (data : List Window) (a : Int) (m : Int) (b : Int) (mid : Int) (n : Int) (p : Int) (y : Int) : Res := (.exit 8, ⟨[.own 31, .int .i64 a, .int .i64 m, .int .i64 b, .fn (.func 123) [] [], .any, .any, .any, .any, .any, .any, .any, .any, .int .i64 mid, .int .i64 n, .int .i64 y, .any, .any, .any, .any], [], [(31, ⟨2, List.map Window_av data⟩)], true⟩)
set_option maxHeartbeats 8000000 in
theorem slices_symMergeCmpFunc_impl_Window__impl_longest_c1_l5_ex (n_ : Nat) {data : List Window} {a : Int} {m : Int} {b : Int} {mid : Int} {n : Int} {p : Int} {sgm_ : Int × Int} {rho_ : Int} (h : whileE (slices_symMergeCmpFunc_impl_Window__impl_longest_c1_l5 data a m b mid n p) sgm_ = some rho_) : ∃ L0, ∀ L, L0 ≤ L → iter (exec (look (t_40 n_)) L ir169_b4) ir169_k4 ir169_o4 ir169_r4 L (E_40_l5 data a m b mid n p sgm_) = R_40_l5 data a m b mid n p rho_ := by
 refine loop_ex (E := E_40_l5 data a m b mid n p) (R := R_40_l5 data a m b mid n p) (fun y => by first | (intro c; cases c) | (rcases y with y | y <;> (intro c; cases c)) | (rcases y with y | y | y <;> (intro c; cases c))) ?_ h
 clear h
 rintro ⟨start, r⟩ o_ h
 dsimp only [slices_symMergeCmpFunc_impl_Window__impl_longest_c1_l5] at h
 rcases it_some h with ⟨z31, h⟩ | ⟨z31, h⟩
 ·try simp only [go_sem, n1, n2, n3, n4] at z31
  all_goals
  obtain ⟨z32, h⟩ := ck_some h
  try simp only [go_sem, n1, n2, n3, n4, z31] at z32
  all_goals
  obtain ⟨z33, h⟩ := ck_some h
  have lz33 := ix_lt z33
  have xz33 := getD_mapD Window_av data lz33
  try simp only [go_sem] at lz33
  try simp only [go_sem] at xz33
  try simp only [go_sem, n1, n2, n3, n4, z31, z32] at z33
  all_goals
  obtain ⟨z34, h⟩ := ck_some h
  have lz34 := ix_lt z34
  have xz34 := getD_mapD Window_av data lz34
  try simp only [go_sem] at lz34
  try simp only [go_sem] at xz34
  try simp only [go_sem, n1, n2, n3, n4, z31, z32, z33] at z34
  all_goals
  obtain ⟨y_35, z35, h⟩ := bd_some h
  have fz35 := Fs_36 z35
  try simp only [go_sem, z31, z32, z33, z34] at fz35
  rcases it_some h with ⟨z36, h⟩ | ⟨z36, h⟩
  ·try simp only [go_sem, n1, n2, n3, n4, z31, z32, z33, z34] at z36
   all_goals
   obtain rfl := so_some h
   refine ⟨0, fun L hL => ?_⟩
   simp only [go_sem, ir169, E_40_l5, R_40_l5, ir169_b4, ir169_k4, ir169_o4, ir169_r4, E_40_l1, R_40_l1, ir169_k0, ir169_o0, ir169_r0, E_40_l2, R_40_l2, ir169_k1, ir169_o1, ir169_r1, E_40_l3, R_40_l3, ir169_k2, ir169_o2, ir169_r2, E_40_l4, R_40_l4, ir169_k3, ir169_o3, ir169_r3, z31, z32, z33, lz33, xz33, z34, lz34, xz34, fz35, z36]
  ·try simp only [go_sem, n1, n2, n3, n4, z31, z32, z33, z34] at z36
   all_goals
   obtain rfl := so_some h
   refine ⟨0, fun L hL => ?_⟩
   simp only [go_sem, ir169, E_40_l5, R_40_l5, ir169_b4, ir169_k4, ir169_o4, ir169_r4, E_40_l1, R_40_l1, ir169_k0, ir169_o0, ir169_r0, E_40_l2, R_40_l2, ir169_k1, ir169_o1, ir169_r1, E_40_l3, R_40_l3, ir169_k2, ir169_o2, ir169_r2, E_40_l4, R_40_l4, ir169_k3, ir169_o3, ir169_r3, z31, z32, z33, lz33, xz33, z34, lz34, xz34, fz35, z36]
 ·try simp only [go_sem, n1, n2, n3, n4] at z31
  all_goals
  obtain rfl := so_some h
  refine ⟨0, fun L hL => ?_⟩
  simp only [go_sem, ir169, E_40_l5, R_40_l5, ir169_b4, ir169_k4, ir169_o4, ir169_r4, E_40_l1, R_40_l1, ir169_k0, ir169_o0, ir169_r0, E_40_l2, R_40_l2, ir169_k1, ir169_o1, ir169_r1, E_40_l3, R_40_l3, ir169_k2, ir169_o2, ir169_r2, E_40_l4, R_40_l4, ir169_k3, ir169_o3, ir169_r3, z31]

def E_40_l6 (data : List Window) (a : Int) (m : Int) (b : Int) (mid : Int) (n : Int) (p : Int) : (Int × Int) → St
 | (start, r) => ⟨[.own 31, .int .i64 a, .int .i64 m, .int .i64 b, .fn (.func 123) [] [], .any, .any, .any, .any, .any, .any, .any, .any, .int .i64 mid, .int .i64 n, .int .i64 start, .int .i64 r, .int .i64 p, .any, .any], [], [(31, ⟨2, List.map Window_av data⟩)], true⟩
def R_40_l6 (data : List Window) (a : Int) (m : Int) (b : Int) (mid : Int) (n : Int) (p : Int) (y : Int) : Res := (.exit 8, ⟨[.own 31, .int .i64 a, .int .i64 m, .int .i64 b, .fn (.func 123) [] [], .any, .any, .any, .any, .any, .any, .any, .any, .int .i64 mid, .int .i64 n, .int .i64 y, .any, .any, .any, .any], [], [(31, ⟨2, List.map Window_av data⟩)], true⟩)
set_option maxHeartbeats 8000000 in
theorem slices_symMergeCmpFunc_impl_Window__impl_longest_c1_l6_ex (n_ : Nat) {data : List Window} {a : Int} {m : Int} {b : Int} {mid : Int} {n : Int} {p : Int} {sgm_ : Int × Int} {rho_ : Int} (h : whileE (slices_symMergeCmpFunc_impl_Window__impl_longest_c1_l6 data a m b mid n p) sgm_ = some rho_) : ∃ L0, ∀ L, L0 ≤ L → iter (exec (look (t_40 n_)) L ir169_b4) ir169_k4 ir169_o4 ir169_r4 L (E_40_l6 data a m b mid n p sgm_) = R_40_l6 data a m b mid n p rho_ := by
 refine loop_ex (E := E_40_l6 data a m b mid n p) (R := R_40_l6 data a m b mid n p) (fun y => by first | (intro c; cases c) | (rcases y with y | y <;> (intro c; cases c)) | (rcases y with y | y | y <;> (intro c; cases c))) ?_ h
 clear h
 rintro ⟨start, r⟩ o_ h
 dsimp only [slices_symMergeCmpFunc_impl_Window__impl_longest_c1_l6] at h
 rcases it_some h with ⟨z59, h⟩ | ⟨z59, h⟩
 ·try simp only [go_sem, n1, n2, n3, n4] at z59
  all_goals
  obtain ⟨z60, h⟩ := ck_some h
  try simp only [go_sem, n1, n2, n3, n4, z59] at z60
  all_goals
  obtain ⟨z61, h⟩ := ck_some h
  have lz61 := ix_lt z61
  have xz61 := getD_mapD Window_av data lz61
  try simp only [go_sem] at lz61
  try simp only [go_sem] at xz61
  try simp only [go_sem, n1, n2, n3, n4, z59, z60] at z61
  all_goals
  obtain ⟨z62, h⟩ := ck_some h
  have lz62 := ix_lt z62
  have xz62 := getD_mapD Window_av data lz62
  try simp only [go_sem] at lz62
  try simp only [go_sem] at xz62
  try simp only [go_sem, n1, n2, n3, n4, z59, z60, z61] at z62
  all_goals
  obtain ⟨y_63, z63, h⟩ := bd_some h
  have fz63 := Fs_36 z63
  try simp only [go_sem, z59, z60, z61, z62] at fz63
  rcases it_some h with ⟨z64, h⟩ | ⟨z64, h⟩
  ·try simp only [go_sem, n1, n2, n3, n4, z59, z60, z61, z62] at z64
   all_goals
   obtain rfl := so_some h
   refine ⟨0, fun L hL => ?_⟩
   simp only [go_sem, ir169, E_40_l6, R_40_l6, ir169_b4, ir169_k4, ir169_o4, ir169_r4, E_40_l1, R_40_l1, ir169_k0, ir169_o0, ir169_r0, E_40_l2, R_40_l2, ir169_k1, ir169_o1, ir169_r1, E_40_l3, R_40_l3, ir169_k2, ir169_o2, ir169_r2, E_40_l4, R_40_l4, ir169_k3, ir169_o3, ir169_r3, E_40_l5, R_40_l5, ir169_k4, ir169_o4, ir169_r4, z59, z60, z61, lz61, xz61, z62, lz62, xz62, fz63, z64]
  ·try simp only [go_sem, n1, n2, n3, n4, z59, z60, z61, z62] at z64
   all_goals
   obtain rfl := so_some h
   refine ⟨0, fun L hL => ?_⟩
   simp only [go_sem, ir169, E_40_l6, R_40_l6, ir169_b4, ir169_k4, ir169_o4, ir169_r4, E_40_l1, R_40_l1, ir169_k0, ir169_o0, ir169_r0, E_40_l2, R_40_l2, ir169_k1, ir169_o1, ir169_r1, E_40_l3, R_40_l3, ir169_k2, ir169_o2, ir169_r2, E_40_l4, R_40_l4, ir169_k3, ir169_o3, ir169_r3, E_40_l5, R_40_l5, ir169_k4, ir169_o4, ir169_r4, z59, z60, z61, lz61, xz61, z62, lz62, xz62, fz63, z64]
 ·try simp only [go_sem, n1, n2, n3, n4] at z59
  all_goals
  obtain rfl := so_some h
  refine ⟨0, fun L hL => ?_⟩
  simp only [go_sem, ir169, E_40_l6, R_40_l6, ir169_b4, ir169_k4, ir169_o4, ir169_r4, E_40_l1, R_40_l1, ir169_k0, ir169_o0, ir169_r0, E_40_l2, R_40_l2, ir169_k1, ir169_o1, ir169_r1, E_40_l3, R_40_l3, ir169_k2, ir169_o2, ir169_r2, E_40_l4, R_40_l4, ir169_k3, ir169_o3, ir169_r3, E_40_l5, R_40_l5, ir169_k4, ir169_o4, ir169_r4, z59]

set_option maxHeartbeats 8000000 in
theorem Fsn_slices_symMergeCmpFunc_impl_Window__impl_longest_c1 : ∀ (n_ : Nat) {data : List Window} {a : Int} {m : Int} {b : Int} {y_ : (List Window)} (h : slices_symMergeCmpFunc_impl_Window__impl_longest_c1_n n_ data a m b = some y_), (cn_slices_symMergeCmpFunc_impl_Window__impl_longest_c1 n_).F [.fresh 2 (List.map Window_av data), .int .i64 a, .int .i64 m, .int .i64 b, .fn (.func 123) [] []] = ⟨true, .cv undef, [.fresh 2 (List.map Window_av y_), .any, .any, .any, .any]⟩ := by
 intro n_
 induction n_ with
 | zero => intro data a m b y_ h; cases h
 | succ n_ ih_ =>
 intro data a m b y_ h
 rw [csn_slices_symMergeCmpFunc_impl_Window__impl_longest_c1]
 refine mkN_E ?_
 dsimp only [slices_symMergeCmpFunc_impl_Window__impl_longest_c1_n] at h
 rcases it_some h with ⟨z1, h⟩ | ⟨z1, h⟩
 ·try simp only [go_sem, n1, n2, n3, n4] at z1
  all_goals
  obtain ⟨y_8, z8, h⟩ := bd_some h
  obtain ⟨Lz8, ez8⟩ := slices_symMergeCmpFunc_impl_Window__impl_longest_c1_l1_ex n_ z8
  obtain ⟨y_13, z13, h⟩ := bd_some h
  obtain ⟨Lz13, ez13⟩ := slices_symMergeCmpFunc_impl_Window__impl_longest_c1_l2_ex n_ z13
  obtain ⟨z14, h⟩ := ck_some h
  try simp only [go_sem, n1, n2, n3, n4, z1] at z14
  all_goals
  obtain rfl := so_some h
  refine ⟨Lz8 + Lz13, fun L hL => ?_⟩
  have ez8 := ez8 L (by omega)
  have ez13 := ez13 L (by omega)
  try simp only [go_sem, E_40_l1, R_40_l1, ir169_k0, ir169_o0, ir169_r0, E_40_l2, R_40_l2, ir169_k1, ir169_o1, ir169_r1, E_40_l3, R_40_l3, ir169_k2, ir169_o2, ir169_r2, E_40_l4, R_40_l4, ir169_k3, ir169_o3, ir169_r3, E_40_l5, R_40_l5, ir169_k4, ir169_o4, ir169_r4, E_40_l6, R_40_l6, ir169_k4, ir169_o4, ir169_r4, z1, z14] at ez8
  try simp only [go_sem, E_40_l1, R_40_l1, ir169_k0, ir169_o0, ir169_r0, E_40_l2, R_40_l2, ir169_k1, ir169_o1, ir169_r1, E_40_l3, R_40_l3, ir169_k2, ir169_o2, ir169_r2, E_40_l4, R_40_l4, ir169_k3, ir169_o3, ir169_r3, E_40_l5, R_40_l5, ir169_k4, ir169_o4, ir169_r4, E_40_l6, R_40_l6, ir169_k4, ir169_o4, ir169_r4, z1, z14] at ez13
  simp only [go_sem, ir169, E_40_l1, R_40_l1, ir169_k0, ir169_o0, ir169_r0, E_40_l2, R_40_l2, ir169_k1, ir169_o1, ir169_r1, E_40_l3, R_40_l3, ir169_k2, ir169_o2, ir169_r2, E_40_l4, R_40_l4, ir169_k3, ir169_o3, ir169_r3, E_40_l5, R_40_l5, ir169_k4, ir169_o4, ir169_r4, E_40_l6, R_40_l6, ir169_k4, ir169_o4, ir169_r4, z1, z14, ez8, ez13]
 ·try simp only [go_sem, n1, n2, n3, n4] at z1
  all_goals
  rcases it_some h with ⟨z15, h⟩ | ⟨z15, h⟩
  ·try simp only [go_sem, n1, n2, n3, n4, z1] at z15
   all_goals
   obtain ⟨y_22, z22, h⟩ := bd_some h
   obtain ⟨Lz22, ez22⟩ := slices_symMergeCmpFunc_impl_Window__impl_longest_c1_l3_ex n_ z22
   obtain ⟨y_27, z27, h⟩ := bd_some h
   obtain ⟨Lz27, ez27⟩ := slices_symMergeCmpFunc_impl_Window__impl_longest_c1_l4_ex n_ z27
   obtain ⟨z28, h⟩ := ck_some h
   try simp only [go_sem, n1, n2, n3, n4, z1, z15] at z28
   all_goals
   obtain rfl := so_some h
   refine ⟨Lz22 + Lz27, fun L hL => ?_⟩
   have ez22 := ez22 L (by omega)
   have ez27 := ez27 L (by omega)
   try simp only [go_sem, E_40_l1, R_40_l1, ir169_k0, ir169_o0, ir169_r0, E_40_l2, R_40_l2, ir169_k1, ir169_o1, ir169_r1, E_40_l3, R_40_l3, ir169_k2, ir169_o2, ir169_r2, E_40_l4, R_40_l4, ir169_k3, ir169_o3, ir169_r3, E_40_l5, R_40_l5, ir169_k4, ir169_o4, ir169_r4, E_40_l6, R_40_l6, ir169_k4, ir169_o4, ir169_r4, z1, z15, z28] at ez22
   try simp only [go_sem, E_40_l1, R_40_l1, ir169_k0, ir169_o0, ir169_r0, E_40_l2, R_40_l2, ir169_k1, ir169_o1, ir169_r1, E_40_l3, R_40_l3, ir169_k2, ir169_o2, ir169_r2, E_40_l4, R_40_l4, ir169_k3, ir169_o3, ir169_r3, E_40_l5, R_40_l5, ir169_k4, ir169_o4, ir169_r4, E_40_l6, R_40_l6, ir169_k4, ir169_o4, ir169_r4, z1, z15, z28] at ez27
   simp only [go_sem, ir169, E_40_l1, R_40_l1, ir169_k0, ir169_o0, ir169_r0, E_40_l2, R_40_l2, ir169_k1, ir169_o1, ir169_r1, E_40_l3, R_40_l3, ir169_k2, ir169_o2, ir169_r2, E_40_l4, R_40_l4, ir169_k3, ir169_o3, ir169_r3, E_40_l5, R_40_l5, ir169_k4, ir169_o4, ir169_r4, E_40_l6, R_40_l6, ir169_k4, ir169_o4, ir169_r4, z1, z15, z28, ez22, ez27]
  ·try simp only [go_sem, n1, n2, n3, n4, z1] at z15
   all_goals
   obtain ⟨z29, h⟩ := ck_some h
   try simp only [go_sem, n1, n2, n3, n4, z1, z15] at z29
   all_goals
   rcases it_some h with ⟨z30, h⟩ | ⟨z30, h⟩
   ·try simp only [go_sem, n1, n2, n3, n4, z1, z15, z29] at z30
    all_goals
    obtain ⟨y_37, z37, h⟩ := bd_some h
    obtain ⟨Lz37, ez37⟩ := slices_symMergeCmpFunc_impl_Window__impl_longest_c1_l5_ex n_ z37
    rcases it_some h with ⟨z38, h⟩ | ⟨z38, h⟩
    ·try simp only [go_sem, n1, n2, n3, n4, z1, z15, z29, z30] at z38
     all_goals
     obtain ⟨y_39, z39, h⟩ := bd_some h
     have fz39 := Fs_39 z39
     try simp only [go_sem, z1, z15, z29, z30, z38] at fz39
     rcases it_some h with ⟨z40, h⟩ | ⟨z40, h⟩
     ·try simp only [go_sem, n1, n2, n3, n4, z1, z15, z29, z30, z38] at z40
      all_goals
      obtain ⟨y_41, z41, h⟩ := bd_some h
      have fz41 := ih_ z41
      try simp only [go_sem, z1, z15, z29, z30, z38, z40] at fz41
      rcases it_some h with ⟨z42, h⟩ | ⟨z42, h⟩
      ·try simp only [go_sem, n1, n2, n3, n4, z1, z15, z29, z30, z38, z40] at z42
       all_goals
       obtain ⟨y_43, z43, h⟩ := bd_some h
       have fz43 := ih_ z43
       try simp only [go_sem, z1, z15, z29, z30, z38, z40, z42] at fz43
       obtain ⟨z44, h⟩ := ck_some h
       try simp only [go_sem, n1, n2, n3, n4, z1, z15, z29, z30, z38, z40, z42] at z44
       all_goals
       obtain rfl := so_some h
       refine ⟨Lz37, fun L hL => ?_⟩
       have ez37 := ez37 L (by omega)
       try simp only [go_sem, E_40_l1, R_40_l1, ir169_k0, ir169_o0, ir169_r0, E_40_l2, R_40_l2, ir169_k1, ir169_o1, ir169_r1, E_40_l3, R_40_l3, ir169_k2, ir169_o2, ir169_r2, E_40_l4, R_40_l4, ir169_k3, ir169_o3, ir169_r3, E_40_l5, R_40_l5, ir169_k4, ir169_o4, ir169_r4, E_40_l6, R_40_l6, ir169_k4, ir169_o4, ir169_r4, z1, z15, z29, z30, z38, z40, z42, z44] at ez37
       simp only [go_sem, ir169, E_40_l1, R_40_l1, ir169_k0, ir169_o0, ir169_r0, E_40_l2, R_40_l2, ir169_k1, ir169_o1, ir169_r1, E_40_l3, R_40_l3, ir169_k2, ir169_o2, ir169_r2, E_40_l4, R_40_l4, ir169_k3, ir169_o3, ir169_r3, E_40_l5, R_40_l5, ir169_k4, ir169_o4, ir169_r4, E_40_l6, R_40_l6, ir169_k4, ir169_o4, ir169_r4, z1, z15, z29, z30, z38, fz39, z40, fz41, z42, fz43, z44, ez37]
      ·try simp only [go_sem, n1, n2, n3, n4, z1, z15, z29, z30, z38, z40] at z42
       all_goals
       obtain ⟨z45, h⟩ := ck_some h
       try simp only [go_sem, n1, n2, n3, n4, z1, z15, z29, z30, z38, z40, z42] at z45
       all_goals
       obtain rfl := so_some h
       refine ⟨Lz37, fun L hL => ?_⟩
       have ez37 := ez37 L (by omega)
       try simp only [go_sem, E_40_l1, R_40_l1, ir169_k0, ir169_o0, ir169_r0, E_40_l2, R_40_l2, ir169_k1, ir169_o1, ir169_r1, E_40_l3, R_40_l3, ir169_k2, ir169_o2, ir169_r2, E_40_l4, R_40_l4, ir169_k3, ir169_o3, ir169_r3, E_40_l5, R_40_l5, ir169_k4, ir169_o4, ir169_r4, E_40_l6, R_40_l6, ir169_k4, ir169_o4, ir169_r4, z1, z15, z29, z30, z38, z40, z42, z45] at ez37
       simp only [go_sem, ir169, E_40_l1, R_40_l1, ir169_k0, ir169_o0, ir169_r0, E_40_l2, R_40_l2, ir169_k1, ir169_o1, ir169_r1, E_40_l3, R_40_l3, ir169_k2, ir169_o2, ir169_r2, E_40_l4, R_40_l4, ir169_k3, ir169_o3, ir169_r3, E_40_l5, R_40_l5, ir169_k4, ir169_o4, ir169_r4, E_40_l6, R_40_l6, ir169_k4, ir169_o4, ir169_r4, z1, z15, z29, z30, z38, fz39, z40, fz41, z42, z45, ez37]
     ·try simp only [go_sem, n1, n2, n3, n4, z1, z15, z29, z30, z38] at z40
      all_goals
      rcases it_some h with ⟨z46, h⟩ | ⟨z46, h⟩
      ·try simp only [go_sem, n1, n2, n3, n4, z1, z15, z29, z30, z38, z40] at z46
       all_goals
       obtain ⟨y_47, z47, h⟩ := bd_some h
       have fz47 := ih_ z47
       try simp only [go_sem, z1, z15, z29, z30, z38, z40, z46] at fz47
       obtain ⟨z48, h⟩ := ck_some h
       try simp only [go_sem, n1, n2, n3, n4, z1, z15, z29, z30, z38, z40, z46] at z48
       all_goals
       obtain rfl := so_some h
       refine ⟨Lz37, fun L hL => ?_⟩
       have ez37 := ez37 L (by omega)
       try simp only [go_sem, E_40_l1, R_40_l1, ir169_k0, ir169_o0, ir169_r0, E_40_l2, R_40_l2, ir169_k1, ir169_o1, ir169_r1, E_40_l3, R_40_l3, ir169_k2, ir169_o2, ir169_r2, E_40_l4, R_40_l4, ir169_k3, ir169_o3, ir169_r3, E_40_l5, R_40_l5, ir169_k4, ir169_o4, ir169_r4, E_40_l6, R_40_l6, ir169_k4, ir169_o4, ir169_r4, z1, z15, z29, z30, z38, z40, z46, z48] at ez37
       simp only [go_sem, ir169, E_40_l1, R_40_l1, ir169_k0, ir169_o0, ir169_r0, E_40_l2, R_40_l2, ir169_k1, ir169_o1, ir169_r1, E_40_l3, R_40_l3, ir169_k2, ir169_o2, ir169_r2, E_40_l4, R_40_l4, ir169_k3, ir169_o3, ir169_r3, E_40_l5, R_40_l5, ir169_k4, ir169_o4, ir169_r4, E_40_l6, R_40_l6, ir169_k4, ir169_o4, ir169_r4, z1, z15, z29, z30, z38, fz39, z40, z46, fz47, z48, ez37]
      ·try simp only [go_sem, n1, n2, n3, n4, z1, z15, z29, z30, z38, z40] at z46
       all_goals
       obtain ⟨z49, h⟩ := ck_some h
       try simp only [go_sem, n1, n2, n3, n4, z1, z15, z29, z30, z38, z40, z46] at z49
       all_goals
       obtain rfl := so_some h
       refine ⟨Lz37, fun L hL => ?_⟩
       have ez37 := ez37 L (by omega)
       try simp only [go_sem, E_40_l1, R_40_l1, ir169_k0, ir169_o0, ir169_r0, E_40_l2, R_40_l2, ir169_k1, ir169_o1, ir169_r1, E_40_l3, R_40_l3, ir169_k2, ir169_o2, ir169_r2, E_40_l4, R_40_l4, ir169_k3, ir169_o3, ir169_r3, E_40_l5, R_40_l5, ir169_k4, ir169_o4, ir169_r4, E_40_l6, R_40_l6, ir169_k4, ir169_o4, ir169_r4, z1, z15, z29, z30, z38, z40, z46, z49] at ez37
       simp only [go_sem, ir169, E_40_l1, R_40_l1, ir169_k0, ir169_o0, ir169_r0, E_40_l2, R_40_l2, ir169_k1, ir169_o1, ir169_r1, E_40_l3, R_40_l3, ir169_k2, ir169_o2, ir169_r2, E_40_l4, R_40_l4, ir169_k3, ir169_o3, ir169_r3, E_40_l5, R_40_l5, ir169_k4, ir169_o4, ir169_r4, E_40_l6, R_40_l6, ir169_k4, ir169_o4, ir169_r4, z1, z15, z29, z30, z38, fz39, z40, z46, z49, ez37]
    ·try simp only [go_sem, n1, n2, n3, n4, z1, z15, z29, z30] at z38
     all_goals
     rcases it_some h with ⟨z50, h⟩ | ⟨z50, h⟩
     ·try simp only [go_sem, n1, n2, n3, n4, z1, z15, z29, z30, z38] at z50
      all_goals
      obtain ⟨y_51, z51, h⟩ := bd_some h
      have fz51 := ih_ z51
      try simp only [go_sem, z1, z15, z29, z30, z38, z50] at fz51
      rcases it_some h with ⟨z52, h⟩ | ⟨z52, h⟩
      ·try simp only [go_sem, n1, n2, n3, n4, z1, z15, z29, z30, z38, z50] at z52
       all_goals
       obtain ⟨y_53, z53, h⟩ := bd_some h
       have fz53 := ih_ z53
       try simp only [go_sem, z1, z15, z29, z30, z38, z50, z52] at fz53
       obtain ⟨z54, h⟩ := ck_some h
       try simp only [go_sem, n1, n2, n3, n4, z1, z15, z29, z30, z38, z50, z52] at z54
       all_goals
       obtain rfl := so_some h
       refine ⟨Lz37, fun L hL => ?_⟩
       have ez37 := ez37 L (by omega)
       try simp only [go_sem, E_40_l1, R_40_l1, ir169_k0, ir169_o0, ir169_r0, E_40_l2, R_40_l2, ir169_k1, ir169_o1, ir169_r1, E_40_l3, R_40_l3, ir169_k2, ir169_o2, ir169_r2, E_40_l4, R_40_l4, ir169_k3, ir169_o3, ir169_r3, E_40_l5, R_40_l5, ir169_k4, ir169_o4, ir169_r4, E_40_l6, R_40_l6, ir169_k4, ir169_o4, ir169_r4, z1, z15, z29, z30, z38, z50, z52, z54] at ez37
       simp only [go_sem, ir169, E_40_l1, R_40_l1, ir169_k0, ir169_o0, ir169_r0, E_40_l2, R_40_l2, ir169_k1, ir169_o1, ir169_r1, E_40_l3, R_40_l3, ir169_k2, ir169_o2, ir169_r2, E_40_l4, R_40_l4, ir169_k3, ir169_o3, ir169_r3, E_40_l5, R_40_l5, ir169_k4, ir169_o4, ir169_r4, E_40_l6, R_40_l6, ir169_k4, ir169_o4, ir169_r4, z1, z15, z29, z30, z38, z50, fz51, z52, fz53, z54, ez37]
      ·try simp only [go_sem, n1, n2, n3, n4, z1, z15, z29, z30, z38, z50] at z52
       all_goals
       obtain ⟨z55, h⟩ := ck_some h
       try simp only [go_sem, n1, n2, n3, n4, z1, z15, z29, z30, z38, z50, z52] at z55
       all_goals
       obtain rfl := so_some h
       refine ⟨Lz37, fun L hL => ?_⟩
       have ez37 := ez37 L (by omega)
       try simp only [go_sem, E_40_l1, R_40_l1, ir169_k0, ir169_o0, ir169_r0, E_40_l2, R_40_l2, ir169_k1, ir169_o1, ir169_r1, E_40_l3, R_40_l3, ir169_k2, ir169_o2, ir169_r2, E_40_l4, R_40_l4, ir169_k3, ir169_o3, ir169_r3, E_40_l5, R_40_l5, ir169_k4, ir169_o4, ir169_r4, E_40_l6, R_40_l6, ir169_k4, ir169_o4, ir169_r4, z1, z15, z29, z30, z38, z50, z52, z55] at ez37
       simp only [go_sem, ir169, E_40_l1, R_40_l1, ir169_k0, ir169_o0, ir169_r0, E_40_l2, R_40_l2, ir169_k1, ir169_o1, ir169_r1, E_40_l3, R_40_l3, ir169_k2, ir169_o2, ir169_r2, E_40_l4, R_40_l4, ir169_k3, ir169_o3, ir169_r3, E_40_l5, R_40_l5, ir169_k4, ir169_o4, ir169_r4, E_40_l6, R_40_l6, ir169_k4, ir169_o4, ir169_r4, z1, z15, z29, z30, z38, z50, fz51, z52, z55, ez37]
     ·try simp only [go_sem, n1, n2, n3, n4, z1, z15, z29, z30, z38] at z50
      all_goals
      rcases it_some h with ⟨z56, h⟩ | ⟨z56, h⟩
      ·try simp only [go_sem, n1, n2, n3, n4, z1, z15, z29, z30, z38, z50] at z56
       all_goals
       obtain ⟨y_57, z57, h⟩ := bd_some h
       have fz57 := ih_ z57
       try simp only [go_sem, z1, z15, z29, z30, z38, z50, z56] at fz57
       obtain ⟨z58, h⟩ := ck_some h
       try simp only [go_sem, n1, n2, n3, n4, z1, z15, z29, z30, z38, z50, z56] at z58
       all_goals
       obtain rfl := so_some h
       refine ⟨Lz37, fun L hL => ?_⟩
       have ez37 := ez37 L (by omega)
       try simp only [go_sem, E_40_l1, R_40_l1, ir169_k0, ir169_o0, ir169_r0, E_40_l2, R_40_l2, ir169_k1, ir169_o1, ir169_r1, E_40_l3, R_40_l3, ir169_k2, ir169_o2, ir169_r2, E_40_l4, R_40_l4, ir169_k3, ir169_o3, ir169_r3, E_40_l5, R_40_l5, ir169_k4, ir169_o4, ir169_r4, E_40_l6, R_40_l6, ir169_k4, ir169_o4, ir169_r4, z1, z15, z29, z30, z38, z50, z56, z58] at ez37
       simp only [go_sem, ir169, E_40_l1, R_40_l1, ir169_k0, ir169_o0, ir169_r0, E_40_l2, R_40_l2, ir169_k1, ir169_o1, ir169_r1, E_40_l3, R_40_l3, ir169_k2, ir169_o2, ir169_r2, E_40_l4, R_40_l4, ir169_k3, ir169_o3, ir169_r3, E_40_l5, R_40_l5, ir169_k4, ir169_o4, ir169_r4, E_40_l6, R_40_l6, ir169_k4, ir169_o4, ir169_r4, z1, z15, z29, z30, z38, z50, z56, fz57, z58, ez37]
      ·try simp only [go_sem, n1, n2, n3, n4, z1, z15, z29, z30, z38, z50] at z56
       all_goals
       obtain rfl := so_some h
       refine ⟨Lz37, fun L hL => ?_⟩
       have ez37 := ez37 L (by omega)
       try simp only [go_sem, E_40_l1, R_40_l1, ir169_k0, ir169_o0, ir169_r0, E_40_l2, R_40_l2, ir169_k1, ir169_o1, ir169_r1, E_40_l3, R_40_l3, ir169_k2, ir169_o2, ir169_r2, E_40_l4, R_40_l4, ir169_k3, ir169_o3, ir169_r3, E_40_l5, R_40_l5, ir169_k4, ir169_o4, ir169_r4, E_40_l6, R_40_l6, ir169_k4, ir169_o4, ir169_r4, z1, z15, z29, z30, z38, z50, z56] at ez37
       simp only [go_sem, ir169, E_40_l1, R_40_l1, ir169_k0, ir169_o0, ir169_r0, E_40_l2, R_40_l2, ir169_k1, ir169_o1, ir169_r1, E_40_l3, R_40_l3, ir169_k2, ir169_o2, ir169_r2, E_40_l4, R_40_l4, ir169_k3, ir169_o3, ir169_r3, E_40_l5, R_40_l5, ir169_k4, ir169_o4, ir169_r4, E_40_l6, R_40_l6, ir169_k4, ir169_o4, ir169_r4, z1, z15, z29, z30, z38, z50, z56, ez37]
   ·try simp only [go_sem, n1, n2, n3, n4, z1, z15, z29] at z30
    all_goals
    obtain ⟨y_65, z65, h⟩ := bd_some h
    obtain ⟨Lz65, ez65⟩ := slices_symMergeCmpFunc_impl_Window__impl_longest_c1_l6_ex n_ z65
    rcases it_some h with ⟨z66, h⟩ | ⟨z66, h⟩
    ·try simp only [go_sem, n1, n2, n3, n4, z1, z15, z29, z30] at z66
     all_goals
     obtain ⟨y_67, z67, h⟩ := bd_some h
     have fz67 := Fs_39 z67
     try simp only [go_sem, z1, z15, z29, z30, z66] at fz67
     rcases it_some h with ⟨z68, h⟩ | ⟨z68, h⟩
     ·try simp only [go_sem, n1, n2, n3, n4, z1, z15, z29, z30, z66] at z68
      all_goals
      obtain ⟨y_69, z69, h⟩ := bd_some h
      have fz69 := ih_ z69
      try simp only [go_sem, z1, z15, z29, z30, z66, z68] at fz69
      rcases it_some h with ⟨z70, h⟩ | ⟨z70, h⟩
      ·try simp only [go_sem, n1, n2, n3, n4, z1, z15, z29, z30, z66, z68] at z70
       all_goals
       obtain ⟨y_71, z71, h⟩ := bd_some h
       have fz71 := ih_ z71
       try simp only [go_sem, z1, z15, z29, z30, z66, z68, z70] at fz71
       obtain ⟨z72, h⟩ := ck_some h
       try simp only [go_sem, n1, n2, n3, n4, z1, z15, z29, z30, z66, z68, z70] at z72
       all_goals
       obtain rfl := so_some h
       refine ⟨Lz65, fun L hL => ?_⟩
       have ez65 := ez65 L (by omega)
       try simp only [go_sem, E_40_l1, R_40_l1, ir169_k0, ir169_o0, ir169_r0, E_40_l2, R_40_l2, ir169_k1, ir169_o1, ir169_r1, E_40_l3, R_40_l3, ir169_k2, ir169_o2, ir169_r2, E_40_l4, R_40_l4, ir169_k3, ir169_o3, ir169_r3, E_40_l5, R_40_l5, ir169_k4, ir169_o4, ir169_r4, E_40_l6, R_40_l6, ir169_k4, ir169_o4, ir169_r4, z1, z15, z29, z30, z66, z68, z70, z72] at ez65
       simp only [go_sem, ir169, E_40_l1, R_40_l1, ir169_k0, ir169_o0, ir169_r0, E_40_l2, R_40_l2, ir169_k1, ir169_o1, ir169_r1, E_40_l3, R_40_l3, ir169_k2, ir169_o2, ir169_r2, E_40_l4, R_40_l4, ir169_k3, ir169_o3, ir169_r3, E_40_l5, R_40_l5, ir169_k4, ir169_o4, ir169_r4, E_40_l6, R_40_l6, ir169_k4, ir169_o4, ir169_r4, z1, z15, z29, z30, z66, fz67, z68, fz69, z70, fz71, z72, ez65]
      ·try simp only [go_sem, n1, n2, n3, n4, z1, z15, z29, z30, z66, z68] at z70
       all_goals
       obtain ⟨z73, h⟩ := ck_some h
       try simp only [go_sem, n1, n2, n3, n4, z1, z15, z29, z30, z66, z68, z70] at z73
       all_goals
       obtain rfl := so_some h
       refine ⟨Lz65, fun L hL => ?_⟩
       have ez65 := ez65 L (by omega)
       try simp only [go_sem, E_40_l1, R_40_l1, ir169_k0, ir169_o0, ir169_r0, E_40_l2, R_40_l2, ir169_k1, ir169_o1, ir169_r1, E_40_l3, R_40_l3, ir169_k2, ir169_o2, ir169_r2, E_40_l4, R_40_l4, ir169_k3, ir169_o3, ir169_r3, E_40_l5, R_40_l5, ir169_k4, ir169_o4, ir169_r4, E_40_l6, R_40_l6, ir169_k4, ir169_o4, ir169_r4, z1, z15, z29, z30, z66, z68, z70, z73] at ez65
       simp only [go_sem, ir169, E_40_l1, R_40_l1, ir169_k0, ir169_o0, ir169_r0, E_40_l2, R_40_l2, ir169_k1, ir169_o1, ir169_r1, E_40_l3, R_40_l3, ir169_k2, ir169_o2, ir169_r2, E_40_l4, R_40_l4, ir169_k3, ir169_o3, ir169_r3, E_40_l5, R_40_l5, ir169_k4, ir169_o4, ir169_r4, E_40_l6, R_40_l6, ir169_k4, ir169_o4, ir169_r4, z1, z15, z29, z30, z66, fz67, z68, fz69, z70, z73, ez65]
     ·try simp only [go_sem, n1, n2, n3, n4, z1, z15, z29, z30, z66] at z68
      all_goals
      rcases it_some h with ⟨z74, h⟩ | ⟨z74, h⟩
      ·try simp only [go_sem, n1, n2, n3, n4, z1, z15, z29, z30, z66, z68] at z74
       all_goals
       obtain ⟨y_75, z75, h⟩ := bd_some h
       have fz75 := ih_ z75
       try simp only [go_sem, z1, z15, z29, z30, z66, z68, z74] at fz75
       obtain ⟨z76, h⟩ := ck_some h
       try simp only [go_sem, n1, n2, n3, n4, z1, z15, z29, z30, z66, z68, z74] at z76
       all_goals
       obtain rfl := so_some h
       refine ⟨Lz65, fun L hL => ?_⟩
       have ez65 := ez65 L (by omega)
       try simp only [go_sem, E_40_l1, R_40_l1, ir169_k0, ir169_o0, ir169_r0, E_40_l2, R_40_l2, ir169_k1, ir169_o1, ir169_r1, E_40_l3, R_40_l3, ir169_k2, ir169_o2, ir169_r2, E_40_l4, R_40_l4, ir169_k3, ir169_o3, ir169_r3, E_40_l5, R_40_l5, ir169_k4, ir169_o4, ir169_r4, E_40_l6, R_40_l6, ir169_k4, ir169_o4, ir169_r4, z1, z15, z29, z30, z66, z68, z74, z76] at ez65
       simp only [go_sem, ir169, E_40_l1, R_40_l1, ir169_k0, ir169_o0, ir169_r0, E_40_l2, R_40_l2, ir169_k1, ir169_o1, ir169_r1, E_40_l3, R_40_l3, ir169_k2, ir169_o2, ir169_r2, E_40_l4, R_40_l4, ir169_k3, ir169_o3, ir169_r3, E_40_l5, R_40_l5, ir169_k4, ir169_o4, ir169_r4, E_40_l6, R_40_l6, ir169_k4, ir169_o4, ir169_r4, z1, z15, z29, z30, z66, fz67, z68, z74, fz75, z76, ez65]
      ·try simp only [go_sem, n1, n2, n3, n4, z1, z15, z29, z30, z66, z68] at z74
       all_goals
       obtain ⟨z77, h⟩ := ck_some h
       try simp only [go_sem, n1, n2, n3, n4, z1, z15, z29, z30, z66, z68, z74] at z77
       all_goals
       obtain rfl := so_some h
       refine ⟨Lz65, fun L hL => ?_⟩
       have ez65 := ez65 L (by omega)
       try simp only [go_sem, E_40_l1, R_40_l1, ir169_k0, ir169_o0, ir169_r0, E_40_l2, R_40_l2, ir169_k1, ir169_o1, ir169_r1, E_40_l3, R_40_l3, ir169_k2, ir169_o2, ir169_r2, E_40_l4, R_40_l4, ir169_k3, ir169_o3, ir169_r3, E_40_l5, R_40_l5, ir169_k4, ir169_o4, ir169_r4, E_40_l6, R_40_l6, ir169_k4, ir169_o4, ir169_r4, z1, z15, z29, z30, z66, z68, z74, z77] at ez65
       simp only [go_sem, ir169, E_40_l1, R_40_l1, ir169_k0, ir169_o0, ir169_r0, E_40_l2, R_40_l2, ir169_k1, ir169_o1, ir169_r1, E_40_l3, R_40_l3, ir169_k2, ir169_o2, ir169_r2, E_40_l4, R_40_l4, ir169_k3, ir169_o3, ir169_r3, E_40_l5, R_40_l5, ir169_k4, ir169_o4, ir169_r4, E_40_l6, R_40_l6, ir169_k4, ir169_o4, ir169_r4, z1, z15, z29, z30, z66, fz67, z68, z74, z77, ez65]
    ·try simp only [go_sem, n1, n2, n3, n4, z1, z15, z29, z30] at z66
     all_goals
     rcases it_some h with ⟨z78, h⟩ | ⟨z78, h⟩
     ·try simp only [go_sem, n1, n2, n3, n4, z1, z15, z29, z30, z66] at z78
      all_goals
      obtain ⟨y_79, z79, h⟩ := bd_some h
      have fz79 := ih_ z79
      try simp only [go_sem, z1, z15, z29, z30, z66, z78] at fz79
      rcases it_some h with ⟨z80, h⟩ | ⟨z80, h⟩
      ·try simp only [go_sem, n1, n2, n3, n4, z1, z15, z29, z30, z66, z78] at z80
       all_goals
       obtain ⟨y_81, z81, h⟩ := bd_some h
       have fz81 := ih_ z81
       try simp only [go_sem, z1, z15, z29, z30, z66, z78, z80] at fz81
       obtain ⟨z82, h⟩ := ck_some h
       try simp only [go_sem, n1, n2, n3, n4, z1, z15, z29, z30, z66, z78, z80] at z82
       all_goals
       obtain rfl := so_some h
       refine ⟨Lz65, fun L hL => ?_⟩
       have ez65 := ez65 L (by omega)
       try simp only [go_sem, E_40_l1, R_40_l1, ir169_k0, ir169_o0, ir169_r0, E_40_l2, R_40_l2, ir169_k1, ir169_o1, ir169_r1, E_40_l3, R_40_l3, ir169_k2, ir169_o2, ir169_r2, E_40_l4, R_40_l4, ir169_k3, ir169_o3, ir169_r3, E_40_l5, R_40_l5, ir169_k4, ir169_o4, ir169_r4, E_40_l6, R_40_l6, ir169_k4, ir169_o4, ir169_r4, z1, z15, z29, z30, z66, z78, z80, z82] at ez65
       simp only [go_sem, ir169, E_40_l1, R_40_l1, ir169_k0, ir169_o0, ir169_r0, E_40_l2, R_40_l2, ir169_k1, ir169_o1, ir169_r1, E_40_l3, R_40_l3, ir169_k2, ir169_o2, ir169_r2, E_40_l4, R_40_l4, ir169_k3, ir169_o3, ir169_r3, E_40_l5, R_40_l5, ir169_k4, ir169_o4, ir169_r4, E_40_l6, R_40_l6, ir169_k4, ir169_o4, ir169_r4, z1, z15, z29, z30, z66, z78, fz79, z80, fz81, z82, ez65]
      ·try simp only [go_sem, n1, n2, n3, n4, z1, z15, z29, z30, z66, z78] at z80
       all_goals
       obtain ⟨z83, h⟩ := ck_some h
       try simp only [go_sem, n1, n2, n3, n4, z1, z15, z29, z30, z66, z78, z80] at z83
       all_goals
       obtain rfl := so_some h
       refine ⟨Lz65, fun L hL => ?_⟩
       have ez65 := ez65 L (by omega)
       try simp only [go_sem, E_40_l1, R_40_l1, ir169_k0, ir169_o0, ir169_r0, E_40_l2, R_40_l2, ir169_k1, ir169_o1, ir169_r1, E_40_l3, R_40_l3, ir169_k2, ir169_o2, ir169_r2, E_40_l4, R_40_l4, ir169_k3, ir169_o3, ir169_r3, E_40_l5, R_40_l5, ir169_k4, ir169_o4, ir169_r4, E_40_l6, R_40_l6, ir169_k4, ir169_o4, ir169_r4, z1, z15, z29, z30, z66, z78, z80, z83] at ez65
       simp only [go_sem, ir169, E_40_l1, R_40_l1, ir169_k0, ir169_o0, ir169_r0, E_40_l2, R_40_l2, ir169_k1, ir169_o1, ir169_r1, E_40_l3, R_40_l3, ir169_k2, ir169_o2, ir169_r2, E_40_l4, R_40_l4, ir169_k3, ir169_o3, ir169_r3, E_40_l5, R_40_l5, ir169_k4, ir169_o4, ir169_r4, E_40_l6, R_40_l6, ir169_k4, ir169_o4, ir169_r4, z1, z15, z29, z30, z66, z78, fz79, z80, z83, ez65]
     ·try simp only [go_sem, n1, n2, n3, n4, z1, z15, z29, z30, z66] at z78
      all_goals
      rcases it_some h with ⟨z84, h⟩ | ⟨z84, h⟩
      ·try simp only [go_sem, n1, n2, n3, n4, z1, z15, z29, z30, z66, z78] at z84
       all_goals
       obtain ⟨y_85, z85, h⟩ := bd_some h
       have fz85 := ih_ z85
       try simp only [go_sem, z1, z15, z29, z30, z66, z78, z84] at fz85
       obtain ⟨z86, h⟩ := ck_some h
       try simp only [go_sem, n1, n2, n3, n4, z1, z15, z29, z30, z66, z78, z84] at z86
       all_goals
       obtain rfl := so_some h
       refine ⟨Lz65, fun L hL => ?_⟩
       have ez65 := ez65 L (by omega)
       try simp only [go_sem, E_40_l1, R_40_l1, ir169_k0, ir169_o0, ir169_r0, E_40_l2, R_40_l2, ir169_k1, ir169_o1, ir169_r1, E_40_l3, R_40_l3, ir169_k2, ir169_o2, ir169_r2, E_40_l4, R_40_l4, ir169_k3, ir169_o3, ir169_r3, E_40_l5, R_40_l5, ir169_k4, ir169_o4, ir169_r4, E_40_l6, R_40_l6, ir169_k4, ir169_o4, ir169_r4, z1, z15, z29, z30, z66, z78, z84, z86] at ez65
       simp only [go_sem, ir169, E_40_l1, R_40_l1, ir169_k0, ir169_o0, ir169_r0, E_40_l2, R_40_l2, ir169_k1, ir169_o1, ir169_r1, E_40_l3, R_40_l3, ir169_k2, ir169_o2, ir169_r2, E_40_l4, R_40_l4, ir169_k3, ir169_o3, ir169_r3, E_40_l5, R_40_l5, ir169_k4, ir169_o4, ir169_r4, E_40_l6, R_40_l6, ir169_k4, ir169_o4, ir169_r4, z1, z15, z29, z30, z66, z78, z84, fz85, z86, ez65]
      ·try simp only [go_sem, n1, n2, n3, n4, z1, z15, z29, z30, z66, z78] at z84
       all_goals
       obtain rfl := so_some h
       refine ⟨Lz65, fun L hL => ?_⟩
       have ez65 := ez65 L (by omega)
       try simp only [go_sem, E_40_l1, R_40_l1, ir169_k0, ir169_o0, ir169_r0, E_40_l2, R_40_l2, ir169_k1, ir169_o1, ir169_r1, E_40_l3, R_40_l3, ir169_k2, ir169_o2, ir169_r2, E_40_l4, R_40_l4, ir169_k3, ir169_o3, ir169_r3, E_40_l5, R_40_l5, ir169_k4, ir169_o4, ir169_r4, E_40_l6, R_40_l6, ir169_k4, ir169_o4, ir169_r4, z1, z15, z29, z30, z66, z78, z84] at ez65
       simp only [go_sem, ir169, E_40_l1, R_40_l1, ir169_k0, ir169_o0, ir169_r0, E_40_l2, R_40_l2, ir169_k1, ir169_o1, ir169_r1, E_40_l3, R_40_l3, ir169_k2, ir169_o2, ir169_r2, E_40_l4, R_40_l4, ir169_k3, ir169_o3, ir169_r3, E_40_l5, R_40_l5, ir169_k4, ir169_o4, ir169_r4, E_40_l6, R_40_l6, ir169_k4, ir169_o4, ir169_r4, z1, z15, z29, z30, z66, z78, z84, ez65]
set_option maxHeartbeats 8000000 in
theorem Fs_40 {data : List Window} {a : Int} {m : Int} {b : Int} {y_ : (List Window)} (h : slices_symMergeCmpFunc_impl_Window__impl_longest_c1 data a m b = some y_) : c_40.F [.fresh 2 (List.map Window_av data), .int .i64 a, .int .i64 m, .int .i64 b, .fn (.func 123) [] []] = ⟨true, .cv undef, [.fresh 2 (List.map Window_av y_), .any, .any, .any, .any]⟩ := Fsn_slices_symMergeCmpFunc_impl_Window__impl_longest_c1 64 h


def ir160_b0 : IR := .seq (.test false [ PM 11 5, PM 12 1, PO 13 (.bin false .leq (.s 1) (.s 0))] (.s 0) (.skip) (.exit 0)) (.block 1 (.seq (.region false [ PM 14 0, PM 15 4, PM 16 5, PM 17 2, PO 18 (.call 168 [(.s 3), (.s 2), (.s 1), (.s 0)])]) (.seq (.region false [ PM 19 5, VS 4 7 0]) (.region false [ PM 20 5, PM 21 3, PO 22 (.bin false .add (.s 1) (.s 0)), VS 5 8 0]))))
def ir160_k0 : List Bool := [true, true, true, true, true, true, false]
def ir160_o0 : List Bool := [true, true, true, true, true, false, false]
def ir160_r0 : List Bool := [true, false, false, false, false, false, false]
def ir160_b2 : IR := .seq (.test false [ PM 33 5, PM 34 1, PO 35 (.bin false .leq (.s 1) (.s 0))] (.s 0) (.skip) (.exit 4)) (.block 5 (.seq (.region false [ PM 36 0, PM 37 4, PM 38 4, PM 39 3, PO 40 (.bin false .add (.s 1) (.s 0)), PM 41 5, PM 42 2, PO 43 (.call 169 [(.s 6), (.s 5), (.s 2), (.s 1), (.s 0)])]) (.seq (.region false [ PM 44 5, VS 4 7 0]) (.region false [ PM 45 5, PM 46 3, PO 47 (.bin false .mul (I6 2) (.s 0)), PO 48 (.bin false .add (.s 2) (.s 0)), VS 5 8 0]))))
def ir160_k2 : List Bool := [true, true, true, true, true, true, false]
def ir160_o2 : List Bool := [true, true, true, true, true, false, false]
def ir160_r2 : List Bool := [true, false, false, false, false, false, false]
def ir160_b1 : IR := .seq (.test false [ PM 28 3, PM 29 1, PO 30 (.bin false .lss (.s 1) (.s 0))] (.s 0) (.skip) (.exit 2)) (.block 3 (.seq (.region false [ PM 31 3, PO 32 (.bin false .mul (I6 2) (.s 0)), VO 4 7 (.mov (I6 0)), VS 5 8 0]) (.seq (.block 4 (.loop ir160_k2 ir160_o2 ir160_r2 ir160_b2)) (.seq (.seq (.region false [ PM 49 4, PM 50 3, PO 51 (.bin false .add (.s 1) (.s 0)), VS 6 9 0]) (.test false [ PM 52 6, PM 53 1, PO 54 (.bin false .lss (.s 1) (.s 0))] (.s 0) (.region false [ PM 55 0, PM 56 4, PM 57 6, PM 58 1, PM 59 2, PO 60 (.call 169 [(.s 4), (.s 3), (.s 2), (.s 1), (.s 0)])])
 (.skip))) (.region false [ PM 61 3, PO 62 (.bin false .mul (.s 0) (I6 2)), VS 3 6 0])))))
def ir160_k1 : List Bool := [true, true, true, true, false, false, false]
def ir160_o1 : List Bool := [true, false, false, false, false, false, false]
def ir160_r1 : List Bool := [true, false, false, false, false, false, false]
def ir160_v : List Nat := [0, 1, 2, 6, 7, 8, 9]
def ir160 : AFn := ⟨3, 7, .seq (.region false [ VO 3 6 (.mov (I6 20))]) (.seq (.region false [ PM 10 3, VO 4 7 (.mov (I6 0)), VS 5 8 0]) (.seq (.block 0 (.loop ir160_k0 ir160_o0 ir160_r0 ir160_b0)) (.seq (.region false [ PM 23 0, PM 24 4, PM 25 1, PM 26 2, PO 27 (.call 168 [(.s 3), (.s 2), (.s 1), (.s 0)])]) (.block 2 (.loop ir160_k1 ir160_o1 ir160_r1 ir160_b1))))), []⟩
noncomputable def t_41 : List (Nat × Ctr) := [(168, c_37), (169, c_40)]
theorem lk_41_168 : look t_41 168 = some c_37 := rfl
theorem lk_41_169 : look t_41 169 = some c_40 := rfl
noncomputable def c_41 : Ctr := mkN t_41 ir160 [.io, .bor, .bor]
theorem s_41 : Sound Try.prog 160 c_41 := mkN_sound _ (snd_cons s_37 (snd_cons s_40 snd_nil)) (by kernel_rfl : chkFn Try.prog 160 ir160 ir160_v = true)
theorem M_41 : c_41.modes = [.io, .bor, .bor] := rfl
theorem Fl_41 : c_41.flat = false := rfl
attribute [go_sem] M_41 Fl_41
attribute [go_sem] lk_41_168 lk_41_169
def E_41_l1 (n : Int) (blockSize : Int) : ((List Window) × Int × Int) → St
 | (data, a, b) => ⟨[.own 31, .int .i64 n, .fn (.func 123) [] [], .int .i64 blockSize, .int .i64 a, .int .i64 b, .any], [], [(31, ⟨2, List.map Window_av data⟩)], true⟩
def R_41_l1 (n : Int) (blockSize : Int) (y : (List Window) × Int) : Res := (.exit 0, ⟨[.own 31, .int .i64 n, .fn (.func 123) [] [], .int .i64 blockSize, .int .i64 y.2, .any, .any], [], [(31, ⟨2, List.map Window_av y.1⟩)], true⟩)
theorem slices_stableCmpFunc_impl_Window__impl_longest_c1_l1_ex {n : Int} {blockSize : Int} {sgm_ : (List Window) × Int × Int} {rho_ : (List Window) × Int} (h : whileE (slices_stableCmpFunc_impl_Window__impl_longest_c1_l1 n blockSize) sgm_ = some rho_) : ∃ L0, ∀ L, L0 ≤ L → iter (exec (look t_41) L ir160_b0) ir160_k0 ir160_o0 ir160_r0 L (E_41_l1 n blockSize sgm_) = R_41_l1 n blockSize rho_ := by
 refine loop_ex (E := E_41_l1 n blockSize) (R := R_41_l1 n blockSize) (fun y => by first | (intro c; cases c) | (rcases y with y | y <;> (intro c; cases c)) | (rcases y with y | y | y <;> (intro c; cases c))) ?_ h
 clear h
 rintro ⟨data, a, b⟩ o_ h
 dsimp only [slices_stableCmpFunc_impl_Window__impl_longest_c1_l1] at h
 rcases it_some h with ⟨z1, h⟩ | ⟨z1, h⟩
 ·try simp only [go_sem, n1, n2, n3, n4] at z1
  all_goals
  obtain ⟨y_2, z2, h⟩ := bd_some h
  have fz2 := Fs_37 z2
  try simp only [go_sem, z1] at fz2
  obtain rfl := so_some h
  refine ⟨0, fun L hL => ?_⟩
  simp only [go_sem, ir160, E_41_l1, R_41_l1, ir160_b0, ir160_k0, ir160_o0, ir160_r0, z1, fz2]
 ·try simp only [go_sem, n1, n2, n3, n4] at z1
  all_goals
  obtain rfl := so_some h
  refine ⟨0, fun L hL => ?_⟩
  simp only [go_sem, ir160, E_41_l1, R_41_l1, ir160_b0, ir160_k0, ir160_o0, ir160_r0, z1]

def E_41_l3 (n : Int) (blockSize : Int) : ((List Window) × Int × Int) → St
 | (data, a, b) => ⟨[.own 31, .int .i64 n, .fn (.func 123) [] [], .int .i64 blockSize, .int .i64 a, .int .i64 b, .any], [], [(31, ⟨2, List.map Window_av data⟩)], true⟩
def R_41_l3 (n : Int) (blockSize : Int) (y : (List Window) × Int) : Res := (.exit 4, ⟨[.own 31, .int .i64 n, .fn (.func 123) [] [], .int .i64 blockSize, .int .i64 y.2, .any, .any], [], [(31, ⟨2, List.map Window_av y.1⟩)], true⟩)
theorem slices_stableCmpFunc_impl_Window__impl_longest_c1_l3_ex {n : Int} {blockSize : Int} {sgm_ : (List Window) × Int × Int} {rho_ : (List Window) × Int} (h : whileE (slices_stableCmpFunc_impl_Window__impl_longest_c1_l3 n blockSize) sgm_ = some rho_) : ∃ L0, ∀ L, L0 ≤ L → iter (exec (look t_41) L ir160_b2) ir160_k2 ir160_o2 ir160_r2 L (E_41_l3 n blockSize sgm_) = R_41_l3 n blockSize rho_ := by
 refine loop_ex (E := E_41_l3 n blockSize) (R := R_41_l3 n blockSize) (fun y => by first | (intro c; cases c) | (rcases y with y | y <;> (intro c; cases c)) | (rcases y with y | y | y <;> (intro c; cases c))) ?_ h
 clear h
 rintro ⟨data, a, b⟩ o_ h
 dsimp only [slices_stableCmpFunc_impl_Window__impl_longest_c1_l3] at h
 rcases it_some h with ⟨z6, h⟩ | ⟨z6, h⟩
 ·try simp only [go_sem, n1, n2, n3, n4] at z6
  all_goals
  obtain ⟨y_7, z7, h⟩ := bd_some h
  have fz7 := Fs_40 z7
  try simp only [go_sem, z6] at fz7
  obtain rfl := so_some h
  refine ⟨0, fun L hL => ?_⟩
  simp only [go_sem, ir160, E_41_l3, R_41_l3, ir160_b2, ir160_k2, ir160_o2, ir160_r2, E_41_l1, R_41_l1, ir160_k0, ir160_o0, ir160_r0, z6, fz7]
 ·try simp only [go_sem, n1, n2, n3, n4] at z6
  all_goals
  obtain rfl := so_some h
  refine ⟨0, fun L hL => ?_⟩
  simp only [go_sem, ir160, E_41_l3, R_41_l3, ir160_b2, ir160_k2, ir160_o2, ir160_r2, E_41_l1, R_41_l1, ir160_k0, ir160_o0, ir160_r0, z6]

def E_41_l2 (n : Int) : ((List Window) × Int) → St
 | (data, blockSize) => ⟨[.own 31, .int .i64 n, .fn (.func 123) [] [], .int .i64 blockSize, .any, .any, .any], [], [(31, ⟨2, List.map Window_av data⟩)], true⟩
def R_41_l2 (n : Int) (y : (List Window)) : Res := (.exit 2, ⟨[.own 31, .any, .any, .any, .any, .any, .any], [], [(31, ⟨2, List.map Window_av y⟩)], true⟩)
theorem slices_stableCmpFunc_impl_Window__impl_longest_c1_l2_ex {n : Int} {sgm_ : (List Window) × Int} {rho_ : (List Window)} (h : whileE (slices_stableCmpFunc_impl_Window__impl_longest_c1_l2 n) sgm_ = some rho_) : ∃ L0, ∀ L, L0 ≤ L → iter (exec (look t_41) L ir160_b1) ir160_k1 ir160_o1 ir160_r1 L (E_41_l2 n sgm_) = R_41_l2 n rho_ := by
 refine loop_ex (E := E_41_l2 n) (R := R_41_l2 n) (fun y => by first | (intro c; cases c) | (rcases y with y | y <;> (intro c; cases c)) | (rcases y with y | y | y <;> (intro c; cases c))) ?_ h
 clear h
 rintro ⟨data, blockSize⟩ o_ h
 dsimp only [slices_stableCmpFunc_impl_Window__impl_longest_c1_l2] at h
 rcases it_some h with ⟨z5, h⟩ | ⟨z5, h⟩
 ·try simp only [go_sem, n1, n2, n3, n4] at z5
  all_goals
  obtain ⟨y_8, z8, h⟩ := bd_some h
  obtain ⟨Lz8, ez8⟩ := slices_stableCmpFunc_impl_Window__impl_longest_c1_l3_ex z8
  rcases it_some h with ⟨z9, h⟩ | ⟨z9, h⟩
  ·try simp only [go_sem, n1, n2, n3, n4, z5] at z9
   all_goals
   obtain ⟨y_10, z10, h⟩ := bd_some h
   have fz10 := Fs_40 z10
   try simp only [go_sem, z5, z9] at fz10
   obtain rfl := so_some h
   refine ⟨Lz8, fun L hL => ?_⟩
   have ez8 := ez8 L (by omega)
   try simp only [go_sem, E_41_l2, R_41_l2, ir160_b1, ir160_k1, ir160_o1, ir160_r1, E_41_l1, R_41_l1, ir160_k0, ir160_o0, ir160_r0, E_41_l3, R_41_l3, ir160_k2, ir160_o2, ir160_r2, z5, z9] at ez8
   simp only [go_sem, ir160, E_41_l2, R_41_l2, ir160_b1, ir160_k1, ir160_o1, ir160_r1, E_41_l1, R_41_l1, ir160_k0, ir160_o0, ir160_r0, E_41_l3, R_41_l3, ir160_k2, ir160_o2, ir160_r2, z5, z9, fz10, ez8]
  ·try simp only [go_sem, n1, n2, n3, n4, z5] at z9
   all_goals
   obtain rfl := so_some h
   refine ⟨Lz8, fun L hL => ?_⟩
   have ez8 := ez8 L (by omega)
   try simp only [go_sem, E_41_l2, R_41_l2, ir160_b1, ir160_k1, ir160_o1, ir160_r1, E_41_l1, R_41_l1, ir160_k0, ir160_o0, ir160_r0, E_41_l3, R_41_l3, ir160_k2, ir160_o2, ir160_r2, z5, z9] at ez8
   simp only [go_sem, ir160, E_41_l2, R_41_l2, ir160_b1, ir160_k1, ir160_o1, ir160_r1, E_41_l1, R_41_l1, ir160_k0, ir160_o0, ir160_r0, E_41_l3, R_41_l3, ir160_k2, ir160_o2, ir160_r2, z5, z9, ez8]
 ·try simp only [go_sem, n1, n2, n3, n4] at z5
  all_goals
  obtain rfl := so_some h
  refine ⟨0, fun L hL => ?_⟩
  simp only [go_sem, ir160, E_41_l2, R_41_l2, ir160_b1, ir160_k1, ir160_o1, ir160_r1, E_41_l1, R_41_l1, ir160_k0, ir160_o0, ir160_r0, E_41_l3, R_41_l3, ir160_k2, ir160_o2, ir160_r2, z5]

theorem Fs_41 {data : List Window} {n : Int} {y_ : (List Window)} (h : slices_stableCmpFunc_impl_Window__impl_longest_c1 data n = some y_) : c_41.F [.fresh 2 (List.map Window_av data), .int .i64 n, .fn (.func 123) [] []] = ⟨true, .cv undef, [.fresh 2 (List.map Window_av y_), .any, .any]⟩ := by
 refine mkN_E ?_
 dsimp only [slices_stableCmpFunc_impl_Window__impl_longest_c1] at h
 obtain ⟨y_3, z3, h⟩ := bd_some h
 obtain ⟨Lz3, ez3⟩ := slices_stableCmpFunc_impl_Window__impl_longest_c1_l1_ex z3
 obtain ⟨y_4, z4, h⟩ := bd_some h
 have fz4 := Fs_37 z4
 try simp only [go_sem] at fz4
 obtain ⟨y_11, z11, h⟩ := bd_some h
 obtain ⟨Lz11, ez11⟩ := slices_stableCmpFunc_impl_Window__impl_longest_c1_l2_ex z11
 obtain ⟨z12, h⟩ := ck_some h
 try simp only [go_sem, n1, n2, n3, n4] at z12
 all_goals
 obtain rfl := so_some h
 refine ⟨Lz3 + Lz11, fun L hL => ?_⟩
 have ez3 := ez3 L (by omega)
 have ez11 := ez11 L (by omega)
 try simp only [go_sem, E_41_l1, R_41_l1, ir160_k0, ir160_o0, ir160_r0, E_41_l3, R_41_l3, ir160_k2, ir160_o2, ir160_r2, E_41_l2, R_41_l2, ir160_k1, ir160_o1, ir160_r1, z12] at ez3
 try simp only [go_sem, E_41_l1, R_41_l1, ir160_k0, ir160_o0, ir160_r0, E_41_l3, R_41_l3, ir160_k2, ir160_o2, ir160_r2, E_41_l2, R_41_l2, ir160_k1, ir160_o1, ir160_r1, z12] at ez11
 simp only [go_sem, ir160, E_41_l1, R_41_l1, ir160_k0, ir160_o0, ir160_r0, E_41_l3, R_41_l3, ir160_k2, ir160_o2, ir160_r2, E_41_l2, R_41_l2, ir160_k1, ir160_o1, ir160_r1, fz4, z12, ez3, ez11]


def ir141_v : List Nat := [0, 1]
def ir141 : AFn := ⟨2, 2, .region false [ PM 4 0, PM 5 0, PO 6 (.len false (.s 0)), PM 7 1, PO 8 (.call 160 [(.s 3), (.s 1), (.s 0)])], []⟩
noncomputable def t_42 : List (Nat × Ctr) := [(160, c_41)]
theorem lk_42_160 : look t_42 160 = some c_41 := rfl
noncomputable def c_42 : Ctr := mkN t_42 ir141 [.io, .bor]
theorem s_42 : Sound Try.prog 141 c_42 := mkN_sound _ (snd_cons s_41 snd_nil) (by kernel_rfl : chkFn Try.prog 141 ir141 ir141_v = true)
theorem M_42 : c_42.modes = [.io, .bor] := rfl
theorem Fl_42 : c_42.flat = false := rfl
attribute [go_sem] M_42 Fl_42
attribute [go_sem] lk_42_160
theorem Fs_42 {x : List Window} {y_ : (List Window)} (h : slices_SortStableFunc_impl_Window_impl_Window__impl_longest_c1 x = some y_) : c_42.F [.fresh 2 (List.map Window_av x), .fn (.func 123) [] []] = ⟨true, .cv undef, [.fresh 2 (List.map Window_av y_), .any]⟩ := by
 refine mkN_E ?_
 dsimp only [slices_SortStableFunc_impl_Window_impl_Window__impl_longest_c1] at h
 obtain ⟨y_1, z1, h⟩ := bd_some h
 have fz1 := Fs_41 z1
 try simp only [go_sem] at fz1
 obtain ⟨z2, h⟩ := ck_some h
 try simp only [go_sem, n1, n2, n3, n4] at z2
 all_goals
 obtain rfl := so_some h
 refine ⟨0, fun L hL => ?_⟩
 simp only [go_sem, ir141, fz1, z2]


def ir121_v : List Nat := [0, 1, 4, 5]
def ir121 : AFn := ⟨2, 4, .seq (.region false [ VO 2 4 (.newnil 2)]) (.seq (.region false [ PM 6 0, PO 7 (.call 140 [(.s 0)]), VS 3 5 0]) (.seq (.region false [ PM 8 3, PM 9 1, PO 10 (.call 141 [(.s 1), (.s 0)])]) (.seq (.region false [ PM 11 3, VS 2 4 0]) (.ret)))), [.t 2]⟩
noncomputable def t_43 : List (Nat × Ctr) := [(140, c_hCollectWindow), (141, c_42)]
theorem lk_43_140 : look t_43 140 = some c_hCollectWindow := rfl
theorem lk_43_141 : look t_43 141 = some c_42 := rfl
noncomputable def c_43 : Ctr := mkF t_43 ir121 [.bor, .bor]
theorem s_43 : Sound Try.prog 121 c_43 := mkF_sound _ rfl (snd_cons s_hCollectWindow (snd_cons s_42 snd_nil)) (by kernel_rfl : chkFn Try.prog 121 ir121 ir121_v = true)
theorem M_43 : c_43.modes = [.bor, .bor] := rfl
theorem Fl_43 : c_43.flat = true := rfl
attribute [go_sem] M_43 Fl_43
attribute [go_sem] lk_43_140 lk_43_141
theorem Fs_43 {seq_c0 : List Window} {y_ : (List Window)} (h : slices_SortedStableFunc_impl_Window__slices_Values_impl_Window_impl_Window__c1__impl_longest_c1 seq_c0 = some y_) : c_43.F [.fn (.func 142) [] [.ptr 1 [.sl 2 (List.map Window_av seq_c0)] 0 0], .fn (.func 123) [] []] = ⟨true, .fresh 2 (List.map Window_av y_), [.any, .any]⟩ := by
 refine mkF_E (by simp only [flatA, flatB, flat1, List.all_cons, List.all_nil, Bool.and_self, flatE_map (f := Window_av) (fun _ => rfl)]) ?_
 dsimp only [slices_SortedStableFunc_impl_Window__slices_Values_impl_Window_impl_Window__c1__impl_longest_c1] at h
 obtain ⟨y_1, z1, h⟩ := bd_some h
 have fz1 := Fs_hCollectWindow z1
 try simp only [go_sem] at fz1
 obtain ⟨y_2, z2, h⟩ := bd_some h
 have fz2 := Fs_42 z2
 try simp only [go_sem] at fz2
 obtain rfl := so_some h
 refine ⟨0, fun L hL => ?_⟩
 simp only [go_sem, ir121, fz1, fz2]


def ir86_b0 : IR := .seq (.region false [ VO 8 14 (.bin false .lss (.v 7) (.v 6))]) (.seq (.cond (.v 8) (.skip) (.exit 0)) (.seq (.block 1 (.seq (.region false [ PO 15 (.ixAddr 2 (.v 5) (.v 7)), PO 16 (.load true 2 (.s 0)), VO 3 5 (.alloc (.agg [.int .i64 (0), .int .i64 (0)])), ⟨.no, 0, none, .store 2 (.v 3) (.s 0)⟩]) (.seq (.region false [ PM 17 2, PO 18 (.len false (.s 0)), PO 19 (.bin false .sub (.s 0) (I6 1)), VS 4 6 0]) (.anyo 13 [ SO 0 20 (.mov (.v 4)), SO 1 21 (.bin false .geq (.s 0) (I6 0)), SO 2 22 (.mov (.s 1)), ⟨.slot 3, 23, (some ((.s 2), true)), .fldAddr 0 (.v 3)⟩, ⟨.slot 4, 24,
 (some ((.s 2), true)), .load false 1 (.s 3)⟩, ⟨.slot 5, 25, (some ((.s 2), true)), .mov (.v 2)⟩, ⟨.slot 6, 26, (some ((.s 2), true)), .mov (.v 4)⟩, ⟨.slot 7, 27, (some ((.s 2), true)), .ixAddr 2 (.s 5) (.s 6)⟩, ⟨.slot 8, 28, (some ((.s 2), true)), .fldAddr 1 (.s 7)⟩, ⟨.slot 9, 29, (some ((.s 2), true)), .load false 1 (.s 8)⟩, ⟨.slot 10, 30, (some ((.s 2), true)), .bin false .add (.s 9) (I6 1)⟩, ⟨.slot 11, 31, (some ((.s 2), true)), .bin false .leq (.s 4) (.s 10)⟩, SO 12 32 (.pick (.s 2) (.s 11) (.c (.bool false)))] [] (.cond (.s 12) (.anyo 12 [ SO 0 33 (.mov (.v 2)), SO 1 34 (.mov (.v 4)), SO
 2 35 (.mov (.v 2)), SO 3 36 (.mov (.v 4)), SO 4 37 (.ixAddr 2 (.s 2) (.s 3)), SO 5 38 (.fldAddr 1 (.s 4)), SO 6 39 (.load false 1 (.s 5)), SO 7 40 (.fldAddr 1 (.v 3)), SO 8 41 (.load false 1 (.s 7)), SO 9 42 (.minmax true [(.s 6), (.s 8)]), SO 10 43 (.ixAddr 2 (.s 0) (.s 1)), SO 11 44 (.fldAddr 1 (.s 10)), ⟨.no, 0, none, .store 1 (.s 11) (.s 9)⟩] [] .skip) (.region false [ PM 45 2, PO 46 (.load true 2 (.v 3)), PO 47 (.mkSl 2 (.agg [.int .i64 (0), .int .i64 (0)]) 1 [(0, (.s 0))]), PO 48 (.app 2 16 (.agg [.int .i64 (0), .int .i64 (0)]) (.s 2) (.s 0)), VS 2 3 0])))))) (.region false [ PO 49 (.bin
 false .add (.v 7) (I6 1)), VS 7 13 0])))
def ir86_k0 : List Bool := [false, false, true, false, false, true, true, true, false]
def ir86_o0 : List Bool := [false, false, true, false, false, false, false, false, false]
def ir86_r0 : List Bool := [false, true, false, false, false, false, false, false, false]
def ir86_v : List Nat := [0, 2, 3, 5, 6, 11, 12, 13, 14]
def ir86 : AFn := ⟨1, 9, .seq (.region false [ VO 1 2 (.newnil 2)]) (.seq (.region false [ PM 7 0, PO 8 (.call 122 [(.s 0)]), PO 9 (.call 121 [(.s 0), (.c (.fn (.func 123) [] []))]), VS 0 0 0]) (.seq (.region false [ PO 10 (.mkSl 2 (.agg [.int .i64 (0), .int .i64 (0)]) 0 []), VS 2 3 0]) (.seq (.seq (.region false [ VO 5 11 (.mov (.v 0)), VO 6 12 (.len false (.v 5)), VO 7 13 (.mov (I6 0))]) (.block 0 (.loop ir86_k0 ir86_o0 ir86_r0 ir86_b0))) (.seq (.region false [ PM 50 2, VS 1 2 0]) (.ret))))), [.t 1]⟩
noncomputable def t_44 : List (Nat × Ctr) := [(122, c_32), (121, c_43)]
theorem lk_44_122 : look t_44 122 = some c_32 := rfl
theorem lk_44_121 : look t_44 121 = some c_43 := rfl
noncomputable def c_44 : Ctr := mkF t_44 ir86 [.bor]
theorem s_44 : Sound Try.prog 86 c_44 := mkF_sound _ rfl (snd_cons s_32 (snd_cons s_43 snd_nil)) (by kernel_rfl : chkFn Try.prog 86 ir86 ir86_v = true)
theorem M_44 : c_44.modes = [.bor] := rfl
theorem Fl_44 : c_44.flat = true := rfl
attribute [go_sem] M_44 Fl_44
attribute [go_sem] lk_44_122 lk_44_121
def E_44_l1 (t11 : List Window) (t12 : Int) : ((List Window) × Int) → St
 | (out, t13) => ⟨[.any, .any, .own 3200000, .any, .any, .own 3200032, .int .i64 t12, .int .i64 t13, .any], [], [(3200000, ⟨2, List.map Window_av out⟩), (3200032, ⟨2, List.map Window_av t11⟩)], true⟩
def R_44_l1 (t11 : List Window) (t12 : Int) (y : (List Window)) : Res := (.exit 0, ⟨[.any, .any, .own 3200000, .any, .any, .any, .any, .any, .any], [], [(3200000, ⟨2, List.map Window_av y⟩)], true⟩)
theorem impl_longest_l1_ex {t11 : List Window} {t12 : Int} {sgm_ : (List Window) × Int} {rho_ : (List Window)} (h : whileE (impl_longest_l1 t11 t12) sgm_ = some rho_) : ∃ L0, ∀ L, L0 ≤ L → iter (exec (look t_44) L ir86_b0) ir86_k0 ir86_o0 ir86_r0 L (E_44_l1 t11 t12 sgm_) = R_44_l1 t11 t12 rho_ := by
 refine loop_ex (E := E_44_l1 t11 t12) (R := R_44_l1 t11 t12) (fun y => by first | (intro c; cases c) | (rcases y with y | y <;> (intro c; cases c)) | (rcases y with y | y | y <;> (intro c; cases c))) ?_ h
 clear h
 rintro ⟨out, t13⟩ o_ h
 dsimp only [impl_longest_l1] at h
 rcases it_some h with ⟨z3, h⟩ | ⟨z3, h⟩
 ·try simp only [go_sem, n1, n2, n3, n4] at z3
  all_goals
  obtain ⟨z4, h⟩ := ck_some h
  have lz4 := ix_lt z4
  have xz4 := getD_mapD Window_av t11 lz4
  try simp only [go_sem] at lz4
  try simp only [go_sem] at xz4
  try simp only [go_sem, n1, n2, n3, n4, z3] at z4
  all_goals
  obtain ⟨z5, h⟩ := ck_some h
  rcases or_split z5 with ⟨gz5, z5⟩ | gz5
  ·try simp only [go_sem, n1, n2, n3, n4, z3, z4] at gz5
   all_goals
   have lz5 := ix_lt z5
   have xz5 := getD_mapD Window_av out lz5
   try simp only [go_sem] at lz5
   try simp only [go_sem] at xz5
   try simp only [go_sem, n1, n2, n3, n4, z3, z4, gz5] at z5
   all_goals
   rcases it_some h with ⟨z6, h⟩ | ⟨z6, h⟩
   ·try simp only [go_sem, n1, n2, n3, n4, z3, z4, gz5, z5] at z6
    all_goals
    obtain ⟨z7, h⟩ := ck_some h
    have lz7 := ix_lt z7
    have xz7 := getD_mapD Window_av out lz7
    try simp only [go_sem] at lz7
    try simp only [go_sem] at xz7
    try simp only [go_sem, n1, n2, n3, n4, z3, z4, gz5, z5, z6] at z7
    all_goals
    obtain rfl := so_some h
    refine ⟨0, fun L hL => ?_⟩
    simp only [go_sem, ir86, E_44_l1, R_44_l1, ir86_b0, ir86_k0, ir86_o0, ir86_r0, z3, z4, lz4, xz4, gz5, z5, lz5, xz5, z6, z7, lz7, xz7]
   ·try simp only [go_sem, n1, n2, n3, n4, z3, z4, gz5, z5] at z6
    all_goals
    obtain ⟨z8, h⟩ := ck_some h
    try simp only [go_sem, n1, n2, n3, n4, z3, z4, gz5, z5, z6] at z8
    all_goals
    obtain rfl := so_some h
    refine ⟨0, fun L hL => ?_⟩
    simp only [go_sem, ir86, E_44_l1, R_44_l1, ir86_b0, ir86_k0, ir86_o0, ir86_r0, z3, z4, lz4, xz4, gz5, z5, lz5, xz5, z6, z8]
  ·try simp only [go_sem, n1, n2, n3, n4, z3, z4] at gz5
   all_goals
   rcases it_some h with ⟨z6, h⟩ | ⟨z6, h⟩
   ·try simp only [go_sem, n1, n2, n3, n4, z3, z4, gz5] at z6
    all_goals
    (simp_all)
   ·try simp only [go_sem, n1, n2, n3, n4, z3, z4, gz5] at z6
    all_goals
    obtain ⟨z8, h⟩ := ck_some h
    try simp only [go_sem, n1, n2, n3, n4, z3, z4, gz5, z6] at z8
    all_goals
    obtain rfl := so_some h
    refine ⟨0, fun L hL => ?_⟩
    simp only [go_sem, ir86, E_44_l1, R_44_l1, ir86_b0, ir86_k0, ir86_o0, ir86_r0, z3, z4, lz4, xz4, gz5, z6, z8]
 ·try simp only [go_sem, n1, n2, n3, n4] at z3
  all_goals
  obtain rfl := so_some h
  refine ⟨0, fun L hL => ?_⟩
  simp only [go_sem, ir86, E_44_l1, R_44_l1, ir86_b0, ir86_k0, ir86_o0, ir86_r0, z3]

theorem Fs_44 {list : List Window} {y_ : (List Window)} (h : impl_longest list = some y_) : c_44.F [.sl 2 (List.map Window_av list)] = ⟨true, .fresh 2 (List.map Window_av y_), [.any]⟩ := by
 refine mkF_E (by simp only [flatA, flatB, flat1, List.all_cons, List.all_nil, Bool.and_self, flatE_map (f := Window_av) (fun _ => rfl)]) ?_
 dsimp only [impl_longest] at h
 obtain ⟨y_1, z1, h⟩ := bd_some h
 have fz1 := Fs_32 z1
 try simp only [go_sem] at fz1
 obtain ⟨y_2, z2, h⟩ := bd_some h
 have fz2 := Fs_43 z2
 try simp only [go_sem] at fz2
 obtain ⟨y_9, z9, h⟩ := bd_some h
 obtain ⟨Lz9, ez9⟩ := impl_longest_l1_ex z9
 obtain rfl := so_some h
 refine ⟨Lz9, fun L hL => ?_⟩
 have ez9 := ez9 L (by omega)
 try simp only [go_sem, E_44_l1, R_44_l1, ir86_k0, ir86_o0, ir86_r0] at ez9
 simp only [go_sem, ir86, E_44_l1, R_44_l1, ir86_k0, ir86_o0, ir86_r0, fz1, fz2, ez9]


def ir87_b1 : IR := .seq (.region false [ VO 15 22 (.bin false .lss (.v 14) (.v 13))]) (.seq (.cond (.v 15) (.skip) (.exit 2)) (.seq (.block 3 (.seq (.region false [ PO 23 (.ixAddr 2 (.v 12) (.v 14)), PO 24 (.load true 2 (.s 0)), VO 5 9 (.alloc (.agg [.int .i64 (0), .int .i64 (0)])), ⟨.no, 0, none, .store 2 (.v 5) (.s 0)⟩]) (.seq (.anyo 10 [ SO 0 25 (.fldAddr 0 (.v 4)), SO 1 26 (.load false 1 (.s 0)), SO 2 27 (.fldAddr 0 (.v 5)), SO 3 28 (.load false 1 (.s 2)), SO 4 29 (.minmax true [(.s 1), (.s 3)]), SO 5 30 (.fldAddr 1 (.v 4)), SO 6 31 (.load false 1 (.s 5)), SO 7 32 (.fldAddr 1 (.v 5)), SO 8
 33 (.load false 1 (.s 7)), SO 9 34 (.minmax false [(.s 6), (.s 8)]), VS 6 10 4, VS 7 11 9] [] .skip) (.test false [ PM 35 6, PM 36 7, PO 37 (.bin false .leq (.s 1) (.s 0))] (.s 0) (.region false [ PM 38 3, PM 39 6, PM 40 7, PO 41 (.build [.int .i64 (0), .int .i64 (0)] [(0, 1, (.s 1)), (1, 1, (.s 0))]), PO 42 (.mkSl 2 (.agg [.int .i64 (0), .int .i64 (0)]) 1 [(0, (.s 0))]), PO 43 (.app 2 16 (.agg [.int .i64 (0), .int .i64 (0)]) (.s 4) (.s 0)), VS 3 5 0]) (.skip))))) (.region false [ PO 44 (.bin false .add (.v 14) (I6 1)), VS 14 21 0])))
def ir87_k1 : List Bool := [false, true, false, true, true, false, false, false, true, true, true, false, true, true, true, false]
def ir87_o1 : List Bool := [false, true, false, true, false, false, false, false, true, true, true, false, false, false, false, false]
def ir87_r1 : List Bool := [false, false, true, false, false, false, false, false, false, false, false, false, false, false, false, false]
def ir87_b0 : IR := .seq (.region false [ VO 11 16 (.bin false .lss (.v 10) (.v 9))]) (.seq (.cond (.v 11) (.skip) (.exit 0)) (.seq (.block 1 (.seq (.region false [ PO 17 (.ixAddr 2 (.v 8) (.v 10)), PO 18 (.load true 2 (.s 0)), VO 4 7 (.alloc (.agg [.int .i64 (0), .int .i64 (0)])), ⟨.no, 0, none, .store 2 (.v 4) (.s 0)⟩]) (.seq (.region false [ VO 12 19 (.mov (.v 1)), VO 13 20 (.len false (.v 12)), VO 14 21 (.mov (I6 0))]) (.block 2 (.loop ir87_k1 ir87_o1 ir87_r1 ir87_b1))))) (.region false [ PO 45 (.bin false .add (.v 10) (I6 1)), VS 10 15 0])))
def ir87_k0 : List Bool := [false, true, false, true, false, false, false, false, true, true, true, false, false, false, false, false]
def ir87_o0 : List Bool := [false, false, false, true, false, false, false, false, false, false, false, false, false, false, false, false]
def ir87_r0 : List Bool := [false, false, true, false, false, false, false, false, false, false, false, false, false, false, false, false]
def ir87_v : List Nat := [0, 1, 4, 5, 7, 9, 10, 11, 13, 14, 15, 16, 19, 20, 21, 22]
def ir87 : AFn := ⟨2, 16, .seq (.region false [ VO 2 4 (.newnil 2)]) (.seq (.region false [ PO 12 (.mkSl 2 (.agg [.int .i64 (0), .int .i64 (0)]) 0 []), VS 3 5 0]) (.seq (.seq (.region false [ VO 8 13 (.mov (.v 0)), VO 9 14 (.len false (.v 8)), VO 10 15 (.mov (I6 0))]) (.block 0 (.loop ir87_k0 ir87_o0 ir87_r0 ir87_b0))) (.seq (.region false [ PM 46 3, PO 47 (.call 86 [(.s 0)]), VS 2 4 0]) (.ret)))), [.t 2]⟩
noncomputable def t_45 : List (Nat × Ctr) := [(86, c_44)]
theorem lk_45_86 : look t_45 86 = some c_44 := rfl
noncomputable def c_45 : Ctr := mkF t_45 ir87 [.bor, .bor]
theorem s_45 : Sound Try.prog 87 c_45 := mkF_sound _ rfl (snd_cons s_44 snd_nil) (by kernel_rfl : chkFn Try.prog 87 ir87 ir87_v = true)
theorem M_45 : c_45.modes = [.bor, .bor] := rfl
theorem Fl_45 : c_45.flat = true := rfl
attribute [go_sem] M_45 Fl_45
attribute [go_sem] lk_45_86
def E_45_l2 (b : List Window) (x : Window) (t13 : List Window) (t14 : Int) (t15 : Int) (t19 : List Window) (t20 : Int) : ((List Window) × Int) → St
 | (out, t21) => ⟨[.any, .sl 2 (List.map Window_av b), .any, .own 3200000, .ref 3200032 0 0, .any, .any, .any, .sl 2 (List.map Window_av t13), .int .i64 t14, .int .i64 t15, .any, .sl 2 (List.map Window_av t19), .int .i64 t20, .int .i64 t21, .any], [], [(3200000, ⟨2, List.map Window_av out⟩), (3200032, ⟨2, [Window_av x]⟩)], true⟩
def R_45_l2 (b : List Window) (x : Window) (t13 : List Window) (t14 : Int) (t15 : Int) (t19 : List Window) (t20 : Int) (y : (List Window)) : Res := (.exit 2, ⟨[.any, .sl 2 (List.map Window_av b), .any, .own 3200000, .any, .any, .any, .any, .sl 2 (List.map Window_av t13), .int .i64 t14, .int .i64 t15, .any, .any, .any, .any, .any], [], [(3200000, ⟨2, List.map Window_av y⟩)], true⟩)
theorem impl_meet_l2_ex {b : List Window} {x : Window} {t13 : List Window} {t14 : Int} {t15 : Int} {t19 : List Window} {t20 : Int} {sgm_ : (List Window) × Int} {rho_ : (List Window)} (h : whileE (impl_meet_l2 b x t13 t14 t15 t19 t20) sgm_ = some rho_) : ∃ L0, ∀ L, L0 ≤ L → iter (exec (look t_45) L ir87_b1) ir87_k1 ir87_o1 ir87_r1 L (E_45_l2 b x t13 t14 t15 t19 t20 sgm_) = R_45_l2 b x t13 t14 t15 t19 t20 rho_ := by
 refine loop_ex (E := E_45_l2 b x t13 t14 t15 t19 t20) (R := R_45_l2 b x t13 t14 t15 t19 t20) (fun y => by first | (intro c; cases c) | (rcases y with y | y <;> (intro c; cases c)) | (rcases y with y | y | y <;> (intro c; cases c))) ?_ h
 clear h
 rintro ⟨out, t21⟩ o_ h
 dsimp only [impl_meet_l2] at h
 rcases it_some h with ⟨z3, h⟩ | ⟨z3, h⟩
 ·try simp only [go_sem, n1, n2, n3, n4] at z3
  all_goals
  obtain ⟨z4, h⟩ := ck_some h
  have lz4 := ix_lt z4
  have xz4 := getD_mapD Window_av t19 lz4
  try simp only [go_sem] at lz4
  try simp only [go_sem] at xz4
  try simp only [go_sem, n1, n2, n3, n4, z3] at z4
  all_goals
  rcases it_some h with ⟨z5, h⟩ | ⟨z5, h⟩
  ·try simp only [go_sem, n1, n2, n3, n4, z3, z4] at z5
   all_goals
   obtain ⟨z6, h⟩ := ck_some h
   try simp only [go_sem, n1, n2, n3, n4, z3, z4, z5] at z6
   all_goals
   obtain rfl := so_some h
   refine ⟨0, fun L hL => ?_⟩
   simp only [go_sem, ir87, E_45_l2, R_45_l2, ir87_b1, ir87_k1, ir87_o1, ir87_r1, z3, z4, lz4, xz4, z5, z6]
  ·try simp only [go_sem, n1, n2, n3, n4, z3, z4] at z5
   all_goals
   obtain rfl := so_some h
   refine ⟨0, fun L hL => ?_⟩
   simp only [go_sem, ir87, E_45_l2, R_45_l2, ir87_b1, ir87_k1, ir87_o1, ir87_r1, z3, z4, lz4, xz4, z5]
 ·try simp only [go_sem, n1, n2, n3, n4] at z3
  all_goals
  obtain rfl := so_some h
  refine ⟨0, fun L hL => ?_⟩
  simp only [go_sem, ir87, E_45_l2, R_45_l2, ir87_b1, ir87_k1, ir87_o1, ir87_r1, z3]

def E_45_l1 (b : List Window) (t13 : List Window) (t14 : Int) : ((List Window) × Int) → St
 | (out, t15) => ⟨[.any, .sl 2 (List.map Window_av b), .any, .own 3200000, .any, .any, .any, .any, .sl 2 (List.map Window_av t13), .int .i64 t14, .int .i64 t15, .any, .any, .any, .any, .any], [], [(3200000, ⟨2, List.map Window_av out⟩)], true⟩
def R_45_l1 (b : List Window) (t13 : List Window) (t14 : Int) (y : (List Window)) : Res := (.exit 0, ⟨[.any, .any, .any, .own 3200000, .any, .any, .any, .any, .any, .any, .any, .any, .any, .any, .any, .any], [], [(3200000, ⟨2, List.map Window_av y⟩)], true⟩)
theorem impl_meet_l1_ex {b : List Window} {t13 : List Window} {t14 : Int} {sgm_ : (List Window) × Int} {rho_ : (List Window)} (h : whileE (impl_meet_l1 b t13 t14) sgm_ = some rho_) : ∃ L0, ∀ L, L0 ≤ L → iter (exec (look t_45) L ir87_b0) ir87_k0 ir87_o0 ir87_r0 L (E_45_l1 b t13 t14 sgm_) = R_45_l1 b t13 t14 rho_ := by
 refine loop_ex (E := E_45_l1 b t13 t14) (R := R_45_l1 b t13 t14) (fun y => by first | (intro c; cases c) | (rcases y with y | y <;> (intro c; cases c)) | (rcases y with y | y | y <;> (intro c; cases c))) ?_ h
 clear h
 rintro ⟨out, t15⟩ o_ h
 dsimp only [impl_meet_l1] at h
 rcases it_some h with ⟨z1, h⟩ | ⟨z1, h⟩
 ·try simp only [go_sem, n1, n2, n3, n4] at z1
  all_goals
  obtain ⟨z2, h⟩ := ck_some h
  have lz2 := ix_lt z2
  have xz2 := getD_mapD Window_av t13 lz2
  try simp only [go_sem] at lz2
  try simp only [go_sem] at xz2
  try simp only [go_sem, n1, n2, n3, n4, z1] at z2
  all_goals
  obtain ⟨y_7, z7, h⟩ := bd_some h
  obtain ⟨Lz7, ez7⟩ := impl_meet_l2_ex z7
  obtain rfl := so_some h
  refine ⟨Lz7, fun L hL => ?_⟩
  have ez7 := ez7 L (by omega)
  try simp only [go_sem, E_45_l1, R_45_l1, ir87_b0, ir87_k0, ir87_o0, ir87_r0, E_45_l2, R_45_l2, ir87_k1, ir87_o1, ir87_r1, z1, z2] at ez7
  simp only [go_sem, ir87, E_45_l1, R_45_l1, ir87_b0, ir87_k0, ir87_o0, ir87_r0, E_45_l2, R_45_l2, ir87_k1, ir87_o1, ir87_r1, z1, z2, lz2, xz2, ez7]
 ·try simp only [go_sem, n1, n2, n3, n4] at z1
  all_goals
  obtain rfl := so_some h
  refine ⟨0, fun L hL => ?_⟩
  simp only [go_sem, ir87, E_45_l1, R_45_l1, ir87_b0, ir87_k0, ir87_o0, ir87_r0, E_45_l2, R_45_l2, ir87_k1, ir87_o1, ir87_r1, z1]

theorem Fs_45 {a : List Window} {b : List Window} {y_ : (List Window)} (h : impl_meet a b = some y_) : c_45.F [.sl 2 (List.map Window_av a), .sl 2 (List.map Window_av b)] = ⟨true, .fresh 2 (List.map Window_av y_), [.any, .any]⟩ := by
 refine mkF_E (by simp only [flatA, flatB, flat1, List.all_cons, List.all_nil, Bool.and_self, flatE_map (f := Window_av) (fun _ => rfl)]) ?_
 dsimp only [impl_meet] at h
 obtain ⟨y_8, z8, h⟩ := bd_some h
 obtain ⟨Lz8, ez8⟩ := impl_meet_l1_ex z8
 obtain ⟨y_9, z9, h⟩ := bd_some h
 have fz9 := Fs_44 z9
 try simp only [go_sem] at fz9
 obtain rfl := so_some h
 refine ⟨Lz8, fun L hL => ?_⟩
 have ez8 := ez8 L (by omega)
 try simp only [go_sem, E_45_l2, R_45_l2, ir87_k1, ir87_o1, ir87_r1, E_45_l1, R_45_l1, ir87_k0, ir87_o0, ir87_r0] at ez8
 simp only [go_sem, ir87, E_45_l2, R_45_l2, ir87_k1, ir87_o1, ir87_r1, E_45_l1, R_45_l1, ir87_k0, ir87_o0, ir87_r0, fz9, ez8]


def ir47_b0 : IR := .seq (.region false [ VO 9 14 (.bin false .lss (.v 8) (.v 7))]) (.seq (.cond (.v 9) (.skip) (.exit 0)) (.seq (.block 1 (.seq (.region false [ PO 15 (.ixAddr 2 (.v 6) (.v 8)), PO 16 (.load true 2 (.s 0)), VO 5 8 (.alloc (.agg [.int .i64 (0), .int .i64 (0)])), ⟨.no, 0, none, .store 2 (.v 5) (.s 0)⟩]) (.seq (.test false [ PM 17 4, PO 18 (.fldAddr 0 (.v 5)), PO 19 (.load false 1 (.s 0)), PO 20 (.bin false .lss (.s 2) (.s 0))] (.s 0) (.region false [ PM 21 3, PM 22 4, PO 23 (.fldAddr 0 (.v 5)), PO 24 (.load false 1 (.s 0)), PO 25 (.bin false .sub (.s 0) (I6 1)), PO 26 (.build
 [.int .i64 (0), .int .i64 (0)] [(0, 1, (.s 3)), (1, 1, (.s 0))]), PO 27 (.mkSl 2 (.agg [.int .i64 (0), .int .i64 (0)]) 1 [(0, (.s 0))]), PO 28 (.app 2 16 (.agg [.int .i64 (0), .int .i64 (0)]) (.s 6) (.s 0)), VS 3 5 0]) (.skip)) (.region false [ PO 29 (.fldAddr 1 (.v 5)), PO 30 (.load false 1 (.s 0)), PO 31 (.bin false .add (.s 0) (I6 1)), VS 4 6 0])))) (.region false [ PO 32 (.bin false .add (.v 8) (I6 1)), VS 8 13 0])))
def ir47_k0 : List Bool := [true, false, false, true, true, false, true, true, true, false]
def ir47_o0 : List Bool := [true, false, false, true, true, false, false, false, false, false]
def ir47_r0 : List Bool := [false, false, true, false, false, false, false, false, false, false]
def ir47_v : List Nat := [0, 1, 4, 5, 6, 8, 11, 12, 13, 14]
def ir47 : AFn := ⟨2, 10, .seq (.region false [ VO 2 4 (.newnil 2)]) (.seq (.region false [ PO 9 (.mkSl 2 (.agg [.int .i64 (0), .int .i64 (0)]) 0 []), VS 3 5 0, VO 4 6 (.mov (I6 0))]) (.seq (.seq (.region false [ PM 10 1, VO 6 11 (.call 86 [(.s 0)]), VO 7 12 (.len false (.v 6)), VO 8 13 (.mov (I6 0))]) (.block 0 (.loop ir47_k0 ir47_o0 ir47_r0 ir47_b0))) (.seq (.test false [ PM 33 4, PO 34 (.bin false .leq (.s 0) (I6 10000000))] (.s 0) (.region false [ PM 35 3, PM 36 4, PO 37 (.build [.int .i64 (0), .int .i64 (0)] [(0, 1, (.s 0)), (1, 1, (I6 10000000))]), PO 38 (.mkSl 2 (.agg [.int .i64 (0),
 .int .i64 (0)]) 1 [(0, (.s 0))]), PO 39 (.app 2 16 (.agg [.int .i64 (0), .int .i64 (0)]) (.s 3) (.s 0)), VS 3 5 0]) (.skip)) (.seq (.region false [ PM 40 0, PM 41 3, PO 42 (.call 87 [(.s 1), (.s 0)]), VS 2 4 0]) (.ret))))), [.t 2]⟩
noncomputable def t_46 : List (Nat × Ctr) := [(86, c_44), (87, c_45)]
theorem lk_46_86 : look t_46 86 = some c_44 := rfl
theorem lk_46_87 : look t_46 87 = some c_45 := rfl
noncomputable def c_46 : Ctr := mkF t_46 ir47 [.bor, .bor]
theorem s_46 : Sound Try.prog 47 c_46 := mkF_sound _ rfl (snd_cons s_44 (snd_cons s_45 snd_nil)) (by kernel_rfl : chkFn Try.prog 47 ir47 ir47_v = true)
theorem M_46 : c_46.modes = [.bor, .bor] := rfl
theorem Fl_46 : c_46.flat = true := rfl
attribute [go_sem] M_46 Fl_46
attribute [go_sem] lk_46_86 lk_46_87
def E_46_l1 (a : List Window) (t11 : List Window) (t12 : Int) : ((List Window) × Int × Int) → St
 | (rest_, from_, t13) => ⟨[.sl 2 (List.map Window_av a), .any, .any, .own 3200000, .int .i64 from_, .any, .own 3200032, .int .i64 t12, .int .i64 t13, .any], [], [(3200000, ⟨2, List.map Window_av rest_⟩), (3200032, ⟨2, List.map Window_av t11⟩)], true⟩
def R_46_l1 (a : List Window) (t11 : List Window) (t12 : Int) (y : (List Window) × Int) : Res := (.exit 0, ⟨[.sl 2 (List.map Window_av a), .any, .any, .own 3200000, .int .i64 y.2, .any, .any, .any, .any, .any], [], [(3200000, ⟨2, List.map Window_av y.1⟩)], true⟩)
theorem impl_without_l1_ex {a : List Window} {t11 : List Window} {t12 : Int} {sgm_ : (List Window) × Int × Int} {rho_ : (List Window) × Int} (h : whileE (impl_without_l1 a t11 t12) sgm_ = some rho_) : ∃ L0, ∀ L, L0 ≤ L → iter (exec (look t_46) L ir47_b0) ir47_k0 ir47_o0 ir47_r0 L (E_46_l1 a t11 t12 sgm_) = R_46_l1 a t11 t12 rho_ := by
 refine loop_ex (E := E_46_l1 a t11 t12) (R := R_46_l1 a t11 t12) (fun y => by first | (intro c; cases c) | (rcases y with y | y <;> (intro c; cases c)) | (rcases y with y | y | y <;> (intro c; cases c))) ?_ h
 clear h
 rintro ⟨rest_, from_, t13⟩ o_ h
 dsimp only [impl_without_l1] at h
 rcases it_some h with ⟨z2, h⟩ | ⟨z2, h⟩
 ·try simp only [go_sem, n1, n2, n3, n4] at z2
  all_goals
  obtain ⟨z3, h⟩ := ck_some h
  have lz3 := ix_lt z3
  have xz3 := getD_mapD Window_av t11 lz3
  try simp only [go_sem] at lz3
  try simp only [go_sem] at xz3
  try simp only [go_sem, n1, n2, n3, n4, z2] at z3
  all_goals
  rcases it_some h with ⟨z4, h⟩ | ⟨z4, h⟩
  ·try simp only [go_sem, n1, n2, n3, n4, z2, z3] at z4
   all_goals
   obtain ⟨z5, h⟩ := ck_some h
   try simp only [go_sem, n1, n2, n3, n4, z2, z3, z4] at z5
   all_goals
   obtain rfl := so_some h
   refine ⟨0, fun L hL => ?_⟩
   simp only [go_sem, ir47, E_46_l1, R_46_l1, ir47_b0, ir47_k0, ir47_o0, ir47_r0, z2, z3, lz3, xz3, z4, z5]
  ·try simp only [go_sem, n1, n2, n3, n4, z2, z3] at z4
   all_goals
   obtain rfl := so_some h
   refine ⟨0, fun L hL => ?_⟩
   simp only [go_sem, ir47, E_46_l1, R_46_l1, ir47_b0, ir47_k0, ir47_o0, ir47_r0, z2, z3, lz3, xz3, z4]
 ·try simp only [go_sem, n1, n2, n3, n4] at z2
  all_goals
  obtain rfl := so_some h
  refine ⟨0, fun L hL => ?_⟩
  simp only [go_sem, ir47, E_46_l1, R_46_l1, ir47_b0, ir47_k0, ir47_o0, ir47_r0, z2]

theorem Fs_46 {a : List Window} {b : List Window} {y_ : (List Window)} (h : impl_without a b = some y_) : c_46.F [.sl 2 (List.map Window_av a), .sl 2 (List.map Window_av b)] = ⟨true, .fresh 2 (List.map Window_av y_), [.any, .any]⟩ := by
 refine mkF_E (by simp only [flatA, flatB, flat1, List.all_cons, List.all_nil, Bool.and_self, flatE_map (f := Window_av) (fun _ => rfl)]) ?_
 dsimp only [impl_without] at h
 obtain ⟨y_1, z1, h⟩ := bd_some h
 have fz1 := Fs_44 z1
 try simp only [go_sem] at fz1
 obtain ⟨y_6, z6, h⟩ := bd_some h
 obtain ⟨Lz6, ez6⟩ := impl_without_l1_ex z6
 rcases it_some h with ⟨z7, h⟩ | ⟨z7, h⟩
 ·try simp only [go_sem, n1, n2, n3, n4] at z7
  all_goals
  obtain ⟨z8, h⟩ := ck_some h
  try simp only [go_sem, n1, n2, n3, n4, z7] at z8
  all_goals
  obtain ⟨y_9, z9, h⟩ := bd_some h
  have fz9 := Fs_45 z9
  try simp only [go_sem, z7, z8] at fz9
  obtain rfl := so_some h
  refine ⟨Lz6, fun L hL => ?_⟩
  have ez6 := ez6 L (by omega)
  try simp only [go_sem, E_46_l1, R_46_l1, ir47_k0, ir47_o0, ir47_r0, z7, z8] at ez6
  simp only [go_sem, ir47, E_46_l1, R_46_l1, ir47_k0, ir47_o0, ir47_r0, fz1, z7, z8, fz9, ez6]
 ·try simp only [go_sem, n1, n2, n3, n4] at z7
  all_goals
  obtain ⟨y_10, z10, h⟩ := bd_some h
  have fz10 := Fs_45 z10
  try simp only [go_sem, z7] at fz10
  obtain rfl := so_some h
  refine ⟨Lz6, fun L hL => ?_⟩
  have ez6 := ez6 L (by omega)
  try simp only [go_sem, E_46_l1, R_46_l1, ir47_k0, ir47_o0, ir47_r0, z7] at ez6
  simp only [go_sem, ir47, E_46_l1, R_46_l1, ir47_k0, ir47_o0, ir47_r0, fz1, z7, fz10, ez6]


def ir46_v : List Nat := [0, 2, 3]
def ir46 : AFn := ⟨1, 3, .seq (.region false [ VO 1 2 (.newnil 2), VO 2 3 (.mov (I6 0))]) (.seq (.test false [ PM 4 0, PO 5 (.len false (.s 0)), PO 6 (.bin false .gtr (.s 0) (I6 30))] (.s 0) (.seq (.region false [ VO 1 2 (.newnil 2), VO 2 3 (.mov (I6 5))]) (.ret)) (.skip)) (.seq (.region false [ PM 7 0, VS 1 2 0, VO 2 3 (.mov (I6 0))]) (.ret))), [.t 1, .t 2]⟩
noncomputable def t_47 : List (Nat × Ctr) := []
noncomputable def c_47 : Ctr := mkZ t_47 ir46 [.bor]
theorem s_47 : Sound Try.prog 46 c_47 := mkZ_sound _ snd_nil (by kernel_rfl : chkFn Try.prog 46 ir46 ir46_v = true)
theorem M_47 : c_47.modes = [.bor] := rfl
theorem Fl_47 : c_47.flat = false := rfl
attribute [go_sem] M_47 Fl_47
theorem Fs_47 {list : List Window} {y_ : (List Window) × Int} (h : impl_fewWindows list = some y_) : c_47.F [.sl 2 (List.map Window_av list)] = ⟨true, .tup [.sl 2 (List.map Window_av y_.1), .int .i64 y_.2], [.any]⟩ := by
 refine mkZ_E ?_
 dsimp only [impl_fewWindows] at h
 rcases it_some h with ⟨z1, h⟩ | ⟨z1, h⟩
 ·try simp only [go_sem, n1, n2, n3, n4] at z1
  all_goals
  obtain rfl := so_some h
  refine ⟨0, fun L hL => ?_⟩
  simp only [go_sem, ir46, z1]
 ·try simp only [go_sem, n1, n2, n3, n4] at z1
  all_goals
  obtain rfl := so_some h
  refine ⟨0, fun L hL => ?_⟩
  simp only [go_sem, ir46, z1]


def ir10_b0 : IR := .seq (.region false [ VO 11 23 (.bin false .lss (.v 10) (.v 9))]) (.seq (.cond (.v 11) (.skip) (.exit 0)) (.seq (.block 1 (.seq (.region false [ PO 24 (.ixAddr 5 (.v 8) (.v 10)), PO 25 (.load true 5 (.s 0)), VO 7 11 (.alloc (.agg [.str [], .int .i64 (0), .int .i64 (0), .int .i64 (0), .int .i64 (0)])), ⟨.no, 0, none, .store 5 (.v 7) (.s 0)⟩]) (.test false [ PO 26 (.fldAddr 4 (.v 7)), PO 27 (.load false 1 (.s 0)), PO 28 (.bin false .gtr (.s 0) (I6 0))] (.s 0) (.region false [ PM 29 6, PO 30 (.fldAddr 1 (.v 7)), PO 31 (.load false 1 (.s 0)), PO 32 (.fldAddr 2 (.v 7)), PO 33
 (.load false 1 (.s 0)), PO 34 (.build [.int .i64 (0), .int .i64 (0)] [(0, 1, (.s 2)), (1, 1, (.s 0))]), PO 35 (.mkSl 2 (.agg [.int .i64 (0), .int .i64 (0)]) 1 [(0, (.s 0))]), PO 36 (.app 2 16 (.agg [.int .i64 (0), .int .i64 (0)]) (.s 6) (.s 0)), VS 6 9 0]) (.skip)))) (.region false [ PO 37 (.bin false .add (.v 10) (I6 1)), VS 10 22 0])))
def ir10_k0 : List Bool := [false, true, true, false, false, false, true, false, true, true, true, false]
def ir10_o0 : List Bool := [false, true, true, false, false, false, true, false, false, false, false, false]
def ir10_r0 : List Bool := [false, false, false, true, true, false, false, false, false, false, false, false]
def ir10_v : List Nat := [0, 1, 2, 6, 7, 8, 9, 11, 20, 21, 22, 23]
def ir10 : AFn := ⟨3, 12, .seq (.region false [ VO 3 6 (.newnil 2), VO 4 7 (.mov (I6 0))]) (.seq (.seq (.region false [ PM 12 0, PM 13 1, PM 14 2, PO 15 (.call 42 [(.s 2), (.s 1), (.s 0)]), VS 5 8 0]) (.test false [ PM 16 5, PO 17 (.bin false .neq (.s 0) (I6 0))] (.s 0) (.seq (.region false [ PM 18 5, VO 3 6 (.newnil 2), VS 4 7 0]) (.ret)) (.skip))) (.seq (.region false [ PO 19 (.mkSl 2 (.agg [.int .i64 (0), .int .i64 (0)]) 0 []), VS 6 9 0]) (.seq (.seq (.region false [ VO 8 20 (.mov (.v 0)), VO 9 21 (.len false (.v 8)), VO 10 22 (.mov (I6 0))]) (.block 0 (.loop ir10_k0 ir10_o0 ir10_r0
 ir10_b0))) (.seq (.region false [ PM 38 1, PM 39 2, PO 40 (.build [.int .i64 (0), .int .i64 (0)] [(0, 1, (.s 1)), (1, 1, (.s 0))]), PO 41 (.mkSl 2 (.agg [.int .i64 (0), .int .i64 (0)]) 1 [(0, (.s 0))]), PM 42 6, PO 43 (.call 47 [(.s 1), (.s 0)]), PO 44 (.call 46 [(.s 0)]), PO 45 (.ext (.s 0) 0), PO 46 (.ext (.s 1) 1), VS 3 6 1, VS 4 7 0]) (.ret))))), [.t 3, .t 4]⟩
noncomputable def t_48 : List (Nat × Ctr) := [(42, c_20), (47, c_46), (46, c_47)]
theorem lk_48_42 : look t_48 42 = some c_20 := rfl
theorem lk_48_47 : look t_48 47 = some c_46 := rfl
theorem lk_48_46 : look t_48 46 = some c_47 := rfl
noncomputable def c_48 : Ctr := mkZ t_48 ir10 [.bor, .bor, .bor]
theorem s_48 : Sound Try.prog 10 c_48 := mkZ_sound _ (snd_cons s_20 (snd_cons s_46 (snd_cons s_47 snd_nil))) (by kernel_rfl : chkFn Try.prog 10 ir10 ir10_v = true)
theorem M_48 : c_48.modes = [.bor, .bor, .bor] := rfl
theorem Fl_48 : c_48.flat = false := rfl
attribute [go_sem] M_48 Fl_48
attribute [go_sem] lk_48_42 lk_48_47 lk_48_46
def E_48_l1 (from_ : Int) (to_ : Int) (t20 : List Volume) (t21 : Int) : ((List Window) × Int) → St
 | (have_, t22) => ⟨[.any, .int .i64 from_, .int .i64 to_, .any, .any, .any, .own 3200000, .any, .sl 5 (List.map Volume_av t20), .int .i64 t21, .int .i64 t22, .any], [], [(3200000, ⟨2, List.map Window_av have_⟩)], true⟩
def R_48_l1 (from_ : Int) (to_ : Int) (t20 : List Volume) (t21 : Int) (y : (List Window)) : Res := (.exit 0, ⟨[.any, .int .i64 from_, .int .i64 to_, .any, .any, .any, .own 3200000, .any, .any, .any, .any, .any], [], [(3200000, ⟨2, List.map Window_av y⟩)], true⟩)
theorem impl_GapsOfArchive_l1_ex {from_ : Int} {to_ : Int} {t20 : List Volume} {t21 : Int} {sgm_ : (List Window) × Int} {rho_ : (List Window)} (h : whileE (impl_GapsOfArchive_l1 from_ to_ t20 t21) sgm_ = some rho_) : ∃ L0, ∀ L, L0 ≤ L → iter (exec (look t_48) L ir10_b0) ir10_k0 ir10_o0 ir10_r0 L (E_48_l1 from_ to_ t20 t21 sgm_) = R_48_l1 from_ to_ t20 t21 rho_ := by
 refine loop_ex (E := E_48_l1 from_ to_ t20 t21) (R := R_48_l1 from_ to_ t20 t21) (fun y => by first | (intro c; cases c) | (rcases y with y | y <;> (intro c; cases c)) | (rcases y with y | y | y <;> (intro c; cases c))) ?_ h
 clear h
 rintro ⟨have_, t22⟩ o_ h
 dsimp only [impl_GapsOfArchive_l1] at h
 rcases it_some h with ⟨z3, h⟩ | ⟨z3, h⟩
 ·try simp only [go_sem, n1, n2, n3, n4] at z3
  all_goals
  obtain ⟨z4, h⟩ := ck_some h
  have lz4 := ix_lt z4
  have xz4 := getD_mapD Volume_av t20 lz4
  try simp only [go_sem] at lz4
  try simp only [go_sem] at xz4
  try simp only [go_sem, n1, n2, n3, n4, z3] at z4
  all_goals
  rcases it_some h with ⟨z5, h⟩ | ⟨z5, h⟩
  ·try simp only [go_sem, n1, n2, n3, n4, z3, z4] at z5
   all_goals
   obtain ⟨z6, h⟩ := ck_some h
   try simp only [go_sem, n1, n2, n3, n4, z3, z4, z5] at z6
   all_goals
   obtain rfl := so_some h
   refine ⟨0, fun L hL => ?_⟩
   simp only [go_sem, ir10, E_48_l1, R_48_l1, ir10_b0, ir10_k0, ir10_o0, ir10_r0, z3, z4, lz4, xz4, z5, z6]
  ·try simp only [go_sem, n1, n2, n3, n4, z3, z4] at z5
   all_goals
   obtain rfl := so_some h
   refine ⟨0, fun L hL => ?_⟩
   simp only [go_sem, ir10, E_48_l1, R_48_l1, ir10_b0, ir10_k0, ir10_o0, ir10_r0, z3, z4, lz4, xz4, z5]
 ·try simp only [go_sem, n1, n2, n3, n4] at z3
  all_goals
  obtain rfl := so_some h
  refine ⟨0, fun L hL => ?_⟩
  simp only [go_sem, ir10, E_48_l1, R_48_l1, ir10_b0, ir10_k0, ir10_o0, ir10_r0, z3]

theorem Fs_48 {list : List Volume} {from_ : Int} {to_ : Int} {y_ : (List Window) × Int} (h : impl_GapsOfArchive list from_ to_ = some y_) : c_48.F [.sl 5 (List.map Volume_av list), .int .i64 from_, .int .i64 to_] = ⟨true, .tup [.sl 2 (List.map Window_av y_.1), .int .i64 y_.2], [.any, .any, .any]⟩ := by
 refine mkZ_E ?_
 dsimp only [impl_GapsOfArchive] at h
 obtain ⟨y_1, z1, h⟩ := bd_some h
 have fz1 := Fs_20 z1
 try simp only [go_sem] at fz1
 rcases it_some h with ⟨z2, h⟩ | ⟨z2, h⟩
 ·try simp only [go_sem, n1, n2, n3, n4] at z2
  all_goals
  obtain rfl := so_some h
  refine ⟨0, fun L hL => ?_⟩
  simp only [go_sem, ir10, E_48_l1, R_48_l1, ir10_k0, ir10_o0, ir10_r0, fz1, z2]
 ·try simp only [go_sem, n1, n2, n3, n4] at z2
  all_goals
  obtain ⟨y_7, z7, h⟩ := bd_some h
  obtain ⟨Lz7, ez7⟩ := impl_GapsOfArchive_l1_ex z7
  obtain ⟨y_8, z8, h⟩ := bd_some h
  have fz8 := Fs_46 z8
  try simp only [go_sem, z2] at fz8
  obtain ⟨y_9, z9, h⟩ := bd_some h
  have fz9 := Fs_47 z9
  try simp only [go_sem, z2] at fz9
  obtain rfl := so_some h
  refine ⟨Lz7, fun L hL => ?_⟩
  have ez7 := ez7 L (by omega)
  try simp only [go_sem, E_48_l1, R_48_l1, ir10_k0, ir10_o0, ir10_r0, z2] at ez7
  simp only [go_sem, ir10, E_48_l1, R_48_l1, ir10_k0, ir10_o0, ir10_r0, fz1, z2, fz8, fz9, ez7]


def ir48_v : List Nat := [0, 1, 4]
def ir48 : AFn := ⟨2, 3, .seq (.region false [ VO 2 4 (.mov (I6 0))]) (.seq (.test false [ PM 5 0, PM 6 1, PO 7 (.bin false .lss (.s 1) (.s 0))] (.s 0) (.seq (.region false [ PM 8 0, VS 2 4 0]) (.ret)) (.skip)) (.seq (.region false [ PM 9 1, VS 2 4 0]) (.ret))), [.t 2]⟩
noncomputable def t_49 : List (Nat × Ctr) := []
noncomputable def c_49 : Ctr := mkF t_49 ir48 [.bor, .bor]
theorem s_49 : Sound Try.prog 48 c_49 := mkF_sound _ rfl snd_nil (by kernel_rfl : chkFn Try.prog 48 ir48 ir48_v = true)
theorem M_49 : c_49.modes = [.bor, .bor] := rfl
theorem Fl_49 : c_49.flat = true := rfl
attribute [go_sem] M_49 Fl_49
theorem Fs_49 {a : Int} {b : Int} {y_ : Int} (h : spec_l00Min a b = some y_) : c_49.F [.int .i64 a, .int .i64 b] = ⟨true, .int .i64 y_, [.any, .any]⟩ := by
 refine mkF_E rfl ?_
 dsimp only [spec_l00Min] at h
 rcases it_some h with ⟨z1, h⟩ | ⟨z1, h⟩
 ·try simp only [go_sem, n1, n2, n3, n4] at z1
  all_goals
  obtain rfl := so_some h
  refine ⟨0, fun L hL => ?_⟩
  simp only [go_sem, ir48, z1]
 ·try simp only [go_sem, n1, n2, n3, n4] at z1
  all_goals
  obtain rfl := so_some h
  refine ⟨0, fun L hL => ?_⟩
  simp only [go_sem, ir48, z1]


end Go.Proofs.Ytikaacjlnkfebaa
