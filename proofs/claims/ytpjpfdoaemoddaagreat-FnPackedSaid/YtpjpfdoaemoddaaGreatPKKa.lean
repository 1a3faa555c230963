/- Codes and contracts of the functions that PK reaches, and that their typed forms say what they do. No condition. -/
import Derived.Test.YtpjpfdoaemoddaaGreatPKT
import Derived.Test.YtpjpfdoaemoddaaGreatEngSG
import Derived.Test.YtpjpfdoaemoddaaGreatRows
import Derived.WalkKit
namespace Go.Proofs.YtpjpfdoaemoddaaGreat
open Go Go.RowKit
set_option linter.unusedVariables false
set_option linter.unusedSimpArgs false
set_option maxRecDepth 10000

def ir4_v : List Nat := [0, 2]
def ir4 : AFn := ⟨1, 2, .seq (.region false [ VO 1 2 (.mov (.c (.bool false)))]) (.seq (.region false [ PM 3 0, PO 4 (.len false (.s 0)), PO 5 (.bin false .gtr (.s 0) (I6 4096)), VS 1 2 0]) (.ret)), [.t 1]⟩
noncomputable def t_0 : List (Nat × Ctr) := []
noncomputable def c_0 : Ctr := mkF t_0 ir4 [.bor]
theorem s_0 : Sound Tryz.prog 4 c_0 := mkF_sound _ rfl snd_nil (by kernel_rfl : chkFn Tryz.prog 4 ir4 ir4_v = true)
theorem M_0 : c_0.modes = [.bor] := rfl
theorem Fl_0 : c_0.flat = true := rfl
attribute [go_sem] M_0 Fl_0
theorem Fs_0 {code : List UInt8} {y_ : Bool} (h : laws_f6big code = some y_) : c_0.F [.sl 1 (List.map byteAV code)] = ⟨true, .bool y_, [.any]⟩ := by
 refine mkF_E rfl ?_
 dsimp only [laws_f6big] at h
 obtain rfl := so_some h
 refine ⟨0, fun L hL => ?_⟩
 simp only [go_sem, ir4]


def ir23_v : List Nat := [0, 2]
def ir23 : AFn := ⟨1, 2, .seq (.region false [ VO 1 2 (.mov (.c (.cv (.pointer none))))]) (.seq (.region false [ PM 3 0, PO 4 (.build [.sl 1 [], .int .i64 (0), .int .u64 (0)] [(0, 1, (.s 0))]), PO 5 (.box (.s 0)), VS 1 2 0]) (.ret)), [.t 1]⟩
noncomputable def t_1 : List (Nat × Ctr) := []
noncomputable def c_1 : Ctr := mkN t_1 ir23 [.bor]
theorem s_1 : Sound Tryz.prog 23 c_1 := mkN_sound _ snd_nil (by kernel_rfl : chkFn Tryz.prog 23 ir23 ir23_v = true)
theorem M_1 : c_1.modes = [.bor] := rfl
theorem Fl_1 : c_1.flat = false := rfl
attribute [go_sem] M_1 Fl_1
theorem Fs_1 {code : List UInt8} {y_ : L00Src} (h : spec_l00From code = some y_) : c_1.F [.sl 1 (List.map byteAV code)] = ⟨true, .mem 3 [L00Src_av y_] 0, [.any]⟩ := by
 refine mkN_E ?_
 dsimp only [spec_l00From] at h
 obtain rfl := so_some h
 refine ⟨0, fun L hL => ?_⟩
 simp only [go_sem, ir23]


def ir89_v : List Nat := [0, 2, 3]
def ir89 : AFn := ⟨1, 3, .seq (.region false [ VO 1 2 (.mov (I6 0))]) (.seq (.region false [ VO 2 3 (.mov (I6 0))]) (.seq (.anyo 10 [ SO 0 4 (.mov (.v 0)), SO 1 5 (.nilck (.s 0)), SO 2 6 (.fldAddr 1 (.s 1)), SO 3 7 (.load false 1 (.s 2)), SO 4 8 (.mov (.v 0)), SO 5 9 (.nilck (.s 4)), SO 6 10 (.fldAddr 0 (.s 5)), SO 7 11 (.load false 1 (.s 6)), SO 8 12 (.len false (.s 7)), SO 9 13 (.bin false .lss (.s 3) (.s 8))] [] (.cond (.s 9) (.anyo 11 [ SO 0 14 (.mov (.v 0)), SO 1 15 (.nilck (.s 0)), SO 2 16 (.fldAddr 0 (.s 1)), SO 3 17 (.load false 1 (.s 2)), SO 4 18 (.mov (.v 0)), SO 5 19 (.nilck (.s 4)),
 SO 6 20 (.fldAddr 1 (.s 5)), SO 7 21 (.load false 1 (.s 6)), SO 8 22 (.ixAddr 1 (.s 3) (.s 7)), SO 9 23 (.load false 1 (.s 8)), SO 10 24 (.conv .i64 (.s 9)), VS 2 3 10] [] .skip) (.skip))) (.seq (.region false [ PM 25 0, PO 26 (.nilck (.s 0)), PO 27 (.fldAddr 1 (.s 0)), PO 28 (.load false 1 (.s 0)), PO 29 (.bin false .add (.s 0) (I6 1)), PO 30 (.nilck (.s 4)), PO 31 (.fldAddr 1 (.s 0)), ⟨.no, 0, none, .store 1 (.s 0) (.s 2)⟩]) (.seq (.region false [ PM 32 0, PM 33 0, PO 34 (.nilck (.s 0)), PO 35 (.fldAddr 2 (.s 0)), PO 36 (.load false 1 (.s 0)), PO 37 (.bin false .mul (.s 0) (.c (.int .u64
 (6364136223846793005)))), PM 38 2, PO 39 (.conv .u64 (.s 0)), PO 40 (.bin false .add (.s 2) (.s 0)), PO 41 (.bin false .add (.s 0) (.c (.int .u64 (1442695040888963407)))), PO 42 (.nilck (.s 9)), PO 43 (.fldAddr 2 (.s 0)), ⟨.no, 0, none, .store 1 (.s 0) (.s 2)⟩]) (.seq (.anyo 10 [ SO 0 44 (.mov (.v 0)), SO 1 45 (.nilck (.s 0)), SO 2 46 (.fldAddr 1 (.s 1)), SO 3 47 (.load false 1 (.s 2)), SO 4 48 (.mov (.v 0)), SO 5 49 (.nilck (.s 4)), SO 6 50 (.fldAddr 0 (.s 5)), SO 7 51 (.load false 1 (.s 6)), SO 8 52 (.len false (.s 7)), SO 9 53 (.bin false .leq (.s 3) (.s 8))] [] (.cond (.s 9) (.seq (.region
 false [ PM 54 2, VS 1 2 0]) (.ret)) (.skip))) (.seq (.region false [ PM 55 0, PO 56 (.nilck (.s 0)), PO 57 (.fldAddr 2 (.s 0)), PO 58 (.load false 1 (.s 0)), PO 59 (.bin false .shr (.s 0) (.c (.int .u64 (40)))), PO 60 (.bin false .and (.s 0) (.c (.int .u64 (255)))), PO 61 (.conv .i64 (.s 0)), VS 1 2 0]) (.ret))))))), [.t 1]⟩
noncomputable def t_2 : List (Nat × Ctr) := []
noncomputable def c_2 : Ctr := mkN t_2 ir89 [.io]
theorem s_2 : Sound Tryz.prog 89 c_2 := mkN_sound _ snd_nil (by kernel_rfl : chkFn Tryz.prog 89 ir89 ir89_v = true)
theorem M_2 : c_2.modes = [.io] := rfl
theorem Fl_2 : c_2.flat = false := rfl
attribute [go_sem] M_2 Fl_2
theorem Fs_2 {s_ : L00Src} {y_ : Int × L00Src} (h : spec_l00Src_next s_ = some y_) : c_2.F [.mem 3 [L00Src_av s_] 0] = ⟨true, .int .i64 y_.1, [.mem 3 [L00Src_av y_.2] 0]⟩ := by
 refine mkN_E ?_
 dsimp only [spec_l00Src_next] at h
 rcases it_some h with ⟨z1, h⟩ | ⟨z1, h⟩
 ·try simp only [go_sem, n1, n2, n3, n4] at z1
  all_goals
  obtain ⟨z2, h⟩ := ck_some h
  have lz2 := ix_lt z2
  have xz2 := getD_mapD byteAV s_.code_ lz2
  try simp only [go_sem] at lz2
  try simp only [go_sem] at xz2
  try simp only [go_sem, n1, n2, n3, n4, z1] at z2
  all_goals
  rcases it_some h with ⟨z3, h⟩ | ⟨z3, h⟩
  ·try simp only [go_sem, n1, n2, n3, n4, z1, z2] at z3
   all_goals
   obtain rfl := so_some h
   refine ⟨0, fun L hL => ?_⟩
   simp only [go_sem, ir89, z1, z2, lz2, xz2, z3]
  ·try simp only [go_sem, n1, n2, n3, n4, z1, z2] at z3
   all_goals
   obtain ⟨z4, h⟩ := ck_some h
   try simp only [go_sem, n1, n2, n3, n4, z1, z2, z3] at z4
   all_goals
   obtain rfl := so_some h
   refine ⟨0, fun L hL => ?_⟩
   simp only [go_sem, ir89, z1, z2, lz2, xz2, z3, z4]
 ·try simp only [go_sem, n1, n2, n3, n4] at z1
  all_goals
  rcases it_some h with ⟨z5, h⟩ | ⟨z5, h⟩
  ·try simp only [go_sem, n1, n2, n3, n4, z1] at z5
   all_goals
   obtain rfl := so_some h
   refine ⟨0, fun L hL => ?_⟩
   simp only [go_sem, ir89, z1, z5]
  ·try simp only [go_sem, n1, n2, n3, n4, z1] at z5
   all_goals
   obtain ⟨z6, h⟩ := ck_some h
   try simp only [go_sem, n1, n2, n3, n4, z1, z5] at z6
   all_goals
   obtain rfl := so_some h
   refine ⟨0, fun L hL => ?_⟩
   simp only [go_sem, ir89, z1, z5, z6]


def ir58_v : List Nat := [0, 1, 4, 5]
def ir58 : AFn := ⟨2, 4, .seq (.region false [ VO 2 4 (.mov (I6 0))]) (.seq (.test false [ PM 6 1, PO 7 (.bin false .leq (.s 0) (I6 1))] (.s 0) (.seq (.region false [ VO 2 4 (.mov (I6 0))]) (.ret)) (.skip)) (.seq (.region false [ PM 8 0, PO 9 (.call 89 [(.s 0)]), VS 3 5 0]) (.seq (.test false [ PM 10 1, PO 11 (.bin false .gtr (.s 0) (I6 200))] (.s 0) (.region false [ PM 12 3, PO 13 (.bin false .mul (.s 0) (I6 256)), PM 14 0, PO 15 (.call 89 [(.s 0)]), PO 16 (.bin false .add (.s 2) (.s 0)), VS 3 5 0]) (.skip)) (.seq (.region false [ PM 17 3, PM 18 1, PO 19 (.bin false .rem (.s 1) (.s 0)), VS 2 4
 0]) (.ret))))), [.t 2]⟩
noncomputable def t_3 : List (Nat × Ctr) := [(89, c_2)]
theorem lk_3_89 : look t_3 89 = some c_2 := rfl
noncomputable def c_3 : Ctr := mkN t_3 ir58 [.io, .bor]
theorem s_3 : Sound Tryz.prog 58 c_3 := mkN_sound _ (snd_cons s_2 snd_nil) (by kernel_rfl : chkFn Tryz.prog 58 ir58 ir58_v = true)
theorem M_3 : c_3.modes = [.io, .bor] := rfl
theorem Fl_3 : c_3.flat = false := rfl
attribute [go_sem] M_3 Fl_3
attribute [go_sem] lk_3_89
theorem Fs_3 {s_ : L00Src} {n : Int} {y_ : Int × L00Src} (h : spec_l00Src_pick s_ n = some y_) : c_3.F [.mem 3 [L00Src_av s_] 0, .int .i64 n] = ⟨true, .int .i64 y_.1, [.mem 3 [L00Src_av y_.2] 0, .any]⟩ := by
 refine mkN_E ?_
 dsimp only [spec_l00Src_pick] at h
 rcases it_some h with ⟨z1, h⟩ | ⟨z1, h⟩
 ·try simp only [go_sem, n1, n2, n3, n4] at z1
  all_goals
  obtain rfl := so_some h
  refine ⟨0, fun L hL => ?_⟩
  simp only [go_sem, ir58, z1]
 ·try simp only [go_sem, n1, n2, n3, n4] at z1
  all_goals
  obtain ⟨y_2, z2, h⟩ := bd_some h
  have fz2 := Fs_2 z2
  try simp only [go_sem, z1] at fz2
  rcases it_some h with ⟨z3, h⟩ | ⟨z3, h⟩
  ·try simp only [go_sem, n1, n2, n3, n4, z1] at z3
   all_goals
   obtain ⟨y_4, z4, h⟩ := bd_some h
   have fz4 := Fs_2 z4
   try simp only [go_sem, z1, z3] at fz4
   obtain ⟨z5, h⟩ := ck_some h
   try simp only [go_sem, n1, n2, n3, n4, z1, z3] at z5
   all_goals
   obtain rfl := so_some h
   refine ⟨0, fun L hL => ?_⟩
   simp only [go_sem, ir58, z1, fz2, z3, fz4, z5]
  ·try simp only [go_sem, n1, n2, n3, n4, z1] at z3
   all_goals
   obtain ⟨z6, h⟩ := ck_some h
   try simp only [go_sem, n1, n2, n3, n4, z1, z3] at z6
   all_goals
   obtain rfl := so_some h
   refine ⟨0, fun L hL => ?_⟩
   simp only [go_sem, ir58, z1, fz2, z3, z6]


def ir42_v : List Nat := [0, 1, 4]
def ir42 : AFn := ⟨2, 3, .seq (.region false [ VO 2 4 (.mov (.c (.bool false)))]) (.seq (.region false [ PM 5 0, PM 6 1, PO 7 (.call 58 [(.s 1), (.s 0)]), PO 8 (.bin false .eql (.s 0) (I6 0)), VS 2 4 0]) (.ret)), [.t 2]⟩
noncomputable def t_4 : List (Nat × Ctr) := [(58, c_3)]
theorem lk_4_58 : look t_4 58 = some c_3 := rfl
noncomputable def c_4 : Ctr := mkN t_4 ir42 [.io, .bor]
theorem s_4 : Sound Tryz.prog 42 c_4 := mkN_sound _ (snd_cons s_3 snd_nil) (by kernel_rfl : chkFn Tryz.prog 42 ir42 ir42_v = true)
theorem M_4 : c_4.modes = [.io, .bor] := rfl
theorem Fl_4 : c_4.flat = false := rfl
attribute [go_sem] M_4 Fl_4
attribute [go_sem] lk_4_58
theorem Fs_4 {s_ : L00Src} {n : Int} {y_ : Bool × L00Src} (h : spec_l00Src_one s_ n = some y_) : c_4.F [.mem 3 [L00Src_av s_] 0, .int .i64 n] = ⟨true, .bool y_.1, [.mem 3 [L00Src_av y_.2] 0, .any]⟩ := by
 refine mkN_E ?_
 dsimp only [spec_l00Src_one] at h
 obtain ⟨y_1, z1, h⟩ := bd_some h
 have fz1 := Fs_3 z1
 try simp only [go_sem] at fz1
 obtain rfl := so_some h
 refine ⟨0, fun L hL => ?_⟩
 simp only [go_sem, ir42, fz1]


def ir90_v : List Nat := [0, 1, 4]
def ir90 : AFn := ⟨2, 3, .seq (.region false [ VO 2 4 (.mov (.c (.str [])))]) (.seq (.region false [ PM 5 1, PM 6 0, PM 7 1, PO 8 (.len false (.s 0)), PO 9 (.call 58 [(.s 2), (.s 0)]), PO 10 (.ixAddr 1 (.s 4) (.s 0)), PO 11 (.load false 1 (.s 0)), VS 2 4 0]) (.ret)), [.t 2]⟩
noncomputable def t_5 : List (Nat × Ctr) := [(58, c_3)]
theorem lk_5_58 : look t_5 58 = some c_3 := rfl
noncomputable def c_5 : Ctr := mkN t_5 ir90 [.io, .bor]
theorem s_5 : Sound Tryz.prog 90 c_5 := mkN_sound _ (snd_cons s_3 snd_nil) (by kernel_rfl : chkFn Tryz.prog 90 ir90 ir90_v = true)
theorem M_5 : c_5.modes = [.io, .bor] := rfl
theorem Fl_5 : c_5.flat = false := rfl
attribute [go_sem] M_5 Fl_5
attribute [go_sem] lk_5_58
theorem Fs_5 {s_ : L00Src} {list : List (List UInt8)} {y_ : (List UInt8) × L00Src} (h : spec_l00Src_text s_ list = some y_) : c_5.F [.mem 3 [L00Src_av s_] 0, .sl 1 (List.map AV.str list)] = ⟨true, .str y_.1, [.mem 3 [L00Src_av y_.2] 0, .any]⟩ := by
 refine mkN_E ?_
 dsimp only [spec_l00Src_text] at h
 obtain ⟨y_1, z1, h⟩ := bd_some h
 have fz1 := Fs_3 z1
 try simp only [go_sem] at fz1
 obtain ⟨z2, h⟩ := ck_some h
 have lz2 := ix_lt z2
 have xz2 := getD_mapD AV.str list lz2
 try simp only [go_sem] at lz2
 try simp only [go_sem] at xz2
 try simp only [go_sem, n1, n2, n3, n4] at z2
 all_goals
 obtain rfl := so_some h
 refine ⟨0, fun L hL => ?_⟩
 simp only [go_sem, ir90, fz1, z2, lz2, xz2]


def ir82_v : List Nat := [0, 2, 3]
def ir82 : AFn := ⟨1, 3, .seq (.region false [ VO 1 2 (.alloc (.agg [.int .i64 (0), .str [], .str [], .int .i64 (0), .bool false]))]) (.seq (.region false [ PM 4 0, PO 5 (.call 58 [(.s 0), (I6 30)]), PO 6 (.bin false .mul (I6 1000) (.s 0)), PO 7 (.build [.int .i64 (0), .str [], .str [], .int .i64 (0), .bool false] [(0, 1, (.s 0))]), VO 2 3 (.alloc (.agg [.int .i64 (0), .str [], .str [], .int .i64 (0), .bool false])), ⟨.no, 0, none, .store 5 (.v 2) (.s 0)⟩]) (.seq (.test false [ PM 8 0, PO 9 (.call 42 [(.s 0), (I6 2)])] (.s 0) (.anyo 6 [ SO 0 10 (.fldAddr 0 (.v 2)), SO 1 11 (.load false 1 (.s
 0)), SO 2 12 (.mov (.v 0)), SO 3 13 (.call 58 [(.s 2), (I6 3000)]), SO 4 14 (.bin false .add (.s 1) (.s 3)), SO 5 15 (.fldAddr 0 (.v 2)), ⟨.no, 0, none, .store 1 (.s 5) (.s 4)⟩] [[2, 0, 1, 3, 4, 5, 6], [2, 0, 3, 1, 4, 5, 6], [2, 3, 0, 1, 4, 5, 6]] .skip) (.skip)) (.seq (.region false [ PM 16 0, PO 17 (.mkSl 1 (.str []) 3 [(0, (.c (.str [109, 105, 114, 97]))), (1, (.c (.str [114, 114, 45, 108, 121, 114]))), (2, (.c (.str [115, 115, 45, 99, 121, 103])))]), PO 18 (.call 90 [(.s 1), (.s 0)]), PO 19 (.fldAddr 1 (.v 2)), ⟨.no, 0, none, .store 1 (.s 0) (.s 1)⟩]) (.seq (.region false [ PM 20 0, PO 21
 (.mkSl 1 (.str []) 3 [(0, (.c (.str [97, 98]))), (1, (.c (.str [99, 100]))), (2, (.c (.str [101])))]), PO 22 (.call 90 [(.s 1), (.s 0)]), PO 23 (.fldAddr 2 (.v 2)), ⟨.no, 0, none, .store 1 (.s 0) (.s 1)⟩]) (.seq (.region false [ PM 24 0, PO 25 (.call 58 [(.s 0), (I6 60)]), PO 26 (.bin false .mul (I6 50) (.s 0)), PO 27 (.bin false .add (I6 8000) (.s 0)), PO 28 (.fldAddr 3 (.v 2)), ⟨.no, 0, none, .store 1 (.s 0) (.s 1)⟩]) (.seq (.region false [ PM 29 0, PO 30 (.call 42 [(.s 0), (I6 5)]), PO 31 (.fldAddr 4 (.v 2)), ⟨.no, 0, none, .store 1 (.s 0) (.s 1)⟩]) (.seq (.region false [ PO 32 (.load true
 5 (.v 2)), ⟨.no, 0, none, .store 5 (.v 1) (.s 0)⟩]) (.ret)))))))), [.cell true 5 1]⟩
noncomputable def t_6 : List (Nat × Ctr) := [(58, c_3), (42, c_4), (90, c_5)]
theorem lk_6_58 : look t_6 58 = some c_3 := rfl
theorem lk_6_42 : look t_6 42 = some c_4 := rfl
theorem lk_6_90 : look t_6 90 = some c_5 := rfl
noncomputable def c_6 : Ctr := mkN t_6 ir82 [.io]
theorem s_6 : Sound Tryz.prog 82 c_6 := mkN_sound _ (snd_cons s_3 (snd_cons s_4 (snd_cons s_5 snd_nil))) (by kernel_rfl : chkFn Tryz.prog 82 ir82 ir82_v = true)
theorem M_6 : c_6.modes = [.io] := rfl
theorem Fl_6 : c_6.flat = false := rfl
attribute [go_sem] M_6 Fl_6
attribute [go_sem] lk_6_58 lk_6_42 lk_6_90
theorem Fs_6 {s_ : L00Src} {y_ : Estimate × L00Src} (h : spec_l06New s_ = some y_) : c_6.F [.mem 3 [L00Src_av s_] 0] = ⟨true, Estimate_av y_.1, [.mem 3 [L00Src_av y_.2] 0]⟩ := by
 refine mkN_E ?_
 dsimp only [spec_l06New] at h
 obtain ⟨y_1, z1, h⟩ := bd_some h
 have fz1 := Fs_3 z1
 try simp only [go_sem] at fz1
 obtain ⟨y_2, z2, h⟩ := bd_some h
 have fz2 := Fs_4 z2
 try simp only [go_sem] at fz2
 rcases it_some h with ⟨z3, h⟩ | ⟨z3, h⟩
 ·try simp only [go_sem, n1, n2, n3, n4] at z3
  all_goals
  obtain ⟨y_4, z4, h⟩ := bd_some h
  have fz4 := Fs_3 z4
  try simp only [go_sem, z3] at fz4
  obtain ⟨y_5, z5, h⟩ := bd_some h
  have fz5 := Fs_5 z5
  try simp only [go_sem, z3] at fz5
  obtain ⟨y_6, z6, h⟩ := bd_some h
  have fz6 := Fs_5 z6
  try simp only [go_sem, z3] at fz6
  obtain ⟨y_7, z7, h⟩ := bd_some h
  have fz7 := Fs_3 z7
  try simp only [go_sem, z3] at fz7
  obtain ⟨y_8, z8, h⟩ := bd_some h
  have fz8 := Fs_4 z8
  try simp only [go_sem, z3] at fz8
  obtain rfl := so_some h
  refine ⟨0, fun L hL => ?_⟩
  simp only [go_sem, ir82, fz1, fz2, z3, fz4, fz5, fz6, fz7, fz8]
 ·try simp only [go_sem, n1, n2, n3, n4] at z3
  all_goals
  obtain ⟨y_9, z9, h⟩ := bd_some h
  have fz9 := Fs_5 z9
  try simp only [go_sem, z3] at fz9
  obtain ⟨y_10, z10, h⟩ := bd_some h
  have fz10 := Fs_5 z10
  try simp only [go_sem, z3] at fz10
  obtain ⟨y_11, z11, h⟩ := bd_some h
  have fz11 := Fs_3 z11
  try simp only [go_sem, z3] at fz11
  obtain ⟨y_12, z12, h⟩ := bd_some h
  have fz12 := Fs_4 z12
  try simp only [go_sem, z3] at fz12
  obtain rfl := so_some h
  refine ⟨0, fun L hL => ?_⟩
  simp only [go_sem, ir82, fz1, fz2, z3, fz9, fz10, fz11, fz12]


def ir70_v : List Nat := [0, 1, 4]
def ir70 : AFn := ⟨2, 3, .seq (.region false [ VO 2 4 (.mov (.c (.bool false)))]) (.seq (.anyo 9 [ SO 0 5 (.mov (.v 0)), SO 1 6 (.nilck (.s 0)), SO 2 7 (.fldAddr 0 (.s 1)), SO 3 8 (.load false 1 (.s 2)), SO 4 9 (.mov (.v 1)), SO 5 10 (.nilck (.s 4)), SO 6 11 (.fldAddr 0 (.s 5)), SO 7 12 (.load false 1 (.s 6)), SO 8 13 (.bin false .neq (.s 3) (.s 7))] [] (.cond (.s 8) (.seq (.anyo 9 [ SO 0 14 (.mov (.v 0)), SO 1 15 (.nilck (.s 0)), SO 2 16 (.fldAddr 0 (.s 1)), SO 3 17 (.load false 1 (.s 2)), SO 4 18 (.mov (.v 1)), SO 5 19 (.nilck (.s 4)), SO 6 20 (.fldAddr 0 (.s 5)), SO 7 21 (.load false 1 (.s
 6)), SO 8 22 (.bin false .lss (.s 3) (.s 7)), VS 2 4 8] [] .skip) (.ret)) (.skip))) (.seq (.anyo 9 [ SO 0 23 (.mov (.v 0)), SO 1 24 (.nilck (.s 0)), SO 2 25 (.fldAddr 1 (.s 1)), SO 3 26 (.load false 1 (.s 2)), SO 4 27 (.mov (.v 1)), SO 5 28 (.nilck (.s 4)), SO 6 29 (.fldAddr 1 (.s 5)), SO 7 30 (.load false 1 (.s 6)), SO 8 31 (.bin false .neq (.s 3) (.s 7))] [] (.cond (.s 8) (.seq (.anyo 9 [ SO 0 32 (.mov (.v 0)), SO 1 33 (.nilck (.s 0)), SO 2 34 (.fldAddr 1 (.s 1)), SO 3 35 (.load false 1 (.s 2)), SO 4 36 (.mov (.v 1)), SO 5 37 (.nilck (.s 4)), SO 6 38 (.fldAddr 1 (.s 5)), SO 7 39 (.load false
 1 (.s 6)), SO 8 40 (.bin false .lss (.s 3) (.s 7)), VS 2 4 8] [] .skip) (.ret)) (.skip))) (.seq (.anyo 9 [ SO 0 41 (.mov (.v 0)), SO 1 42 (.nilck (.s 0)), SO 2 43 (.fldAddr 2 (.s 1)), SO 3 44 (.load false 1 (.s 2)), SO 4 45 (.mov (.v 1)), SO 5 46 (.nilck (.s 4)), SO 6 47 (.fldAddr 2 (.s 5)), SO 7 48 (.load false 1 (.s 6)), SO 8 49 (.bin false .lss (.s 3) (.s 7)), VS 2 4 8] [] .skip) (.ret)))), [.t 2]⟩
noncomputable def t_7 : List (Nat × Ctr) := []
noncomputable def c_7 : Ctr := mkF t_7 ir70 [.bor, .bor]
theorem s_7 : Sound Tryz.prog 70 c_7 := mkF_sound _ rfl snd_nil (by kernel_rfl : chkFn Tryz.prog 70 ir70 ir70_v = true)
theorem M_7 : c_7.modes = [.bor, .bor] := rfl
theorem Fl_7 : c_7.flat = true := rfl
attribute [go_sem] M_7 Fl_7
theorem Fs_7 {a : Estimate} {b : Estimate} {y_ : Bool} (h : spec_l06Before a b = some y_) : c_7.F [.ptr 5 [Estimate_av a] 0 0, .ptr 5 [Estimate_av b] 0 0] = ⟨true, .bool y_, [.any, .any]⟩ := by
 refine mkF_E rfl ?_
 dsimp only [spec_l06Before] at h
 rcases it_some h with ⟨z1, h⟩ | ⟨z1, h⟩
 ·try simp only [go_sem, n1, n2, n3, n4] at z1
  all_goals
  obtain rfl := so_some h
  refine ⟨0, fun L hL => ?_⟩
  simp only [go_sem, ir70, z1]
 ·try simp only [go_sem, n1, n2, n3, n4] at z1
  all_goals
  rcases it_some h with ⟨z2, h⟩ | ⟨z2, h⟩
  ·try simp only [go_sem, n1, n2, n3, n4, z1] at z2
   all_goals
   obtain rfl := so_some h
   refine ⟨0, fun L hL => ?_⟩
   simp only [go_sem, ir70, z1, z2]
  ·try simp only [go_sem, n1, n2, n3, n4, z1] at z2
   all_goals
   obtain rfl := so_some h
   refine ⟨0, fun L hL => ?_⟩
   simp only [go_sem, ir70, z1, z2]


def ir83_b0 : IR := .seq (.test false [ PM 6 3, PM 7 0, PO 8 (.len false (.s 0)), PO 9 (.bin false .lss (.s 2) (.s 0))] (.s 0) (.skip) (.exit 0)) (.seq (.block 1 (.test false [ PM 12 0, PM 13 3, PO 14 (.ixAddr 5 (.s 1) (.s 0)), PM 15 1, PO 16 (.call 70 [(.s 1), (.s 0)]), PO 17 (.un .not (.s 0)), PO 18 (.mov (.s 0)), ⟨.push, 19, (some ((.s 0), true)), .mov (.v 1)⟩, ⟨.push, 20, (some ((.s 1), true)), .mov (.v 0)⟩, ⟨.push, 21, (some ((.s 2), true)), .mov (.v 3)⟩, ⟨.push, 22, (some ((.s 3), true)), .ixAddr 5 (.s 1) (.s 0)⟩, ⟨.push, 23, (some ((.s 4), true)), .call 70 [(.s 3), (.s 0)]⟩, ⟨.push, 24,
 (some ((.s 5), true)), .un .not (.s 0)⟩, PO 25 (.pick (.s 6) (.s 0) (.c (.bool false)))] (.s 0) (.seq (.region false [ PM 26 3, VS 2 4 0]) (.ret)) (.skip))) (.region false [ PM 10 3, PO 11 (.bin false .add (.s 0) (I6 1)), VS 3 5 0]))
def ir83_k0 : List Bool := [true, true, false, true]
def ir83_o0 : List Bool := [false, false, false, false]
def ir83_r0 : List Bool := [false, false, true, false]
def ir83_v : List Nat := [0, 1, 4, 5]
def ir83 : AFn := ⟨2, 4, .seq (.region false [ VO 2 4 (.mov (I6 0))]) (.seq (.seq (.region false [ VO 3 5 (.mov (I6 0))]) (.block 0 (.loop ir83_k0 ir83_o0 ir83_r0 ir83_b0))) (.seq (.region false [ VO 2 4 (.mov (.c (.int .i64 (-1))))]) (.ret))), [.t 2]⟩
noncomputable def t_8 : List (Nat × Ctr) := [(70, c_7)]
theorem lk_8_70 : look t_8 70 = some c_7 := rfl
noncomputable def c_8 : Ctr := mkF t_8 ir83 [.bor, .bor]
theorem s_8 : Sound Tryz.prog 83 c_8 := mkF_sound _ rfl (snd_cons s_7 snd_nil) (by kernel_rfl : chkFn Tryz.prog 83 ir83 ir83_v = true)
theorem M_8 : c_8.modes = [.bor, .bor] := rfl
theorem Fl_8 : c_8.flat = true := rfl
attribute [go_sem] M_8 Fl_8
attribute [go_sem] lk_8_70
def E_8_l1 (list : List Estimate) (e_ : Estimate) : Int → St
 | i => ⟨[.sl 5 (List.map Estimate_av list), .ptr 5 [Estimate_av e_] 0 0, .any, .int .i64 i], [], [], true⟩
def R_8_l1 (list : List Estimate) (e_ : Estimate) : (Unit ⊕ Int) → Res
 | .inl y => (.exit 0, ⟨[.any, .any, .any, .any], [], [], true⟩)
 | .inr y => (.ret, ⟨[.any, .any, .int .i64 y, .any], [], [], true⟩)
theorem spec_l06Find_l1_ex {list : List Estimate} {e_ : Estimate} {sgm_ : Int} {rho_ : Unit ⊕ Int} (h : whileE (spec_l06Find_l1 list e_) sgm_ = some rho_) : ∃ L0, ∀ L, L0 ≤ L → iter (exec (look t_8) L ir83_b0) ir83_k0 ir83_o0 ir83_r0 L (E_8_l1 list e_ sgm_) = R_8_l1 list e_ rho_ := by
 refine loop_ex (E := E_8_l1 list e_) (R := R_8_l1 list e_) (fun y => by first | (intro c; cases c) | (rcases y with y | y <;> (intro c; cases c)) | (rcases y with y | y | y <;> (intro c; cases c))) ?_ h
 clear h
 intro i o_ h
 dsimp only [spec_l06Find_l1] at h
 rcases it_some h with ⟨z1, h⟩ | ⟨z1, h⟩
 ·try simp only [go_sem, n1, n2, n3, n4] at z1
  all_goals
  obtain ⟨z2, h⟩ := ck_some h
  have lz2 := ix_lt z2
  have xz2 := getD_mapD Estimate_av list lz2
  try simp only [go_sem] at lz2
  try simp only [go_sem] at xz2
  try simp only [go_sem, n1, n2, n3, n4, z1] at z2
  all_goals
  obtain ⟨y_3, z3, h⟩ := bd_some h
  have fz3 := Fs_7 z3
  try simp only [go_sem, z1, z2] at fz3
  obtain ⟨z4, h⟩ := ck_some h
  rcases or_split z4 with ⟨gz4, z4⟩ | gz4
  ·try simp only [go_sem, n1, n2, n3, n4, z1, z2] at gz4
   all_goals
   obtain ⟨y_4, hz4⟩ := Option.isSome_iff_exists.1 z4
   have fz4 := Fs_7 hz4
   try simp only [go_sem, n1, n2, n3, n4, z1, z2, gz4] at hz4
   all_goals
   try simp only [go_sem, z1, z2, gz4] at fz4
   rcases it_some h with ⟨z5, h⟩ | ⟨z5, h⟩
   ·try simp only [go_sem, n1, n2, n3, n4, z1, z2, gz4, hz4] at z5
    all_goals
    obtain rfl := so_some h
    refine ⟨0, fun L hL => ?_⟩
    simp only [go_sem, ir83, E_8_l1, R_8_l1, ir83_b0, ir83_k0, ir83_o0, ir83_r0, z1, z2, lz2, xz2, fz3, gz4, hz4, fz4, z5]
   ·try simp only [go_sem, n1, n2, n3, n4, z1, z2, gz4, hz4] at z5
    all_goals
    obtain rfl := so_some h
    refine ⟨0, fun L hL => ?_⟩
    simp only [go_sem, ir83, E_8_l1, R_8_l1, ir83_b0, ir83_k0, ir83_o0, ir83_r0, z1, z2, lz2, xz2, fz3, gz4, hz4, fz4, z5]
  ·have gz4n := no_f gz4
   try simp only [go_sem, n1, n2, n3, n4, z1, z2] at gz4n
   all_goals
   rcases it_some h with ⟨z5, h⟩ | ⟨z5, h⟩
   ·try simp only [go_sem, n1, n2, n3, n4, z1, z2, gz4n] at z5
    all_goals
    (simp_all)
   ·try simp only [go_sem, n1, n2, n3, n4, z1, z2, gz4n] at z5
    all_goals
    obtain rfl := so_some h
    refine ⟨0, fun L hL => ?_⟩
    simp only [go_sem, ir83, E_8_l1, R_8_l1, ir83_b0, ir83_k0, ir83_o0, ir83_r0, z1, z2, lz2, xz2, fz3, gz4n, z5]
 ·try simp only [go_sem, n1, n2, n3, n4] at z1
  all_goals
  obtain rfl := so_some h
  refine ⟨0, fun L hL => ?_⟩
  simp only [go_sem, ir83, E_8_l1, R_8_l1, ir83_b0, ir83_k0, ir83_o0, ir83_r0, z1]

theorem Fs_8 {list : List Estimate} {e_ : Estimate} {y_ : Int} (h : spec_l06Find list e_ = some y_) : c_8.F [.sl 5 (List.map Estimate_av list), .ptr 5 [Estimate_av e_] 0 0] = ⟨true, .int .i64 y_, [.any, .any]⟩ := by
 refine mkF_E rfl ?_
 dsimp only [spec_l06Find] at h
 obtain ⟨y_6, z6, h⟩ := bd_some h
 obtain ⟨Lz6, ez6⟩ := spec_l06Find_l1_ex z6
 rcases y_6 with y_6a | y_6b
 ·dsimp only at h
  obtain rfl := so_some h
  refine ⟨Lz6, fun L hL => ?_⟩
  have ez6 := ez6 L (by omega)
  try simp only [go_sem, E_8_l1, R_8_l1, ir83_k0, ir83_o0, ir83_r0] at ez6
  simp only [go_sem, ir83, E_8_l1, R_8_l1, ir83_k0, ir83_o0, ir83_r0, ez6]
 ·dsimp only at h
  obtain rfl := so_some h
  refine ⟨Lz6, fun L hL => ?_⟩
  have ez6 := ez6 L (by omega)
  try simp only [go_sem, E_8_l1, R_8_l1, ir83_k0, ir83_o0, ir83_r0] at ez6
  simp only [go_sem, ir83, E_8_l1, R_8_l1, ir83_k0, ir83_o0, ir83_r0, ez6]


def ir84_b0 : IR := .seq (.test false [ PM 9 4, PO 10 (.bin false .gtr (.s 0) (I6 0)), PO 11 (.mov (.s 0)), ⟨.push, 12, (some ((.s 0), true)), .mov (.v 0)⟩, ⟨.push, 13, (some ((.s 1), true)), .mov (.v 4)⟩, ⟨.push, 14, (some ((.s 2), true)), .bin false .sub (.s 0) (I6 1)⟩, ⟨.push, 15, (some ((.s 3), true)), .ixAddr 5 (.s 2) (.s 0)⟩, ⟨.push, 16, (some ((.s 4), true)), .call 70 [(.v 2), (.s 0)]⟩, PO 17 (.pick (.s 5) (.s 0) (.c (.bool false)))] (.s 0) (.skip) (.exit 0)) (.block 1 (.region false [ PM 18 4, PO 19 (.bin false .sub (.s 0) (I6 1)), VS 4 5 0]))
def ir84_k0 : List Bool := [true, false, true, false, true, false]
def ir84_o0 : List Bool := [true, false, true, false, true, false]
def ir84_r0 : List Bool := [false, false, false, true, false, false]
def ir84_v : List Nat := [0, 1, 3, 4, 5, 6]
def ir84 : AFn := ⟨2, 6, .seq (.region false [ VO 2 3 (.box (.v 1)), VO 3 4 (.newnil 5)]) (.seq (.region false [ PM 7 0, PO 8 (.len false (.s 0)), VS 4 5 0]) (.seq (.block 0 (.loop ir84_k0 ir84_o0 ir84_r0 ir84_b0)) (.seq (.region false [ PO 20 (.mkSl 5 (.agg [.int .i64 (0), .str [], .str [], .int .i64 (0), .bool false]) 0 []), PM 21 0, PM 22 4, PO 23 (.slice 5 (.s 1) none (some (.s 0))), PO 24 (.app 5 56 (.agg [.int .i64 (0), .str [], .str [], .int .i64 (0), .bool false]) (.s 3) (.s 0)), VS 5 6 0]) (.seq (.region false [ PM 25 5, PO 26 (.load true 5 (.v 2)), PO 27 (.mkSl 5 (.agg [.int .i64 (0),
 .str [], .str [], .int .i64 (0), .bool false]) 1 [(0, (.s 0))]), PO 28 (.app 5 56 (.agg [.int .i64 (0), .str [], .str [], .int .i64 (0), .bool false]) (.s 2) (.s 0)), VS 5 6 0]) (.seq (.region false [ PM 29 5, PM 30 0, PM 31 4, PO 32 (.slice 5 (.s 1) (some (.s 0)) none), PO 33 (.app 5 56 (.agg [.int .i64 (0), .str [], .str [], .int .i64 (0), .bool false]) (.s 3) (.s 0)), VS 3 4 0]) (.ret)))))), [.t 3]⟩
noncomputable def t_9 : List (Nat × Ctr) := [(70, c_7)]
theorem lk_9_70 : look t_9 70 = some c_7 := rfl
noncomputable def c_9 : Ctr := mkF t_9 ir84 [.bor, .bor]
theorem s_9 : Sound Tryz.prog 84 c_9 := mkF_sound _ rfl (snd_cons s_7 snd_nil) (by kernel_rfl : chkFn Tryz.prog 84 ir84 ir84_v = true)
theorem M_9 : c_9.modes = [.bor, .bor] := rfl
theorem Fl_9 : c_9.flat = true := rfl
attribute [go_sem] M_9 Fl_9
attribute [go_sem] lk_9_70
def E_9_l1 (list : List Estimate) (e_ : Estimate) : Int → St
 | k => ⟨[.sl 5 (List.map Estimate_av list), .any, .ref 3200000 0 0, .any, .int .i64 k, .any], [], [(3200000, ⟨5, [Estimate_av e_]⟩)], true⟩
def R_9_l1 (list : List Estimate) (e_ : Estimate) (y : Int) : Res := (.exit 0, ⟨[.sl 5 (List.map Estimate_av list), .any, .ref 3200000 0 0, .any, .int .i64 y, .any], [], [(3200000, ⟨5, [Estimate_av e_]⟩)], true⟩)
theorem spec_l06Put_l1_ex {list : List Estimate} {e_ : Estimate} {sgm_ : Int} {rho_ : Int} (h : whileE (spec_l06Put_l1 list e_) sgm_ = some rho_) : ∃ L0, ∀ L, L0 ≤ L → iter (exec (look t_9) L ir84_b0) ir84_k0 ir84_o0 ir84_r0 L (E_9_l1 list e_ sgm_) = R_9_l1 list e_ rho_ := by
 refine loop_ex (E := E_9_l1 list e_) (R := R_9_l1 list e_) (fun y => by first | (intro c; cases c) | (rcases y with y | y <;> (intro c; cases c)) | (rcases y with y | y | y <;> (intro c; cases c))) ?_ h
 clear h
 intro k o_ h
 dsimp only [spec_l06Put_l1] at h
 obtain ⟨z1, h⟩ := ck_some h
 rcases or_split z1 with ⟨gz1, z1⟩ | gz1
 ·try simp only [go_sem, n1, n2, n3, n4] at gz1
  all_goals
  have lz1 := ix_lt z1
  have xz1 := getD_mapD Estimate_av list lz1
  try simp only [go_sem] at lz1
  try simp only [go_sem] at xz1
  try simp only [go_sem, n1, n2, n3, n4, gz1] at z1
  all_goals
  obtain ⟨z2, h⟩ := ck_some h
  rcases or_split z2 with ⟨gz2, z2⟩ | gz2
  ·try simp only [go_sem, n1, n2, n3, n4, gz1, z1] at gz2
   all_goals
   obtain ⟨y_2, hz2⟩ := Option.isSome_iff_exists.1 z2
   have fz2 := Fs_7 hz2
   try simp only [go_sem, n1, n2, n3, n4, gz1, z1, gz2] at hz2
   all_goals
   try simp only [go_sem, gz1, z1, gz2] at fz2
   rcases it_some h with ⟨z3, h⟩ | ⟨z3, h⟩
   ·try simp only [go_sem, n1, n2, n3, n4, gz1, z1, gz2, hz2] at z3
    all_goals
    obtain rfl := so_some h
    refine ⟨0, fun L hL => ?_⟩
    simp only [go_sem, ir84, E_9_l1, R_9_l1, ir84_b0, ir84_k0, ir84_o0, ir84_r0, gz1, z1, lz1, xz1, gz2, hz2, fz2, z3]
   ·try simp only [go_sem, n1, n2, n3, n4, gz1, z1, gz2, hz2] at z3
    all_goals
    obtain rfl := so_some h
    refine ⟨0, fun L hL => ?_⟩
    simp only [go_sem, ir84, E_9_l1, R_9_l1, ir84_b0, ir84_k0, ir84_o0, ir84_r0, gz1, z1, lz1, xz1, gz2, hz2, fz2, z3]
  ·try simp only [go_sem, n1, n2, n3, n4, gz1, z1] at gz2
   all_goals
   rcases it_some h with ⟨z3, h⟩ | ⟨z3, h⟩
   ·try simp only [go_sem, n1, n2, n3, n4, gz1, z1, gz2] at z3
    all_goals
    (simp_all)
   ·try simp only [go_sem, n1, n2, n3, n4, gz1, z1, gz2] at z3
    all_goals
    obtain rfl := so_some h
    refine ⟨0, fun L hL => ?_⟩
    simp only [go_sem, ir84, E_9_l1, R_9_l1, ir84_b0, ir84_k0, ir84_o0, ir84_r0, gz1, z1, lz1, xz1, gz2, z3]
 ·try simp only [go_sem, n1, n2, n3, n4] at gz1
  all_goals
  obtain ⟨z2, h⟩ := ck_some h
  rcases it_some h with ⟨z3, h⟩ | ⟨z3, h⟩
  ·try simp only [go_sem, n1, n2, n3, n4, gz1] at z3
   all_goals
   (simp_all)
  ·try simp only [go_sem, n1, n2, n3, n4, gz1] at z3
   all_goals
   obtain rfl := so_some h
   refine ⟨0, fun L hL => ?_⟩
   simp only [go_sem, ir84, E_9_l1, R_9_l1, ir84_b0, ir84_k0, ir84_o0, ir84_r0, gz1, z3]

theorem Fs_9 {list : List Estimate} {e_ : Estimate} {y_ : (List Estimate)} (h : spec_l06Put list e_ = some y_) : c_9.F [.sl 5 (List.map Estimate_av list), Estimate_av e_] = ⟨true, .fresh 5 (List.map Estimate_av y_), [.any, .any]⟩ := by
 refine mkF_E (by simp only [flatA, flatB, flat1, List.all_cons, List.all_nil, Bool.and_self, flatE_map (f := Estimate_av) (fun _ => rfl)]) ?_
 dsimp only [spec_l06Put] at h
 obtain ⟨y_4, z4, h⟩ := bd_some h
 obtain ⟨Lz4, ez4⟩ := spec_l06Put_l1_ex z4
 obtain ⟨z5, h⟩ := ck_some h
 try simp only [go_sem, n1, n2, n3, n4] at z5
 all_goals
 obtain ⟨z6, h⟩ := ck_some h
 try simp only [go_sem, n1, n2, n3, n4, z5] at z6
 all_goals
 obtain ⟨z7, h⟩ := ck_some h
 try simp only [go_sem, n1, n2, n3, n4, z5, z6] at z7
 all_goals
 obtain ⟨z8, h⟩ := ck_some h
 try simp only [go_sem, n1, n2, n3, n4, z5, z6, z7] at z8
 all_goals
 obtain ⟨z9, h⟩ := ck_some h
 try simp only [go_sem, n1, n2, n3, n4, z5, z6, z7, z8] at z9
 all_goals
 obtain rfl := so_some h
 refine ⟨Lz4, fun L hL => ?_⟩
 have ez4 := ez4 L (by omega)
 try simp only [go_sem, E_9_l1, R_9_l1, ir84_k0, ir84_o0, ir84_r0, z5, z6, z7, z8, z9] at ez4
 simp only [go_sem, ir84, E_9_l1, R_9_l1, ir84_k0, ir84_o0, ir84_r0, z5, z6, z7, z8, z9, ez4]


def ir41_b0 : IR := .seq (.test false [ PM 13 4, PO 14 (.bin false .gtr (.s 0) (I6 0))] (.s 0) (.skip) (.exit 0)) (.seq (.block 1 (.seq (.region false [ PM 17 0, PO 18 (.call 82 [(.s 0)]), VO 5 7 (.alloc (.agg [.int .i64 (0), .str [], .str [], .int .i64 (0), .bool false])), ⟨.no, 0, none, .store 5 (.v 5) (.s 0)⟩]) (.test false [ PM 19 3, PO 20 (.call 83 [(.s 0), (.v 5)]), PO 21 (.bin false .lss (.s 0) (I6 0))] (.s 0) (.region false [ PM 22 3, PO 23 (.load true 5 (.v 5)), PO 24 (.call 84 [(.s 1), (.s 0)]), VS 3 5 0]) (.skip)))) (.region false [ PM 15 4, PO 16 (.bin false .sub (.s 0) (I6 1)), VS
 4 6 0]))
def ir41_k0 : List Bool := [true, false, false, true, true, false]
def ir41_o0 : List Bool := [true, false, false, true, false, false]
def ir41_r0 : List Bool := [true, false, true, false, false, false]
def ir41_v : List Nat := [0, 1, 4, 5, 6, 7]
def ir41 : AFn := ⟨2, 6, .seq (.region false [ VO 2 4 (.newnil 5)]) (.seq (.region false [ PO 8 (.mkSl 5 (.agg [.int .i64 (0), .str [], .str [], .int .i64 (0), .bool false]) 0 []), VS 3 5 0]) (.seq (.seq (.region false [ PM 9 0, PM 10 1, PO 11 (.bin false .add (.s 0) (I6 1)), PO 12 (.call 58 [(.s 2), (.s 0)]), VS 4 6 0]) (.block 0 (.loop ir41_k0 ir41_o0 ir41_r0 ir41_b0))) (.seq (.region false [ PM 25 3, VS 2 4 0]) (.ret)))), [.t 2]⟩
noncomputable def t_10 : List (Nat × Ctr) := [(58, c_3), (82, c_6), (83, c_8), (84, c_9)]
theorem lk_10_58 : look t_10 58 = some c_3 := rfl
theorem lk_10_82 : look t_10 82 = some c_6 := rfl
theorem lk_10_83 : look t_10 83 = some c_8 := rfl
theorem lk_10_84 : look t_10 84 = some c_9 := rfl
noncomputable def c_10 : Ctr := mkN t_10 ir41 [.io, .bor]
theorem s_10 : Sound Tryz.prog 41 c_10 := mkN_sound _ (snd_cons s_3 (snd_cons s_6 (snd_cons s_8 (snd_cons s_9 snd_nil)))) (by kernel_rfl : chkFn Tryz.prog 41 ir41 ir41_v = true)
theorem M_10 : c_10.modes = [.io, .bor] := rfl
theorem Fl_10 : c_10.flat = false := rfl
attribute [go_sem] M_10 Fl_10
attribute [go_sem] lk_10_58 lk_10_82 lk_10_83 lk_10_84
def E_10_l1  : (L00Src × (List Estimate) × Int) → St
 | (s_, out, k) => ⟨[.ref 31 0 0, .any, .any, .own 3200032, .int .i64 k, .any], [], [(31, ⟨3, [L00Src_av s_]⟩), (3200032, ⟨5, List.map Estimate_av out⟩)], true⟩
def R_10_l1  (y : L00Src × (List Estimate)) : Res := (.exit 0, ⟨[.ref 31 0 0, .any, .any, .own 3200032, .any, .any], [], [(31, ⟨3, [L00Src_av y.1]⟩), (3200032, ⟨5, List.map Estimate_av y.2⟩)], true⟩)
theorem spec_l06Draw_l1_ex  {sgm_ : L00Src × (List Estimate) × Int} {rho_ : L00Src × (List Estimate)} (h : whileE (spec_l06Draw_l1) sgm_ = some rho_) : ∃ L0, ∀ L, L0 ≤ L → iter (exec (look t_10) L ir41_b0) ir41_k0 ir41_o0 ir41_r0 L (E_10_l1 sgm_) = R_10_l1 rho_ := by
 refine loop_ex (E := E_10_l1) (R := R_10_l1) (fun y => by first | (intro c; cases c) | (rcases y with y | y <;> (intro c; cases c)) | (rcases y with y | y | y <;> (intro c; cases c))) ?_ h
 clear h
 rintro ⟨s_, out, k⟩ o_ h
 dsimp only [spec_l06Draw_l1] at h
 rcases it_some h with ⟨z2, h⟩ | ⟨z2, h⟩
 ·try simp only [go_sem, n1, n2, n3, n4] at z2
  all_goals
  obtain ⟨y_3, z3, h⟩ := bd_some h
  have fz3 := Fs_6 z3
  try simp only [go_sem, z2] at fz3
  obtain ⟨y_4, z4, h⟩ := bd_some h
  have fz4 := Fs_8 z4
  try simp only [go_sem, z2] at fz4
  rcases it_some h with ⟨z5, h⟩ | ⟨z5, h⟩
  ·try simp only [go_sem, n1, n2, n3, n4, z2] at z5
   all_goals
   obtain ⟨y_6, z6, h⟩ := bd_some h
   have fz6 := Fs_9 z6
   try simp only [go_sem, z2, z5] at fz6
   obtain rfl := so_some h
   refine ⟨0, fun L hL => ?_⟩
   simp only [go_sem, ir41, E_10_l1, R_10_l1, ir41_b0, ir41_k0, ir41_o0, ir41_r0, z2, fz3, fz4, z5, fz6]
  ·try simp only [go_sem, n1, n2, n3, n4, z2] at z5
   all_goals
   obtain rfl := so_some h
   refine ⟨0, fun L hL => ?_⟩
   simp only [go_sem, ir41, E_10_l1, R_10_l1, ir41_b0, ir41_k0, ir41_o0, ir41_r0, z2, fz3, fz4, z5]
 ·try simp only [go_sem, n1, n2, n3, n4] at z2
  all_goals
  obtain rfl := so_some h
  refine ⟨0, fun L hL => ?_⟩
  simp only [go_sem, ir41, E_10_l1, R_10_l1, ir41_b0, ir41_k0, ir41_o0, ir41_r0, z2]

theorem Fs_10 {s_ : L00Src} {most : Int} {y_ : (List Estimate) × L00Src} (h : spec_l06Draw s_ most = some y_) : c_10.F [.mem 3 [L00Src_av s_] 0, .int .i64 most] = ⟨true, .fresh 5 (List.map Estimate_av y_.1), [.mem 3 [L00Src_av y_.2] 0, .any]⟩ := by
 refine mkN_E ?_
 dsimp only [spec_l06Draw] at h
 obtain ⟨y_1, z1, h⟩ := bd_some h
 have fz1 := Fs_3 z1
 try simp only [go_sem] at fz1
 obtain ⟨y_7, z7, h⟩ := bd_some h
 obtain ⟨Lz7, ez7⟩ := spec_l06Draw_l1_ex z7
 obtain rfl := so_some h
 refine ⟨Lz7, fun L hL => ?_⟩
 have ez7 := ez7 L (by omega)
 try simp only [go_sem, E_10_l1, R_10_l1, ir41_k0, ir41_o0, ir41_r0] at ez7
 simp only [go_sem, ir41, E_10_l1, R_10_l1, ir41_k0, ir41_o0, ir41_r0, fz1, ez7]


def ir76_v : List Nat := [0, 1, 4]
def ir76 : AFn := ⟨2, 3, .seq (.region false [ VO 2 4 (.mov (I6 0))]) (.seq (.region false [ PM 5 1, PM 6 0, PM 7 1, PO 8 (.len false (.s 0)), PO 9 (.call 58 [(.s 2), (.s 0)]), PO 10 (.ixAddr 1 (.s 4) (.s 0)), PO 11 (.load false 1 (.s 0)), VS 2 4 0]) (.ret)), [.t 2]⟩
noncomputable def t_11 : List (Nat × Ctr) := [(58, c_3)]
theorem lk_11_58 : look t_11 58 = some c_3 := rfl
noncomputable def c_11 : Ctr := mkN t_11 ir76 [.io, .bor]
theorem s_11 : Sound Tryz.prog 76 c_11 := mkN_sound _ (snd_cons s_3 snd_nil) (by kernel_rfl : chkFn Tryz.prog 76 ir76 ir76_v = true)
theorem M_11 : c_11.modes = [.io, .bor] := rfl
theorem Fl_11 : c_11.flat = false := rfl
attribute [go_sem] M_11 Fl_11
attribute [go_sem] lk_11_58
theorem Fs_11 {s_ : L00Src} {list : List Int} {y_ : Int × L00Src} (h : spec_l00Src_among s_ list = some y_) : c_11.F [.mem 3 [L00Src_av s_] 0, .sl 1 (List.map (AV.int .i64) list)] = ⟨true, .int .i64 y_.1, [.mem 3 [L00Src_av y_.2] 0, .any]⟩ := by
 refine mkN_E ?_
 dsimp only [spec_l00Src_among] at h
 obtain ⟨y_1, z1, h⟩ := bd_some h
 have fz1 := Fs_3 z1
 try simp only [go_sem] at fz1
 obtain ⟨z2, h⟩ := ck_some h
 have lz2 := ix_lt z2
 have xz2 := getD_mapD (AV.int .i64) list lz2
 try simp only [go_sem] at lz2
 try simp only [go_sem] at xz2
 try simp only [go_sem, n1, n2, n3, n4] at z2
 all_goals
 obtain rfl := so_some h
 refine ⟨0, fun L hL => ?_⟩
 simp only [go_sem, ir76, fz1, z2, lz2, xz2]


def ir100_v : List Nat := [0, 2]
def ir100 : AFn := ⟨1, 2, .seq (.region false [ VO 1 2 (.mov (I6 0))]) (.seq (.test false [ PM 3 0, PO 4 (.call 42 [(.s 0), (I6 8)])] (.s 0) (.seq (.region false [ PM 5 0, PO 6 (.call 58 [(.s 0), (I6 22001)]), PO 7 (.bin false .add (.s 0) (.c (.int .i64 (-2000)))), VS 1 2 0]) (.ret)) (.skip)) (.seq (.region false [ PM 8 0, PO 9 (.call 58 [(.s 0), (I6 60)]), PO 10 (.bin false .mul (I6 50) (.s 0)), PO 11 (.bin false .add (I6 8000) (.s 0)), VS 1 2 0]) (.ret))), [.t 1]⟩
noncomputable def t_12 : List (Nat × Ctr) := [(42, c_4), (58, c_3)]
theorem lk_12_42 : look t_12 42 = some c_4 := rfl
theorem lk_12_58 : look t_12 58 = some c_3 := rfl
noncomputable def c_12 : Ctr := mkN t_12 ir100 [.io]
theorem s_12 : Sound Tryz.prog 100 c_12 := mkN_sound _ (snd_cons s_4 (snd_cons s_3 snd_nil)) (by kernel_rfl : chkFn Tryz.prog 100 ir100 ir100_v = true)
theorem M_12 : c_12.modes = [.io] := rfl
theorem Fl_12 : c_12.flat = false := rfl
attribute [go_sem] M_12 Fl_12
attribute [go_sem] lk_12_42 lk_12_58
theorem Fs_12 {s_ : L00Src} {y_ : Int × L00Src} (h : spec_l02Draw s_ = some y_) : c_12.F [.mem 3 [L00Src_av s_] 0] = ⟨true, .int .i64 y_.1, [.mem 3 [L00Src_av y_.2] 0]⟩ := by
 refine mkN_E ?_
 dsimp only [spec_l02Draw] at h
 obtain ⟨y_1, z1, h⟩ := bd_some h
 have fz1 := Fs_4 z1
 try simp only [go_sem] at fz1
 rcases it_some h with ⟨z2, h⟩ | ⟨z2, h⟩
 ·try simp only [go_sem, n1, n2, n3, n4] at z2
  all_goals
  obtain ⟨y_3, z3, h⟩ := bd_some h
  have fz3 := Fs_3 z3
  try simp only [go_sem, z2] at fz3
  obtain rfl := so_some h
  refine ⟨0, fun L hL => ?_⟩
  simp only [go_sem, ir100, fz1, z2, fz3]
 ·try simp only [go_sem, n1, n2, n3, n4] at z2
  all_goals
  obtain ⟨y_4, z4, h⟩ := bd_some h
  have fz4 := Fs_3 z4
  try simp only [go_sem, z2] at fz4
  obtain rfl := so_some h
  refine ⟨0, fun L hL => ?_⟩
  simp only [go_sem, ir100, fz1, z2, fz4]


def ir77_v : List Nat := [0, 2]
def ir77 : AFn := ⟨1, 2, .seq (.region false [ VO 1 2 (.mov (I6 0))]) (.seq (.test false [ PM 3 0, PO 4 (.call 42 [(.s 0), (I6 14)])] (.s 0) (.seq (.region false [ PM 5 0, PO 6 (.mkSl 1 (.int .i64 (0)) 6 [(0, (.c (.int .i64 (-2001)))), (1, (.c (.int .i64 (-2000)))), (2, (I6 20000)), (3, (I6 20001)), (4, (.c (.int .i64 (-9223372036854775808)))), (5, (I6 9223372036854775807))]), PO 7 (.call 76 [(.s 1), (.s 0)]), VS 1 2 0]) (.ret)) (.skip)) (.seq (.region false [ PM 8 0, PO 9 (.call 100 [(.s 0)]), VS 1 2 0]) (.ret))), [.t 1]⟩
noncomputable def t_13 : List (Nat × Ctr) := [(42, c_4), (76, c_11), (100, c_12)]
theorem lk_13_42 : look t_13 42 = some c_4 := rfl
theorem lk_13_76 : look t_13 76 = some c_11 := rfl
theorem lk_13_100 : look t_13 100 = some c_12 := rfl
noncomputable def c_13 : Ctr := mkN t_13 ir77 [.io]
theorem s_13 : Sound Tryz.prog 77 c_13 := mkN_sound _ (snd_cons s_4 (snd_cons s_11 (snd_cons s_12 snd_nil))) (by kernel_rfl : chkFn Tryz.prog 77 ir77 ir77_v = true)
theorem M_13 : c_13.modes = [.io] := rfl
theorem Fl_13 : c_13.flat = false := rfl
attribute [go_sem] M_13 Fl_13
attribute [go_sem] lk_13_42 lk_13_76 lk_13_100
theorem Fs_13 {s_ : L00Src} {y_ : Int × L00Src} (h : spec_l02Bent s_ = some y_) : c_13.F [.mem 3 [L00Src_av s_] 0] = ⟨true, .int .i64 y_.1, [.mem 3 [L00Src_av y_.2] 0]⟩ := by
 refine mkN_E ?_
 dsimp only [spec_l02Bent] at h
 obtain ⟨y_1, z1, h⟩ := bd_some h
 have fz1 := Fs_4 z1
 try simp only [go_sem] at fz1
 rcases it_some h with ⟨z2, h⟩ | ⟨z2, h⟩
 ·try simp only [go_sem, n1, n2, n3, n4] at z2
  all_goals
  obtain ⟨y_3, z3, h⟩ := bd_some h
  have fz3 := Fs_11 z3
  try simp only [go_sem, z2] at fz3
  obtain rfl := so_some h
  refine ⟨0, fun L hL => ?_⟩
  simp only [go_sem, ir77, fz1, z2, fz3]
 ·try simp only [go_sem, n1, n2, n3, n4] at z2
  all_goals
  obtain ⟨y_4, z4, h⟩ := bd_some h
  have fz4 := Fs_12 z4
  try simp only [go_sem, z2] at fz4
  obtain rfl := so_some h
  refine ⟨0, fun L hL => ?_⟩
  simp only [go_sem, ir77, fz1, z2, fz4]


def ir61_v : List Nat := [0, 2, 3, 7]
def ir61 : AFn := ⟨1, 4, .seq (.region false [ VO 1 2 (.alloc (.agg [.int .i64 (0), .str [], .str [], .int .i64 (0), .bool false]))]) (.seq (.region false [ PM 4 0, PO 5 (.call 82 [(.s 0)]), VO 2 3 (.alloc (.agg [.int .i64 (0), .str [], .str [], .int .i64 (0), .bool false])), ⟨.no, 0, none, .store 5 (.v 2) (.s 0)⟩]) (.seq (.seq (.region false [ PM 6 0, VO 3 7 (.call 58 [(.s 0), (I6 24)])]) (.block 0 (.test false [ PO 9 (.bin false .eql (.v 3) (I6 0)), PO 8 (.mov (.s 0))] (.s 0) (.region false [ PM 10 0, PO 11 (.mkSl 1 (.int .i64 (0)) 4 [(0, (.c (.int .i64 (-1)))), (1, (I6 0)), (2, (I6
 10000000)), (3, (I6 10000001))]), PO 12 (.call 76 [(.s 1), (.s 0)]), PO 13 (.fldAddr 0 (.v 2)), ⟨.no, 0, none, .store 1 (.s 0) (.s 1)⟩]) (.test false [ PO 15 (.bin false .eql (.v 3) (I6 1)), PO 14 (.mov (.s 0))] (.s 0) (.region false [ PM 16 0, PO 17 (.mkSl 1 (.str []) 3 [(0, (.c (.str []))), (1, (.c (.str [77, 105, 114, 97]))), (2, (.c (.str [97, 32, 98])))]), PO 18 (.call 90 [(.s 1), (.s 0)]), PO 19 (.fldAddr 1 (.v 2)), ⟨.no, 0, none, .store 1 (.s 0) (.s 1)⟩]) (.test false [ PO 21 (.bin false .eql (.v 3) (I6 2)), PO 20 (.mov (.s 0))] (.s 0) (.region false [ PM 22 0, PO 23 (.mkSl 1 (.str [])
 2 [(0, (.c (.str []))), (1, (.c (.str [65, 66])))]), PO 24 (.call 90 [(.s 1), (.s 0)]), PO 25 (.fldAddr 2 (.v 2)), ⟨.no, 0, none, .store 1 (.s 0) (.s 1)⟩]) (.test false [ PO 27 (.bin false .eql (.v 3) (I6 3)), PO 26 (.mov (.s 0))] (.s 0) (.region false [ PM 28 0, PO 29 (.call 77 [(.s 0)]), PO 30 (.fldAddr 3 (.v 2)), ⟨.no, 0, none, .store 1 (.s 0) (.s 1)⟩]) (.skip))))))) (.seq (.region false [ PO 31 (.load true 5 (.v 2)), ⟨.no, 0, none, .store 5 (.v 1) (.s 0)⟩]) (.ret)))), [.cell true 5 1]⟩
noncomputable def t_14 : List (Nat × Ctr) := [(82, c_6), (58, c_3), (76, c_11), (90, c_5), (77, c_13)]
theorem lk_14_82 : look t_14 82 = some c_6 := rfl
theorem lk_14_58 : look t_14 58 = some c_3 := rfl
theorem lk_14_76 : look t_14 76 = some c_11 := rfl
theorem lk_14_90 : look t_14 90 = some c_5 := rfl
theorem lk_14_77 : look t_14 77 = some c_13 := rfl
noncomputable def c_14 : Ctr := mkN t_14 ir61 [.io]
theorem s_14 : Sound Tryz.prog 61 c_14 := mkN_sound _ (snd_cons s_6 (snd_cons s_3 (snd_cons s_11 (snd_cons s_5 (snd_cons s_13 snd_nil))))) (by kernel_rfl : chkFn Tryz.prog 61 ir61 ir61_v = true)
theorem M_14 : c_14.modes = [.io] := rfl
theorem Fl_14 : c_14.flat = false := rfl
attribute [go_sem] M_14 Fl_14
attribute [go_sem] lk_14_82 lk_14_58 lk_14_76 lk_14_90 lk_14_77
theorem Fs_14 {s_ : L00Src} {y_ : Estimate × L00Src} (h : spec_l06BentOne s_ = some y_) : c_14.F [.mem 3 [L00Src_av s_] 0] = ⟨true, Estimate_av y_.1, [.mem 3 [L00Src_av y_.2] 0]⟩ := by
 refine mkN_E ?_
 dsimp only [spec_l06BentOne] at h
 obtain ⟨y_1, z1, h⟩ := bd_some h
 have fz1 := Fs_6 z1
 try simp only [go_sem] at fz1
 obtain ⟨y_2, z2, h⟩ := bd_some h
 have fz2 := Fs_3 z2
 try simp only [go_sem] at fz2
 rcases it_some h with ⟨z3, h⟩ | ⟨z3, h⟩
 ·try simp only [go_sem, n1, n2, n3, n4] at z3
  all_goals
  obtain ⟨y_4, z4, h⟩ := bd_some h
  have fz4 := Fs_11 z4
  try simp only [go_sem, z3] at fz4
  obtain rfl := so_some h
  refine ⟨0, fun L hL => ?_⟩
  simp only [go_sem, ir61, fz1, fz2, z3, fz4]
 ·try simp only [go_sem, n1, n2, n3, n4] at z3
  all_goals
  rcases it_some h with ⟨z5, h⟩ | ⟨z5, h⟩
  ·try simp only [go_sem, n1, n2, n3, n4, z3] at z5
   all_goals
   obtain ⟨y_6, z6, h⟩ := bd_some h
   have fz6 := Fs_5 z6
   try simp only [go_sem, z3, z5] at fz6
   obtain rfl := so_some h
   refine ⟨0, fun L hL => ?_⟩
   simp only [go_sem, ir61, fz1, fz2, z3, z5, fz6]
  ·try simp only [go_sem, n1, n2, n3, n4, z3] at z5
   all_goals
   rcases it_some h with ⟨z7, h⟩ | ⟨z7, h⟩
   ·try simp only [go_sem, n1, n2, n3, n4, z3, z5] at z7
    all_goals
    obtain ⟨y_8, z8, h⟩ := bd_some h
    have fz8 := Fs_5 z8
    try simp only [go_sem, z3, z5, z7] at fz8
    obtain rfl := so_some h
    refine ⟨0, fun L hL => ?_⟩
    simp only [go_sem, ir61, fz1, fz2, z3, z5, z7, fz8]
   ·try simp only [go_sem, n1, n2, n3, n4, z3, z5] at z7
    all_goals
    rcases it_some h with ⟨z9, h⟩ | ⟨z9, h⟩
    ·try simp only [go_sem, n1, n2, n3, n4, z3, z5, z7] at z9
     all_goals
     obtain ⟨y_10, z10, h⟩ := bd_some h
     have fz10 := Fs_13 z10
     try simp only [go_sem, z3, z5, z7, z9] at fz10
     obtain rfl := so_some h
     refine ⟨0, fun L hL => ?_⟩
     simp only [go_sem, ir61, fz1, fz2, z3, z5, z7, z9, fz10]
    ·try simp only [go_sem, n1, n2, n3, n4, z3, z5, z7] at z9
     all_goals
     obtain rfl := so_some h
     refine ⟨0, fun L hL => ?_⟩
     simp only [go_sem, ir61, fz1, fz2, z3, z5, z7, z9]


def ir22_b0 : IR := .seq (.test false [ PM 22 3, PO 23 (.bin false .gtr (.s 0) (I6 0))] (.s 0) (.skip) (.exit 1)) (.seq (.block 2 (.region false [ PM 26 2, PM 27 2, PO 28 (.len false (.s 0)), PO 29 (.build [.int .i64 (0), .str [], .str [], .int .i64 (0), .bool false] [(0, 1, (.s 0)), (1, 1, (.c (.str [109, 105, 114, 97]))), (2, 1, (.c (.str [97, 98]))), (3, 1, (I6 9000))]), PO 30 (.mkSl 5 (.agg [.int .i64 (0), .str [], .str [], .int .i64 (0), .bool false]) 1 [(0, (.s 0))]), PO 31 (.app 5 56 (.agg [.int .i64 (0), .str [], .str [], .int .i64 (0), .bool false]) (.s 4) (.s 0)), VS 2 3 0])) (.region
 false [ PM 24 3, PO 25 (.bin false .sub (.s 0) (I6 1)), VS 3 4 0]))
def ir22_k0 : List Bool := [true, false, true, true, false]
def ir22_o0 : List Bool := [true, false, true, false, false]
def ir22_r0 : List Bool := [true, true, false, false, false]
def ir22_v : List Nat := [0, 2, 3, 4, 8]
def ir22 : AFn := ⟨1, 5, .seq (.region false [ VO 1 2 (.newnil 5)]) (.seq (.region false [ PM 5 0, PO 6 (.call 41 [(.s 0), (I6 10)]), VS 2 3 0]) (.seq (.seq (.region false [ PM 7 0, VO 4 8 (.call 58 [(.s 0), (I6 20)])]) (.block 0 (.test false [ PO 10 (.bin false .eql (.v 4) (I6 0)), PO 9 (.mov (.s 0))] (.s 0) (.region false [ PM 11 2, PM 12 0, PO 13 (.call 61 [(.s 0)]), PO 14 (.mkSl 5 (.agg [.int .i64 (0), .str [], .str [], .int .i64 (0), .bool false]) 1 [(0, (.s 0))]), PO 15 (.app 5 56 (.agg [.int .i64 (0), .str [], .str [], .int .i64 (0), .bool false]) (.s 3) (.s 0)), VS 2 3 0]) (.test false
 [ PO 17 (.bin false .eql (.v 4) (I6 1)), PO 16 (.mov (.s 0))] (.s 0) (.seq (.region false [ PO 18 (.mkSl 5 (.agg [.int .i64 (0), .str [], .str [], .int .i64 (0), .bool false]) 0 []), VS 2 3 0]) (.seq (.region false [ PM 19 0, PO 20 (.call 58 [(.s 0), (I6 2)]), PO 21 (.bin false .add (I6 100) (.s 0)), VS 3 4 0]) (.block 1 (.loop ir22_k0 ir22_o0 ir22_r0 ir22_b0)))) (.test false [ PO 33 (.bin false .eql (.v 4) (I6 2)), PO 32 (.mov (.s 0))] (.s 0) (.test false [ PM 34 2, PO 35 (.len false (.s 0)), PO 36 (.bin false .gtr (.s 0) (I6 0))] (.s 0) (.region false [ PM 37 2, PM 38 0, PM 39 2, PO 40 (.len
 false (.s 0)), PO 41 (.call 58 [(.s 2), (.s 0)]), PM 42 0, PO 43 (.call 61 [(.s 0)]), PO 44 (.ixAddr 5 (.s 6) (.s 2)), ⟨.no, 0, none, .store 5 (.s 0) (.s 1)⟩]) (.skip)) (.skip)))))) (.seq (.region false [ PM 45 2, VS 1 2 0]) (.ret)))), [.t 1]⟩
noncomputable def t_15 : List (Nat × Ctr) := [(41, c_10), (58, c_3), (61, c_14)]
theorem lk_15_41 : look t_15 41 = some c_10 := rfl
theorem lk_15_58 : look t_15 58 = some c_3 := rfl
theorem lk_15_61 : look t_15 61 = some c_14 := rfl
noncomputable def c_15 : Ctr := mkN t_15 ir22 [.io]
theorem s_15 : Sound Tryz.prog 22 c_15 := mkN_sound _ (snd_cons s_10 (snd_cons s_3 (snd_cons s_14 snd_nil))) (by kernel_rfl : chkFn Tryz.prog 22 ir22 ir22_v = true)
theorem M_15 : c_15.modes = [.io] := rfl
theorem Fl_15 : c_15.flat = false := rfl
attribute [go_sem] M_15 Fl_15
attribute [go_sem] lk_15_41 lk_15_58 lk_15_61
def E_15_l1 (s_ : L00Src) : ((List Estimate) × Int) → St
 | (list, k) => ⟨[.ref 31 0 0, .any, .own 3200032, .int .i64 k, .any], [], [(31, ⟨3, [L00Src_av s_]⟩), (3200032, ⟨5, List.map Estimate_av list⟩)], true⟩
def R_15_l1 (s_ : L00Src) (y : (List Estimate)) : Res := (.exit 1, ⟨[.ref 31 0 0, .any, .own 3200032, .any, .any], [], [(31, ⟨3, [L00Src_av s_]⟩), (3200032, ⟨5, List.map Estimate_av y⟩)], true⟩)
theorem spec_l06Bent_l1_ex {s_ : L00Src} {sgm_ : (List Estimate) × Int} {rho_ : (List Estimate)} (h : whileE (spec_l06Bent_l1 s_) sgm_ = some rho_) : ∃ L0, ∀ L, L0 ≤ L → iter (exec (look t_15) L ir22_b0) ir22_k0 ir22_o0 ir22_r0 L (E_15_l1 s_ sgm_) = R_15_l1 s_ rho_ := by
 refine loop_ex (E := E_15_l1 s_) (R := R_15_l1 s_) (fun y => by first | (intro c; cases c) | (rcases y with y | y <;> (intro c; cases c)) | (rcases y with y | y | y <;> (intro c; cases c))) ?_ h
 clear h
 rintro ⟨list, k⟩ o_ h
 dsimp only [spec_l06Bent_l1] at h
 rcases it_some h with ⟨z8, h⟩ | ⟨z8, h⟩
 ·try simp only [go_sem, n1, n2, n3, n4] at z8
  all_goals
  obtain ⟨z9, h⟩ := ck_some h
  try simp only [go_sem, n1, n2, n3, n4, z8] at z9
  all_goals
  obtain rfl := so_some h
  refine ⟨0, fun L hL => ?_⟩
  simp only [go_sem, ir22, E_15_l1, R_15_l1, ir22_b0, ir22_k0, ir22_o0, ir22_r0, z8, z9]
 ·try simp only [go_sem, n1, n2, n3, n4] at z8
  all_goals
  obtain rfl := so_some h
  refine ⟨0, fun L hL => ?_⟩
  simp only [go_sem, ir22, E_15_l1, R_15_l1, ir22_b0, ir22_k0, ir22_o0, ir22_r0, z8]

theorem Fs_15 {s_ : L00Src} {y_ : (List Estimate) × L00Src} (h : spec_l06Bent s_ = some y_) : c_15.F [.mem 3 [L00Src_av s_] 0] = ⟨true, .fresh 5 (List.map Estimate_av y_.1), [.mem 3 [L00Src_av y_.2] 0]⟩ := by
 refine mkN_E ?_
 dsimp only [spec_l06Bent] at h
 obtain ⟨y_1, z1, h⟩ := bd_some h
 have fz1 := Fs_10 z1
 try simp only [go_sem] at fz1
 obtain ⟨y_2, z2, h⟩ := bd_some h
 have fz2 := Fs_3 z2
 try simp only [go_sem] at fz2
 rcases it_some h with ⟨z3, h⟩ | ⟨z3, h⟩
 ·try simp only [go_sem, n1, n2, n3, n4] at z3
  all_goals
  obtain ⟨y_4, z4, h⟩ := bd_some h
  have fz4 := Fs_14 z4
  try simp only [go_sem, z3] at fz4
  obtain ⟨z5, h⟩ := ck_some h
  try simp only [go_sem, n1, n2, n3, n4, z3] at z5
  all_goals
  obtain rfl := so_some h
  refine ⟨0, fun L hL => ?_⟩
  simp only [go_sem, ir22, E_15_l1, R_15_l1, ir22_k0, ir22_o0, ir22_r0, fz1, fz2, z3, fz4, z5]
 ·try simp only [go_sem, n1, n2, n3, n4] at z3
  all_goals
  rcases it_some h with ⟨z6, h⟩ | ⟨z6, h⟩
  ·try simp only [go_sem, n1, n2, n3, n4, z3] at z6
   all_goals
   obtain ⟨y_7, z7, h⟩ := bd_some h
   have fz7 := Fs_3 z7
   try simp only [go_sem, z3, z6] at fz7
   obtain ⟨y_10, z10, h⟩ := bd_some h
   obtain ⟨Lz10, ez10⟩ := spec_l06Bent_l1_ex z10
   obtain rfl := so_some h
   refine ⟨Lz10, fun L hL => ?_⟩
   have ez10 := ez10 L (by omega)
   try simp only [go_sem, E_15_l1, R_15_l1, ir22_k0, ir22_o0, ir22_r0, z3, z6] at ez10
   simp only [go_sem, ir22, E_15_l1, R_15_l1, ir22_k0, ir22_o0, ir22_r0, fz1, fz2, z3, z6, fz7, ez10]
  ·try simp only [go_sem, n1, n2, n3, n4, z3] at z6
   all_goals
   rcases it_some h with ⟨z11, h⟩ | ⟨z11, h⟩
   ·try simp only [go_sem, n1, n2, n3, n4, z3, z6] at z11
    all_goals
    rcases it_some h with ⟨z12, h⟩ | ⟨z12, h⟩
    ·try simp only [go_sem, n1, n2, n3, n4, z3, z6, z11] at z12
     all_goals
     obtain ⟨y_13, z13, h⟩ := bd_some h
     have fz13 := Fs_3 z13
     try simp only [go_sem, z3, z6, z11, z12] at fz13
     obtain ⟨y_14, z14, h⟩ := bd_some h
     have fz14 := Fs_14 z14
     try simp only [go_sem, z3, z6, z11, z12] at fz14
     obtain ⟨z15, h⟩ := ck_some h
     have lz15 := ix_lt z15
     have xz15 := getD_mapD Estimate_av y_1.1 lz15
     try simp only [go_sem] at lz15
     try simp only [go_sem] at xz15
     try simp only [go_sem, n1, n2, n3, n4, z3, z6, z11, z12] at z15
     all_goals
     obtain rfl := so_some h
     refine ⟨0, fun L hL => ?_⟩
     simp only [go_sem, ir22, E_15_l1, R_15_l1, ir22_k0, ir22_o0, ir22_r0, fz1, fz2, z3, z6, z11, z12, fz13, fz14, z15, lz15, xz15]
    ·try simp only [go_sem, n1, n2, n3, n4, z3, z6, z11] at z12
     all_goals
     obtain rfl := so_some h
     refine ⟨0, fun L hL => ?_⟩
     simp only [go_sem, ir22, E_15_l1, R_15_l1, ir22_k0, ir22_o0, ir22_r0, fz1, fz2, z3, z6, z11, z12]
   ·try simp only [go_sem, n1, n2, n3, n4, z3, z6] at z11
    all_goals
    obtain rfl := so_some h
    refine ⟨0, fun L hL => ?_⟩
    simp only [go_sem, ir22, E_15_l1, R_15_l1, ir22_k0, ir22_o0, ir22_r0, fz1, fz2, z3, z6, z11]


def ir5_v : List Nat := [0, 2]
def ir5 : AFn := ⟨1, 2, .seq (.region false [ VO 1 2 (.newnil 5)]) (.seq (.region false [ PM 3 0, PO 4 (.call 23 [(.s 0)]), PO 5 (.call 22 [(.s 0)]), VS 1 2 0]) (.ret)), [.t 1]⟩
noncomputable def t_16 : List (Nat × Ctr) := [(23, c_1), (22, c_15)]
theorem lk_16_23 : look t_16 23 = some c_1 := rfl
theorem lk_16_22 : look t_16 22 = some c_15 := rfl
noncomputable def c_16 : Ctr := mkF t_16 ir5 [.bor]
theorem s_16 : Sound Tryz.prog 5 c_16 := mkF_sound _ rfl (snd_cons s_1 (snd_cons s_15 snd_nil)) (by kernel_rfl : chkFn Tryz.prog 5 ir5 ir5_v = true)
theorem M_16 : c_16.modes = [.bor] := rfl
theorem Fl_16 : c_16.flat = true := rfl
attribute [go_sem] M_16 Fl_16
attribute [go_sem] lk_16_23 lk_16_22
theorem Fs_16 {code : List UInt8} {y_ : (List Estimate)} (h : spec_DrawPackEstimates code = some y_) : c_16.F [.sl 1 (List.map byteAV code)] = ⟨true, .fresh 5 (List.map Estimate_av y_), [.any]⟩ := by
 refine mkF_E (by simp only [flatA, flatB, flat1, List.all_cons, List.all_nil, Bool.and_self, flatE_map (f := Estimate_av) (fun _ => rfl)]) ?_
 dsimp only [spec_DrawPackEstimates] at h
 obtain ⟨y_1, z1, h⟩ := bd_some h
 have fz1 := Fs_1 z1
 try simp only [go_sem] at fz1
 obtain ⟨y_2, z2, h⟩ := bd_some h
 have fz2 := Fs_15 z2
 try simp only [go_sem] at fz2
 obtain rfl := so_some h
 refine ⟨0, fun L hL => ?_⟩
 simp only [go_sem, ir5, fz1, fz2]


def ir67_v : List Nat := [0, 1, 3]
def ir67 : AFn := ⟨2, 3, .seq (.region false [ VO 2 3 (.mov (.c (.bool false)))]) (.seq (.region false [ PM 4 0, PO 5 (.load false 1 (.v 1)), PO 6 (.bin false .eql (.s 1) (.s 0)), VS 2 3 0]) (.ret)), [.t 2]⟩
noncomputable def t_17 : List (Nat × Ctr) := []
noncomputable def c_17 : Ctr := mkF t_17 ir67 [.bor, .bor]
theorem s_17 : Sound Tryz.prog 67 c_17 := mkF_sound _ rfl snd_nil (by kernel_rfl : chkFn Tryz.prog 67 ir67 ir67_v = true)
theorem M_17 : c_17.modes = [.bor, .bor] := rfl
theorem Fl_17 : c_17.flat = true := rfl
attribute [go_sem] M_17 Fl_17
theorem Fs_17 {s_ : List UInt8} {t1 : List UInt8} {y_ : Bool} (h : impl_placeOf_c1 s_ t1 = some y_) : c_17.F [.str s_, .ptr 1 [.str t1] 0 0] = ⟨true, .bool y_, [.any, .any]⟩ := by
 refine mkF_E rfl ?_
 dsimp only [impl_placeOf_c1] at h
 obtain rfl := so_some h
 refine ⟨0, fun L hL => ?_⟩
 simp only [go_sem, ir67]


def ir97_b0 : IR := .seq (.region false [ VO 6 9 (.bin false .lss (.v 5) (.v 4))]) (.seq (.cond (.v 6) (.skip) (.exit 0)) (.seq (.block 1 (.seq (.region false [ PM 10 5, VS 3 5 0]) (.test false [ PM 11 1, PM 12 0, PM 13 3, PO 14 (.ixAddr 1 (.s 1) (.s 0)), PO 15 (.load false 1 (.s 0)), PO 16 (.callv (.s 4) [(.s 0)])] (.s 0) (.seq (.region false [ PM 17 3, VS 2 4 0]) (.ret)) (.skip)))) (.region false [ PO 18 (.bin false .add (.v 5) (I6 1)), VS 5 8 0])))
def ir97_k0 : List Bool := [true, true, false, false, true, true, false]
def ir97_o0 : List Bool := [false, false, false, false, false, false, false]
def ir97_r0 : List Bool := [false, false, true, false, false, false, false]
def ir97_v : List Nat := [0, 1, 4, 5, 7, 8, 9]
def ir97 : AFn := ⟨2, 7, .seq (.region false [ VO 2 4 (.mov (I6 0))]) (.seq (.seq (.region false [ PM 6 0, VO 4 7 (.len false (.s 0)), VO 5 8 (.mov (I6 0))]) (.block 0 (.loop ir97_k0 ir97_o0 ir97_r0 ir97_b0))) (.seq (.region false [ VO 2 4 (.mov (.c (.int .i64 (-1))))]) (.ret))), [.t 2]⟩
noncomputable def t_18 : List (Nat × Ctr) := [(67, c_17)]
theorem lk_18_67 : look t_18 67 = some c_17 := rfl
noncomputable def c_18 : Ctr := mkF t_18 ir97 [.bor, .bor]
theorem s_18 : Sound Tryz.prog 97 c_18 := mkF_sound _ rfl (snd_cons s_17 snd_nil) (by kernel_rfl : chkFn Tryz.prog 97 ir97 ir97_v = true)
theorem M_18 : c_18.modes = [.bor, .bor] := rfl
theorem Fl_18 : c_18.flat = true := rfl
attribute [go_sem] M_18 Fl_18
attribute [go_sem] lk_18_67
def E_18_l1 (s_ : List (List UInt8)) (c : List UInt8) (t7 : Int) : Int → St
 | t8 => ⟨[.sl 1 (List.map AV.str s_), .fn (.func 67) [] [.ptr 1 [.str c] 0 0], .any, .any, .int .i64 t7, .int .i64 t8, .any], [], [], true⟩
def R_18_l1 (s_ : List (List UInt8)) (c : List UInt8) (t7 : Int) : (Unit ⊕ Int) → Res
 | .inl y => (.exit 0, ⟨[.any, .any, .any, .any, .any, .any, .any], [], [], true⟩)
 | .inr y => (.ret, ⟨[.any, .any, .int .i64 y, .any, .any, .any, .any], [], [], true⟩)
theorem slices_IndexFunc_string_string__impl_placeOf_c1_l1_ex {s_ : List (List UInt8)} {c : List UInt8} {t7 : Int} {sgm_ : Int} {rho_ : Unit ⊕ Int} (h : whileE (slices_IndexFunc_string_string__impl_placeOf_c1_l1 s_ c t7) sgm_ = some rho_) : ∃ L0, ∀ L, L0 ≤ L → iter (exec (look t_18) L ir97_b0) ir97_k0 ir97_o0 ir97_r0 L (E_18_l1 s_ c t7 sgm_) = R_18_l1 s_ c t7 rho_ := by
 refine loop_ex (E := E_18_l1 s_ c t7) (R := R_18_l1 s_ c t7) (fun y => by first | (intro c; cases c) | (rcases y with y | y <;> (intro c; cases c)) | (rcases y with y | y | y <;> (intro c; cases c))) ?_ h
 clear h
 intro t8 o_ h
 dsimp only [slices_IndexFunc_string_string__impl_placeOf_c1_l1] at h
 rcases it_some h with ⟨z1, h⟩ | ⟨z1, h⟩
 ·try simp only [go_sem, n1, n2, n3, n4] at z1
  all_goals
  obtain ⟨z2, h⟩ := ck_some h
  have lz2 := ix_lt z2
  have xz2 := getD_mapD AV.str s_ lz2
  try simp only [go_sem] at lz2
  try simp only [go_sem] at xz2
  try simp only [go_sem, n1, n2, n3, n4, z1] at z2
  all_goals
  obtain ⟨y_3, z3, h⟩ := bd_some h
  have fz3 := Fs_17 z3
  try simp only [go_sem, z1, z2] at fz3
  rcases it_some h with ⟨z4, h⟩ | ⟨z4, h⟩
  ·try simp only [go_sem, n1, n2, n3, n4, z1, z2] at z4
   all_goals
   obtain rfl := so_some h
   refine ⟨0, fun L hL => ?_⟩
   simp only [go_sem, ir97, E_18_l1, R_18_l1, ir97_b0, ir97_k0, ir97_o0, ir97_r0, z1, z2, lz2, xz2, fz3, z4]
  ·try simp only [go_sem, n1, n2, n3, n4, z1, z2] at z4
   all_goals
   obtain rfl := so_some h
   refine ⟨0, fun L hL => ?_⟩
   simp only [go_sem, ir97, E_18_l1, R_18_l1, ir97_b0, ir97_k0, ir97_o0, ir97_r0, z1, z2, lz2, xz2, fz3, z4]
 ·try simp only [go_sem, n1, n2, n3, n4] at z1
  all_goals
  obtain rfl := so_some h
  refine ⟨0, fun L hL => ?_⟩
  simp only [go_sem, ir97, E_18_l1, R_18_l1, ir97_b0, ir97_k0, ir97_o0, ir97_r0, z1]

theorem Fs_18 {s_ : List (List UInt8)} {f_c0 : List UInt8} {y_ : Int} (h : slices_IndexFunc_string_string__impl_placeOf_c1 s_ f_c0 = some y_) : c_18.F [.sl 1 (List.map AV.str s_), .fn (.func 67) [] [.ptr 1 [.str f_c0] 0 0]] = ⟨true, .int .i64 y_, [.any, .any]⟩ := by
 refine mkF_E rfl ?_
 dsimp only [slices_IndexFunc_string_string__impl_placeOf_c1] at h
 obtain ⟨y_5, z5, h⟩ := bd_some h
 obtain ⟨Lz5, ez5⟩ := slices_IndexFunc_string_string__impl_placeOf_c1_l1_ex z5
 rcases y_5 with y_5a | y_5b
 ·dsimp only at h
  obtain rfl := so_some h
  refine ⟨Lz5, fun L hL => ?_⟩
  have ez5 := ez5 L (by omega)
  try simp only [go_sem, E_18_l1, R_18_l1, ir97_k0, ir97_o0, ir97_r0] at ez5
  simp only [go_sem, ir97, E_18_l1, R_18_l1, ir97_k0, ir97_o0, ir97_r0, ez5]
 ·dsimp only at h
  obtain rfl := so_some h
  refine ⟨Lz5, fun L hL => ?_⟩
  have ez5 := ez5 L (by omega)
  try simp only [go_sem, E_18_l1, R_18_l1, ir97_k0, ir97_o0, ir97_r0] at ez5
  simp only [go_sem, ir97, E_18_l1, R_18_l1, ir97_k0, ir97_o0, ir97_r0, ez5]


def ir66_v : List Nat := [0, 1, 4, 5, 6]
def ir66 : AFn := ⟨2, 5, .seq (.region false [ VO 2 4 (.mov (I6 0)), VO 3 5 (.mov (I6 0))]) (.seq (.seq (.region false [ PM 7 0, PM 8 1, PO 9 (.call 97 [(.s 1), (.s 0)]), VS 4 6 0]) (.test false [ PM 10 4, PO 11 (.bin false .geq (.s 0) (I6 0))] (.s 0) (.seq (.region false [ PM 12 4, VS 2 4 0, VO 3 5 (.mov (I6 0))]) (.ret)) (.skip))) (.seq (.region false [ VO 2 4 (.mov (I6 0)), VO 3 5 (.mov (I6 3))]) (.ret))), [.t 2, .t 3]⟩
noncomputable def t_19 : List (Nat × Ctr) := [(97, c_18)]
theorem lk_19_97 : look t_19 97 = some c_18 := rfl
noncomputable def c_19 : Ctr := mkF t_19 ir66 [.bor, .bor]
theorem s_19 : Sound Tryz.prog 66 c_19 := mkF_sound _ rfl (snd_cons s_18 snd_nil) (by kernel_rfl : chkFn Tryz.prog 66 ir66 ir66_v = true)
theorem M_19 : c_19.modes = [.bor, .bor] := rfl
theorem Fl_19 : c_19.flat = true := rfl
attribute [go_sem] M_19 Fl_19
attribute [go_sem] lk_19_97
theorem Fs_19 {list : List (List UInt8)} {wanted_c0 : List UInt8} {y_ : Int × Int} (h : impl_indexOf_string__impl_placeOf_c1 list wanted_c0 = some y_) : c_19.F [.sl 1 (List.map AV.str list), .fn (.func 67) [] [.ptr 1 [.str wanted_c0] 0 0]] = ⟨true, .tup [.int .i64 y_.1, .int .i64 y_.2], [.any, .any]⟩ := by
 refine mkF_E rfl ?_
 dsimp only [impl_indexOf_string__impl_placeOf_c1] at h
 obtain ⟨y_1, z1, h⟩ := bd_some h
 have fz1 := Fs_18 z1
 try simp only [go_sem] at fz1
 rcases it_some h with ⟨z2, h⟩ | ⟨z2, h⟩
 ·try simp only [go_sem, n1, n2, n3, n4] at z2
  all_goals
  obtain rfl := so_some h
  refine ⟨0, fun L hL => ?_⟩
  simp only [go_sem, ir66, fz1, z2]
 ·try simp only [go_sem, n1, n2, n3, n4] at z2
  all_goals
  obtain rfl := so_some h
  refine ⟨0, fun L hL => ?_⟩
  simp only [go_sem, ir66, fz1, z2]


def ir31_v : List Nat := [0, 1, 3, 4, 5]
def ir31 : AFn := ⟨2, 5, .seq (.region false [ VO 2 3 (.box (.v 1)), VO 3 4 (.mov (I6 0))]) (.seq (.region false [ PM 8 0, PO 9 (.mkFn (.func 67) [] [(.v 2)]), PO 10 (.call 66 [(.s 1), (.s 0)]), PO 7 (.mov (.s 0)), PO 11 (.ext (.s 0) 0), PO 12 (.ext (.s 1) 1), VS 4 5 1, PO 6 (.mov (.s 0))]) (.seq (.region false [ PM 13 4, VS 3 4 0]) (.ret))), [.t 3]⟩
noncomputable def t_20 : List (Nat × Ctr) := [(66, c_19)]
theorem lk_20_66 : look t_20 66 = some c_19 := rfl
noncomputable def c_20 : Ctr := mkF t_20 ir31 [.bor, .bor]
theorem s_20 : Sound Tryz.prog 31 c_20 := mkF_sound _ rfl (snd_cons s_19 snd_nil) (by kernel_rfl : chkFn Tryz.prog 31 ir31 ir31_v = true)
theorem M_20 : c_20.modes = [.bor, .bor] := rfl
theorem Fl_20 : c_20.flat = true := rfl
attribute [go_sem] M_20 Fl_20
attribute [go_sem] lk_20_66
theorem Fs_20 {names : List (List UInt8)} {name : List UInt8} {y_ : Int} (h : impl_placeOf names name = some y_) : c_20.F [.sl 1 (List.map AV.str names), .str name] = ⟨true, .int .i64 y_, [.any, .any]⟩ := by
 refine mkF_E rfl ?_
 dsimp only [impl_placeOf] at h
 obtain ⟨y_1, z1, h⟩ := bd_some h
 have fz1 := Fs_19 z1
 try simp only [go_sem] at fz1
 obtain rfl := so_some h
 refine ⟨0, fun L hL => ?_⟩
 simp only [go_sem, ir31, fz1]


def ir32_v : List Nat := [0, 2]
def ir32 : AFn := ⟨1, 2, .seq (.region false [ VO 1 2 (.mov (I6 0))]) (.seq (.test false [ PM 3 0, PO 4 (.bin false .lss (.s 0) (I6 0))] (.s 0) (.seq (.region false [ PM 5 0, PO 6 (.bin false .mul (.c (.int .i64 (-2))) (.s 0)), PO 7 (.bin false .sub (.s 0) (I6 1)), VS 1 2 0]) (.ret)) (.skip)) (.seq (.region false [ PM 8 0, PO 9 (.bin false .mul (I6 2) (.s 0)), VS 1 2 0]) (.ret))), [.t 1]⟩
noncomputable def t_21 : List (Nat × Ctr) := []
noncomputable def c_21 : Ctr := mkF t_21 ir32 [.bor]
theorem s_21 : Sound Tryz.prog 32 c_21 := mkF_sound _ rfl snd_nil (by kernel_rfl : chkFn Tryz.prog 32 ir32 ir32_v = true)
theorem M_21 : c_21.modes = [.bor] := rfl
theorem Fl_21 : c_21.flat = true := rfl
attribute [go_sem] M_21 Fl_21
theorem Fs_21 {n : Int} {y_ : Int} (h : impl_fold n = some y_) : c_21.F [.int .i64 n] = ⟨true, .int .i64 y_, [.any]⟩ := by
 refine mkF_E rfl ?_
 dsimp only [impl_fold] at h
 rcases it_some h with ⟨z1, h⟩ | ⟨z1, h⟩
 ·try simp only [go_sem, n1, n2, n3, n4] at z1
  all_goals
  obtain rfl := so_some h
  refine ⟨0, fun L hL => ?_⟩
  simp only [go_sem, ir32, z1]
 ·try simp only [go_sem, n1, n2, n3, n4] at z1
  all_goals
  obtain rfl := so_some h
  refine ⟨0, fun L hL => ?_⟩
  simp only [go_sem, ir32, z1]


def ir101_v : List Nat := [0, 1, 2, 6]
def ir101 : AFn := ⟨3, 4, .seq (.region false [ VO 3 6 (.mov (.c (.bool false)))]) (.seq (.region false [ PM 7 0, PM 8 1, PO 9 (.bin false .geq (.s 1) (.s 0)), PO 10 (.mov (.s 0)), ⟨.push, 11, (some ((.s 0), true)), .mov (.v 0)⟩, ⟨.push, 12, (some ((.s 1), true)), .mov (.v 2)⟩, ⟨.push, 13, (some ((.s 2), true)), .bin false .leq (.s 1) (.s 0)⟩, PO 14 (.pick (.s 3) (.s 0) (.c (.bool false))), VS 3 6 0]) (.ret)), [.t 3]⟩
noncomputable def t_22 : List (Nat × Ctr) := []
noncomputable def c_22 : Ctr := mkF t_22 ir101 [.bor, .bor, .bor]
theorem s_22 : Sound Tryz.prog 101 c_22 := mkF_sound _ rfl snd_nil (by kernel_rfl : chkFn Tryz.prog 101 ir101 ir101_v = true)
theorem M_22 : c_22.modes = [.bor, .bor, .bor] := rfl
theorem Fl_22 : c_22.flat = true := rfl
attribute [go_sem] M_22 Fl_22
theorem Fs_22 {n : Int} {low : Int} {high : Int} {y_ : Bool} (h : impl_in n low high = some y_) : c_22.F [.int .i64 n, .int .i64 low, .int .i64 high] = ⟨true, .bool y_, [.any, .any, .any]⟩ := by
 refine mkF_E rfl ?_
 dsimp only [impl_in] at h
 obtain rfl := so_some h
 refine ⟨0, fun L hL => ?_⟩
 simp only [go_sem, ir101]


def ir78_v : List Nat := [0, 2]
def ir78 : AFn := ⟨1, 2, .seq (.region false [ VO 1 2 (.mov (.c (.bool false)))]) (.seq (.region false [ PM 3 0, PO 4 (.call 101 [(.s 0), (I6 0), (I6 10000000)]), VS 1 2 0]) (.ret)), [.t 1]⟩
noncomputable def t_23 : List (Nat × Ctr) := [(101, c_22)]
theorem lk_23_101 : look t_23 101 = some c_22 := rfl
noncomputable def c_23 : Ctr := mkF t_23 ir78 [.bor]
theorem s_23 : Sound Tryz.prog 78 c_23 := mkF_sound _ rfl (snd_cons s_22 snd_nil) (by kernel_rfl : chkFn Tryz.prog 78 ir78 ir78_v = true)
theorem M_23 : c_23.modes = [.bor] := rfl
theorem Fl_23 : c_23.flat = true := rfl
attribute [go_sem] M_23 Fl_23
attribute [go_sem] lk_23_101
theorem Fs_23 {t : Int} {y_ : Bool} (h : impl_ValidTime t = some y_) : c_23.F [.int .i64 t] = ⟨true, .bool y_, [.any]⟩ := by
 refine mkF_E rfl ?_
 dsimp only [impl_ValidTime] at h
 obtain ⟨y_1, z1, h⟩ := bd_some h
 have fz1 := Fs_22 z1
 try simp only [go_sem] at fz1
 obtain rfl := so_some h
 refine ⟨0, fun L hL => ?_⟩
 simp only [go_sem, ir78, fz1]


def ir91_b0 : IR := .seq (.region false [ VO 7 17 (.bin false .lss (.v 6) (.v 5))]) (.seq (.cond (.v 7) (.skip) (.exit 0)) (.seq (.block 1 (.seq (.region false [ PM 18 6, VS 2 3 0]) (.seq (.region false [ PM 19 0, PM 20 2, PO 21 (.ixStr (.s 1) (.s 0)), PO 22 (.bin false .geq (.s 0) (.c (.int .u8 (97)))), PO 23 (.mov (.s 0)), ⟨.push, 24, (some ((.s 0), true)), .mov (.v 0)⟩, ⟨.push, 25, (some ((.s 1), true)), .mov (.v 2)⟩, ⟨.push, 26, (some ((.s 2), true)), .ixStr (.s 1) (.s 0)⟩, ⟨.push, 27, (some ((.s 3), true)), .bin false .leq (.s 0) (.c (.int .u8 (122)))⟩, PO 28 (.pick (.s 4) (.s 0) (.c
 (.bool false))), VS 3 4 0]) (.seq (.region false [ PM 29 0, PM 30 2, PO 31 (.ixStr (.s 1) (.s 0)), PO 32 (.bin false .geq (.s 0) (.c (.int .u8 (48)))), PO 33 (.mov (.s 0)), ⟨.push, 34, (some ((.s 0), true)), .mov (.v 0)⟩, ⟨.push, 35, (some ((.s 1), true)), .mov (.v 2)⟩, ⟨.push, 36, (some ((.s 2), true)), .ixStr (.s 1) (.s 0)⟩, ⟨.push, 37, (some ((.s 3), true)), .bin false .leq (.s 0) (.c (.int .u8 (57)))⟩, PO 38 (.pick (.s 4) (.s 0) (.c (.bool false))), PO 39 (.mov (.s 0)), ⟨.push, 40, (some ((.s 0), false)), .mov (.v 0)⟩, ⟨.push, 41, (some ((.s 1), false)), .mov (.v 2)⟩, ⟨.push, 42, (some
 ((.s 2), false)), .ixStr (.s 1) (.s 0)⟩, ⟨.push, 43, (some ((.s 3), false)), .bin false .eql (.s 0) (.c (.int .u8 (45)))⟩, PO 44 (.pick (.s 4) (.c (.bool true)) (.s 0)), VS 4 5 0]) (.test false [ PM 45 3, PO 46 (.un .not (.s 0)), PO 47 (.mov (.s 0)), ⟨.push, 48, (some ((.s 0), true)), .mov (.v 2)⟩, ⟨.push, 49, (some ((.s 1), true)), .bin false .eql (.s 0) (I6 0)⟩, ⟨.push, 50, (some ((.s 2), true)), .mov (.s 0)⟩, ⟨.push, 51, (some ((.s 0), false)), .mov (.v 4)⟩, ⟨.push, 52, (some ((.s 1), false)), .un .not (.s 0)⟩, ⟨.push, 53, (some ((.s 5), true)), .pick (.s 2) (.c (.bool true)) (.s 0)⟩, PO 54
 (.pick (.s 6) (.s 0) (.c (.bool false)))] (.s 0) (.seq (.region false [ VO 1 2 (.mov (.c (.bool false)))]) (.ret)) (.skip)))))) (.region false [ PO 55 (.bin false .add (.v 6) (I6 1)), VS 6 16 0])))
def ir91_k0 : List Bool := [true, false, false, false, false, true, true, false]
def ir91_o0 : List Bool := [false, false, false, false, false, false, false, false]
def ir91_r0 : List Bool := [false, true, false, false, false, false, false, false]
def ir91_v : List Nat := [0, 2, 3, 4, 5, 15, 16, 17]
def ir91 : AFn := ⟨1, 8, .seq (.region false [ VO 1 2 (.mov (.c (.bool false)))]) (.seq (.test false [ PM 6 0, PO 7 (.len true (.s 0)), PO 8 (.bin false .lss (.s 0) (I6 1)), PO 9 (.mov (.s 0)), ⟨.push, 10, (some ((.s 0), false)), .mov (.v 0)⟩, ⟨.push, 11, (some ((.s 1), false)), .len true (.s 0)⟩, ⟨.push, 12, (some ((.s 2), false)), .bin false .gtr (.s 0) (I6 12)⟩, PO 13 (.pick (.s 3) (.c (.bool true)) (.s 0))] (.s 0) (.seq (.region false [ VO 1 2 (.mov (.c (.bool false)))]) (.ret)) (.skip)) (.seq (.seq (.region false [ PM 14 0, VO 5 15 (.len true (.s 0)), VO 6 16 (.mov (I6 0))]) (.block 0
 (.loop ir91_k0 ir91_o0 ir91_r0 ir91_b0))) (.seq (.region false [ VO 1 2 (.mov (.c (.bool true)))]) (.ret)))), [.t 1]⟩
noncomputable def t_24 : List (Nat × Ctr) := []
noncomputable def c_24 : Ctr := mkF t_24 ir91 [.bor]
theorem s_24 : Sound Tryz.prog 91 c_24 := mkF_sound _ rfl snd_nil (by kernel_rfl : chkFn Tryz.prog 91 ir91 ir91_v = true)
theorem M_24 : c_24.modes = [.bor] := rfl
theorem Fl_24 : c_24.flat = true := rfl
attribute [go_sem] M_24 Fl_24
def E_24_l1 (s_ : List UInt8) (t15 : Int) : Int → St
 | t16 => ⟨[.str s_, .any, .any, .any, .any, .int .i64 t15, .int .i64 t16, .any], [], [], true⟩
def R_24_l1 (s_ : List UInt8) (t15 : Int) : (Unit ⊕ Bool) → Res
 | .inl y => (.exit 0, ⟨[.any, .any, .any, .any, .any, .any, .any, .any], [], [], true⟩)
 | .inr y => (.ret, ⟨[.any, .bool y, .any, .any, .any, .any, .any, .any], [], [], true⟩)
theorem impl_IsName_l1_ex {s_ : List UInt8} {t15 : Int} {sgm_ : Int} {rho_ : Unit ⊕ Bool} (h : whileE (impl_IsName_l1 s_ t15) sgm_ = some rho_) : ∃ L0, ∀ L, L0 ≤ L → iter (exec (look t_24) L ir91_b0) ir91_k0 ir91_o0 ir91_r0 L (E_24_l1 s_ t15 sgm_) = R_24_l1 s_ t15 rho_ := by
 refine loop_ex (E := E_24_l1 s_ t15) (R := R_24_l1 s_ t15) (fun y => by first | (intro c; cases c) | (rcases y with y | y <;> (intro c; cases c)) | (rcases y with y | y | y <;> (intro c; cases c))) ?_ h
 clear h
 intro t16 o_ h
 dsimp only [impl_IsName_l1] at h
 rcases it_some h with ⟨z2, h⟩ | ⟨z2, h⟩
 ·try simp only [go_sem, n1, n2, n3, n4] at z2
  all_goals
  obtain ⟨z3, h⟩ := ck_some h
  try simp only [go_sem, n1, n2, n3, n4, z2] at z3
  all_goals
  rcases it_some h with ⟨z4, h⟩ | ⟨z4, h⟩
  ·try simp only [go_sem, n1, n2, n3, n4, z2, z3] at z4
   all_goals
   obtain rfl := so_some h
   refine ⟨0, fun L hL => ?_⟩
   simp only [go_sem, ir91, E_24_l1, R_24_l1, ir91_b0, ir91_k0, ir91_o0, ir91_r0, z2, z3, z4]
  ·try simp only [go_sem, n1, n2, n3, n4, z2, z3] at z4
   all_goals
   obtain rfl := so_some h
   refine ⟨0, fun L hL => ?_⟩
   simp only [go_sem, ir91, E_24_l1, R_24_l1, ir91_b0, ir91_k0, ir91_o0, ir91_r0, z2, z3, z4]
 ·try simp only [go_sem, n1, n2, n3, n4] at z2
  all_goals
  obtain rfl := so_some h
  refine ⟨0, fun L hL => ?_⟩
  simp only [go_sem, ir91, E_24_l1, R_24_l1, ir91_b0, ir91_k0, ir91_o0, ir91_r0, z2]

theorem Fs_24 {s_ : List UInt8} {y_ : Bool} (h : impl_IsName s_ = some y_) : c_24.F [.str s_] = ⟨true, .bool y_, [.any]⟩ := by
 refine mkF_E rfl ?_
 dsimp only [impl_IsName] at h
 rcases it_some h with ⟨z1, h⟩ | ⟨z1, h⟩
 ·try simp only [go_sem, n1, n2, n3, n4] at z1
  all_goals
  obtain rfl := so_some h
  refine ⟨0, fun L hL => ?_⟩
  simp only [go_sem, ir91, E_24_l1, R_24_l1, ir91_k0, ir91_o0, ir91_r0, z1]
 ·try simp only [go_sem, n1, n2, n3, n4] at z1
  all_goals
  obtain ⟨y_5, z5, h⟩ := bd_some h
  obtain ⟨Lz5, ez5⟩ := impl_IsName_l1_ex z5
  rcases y_5 with y_5a | y_5b
  ·dsimp only at h
   obtain rfl := so_some h
   refine ⟨Lz5, fun L hL => ?_⟩
   have ez5 := ez5 L (by omega)
   try simp only [go_sem, E_24_l1, R_24_l1, ir91_k0, ir91_o0, ir91_r0, z1] at ez5
   simp only [go_sem, ir91, E_24_l1, R_24_l1, ir91_k0, ir91_o0, ir91_r0, z1, ez5]
  ·dsimp only at h
   obtain rfl := so_some h
   refine ⟨Lz5, fun L hL => ?_⟩
   have ez5 := ez5 L (by omega)
   try simp only [go_sem, E_24_l1, R_24_l1, ir91_k0, ir91_o0, ir91_r0, z1] at ez5
   simp only [go_sem, ir91, E_24_l1, R_24_l1, ir91_k0, ir91_o0, ir91_r0, z1, ez5]


def ir79_v : List Nat := [0, 2]
def ir79 : AFn := ⟨1, 2, .seq (.region false [ VO 1 2 (.mov (.c (.bool false)))]) (.seq (.region false [ PM 3 0, PO 4 (.call 101 [(.s 0), (.c (.int .i64 (-2000))), (I6 20000)]), VS 1 2 0]) (.ret)), [.t 1]⟩
noncomputable def t_25 : List (Nat × Ctr) := [(101, c_22)]
theorem lk_25_101 : look t_25 101 = some c_22 := rfl
noncomputable def c_25 : Ctr := mkF t_25 ir79 [.bor]
theorem s_25 : Sound Tryz.prog 79 c_25 := mkF_sound _ rfl (snd_cons s_22 snd_nil) (by kernel_rfl : chkFn Tryz.prog 79 ir79 ir79_v = true)
theorem M_25 : c_25.modes = [.bor] := rfl
theorem Fl_25 : c_25.flat = true := rfl
attribute [go_sem] M_25 Fl_25
attribute [go_sem] lk_25_101
theorem Fs_25 {m : Int} {y_ : Bool} (h : impl_ValidMag m = some y_) : c_25.F [.int .i64 m] = ⟨true, .bool y_, [.any]⟩ := by
 refine mkF_E rfl ?_
 dsimp only [impl_ValidMag] at h
 obtain ⟨y_1, z1, h⟩ := bd_some h
 have fz1 := Fs_22 z1
 try simp only [go_sem] at fz1
 obtain rfl := so_some h
 refine ⟨0, fun L hL => ?_⟩
 simp only [go_sem, ir79, fz1]


def ir62_v : List Nat := [0, 1, 2]
def ir62 : AFn := ⟨1, 3, .seq (.region false [ VO 1 1 (.box (.v 0)), VO 2 2 (.mov (.c (.bool false)))]) (.seq (.region false [ PO 3 (.fldAddr 0 (.v 1)), PO 4 (.load false 1 (.s 0)), PO 5 (.call 78 [(.s 0)]), PO 6 (.mov (.s 0)), ⟨.push, 7, (some ((.s 0), true)), .fldAddr 1 (.v 1)⟩, ⟨.push, 8, (some ((.s 1), true)), .load false 1 (.s 0)⟩, ⟨.push, 9, (some ((.s 2), true)), .call 91 [(.s 0)]⟩, PO 10 (.pick (.s 3) (.s 0) (.c (.bool false))), PO 11 (.mov (.s 0)), ⟨.push, 12, (some ((.s 0), true)), .fldAddr 2 (.v 1)⟩, ⟨.push, 13, (some ((.s 1), true)), .load false 1 (.s 0)⟩, ⟨.push, 14, (some ((.s 2),
 true)), .call 91 [(.s 0)]⟩, PO 15 (.pick (.s 3) (.s 0) (.c (.bool false))), PO 16 (.mov (.s 0)), ⟨.push, 17, (some ((.s 0), true)), .fldAddr 3 (.v 1)⟩, ⟨.push, 18, (some ((.s 1), true)), .load false 1 (.s 0)⟩, ⟨.push, 19, (some ((.s 2), true)), .call 79 [(.s 0)]⟩, PO 20 (.pick (.s 3) (.s 0) (.c (.bool false))), VS 2 2 0]) (.ret)), [.t 2]⟩
noncomputable def t_26 : List (Nat × Ctr) := [(78, c_23), (91, c_24), (79, c_25)]
theorem lk_26_78 : look t_26 78 = some c_23 := rfl
theorem lk_26_91 : look t_26 91 = some c_24 := rfl
theorem lk_26_79 : look t_26 79 = some c_25 := rfl
noncomputable def c_26 : Ctr := mkF t_26 ir62 [.bor]
theorem s_26 : Sound Tryz.prog 62 c_26 := mkF_sound _ rfl (snd_cons s_23 (snd_cons s_24 (snd_cons s_25 snd_nil))) (by kernel_rfl : chkFn Tryz.prog 62 ir62 ir62_v = true)
theorem M_26 : c_26.modes = [.bor] := rfl
theorem Fl_26 : c_26.flat = true := rfl
attribute [go_sem] M_26 Fl_26
attribute [go_sem] lk_26_78 lk_26_91 lk_26_79
theorem Fs_26 {e_ : Estimate} {y_ : Bool} (h : impl_isEstimate e_ = some y_) : c_26.F [Estimate_av e_] = ⟨true, .bool y_, [.any]⟩ := by
 refine mkF_E rfl ?_
 dsimp only [impl_isEstimate] at h
 obtain ⟨y_1, z1, h⟩ := bd_some h
 have fz1 := Fs_23 z1
 try simp only [go_sem] at fz1
 obtain ⟨z2, h⟩ := ck_some h
 rcases or_split z2 with ⟨gz2, z2⟩ | gz2
 ·try simp only [go_sem, n1, n2, n3, n4] at gz2
  all_goals
  obtain ⟨y_2, hz2⟩ := Option.isSome_iff_exists.1 z2
  have fz2 := Fs_24 hz2
  try simp only [go_sem, n1, n2, n3, n4, gz2] at hz2
  all_goals
  try simp only [go_sem, gz2] at fz2
  obtain ⟨z3, h⟩ := ck_some h
  rcases or_split z3 with ⟨gz3, z3⟩ | gz3
  ·try simp only [go_sem, n1, n2, n3, n4, gz2, hz2] at gz3
   all_goals
   obtain ⟨y_3, hz3⟩ := Option.isSome_iff_exists.1 z3
   have fz3 := Fs_24 hz3
   try simp only [go_sem, n1, n2, n3, n4, gz2, hz2, gz3] at hz3
   all_goals
   try simp only [go_sem, gz2, hz2, gz3] at fz3
   obtain ⟨z4, h⟩ := ck_some h
   rcases or_split z4 with ⟨gz4, z4⟩ | gz4
   ·try simp only [go_sem, n1, n2, n3, n4, gz2, hz2, gz3, hz3] at gz4
    all_goals
    obtain ⟨y_4, hz4⟩ := Option.isSome_iff_exists.1 z4
    have fz4 := Fs_25 hz4
    try simp only [go_sem, n1, n2, n3, n4, gz2, hz2, gz3, hz3, gz4] at hz4
    all_goals
    try simp only [go_sem, gz2, hz2, gz3, hz3, gz4] at fz4
    obtain rfl := so_some h
    refine ⟨0, fun L hL => ?_⟩
    simp only [go_sem, ir62, fz1, gz2, hz2, fz2, gz3, hz3, fz3, gz4, hz4, fz4]
   ·rcases and_f gz4 with gz4a | ⟨gz4a, gz4b⟩
    ·try simp only [go_sem, n1, n2, n3, n4, gz2, hz2, gz3, hz3] at gz4a
     all_goals
     (simp_all)
    ·obtain ⟨gz4aa, gz4ab⟩ := and_t gz4a
     try simp only [go_sem, n1, n2, n3, n4, gz2, hz2, gz3, hz3] at gz4aa
     all_goals
     try simp only [go_sem, n1, n2, n3, n4, gz2, hz2, gz3, hz3, gz4aa] at gz4ab
     all_goals
     try simp only [go_sem, n1, n2, n3, n4, gz2, hz2, gz3, hz3, gz4aa, gz4ab] at gz4b
     all_goals
     obtain rfl := so_some h
     refine ⟨0, fun L hL => ?_⟩
     simp only [go_sem, ir62, fz1, gz2, hz2, fz2, gz3, hz3, fz3, gz4aa, gz4ab, gz4b]
  ·rcases and_f gz3 with gz3a | ⟨gz3a, gz3b⟩
   ·try simp only [go_sem, n1, n2, n3, n4, gz2, hz2] at gz3a
    all_goals
    (simp_all)
   ·try simp only [go_sem, n1, n2, n3, n4, gz2, hz2] at gz3a
    all_goals
    try simp only [go_sem, n1, n2, n3, n4, gz2, hz2, gz3a] at gz3b
    all_goals
    obtain ⟨z4, h⟩ := ck_some h
    obtain rfl := so_some h
    refine ⟨0, fun L hL => ?_⟩
    simp only [go_sem, ir62, fz1, gz2, hz2, fz2, gz3a, gz3b]
 ·try simp only [go_sem, n1, n2, n3, n4] at gz2
  all_goals
  obtain ⟨z3, h⟩ := ck_some h
  obtain ⟨z4, h⟩ := ck_some h
  obtain rfl := so_some h
  refine ⟨0, fun L hL => ?_⟩
  simp only [go_sem, ir62, fz1, gz2]


def ir103_v : List Nat := [0, 2]
def ir103 : AFn := ⟨1, 2, .seq (.region false [ VO 1 2 (.mov (.c (.bool false)))]) (.seq (.region false [ PM 3 0, PM 4 0, PO 5 (.bin false .neq (.s 1) (.s 0)), VS 1 2 0]) (.ret)), [.t 1]⟩
noncomputable def t_27 : List (Nat × Ctr) := []
noncomputable def c_27 : Ctr := mkF t_27 ir103 [.bor]
theorem s_27 : Sound Tryz.prog 103 c_27 := mkF_sound _ rfl snd_nil (by kernel_rfl : chkFn Tryz.prog 103 ir103 ir103_v = true)
theorem M_27 : c_27.modes = [.bor] := rfl
theorem Fl_27 : c_27.flat = true := rfl
attribute [go_sem] M_27 Fl_27
theorem Fs_27 {x : Int} {y_ : Bool} (h : cmp_isNaN_int64 x = some y_) : c_27.F [.int .i64 x] = ⟨true, .bool y_, [.any]⟩ := by
 refine mkF_E rfl ?_
 dsimp only [cmp_isNaN_int64] at h
 obtain rfl := so_some h
 refine ⟨0, fun L hL => ?_⟩
 simp only [go_sem, ir103]


def ir93_v : List Nat := [0, 1, 4, 5, 6]
def ir93 : AFn := ⟨2, 5, .seq (.region false [ VO 2 4 (.mov (I6 0))]) (.seq (.region false [ PM 7 0, PO 8 (.call 103 [(.s 0)]), VS 3 5 0]) (.seq (.region false [ PM 9 1, PO 10 (.call 103 [(.s 0)]), VS 4 6 0]) (.seq (.test false [ PM 11 3] (.s 0) (.seq (.test false [ PM 12 4] (.s 0) (.seq (.region false [ VO 2 4 (.mov (I6 0))]) (.ret)) (.skip)) (.seq (.region false [ VO 2 4 (.mov (.c (.int .i64 (-1))))]) (.ret))) (.skip)) (.seq (.test false [ PM 13 4] (.s 0) (.seq (.region false [ VO 2 4 (.mov (I6 1))]) (.ret)) (.skip)) (.seq (.test false [ PM 14 0, PM 15 1, PO 16 (.bin false .lss (.s 1) (.s
 0))] (.s 0) (.seq (.region false [ VO 2 4 (.mov (.c (.int .i64 (-1))))]) (.ret)) (.skip)) (.seq (.test false [ PM 17 0, PM 18 1, PO 19 (.bin false .gtr (.s 1) (.s 0))] (.s 0) (.seq (.region false [ VO 2 4 (.mov (I6 1))]) (.ret)) (.skip)) (.seq (.region false [ VO 2 4 (.mov (I6 0))]) (.ret)))))))), [.t 2]⟩
noncomputable def t_28 : List (Nat × Ctr) := [(103, c_27)]
theorem lk_28_103 : look t_28 103 = some c_27 := rfl
noncomputable def c_28 : Ctr := mkF t_28 ir93 [.bor, .bor]
theorem s_28 : Sound Tryz.prog 93 c_28 := mkF_sound _ rfl (snd_cons s_27 snd_nil) (by kernel_rfl : chkFn Tryz.prog 93 ir93 ir93_v = true)
theorem M_28 : c_28.modes = [.bor, .bor] := rfl
theorem Fl_28 : c_28.flat = true := rfl
attribute [go_sem] M_28 Fl_28
attribute [go_sem] lk_28_103
theorem Fs_28 {x : Int} {y : Int} {y_ : Int} (h : cmp_Compare_int64 x y = some y_) : c_28.F [.int .i64 x, .int .i64 y] = ⟨true, .int .i64 y_, [.any, .any]⟩ := by
 refine mkF_E rfl ?_
 dsimp only [cmp_Compare_int64] at h
 obtain ⟨y_1, z1, h⟩ := bd_some h
 have fz1 := Fs_27 z1
 try simp only [go_sem] at fz1
 obtain ⟨y_2, z2, h⟩ := bd_some h
 have fz2 := Fs_27 z2
 try simp only [go_sem] at fz2
 rcases it_some h with ⟨z3, h⟩ | ⟨z3, h⟩
 ·try simp only [go_sem, n1, n2, n3, n4] at z3
  all_goals
  rcases it_some h with ⟨z4, h⟩ | ⟨z4, h⟩
  ·try simp only [go_sem, n1, n2, n3, n4, z3] at z4
   all_goals
   obtain rfl := so_some h
   refine ⟨0, fun L hL => ?_⟩
   simp only [go_sem, ir93, fz1, fz2, z3, z4]
  ·try simp only [go_sem, n1, n2, n3, n4, z3] at z4
   all_goals
   obtain rfl := so_some h
   refine ⟨0, fun L hL => ?_⟩
   simp only [go_sem, ir93, fz1, fz2, z3, z4]
 ·try simp only [go_sem, n1, n2, n3, n4] at z3
  all_goals
  rcases it_some h with ⟨z5, h⟩ | ⟨z5, h⟩
  ·try simp only [go_sem, n1, n2, n3, n4, z3] at z5
   all_goals
   obtain rfl := so_some h
   refine ⟨0, fun L hL => ?_⟩
   simp only [go_sem, ir93, fz1, fz2, z3, z5]
  ·try simp only [go_sem, n1, n2, n3, n4, z3] at z5
   all_goals
   rcases it_some h with ⟨z6, h⟩ | ⟨z6, h⟩
   ·try simp only [go_sem, n1, n2, n3, n4, z3, z5] at z6
    all_goals
    obtain rfl := so_some h
    refine ⟨0, fun L hL => ?_⟩
    simp only [go_sem, ir93, fz1, fz2, z3, z5, z6]
   ·try simp only [go_sem, n1, n2, n3, n4, z3, z5] at z6
    all_goals
    rcases it_some h with ⟨z7, h⟩ | ⟨z7, h⟩
    ·try simp only [go_sem, n1, n2, n3, n4, z3, z5, z6] at z7
     all_goals
     obtain rfl := so_some h
     refine ⟨0, fun L hL => ?_⟩
     simp only [go_sem, ir93, fz1, fz2, z3, z5, z6, z7]
    ·try simp only [go_sem, n1, n2, n3, n4, z3, z5, z6] at z7
     all_goals
     obtain rfl := so_some h
     refine ⟨0, fun L hL => ?_⟩
     simp only [go_sem, ir93, fz1, fz2, z3, z5, z6, z7]


theorem s_hCmp : Sound Tryz.prog 118 c_hCmp := hCmp_sound Tryz.func118 (by kernel_rfl) (by kernel_rfl) (by kernel_rfl) (by kernel_rfl)

def ir104_v : List Nat := [0, 1, 4]
def ir104 : AFn := ⟨2, 3, .seq (.region false [ VO 2 4 (.mov (I6 0))]) (.seq (.region false [ PM 5 0, PM 6 1, PO 7 (.call 118 [(.s 1), (.s 0)]), VS 2 4 0]) (.ret)), [.t 2]⟩
noncomputable def t_30 : List (Nat × Ctr) := [(118, c_hCmp)]
theorem lk_30_118 : look t_30 118 = some c_hCmp := rfl
noncomputable def c_30 : Ctr := mkF t_30 ir104 [.bor, .bor]
theorem s_30 : Sound Tryz.prog 104 c_30 := mkF_sound _ rfl (snd_cons s_hCmp snd_nil) (by kernel_rfl : chkFn Tryz.prog 104 ir104 ir104_v = true)
theorem M_30 : c_30.modes = [.bor, .bor] := rfl
theorem Fl_30 : c_30.flat = true := rfl
attribute [go_sem] M_30 Fl_30
attribute [go_sem] lk_30_118
theorem Fs_30 {a : List UInt8} {b : List UInt8} {y_ : Int} (h : internal_bytealg_CompareString a b = some y_) : c_30.F [.str a, .str b] = ⟨true, .int .i64 y_, [.any, .any]⟩ := by
 refine mkF_E rfl ?_
 dsimp only [internal_bytealg_CompareString] at h
 obtain ⟨y_1, z1, h⟩ := bd_some h
 have fz1 := Fs_hCmp z1
 try simp only [go_sem] at fz1
 obtain rfl := so_some h
 refine ⟨0, fun L hL => ?_⟩
 simp only [go_sem, ir104, fz1]


def ir94_v : List Nat := [0, 1, 4]
def ir94 : AFn := ⟨2, 3, .seq (.region false [ VO 2 4 (.mov (I6 0))]) (.seq (.region false [ PM 5 0, PM 6 1, PO 7 (.call 104 [(.s 1), (.s 0)]), VS 2 4 0]) (.ret)), [.t 2]⟩
noncomputable def t_31 : List (Nat × Ctr) := [(104, c_30)]
theorem lk_31_104 : look t_31 104 = some c_30 := rfl
noncomputable def c_31 : Ctr := mkF t_31 ir94 [.bor, .bor]
theorem s_31 : Sound Tryz.prog 94 c_31 := mkF_sound _ rfl (snd_cons s_30 snd_nil) (by kernel_rfl : chkFn Tryz.prog 94 ir94 ir94_v = true)
theorem M_31 : c_31.modes = [.bor, .bor] := rfl
theorem Fl_31 : c_31.flat = true := rfl
attribute [go_sem] M_31 Fl_31
attribute [go_sem] lk_31_104
theorem Fs_31 {a : List UInt8} {b : List UInt8} {y_ : Int} (h : strings_Compare a b = some y_) : c_31.F [.str a, .str b] = ⟨true, .int .i64 y_, [.any, .any]⟩ := by
 refine mkF_E rfl ?_
 dsimp only [strings_Compare] at h
 obtain ⟨y_1, z1, h⟩ := bd_some h
 have fz1 := Fs_30 z1
 try simp only [go_sem] at fz1
 obtain rfl := so_some h
 refine ⟨0, fun L hL => ?_⟩
 simp only [go_sem, ir94, fz1]


def ir92_b0 : IR := .seq (.region false [ VO 7 9 (.bin false .lss (.v 6) (.v 5))]) (.seq (.cond (.v 7) (.skip) (.exit 0)) (.seq (.block 1 (.seq (.region false [ PO 10 (.ixAddr 1 (.v 4) (.v 6)), PO 11 (.load false 1 (.s 0)), VS 3 5 0]) (.test false [ PM 12 3, PM 13 2, PO 14 (.bin false .neq (.s 1) (.s 0))] (.s 0) (.seq (.region false [ PM 15 3, VS 1 2 0]) (.ret)) (.skip)))) (.region false [ PO 16 (.bin false .add (.v 6) (I6 1)), VS 6 8 0])))
def ir92_k0 : List Bool := [false, false, true, false, true, true, true, false]
def ir92_o0 : List Bool := [false, false, true, false, false, false, false, false]
def ir92_r0 : List Bool := [false, true, false, false, false, false, false, false]
def ir92_v : List Nat := [0, 2, 3, 5, 6, 7, 8, 9]
def ir92 : AFn := ⟨1, 8, .seq (.region false [ VO 1 2 (.mov (I6 0))]) (.seq (.region false [ VO 2 3 (.mov (I6 0))]) (.seq (.seq (.region false [ VO 4 6 (.mov (.v 0)), VO 5 7 (.len false (.v 4)), VO 6 8 (.mov (I6 0))]) (.block 0 (.loop ir92_k0 ir92_o0 ir92_r0 ir92_b0))) (.seq (.region false [ PM 17 2, VS 1 2 0]) (.ret)))), [.t 1]⟩
noncomputable def t_32 : List (Nat × Ctr) := []
noncomputable def c_32 : Ctr := mkF t_32 ir92 [.bor]
theorem s_32 : Sound Tryz.prog 92 c_32 := mkF_sound _ rfl snd_nil (by kernel_rfl : chkFn Tryz.prog 92 ir92 ir92_v = true)
theorem M_32 : c_32.modes = [.bor] := rfl
theorem Fl_32 : c_32.flat = true := rfl
attribute [go_sem] M_32 Fl_32
def E_32_l1 (zero : Int) (t6 : List Int) (t7 : Int) : Int → St
 | t8 => ⟨[.any, .any, .int .i64 zero, .any, .sl 1 (List.map (AV.int .i64) t6), .int .i64 t7, .int .i64 t8, .any], [], [], true⟩
def R_32_l1 (zero : Int) (t6 : List Int) (t7 : Int) : (Unit ⊕ Int) → Res
 | .inl y => (.exit 0, ⟨[.any, .any, .int .i64 zero, .any, .any, .any, .any, .any], [], [], true⟩)
 | .inr y => (.ret, ⟨[.any, .int .i64 y, .any, .any, .any, .any, .any, .any], [], [], true⟩)
theorem cmp_Or_int_l1_ex {zero : Int} {t6 : List Int} {t7 : Int} {sgm_ : Int} {rho_ : Unit ⊕ Int} (h : whileE (cmp_Or_int_l1 zero t6 t7) sgm_ = some rho_) : ∃ L0, ∀ L, L0 ≤ L → iter (exec (look t_32) L ir92_b0) ir92_k0 ir92_o0 ir92_r0 L (E_32_l1 zero t6 t7 sgm_) = R_32_l1 zero t6 t7 rho_ := by
 refine loop_ex (E := E_32_l1 zero t6 t7) (R := R_32_l1 zero t6 t7) (fun y => by first | (intro c; cases c) | (rcases y with y | y <;> (intro c; cases c)) | (rcases y with y | y | y <;> (intro c; cases c))) ?_ h
 clear h
 intro t8 o_ h
 dsimp only [cmp_Or_int_l1] at h
 rcases it_some h with ⟨z1, h⟩ | ⟨z1, h⟩
 ·try simp only [go_sem, n1, n2, n3, n4] at z1
  all_goals
  obtain ⟨z2, h⟩ := ck_some h
  have lz2 := ix_lt z2
  have xz2 := getD_mapD (AV.int .i64) t6 lz2
  try simp only [go_sem] at lz2
  try simp only [go_sem] at xz2
  try simp only [go_sem, n1, n2, n3, n4, z1] at z2
  all_goals
  rcases it_some h with ⟨z3, h⟩ | ⟨z3, h⟩
  ·try simp only [go_sem, n1, n2, n3, n4, z1, z2] at z3
   all_goals
   obtain rfl := so_some h
   refine ⟨0, fun L hL => ?_⟩
   simp only [go_sem, ir92, E_32_l1, R_32_l1, ir92_b0, ir92_k0, ir92_o0, ir92_r0, z1, z2, lz2, xz2, z3]
  ·try simp only [go_sem, n1, n2, n3, n4, z1, z2] at z3
   all_goals
   obtain rfl := so_some h
   refine ⟨0, fun L hL => ?_⟩
   simp only [go_sem, ir92, E_32_l1, R_32_l1, ir92_b0, ir92_k0, ir92_o0, ir92_r0, z1, z2, lz2, xz2, z3]
 ·try simp only [go_sem, n1, n2, n3, n4] at z1
  all_goals
  obtain rfl := so_some h
  refine ⟨0, fun L hL => ?_⟩
  simp only [go_sem, ir92, E_32_l1, R_32_l1, ir92_b0, ir92_k0, ir92_o0, ir92_r0, z1]

theorem Fs_32 {vals : List Int} {y_ : Int} (h : cmp_Or_int vals = some y_) : c_32.F [.sl 1 (List.map (AV.int .i64) vals)] = ⟨true, .int .i64 y_, [.any]⟩ := by
 refine mkF_E rfl ?_
 dsimp only [cmp_Or_int] at h
 obtain ⟨y_4, z4, h⟩ := bd_some h
 obtain ⟨Lz4, ez4⟩ := cmp_Or_int_l1_ex z4
 rcases y_4 with y_4a | y_4b
 ·dsimp only at h
  obtain rfl := so_some h
  refine ⟨Lz4, fun L hL => ?_⟩
  have ez4 := ez4 L (by omega)
  try simp only [go_sem, E_32_l1, R_32_l1, ir92_k0, ir92_o0, ir92_r0] at ez4
  simp only [go_sem, ir92, E_32_l1, R_32_l1, ir92_k0, ir92_o0, ir92_r0, ez4]
 ·dsimp only at h
  obtain rfl := so_some h
  refine ⟨Lz4, fun L hL => ?_⟩
  have ez4 := ez4 L (by omega)
  try simp only [go_sem, E_32_l1, R_32_l1, ir92_k0, ir92_o0, ir92_r0] at ez4
  simp only [go_sem, ir92, E_32_l1, R_32_l1, ir92_k0, ir92_o0, ir92_r0, ez4]


def ir63_v : List Nat := [0, 1, 2, 3, 4]
def ir63 : AFn := ⟨2, 5, .seq (.region false [ VO 2 2 (.box (.v 0)), VO 3 3 (.box (.v 1)), VO 4 4 (.mov (I6 0))]) (.seq (.anyo 17 [ SO 0 5 (.fldAddr 0 (.v 2)), SO 1 6 (.load false 1 (.s 0)), SO 2 7 (.fldAddr 0 (.v 3)), SO 3 8 (.load false 1 (.s 2)), SO 4 9 (.callp 93 [(.s 1), (.s 3)]), SO 5 10 (.fldAddr 1 (.v 2)), SO 6 11 (.load false 1 (.s 5)), SO 7 12 (.fldAddr 1 (.v 3)), SO 8 13 (.load false 1 (.s 7)), SO 9 14 (.callp 94 [(.s 6), (.s 8)]), SO 10 15 (.fldAddr 2 (.v 2)), SO 11 16 (.load false 1 (.s 10)), SO 12 17 (.fldAddr 2 (.v 3)), SO 13 18 (.load false 1 (.s 12)), SO 14 19 (.callp 94 [(.s
 11), (.s 13)]), SO 15 20 (.pur (.mkSl 1 (.int .i64 (0)) 3 [(0, (.s 4)), (1, (.s 9)), (2, (.s 14))])), SO 16 21 (.callp 92 [(.s 15)]), VS 4 4 16] [] .skip) (.ret)), [.t 4]⟩
noncomputable def t_33 : List (Nat × Ctr) := [(93, c_28), (94, c_31), (92, c_32)]
theorem lk_33_93 : look t_33 93 = some c_28 := rfl
theorem lk_33_94 : look t_33 94 = some c_31 := rfl
theorem lk_33_92 : look t_33 92 = some c_32 := rfl
noncomputable def c_33 : Ctr := mkF t_33 ir63 [.bor, .bor]
theorem s_33 : Sound Tryz.prog 63 c_33 := mkF_sound _ rfl (snd_cons s_28 (snd_cons s_31 (snd_cons s_32 snd_nil))) (by kernel_rfl : chkFn Tryz.prog 63 ir63 ir63_v = true)
theorem M_33 : c_33.modes = [.bor, .bor] := rfl
theorem Fl_33 : c_33.flat = true := rfl
attribute [go_sem] M_33 Fl_33
attribute [go_sem] lk_33_93 lk_33_94 lk_33_92
theorem Fs_33 {a : Estimate} {b : Estimate} {y_ : Int} (h : impl_compareEstimates a b = some y_) : c_33.F [Estimate_av a, Estimate_av b] = ⟨true, .int .i64 y_, [.any, .any]⟩ := by
 refine mkF_E rfl ?_
 dsimp only [impl_compareEstimates] at h
 obtain ⟨y_1, z1, h⟩ := bd_some h
 have fz1 := Fs_28 z1
 try simp only [go_sem] at fz1
 obtain ⟨y_2, z2, h⟩ := bd_some h
 have fz2 := Fs_31 z2
 try simp only [go_sem] at fz2
 obtain ⟨y_3, z3, h⟩ := bd_some h
 have fz3 := Fs_31 z3
 try simp only [go_sem] at fz3
 obtain ⟨y_4, z4, h⟩ := bd_some h
 have fz4 := Fs_32 z4
 try simp only [go_sem] at fz4
 obtain rfl := so_some h
 refine ⟨0, fun L hL => ?_⟩
 simp only [go_sem, ir63, fz1, fz2, fz3, fz4]


def ir24_b0 : IR := .seq (.region false [ VO 7 11 (.bin false .lss (.v 6) (.v 5))]) (.seq (.cond (.v 7) (.skip) (.exit 0)) (.seq (.block 1 (.seq (.region false [ PM 12 6, PO 13 (.ixAddr 5 (.v 4) (.v 6)), PO 14 (.load true 5 (.s 0)), VO 3 4 (.alloc (.agg [.int .i64 (0), .str [], .str [], .int .i64 (0), .bool false])), VS 2 3 2, ⟨.no, 0, none, .store 5 (.v 3) (.s 0)⟩]) (.anyo 17 [ SO 0 15 (.load true 5 (.v 3)), SO 1 16 (.callp 62 [(.s 0)]), SO 2 17 (.un .not (.s 1)), SO 3 18 (.mov (.s 2)), ⟨.slot 4, 19, (some ((.s 3), false)), .mov (.v 2)⟩, ⟨.slot 5, 20, (some ((.s 3), false)), .bin false .gtr
 (.s 4) (I6 0)⟩, ⟨.slot 6, 21, (some ((.s 3), false)), .mov (.s 5)⟩, ⟨.slot 7, 22, (some ((.s 6), true)), .mov (.v 0)⟩, ⟨.slot 8, 23, (some ((.s 6), true)), .mov (.v 2)⟩, ⟨.slot 9, 24, (some ((.s 6), true)), .bin false .sub (.s 8) (I6 1)⟩, ⟨.slot 10, 25, (some ((.s 6), true)), .ixAddr 5 (.s 7) (.s 9)⟩, ⟨.slot 11, 26, (some ((.s 6), true)), .load true 5 (.s 10)⟩, ⟨.slot 12, 27, (some ((.s 6), true)), .load true 5 (.v 3)⟩, ⟨.slot 13, 28, (some ((.s 6), true)), .call 63 [(.s 11), (.s 12)]⟩, ⟨.slot 14, 29, (some ((.s 6), true)), .bin false .geq (.s 13) (I6 0)⟩, ⟨.slot 15, 30, (some ((.s 3),
 false)), .pick (.s 6) (.s 14) (.c (.bool false))⟩, SO 16 31 (.pick (.s 3) (.c (.bool true)) (.s 15))] [] (.cond (.s 16) (.seq (.region false [ VO 1 2 (.mov (.c (.bool false)))]) (.ret)) (.skip))))) (.region false [ PO 32 (.bin false .add (.v 6) (I6 1)), VS 6 10 0])))
def ir24_k0 : List Bool := [true, false, false, false, true, true, true, false]
def ir24_o0 : List Bool := [false, false, false, false, false, false, false, false]
def ir24_r0 : List Bool := [false, true, false, false, false, false, false, false]
def ir24_v : List Nat := [0, 2, 3, 4, 8, 9, 10, 11]
def ir24 : AFn := ⟨1, 8, .seq (.region false [ VO 1 2 (.mov (.c (.bool false)))]) (.seq (.test false [ PM 5 0, PO 6 (.len false (.s 0)), PO 7 (.bin false .gtr (.s 0) (I6 100))] (.s 0) (.seq (.region false [ VO 1 2 (.mov (.c (.bool false)))]) (.ret)) (.skip)) (.seq (.seq (.region false [ VO 4 8 (.mov (.v 0)), VO 5 9 (.len false (.v 4)), VO 6 10 (.mov (I6 0))]) (.block 0 (.loop ir24_k0 ir24_o0 ir24_r0 ir24_b0))) (.seq (.region false [ VO 1 2 (.mov (.c (.bool true)))]) (.ret)))), [.t 1]⟩
noncomputable def t_34 : List (Nat × Ctr) := [(62, c_26), (63, c_33)]
theorem lk_34_62 : look t_34 62 = some c_26 := rfl
theorem lk_34_63 : look t_34 63 = some c_33 := rfl
noncomputable def c_34 : Ctr := mkF t_34 ir24 [.bor]
theorem s_34 : Sound Tryz.prog 24 c_34 := mkF_sound _ rfl (snd_cons s_26 (snd_cons s_33 snd_nil)) (by kernel_rfl : chkFn Tryz.prog 24 ir24 ir24_v = true)
theorem M_34 : c_34.modes = [.bor] := rfl
theorem Fl_34 : c_34.flat = true := rfl
attribute [go_sem] M_34 Fl_34
attribute [go_sem] lk_34_62 lk_34_63
def E_34_l1 (list : List Estimate) (t8 : List Estimate) (t9 : Int) : Int → St
 | t10 => ⟨[.sl 5 (List.map Estimate_av list), .any, .any, .any, .sl 5 (List.map Estimate_av t8), .int .i64 t9, .int .i64 t10, .any], [], [], true⟩
def R_34_l1 (list : List Estimate) (t8 : List Estimate) (t9 : Int) : (Unit ⊕ Bool) → Res
 | .inl y => (.exit 0, ⟨[.any, .any, .any, .any, .any, .any, .any, .any], [], [], true⟩)
 | .inr y => (.ret, ⟨[.any, .bool y, .any, .any, .any, .any, .any, .any], [], [], true⟩)
theorem impl_ValidEstimates_l1_ex {list : List Estimate} {t8 : List Estimate} {t9 : Int} {sgm_ : Int} {rho_ : Unit ⊕ Bool} (h : whileE (impl_ValidEstimates_l1 list t8 t9) sgm_ = some rho_) : ∃ L0, ∀ L, L0 ≤ L → iter (exec (look t_34) L ir24_b0) ir24_k0 ir24_o0 ir24_r0 L (E_34_l1 list t8 t9 sgm_) = R_34_l1 list t8 t9 rho_ := by
 refine loop_ex (E := E_34_l1 list t8 t9) (R := R_34_l1 list t8 t9) (fun y => by first | (intro c; cases c) | (rcases y with y | y <;> (intro c; cases c)) | (rcases y with y | y | y <;> (intro c; cases c))) ?_ h
 clear h
 intro t10 o_ h
 dsimp only [impl_ValidEstimates_l1] at h
 rcases it_some h with ⟨z2, h⟩ | ⟨z2, h⟩
 ·try simp only [go_sem, n1, n2, n3, n4] at z2
  all_goals
  obtain ⟨z3, h⟩ := ck_some h
  have lz3 := ix_lt z3
  have xz3 := getD_mapD Estimate_av t8 lz3
  try simp only [go_sem] at lz3
  try simp only [go_sem] at xz3
  try simp only [go_sem, n1, n2, n3, n4, z2] at z3
  all_goals
  obtain ⟨y_4, z4, h⟩ := bd_some h
  have fz4 := Fs_26 z4
  try simp only [go_sem, z2, z3] at fz4
  obtain ⟨z5, h⟩ := ck_some h
  rcases or_split z5 with ⟨gz5, z5⟩ | gz5
  ·try simp only [go_sem, n1, n2, n3, n4, z2, z3] at gz5
   all_goals
   have lz5 := ix_lt z5
   have xz5 := getD_mapD Estimate_av list lz5
   try simp only [go_sem] at lz5
   try simp only [go_sem] at xz5
   try simp only [go_sem, n1, n2, n3, n4, z2, z3, gz5] at z5
   all_goals
   obtain ⟨z6, h⟩ := ck_some h
   rcases or_split z6 with ⟨gz6, z6⟩ | gz6
   ·try simp only [go_sem, n1, n2, n3, n4, z2, z3, gz5, z5] at gz6
    all_goals
    obtain ⟨y_6, hz6⟩ := Option.isSome_iff_exists.1 z6
    have fz6 := Fs_33 hz6
    try simp only [go_sem, n1, n2, n3, n4, z2, z3, gz5, z5, gz6] at hz6
    all_goals
    try simp only [go_sem, z2, z3, gz5, z5, gz6] at fz6
    rcases it_some h with ⟨z7, h⟩ | ⟨z7, h⟩
    ·try simp only [go_sem, n1, n2, n3, n4, z2, z3, gz5, z5, gz6, hz6] at z7
     all_goals
     obtain rfl := so_some h
     refine ⟨0, fun L hL => ?_⟩
     simp only [go_sem, ir24, E_34_l1, R_34_l1, ir24_b0, ir24_k0, ir24_o0, ir24_r0, z2, z3, lz3, xz3, fz4, gz5, z5, lz5, xz5, gz6, hz6, fz6, z7]
    ·try simp only [go_sem, n1, n2, n3, n4, z2, z3, gz5, z5, gz6, hz6] at z7
     all_goals
     obtain rfl := so_some h
     refine ⟨0, fun L hL => ?_⟩
     simp only [go_sem, ir24, E_34_l1, R_34_l1, ir24_b0, ir24_k0, ir24_o0, ir24_r0, z2, z3, lz3, xz3, fz4, gz5, z5, lz5, xz5, gz6, hz6, fz6, z7]
   ·rcases and_f gz6 with gz6a | ⟨gz6a, gz6b⟩
    ·try simp only [go_sem, n1, n2, n3, n4, z2, z3, gz5, z5] at gz6a
     all_goals
     (simp_all)
    ·have gz6an := no_t gz6a
     have gz6ann := no_f gz6an
     try simp only [go_sem, n1, n2, n3, n4, z2, z3, gz5, z5] at gz6ann
     all_goals
     try simp only [go_sem, n1, n2, n3, n4, z2, z3, gz5, z5, gz6ann] at gz6b
     all_goals
     rcases it_some h with ⟨z7, h⟩ | ⟨z7, h⟩
     ·try simp only [go_sem, n1, n2, n3, n4, z2, z3, gz5, z5, gz6ann, gz6b] at z7
      all_goals
      (simp_all)
     ·try simp only [go_sem, n1, n2, n3, n4, z2, z3, gz5, z5, gz6ann, gz6b] at z7
      all_goals
      obtain rfl := so_some h
      refine ⟨0, fun L hL => ?_⟩
      simp only [go_sem, ir24, E_34_l1, R_34_l1, ir24_b0, ir24_k0, ir24_o0, ir24_r0, z2, z3, lz3, xz3, fz4, gz5, z5, lz5, xz5, gz6ann, gz6b, z7]
  ·rcases and_f gz5 with gz5a | ⟨gz5a, gz5b⟩
   ·have gz5an := no_f gz5a
    have gz5ann := no_t gz5an
    try simp only [go_sem, n1, n2, n3, n4, z2, z3] at gz5ann
    all_goals
    obtain ⟨z6, h⟩ := ck_some h
    rcases it_some h with ⟨z7, h⟩ | ⟨z7, h⟩
    ·try simp only [go_sem, n1, n2, n3, n4, z2, z3, gz5ann] at z7
     all_goals
     obtain rfl := so_some h
     refine ⟨0, fun L hL => ?_⟩
     simp only [go_sem, ir24, E_34_l1, R_34_l1, ir24_b0, ir24_k0, ir24_o0, ir24_r0, z2, z3, lz3, xz3, fz4, gz5ann, z7]
    ·try simp only [go_sem, n1, n2, n3, n4, z2, z3, gz5ann] at z7
     all_goals
     (simp_all)
   ·have gz5an := no_t gz5a
    have gz5ann := no_f gz5an
    try simp only [go_sem, n1, n2, n3, n4, z2, z3] at gz5ann
    all_goals
    try simp only [go_sem, n1, n2, n3, n4, z2, z3, gz5ann] at gz5b
    all_goals
    obtain ⟨z6, h⟩ := ck_some h
    rcases it_some h with ⟨z7, h⟩ | ⟨z7, h⟩
    ·try simp only [go_sem, n1, n2, n3, n4, z2, z3, gz5ann, gz5b] at z7
     all_goals
     (simp_all)
    ·try simp only [go_sem, n1, n2, n3, n4, z2, z3, gz5ann, gz5b] at z7
     all_goals
     obtain rfl := so_some h
     refine ⟨0, fun L hL => ?_⟩
     simp only [go_sem, ir24, E_34_l1, R_34_l1, ir24_b0, ir24_k0, ir24_o0, ir24_r0, z2, z3, lz3, xz3, fz4, gz5ann, gz5b, z7]
 ·try simp only [go_sem, n1, n2, n3, n4] at z2
  all_goals
  obtain rfl := so_some h
  refine ⟨0, fun L hL => ?_⟩
  simp only [go_sem, ir24, E_34_l1, R_34_l1, ir24_b0, ir24_k0, ir24_o0, ir24_r0, z2]

theorem Fs_34 {list : List Estimate} {y_ : Bool} (h : impl_ValidEstimates list = some y_) : c_34.F [.sl 5 (List.map Estimate_av list)] = ⟨true, .bool y_, [.any]⟩ := by
 refine mkF_E rfl ?_
 dsimp only [impl_ValidEstimates] at h
 rcases it_some h with ⟨z1, h⟩ | ⟨z1, h⟩
 ·try simp only [go_sem, n1, n2, n3, n4] at z1
  all_goals
  obtain rfl := so_some h
  refine ⟨0, fun L hL => ?_⟩
  simp only [go_sem, ir24, E_34_l1, R_34_l1, ir24_k0, ir24_o0, ir24_r0, z1]
 ·try simp only [go_sem, n1, n2, n3, n4] at z1
  all_goals
  obtain ⟨y_8, z8, h⟩ := bd_some h
  obtain ⟨Lz8, ez8⟩ := impl_ValidEstimates_l1_ex z8
  rcases y_8 with y_8a | y_8b
  ·dsimp only at h
   obtain rfl := so_some h
   refine ⟨Lz8, fun L hL => ?_⟩
   have ez8 := ez8 L (by omega)
   try simp only [go_sem, E_34_l1, R_34_l1, ir24_k0, ir24_o0, ir24_r0, z1] at ez8
   simp only [go_sem, ir24, E_34_l1, R_34_l1, ir24_k0, ir24_o0, ir24_r0, z1, ez8]
  ·dsimp only at h
   obtain rfl := so_some h
   refine ⟨Lz8, fun L hL => ?_⟩
   have ez8 := ez8 L (by omega)
   try simp only [go_sem, E_34_l1, R_34_l1, ir24_k0, ir24_o0, ir24_r0, z1] at ez8
   simp only [go_sem, ir24, E_34_l1, R_34_l1, ir24_k0, ir24_o0, ir24_r0, z1, ez8]


def ir26_v : List Nat := [0, 1, 2]
def ir26 : AFn := ⟨1, 3, .seq (.region false [ VO 1 1 (.box (.v 0)), VO 2 2 (.mov (.c (.str [])))]) (.seq (.region false [ PO 3 (.fldAddr 1 (.v 1)), PO 4 (.load false 1 (.s 0)), VS 2 2 0]) (.ret)), [.t 2]⟩
noncomputable def t_35 : List (Nat × Ctr) := []
noncomputable def c_35 : Ctr := mkF t_35 ir26 [.bor]
theorem s_35 : Sound Tryz.prog 26 c_35 := mkF_sound _ rfl snd_nil (by kernel_rfl : chkFn Tryz.prog 26 ir26 ir26_v = true)
theorem M_35 : c_35.modes = [.bor] := rfl
theorem Fl_35 : c_35.flat = true := rfl
attribute [go_sem] M_35 Fl_35
theorem Fs_35 {e_ : Estimate} {y_ : (List UInt8)} (h : impl_starOf e_ = some y_) : c_35.F [Estimate_av e_] = ⟨true, .str y_, [.any]⟩ := by
 refine mkF_E rfl ?_
 dsimp only [impl_starOf] at h
 obtain rfl := so_some h
 refine ⟨0, fun L hL => ?_⟩
 simp only [go_sem, ir26]


theorem s_hSort : Sound Tryz.prog 64 c_hSort := hSort_is

theorem s_hCompact : Sound Tryz.prog 65 c_hCompact := hCompact_is

def ir25_b0 : IR := .seq (.region false [ VO 8 12 (.bin false .lss (.v 7) (.v 6))]) (.seq (.cond (.v 8) (.skip) (.exit 0)) (.seq (.block 1 (.seq (.region false [ PO 13 (.ixAddr 5 (.v 5) (.v 7)), PO 14 (.load true 5 (.s 0)), VO 4 7 (.alloc (.agg [.int .i64 (0), .str [], .str [], .int .i64 (0), .bool false])), ⟨.no, 0, none, .store 5 (.v 4) (.s 0)⟩]) (.region false [ PM 15 3, PM 16 1, PO 17 (.load true 5 (.v 4)), PO 18 (.callv (.s 1) [(.s 0)]), PO 19 (.mkSl 1 (.str []) 1 [(0, (.s 0))]), PO 20 (.app 1 16 (.str []) (.s 4) (.s 0)), VS 3 5 0]))) (.region false [ PO 21 (.bin false .add (.v 7) (I6 1)),
 VS 7 11 0])))
def ir25_k0 : List Bool := [false, true, false, true, false, true, true, true, false]
def ir25_o0 : List Bool := [false, false, false, true, false, false, false, false, false]
def ir25_r0 : List Bool := [false, false, true, false, false, false, false, false, false]
def ir25_v : List Nat := [0, 1, 4, 5, 7, 9, 10, 11, 12]
def ir25 : AFn := ⟨2, 9, .seq (.region false [ VO 2 4 (.newnil 1)]) (.seq (.region false [ PO 8 (.mkSl 1 (.str []) 0 []), VS 3 5 0]) (.seq (.seq (.region false [ VO 5 9 (.mov (.v 0)), VO 6 10 (.len false (.v 5)), VO 7 11 (.mov (I6 0))]) (.block 0 (.loop ir25_k0 ir25_o0 ir25_r0 ir25_b0))) (.seq (.region false [ PM 22 3, PO 23 (.call 64 [(.s 0)])]) (.seq (.region false [ PM 24 3, PO 25 (.call 65 [(.s 0)]), VS 2 4 0]) (.ret))))), [.t 2]⟩
noncomputable def t_38 : List (Nat × Ctr) := [(26, c_35), (64, c_hSort), (65, c_hCompact)]
theorem lk_38_26 : look t_38 26 = some c_35 := rfl
theorem lk_38_64 : look t_38 64 = some c_hSort := rfl
theorem lk_38_65 : look t_38 65 = some c_hCompact := rfl
noncomputable def c_38 : Ctr := mkF t_38 ir25 [.bor, .bor]
theorem s_38 : Sound Tryz.prog 25 c_38 := mkF_sound _ rfl (snd_cons s_35 (snd_cons s_hSort (snd_cons s_hCompact snd_nil))) (by kernel_rfl : chkFn Tryz.prog 25 ir25 ir25_v = true)
theorem M_38 : c_38.modes = [.bor, .bor] := rfl
theorem Fl_38 : c_38.flat = true := rfl
attribute [go_sem] M_38 Fl_38
attribute [go_sem] lk_38_26 lk_38_64 lk_38_65
def E_38_l1 (t9 : List Estimate) (t10 : Int) : ((List (List UInt8)) × Int) → St
 | (out, t11) => ⟨[.any, .fn (.func 26) [] [], .any, .own 3200000, .any, .sl 5 (List.map Estimate_av t9), .int .i64 t10, .int .i64 t11, .any], [], [(3200000, ⟨1, List.map AV.str out⟩)], true⟩
def R_38_l1 (t9 : List Estimate) (t10 : Int) (y : (List (List UInt8))) : Res := (.exit 0, ⟨[.any, .any, .any, .own 3200000, .any, .any, .any, .any, .any], [], [(3200000, ⟨1, List.map AV.str y⟩)], true⟩)
theorem impl_namesOf__impl_starOf_l1_ex {t9 : List Estimate} {t10 : Int} {sgm_ : (List (List UInt8)) × Int} {rho_ : (List (List UInt8))} (h : whileE (impl_namesOf__impl_starOf_l1 t9 t10) sgm_ = some rho_) : ∃ L0, ∀ L, L0 ≤ L → iter (exec (look t_38) L ir25_b0) ir25_k0 ir25_o0 ir25_r0 L (E_38_l1 t9 t10 sgm_) = R_38_l1 t9 t10 rho_ := by
 refine loop_ex (E := E_38_l1 t9 t10) (R := R_38_l1 t9 t10) (fun y => by first | (intro c; cases c) | (rcases y with y | y <;> (intro c; cases c)) | (rcases y with y | y | y <;> (intro c; cases c))) ?_ h
 clear h
 rintro ⟨out, t11⟩ o_ h
 dsimp only [impl_namesOf__impl_starOf_l1] at h
 rcases it_some h with ⟨z1, h⟩ | ⟨z1, h⟩
 ·try simp only [go_sem, n1, n2, n3, n4] at z1
  all_goals
  obtain ⟨z2, h⟩ := ck_some h
  have lz2 := ix_lt z2
  have xz2 := getD_mapD Estimate_av t9 lz2
  try simp only [go_sem] at lz2
  try simp only [go_sem] at xz2
  try simp only [go_sem, n1, n2, n3, n4, z1] at z2
  all_goals
  obtain ⟨y_3, z3, h⟩ := bd_some h
  have fz3 := Fs_35 z3
  try simp only [go_sem, z1, z2] at fz3
  obtain ⟨z4, h⟩ := ck_some h
  try simp only [go_sem, n1, n2, n3, n4, z1, z2] at z4
  all_goals
  obtain rfl := so_some h
  refine ⟨0, fun L hL => ?_⟩
  simp only [go_sem, ir25, E_38_l1, R_38_l1, ir25_b0, ir25_k0, ir25_o0, ir25_r0, z1, z2, lz2, xz2, fz3, z4]
 ·try simp only [go_sem, n1, n2, n3, n4] at z1
  all_goals
  obtain rfl := so_some h
  refine ⟨0, fun L hL => ?_⟩
  simp only [go_sem, ir25, E_38_l1, R_38_l1, ir25_b0, ir25_k0, ir25_o0, ir25_r0, z1]

theorem Fs_38 {list : List Estimate} {y_ : (List (List UInt8))} (h : impl_namesOf__impl_starOf list = some y_) : c_38.F [.sl 5 (List.map Estimate_av list), .fn (.func 26) [] []] = ⟨true, .fresh 1 (List.map AV.str y_), [.any, .any]⟩ := by
 refine mkF_E (by simp only [flatA, flatB, flat1, List.all_cons, List.all_nil, Bool.and_self, flatE_map (f := AV.str) (fun _ => rfl)]) ?_
 dsimp only [impl_namesOf__impl_starOf] at h
 obtain ⟨y_5, z5, h⟩ := bd_some h
 obtain ⟨Lz5, ez5⟩ := impl_namesOf__impl_starOf_l1_ex z5
 obtain ⟨y_6, z6, h⟩ := bd_some h
 have fz6 := Fs_hSort z6
 try simp only [go_sem] at fz6
 obtain ⟨y_7, z7, h⟩ := bd_some h
 have fz7 := Fs_hCompact z7
 try simp only [go_sem] at fz7
 obtain rfl := so_some h
 refine ⟨Lz5, fun L hL => ?_⟩
 have ez5 := ez5 L (by omega)
 try simp only [go_sem, E_38_l1, R_38_l1, ir25_k0, ir25_o0, ir25_r0] at ez5
 simp only [go_sem, ir25, E_38_l1, R_38_l1, ir25_k0, ir25_o0, ir25_r0, fz6, fz7, ez5]


def ir27_v : List Nat := [0, 1, 2]
def ir27 : AFn := ⟨1, 3, .seq (.region false [ VO 1 1 (.box (.v 0)), VO 2 2 (.mov (.c (.str [])))]) (.seq (.region false [ PO 3 (.fldAddr 2 (.v 1)), PO 4 (.load false 1 (.s 0)), VS 2 2 0]) (.ret)), [.t 2]⟩
noncomputable def t_39 : List (Nat × Ctr) := []
noncomputable def c_39 : Ctr := mkF t_39 ir27 [.bor]
theorem s_39 : Sound Tryz.prog 27 c_39 := mkF_sound _ rfl snd_nil (by kernel_rfl : chkFn Tryz.prog 27 ir27 ir27_v = true)
theorem M_39 : c_39.modes = [.bor] := rfl
theorem Fl_39 : c_39.flat = true := rfl
attribute [go_sem] M_39 Fl_39
theorem Fs_39 {e_ : Estimate} {y_ : (List UInt8)} (h : impl_observerOf e_ = some y_) : c_39.F [Estimate_av e_] = ⟨true, .str y_, [.any]⟩ := by
 refine mkF_E rfl ?_
 dsimp only [impl_observerOf] at h
 obtain rfl := so_some h
 refine ⟨0, fun L hL => ?_⟩
 simp only [go_sem, ir27]


noncomputable def t_40 : List (Nat × Ctr) := [(27, c_39), (64, c_hSort), (65, c_hCompact)]
theorem lk_40_27 : look t_40 27 = some c_39 := rfl
theorem lk_40_64 : look t_40 64 = some c_hSort := rfl
theorem lk_40_65 : look t_40 65 = some c_hCompact := rfl
noncomputable def c_40 : Ctr := mkF t_40 ir25 [.bor, .bor]
theorem s_40 : Sound Tryz.prog 25 c_40 := mkF_sound _ rfl (snd_cons s_39 (snd_cons s_hSort (snd_cons s_hCompact snd_nil))) (by kernel_rfl : chkFn Tryz.prog 25 ir25 ir25_v = true)
theorem M_40 : c_40.modes = [.bor, .bor] := rfl
theorem Fl_40 : c_40.flat = true := rfl
attribute [go_sem] M_40 Fl_40
attribute [go_sem] lk_40_27 lk_40_64 lk_40_65
def E_40_l1 (t9 : List Estimate) (t10 : Int) : ((List (List UInt8)) × Int) → St
 | (out, t11) => ⟨[.any, .fn (.func 27) [] [], .any, .own 3200000, .any, .sl 5 (List.map Estimate_av t9), .int .i64 t10, .int .i64 t11, .any], [], [(3200000, ⟨1, List.map AV.str out⟩)], true⟩
def R_40_l1 (t9 : List Estimate) (t10 : Int) (y : (List (List UInt8))) : Res := (.exit 0, ⟨[.any, .any, .any, .own 3200000, .any, .any, .any, .any, .any], [], [(3200000, ⟨1, List.map AV.str y⟩)], true⟩)
theorem impl_namesOf__impl_observerOf_l1_ex {t9 : List Estimate} {t10 : Int} {sgm_ : (List (List UInt8)) × Int} {rho_ : (List (List UInt8))} (h : whileE (impl_namesOf__impl_observerOf_l1 t9 t10) sgm_ = some rho_) : ∃ L0, ∀ L, L0 ≤ L → iter (exec (look t_40) L ir25_b0) ir25_k0 ir25_o0 ir25_r0 L (E_40_l1 t9 t10 sgm_) = R_40_l1 t9 t10 rho_ := by
 refine loop_ex (E := E_40_l1 t9 t10) (R := R_40_l1 t9 t10) (fun y => by first | (intro c; cases c) | (rcases y with y | y <;> (intro c; cases c)) | (rcases y with y | y | y <;> (intro c; cases c))) ?_ h
 clear h
 rintro ⟨out, t11⟩ o_ h
 dsimp only [impl_namesOf__impl_observerOf_l1] at h
 rcases it_some h with ⟨z1, h⟩ | ⟨z1, h⟩
 ·try simp only [go_sem, n1, n2, n3, n4] at z1
  all_goals
  obtain ⟨z2, h⟩ := ck_some h
  have lz2 := ix_lt z2
  have xz2 := getD_mapD Estimate_av t9 lz2
  try simp only [go_sem] at lz2
  try simp only [go_sem] at xz2
  try simp only [go_sem, n1, n2, n3, n4, z1] at z2
  all_goals
  obtain ⟨y_3, z3, h⟩ := bd_some h
  have fz3 := Fs_39 z3
  try simp only [go_sem, z1, z2] at fz3
  obtain ⟨z4, h⟩ := ck_some h
  try simp only [go_sem, n1, n2, n3, n4, z1, z2] at z4
  all_goals
  obtain rfl := so_some h
  refine ⟨0, fun L hL => ?_⟩
  simp only [go_sem, ir25, E_40_l1, R_40_l1, ir25_b0, ir25_k0, ir25_o0, ir25_r0, z1, z2, lz2, xz2, fz3, z4]
 ·try simp only [go_sem, n1, n2, n3, n4] at z1
  all_goals
  obtain rfl := so_some h
  refine ⟨0, fun L hL => ?_⟩
  simp only [go_sem, ir25, E_40_l1, R_40_l1, ir25_b0, ir25_k0, ir25_o0, ir25_r0, z1]

theorem Fs_40 {list : List Estimate} {y_ : (List (List UInt8))} (h : impl_namesOf__impl_observerOf list = some y_) : c_40.F [.sl 5 (List.map Estimate_av list), .fn (.func 27) [] []] = ⟨true, .fresh 1 (List.map AV.str y_), [.any, .any]⟩ := by
 refine mkF_E (by simp only [flatA, flatB, flat1, List.all_cons, List.all_nil, Bool.and_self, flatE_map (f := AV.str) (fun _ => rfl)]) ?_
 dsimp only [impl_namesOf__impl_observerOf] at h
 obtain ⟨y_5, z5, h⟩ := bd_some h
 obtain ⟨Lz5, ez5⟩ := impl_namesOf__impl_observerOf_l1_ex z5
 obtain ⟨y_6, z6, h⟩ := bd_some h
 have fz6 := Fs_hSort z6
 try simp only [go_sem] at fz6
 obtain ⟨y_7, z7, h⟩ := bd_some h
 have fz7 := Fs_hCompact z7
 try simp only [go_sem] at fz7
 obtain rfl := so_some h
 refine ⟨Lz5, fun L hL => ?_⟩
 have ez5 := ez5 L (by omega)
 try simp only [go_sem, E_40_l1, R_40_l1, ir25_k0, ir25_o0, ir25_r0] at ez5
 simp only [go_sem, ir25, E_40_l1, R_40_l1, ir25_k0, ir25_o0, ir25_r0, fz6, fz7, ez5]


def ir48_v : List Nat := [0, 2]
def ir48 : AFn := ⟨1, 2, .seq (.region false [ VO 1 2 (.mov (I6 0))]) (.seq (.region false [ PM 3 0, PO 4 (.len false (.s 0)), VS 1 2 0]) (.ret)), [.t 1]⟩
noncomputable def t_41 : List (Nat × Ctr) := []
noncomputable def c_41 : Ctr := mkF t_41 ir48 [.bor]
theorem s_41 : Sound Tryz.prog 48 c_41 := mkF_sound _ rfl snd_nil (by kernel_rfl : chkFn Tryz.prog 48 ir48 ir48_v = true)
theorem M_41 : c_41.modes = [.bor] := rfl
theorem Fl_41 : c_41.flat = true := rfl
attribute [go_sem] M_41 Fl_41
theorem Fs_41 {list : List (List UInt8)} {y_ : Int} (h : impl_count_string list = some y_) : c_41.F [.sl 1 (List.map AV.str list)] = ⟨true, .int .i64 y_, [.any]⟩ := by
 refine mkF_E rfl ?_
 dsimp only [impl_count_string] at h
 obtain rfl := so_some h
 refine ⟨0, fun L hL => ?_⟩
 simp only [go_sem, ir48]


def ir29_b0 : IR := .seq (.test false [ PM 5 1, PO 6 (.bin false .geq (.s 0) (I6 128))] (.s 0) (.skip) (.exit 0)) (.seq (.block 1 (.region false [ PM 9 0, PM 10 1, PO 11 (.bin false .rem (.s 0) (I6 128)), PO 12 (.bin false .add (.s 0) (I6 128)), PO 13 (.conv .u8 (.s 0)), PO 14 (.mkSl 1 (.int .u8 (0)) 1 [(0, (.s 0))]), PO 15 (.app 1 1 (.int .u8 (0)) (.s 5) (.s 0)), VS 0 0 0])) (.region false [ PM 7 1, PO 8 (.bin false .quo (.s 0) (I6 128)), VS 1 1 0]))
def ir29_k0 : List Bool := [true, true, false]
def ir29_o0 : List Bool := [true, true, false]
def ir29_r0 : List Bool := [false, false, true]
def ir29_v : List Nat := [0, 1, 4]
def ir29 : AFn := ⟨2, 3, .seq (.region false [ VO 2 4 (.newnil 1)]) (.seq (.block 0 (.loop ir29_k0 ir29_o0 ir29_r0 ir29_b0)) (.seq (.region false [ PM 16 0, PM 17 1, PO 18 (.conv .u8 (.s 0)), PO 19 (.mkSl 1 (.int .u8 (0)) 1 [(0, (.s 0))]), PO 20 (.app 1 1 (.int .u8 (0)) (.s 3) (.s 0)), VS 2 4 0]) (.ret))), [.t 2]⟩
noncomputable def t_42 : List (Nat × Ctr) := []
noncomputable def c_42 : Ctr := mkF t_42 ir29 [.mov, .bor]
theorem s_42 : Sound Tryz.prog 29 c_42 := mkF_sound _ rfl snd_nil (by kernel_rfl : chkFn Tryz.prog 29 ir29 ir29_v = true)
theorem M_42 : c_42.modes = [.mov, .bor] := rfl
theorem Fl_42 : c_42.flat = true := rfl
attribute [go_sem] M_42 Fl_42
def E_42_l1  : ((List UInt8) × Int) → St
 | (b, n) => ⟨[.own 31, .int .i64 n, .any], [], [(31, ⟨1, List.map byteAV b⟩)], true⟩
def R_42_l1  (y : (List UInt8) × Int) : Res := (.exit 0, ⟨[.own 31, .int .i64 y.2, .any], [], [(31, ⟨1, List.map byteAV y.1⟩)], true⟩)
theorem impl_appendNumber_l1_ex  {sgm_ : (List UInt8) × Int} {rho_ : (List UInt8) × Int} (h : whileE (impl_appendNumber_l1) sgm_ = some rho_) : ∃ L0, ∀ L, L0 ≤ L → iter (exec (look t_42) L ir29_b0) ir29_k0 ir29_o0 ir29_r0 L (E_42_l1 sgm_) = R_42_l1 rho_ := by
 refine loop_ex (E := E_42_l1) (R := R_42_l1) (fun y => by first | (intro c; cases c) | (rcases y with y | y <;> (intro c; cases c)) | (rcases y with y | y | y <;> (intro c; cases c))) ?_ h
 clear h
 rintro ⟨b, n⟩ o_ h
 dsimp only [impl_appendNumber_l1] at h
 rcases it_some h with ⟨z1, h⟩ | ⟨z1, h⟩
 ·try simp only [go_sem, n1, n2, n3, n4] at z1
  all_goals
  obtain ⟨z2, h⟩ := ck_some h
  try simp only [go_sem, n1, n2, n3, n4, z1] at z2
  all_goals
  obtain ⟨z3, h⟩ := ck_some h
  try simp only [go_sem, n1, n2, n3, n4, z1, z2] at z3
  all_goals
  obtain rfl := so_some h
  refine ⟨0, fun L hL => ?_⟩
  simp only [go_sem, ir29, E_42_l1, R_42_l1, ir29_b0, ir29_k0, ir29_o0, ir29_r0, z1, z2, z3]
 ·try simp only [go_sem, n1, n2, n3, n4] at z1
  all_goals
  obtain rfl := so_some h
  refine ⟨0, fun L hL => ?_⟩
  simp only [go_sem, ir29, E_42_l1, R_42_l1, ir29_b0, ir29_k0, ir29_o0, ir29_r0, z1]

theorem Fs_42 {b : List UInt8} {n : Int} {y_ : (List UInt8)} (h : impl_appendNumber b n = some y_) : c_42.F [.fresh 1 (List.map byteAV b), .int .i64 n] = ⟨true, .fresh 1 (List.map byteAV y_), [.any, .any]⟩ := by
 refine mkF_E (by simp only [flatA, flatB, flat1, List.all_cons, List.all_nil, Bool.and_self, flatE_map (f := byteAV) (fun _ => rfl)]) ?_
 dsimp only [impl_appendNumber] at h
 obtain ⟨y_4, z4, h⟩ := bd_some h
 obtain ⟨Lz4, ez4⟩ := impl_appendNumber_l1_ex z4
 obtain ⟨z5, h⟩ := ck_some h
 try simp only [go_sem, n1, n2, n3, n4] at z5
 all_goals
 obtain rfl := so_some h
 refine ⟨Lz4, fun L hL => ?_⟩
 have ez4 := ez4 L (by omega)
 try simp only [go_sem, E_42_l1, R_42_l1, ir29_k0, ir29_o0, ir29_r0, z5] at ez4
 simp only [go_sem, ir29, E_42_l1, R_42_l1, ir29_k0, ir29_o0, ir29_r0, z5, ez4]


def ir28_b0 : IR := .seq (.region false [ VO 7 14 (.bin false .lss (.v 6) (.v 5))]) (.seq (.cond (.v 7) (.skip) (.exit 0)) (.seq (.block 1 (.seq (.region false [ PO 15 (.ixAddr 1 (.v 4) (.v 6)), PO 16 (.load false 1 (.s 0)), VS 3 6 0]) (.region false [ PM 17 0, PM 18 3, PO 19 (.len true (.s 0)), PO 20 (.call 29 [(.s 2), (.s 0)]), PM 21 3, PO 22 (.app 1 1 (.int .u8 (0)) (.s 1) (.s 0)), VS 0 0 0]))) (.region false [ PO 23 (.bin false .add (.v 6) (I6 1)), VS 6 13 0])))
def ir28_k0 : List Bool := [true, false, false, false, true, true, true, false]
def ir28_o0 : List Bool := [true, false, false, false, false, false, false, false]
def ir28_r0 : List Bool := [false, false, true, false, false, false, false, false]
def ir28_v : List Nat := [0, 1, 4, 6, 11, 12, 13, 14]
def ir28 : AFn := ⟨2, 8, .seq (.region false [ VO 2 4 (.newnil 1)]) (.seq (.region false [ PM 7 0, PM 8 1, PO 9 (.call 48 [(.s 0)]), PO 10 (.call 29 [(.s 2), (.s 0)]), VS 0 0 0]) (.seq (.seq (.region false [ VO 4 11 (.mov (.v 1)), VO 5 12 (.len false (.v 4)), VO 6 13 (.mov (I6 0))]) (.block 0 (.loop ir28_k0 ir28_o0 ir28_r0 ir28_b0))) (.seq (.region false [ PM 24 0, VS 2 4 0]) (.ret)))), [.t 2]⟩
noncomputable def t_43 : List (Nat × Ctr) := [(48, c_41), (29, c_42)]
theorem lk_43_48 : look t_43 48 = some c_41 := rfl
theorem lk_43_29 : look t_43 29 = some c_42 := rfl
noncomputable def c_43 : Ctr := mkF t_43 ir28 [.mov, .bor]
theorem s_43 : Sound Tryz.prog 28 c_43 := mkF_sound _ rfl (snd_cons s_41 (snd_cons s_42 snd_nil)) (by kernel_rfl : chkFn Tryz.prog 28 ir28 ir28_v = true)
theorem M_43 : c_43.modes = [.mov, .bor] := rfl
theorem Fl_43 : c_43.flat = true := rfl
attribute [go_sem] M_43 Fl_43
attribute [go_sem] lk_43_48 lk_43_29
def E_43_l1 (t11 : List (List UInt8)) (t12 : Int) : ((List UInt8) × Int) → St
 | (b, t13) => ⟨[.own 3200000, .any, .any, .any, .sl 1 (List.map AV.str t11), .int .i64 t12, .int .i64 t13, .any], [], [(3200000, ⟨1, List.map byteAV b⟩)], true⟩
def R_43_l1 (t11 : List (List UInt8)) (t12 : Int) (y : (List UInt8)) : Res := (.exit 0, ⟨[.own 3200000, .any, .any, .any, .any, .any, .any, .any], [], [(3200000, ⟨1, List.map byteAV y⟩)], true⟩)
theorem impl_appendNames_l1_ex {t11 : List (List UInt8)} {t12 : Int} {sgm_ : (List UInt8) × Int} {rho_ : (List UInt8)} (h : whileE (impl_appendNames_l1 t11 t12) sgm_ = some rho_) : ∃ L0, ∀ L, L0 ≤ L → iter (exec (look t_43) L ir28_b0) ir28_k0 ir28_o0 ir28_r0 L (E_43_l1 t11 t12 sgm_) = R_43_l1 t11 t12 rho_ := by
 refine loop_ex (E := E_43_l1 t11 t12) (R := R_43_l1 t11 t12) (fun y => by first | (intro c; cases c) | (rcases y with y | y <;> (intro c; cases c)) | (rcases y with y | y | y <;> (intro c; cases c))) ?_ h
 clear h
 rintro ⟨b, t13⟩ o_ h
 dsimp only [impl_appendNames_l1] at h
 rcases it_some h with ⟨z3, h⟩ | ⟨z3, h⟩
 ·try simp only [go_sem, n1, n2, n3, n4] at z3
  all_goals
  obtain ⟨z4, h⟩ := ck_some h
  have lz4 := ix_lt z4
  have xz4 := getD_mapD AV.str t11 lz4
  try simp only [go_sem] at lz4
  try simp only [go_sem] at xz4
  try simp only [go_sem, n1, n2, n3, n4, z3] at z4
  all_goals
  obtain ⟨y_5, z5, h⟩ := bd_some h
  have fz5 := Fs_42 z5
  try simp only [go_sem, z3, z4] at fz5
  obtain ⟨z6, h⟩ := ck_some h
  try simp only [go_sem, n1, n2, n3, n4, z3, z4] at z6
  all_goals
  obtain rfl := so_some h
  refine ⟨0, fun L hL => ?_⟩
  simp only [go_sem, ir28, E_43_l1, R_43_l1, ir28_b0, ir28_k0, ir28_o0, ir28_r0, z3, z4, lz4, xz4, fz5, z6]
 ·try simp only [go_sem, n1, n2, n3, n4] at z3
  all_goals
  obtain rfl := so_some h
  refine ⟨0, fun L hL => ?_⟩
  simp only [go_sem, ir28, E_43_l1, R_43_l1, ir28_b0, ir28_k0, ir28_o0, ir28_r0, z3]

theorem Fs_43 {b : List UInt8} {names : List (List UInt8)} {y_ : (List UInt8)} (h : impl_appendNames b names = some y_) : c_43.F [.fresh 1 (List.map byteAV b), .sl 1 (List.map AV.str names)] = ⟨true, .fresh 1 (List.map byteAV y_), [.any, .any]⟩ := by
 refine mkF_E (by simp only [flatA, flatB, flat1, List.all_cons, List.all_nil, Bool.and_self, flatE_map (f := byteAV) (fun _ => rfl)]) ?_
 dsimp only [impl_appendNames] at h
 obtain ⟨y_1, z1, h⟩ := bd_some h
 have fz1 := Fs_41 z1
 try simp only [go_sem] at fz1
 obtain ⟨y_2, z2, h⟩ := bd_some h
 have fz2 := Fs_42 z2
 try simp only [go_sem] at fz2
 obtain ⟨y_7, z7, h⟩ := bd_some h
 obtain ⟨Lz7, ez7⟩ := impl_appendNames_l1_ex z7
 obtain rfl := so_some h
 refine ⟨Lz7, fun L hL => ?_⟩
 have ez7 := ez7 L (by omega)
 try simp only [go_sem, E_43_l1, R_43_l1, ir28_k0, ir28_o0, ir28_r0] at ez7
 simp only [go_sem, ir28, E_43_l1, R_43_l1, ir28_k0, ir28_o0, ir28_r0, fz1, fz2, ez7]


def ir30_v : List Nat := [0, 2]
def ir30 : AFn := ⟨1, 2, .seq (.region false [ VO 1 2 (.mov (I6 0))]) (.seq (.region false [ PM 3 0, PO 4 (.len false (.s 0)), VS 1 2 0]) (.ret)), [.t 1]⟩
noncomputable def t_44 : List (Nat × Ctr) := []
noncomputable def c_44 : Ctr := mkF t_44 ir30 [.bor]
theorem s_44 : Sound Tryz.prog 30 c_44 := mkF_sound _ rfl snd_nil (by kernel_rfl : chkFn Tryz.prog 30 ir30 ir30_v = true)
theorem M_44 : c_44.modes = [.bor] := rfl
theorem Fl_44 : c_44.flat = true := rfl
attribute [go_sem] M_44 Fl_44
theorem Fs_44 {list : List Estimate} {y_ : Int} (h : impl_count_impl_Estimate list = some y_) : c_44.F [.sl 5 (List.map Estimate_av list)] = ⟨true, .int .i64 y_, [.any]⟩ := by
 refine mkF_E rfl ?_
 dsimp only [impl_count_impl_Estimate] at h
 obtain rfl := so_some h
 refine ⟨0, fun L hL => ?_⟩
 simp only [go_sem, ir30]


def ir68_b0 : IR := .seq (.region false [ VO 8 10 (.bin false .lss (.v 7) (.v 6))]) (.seq (.cond (.v 8) (.skip) (.exit 0)) (.seq (.block 1 (.seq (.region false [ PO 11 (.ixAddr 1 (.v 5) (.v 7)), PO 12 (.load false 1 (.s 0)), VS 4 6 0]) (.seq (.region false [ PM 13 2, PM 14 4, PO 15 (.conv .i64 (.s 0)), PO 16 (.bin false .add (.s 2) (.s 0)), PO 17 (.bin false .rem (.s 0) (I6 251)), VS 2 3 0]) (.region false [ PM 18 3, PM 19 2, PO 20 (.bin false .add (.s 1) (.s 0)), PO 21 (.bin false .rem (.s 0) (I6 251)), VS 3 4 0])))) (.region false [ PO 22 (.bin false .add (.v 7) (I6 1)), VS 7 9 0])))
def ir68_k0 : List Bool := [false, false, true, true, false, true, true, true, false]
def ir68_o0 : List Bool := [false, false, true, true, false, false, false, false, false]
def ir68_r0 : List Bool := [false, true, false, false, false, false, false, false, false]
def ir68_v : List Nat := [0, 2, 3, 4, 6, 7, 8, 9, 10]
def ir68 : AFn := ⟨1, 9, .seq (.region false [ VO 1 2 (.mov (I6 0))]) (.seq (.region false [ VO 2 3 (.mov (I6 1)), VO 3 4 (.mov (I6 0))]) (.seq (.seq (.region false [ VO 5 7 (.mov (.v 0)), VO 6 8 (.len false (.v 5)), VO 7 9 (.mov (I6 0))]) (.block 0 (.loop ir68_k0 ir68_o0 ir68_r0 ir68_b0))) (.seq (.region false [ PM 23 3, PO 24 (.bin false .mul (I6 251) (.s 0)), PM 25 2, PO 26 (.bin false .add (.s 1) (.s 0)), VS 1 2 0]) (.ret)))), [.t 1]⟩
noncomputable def t_45 : List (Nat × Ctr) := []
noncomputable def c_45 : Ctr := mkF t_45 ir68 [.bor]
theorem s_45 : Sound Tryz.prog 68 c_45 := mkF_sound _ rfl snd_nil (by kernel_rfl : chkFn Tryz.prog 68 ir68 ir68_v = true)
theorem M_45 : c_45.modes = [.bor] := rfl
theorem Fl_45 : c_45.flat = true := rfl
attribute [go_sem] M_45 Fl_45
def E_45_l1 (t7 : List UInt8) (t8 : Int) : (Int × Int × Int) → St
 | (s_, t, t9) => ⟨[.any, .any, .int .i64 s_, .int .i64 t, .any, .sl 1 (List.map byteAV t7), .int .i64 t8, .int .i64 t9, .any], [], [], true⟩
def R_45_l1 (t7 : List UInt8) (t8 : Int) (y : Int × Int) : Res := (.exit 0, ⟨[.any, .any, .int .i64 y.1, .int .i64 y.2, .any, .any, .any, .any, .any], [], [], true⟩)
theorem impl_SumOfBytes_l1_ex {t7 : List UInt8} {t8 : Int} {sgm_ : Int × Int × Int} {rho_ : Int × Int} (h : whileE (impl_SumOfBytes_l1 t7 t8) sgm_ = some rho_) : ∃ L0, ∀ L, L0 ≤ L → iter (exec (look t_45) L ir68_b0) ir68_k0 ir68_o0 ir68_r0 L (E_45_l1 t7 t8 sgm_) = R_45_l1 t7 t8 rho_ := by
 refine loop_ex (E := E_45_l1 t7 t8) (R := R_45_l1 t7 t8) (fun y => by first | (intro c; cases c) | (rcases y with y | y <;> (intro c; cases c)) | (rcases y with y | y | y <;> (intro c; cases c))) ?_ h
 clear h
 rintro ⟨s_, t, t9⟩ o_ h
 dsimp only [impl_SumOfBytes_l1] at h
 rcases it_some h with ⟨z1, h⟩ | ⟨z1, h⟩
 ·try simp only [go_sem, n1, n2, n3, n4] at z1
  all_goals
  obtain ⟨z2, h⟩ := ck_some h
  have lz2 := ix_lt z2
  have xz2 := getD_mapD byteAV t7 lz2
  try simp only [go_sem] at lz2
  try simp only [go_sem] at xz2
  try simp only [go_sem, n1, n2, n3, n4, z1] at z2
  all_goals
  obtain ⟨z3, h⟩ := ck_some h
  try simp only [go_sem, n1, n2, n3, n4, z1, z2] at z3
  all_goals
  obtain rfl := so_some h
  refine ⟨0, fun L hL => ?_⟩
  simp only [go_sem, ir68, E_45_l1, R_45_l1, ir68_b0, ir68_k0, ir68_o0, ir68_r0, z1, z2, lz2, xz2, z3]
 ·try simp only [go_sem, n1, n2, n3, n4] at z1
  all_goals
  obtain rfl := so_some h
  refine ⟨0, fun L hL => ?_⟩
  simp only [go_sem, ir68, E_45_l1, R_45_l1, ir68_b0, ir68_k0, ir68_o0, ir68_r0, z1]

theorem Fs_45 {b : List UInt8} {y_ : Int} (h : impl_SumOfBytes b = some y_) : c_45.F [.sl 1 (List.map byteAV b)] = ⟨true, .int .i64 y_, [.any]⟩ := by
 refine mkF_E rfl ?_
 dsimp only [impl_SumOfBytes] at h
 obtain ⟨y_4, z4, h⟩ := bd_some h
 obtain ⟨Lz4, ez4⟩ := impl_SumOfBytes_l1_ex z4
 obtain rfl := so_some h
 refine ⟨Lz4, fun L hL => ?_⟩
 have ez4 := ez4 L (by omega)
 try simp only [go_sem, E_45_l1, R_45_l1, ir68_k0, ir68_o0, ir68_r0] at ez4
 simp only [go_sem, ir68, E_45_l1, R_45_l1, ir68_k0, ir68_o0, ir68_r0, ez4]


def ir33_v : List Nat := [0, 2, 3]
def ir33 : AFn := ⟨1, 3, .seq (.region false [ VO 1 2 (.newnil 1)]) (.seq (.region false [ PM 4 0, PO 5 (.call 68 [(.s 0)]), VS 2 3 0]) (.seq (.region false [ PM 6 0, PM 7 2, PO 8 (.bin false .quo (.s 0) (I6 256)), PO 9 (.conv .u8 (.s 0)), PM 10 2, PO 11 (.bin false .rem (.s 0) (I6 256)), PO 12 (.conv .u8 (.s 0)), PO 13 (.mkSl 1 (.int .u8 (0)) 2 [(0, (.s 3)), (1, (.s 0))]), PO 14 (.app 1 1 (.int .u8 (0)) (.s 7) (.s 0)), VS 1 2 0]) (.ret))), [.t 1]⟩
noncomputable def t_46 : List (Nat × Ctr) := [(68, c_45)]
theorem lk_46_68 : look t_46 68 = some c_45 := rfl
noncomputable def c_46 : Ctr := mkF t_46 ir33 [.mov]
theorem s_46 : Sound Tryz.prog 33 c_46 := mkF_sound _ rfl (snd_cons s_45 snd_nil) (by kernel_rfl : chkFn Tryz.prog 33 ir33 ir33_v = true)
theorem M_46 : c_46.modes = [.mov] := rfl
theorem Fl_46 : c_46.flat = true := rfl
attribute [go_sem] M_46 Fl_46
attribute [go_sem] lk_46_68
theorem Fs_46 {b : List UInt8} {y_ : (List UInt8)} (h : impl_sealed b = some y_) : c_46.F [.fresh 1 (List.map byteAV b)] = ⟨true, .fresh 1 (List.map byteAV y_), [.any]⟩ := by
 refine mkF_E (by simp only [flatA, flatB, flat1, List.all_cons, List.all_nil, Bool.and_self, flatE_map (f := byteAV) (fun _ => rfl)]) ?_
 dsimp only [impl_sealed] at h
 obtain ⟨y_1, z1, h⟩ := bd_some h
 have fz1 := Fs_45 z1
 try simp only [go_sem] at fz1
 obtain ⟨z2, h⟩ := ck_some h
 try simp only [go_sem, n1, n2, n3, n4] at z2
 all_goals
 obtain ⟨z3, h⟩ := ck_some h
 try simp only [go_sem, n1, n2, n3, n4, z2] at z3
 all_goals
 obtain rfl := so_some h
 refine ⟨0, fun L hL => ?_⟩
 simp only [go_sem, ir33, fz1, z2, z3]


def ir6_b1 : IR := .seq (.region false [ VO 18 62 (.bin false .lss (.v 17) (.v 16))]) (.seq (.cond (.v 18) (.skip) (.exit 2)) (.seq (.block 3 (.seq (.region false [ PO 63 (.ixAddr 1 (.v 15) (.v 17)), PO 64 (.load false 1 (.s 0)), VS 10 13 0]) (.region false [ PM 65 5, PM 66 10, PO 67 (.call 29 [(.s 1), (.s 0)]), VS 5 6 0]))) (.region false [ PO 68 (.bin false .add (.v 17) (I6 1)), VS 17 61 0])))
def ir6_k1 : List Bool := [false, false, false, true, true, true, false, false, true, false, false, true, true, true, false, true, true, true, false]
def ir6_o1 : List Bool := [false, false, false, true, true, true, false, false, true, false, false, true, true, true, false, false, false, false, false]
def ir6_r1 : List Bool := [false, true, true, false, false, false, false, false, false, false, false, false, false, false, false, false, false, false, false]
def ir6_b0 : IR := .seq (.region false [ VO 14 33 (.bin false .lss (.v 13) (.v 12))]) (.seq (.cond (.v 14) (.skip) (.exit 0)) (.seq (.block 1 (.seq (.region false [ PO 34 (.ixAddr 5 (.v 11) (.v 13)), PO 35 (.load true 5 (.s 0)), VO 8 10 (.alloc (.agg [.int .i64 (0), .str [], .str [], .int .i64 (0), .bool false])), ⟨.no, 0, none, .store 5 (.v 8) (.s 0)⟩]) (.seq (.region false [ PM 36 4, PO 37 (.fldAddr 2 (.v 8)), PO 38 (.load false 1 (.s 0)), PO 39 (.call 31 [(.s 2), (.s 0)]), PO 40 (.bin false .mul (I6 2) (.s 0)), VS 9 11 0]) (.seq (.test false [ PO 41 (.fldAddr 4 (.v 8)), PO 42 (.load false 1
 (.s 0))] (.s 0) (.region false [ PM 43 9, PO 44 (.bin false .add (.s 0) (I6 1)), VS 9 11 0]) (.skip)) (.seq (.seq (.anyo 14 [ SO 0 45 (.fldAddr 0 (.v 8)), SO 1 46 (.load false 1 (.s 0)), SO 2 47 (.mov (.v 6)), SO 3 48 (.bin false .sub (.s 1) (.s 2)), SO 4 49 (.mov (.v 3)), SO 5 50 (.fldAddr 1 (.v 8)), SO 6 51 (.load false 1 (.s 5)), SO 7 52 (.callp 31 [(.s 4), (.s 6)]), SO 8 53 (.mov (.v 9)), SO 9 54 (.fldAddr 3 (.v 8)), SO 10 55 (.load false 1 (.s 9)), SO 11 56 (.mov (.v 7)), SO 12 57 (.bin false .sub (.s 10) (.s 11)), SO 13 58 (.callp 32 [(.s 12)]), VO 15 59 (.mkSl 1 (.int .i64 (0)) 4 [(0,
 (.s 3)), (1, (.s 7)), (2, (.s 8)), (3, (.s 13))]), VO 16 60 (.len false (.v 15)), VO 17 61 (.mov (I6 0))] [[0, 1, 2, 3, 4, 5, 6, 7, 8, 9, 10, 11, 12, 13, 16, 14, 15]] .skip) (.block 2 (.loop ir6_k1 ir6_o1 ir6_r1 ir6_b1))) (.anyo 4 [ SO 0 69 (.fldAddr 0 (.v 8)), SO 1 70 (.load false 1 (.s 0)), SO 2 71 (.fldAddr 3 (.v 8)), SO 3 72 (.load false 1 (.s 2)), VS 6 7 1, VS 7 8 3] [] .skip)))))) (.region false [ PO 73 (.bin false .add (.v 13) (I6 1)), VS 13 32 0])))
def ir6_k0 : List Bool := [false, false, false, true, true, true, true, true, false, false, false, true, true, true, false, false, false, false, false]
def ir6_o0 : List Bool := [false, false, false, false, false, true, false, false, false, false, false, false, false, false, false, false, false, false, false]
def ir6_r0 : List Bool := [false, true, true, false, false, false, false, false, false, false, false, false, false, false, false, false, false, false, false]
def ir6_v : List Nat := [0, 2, 3, 4, 5, 6, 7, 8, 10, 11, 13, 30, 31, 32, 33, 59, 60, 61, 62]
def ir6 : AFn := ⟨1, 19, .seq (.region false [ VO 1 2 (.newnil 1), VO 2 3 (.mov (I6 0))]) (.seq (.test false [ PM 14 0, PO 15 (.call 24 [(.s 0)]), PO 16 (.un .not (.s 0))] (.s 0) (.seq (.region false [ VO 1 2 (.newnil 1), VO 2 3 (.mov (I6 1))]) (.ret)) (.skip)) (.seq (.region false [ PM 17 0, PO 18 (.call 25 [(.s 0), (.c (.fn (.func 26) [] []))]), PM 19 0, PO 20 (.call 25 [(.s 0), (.c (.fn (.func 27) [] []))]), VS 3 4 2, VS 4 5 0]) (.seq (.region false [ PO 21 (.mkSl 1 (.int .u8 (0)) 1 [(0, (.c (.int .u8 (69))))]), PM 22 3, PO 23 (.call 28 [(.s 1), (.s 0)]), PM 24 4, PO 25 (.call 28 [(.s 1),
 (.s 0)]), VS 5 6 0]) (.seq (.region false [ PM 26 5, PM 27 0, PO 28 (.call 30 [(.s 0)]), PO 29 (.call 29 [(.s 2), (.s 0)]), VS 5 6 0]) (.seq (.region false [ VO 6 7 (.mov (I6 0)), VO 7 8 (.mov (I6 0))]) (.seq (.seq (.region false [ VO 11 30 (.mov (.v 0)), VO 12 31 (.len false (.v 11)), VO 13 32 (.mov (I6 0))]) (.block 0 (.loop ir6_k0 ir6_o0 ir6_r0 ir6_b0))) (.seq (.region false [ PM 74 5, PO 75 (.call 33 [(.s 0)]), VS 1 2 0, VO 2 3 (.mov (I6 0))]) (.ret)))))))), [.t 1, .t 2]⟩
noncomputable def pk_47_25 : Ctr := (pickC 1 26 c_38 c_40)
theorem s_pk_impl_PackEstimates_25 : Sound Tryz.prog 25 pk_47_25 := (pickC_sound s_38 s_40 rfl rfl)
theorem M_pk_impl_PackEstimates_25 : pk_47_25.modes = [.bor, .bor] := rfl
theorem Fl_pk_impl_PackEstimates_25 : pk_47_25.flat = true := rfl
attribute [go_sem] M_pk_impl_PackEstimates_25 Fl_pk_impl_PackEstimates_25
theorem qpk_impl_PackEstimates_25_impl_namesOf__impl_starOf {list : List Estimate} : pk_47_25.F [.sl 5 (List.map Estimate_av list), .fn (.func 26) [] []] = c_38.F [.sl 5 (List.map Estimate_av list), .fn (.func 26) [] []] := rfl
attribute [go_sem] qpk_impl_PackEstimates_25_impl_namesOf__impl_starOf
theorem qpk_impl_PackEstimates_25_impl_namesOf__impl_observerOf {list : List Estimate} : pk_47_25.F [.sl 5 (List.map Estimate_av list), .fn (.func 27) [] []] = c_40.F [.sl 5 (List.map Estimate_av list), .fn (.func 27) [] []] := rfl
attribute [go_sem] qpk_impl_PackEstimates_25_impl_namesOf__impl_observerOf
noncomputable def t_47 : List (Nat × Ctr) := [(24, c_34), (25, pk_47_25), (28, c_43), (30, c_44), (29, c_42), (31, c_20), (32, c_21), (33, c_46)]
theorem lk_47_24 : look t_47 24 = some c_34 := rfl
theorem lk_47_25 : look t_47 25 = some pk_47_25 := rfl
theorem lk_47_28 : look t_47 28 = some c_43 := rfl
theorem lk_47_30 : look t_47 30 = some c_44 := rfl
theorem lk_47_29 : look t_47 29 = some c_42 := rfl
theorem lk_47_31 : look t_47 31 = some c_20 := rfl
theorem lk_47_32 : look t_47 32 = some c_21 := rfl
theorem lk_47_33 : look t_47 33 = some c_46 := rfl
noncomputable def c_47 : Ctr := mkF t_47 ir6 [.bor]
theorem s_47 : Sound Tryz.prog 6 c_47 := mkF_sound _ rfl (snd_cons s_34 (snd_cons s_pk_impl_PackEstimates_25 (snd_cons s_43 (snd_cons s_44 (snd_cons s_42 (snd_cons s_20 (snd_cons s_21 (snd_cons s_46 snd_nil)))))))) (by kernel_rfl : chkFn Tryz.prog 6 ir6 ir6_v = true)
theorem M_47 : c_47.modes = [.bor] := rfl
theorem Fl_47 : c_47.flat = true := rfl
attribute [go_sem] M_47 Fl_47
attribute [go_sem] lk_47_24 lk_47_25 lk_47_28 lk_47_30 lk_47_29 lk_47_31 lk_47_32 lk_47_33
def E_47_l2 (stars : List (List UInt8)) (observers : List (List UInt8)) (e_ : Estimate) (t30 : List Estimate) (t31 : Int) (t32 : Int) (t59 : List Int) (t60 : Int) : ((List UInt8) × Int) → St
 | (b, t61) => ⟨[.any, .any, .any, .own 3200000, .own 3200032, .own 3200064, .any, .any, .ref 3200096 0 0, .any, .any, .sl 5 (List.map Estimate_av t30), .int .i64 t31, .int .i64 t32, .any, .own 3200128, .int .i64 t60, .int .i64 t61, .any], [], [(3200000, ⟨1, List.map AV.str stars⟩), (3200032, ⟨1, List.map AV.str observers⟩), (3200064, ⟨1, List.map byteAV b⟩), (3200096, ⟨5, [Estimate_av e_]⟩), (3200128, ⟨1, List.map (AV.int .i64) t59⟩)], true⟩
def R_47_l2 (stars : List (List UInt8)) (observers : List (List UInt8)) (e_ : Estimate) (t30 : List Estimate) (t31 : Int) (t32 : Int) (t59 : List Int) (t60 : Int) (y : (List UInt8)) : Res := (.exit 2, ⟨[.any, .any, .any, .own 3200000, .own 3200032, .own 3200064, .any, .any, .ref 3200096 0 0, .any, .any, .sl 5 (List.map Estimate_av t30), .int .i64 t31, .int .i64 t32, .any, .any, .any, .any, .any], [], [(3200000, ⟨1, List.map AV.str stars⟩), (3200032, ⟨1, List.map AV.str observers⟩), (3200064, ⟨1, List.map byteAV y⟩), (3200096, ⟨5, [Estimate_av e_]⟩)], true⟩)
theorem impl_PackEstimates_l2_ex {stars : List (List UInt8)} {observers : List (List UInt8)} {e_ : Estimate} {t30 : List Estimate} {t31 : Int} {t32 : Int} {t59 : List Int} {t60 : Int} {sgm_ : (List UInt8) × Int} {rho_ : (List UInt8)} (h : whileE (impl_PackEstimates_l2 stars observers e_ t30 t31 t32 t59 t60) sgm_ = some rho_) : ∃ L0, ∀ L, L0 ≤ L → iter (exec (look t_47) L ir6_b1) ir6_k1 ir6_o1 ir6_r1 L (E_47_l2 stars observers e_ t30 t31 t32 t59 t60 sgm_) = R_47_l2 stars observers e_ t30 t31 t32 t59 t60 rho_ := by
 refine loop_ex (E := E_47_l2 stars observers e_ t30 t31 t32 t59 t60) (R := R_47_l2 stars observers e_ t30 t31 t32 t59 t60) (fun y => by first | (intro c; cases c) | (rcases y with y | y <;> (intro c; cases c)) | (rcases y with y | y | y <;> (intro c; cases c))) ?_ h
 clear h
 rintro ⟨b, t61⟩ o_ h
 dsimp only [impl_PackEstimates_l2] at h
 rcases it_some h with ⟨z15, h⟩ | ⟨z15, h⟩
 ·try simp only [go_sem, n1, n2, n3, n4] at z15
  all_goals
  obtain ⟨z16, h⟩ := ck_some h
  have lz16 := ix_lt z16
  have xz16 := getD_mapD (AV.int .i64) t59 lz16
  try simp only [go_sem] at lz16
  try simp only [go_sem] at xz16
  try simp only [go_sem, n1, n2, n3, n4, z15] at z16
  all_goals
  obtain ⟨y_17, z17, h⟩ := bd_some h
  have fz17 := Fs_42 z17
  try simp only [go_sem, z15, z16] at fz17
  obtain rfl := so_some h
  refine ⟨0, fun L hL => ?_⟩
  simp only [go_sem, ir6, E_47_l2, R_47_l2, ir6_b1, ir6_k1, ir6_o1, ir6_r1, z15, z16, lz16, xz16, fz17]
 ·try simp only [go_sem, n1, n2, n3, n4] at z15
  all_goals
  obtain rfl := so_some h
  refine ⟨0, fun L hL => ?_⟩
  simp only [go_sem, ir6, E_47_l2, R_47_l2, ir6_b1, ir6_k1, ir6_o1, ir6_r1, z15]

def E_47_l3 (stars : List (List UInt8)) (observers : List (List UInt8)) (e_ : Estimate) (t30 : List Estimate) (t31 : Int) (t32 : Int) (t59 : List Int) (t60 : Int) : ((List UInt8) × Int) → St
 | (b, t61) => ⟨[.any, .any, .any, .own 3200000, .own 3200032, .own 3200064, .any, .any, .ref 3200096 0 0, .any, .any, .sl 5 (List.map Estimate_av t30), .int .i64 t31, .int .i64 t32, .any, .own 3200128, .int .i64 t60, .int .i64 t61, .any], [], [(3200000, ⟨1, List.map AV.str stars⟩), (3200032, ⟨1, List.map AV.str observers⟩), (3200064, ⟨1, List.map byteAV b⟩), (3200096, ⟨5, [Estimate_av e_]⟩), (3200128, ⟨1, List.map (AV.int .i64) t59⟩)], true⟩
def R_47_l3 (stars : List (List UInt8)) (observers : List (List UInt8)) (e_ : Estimate) (t30 : List Estimate) (t31 : Int) (t32 : Int) (t59 : List Int) (t60 : Int) (y : (List UInt8)) : Res := (.exit 2, ⟨[.any, .any, .any, .own 3200000, .own 3200032, .own 3200064, .any, .any, .ref 3200096 0 0, .any, .any, .sl 5 (List.map Estimate_av t30), .int .i64 t31, .int .i64 t32, .any, .any, .any, .any, .any], [], [(3200000, ⟨1, List.map AV.str stars⟩), (3200032, ⟨1, List.map AV.str observers⟩), (3200064, ⟨1, List.map byteAV y⟩), (3200096, ⟨5, [Estimate_av e_]⟩)], true⟩)
theorem impl_PackEstimates_l3_ex {stars : List (List UInt8)} {observers : List (List UInt8)} {e_ : Estimate} {t30 : List Estimate} {t31 : Int} {t32 : Int} {t59 : List Int} {t60 : Int} {sgm_ : (List UInt8) × Int} {rho_ : (List UInt8)} (h : whileE (impl_PackEstimates_l3 stars observers e_ t30 t31 t32 t59 t60) sgm_ = some rho_) : ∃ L0, ∀ L, L0 ≤ L → iter (exec (look t_47) L ir6_b1) ir6_k1 ir6_o1 ir6_r1 L (E_47_l3 stars observers e_ t30 t31 t32 t59 t60 sgm_) = R_47_l3 stars observers e_ t30 t31 t32 t59 t60 rho_ := by
 refine loop_ex (E := E_47_l3 stars observers e_ t30 t31 t32 t59 t60) (R := R_47_l3 stars observers e_ t30 t31 t32 t59 t60) (fun y => by first | (intro c; cases c) | (rcases y with y | y <;> (intro c; cases c)) | (rcases y with y | y | y <;> (intro c; cases c))) ?_ h
 clear h
 rintro ⟨b, t61⟩ o_ h
 dsimp only [impl_PackEstimates_l3] at h
 rcases it_some h with ⟨z21, h⟩ | ⟨z21, h⟩
 ·try simp only [go_sem, n1, n2, n3, n4] at z21
  all_goals
  obtain ⟨z22, h⟩ := ck_some h
  have lz22 := ix_lt z22
  have xz22 := getD_mapD (AV.int .i64) t59 lz22
  try simp only [go_sem] at lz22
  try simp only [go_sem] at xz22
  try simp only [go_sem, n1, n2, n3, n4, z21] at z22
  all_goals
  obtain ⟨y_23, z23, h⟩ := bd_some h
  have fz23 := Fs_42 z23
  try simp only [go_sem, z21, z22] at fz23
  obtain rfl := so_some h
  refine ⟨0, fun L hL => ?_⟩
  simp only [go_sem, ir6, E_47_l3, R_47_l3, ir6_b1, ir6_k1, ir6_o1, ir6_r1, E_47_l2, R_47_l2, ir6_k1, ir6_o1, ir6_r1, z21, z22, lz22, xz22, fz23]
 ·try simp only [go_sem, n1, n2, n3, n4] at z21
  all_goals
  obtain rfl := so_some h
  refine ⟨0, fun L hL => ?_⟩
  simp only [go_sem, ir6, E_47_l3, R_47_l3, ir6_b1, ir6_k1, ir6_o1, ir6_r1, E_47_l2, R_47_l2, ir6_k1, ir6_o1, ir6_r1, z21]

def E_47_l1 (stars : List (List UInt8)) (observers : List (List UInt8)) (t30 : List Estimate) (t31 : Int) : ((List UInt8) × Int × Int × Int) → St
 | (b, time, mag, t32) => ⟨[.any, .any, .any, .own 3200000, .own 3200032, .own 3200064, .int .i64 time, .int .i64 mag, .any, .any, .any, .sl 5 (List.map Estimate_av t30), .int .i64 t31, .int .i64 t32, .any, .any, .any, .any, .any], [], [(3200000, ⟨1, List.map AV.str stars⟩), (3200032, ⟨1, List.map AV.str observers⟩), (3200064, ⟨1, List.map byteAV b⟩)], true⟩
def R_47_l1 (stars : List (List UInt8)) (observers : List (List UInt8)) (t30 : List Estimate) (t31 : Int) (y : (List UInt8)) : Res := (.exit 0, ⟨[.any, .any, .any, .any, .any, .own 3200000, .any, .any, .any, .any, .any, .any, .any, .any, .any, .any, .any, .any, .any], [], [(3200000, ⟨1, List.map byteAV y⟩)], true⟩)
theorem impl_PackEstimates_l1_ex {stars : List (List UInt8)} {observers : List (List UInt8)} {t30 : List Estimate} {t31 : Int} {sgm_ : (List UInt8) × Int × Int × Int} {rho_ : (List UInt8)} (h : whileE (impl_PackEstimates_l1 stars observers t30 t31) sgm_ = some rho_) : ∃ L0, ∀ L, L0 ≤ L → iter (exec (look t_47) L ir6_b0) ir6_k0 ir6_o0 ir6_r0 L (E_47_l1 stars observers t30 t31 sgm_) = R_47_l1 stars observers t30 t31 rho_ := by
 refine loop_ex (E := E_47_l1 stars observers t30 t31) (R := R_47_l1 stars observers t30 t31) (fun y => by first | (intro c; cases c) | (rcases y with y | y <;> (intro c; cases c)) | (rcases y with y | y | y <;> (intro c; cases c))) ?_ h
 clear h
 rintro ⟨b, time, mag, t32⟩ o_ h
 dsimp only [impl_PackEstimates_l1] at h
 rcases it_some h with ⟨z9, h⟩ | ⟨z9, h⟩
 ·try simp only [go_sem, n1, n2, n3, n4] at z9
  all_goals
  obtain ⟨z10, h⟩ := ck_some h
  have lz10 := ix_lt z10
  have xz10 := getD_mapD Estimate_av t30 lz10
  try simp only [go_sem] at lz10
  try simp only [go_sem] at xz10
  try simp only [go_sem, n1, n2, n3, n4, z9] at z10
  all_goals
  obtain ⟨y_11, z11, h⟩ := bd_some h
  have fz11 := Fs_20 z11
  try simp only [go_sem, z9, z10] at fz11
  rcases it_some h with ⟨z12, h⟩ | ⟨z12, h⟩
  ·try simp only [go_sem, n1, n2, n3, n4, z9, z10] at z12
   all_goals
   obtain ⟨y_13, z13, h⟩ := bd_some h
   have fz13 := Fs_20 z13
   try simp only [go_sem, z9, z10, z12] at fz13
   obtain ⟨y_14, z14, h⟩ := bd_some h
   have fz14 := Fs_21 z14
   try simp only [go_sem, z9, z10, z12] at fz14
   obtain ⟨y_18, z18, h⟩ := bd_some h
   obtain ⟨Lz18, ez18⟩ := impl_PackEstimates_l2_ex z18
   obtain rfl := so_some h
   refine ⟨Lz18, fun L hL => ?_⟩
   have ez18 := ez18 L (by omega)
   try simp only [go_sem, E_47_l1, R_47_l1, ir6_b0, ir6_k0, ir6_o0, ir6_r0, E_47_l2, R_47_l2, ir6_k1, ir6_o1, ir6_r1, E_47_l3, R_47_l3, ir6_k1, ir6_o1, ir6_r1, z9, z10, z12] at ez18
   simp only [go_sem, ir6, E_47_l1, R_47_l1, ir6_b0, ir6_k0, ir6_o0, ir6_r0, E_47_l2, R_47_l2, ir6_k1, ir6_o1, ir6_r1, E_47_l3, R_47_l3, ir6_k1, ir6_o1, ir6_r1, z9, z10, lz10, xz10, fz11, z12, fz13, fz14, ez18]
  ·try simp only [go_sem, n1, n2, n3, n4, z9, z10] at z12
   all_goals
   obtain ⟨y_19, z19, h⟩ := bd_some h
   have fz19 := Fs_20 z19
   try simp only [go_sem, z9, z10, z12] at fz19
   obtain ⟨y_20, z20, h⟩ := bd_some h
   have fz20 := Fs_21 z20
   try simp only [go_sem, z9, z10, z12] at fz20
   obtain ⟨y_24, z24, h⟩ := bd_some h
   obtain ⟨Lz24, ez24⟩ := impl_PackEstimates_l3_ex z24
   obtain rfl := so_some h
   refine ⟨Lz24, fun L hL => ?_⟩
   have ez24 := ez24 L (by omega)
   try simp only [go_sem, E_47_l1, R_47_l1, ir6_b0, ir6_k0, ir6_o0, ir6_r0, E_47_l2, R_47_l2, ir6_k1, ir6_o1, ir6_r1, E_47_l3, R_47_l3, ir6_k1, ir6_o1, ir6_r1, z9, z10, z12] at ez24
   simp only [go_sem, ir6, E_47_l1, R_47_l1, ir6_b0, ir6_k0, ir6_o0, ir6_r0, E_47_l2, R_47_l2, ir6_k1, ir6_o1, ir6_r1, E_47_l3, R_47_l3, ir6_k1, ir6_o1, ir6_r1, z9, z10, lz10, xz10, fz11, z12, fz19, fz20, ez24]
 ·try simp only [go_sem, n1, n2, n3, n4] at z9
  all_goals
  obtain rfl := so_some h
  refine ⟨0, fun L hL => ?_⟩
  simp only [go_sem, ir6, E_47_l1, R_47_l1, ir6_b0, ir6_k0, ir6_o0, ir6_r0, E_47_l2, R_47_l2, ir6_k1, ir6_o1, ir6_r1, E_47_l3, R_47_l3, ir6_k1, ir6_o1, ir6_r1, z9]

theorem Fs_47 {list : List Estimate} {y_ : (List UInt8) × Int} (h : impl_PackEstimates list = some y_) : c_47.F [.sl 5 (List.map Estimate_av list)] = ⟨true, .tup [.fresh 1 (List.map byteAV y_.1), .int .i64 y_.2], [.any]⟩ := by
 refine mkF_E (by simp only [flatA, flatB, flat1, List.all_cons, List.all_nil, Bool.and_self, flatE_map (f := byteAV) (fun _ => rfl)]) ?_
 dsimp only [impl_PackEstimates] at h
 obtain ⟨y_1, z1, h⟩ := bd_some h
 have fz1 := Fs_34 z1
 try simp only [go_sem] at fz1
 rcases it_some h with ⟨z2, h⟩ | ⟨z2, h⟩
 ·try simp only [go_sem, n1, n2, n3, n4] at z2
  all_goals
  obtain rfl := so_some h
  refine ⟨0, fun L hL => ?_⟩
  simp only [go_sem, ir6, E_47_l2, R_47_l2, ir6_k1, ir6_o1, ir6_r1, E_47_l3, R_47_l3, ir6_k1, ir6_o1, ir6_r1, E_47_l1, R_47_l1, ir6_k0, ir6_o0, ir6_r0, fz1, z2]
 ·try simp only [go_sem, n1, n2, n3, n4] at z2
  all_goals
  obtain ⟨y_3, z3, h⟩ := bd_some h
  have fz3 := Fs_38 z3
  try simp only [go_sem, z2] at fz3
  obtain ⟨y_4, z4, h⟩ := bd_some h
  have fz4 := Fs_40 z4
  try simp only [go_sem, z2] at fz4
  obtain ⟨y_5, z5, h⟩ := bd_some h
  have fz5 := Fs_43 z5
  try simp only [go_sem, z2] at fz5
  obtain ⟨y_6, z6, h⟩ := bd_some h
  have fz6 := Fs_43 z6
  try simp only [go_sem, z2] at fz6
  obtain ⟨y_7, z7, h⟩ := bd_some h
  have fz7 := Fs_44 z7
  try simp only [go_sem, z2] at fz7
  obtain ⟨y_8, z8, h⟩ := bd_some h
  have fz8 := Fs_42 z8
  try simp only [go_sem, z2] at fz8
  obtain ⟨y_25, z25, h⟩ := bd_some h
  obtain ⟨Lz25, ez25⟩ := impl_PackEstimates_l1_ex z25
  obtain ⟨y_26, z26, h⟩ := bd_some h
  have fz26 := Fs_46 z26
  try simp only [go_sem, z2] at fz26
  obtain rfl := so_some h
  refine ⟨Lz25, fun L hL => ?_⟩
  have ez25 := ez25 L (by omega)
  try simp only [go_sem, E_47_l2, R_47_l2, ir6_k1, ir6_o1, ir6_r1, E_47_l3, R_47_l3, ir6_k1, ir6_o1, ir6_r1, E_47_l1, R_47_l1, ir6_k0, ir6_o0, ir6_r0, z2] at ez25
  simp only [go_sem, ir6, E_47_l2, R_47_l2, ir6_k1, ir6_o1, ir6_r1, E_47_l3, R_47_l3, ir6_k1, ir6_o1, ir6_r1, E_47_l1, R_47_l1, ir6_k0, ir6_o0, ir6_r0, fz1, z2, fz3, fz4, fz5, fz6, fz7, fz8, fz26, ez25]


def ir102_v : List Nat := [0, 1, 2, 6]
def ir102 : AFn := ⟨3, 4, .seq (.region false [ VO 3 6 (.mov (.c (.bool false)))]) (.seq (.region false [ PM 7 0, PM 8 1, PO 9 (.bin false .geq (.s 1) (.s 0)), PO 10 (.mov (.s 0)), ⟨.push, 11, (some ((.s 0), true)), .mov (.v 0)⟩, ⟨.push, 12, (some ((.s 1), true)), .mov (.v 2)⟩, ⟨.push, 13, (some ((.s 2), true)), .bin false .leq (.s 1) (.s 0)⟩, PO 14 (.pick (.s 3) (.s 0) (.c (.bool false))), VS 3 6 0]) (.ret)), [.t 3]⟩
noncomputable def t_48 : List (Nat × Ctr) := []
noncomputable def c_48 : Ctr := mkF t_48 ir102 [.bor, .bor, .bor]
theorem s_48 : Sound Tryz.prog 102 c_48 := mkF_sound _ rfl snd_nil (by kernel_rfl : chkFn Tryz.prog 102 ir102 ir102_v = true)
theorem M_48 : c_48.modes = [.bor, .bor, .bor] := rfl
theorem Fl_48 : c_48.flat = true := rfl
attribute [go_sem] M_48 Fl_48
theorem Fs_48 {n : Int} {low : Int} {high : Int} {y_ : Bool} (h : spec_l00In n low high = some y_) : c_48.F [.int .i64 n, .int .i64 low, .int .i64 high] = ⟨true, .bool y_, [.any, .any, .any]⟩ := by
 refine mkF_E rfl ?_
 dsimp only [spec_l00In] at h
 obtain rfl := so_some h
 refine ⟨0, fun L hL => ?_⟩
 simp only [go_sem, ir102]


def ir80_v : List Nat := [0, 2]
def ir80 : AFn := ⟨1, 2, .seq (.region false [ VO 1 2 (.mov (.c (.bool false)))]) (.seq (.region false [ PM 3 0, PO 4 (.call 102 [(.s 0), (I6 0), (I6 10000000)]), VS 1 2 0]) (.ret)), [.t 1]⟩
noncomputable def t_49 : List (Nat × Ctr) := [(102, c_48)]
theorem lk_49_102 : look t_49 102 = some c_48 := rfl
noncomputable def c_49 : Ctr := mkF t_49 ir80 [.bor]
theorem s_49 : Sound Tryz.prog 80 c_49 := mkF_sound _ rfl (snd_cons s_48 snd_nil) (by kernel_rfl : chkFn Tryz.prog 80 ir80 ir80_v = true)
theorem M_49 : c_49.modes = [.bor] := rfl
theorem Fl_49 : c_49.flat = true := rfl
attribute [go_sem] M_49 Fl_49
attribute [go_sem] lk_49_102
theorem Fs_49 {n : Int} {y_ : Bool} (h : spec_l06Time n = some y_) : c_49.F [.int .i64 n] = ⟨true, .bool y_, [.any]⟩ := by
 refine mkF_E rfl ?_
 dsimp only [spec_l06Time] at h
 obtain ⟨y_1, z1, h⟩ := bd_some h
 have fz1 := Fs_48 z1
 try simp only [go_sem] at fz1
 obtain rfl := so_some h
 refine ⟨0, fun L hL => ?_⟩
 simp only [go_sem, ir80, fz1]


def ir116_v : List Nat := [0, 2]
def ir116 : AFn := ⟨1, 2, .seq (.region false [ VO 1 2 (.mov (.c (.bool false)))]) (.seq (.region false [ PM 3 0, PO 4 (.bin false .geq (.s 0) (.c (.int .u8 (97)))), PO 5 (.mov (.s 0)), ⟨.push, 6, (some ((.s 0), true)), .mov (.v 0)⟩, ⟨.push, 7, (some ((.s 1), true)), .bin false .leq (.s 0) (.c (.int .u8 (122)))⟩, PO 8 (.pick (.s 2) (.s 0) (.c (.bool false))), VS 1 2 0]) (.ret)), [.t 1]⟩
noncomputable def t_50 : List (Nat × Ctr) := []
noncomputable def c_50 : Ctr := mkF t_50 ir116 [.bor]
theorem s_50 : Sound Tryz.prog 116 c_50 := mkF_sound _ rfl snd_nil (by kernel_rfl : chkFn Tryz.prog 116 ir116 ir116_v = true)
theorem M_50 : c_50.modes = [.bor] := rfl
theorem Fl_50 : c_50.flat = true := rfl
attribute [go_sem] M_50 Fl_50
theorem Fs_50 {c : UInt8} {y_ : Bool} (h : spec_l01Small c = some y_) : c_50.F [.int .u8 (c.toNat : Int)] = ⟨true, .bool y_, [.any]⟩ := by
 refine mkF_E rfl ?_
 dsimp only [spec_l01Small] at h
 obtain rfl := so_some h
 refine ⟨0, fun L hL => ?_⟩
 simp only [go_sem, ir116]


def ir117_v : List Nat := [0, 2]
def ir117 : AFn := ⟨1, 2, .seq (.region false [ VO 1 2 (.mov (.c (.bool false)))]) (.seq (.region false [ PM 3 0, PO 4 (.bin false .geq (.s 0) (.c (.int .u8 (48)))), PO 5 (.mov (.s 0)), ⟨.push, 6, (some ((.s 0), true)), .mov (.v 0)⟩, ⟨.push, 7, (some ((.s 1), true)), .bin false .leq (.s 0) (.c (.int .u8 (57)))⟩, PO 8 (.pick (.s 2) (.s 0) (.c (.bool false))), VS 1 2 0]) (.ret)), [.t 1]⟩
noncomputable def t_51 : List (Nat × Ctr) := []
noncomputable def c_51 : Ctr := mkF t_51 ir117 [.bor]
theorem s_51 : Sound Tryz.prog 117 c_51 := mkF_sound _ rfl snd_nil (by kernel_rfl : chkFn Tryz.prog 117 ir117 ir117_v = true)
theorem M_51 : c_51.modes = [.bor] := rfl
theorem Fl_51 : c_51.flat = true := rfl
attribute [go_sem] M_51 Fl_51
theorem Fs_51 {c : UInt8} {y_ : Bool} (h : spec_l01Digit c = some y_) : c_51.F [.int .u8 (c.toNat : Int)] = ⟨true, .bool y_, [.any]⟩ := by
 refine mkF_E rfl ?_
 dsimp only [spec_l01Digit] at h
 obtain rfl := so_some h
 refine ⟨0, fun L hL => ?_⟩
 simp only [go_sem, ir117]


def ir98_b0 : IR := .seq (.test false [ PM 17 2, PM 18 0, PO 19 (.len true (.s 0)), PO 20 (.bin false .lss (.s 2) (.s 0))] (.s 0) (.skip) (.exit 0)) (.seq (.block 1 (.test false [ PM 23 0, PM 24 2, PO 25 (.ixStr (.s 1) (.s 0)), PO 26 (.call 116 [(.s 0)]), PO 27 (.un .not (.s 0)), PO 28 (.mov (.s 0)), ⟨.push, 29, (some ((.s 0), true)), .mov (.v 0)⟩, ⟨.push, 30, (some ((.s 1), true)), .mov (.v 2)⟩, ⟨.push, 31, (some ((.s 2), true)), .ixStr (.s 1) (.s 0)⟩, ⟨.push, 32, (some ((.s 3), true)), .call 117 [(.s 0)]⟩, ⟨.push, 33, (some ((.s 4), true)), .un .not (.s 0)⟩, PO 34 (.pick (.s 5) (.s 0) (.c
 (.bool false))), PO 35 (.mov (.s 0)), ⟨.push, 36, (some ((.s 0), true)), .mov (.v 0)⟩, ⟨.push, 37, (some ((.s 1), true)), .mov (.v 2)⟩, ⟨.push, 38, (some ((.s 2), true)), .ixStr (.s 1) (.s 0)⟩, ⟨.push, 39, (some ((.s 3), true)), .bin false .neq (.s 0) (.c (.int .u8 (45)))⟩, PO 40 (.pick (.s 4) (.s 0) (.c (.bool false)))] (.s 0) (.seq (.region false [ VO 1 2 (.mov (.c (.bool false)))]) (.ret)) (.skip))) (.region false [ PM 21 2, PO 22 (.bin false .add (.s 0) (I6 1)), VS 2 3 0]))
def ir98_k0 : List Bool := [true, false, true]
def ir98_o0 : List Bool := [false, false, false]
def ir98_r0 : List Bool := [false, true, false]
def ir98_v : List Nat := [0, 2, 3]
def ir98 : AFn := ⟨1, 3, .seq (.region false [ VO 1 2 (.mov (.c (.bool false)))]) (.seq (.test false [ PM 4 0, PO 5 (.bin false .eql (.s 0) (.c (.str []))), PO 6 (.mov (.s 0)), ⟨.push, 7, (some ((.s 0), false)), .mov (.v 0)⟩, ⟨.push, 8, (some ((.s 1), false)), .len true (.s 0)⟩, ⟨.push, 9, (some ((.s 2), false)), .bin false .gtr (.s 0) (I6 12)⟩, PO 10 (.pick (.s 3) (.c (.bool true)) (.s 0)), PO 11 (.mov (.s 0)), ⟨.push, 12, (some ((.s 0), false)), .mov (.v 0)⟩, ⟨.push, 13, (some ((.s 1), false)), .ixStr (.s 0) (I6 0)⟩, ⟨.push, 14, (some ((.s 2), false)), .call 116 [(.s 0)]⟩, ⟨.push, 15, (some
 ((.s 3), false)), .un .not (.s 0)⟩, PO 16 (.pick (.s 4) (.c (.bool true)) (.s 0))] (.s 0) (.seq (.region false [ VO 1 2 (.mov (.c (.bool false)))]) (.ret)) (.skip)) (.seq (.seq (.region false [ VO 2 3 (.mov (I6 0))]) (.block 0 (.loop ir98_k0 ir98_o0 ir98_r0 ir98_b0))) (.seq (.region false [ VO 1 2 (.mov (.c (.bool true)))]) (.ret)))), [.t 1]⟩
noncomputable def t_52 : List (Nat × Ctr) := [(116, c_50), (117, c_51)]
theorem lk_52_116 : look t_52 116 = some c_50 := rfl
theorem lk_52_117 : look t_52 117 = some c_51 := rfl
noncomputable def c_52 : Ctr := mkF t_52 ir98 [.bor]
theorem s_52 : Sound Tryz.prog 98 c_52 := mkF_sound _ rfl (snd_cons s_50 (snd_cons s_51 snd_nil)) (by kernel_rfl : chkFn Tryz.prog 98 ir98 ir98_v = true)
theorem M_52 : c_52.modes = [.bor] := rfl
theorem Fl_52 : c_52.flat = true := rfl
attribute [go_sem] M_52 Fl_52
attribute [go_sem] lk_52_116 lk_52_117
def E_52_l1 (s_ : List UInt8) : Int → St
 | i => ⟨[.str s_, .any, .int .i64 i], [], [], true⟩
def R_52_l1 (s_ : List UInt8) : (Unit ⊕ Bool) → Res
 | .inl y => (.exit 0, ⟨[.any, .any, .any], [], [], true⟩)
 | .inr y => (.ret, ⟨[.any, .bool y, .any], [], [], true⟩)
theorem spec_IsName_l1_ex {s_ : List UInt8} {sgm_ : Int} {rho_ : Unit ⊕ Bool} (h : whileE (spec_IsName_l1 s_) sgm_ = some rho_) : ∃ L0, ∀ L, L0 ≤ L → iter (exec (look t_52) L ir98_b0) ir98_k0 ir98_o0 ir98_r0 L (E_52_l1 s_ sgm_) = R_52_l1 s_ rho_ := by
 refine loop_ex (E := E_52_l1 s_) (R := R_52_l1 s_) (fun y => by first | (intro c; cases c) | (rcases y with y | y <;> (intro c; cases c)) | (rcases y with y | y | y <;> (intro c; cases c))) ?_ h
 clear h
 intro i o_ h
 dsimp only [spec_IsName_l1] at h
 rcases it_some h with ⟨z4, h⟩ | ⟨z4, h⟩
 ·try simp only [go_sem, n1, n2, n3, n4] at z4
  all_goals
  obtain ⟨z5, h⟩ := ck_some h
  try simp only [go_sem, n1, n2, n3, n4, z4] at z5
  all_goals
  obtain ⟨y_6, z6, h⟩ := bd_some h
  have fz6 := Fs_50 z6
  try simp only [go_sem, z4, z5] at fz6
  obtain ⟨z7, h⟩ := ck_some h
  rcases or_split z7 with ⟨gz7, z7⟩ | gz7
  ·try simp only [go_sem, n1, n2, n3, n4, z4, z5] at gz7
   all_goals
   obtain ⟨y_7, hz7⟩ := Option.isSome_iff_exists.1 z7
   have fz7 := Fs_51 hz7
   try simp only [go_sem, n1, n2, n3, n4, z4, z5, gz7] at hz7
   all_goals
   try simp only [go_sem, z4, z5, gz7] at fz7
   rcases it_some h with ⟨z8, h⟩ | ⟨z8, h⟩
   ·try simp only [go_sem, n1, n2, n3, n4, z4, z5, gz7, hz7] at z8
    all_goals
    obtain rfl := so_some h
    refine ⟨0, fun L hL => ?_⟩
    simp only [go_sem, ir98, E_52_l1, R_52_l1, ir98_b0, ir98_k0, ir98_o0, ir98_r0, z4, z5, fz6, gz7, hz7, fz7, z8]
   ·try simp only [go_sem, n1, n2, n3, n4, z4, z5, gz7, hz7] at z8
    all_goals
    obtain rfl := so_some h
    refine ⟨0, fun L hL => ?_⟩
    simp only [go_sem, ir98, E_52_l1, R_52_l1, ir98_b0, ir98_k0, ir98_o0, ir98_r0, z4, z5, fz6, gz7, hz7, fz7, z8]
  ·have gz7n := no_f gz7
   try simp only [go_sem, n1, n2, n3, n4, z4, z5] at gz7n
   all_goals
   rcases it_some h with ⟨z8, h⟩ | ⟨z8, h⟩
   ·try simp only [go_sem, n1, n2, n3, n4, z4, z5, gz7n] at z8
    all_goals
    (simp_all)
   ·try simp only [go_sem, n1, n2, n3, n4, z4, z5, gz7n] at z8
    all_goals
    obtain rfl := so_some h
    refine ⟨0, fun L hL => ?_⟩
    simp only [go_sem, ir98, E_52_l1, R_52_l1, ir98_b0, ir98_k0, ir98_o0, ir98_r0, z4, z5, fz6, gz7n, z8]
 ·try simp only [go_sem, n1, n2, n3, n4] at z4
  all_goals
  obtain rfl := so_some h
  refine ⟨0, fun L hL => ?_⟩
  simp only [go_sem, ir98, E_52_l1, R_52_l1, ir98_b0, ir98_k0, ir98_o0, ir98_r0, z4]

theorem Fs_52 {s_ : List UInt8} {y_ : Bool} (h : spec_IsName s_ = some y_) : c_52.F [.str s_] = ⟨true, .bool y_, [.any]⟩ := by
 refine mkF_E rfl ?_
 dsimp only [spec_IsName] at h
 obtain ⟨z1, h⟩ := ck_some h
 rcases or_split z1 with ⟨gz1, z1⟩ | gz1
 ·try simp only [go_sem, n1, n2, n3, n4] at gz1
  all_goals
  try simp only [go_sem, n1, n2, n3, n4, gz1] at z1
  all_goals
  obtain ⟨z2, h⟩ := ck_some h
  rcases or_split z2 with ⟨gz2, z2⟩ | gz2
  ·try simp only [go_sem, n1, n2, n3, n4, gz1, z1] at gz2
   all_goals
   obtain ⟨y_2, hz2⟩ := Option.isSome_iff_exists.1 z2
   have fz2 := Fs_50 hz2
   try simp only [go_sem, n1, n2, n3, n4, gz1, z1, gz2] at hz2
   all_goals
   try simp only [go_sem, gz1, z1, gz2] at fz2
   rcases it_some h with ⟨z3, h⟩ | ⟨z3, h⟩
   ·try simp only [go_sem, n1, n2, n3, n4, gz1, z1, gz2, hz2] at z3
    all_goals
    obtain rfl := so_some h
    refine ⟨0, fun L hL => ?_⟩
    simp only [go_sem, ir98, E_52_l1, R_52_l1, ir98_k0, ir98_o0, ir98_r0, gz1, z1, gz2, hz2, fz2, z3]
   ·try simp only [go_sem, n1, n2, n3, n4, gz1, z1, gz2, hz2] at z3
    all_goals
    obtain ⟨y_9, z9, h⟩ := bd_some h
    obtain ⟨Lz9, ez9⟩ := spec_IsName_l1_ex z9
    rcases y_9 with y_9a | y_9b
    ·dsimp only at h
     obtain rfl := so_some h
     refine ⟨Lz9, fun L hL => ?_⟩
     have ez9 := ez9 L (by omega)
     try simp only [go_sem, E_52_l1, R_52_l1, ir98_k0, ir98_o0, ir98_r0, gz1, z1, gz2, hz2, z3] at ez9
     simp only [go_sem, ir98, E_52_l1, R_52_l1, ir98_k0, ir98_o0, ir98_r0, gz1, z1, gz2, hz2, fz2, z3, ez9]
    ·dsimp only at h
     obtain rfl := so_some h
     refine ⟨Lz9, fun L hL => ?_⟩
     have ez9 := ez9 L (by omega)
     try simp only [go_sem, E_52_l1, R_52_l1, ir98_k0, ir98_o0, ir98_r0, gz1, z1, gz2, hz2, z3] at ez9
     simp only [go_sem, ir98, E_52_l1, R_52_l1, ir98_k0, ir98_o0, ir98_r0, gz1, z1, gz2, hz2, fz2, z3, ez9]
  ·have gz2n := no_f gz2
   rcases or_t gz2n with gz2na | ⟨gz2na, gz2nb⟩
   ·try simp only [go_sem, n1, n2, n3, n4, gz1, z1] at gz2na
    all_goals
    (simp_all)
   ·try simp only [go_sem, n1, n2, n3, n4, gz1, z1] at gz2na
    all_goals
    try simp only [go_sem, n1, n2, n3, n4, gz1, z1, gz2na] at gz2nb
    all_goals
    rcases it_some h with ⟨z3, h⟩ | ⟨z3, h⟩
    ·try simp only [go_sem, n1, n2, n3, n4, gz1, z1, gz2na, gz2nb] at z3
     all_goals
     obtain rfl := so_some h
     refine ⟨0, fun L hL => ?_⟩
     simp only [go_sem, ir98, E_52_l1, R_52_l1, ir98_k0, ir98_o0, ir98_r0, gz1, z1, gz2na, gz2nb, z3]
    ·try simp only [go_sem, n1, n2, n3, n4, gz1, z1, gz2na, gz2nb] at z3
     all_goals
     obtain ⟨y_9, z9, h⟩ := bd_some h
     obtain ⟨Lz9, ez9⟩ := spec_IsName_l1_ex z9
     rcases y_9 with y_9a | y_9b
     ·dsimp only at h
      obtain rfl := so_some h
      refine ⟨Lz9, fun L hL => ?_⟩
      have ez9 := ez9 L (by omega)
      try simp only [go_sem, E_52_l1, R_52_l1, ir98_k0, ir98_o0, ir98_r0, gz1, z1, gz2na, gz2nb, z3] at ez9
      simp only [go_sem, ir98, E_52_l1, R_52_l1, ir98_k0, ir98_o0, ir98_r0, gz1, z1, gz2na, gz2nb, z3, ez9]
     ·dsimp only at h
      obtain rfl := so_some h
      refine ⟨Lz9, fun L hL => ?_⟩
      have ez9 := ez9 L (by omega)
      try simp only [go_sem, E_52_l1, R_52_l1, ir98_k0, ir98_o0, ir98_r0, gz1, z1, gz2na, gz2nb, z3] at ez9
      simp only [go_sem, ir98, E_52_l1, R_52_l1, ir98_k0, ir98_o0, ir98_r0, gz1, z1, gz2na, gz2nb, z3, ez9]
 ·have gz1n := no_f gz1
  rcases or_t gz1n with gz1na | ⟨gz1na, gz1nb⟩
  ·try simp only [go_sem, n1, n2, n3, n4] at gz1na
   all_goals
   obtain ⟨z2, h⟩ := ck_some h
   rcases it_some h with ⟨z3, h⟩ | ⟨z3, h⟩
   ·try simp only [go_sem, n1, n2, n3, n4, gz1na] at z3
    all_goals
    obtain rfl := so_some h
    refine ⟨0, fun L hL => ?_⟩
    simp only [go_sem, ir98, E_52_l1, R_52_l1, ir98_k0, ir98_o0, ir98_r0, gz1na, z3]
   ·try simp only [go_sem, n1, n2, n3, n4, gz1na] at z3
    all_goals
    (simp_all)
  ·try simp only [go_sem, n1, n2, n3, n4] at gz1na
   all_goals
   try simp only [go_sem, n1, n2, n3, n4, gz1na] at gz1nb
   all_goals
   obtain ⟨z2, h⟩ := ck_some h
   rcases it_some h with ⟨z3, h⟩ | ⟨z3, h⟩
   ·try simp only [go_sem, n1, n2, n3, n4, gz1na, gz1nb] at z3
    all_goals
    obtain rfl := so_some h
    refine ⟨0, fun L hL => ?_⟩
    simp only [go_sem, ir98, E_52_l1, R_52_l1, ir98_k0, ir98_o0, ir98_r0, gz1na, gz1nb, z3]
   ·try simp only [go_sem, n1, n2, n3, n4, gz1na, gz1nb] at z3
    all_goals
    (simp_all)


def ir81_v : List Nat := [0, 2]
def ir81 : AFn := ⟨1, 2, .seq (.region false [ VO 1 2 (.mov (.c (.bool false)))]) (.seq (.region false [ PM 3 0, PO 4 (.call 102 [(.s 0), (.c (.int .i64 (-2000))), (I6 20000)]), VS 1 2 0]) (.ret)), [.t 1]⟩
noncomputable def t_53 : List (Nat × Ctr) := [(102, c_48)]
theorem lk_53_102 : look t_53 102 = some c_48 := rfl
noncomputable def c_53 : Ctr := mkF t_53 ir81 [.bor]
theorem s_53 : Sound Tryz.prog 81 c_53 := mkF_sound _ rfl (snd_cons s_48 snd_nil) (by kernel_rfl : chkFn Tryz.prog 81 ir81 ir81_v = true)
theorem M_53 : c_53.modes = [.bor] := rfl
theorem Fl_53 : c_53.flat = true := rfl
attribute [go_sem] M_53 Fl_53
attribute [go_sem] lk_53_102
theorem Fs_53 {m : Int} {y_ : Bool} (h : spec_l02Mag m = some y_) : c_53.F [.int .i64 m] = ⟨true, .bool y_, [.any]⟩ := by
 refine mkF_E rfl ?_
 dsimp only [spec_l02Mag] at h
 obtain ⟨y_1, z1, h⟩ := bd_some h
 have fz1 := Fs_48 z1
 try simp only [go_sem] at fz1
 obtain rfl := so_some h
 refine ⟨0, fun L hL => ?_⟩
 simp only [go_sem, ir81, fz1]


def ir69_v : List Nat := [0, 2]
def ir69 : AFn := ⟨1, 2, .seq (.region false [ VO 1 2 (.mov (.c (.bool false)))]) (.seq (.region false [ PM 3 0, PO 4 (.nilck (.s 0)), PO 5 (.fldAddr 0 (.s 0)), PO 6 (.load false 1 (.s 0)), PO 7 (.call 80 [(.s 0)]), PO 8 (.mov (.s 0)), ⟨.push, 9, (some ((.s 0), true)), .mov (.v 0)⟩, ⟨.push, 10, (some ((.s 1), true)), .nilck (.s 0)⟩, ⟨.push, 11, (some ((.s 2), true)), .fldAddr 1 (.s 0)⟩, ⟨.push, 12, (some ((.s 3), true)), .load false 1 (.s 0)⟩, ⟨.push, 13, (some ((.s 4), true)), .call 98 [(.s 0)]⟩, PO 14 (.pick (.s 5) (.s 0) (.c (.bool false))), PO 15 (.mov (.s 0)), ⟨.push, 16, (some ((.s 0),
 true)), .mov (.v 0)⟩, ⟨.push, 17, (some ((.s 1), true)), .nilck (.s 0)⟩, ⟨.push, 18, (some ((.s 2), true)), .fldAddr 2 (.s 0)⟩, ⟨.push, 19, (some ((.s 3), true)), .load false 1 (.s 0)⟩, ⟨.push, 20, (some ((.s 4), true)), .call 98 [(.s 0)]⟩, PO 21 (.pick (.s 5) (.s 0) (.c (.bool false))), PO 22 (.mov (.s 0)), ⟨.push, 23, (some ((.s 0), true)), .mov (.v 0)⟩, ⟨.push, 24, (some ((.s 1), true)), .nilck (.s 0)⟩, ⟨.push, 25, (some ((.s 2), true)), .fldAddr 3 (.s 0)⟩, ⟨.push, 26, (some ((.s 3), true)), .load false 1 (.s 0)⟩, ⟨.push, 27, (some ((.s 4), true)), .call 81 [(.s 0)]⟩, PO 28 (.pick (.s 5)
 (.s 0) (.c (.bool false))), VS 1 2 0]) (.ret)), [.t 1]⟩
noncomputable def t_54 : List (Nat × Ctr) := [(80, c_49), (98, c_52), (81, c_53)]
theorem lk_54_80 : look t_54 80 = some c_49 := rfl
theorem lk_54_98 : look t_54 98 = some c_52 := rfl
theorem lk_54_81 : look t_54 81 = some c_53 := rfl
noncomputable def c_54 : Ctr := mkF t_54 ir69 [.bor]
theorem s_54 : Sound Tryz.prog 69 c_54 := mkF_sound _ rfl (snd_cons s_49 (snd_cons s_52 (snd_cons s_53 snd_nil))) (by kernel_rfl : chkFn Tryz.prog 69 ir69 ir69_v = true)
theorem M_54 : c_54.modes = [.bor] := rfl
theorem Fl_54 : c_54.flat = true := rfl
attribute [go_sem] M_54 Fl_54
attribute [go_sem] lk_54_80 lk_54_98 lk_54_81
theorem Fs_54 {e_ : Estimate} {y_ : Bool} (h : spec_l06One e_ = some y_) : c_54.F [.ptr 5 [Estimate_av e_] 0 0] = ⟨true, .bool y_, [.any]⟩ := by
 refine mkF_E rfl ?_
 dsimp only [spec_l06One] at h
 obtain ⟨y_1, z1, h⟩ := bd_some h
 have fz1 := Fs_49 z1
 try simp only [go_sem] at fz1
 obtain ⟨z2, h⟩ := ck_some h
 rcases or_split z2 with ⟨gz2, z2⟩ | gz2
 ·try simp only [go_sem, n1, n2, n3, n4] at gz2
  all_goals
  obtain ⟨y_2, hz2⟩ := Option.isSome_iff_exists.1 z2
  have fz2 := Fs_52 hz2
  try simp only [go_sem, n1, n2, n3, n4, gz2] at hz2
  all_goals
  try simp only [go_sem, gz2] at fz2
  obtain ⟨z3, h⟩ := ck_some h
  rcases or_split z3 with ⟨gz3, z3⟩ | gz3
  ·try simp only [go_sem, n1, n2, n3, n4, gz2, hz2] at gz3
   all_goals
   obtain ⟨y_3, hz3⟩ := Option.isSome_iff_exists.1 z3
   have fz3 := Fs_52 hz3
   try simp only [go_sem, n1, n2, n3, n4, gz2, hz2, gz3] at hz3
   all_goals
   try simp only [go_sem, gz2, hz2, gz3] at fz3
   obtain ⟨z4, h⟩ := ck_some h
   rcases or_split z4 with ⟨gz4, z4⟩ | gz4
   ·try simp only [go_sem, n1, n2, n3, n4, gz2, hz2, gz3, hz3] at gz4
    all_goals
    obtain ⟨y_4, hz4⟩ := Option.isSome_iff_exists.1 z4
    have fz4 := Fs_53 hz4
    try simp only [go_sem, n1, n2, n3, n4, gz2, hz2, gz3, hz3, gz4] at hz4
    all_goals
    try simp only [go_sem, gz2, hz2, gz3, hz3, gz4] at fz4
    obtain rfl := so_some h
    refine ⟨0, fun L hL => ?_⟩
    simp only [go_sem, ir69, fz1, gz2, hz2, fz2, gz3, hz3, fz3, gz4, hz4, fz4]
   ·rcases and_f gz4 with gz4a | ⟨gz4a, gz4b⟩
    ·try simp only [go_sem, n1, n2, n3, n4, gz2, hz2, gz3, hz3] at gz4a
     all_goals
     (simp_all)
    ·obtain ⟨gz4aa, gz4ab⟩ := and_t gz4a
     try simp only [go_sem, n1, n2, n3, n4, gz2, hz2, gz3, hz3] at gz4aa
     all_goals
     try simp only [go_sem, n1, n2, n3, n4, gz2, hz2, gz3, hz3, gz4aa] at gz4ab
     all_goals
     try simp only [go_sem, n1, n2, n3, n4, gz2, hz2, gz3, hz3, gz4aa, gz4ab] at gz4b
     all_goals
     obtain rfl := so_some h
     refine ⟨0, fun L hL => ?_⟩
     simp only [go_sem, ir69, fz1, gz2, hz2, fz2, gz3, hz3, fz3, gz4aa, gz4ab, gz4b]
  ·rcases and_f gz3 with gz3a | ⟨gz3a, gz3b⟩
   ·try simp only [go_sem, n1, n2, n3, n4, gz2, hz2] at gz3a
    all_goals
    (simp_all)
   ·try simp only [go_sem, n1, n2, n3, n4, gz2, hz2] at gz3a
    all_goals
    try simp only [go_sem, n1, n2, n3, n4, gz2, hz2, gz3a] at gz3b
    all_goals
    obtain ⟨z4, h⟩ := ck_some h
    obtain rfl := so_some h
    refine ⟨0, fun L hL => ?_⟩
    simp only [go_sem, ir69, fz1, gz2, hz2, fz2, gz3a, gz3b]
 ·try simp only [go_sem, n1, n2, n3, n4] at gz2
  all_goals
  obtain ⟨z3, h⟩ := ck_some h
  obtain ⟨z4, h⟩ := ck_some h
  obtain rfl := so_some h
  refine ⟨0, fun L hL => ?_⟩
  simp only [go_sem, ir69, fz1, gz2]


def ir34_b0 : IR := .seq (.test false [ PM 4 2, PM 5 0, PO 6 (.len false (.s 0)), PO 7 (.bin false .lss (.s 2) (.s 0))] (.s 0) (.skip) (.exit 0)) (.seq (.block 1 (.anyo 20 [ SO 0 10 (.mov (.v 0)), SO 1 11 (.mov (.v 2)), SO 2 12 (.ixAddr 5 (.s 0) (.s 1)), SO 3 13 (.callp 69 [(.s 2)]), SO 4 14 (.un .not (.s 3)), SO 5 15 (.mov (.s 4)), ⟨.slot 6, 16, (some ((.s 5), false)), .mov (.v 2)⟩, ⟨.slot 7, 17, (some ((.s 5), false)), .bin false .gtr (.s 6) (I6 0)⟩, ⟨.slot 8, 18, (some ((.s 5), false)), .mov (.s 7)⟩, ⟨.slot 9, 19, (some ((.s 8), true)), .mov (.v 0)⟩, ⟨.slot 10, 20, (some ((.s 8), true)),
 .mov (.v 2)⟩, ⟨.slot 11, 21, (some ((.s 8), true)), .bin false .sub (.s 10) (I6 1)⟩, ⟨.slot 12, 22, (some ((.s 8), true)), .ixAddr 5 (.s 9) (.s 11)⟩, ⟨.slot 13, 23, (some ((.s 8), true)), .mov (.v 0)⟩, ⟨.slot 14, 24, (some ((.s 8), true)), .mov (.v 2)⟩, ⟨.slot 15, 25, (some ((.s 8), true)), .ixAddr 5 (.s 13) (.s 14)⟩, ⟨.slot 16, 26, (some ((.s 8), true)), .call 70 [(.s 12), (.s 15)]⟩, ⟨.slot 17, 27, (some ((.s 8), true)), .un .not (.s 16)⟩, ⟨.slot 18, 28, (some ((.s 5), false)), .pick (.s 8) (.s 17) (.c (.bool false))⟩, SO 19 29 (.pick (.s 5) (.c (.bool true)) (.s 18))] [] (.cond (.s 19) (.seq
 (.region false [ VO 1 2 (.mov (.c (.bool false)))]) (.ret)) (.skip)))) (.region false [ PM 8 2, PO 9 (.bin false .add (.s 0) (I6 1)), VS 2 3 0]))
def ir34_k0 : List Bool := [true, false, true]
def ir34_o0 : List Bool := [true, false, false]
def ir34_r0 : List Bool := [false, true, false]
def ir34_v : List Nat := [0, 2, 3]
def ir34 : AFn := ⟨1, 3, .seq (.region false [ VO 1 2 (.mov (.c (.bool false)))]) (.seq (.seq (.region false [ VO 2 3 (.mov (I6 0))]) (.block 0 (.loop ir34_k0 ir34_o0 ir34_r0 ir34_b0))) (.seq (.region false [ PM 30 0, PO 31 (.len false (.s 0)), PO 32 (.bin false .leq (.s 0) (I6 100)), VS 1 2 0]) (.ret))), [.t 1]⟩
noncomputable def t_55 : List (Nat × Ctr) := [(69, c_54), (70, c_7)]
theorem lk_55_69 : look t_55 69 = some c_54 := rfl
theorem lk_55_70 : look t_55 70 = some c_7 := rfl
noncomputable def c_55 : Ctr := mkF t_55 ir34 [.bor]
theorem s_55 : Sound Tryz.prog 34 c_55 := mkF_sound _ rfl (snd_cons s_54 (snd_cons s_7 snd_nil)) (by kernel_rfl : chkFn Tryz.prog 34 ir34 ir34_v = true)
theorem M_55 : c_55.modes = [.bor] := rfl
theorem Fl_55 : c_55.flat = true := rfl
attribute [go_sem] M_55 Fl_55
attribute [go_sem] lk_55_69 lk_55_70
def E_55_l1 (list : List Estimate) : Int → St
 | i => ⟨[.sl 5 (List.map Estimate_av list), .any, .int .i64 i], [], [], true⟩
def R_55_l1 (list : List Estimate) : (Unit ⊕ Bool) → Res
 | .inl y => (.exit 0, ⟨[.sl 5 (List.map Estimate_av list), .any, .any], [], [], true⟩)
 | .inr y => (.ret, ⟨[.any, .bool y, .any], [], [], true⟩)
theorem spec_l06Ok_l1_ex {list : List Estimate} {sgm_ : Int} {rho_ : Unit ⊕ Bool} (h : whileE (spec_l06Ok_l1 list) sgm_ = some rho_) : ∃ L0, ∀ L, L0 ≤ L → iter (exec (look t_55) L ir34_b0) ir34_k0 ir34_o0 ir34_r0 L (E_55_l1 list sgm_) = R_55_l1 list rho_ := by
 refine loop_ex (E := E_55_l1 list) (R := R_55_l1 list) (fun y => by first | (intro c; cases c) | (rcases y with y | y <;> (intro c; cases c)) | (rcases y with y | y | y <;> (intro c; cases c))) ?_ h
 clear h
 intro i o_ h
 dsimp only [spec_l06Ok_l1] at h
 rcases it_some h with ⟨z1, h⟩ | ⟨z1, h⟩
 ·try simp only [go_sem, n1, n2, n3, n4] at z1
  all_goals
  obtain ⟨z2, h⟩ := ck_some h
  have lz2 := ix_lt z2
  have xz2 := getD_mapD Estimate_av list lz2
  try simp only [go_sem] at lz2
  try simp only [go_sem] at xz2
  try simp only [go_sem, n1, n2, n3, n4, z1] at z2
  all_goals
  obtain ⟨y_3, z3, h⟩ := bd_some h
  have fz3 := Fs_54 z3
  try simp only [go_sem, z1, z2] at fz3
  obtain ⟨z4, h⟩ := ck_some h
  rcases or_split z4 with ⟨gz4, z4⟩ | gz4
  ·try simp only [go_sem, n1, n2, n3, n4, z1, z2] at gz4
   all_goals
   have lz4 := ix_lt z4
   have xz4 := getD_mapD Estimate_av list lz4
   try simp only [go_sem] at lz4
   try simp only [go_sem] at xz4
   try simp only [go_sem, n1, n2, n3, n4, z1, z2, gz4] at z4
   all_goals
   obtain ⟨z5, h⟩ := ck_some h
   rcases or_split z5 with ⟨gz5, z5⟩ | gz5
   ·try simp only [go_sem, n1, n2, n3, n4, z1, z2, gz4, z4] at gz5
    all_goals
    obtain ⟨y_5, hz5⟩ := Option.isSome_iff_exists.1 z5
    have fz5 := Fs_7 hz5
    try simp only [go_sem, n1, n2, n3, n4, z1, z2, gz4, z4, gz5] at hz5
    all_goals
    try simp only [go_sem, z1, z2, gz4, z4, gz5] at fz5
    rcases it_some h with ⟨z6, h⟩ | ⟨z6, h⟩
    ·try simp only [go_sem, n1, n2, n3, n4, z1, z2, gz4, z4, gz5, hz5] at z6
     all_goals
     obtain rfl := so_some h
     refine ⟨0, fun L hL => ?_⟩
     simp only [go_sem, ir34, E_55_l1, R_55_l1, ir34_b0, ir34_k0, ir34_o0, ir34_r0, z1, z2, lz2, xz2, fz3, gz4, z4, lz4, xz4, gz5, hz5, fz5, z6]
    ·try simp only [go_sem, n1, n2, n3, n4, z1, z2, gz4, z4, gz5, hz5] at z6
     all_goals
     obtain rfl := so_some h
     refine ⟨0, fun L hL => ?_⟩
     simp only [go_sem, ir34, E_55_l1, R_55_l1, ir34_b0, ir34_k0, ir34_o0, ir34_r0, z1, z2, lz2, xz2, fz3, gz4, z4, lz4, xz4, gz5, hz5, fz5, z6]
   ·rcases and_f gz5 with gz5a | ⟨gz5a, gz5b⟩
    ·try simp only [go_sem, n1, n2, n3, n4, z1, z2, gz4, z4] at gz5a
     all_goals
     (simp_all)
    ·have gz5an := no_t gz5a
     have gz5ann := no_f gz5an
     try simp only [go_sem, n1, n2, n3, n4, z1, z2, gz4, z4] at gz5ann
     all_goals
     try simp only [go_sem, n1, n2, n3, n4, z1, z2, gz4, z4, gz5ann] at gz5b
     all_goals
     rcases it_some h with ⟨z6, h⟩ | ⟨z6, h⟩
     ·try simp only [go_sem, n1, n2, n3, n4, z1, z2, gz4, z4, gz5ann, gz5b] at z6
      all_goals
      (simp_all)
     ·try simp only [go_sem, n1, n2, n3, n4, z1, z2, gz4, z4, gz5ann, gz5b] at z6
      all_goals
      obtain rfl := so_some h
      refine ⟨0, fun L hL => ?_⟩
      simp only [go_sem, ir34, E_55_l1, R_55_l1, ir34_b0, ir34_k0, ir34_o0, ir34_r0, z1, z2, lz2, xz2, fz3, gz4, z4, lz4, xz4, gz5ann, gz5b, z6]
  ·rcases and_f gz4 with gz4a | ⟨gz4a, gz4b⟩
   ·have gz4an := no_f gz4a
    have gz4ann := no_t gz4an
    try simp only [go_sem, n1, n2, n3, n4, z1, z2] at gz4ann
    all_goals
    obtain ⟨z5, h⟩ := ck_some h
    rcases it_some h with ⟨z6, h⟩ | ⟨z6, h⟩
    ·try simp only [go_sem, n1, n2, n3, n4, z1, z2, gz4ann] at z6
     all_goals
     obtain rfl := so_some h
     refine ⟨0, fun L hL => ?_⟩
     simp only [go_sem, ir34, E_55_l1, R_55_l1, ir34_b0, ir34_k0, ir34_o0, ir34_r0, z1, z2, lz2, xz2, fz3, gz4ann, z6]
    ·try simp only [go_sem, n1, n2, n3, n4, z1, z2, gz4ann] at z6
     all_goals
     (simp_all)
   ·have gz4an := no_t gz4a
    have gz4ann := no_f gz4an
    try simp only [go_sem, n1, n2, n3, n4, z1, z2] at gz4ann
    all_goals
    try simp only [go_sem, n1, n2, n3, n4, z1, z2, gz4ann] at gz4b
    all_goals
    obtain ⟨z5, h⟩ := ck_some h
    rcases it_some h with ⟨z6, h⟩ | ⟨z6, h⟩
    ·try simp only [go_sem, n1, n2, n3, n4, z1, z2, gz4ann, gz4b] at z6
     all_goals
     (simp_all)
    ·try simp only [go_sem, n1, n2, n3, n4, z1, z2, gz4ann, gz4b] at z6
     all_goals
     obtain rfl := so_some h
     refine ⟨0, fun L hL => ?_⟩
     simp only [go_sem, ir34, E_55_l1, R_55_l1, ir34_b0, ir34_k0, ir34_o0, ir34_r0, z1, z2, lz2, xz2, fz3, gz4ann, gz4b, z6]
 ·try simp only [go_sem, n1, n2, n3, n4] at z1
  all_goals
  obtain rfl := so_some h
  refine ⟨0, fun L hL => ?_⟩
  simp only [go_sem, ir34, E_55_l1, R_55_l1, ir34_b0, ir34_k0, ir34_o0, ir34_r0, z1]

theorem Fs_55 {list : List Estimate} {y_ : Bool} (h : spec_l06Ok list = some y_) : c_55.F [.sl 5 (List.map Estimate_av list)] = ⟨true, .bool y_, [.any]⟩ := by
 refine mkF_E rfl ?_
 dsimp only [spec_l06Ok] at h
 obtain ⟨y_7, z7, h⟩ := bd_some h
 obtain ⟨Lz7, ez7⟩ := spec_l06Ok_l1_ex z7
 rcases y_7 with y_7a | y_7b
 ·dsimp only at h
  obtain rfl := so_some h
  refine ⟨Lz7, fun L hL => ?_⟩
  have ez7 := ez7 L (by omega)
  try simp only [go_sem, E_55_l1, R_55_l1, ir34_k0, ir34_o0, ir34_r0] at ez7
  simp only [go_sem, ir34, E_55_l1, R_55_l1, ir34_k0, ir34_o0, ir34_r0, ez7]
 ·dsimp only at h
  obtain rfl := so_some h
  refine ⟨Lz7, fun L hL => ?_⟩
  have ez7 := ez7 L (by omega)
  try simp only [go_sem, E_55_l1, R_55_l1, ir34_k0, ir34_o0, ir34_r0] at ez7
  simp only [go_sem, ir34, E_55_l1, R_55_l1, ir34_k0, ir34_o0, ir34_r0, ez7]


def ir99_b0 : IR := .seq (.test false [ PM 9 3, PO 10 (.bin false .gtr (.s 0) (I6 0)), PO 11 (.mov (.s 0)), ⟨.push, 12, (some ((.s 0), true)), .mov (.v 0)⟩, ⟨.push, 13, (some ((.s 1), true)), .mov (.v 3)⟩, ⟨.push, 14, (some ((.s 2), true)), .bin false .sub (.s 0) (I6 1)⟩, ⟨.push, 15, (some ((.s 3), true)), .ixAddr 1 (.s 2) (.s 0)⟩, ⟨.push, 16, (some ((.s 4), true)), .load false 1 (.s 0)⟩, ⟨.push, 17, (some ((.s 5), true)), .mov (.v 1)⟩, ⟨.push, 18, (some ((.s 6), true)), .bin false .gtr (.s 1) (.s 0)⟩, PO 19 (.pick (.s 7) (.s 0) (.c (.bool false)))] (.s 0) (.skip) (.exit 0)) (.block 1 (.region
 false [ PM 20 3, PO 21 (.bin false .sub (.s 0) (I6 1)), VS 3 5 0]))
def ir99_k0 : List Bool := [true, true, false, true, false]
def ir99_o0 : List Bool := [true, true, false, true, false]
def ir99_r0 : List Bool := [false, false, true, false, false]
def ir99_v : List Nat := [0, 1, 4, 5, 6]
def ir99 : AFn := ⟨2, 5, .seq (.region false [ VO 2 4 (.newnil 1)]) (.seq (.region false [ PM 7 0, PO 8 (.len false (.s 0)), VS 3 5 0]) (.seq (.block 0 (.loop ir99_k0 ir99_o0 ir99_r0 ir99_b0)) (.seq (.test false [ PM 22 3, PO 23 (.bin false .gtr (.s 0) (I6 0)), PO 24 (.mov (.s 0)), ⟨.push, 25, (some ((.s 0), true)), .mov (.v 0)⟩, ⟨.push, 26, (some ((.s 1), true)), .mov (.v 3)⟩, ⟨.push, 27, (some ((.s 2), true)), .bin false .sub (.s 0) (I6 1)⟩, ⟨.push, 28, (some ((.s 3), true)), .ixAddr 1 (.s 2) (.s 0)⟩, ⟨.push, 29, (some ((.s 4), true)), .load false 1 (.s 0)⟩, ⟨.push, 30, (some ((.s 5), true)),
 .mov (.v 1)⟩, ⟨.push, 31, (some ((.s 6), true)), .bin false .eql (.s 1) (.s 0)⟩, PO 32 (.pick (.s 7) (.s 0) (.c (.bool false)))] (.s 0) (.seq (.region false [ PM 33 0, VS 2 4 0]) (.ret)) (.skip)) (.seq (.region false [ PO 34 (.mkSl 1 (.str []) 0 []), PM 35 0, PM 36 3, PO 37 (.slice 1 (.s 1) none (some (.s 0))), PO 38 (.app 1 16 (.str []) (.s 3) (.s 0)), VS 4 6 0]) (.seq (.region false [ PM 39 4, PM 40 1, PO 41 (.mkSl 1 (.str []) 1 [(0, (.s 0))]), PO 42 (.app 1 16 (.str []) (.s 2) (.s 0)), VS 4 6 0]) (.seq (.region false [ PM 43 4, PM 44 0, PM 45 3, PO 46 (.slice 1 (.s 1) (some (.s 0)) none),
 PO 47 (.app 1 16 (.str []) (.s 3) (.s 0)), VS 2 4 0]) (.ret))))))), [.t 2]⟩
noncomputable def t_56 : List (Nat × Ctr) := []
noncomputable def c_56 : Ctr := mkZ t_56 ir99 [.bor, .bor]
theorem s_56 : Sound Tryz.prog 99 c_56 := mkZ_sound _ snd_nil (by kernel_rfl : chkFn Tryz.prog 99 ir99 ir99_v = true)
theorem M_56 : c_56.modes = [.bor, .bor] := rfl
theorem Fl_56 : c_56.flat = false := rfl
attribute [go_sem] M_56 Fl_56
def E_56_l1 (list : List (List UInt8)) (name : List UInt8) : Int → St
 | k => ⟨[.sl 1 (List.map AV.str list), .str name, .any, .int .i64 k, .any], [], [], true⟩
def R_56_l1 (list : List (List UInt8)) (name : List UInt8) (y : Int) : Res := (.exit 0, ⟨[.sl 1 (List.map AV.str list), .str name, .any, .int .i64 y, .any], [], [], true⟩)
theorem spec_l06PutName_l1_ex {list : List (List UInt8)} {name : List UInt8} {sgm_ : Int} {rho_ : Int} (h : whileE (spec_l06PutName_l1 list name) sgm_ = some rho_) : ∃ L0, ∀ L, L0 ≤ L → iter (exec (look t_56) L ir99_b0) ir99_k0 ir99_o0 ir99_r0 L (E_56_l1 list name sgm_) = R_56_l1 list name rho_ := by
 refine loop_ex (E := E_56_l1 list name) (R := R_56_l1 list name) (fun y => by first | (intro c; cases c) | (rcases y with y | y <;> (intro c; cases c)) | (rcases y with y | y | y <;> (intro c; cases c))) ?_ h
 clear h
 intro k o_ h
 dsimp only [spec_l06PutName_l1] at h
 obtain ⟨z1, h⟩ := ck_some h
 rcases or_split z1 with ⟨gz1, z1⟩ | gz1
 ·try simp only [go_sem, n1, n2, n3, n4] at gz1
  all_goals
  have lz1 := ix_lt z1
  have xz1 := getD_mapD AV.str list lz1
  try simp only [go_sem] at lz1
  try simp only [go_sem] at xz1
  try simp only [go_sem, n1, n2, n3, n4, gz1] at z1
  all_goals
  rcases it_some h with ⟨z2, h⟩ | ⟨z2, h⟩
  ·try simp only [go_sem, n1, n2, n3, n4, gz1, z1] at z2
   all_goals
   obtain rfl := so_some h
   refine ⟨0, fun L hL => ?_⟩
   simp only [go_sem, ir99, E_56_l1, R_56_l1, ir99_b0, ir99_k0, ir99_o0, ir99_r0, gz1, z1, lz1, xz1, z2]
  ·try simp only [go_sem, n1, n2, n3, n4, gz1, z1] at z2
   all_goals
   obtain rfl := so_some h
   refine ⟨0, fun L hL => ?_⟩
   simp only [go_sem, ir99, E_56_l1, R_56_l1, ir99_b0, ir99_k0, ir99_o0, ir99_r0, gz1, z1, lz1, xz1, z2]
 ·try simp only [go_sem, n1, n2, n3, n4] at gz1
  all_goals
  rcases it_some h with ⟨z2, h⟩ | ⟨z2, h⟩
  ·try simp only [go_sem, n1, n2, n3, n4, gz1] at z2
   all_goals
   (simp_all)
  ·try simp only [go_sem, n1, n2, n3, n4, gz1] at z2
   all_goals
   obtain rfl := so_some h
   refine ⟨0, fun L hL => ?_⟩
   simp only [go_sem, ir99, E_56_l1, R_56_l1, ir99_b0, ir99_k0, ir99_o0, ir99_r0, gz1, z2]

theorem Fs_56 {list : List (List UInt8)} {name : List UInt8} {y_ : (List (List UInt8))} (h : spec_l06PutName list name = some y_) : c_56.F [.sl 1 (List.map AV.str list), .str name] = ⟨true, .sl 1 (List.map AV.str y_), [.any, .any]⟩ := by
 refine mkZ_E ?_
 dsimp only [spec_l06PutName] at h
 obtain ⟨y_3, z3, h⟩ := bd_some h
 obtain ⟨Lz3, ez3⟩ := spec_l06PutName_l1_ex z3
 obtain ⟨z4, h⟩ := ck_some h
 rcases or_split z4 with ⟨gz4, z4⟩ | gz4
 ·try simp only [go_sem, n1, n2, n3, n4] at gz4
  all_goals
  have lz4 := ix_lt z4
  have xz4 := getD_mapD AV.str list lz4
  try simp only [go_sem] at lz4
  try simp only [go_sem] at xz4
  try simp only [go_sem, n1, n2, n3, n4, gz4] at z4
  all_goals
  rcases it_some h with ⟨z5, h⟩ | ⟨z5, h⟩
  ·try simp only [go_sem, n1, n2, n3, n4, gz4, z4] at z5
   all_goals
   obtain rfl := so_some h
   refine ⟨Lz3, fun L hL => ?_⟩
   have ez3 := ez3 L (by omega)
   try simp only [go_sem, E_56_l1, R_56_l1, ir99_k0, ir99_o0, ir99_r0, gz4, z4, z5] at ez3
   simp only [go_sem, ir99, E_56_l1, R_56_l1, ir99_k0, ir99_o0, ir99_r0, gz4, z4, lz4, xz4, z5, ez3]
  ·try simp only [go_sem, n1, n2, n3, n4, gz4, z4] at z5
   all_goals
   obtain ⟨z6, h⟩ := ck_some h
   try simp only [go_sem, n1, n2, n3, n4, gz4, z4, z5] at z6
   all_goals
   obtain ⟨z7, h⟩ := ck_some h
   try simp only [go_sem, n1, n2, n3, n4, gz4, z4, z5, z6] at z7
   all_goals
   obtain ⟨z8, h⟩ := ck_some h
   try simp only [go_sem, n1, n2, n3, n4, gz4, z4, z5, z6, z7] at z8
   all_goals
   obtain ⟨z9, h⟩ := ck_some h
   try simp only [go_sem, n1, n2, n3, n4, gz4, z4, z5, z6, z7, z8] at z9
   all_goals
   obtain ⟨z10, h⟩ := ck_some h
   try simp only [go_sem, n1, n2, n3, n4, gz4, z4, z5, z6, z7, z8, z9] at z10
   all_goals
   obtain rfl := so_some h
   refine ⟨Lz3, fun L hL => ?_⟩
   have ez3 := ez3 L (by omega)
   try simp only [go_sem, E_56_l1, R_56_l1, ir99_k0, ir99_o0, ir99_r0, gz4, z4, z5, z6, z7, z8, z9, z10] at ez3
   simp only [go_sem, ir99, E_56_l1, R_56_l1, ir99_k0, ir99_o0, ir99_r0, gz4, z4, lz4, xz4, z5, z6, z7, z8, z9, z10, ez3]
 ·try simp only [go_sem, n1, n2, n3, n4] at gz4
  all_goals
  rcases it_some h with ⟨z5, h⟩ | ⟨z5, h⟩
  ·try simp only [go_sem, n1, n2, n3, n4, gz4] at z5
   all_goals
   (simp_all)
  ·try simp only [go_sem, n1, n2, n3, n4, gz4] at z5
   all_goals
   obtain ⟨z6, h⟩ := ck_some h
   try simp only [go_sem, n1, n2, n3, n4, gz4, z5] at z6
   all_goals
   obtain ⟨z7, h⟩ := ck_some h
   try simp only [go_sem, n1, n2, n3, n4, gz4, z5, z6] at z7
   all_goals
   obtain ⟨z8, h⟩ := ck_some h
   try simp only [go_sem, n1, n2, n3, n4, gz4, z5, z6, z7] at z8
   all_goals
   obtain ⟨z9, h⟩ := ck_some h
   try simp only [go_sem, n1, n2, n3, n4, gz4, z5, z6, z7, z8] at z9
   all_goals
   obtain ⟨z10, h⟩ := ck_some h
   try simp only [go_sem, n1, n2, n3, n4, gz4, z5, z6, z7, z8, z9] at z10
   all_goals
   obtain rfl := so_some h
   refine ⟨Lz3, fun L hL => ?_⟩
   have ez3 := ez3 L (by omega)
   try simp only [go_sem, E_56_l1, R_56_l1, ir99_k0, ir99_o0, ir99_r0, gz4, z5, z6, z7, z8, z9, z10] at ez3
   simp only [go_sem, ir99, E_56_l1, R_56_l1, ir99_k0, ir99_o0, ir99_r0, gz4, z5, z6, z7, z8, z9, z10, ez3]


def ir71_b0 : IR := .seq (.test false [ PM 8 4, PM 9 0, PO 10 (.len false (.s 0)), PO 11 (.bin false .lss (.s 2) (.s 0))] (.s 0) (.skip) (.exit 0)) (.seq (.block 1 (.test false [ PM 14 1] (.s 0) (.region false [ PM 15 3, PM 16 0, PM 17 4, PO 18 (.ixAddr 5 (.s 1) (.s 0)), PO 19 (.fldAddr 1 (.s 0)), PO 20 (.load false 1 (.s 0)), PO 21 (.call 99 [(.s 5), (.s 0)]), VS 3 5 0]) (.region false [ PM 22 3, PM 23 0, PM 24 4, PO 25 (.ixAddr 5 (.s 1) (.s 0)), PO 26 (.fldAddr 2 (.s 0)), PO 27 (.load false 1 (.s 0)), PO 28 (.call 99 [(.s 5), (.s 0)]), VS 3 5 0]))) (.region false [ PM 12 4, PO 13 (.bin false
 .add (.s 0) (I6 1)), VS 4 6 0]))
def ir71_k0 : List Bool := [true, true, false, true, true]
def ir71_o0 : List Bool := [false, false, false, true, false]
def ir71_r0 : List Bool := [false, false, true, false, false]
def ir71_v : List Nat := [0, 1, 4, 5, 6]
def ir71 : AFn := ⟨2, 5, .seq (.region false [ VO 2 4 (.newnil 1)]) (.seq (.region false [ PO 7 (.pur (.mkSl 1 (.str []) 0 [])), VS 3 5 0]) (.seq (.seq (.region false [ VO 4 6 (.mov (I6 0))]) (.block 0 (.loop ir71_k0 ir71_o0 ir71_r0 ir71_b0))) (.seq (.region false [ PM 29 3, VS 2 4 0]) (.ret)))), [.t 2]⟩
noncomputable def t_57 : List (Nat × Ctr) := [(99, c_56)]
theorem lk_57_99 : look t_57 99 = some c_56 := rfl
noncomputable def c_57 : Ctr := mkN t_57 ir71 [.bor, .bor]
theorem s_57 : Sound Tryz.prog 71 c_57 := mkN_sound _ (snd_cons s_56 snd_nil) (by kernel_rfl : chkFn Tryz.prog 71 ir71 ir71_v = true)
theorem M_57 : c_57.modes = [.bor, .bor] := rfl
theorem Fl_57 : c_57.flat = false := rfl
attribute [go_sem] M_57 Fl_57
attribute [go_sem] lk_57_99
def E_57_l1 (list : List Estimate) (star : Bool) : ((List (List UInt8)) × Int) → St
 | (out, i) => ⟨[.sl 5 (List.map Estimate_av list), .bool star, .any, .sl 1 (List.map AV.str out), .int .i64 i], [], [], true⟩
def R_57_l1 (list : List Estimate) (star : Bool) (y : (List (List UInt8))) : Res := (.exit 0, ⟨[.any, .any, .any, .sl 1 (List.map AV.str y), .any], [], [], true⟩)
theorem spec_l25Names_l1_ex {list : List Estimate} {star : Bool} {sgm_ : (List (List UInt8)) × Int} {rho_ : (List (List UInt8))} (h : whileE (spec_l25Names_l1 list star) sgm_ = some rho_) : ∃ L0, ∀ L, L0 ≤ L → iter (exec (look t_57) L ir71_b0) ir71_k0 ir71_o0 ir71_r0 L (E_57_l1 list star sgm_) = R_57_l1 list star rho_ := by
 refine loop_ex (E := E_57_l1 list star) (R := R_57_l1 list star) (fun y => by first | (intro c; cases c) | (rcases y with y | y <;> (intro c; cases c)) | (rcases y with y | y | y <;> (intro c; cases c))) ?_ h
 clear h
 rintro ⟨out, i⟩ o_ h
 dsimp only [spec_l25Names_l1] at h
 rcases it_some h with ⟨z1, h⟩ | ⟨z1, h⟩
 ·try simp only [go_sem, n1, n2, n3, n4] at z1
  all_goals
  rcases it_some h with ⟨z2, h⟩ | ⟨z2, h⟩
  ·try simp only [go_sem, n1, n2, n3, n4, z1] at z2
   all_goals
   obtain ⟨z3, h⟩ := ck_some h
   have lz3 := ix_lt z3
   have xz3 := getD_mapD Estimate_av list lz3
   try simp only [go_sem] at lz3
   try simp only [go_sem] at xz3
   try simp only [go_sem, n1, n2, n3, n4, z1, z2] at z3
   all_goals
   obtain ⟨y_4, z4, h⟩ := bd_some h
   have fz4 := Fs_56 z4
   try simp only [go_sem, z1, z2, z3] at fz4
   obtain rfl := so_some h
   refine ⟨0, fun L hL => ?_⟩
   simp only [go_sem, ir71, E_57_l1, R_57_l1, ir71_b0, ir71_k0, ir71_o0, ir71_r0, z1, z2, z3, lz3, xz3, fz4]
  ·try simp only [go_sem, n1, n2, n3, n4, z1] at z2
   all_goals
   obtain ⟨z5, h⟩ := ck_some h
   have lz5 := ix_lt z5
   have xz5 := getD_mapD Estimate_av list lz5
   try simp only [go_sem] at lz5
   try simp only [go_sem] at xz5
   try simp only [go_sem, n1, n2, n3, n4, z1, z2] at z5
   all_goals
   obtain ⟨y_6, z6, h⟩ := bd_some h
   have fz6 := Fs_56 z6
   try simp only [go_sem, z1, z2, z5] at fz6
   obtain rfl := so_some h
   refine ⟨0, fun L hL => ?_⟩
   simp only [go_sem, ir71, E_57_l1, R_57_l1, ir71_b0, ir71_k0, ir71_o0, ir71_r0, z1, z2, z5, lz5, xz5, fz6]
 ·try simp only [go_sem, n1, n2, n3, n4] at z1
  all_goals
  obtain rfl := so_some h
  refine ⟨0, fun L hL => ?_⟩
  simp only [go_sem, ir71, E_57_l1, R_57_l1, ir71_b0, ir71_k0, ir71_o0, ir71_r0, z1]

theorem Fs_57 {list : List Estimate} {star : Bool} {y_ : (List (List UInt8))} (h : spec_l25Names list star = some y_) : c_57.F [.sl 5 (List.map Estimate_av list), .bool star] = ⟨true, .sl 1 (List.map AV.str y_), [.any, .any]⟩ := by
 refine mkN_E ?_
 dsimp only [spec_l25Names] at h
 obtain ⟨y_7, z7, h⟩ := bd_some h
 obtain ⟨Lz7, ez7⟩ := spec_l25Names_l1_ex z7
 obtain rfl := so_some h
 refine ⟨Lz7, fun L hL => ?_⟩
 have ez7 := ez7 L (by omega)
 try simp only [go_sem, E_57_l1, R_57_l1, ir71_k0, ir71_o0, ir71_r0] at ez7
 simp only [go_sem, ir71, E_57_l1, R_57_l1, ir71_k0, ir71_o0, ir71_r0, ez7]


def ir73_b0 : IR := .seq (.test false [ PM 5 0, PO 6 (.bin false .geq (.s 0) (I6 128))] (.s 0) (.skip) (.exit 0)) (.block 1 (.seq (.region false [ PM 7 2, PM 8 0, PO 9 (.bin false .rem (.s 0) (I6 128)), PO 10 (.bin false .add (.s 0) (I6 128)), PO 11 (.conv .u8 (.s 0)), PO 12 (.mkSl 1 (.int .u8 (0)) 1 [(0, (.s 0))]), PO 13 (.app 1 1 (.int .u8 (0)) (.s 5) (.s 0)), VS 2 3 0]) (.region false [ PM 14 0, PO 15 (.bin false .quo (.s 0) (I6 128)), VS 0 0 0])))
def ir73_k0 : List Bool := [true, false, true]
def ir73_o0 : List Bool := [true, false, true]
def ir73_r0 : List Bool := [false, true, false]
def ir73_v : List Nat := [0, 2, 3]
def ir73 : AFn := ⟨1, 3, .seq (.region false [ VO 1 2 (.newnil 1)]) (.seq (.region false [ PO 4 (.mkSl 1 (.int .u8 (0)) 0 []), VS 2 3 0]) (.seq (.block 0 (.loop ir73_k0 ir73_o0 ir73_r0 ir73_b0)) (.seq (.region false [ PM 16 2, PM 17 0, PO 18 (.conv .u8 (.s 0)), PO 19 (.mkSl 1 (.int .u8 (0)) 1 [(0, (.s 0))]), PO 20 (.app 1 1 (.int .u8 (0)) (.s 3) (.s 0)), VS 1 2 0]) (.ret)))), [.t 1]⟩
noncomputable def t_58 : List (Nat × Ctr) := []
noncomputable def c_58 : Ctr := mkF t_58 ir73 [.bor]
theorem s_58 : Sound Tryz.prog 73 c_58 := mkF_sound _ rfl snd_nil (by kernel_rfl : chkFn Tryz.prog 73 ir73 ir73_v = true)
theorem M_58 : c_58.modes = [.bor] := rfl
theorem Fl_58 : c_58.flat = true := rfl
attribute [go_sem] M_58 Fl_58
def E_58_l1  : (Int × (List UInt8)) → St
 | (n, out) => ⟨[.int .i64 n, .any, .own 3200000], [], [(3200000, ⟨1, List.map byteAV out⟩)], true⟩
def R_58_l1  (y : Int × (List UInt8)) : Res := (.exit 0, ⟨[.int .i64 y.1, .any, .own 3200000], [], [(3200000, ⟨1, List.map byteAV y.2⟩)], true⟩)
theorem spec_l25Number_l1_ex  {sgm_ : Int × (List UInt8)} {rho_ : Int × (List UInt8)} (h : whileE (spec_l25Number_l1) sgm_ = some rho_) : ∃ L0, ∀ L, L0 ≤ L → iter (exec (look t_58) L ir73_b0) ir73_k0 ir73_o0 ir73_r0 L (E_58_l1 sgm_) = R_58_l1 rho_ := by
 refine loop_ex (E := E_58_l1) (R := R_58_l1) (fun y => by first | (intro c; cases c) | (rcases y with y | y <;> (intro c; cases c)) | (rcases y with y | y | y <;> (intro c; cases c))) ?_ h
 clear h
 rintro ⟨n, out⟩ o_ h
 dsimp only [spec_l25Number_l1] at h
 rcases it_some h with ⟨z1, h⟩ | ⟨z1, h⟩
 ·try simp only [go_sem, n1, n2, n3, n4] at z1
  all_goals
  obtain ⟨z2, h⟩ := ck_some h
  try simp only [go_sem, n1, n2, n3, n4, z1] at z2
  all_goals
  obtain ⟨z3, h⟩ := ck_some h
  try simp only [go_sem, n1, n2, n3, n4, z1, z2] at z3
  all_goals
  obtain rfl := so_some h
  refine ⟨0, fun L hL => ?_⟩
  simp only [go_sem, ir73, E_58_l1, R_58_l1, ir73_b0, ir73_k0, ir73_o0, ir73_r0, z1, z2, z3]
 ·try simp only [go_sem, n1, n2, n3, n4] at z1
  all_goals
  obtain rfl := so_some h
  refine ⟨0, fun L hL => ?_⟩
  simp only [go_sem, ir73, E_58_l1, R_58_l1, ir73_b0, ir73_k0, ir73_o0, ir73_r0, z1]

theorem Fs_58 {n : Int} {y_ : (List UInt8)} (h : spec_l25Number n = some y_) : c_58.F [.int .i64 n] = ⟨true, .fresh 1 (List.map byteAV y_), [.any]⟩ := by
 refine mkF_E (by simp only [flatA, flatB, flat1, List.all_cons, List.all_nil, Bool.and_self, flatE_map (f := byteAV) (fun _ => rfl)]) ?_
 dsimp only [spec_l25Number] at h
 obtain ⟨y_4, z4, h⟩ := bd_some h
 obtain ⟨Lz4, ez4⟩ := spec_l25Number_l1_ex z4
 obtain ⟨z5, h⟩ := ck_some h
 try simp only [go_sem, n1, n2, n3, n4] at z5
 all_goals
 obtain rfl := so_some h
 refine ⟨Lz4, fun L hL => ?_⟩
 have ez4 := ez4 L (by omega)
 try simp only [go_sem, E_58_l1, R_58_l1, ir73_k0, ir73_o0, ir73_r0, z5] at ez4
 simp only [go_sem, ir73, E_58_l1, R_58_l1, ir73_k0, ir73_o0, ir73_r0, z5, ez4]


def ir72_b0 : IR := .seq (.test false [ PM 11 3, PM 12 1, PO 13 (.len false (.s 0)), PO 14 (.bin false .lss (.s 2) (.s 0))] (.s 0) (.skip) (.exit 0)) (.seq (.block 1 (.seq (.region false [ PM 17 0, PM 18 1, PM 19 3, PO 20 (.ixAddr 1 (.s 1) (.s 0)), PO 21 (.load false 1 (.s 0)), PO 22 (.len true (.s 0)), PO 23 (.call 73 [(.s 0)]), PO 24 (.app 1 1 (.int .u8 (0)) (.s 6) (.s 0)), VS 0 0 0]) (.region false [ PM 25 0, PM 26 1, PM 27 3, PO 28 (.ixAddr 1 (.s 1) (.s 0)), PO 29 (.load false 1 (.s 0)), PO 30 (.app 1 1 (.int .u8 (0)) (.s 4) (.s 0)), VS 0 0 0]))) (.region false [ PM 15 3, PO 16 (.bin false
 .add (.s 0) (I6 1)), VS 3 5 0]))
def ir72_k0 : List Bool := [true, true, false, true]
def ir72_o0 : List Bool := [true, false, false, false]
def ir72_r0 : List Bool := [false, false, true, false]
def ir72_v : List Nat := [0, 1, 4, 5]
def ir72 : AFn := ⟨2, 4, .seq (.region false [ VO 2 4 (.newnil 1)]) (.seq (.region false [ PM 6 0, PM 7 1, PO 8 (.len false (.s 0)), PO 9 (.call 73 [(.s 0)]), PO 10 (.app 1 1 (.int .u8 (0)) (.s 3) (.s 0)), VS 0 0 0]) (.seq (.seq (.region false [ VO 3 5 (.mov (I6 0))]) (.block 0 (.loop ir72_k0 ir72_o0 ir72_r0 ir72_b0))) (.seq (.region false [ PM 31 0, VS 2 4 0]) (.ret)))), [.t 2]⟩
noncomputable def t_59 : List (Nat × Ctr) := [(73, c_58)]
theorem lk_59_73 : look t_59 73 = some c_58 := rfl
noncomputable def c_59 : Ctr := mkF t_59 ir72 [.mov, .bor]
theorem s_59 : Sound Tryz.prog 72 c_59 := mkF_sound _ rfl (snd_cons s_58 snd_nil) (by kernel_rfl : chkFn Tryz.prog 72 ir72 ir72_v = true)
theorem M_59 : c_59.modes = [.mov, .bor] := rfl
theorem Fl_59 : c_59.flat = true := rfl
attribute [go_sem] M_59 Fl_59
attribute [go_sem] lk_59_73
def E_59_l1 (names : List (List UInt8)) : ((List UInt8) × Int) → St
 | (out, i) => ⟨[.own 31, .sl 1 (List.map AV.str names), .any, .int .i64 i], [], [(31, ⟨1, List.map byteAV out⟩)], true⟩
def R_59_l1 (names : List (List UInt8)) (y : (List UInt8)) : Res := (.exit 0, ⟨[.own 31, .any, .any, .any], [], [(31, ⟨1, List.map byteAV y⟩)], true⟩)
theorem spec_l25PutNames_l1_ex {names : List (List UInt8)} {sgm_ : (List UInt8) × Int} {rho_ : (List UInt8)} (h : whileE (spec_l25PutNames_l1 names) sgm_ = some rho_) : ∃ L0, ∀ L, L0 ≤ L → iter (exec (look t_59) L ir72_b0) ir72_k0 ir72_o0 ir72_r0 L (E_59_l1 names sgm_) = R_59_l1 names rho_ := by
 refine loop_ex (E := E_59_l1 names) (R := R_59_l1 names) (fun y => by first | (intro c; cases c) | (rcases y with y | y <;> (intro c; cases c)) | (rcases y with y | y | y <;> (intro c; cases c))) ?_ h
 clear h
 rintro ⟨out, i⟩ o_ h
 dsimp only [spec_l25PutNames_l1] at h
 rcases it_some h with ⟨z3, h⟩ | ⟨z3, h⟩
 ·try simp only [go_sem, n1, n2, n3, n4] at z3
  all_goals
  obtain ⟨z4, h⟩ := ck_some h
  have lz4 := ix_lt z4
  have xz4 := getD_mapD AV.str names lz4
  try simp only [go_sem] at lz4
  try simp only [go_sem] at xz4
  try simp only [go_sem, n1, n2, n3, n4, z3] at z4
  all_goals
  obtain ⟨y_5, z5, h⟩ := bd_some h
  have fz5 := Fs_58 z5
  try simp only [go_sem, z3, z4] at fz5
  obtain ⟨z6, h⟩ := ck_some h
  try simp only [go_sem, n1, n2, n3, n4, z3, z4] at z6
  all_goals
  obtain ⟨z7, h⟩ := ck_some h
  try simp only [go_sem, n1, n2, n3, n4, z3, z4, z6] at z7
  all_goals
  obtain rfl := so_some h
  refine ⟨0, fun L hL => ?_⟩
  simp only [go_sem, ir72, E_59_l1, R_59_l1, ir72_b0, ir72_k0, ir72_o0, ir72_r0, z3, z4, lz4, xz4, fz5, z6, z7]
 ·try simp only [go_sem, n1, n2, n3, n4] at z3
  all_goals
  obtain rfl := so_some h
  refine ⟨0, fun L hL => ?_⟩
  simp only [go_sem, ir72, E_59_l1, R_59_l1, ir72_b0, ir72_k0, ir72_o0, ir72_r0, z3]

theorem Fs_59 {out : List UInt8} {names : List (List UInt8)} {y_ : (List UInt8)} (h : spec_l25PutNames out names = some y_) : c_59.F [.fresh 1 (List.map byteAV out), .sl 1 (List.map AV.str names)] = ⟨true, .fresh 1 (List.map byteAV y_), [.any, .any]⟩ := by
 refine mkF_E (by simp only [flatA, flatB, flat1, List.all_cons, List.all_nil, Bool.and_self, flatE_map (f := byteAV) (fun _ => rfl)]) ?_
 dsimp only [spec_l25PutNames] at h
 obtain ⟨y_1, z1, h⟩ := bd_some h
 have fz1 := Fs_58 z1
 try simp only [go_sem] at fz1
 obtain ⟨z2, h⟩ := ck_some h
 try simp only [go_sem, n1, n2, n3, n4] at z2
 all_goals
 obtain ⟨y_8, z8, h⟩ := bd_some h
 obtain ⟨Lz8, ez8⟩ := spec_l25PutNames_l1_ex z8
 obtain rfl := so_some h
 refine ⟨Lz8, fun L hL => ?_⟩
 have ez8 := ez8 L (by omega)
 try simp only [go_sem, E_59_l1, R_59_l1, ir72_k0, ir72_o0, ir72_r0, z2] at ez8
 simp only [go_sem, ir72, E_59_l1, R_59_l1, ir72_k0, ir72_o0, ir72_r0, fz1, z2, ez8]


def ir74_b0 : IR := .seq (.test false [ PM 6 3, PM 7 0, PO 8 (.len false (.s 0)), PO 9 (.bin false .lss (.s 2) (.s 0))] (.s 0) (.skip) (.exit 0)) (.seq (.block 1 (.test false [ PM 12 0, PM 13 3, PO 14 (.ixAddr 1 (.s 1) (.s 0)), PO 15 (.load false 1 (.s 0)), PM 16 1, PO 17 (.bin false .eql (.s 1) (.s 0))] (.s 0) (.seq (.region false [ PM 18 3, VS 2 4 0]) (.ret)) (.skip))) (.region false [ PM 10 3, PO 11 (.bin false .add (.s 0) (I6 1)), VS 3 5 0]))
def ir74_k0 : List Bool := [true, true, false, true]
def ir74_o0 : List Bool := [false, false, false, false]
def ir74_r0 : List Bool := [false, false, true, false]
def ir74_v : List Nat := [0, 1, 4, 5]
def ir74 : AFn := ⟨2, 4, .seq (.region false [ VO 2 4 (.mov (I6 0))]) (.seq (.seq (.region false [ VO 3 5 (.mov (I6 0))]) (.block 0 (.loop ir74_k0 ir74_o0 ir74_r0 ir74_b0))) (.seq (.region false [ VO 2 4 (.mov (.c (.int .i64 (-1))))]) (.ret))), [.t 2]⟩
noncomputable def t_60 : List (Nat × Ctr) := []
noncomputable def c_60 : Ctr := mkF t_60 ir74 [.bor, .bor]
theorem s_60 : Sound Tryz.prog 74 c_60 := mkF_sound _ rfl snd_nil (by kernel_rfl : chkFn Tryz.prog 74 ir74 ir74_v = true)
theorem M_60 : c_60.modes = [.bor, .bor] := rfl
theorem Fl_60 : c_60.flat = true := rfl
attribute [go_sem] M_60 Fl_60
def E_60_l1 (list : List (List UInt8)) (name : List UInt8) : Int → St
 | i => ⟨[.sl 1 (List.map AV.str list), .str name, .any, .int .i64 i], [], [], true⟩
def R_60_l1 (list : List (List UInt8)) (name : List UInt8) : (Unit ⊕ Int) → Res
 | .inl y => (.exit 0, ⟨[.any, .any, .any, .any], [], [], true⟩)
 | .inr y => (.ret, ⟨[.any, .any, .int .i64 y, .any], [], [], true⟩)
theorem spec_l25Find_l1_ex {list : List (List UInt8)} {name : List UInt8} {sgm_ : Int} {rho_ : Unit ⊕ Int} (h : whileE (spec_l25Find_l1 list name) sgm_ = some rho_) : ∃ L0, ∀ L, L0 ≤ L → iter (exec (look t_60) L ir74_b0) ir74_k0 ir74_o0 ir74_r0 L (E_60_l1 list name sgm_) = R_60_l1 list name rho_ := by
 refine loop_ex (E := E_60_l1 list name) (R := R_60_l1 list name) (fun y => by first | (intro c; cases c) | (rcases y with y | y <;> (intro c; cases c)) | (rcases y with y | y | y <;> (intro c; cases c))) ?_ h
 clear h
 intro i o_ h
 dsimp only [spec_l25Find_l1] at h
 rcases it_some h with ⟨z1, h⟩ | ⟨z1, h⟩
 ·try simp only [go_sem, n1, n2, n3, n4] at z1
  all_goals
  obtain ⟨z2, h⟩ := ck_some h
  have lz2 := ix_lt z2
  have xz2 := getD_mapD AV.str list lz2
  try simp only [go_sem] at lz2
  try simp only [go_sem] at xz2
  try simp only [go_sem, n1, n2, n3, n4, z1] at z2
  all_goals
  rcases it_some h with ⟨z3, h⟩ | ⟨z3, h⟩
  ·try simp only [go_sem, n1, n2, n3, n4, z1, z2] at z3
   all_goals
   obtain rfl := so_some h
   refine ⟨0, fun L hL => ?_⟩
   simp only [go_sem, ir74, E_60_l1, R_60_l1, ir74_b0, ir74_k0, ir74_o0, ir74_r0, z1, z2, lz2, xz2, z3]
  ·try simp only [go_sem, n1, n2, n3, n4, z1, z2] at z3
   all_goals
   obtain rfl := so_some h
   refine ⟨0, fun L hL => ?_⟩
   simp only [go_sem, ir74, E_60_l1, R_60_l1, ir74_b0, ir74_k0, ir74_o0, ir74_r0, z1, z2, lz2, xz2, z3]
 ·try simp only [go_sem, n1, n2, n3, n4] at z1
  all_goals
  obtain rfl := so_some h
  refine ⟨0, fun L hL => ?_⟩
  simp only [go_sem, ir74, E_60_l1, R_60_l1, ir74_b0, ir74_k0, ir74_o0, ir74_r0, z1]

theorem Fs_60 {list : List (List UInt8)} {name : List UInt8} {y_ : Int} (h : spec_l25Find list name = some y_) : c_60.F [.sl 1 (List.map AV.str list), .str name] = ⟨true, .int .i64 y_, [.any, .any]⟩ := by
 refine mkF_E rfl ?_
 dsimp only [spec_l25Find] at h
 obtain ⟨y_4, z4, h⟩ := bd_some h
 obtain ⟨Lz4, ez4⟩ := spec_l25Find_l1_ex z4
 rcases y_4 with y_4a | y_4b
 ·dsimp only at h
  obtain rfl := so_some h
  refine ⟨Lz4, fun L hL => ?_⟩
  have ez4 := ez4 L (by omega)
  try simp only [go_sem, E_60_l1, R_60_l1, ir74_k0, ir74_o0, ir74_r0] at ez4
  simp only [go_sem, ir74, E_60_l1, R_60_l1, ir74_k0, ir74_o0, ir74_r0, ez4]
 ·dsimp only at h
  obtain rfl := so_some h
  refine ⟨Lz4, fun L hL => ?_⟩
  have ez4 := ez4 L (by omega)
  try simp only [go_sem, E_60_l1, R_60_l1, ir74_k0, ir74_o0, ir74_r0] at ez4
  simp only [go_sem, ir74, E_60_l1, R_60_l1, ir74_k0, ir74_o0, ir74_r0, ez4]


def ir75_v : List Nat := [0, 2]
def ir75 : AFn := ⟨1, 2, .seq (.region false [ VO 1 2 (.mov (I6 0))]) (.seq (.test false [ PM 3 0, PO 4 (.bin false .lss (.s 0) (I6 0))] (.s 0) (.seq (.region false [ PM 5 0, PO 6 (.bin false .mul (.c (.int .i64 (-2))) (.s 0)), PO 7 (.bin false .sub (.s 0) (I6 1)), VS 1 2 0]) (.ret)) (.skip)) (.seq (.region false [ PM 8 0, PO 9 (.bin false .mul (I6 2) (.s 0)), VS 1 2 0]) (.ret))), [.t 1]⟩
noncomputable def t_61 : List (Nat × Ctr) := []
noncomputable def c_61 : Ctr := mkF t_61 ir75 [.bor]
theorem s_61 : Sound Tryz.prog 75 c_61 := mkF_sound _ rfl snd_nil (by kernel_rfl : chkFn Tryz.prog 75 ir75 ir75_v = true)
theorem M_61 : c_61.modes = [.bor] := rfl
theorem Fl_61 : c_61.flat = true := rfl
attribute [go_sem] M_61 Fl_61
theorem Fs_61 {n : Int} {y_ : Int} (h : spec_l25Fold n = some y_) : c_61.F [.int .i64 n] = ⟨true, .int .i64 y_, [.any]⟩ := by
 refine mkF_E rfl ?_
 dsimp only [spec_l25Fold] at h
 rcases it_some h with ⟨z1, h⟩ | ⟨z1, h⟩
 ·try simp only [go_sem, n1, n2, n3, n4] at z1
  all_goals
  obtain rfl := so_some h
  refine ⟨0, fun L hL => ?_⟩
  simp only [go_sem, ir75, z1]
 ·try simp only [go_sem, n1, n2, n3, n4] at z1
  all_goals
  obtain rfl := so_some h
  refine ⟨0, fun L hL => ?_⟩
  simp only [go_sem, ir75, z1]


def ir86_b0 : IR := .seq (.test false [ PM 6 4, PM 7 0, PO 8 (.len false (.s 0)), PO 9 (.bin false .lss (.s 2) (.s 0))] (.s 0) (.skip) (.exit 0)) (.seq (.block 1 (.seq (.region false [ PM 12 2, PM 13 0, PM 14 4, PO 15 (.ixAddr 1 (.s 1) (.s 0)), PO 16 (.load false 1 (.s 0)), PO 17 (.conv .i64 (.s 0)), PO 18 (.bin false .add (.s 5) (.s 0)), PO 19 (.bin false .rem (.s 0) (I6 251)), VS 2 3 0]) (.region false [ PM 20 3, PM 21 2, PO 22 (.bin false .add (.s 1) (.s 0)), PO 23 (.bin false .rem (.s 0) (I6 251)), VS 3 4 0]))) (.region false [ PM 10 4, PO 11 (.bin false .add (.s 0) (I6 1)), VS 4 5 0]))
def ir86_k0 : List Bool := [true, false, true, true, true]
def ir86_o0 : List Bool := [false, false, true, true, false]
def ir86_r0 : List Bool := [false, true, false, false, false]
def ir86_v : List Nat := [0, 2, 3, 4, 5]
def ir86 : AFn := ⟨1, 5, .seq (.region false [ VO 1 2 (.mov (I6 0))]) (.seq (.region false [ VO 2 3 (.mov (I6 1))]) (.seq (.region false [ VO 3 4 (.mov (I6 0))]) (.seq (.seq (.region false [ VO 4 5 (.mov (I6 0))]) (.block 0 (.loop ir86_k0 ir86_o0 ir86_r0 ir86_b0))) (.seq (.region false [ PM 24 3, PO 25 (.bin false .mul (I6 251) (.s 0)), PM 26 2, PO 27 (.bin false .add (.s 1) (.s 0)), VS 1 2 0]) (.ret))))), [.t 1]⟩
noncomputable def t_62 : List (Nat × Ctr) := []
noncomputable def c_62 : Ctr := mkF t_62 ir86 [.bor]
theorem s_62 : Sound Tryz.prog 86 c_62 := mkF_sound _ rfl snd_nil (by kernel_rfl : chkFn Tryz.prog 86 ir86 ir86_v = true)
theorem M_62 : c_62.modes = [.bor] := rfl
theorem Fl_62 : c_62.flat = true := rfl
attribute [go_sem] M_62 Fl_62
def E_62_l1 (b : List UInt8) : (Int × Int × Int) → St
 | (sum, all, i) => ⟨[.sl 1 (List.map byteAV b), .any, .int .i64 sum, .int .i64 all, .int .i64 i], [], [], true⟩
def R_62_l1 (b : List UInt8) (y : Int × Int) : Res := (.exit 0, ⟨[.any, .any, .int .i64 y.1, .int .i64 y.2, .any], [], [], true⟩)
theorem spec_l25Sum_l1_ex {b : List UInt8} {sgm_ : Int × Int × Int} {rho_ : Int × Int} (h : whileE (spec_l25Sum_l1 b) sgm_ = some rho_) : ∃ L0, ∀ L, L0 ≤ L → iter (exec (look t_62) L ir86_b0) ir86_k0 ir86_o0 ir86_r0 L (E_62_l1 b sgm_) = R_62_l1 b rho_ := by
 refine loop_ex (E := E_62_l1 b) (R := R_62_l1 b) (fun y => by first | (intro c; cases c) | (rcases y with y | y <;> (intro c; cases c)) | (rcases y with y | y | y <;> (intro c; cases c))) ?_ h
 clear h
 rintro ⟨sum, all, i⟩ o_ h
 dsimp only [spec_l25Sum_l1] at h
 rcases it_some h with ⟨z1, h⟩ | ⟨z1, h⟩
 ·try simp only [go_sem, n1, n2, n3, n4] at z1
  all_goals
  obtain ⟨z2, h⟩ := ck_some h
  have lz2 := ix_lt z2
  have xz2 := getD_mapD byteAV b lz2
  try simp only [go_sem] at lz2
  try simp only [go_sem] at xz2
  try simp only [go_sem, n1, n2, n3, n4, z1] at z2
  all_goals
  obtain ⟨z3, h⟩ := ck_some h
  try simp only [go_sem, n1, n2, n3, n4, z1, z2] at z3
  all_goals
  obtain rfl := so_some h
  refine ⟨0, fun L hL => ?_⟩
  simp only [go_sem, ir86, E_62_l1, R_62_l1, ir86_b0, ir86_k0, ir86_o0, ir86_r0, z1, z2, lz2, xz2, z3]
 ·try simp only [go_sem, n1, n2, n3, n4] at z1
  all_goals
  obtain rfl := so_some h
  refine ⟨0, fun L hL => ?_⟩
  simp only [go_sem, ir86, E_62_l1, R_62_l1, ir86_b0, ir86_k0, ir86_o0, ir86_r0, z1]

theorem Fs_62 {b : List UInt8} {y_ : Int} (h : spec_l25Sum b = some y_) : c_62.F [.sl 1 (List.map byteAV b)] = ⟨true, .int .i64 y_, [.any]⟩ := by
 refine mkF_E rfl ?_
 dsimp only [spec_l25Sum] at h
 obtain ⟨y_4, z4, h⟩ := bd_some h
 obtain ⟨Lz4, ez4⟩ := spec_l25Sum_l1_ex z4
 obtain rfl := so_some h
 refine ⟨Lz4, fun L hL => ?_⟩
 have ez4 := ez4 L (by omega)
 try simp only [go_sem, E_62_l1, R_62_l1, ir86_k0, ir86_o0, ir86_r0] at ez4
 simp only [go_sem, ir86, E_62_l1, R_62_l1, ir86_k0, ir86_o0, ir86_r0, ez4]


def ir59_v : List Nat := [0, 2, 3]
def ir59 : AFn := ⟨1, 3, .seq (.region false [ VO 1 2 (.newnil 1)]) (.seq (.region false [ PM 4 0, PO 5 (.call 86 [(.s 0)]), VS 2 3 0]) (.seq (.region false [ PM 6 0, PM 7 2, PO 8 (.bin false .quo (.s 0) (I6 256)), PO 9 (.conv .u8 (.s 0)), PO 10 (.mkSl 1 (.int .u8 (0)) 1 [(0, (.s 0))]), PO 11 (.app 1 1 (.int .u8 (0)) (.s 4) (.s 0)), VS 0 0 0]) (.seq (.region false [ PM 12 0, PM 13 2, PO 14 (.bin false .rem (.s 0) (I6 256)), PO 15 (.conv .u8 (.s 0)), PO 16 (.mkSl 1 (.int .u8 (0)) 1 [(0, (.s 0))]), PO 17 (.app 1 1 (.int .u8 (0)) (.s 4) (.s 0)), VS 1 2 0]) (.ret)))), [.t 1]⟩
noncomputable def t_63 : List (Nat × Ctr) := [(86, c_62)]
theorem lk_63_86 : look t_63 86 = some c_62 := rfl
noncomputable def c_63 : Ctr := mkF t_63 ir59 [.mov]
theorem s_63 : Sound Tryz.prog 59 c_63 := mkF_sound _ rfl (snd_cons s_62 snd_nil) (by kernel_rfl : chkFn Tryz.prog 59 ir59 ir59_v = true)
theorem M_63 : c_63.modes = [.mov] := rfl
theorem Fl_63 : c_63.flat = true := rfl
attribute [go_sem] M_63 Fl_63
attribute [go_sem] lk_63_86
theorem Fs_63 {out : List UInt8} {y_ : (List UInt8)} (h : spec_l25Close out = some y_) : c_63.F [.fresh 1 (List.map byteAV out)] = ⟨true, .fresh 1 (List.map byteAV y_), [.any]⟩ := by
 refine mkF_E (by simp only [flatA, flatB, flat1, List.all_cons, List.all_nil, Bool.and_self, flatE_map (f := byteAV) (fun _ => rfl)]) ?_
 dsimp only [spec_l25Close] at h
 obtain ⟨y_1, z1, h⟩ := bd_some h
 have fz1 := Fs_62 z1
 try simp only [go_sem] at fz1
 obtain ⟨z2, h⟩ := ck_some h
 try simp only [go_sem, n1, n2, n3, n4] at z2
 all_goals
 obtain ⟨z3, h⟩ := ck_some h
 try simp only [go_sem, n1, n2, n3, n4, z2] at z3
 all_goals
 obtain ⟨z4, h⟩ := ck_some h
 try simp only [go_sem, n1, n2, n3, n4, z2, z3] at z4
 all_goals
 obtain rfl := so_some h
 refine ⟨0, fun L hL => ?_⟩
 simp only [go_sem, ir59, fz1, z2, z3, z4]


def ir35_b0 : IR := .seq (.test false [ PM 26 7, PM 27 0, PO 28 (.len false (.s 0)), PO 29 (.bin false .lss (.s 2) (.s 0))] (.s 0) (.skip) (.exit 0)) (.seq (.block 1 (.seq (.region false [ PM 32 4, PM 33 0, PM 34 7, PO 35 (.ixAddr 5 (.s 1) (.s 0)), PO 36 (.fldAddr 0 (.s 0)), PO 37 (.load false 1 (.s 0)), PM 38 5, PO 39 (.bin false .sub (.s 1) (.s 0)), PO 40 (.call 73 [(.s 0)]), PO 41 (.app 1 1 (.int .u8 (0)) (.s 8) (.s 0)), VS 4 5 0]) (.seq (.region false [ PM 42 4, PM 43 2, PM 44 0, PM 45 7, PO 46 (.ixAddr 5 (.s 1) (.s 0)), PO 47 (.fldAddr 1 (.s 0)), PO 48 (.load false 1 (.s 0)), PO 49 (.call
 74 [(.s 5), (.s 0)]), PO 50 (.call 73 [(.s 0)]), PO 51 (.app 1 1 (.int .u8 (0)) (.s 8) (.s 0)), VS 4 5 0]) (.seq (.region false [ PM 52 3, PM 53 0, PM 54 7, PO 55 (.ixAddr 5 (.s 1) (.s 0)), PO 56 (.fldAddr 2 (.s 0)), PO 57 (.load false 1 (.s 0)), PO 58 (.call 74 [(.s 5), (.s 0)]), PO 59 (.bin false .mul (I6 2) (.s 0)), VS 8 9 0]) (.seq (.test false [ PM 60 0, PM 61 7, PO 62 (.ixAddr 5 (.s 1) (.s 0)), PO 63 (.fldAddr 4 (.s 0)), PO 64 (.load false 1 (.s 0))] (.s 0) (.region false [ PM 65 8, PO 66 (.bin false .add (.s 0) (I6 1)), VS 8 9 0]) (.skip)) (.seq (.region false [ PM 67 4, PM 68 8, PO 69
 (.call 73 [(.s 0)]), PO 70 (.app 1 1 (.int .u8 (0)) (.s 2) (.s 0)), VS 4 5 0]) (.seq (.region false [ PM 71 4, PM 72 0, PM 73 7, PO 74 (.ixAddr 5 (.s 1) (.s 0)), PO 75 (.fldAddr 3 (.s 0)), PO 76 (.load false 1 (.s 0)), PM 77 6, PO 78 (.bin false .sub (.s 1) (.s 0)), PO 79 (.call 75 [(.s 0)]), PO 80 (.call 73 [(.s 0)]), PO 81 (.app 1 1 (.int .u8 (0)) (.s 9) (.s 0)), VS 4 5 0]) (.seq (.region false [ PM 82 0, PM 83 7, PO 84 (.ixAddr 5 (.s 1) (.s 0)), PO 85 (.fldAddr 0 (.s 0)), PO 86 (.load false 1 (.s 0)), VS 5 6 0]) (.region false [ PM 87 0, PM 88 7, PO 89 (.ixAddr 5 (.s 1) (.s 0)), PO 90
 (.fldAddr 3 (.s 0)), PO 91 (.load false 1 (.s 0)), VS 6 7 0]))))))))) (.region false [ PM 30 7, PO 31 (.bin false .add (.s 0) (I6 1)), VS 7 8 0]))
def ir35_k0 : List Bool := [true, false, true, true, true, true, true, true, false]
def ir35_o0 : List Bool := [false, false, false, false, true, false, false, false, false]
def ir35_r0 : List Bool := [false, true, false, false, false, false, false, false, false]
def ir35_v : List Nat := [0, 2, 3, 4, 5, 6, 7, 8, 9]
def ir35 : AFn := ⟨1, 9, .seq (.region false [ VO 1 2 (.newnil 1)]) (.seq (.region false [ PM 10 0, PO 11 (.call 71 [(.s 0), (.c (.bool true))]), VS 2 3 0]) (.seq (.region false [ PM 12 0, PO 13 (.call 71 [(.s 0), (.c (.bool false))]), VS 3 4 0]) (.seq (.region false [ PO 14 (.mkSl 1 (.int .u8 (0)) 1 [(0, (.c (.int .u8 (69))))]), VS 4 5 0]) (.seq (.region false [ PM 15 4, PM 16 2, PO 17 (.call 72 [(.s 1), (.s 0)]), VS 4 5 0]) (.seq (.region false [ PM 18 4, PM 19 3, PO 20 (.call 72 [(.s 1), (.s 0)]), VS 4 5 0]) (.seq (.region false [ PM 21 4, PM 22 0, PO 23 (.len false (.s 0)), PO 24 (.call 73
 [(.s 0)]), PO 25 (.app 1 1 (.int .u8 (0)) (.s 3) (.s 0)), VS 4 5 0]) (.seq (.region false [ VO 5 6 (.mov (I6 0))]) (.seq (.region false [ VO 6 7 (.mov (I6 0))]) (.seq (.seq (.region false [ VO 7 8 (.mov (I6 0))]) (.block 0 (.loop ir35_k0 ir35_o0 ir35_r0 ir35_b0))) (.seq (.region false [ PM 92 4, PO 93 (.call 59 [(.s 0)]), VS 1 2 0]) (.ret))))))))))), [.t 1]⟩
noncomputable def t_64 : List (Nat × Ctr) := [(71, c_57), (72, c_59), (73, c_58), (74, c_60), (75, c_61), (59, c_63)]
theorem lk_64_71 : look t_64 71 = some c_57 := rfl
theorem lk_64_72 : look t_64 72 = some c_59 := rfl
theorem lk_64_73 : look t_64 73 = some c_58 := rfl
theorem lk_64_74 : look t_64 74 = some c_60 := rfl
theorem lk_64_75 : look t_64 75 = some c_61 := rfl
theorem lk_64_59 : look t_64 59 = some c_63 := rfl
noncomputable def c_64 : Ctr := mkF t_64 ir35 [.bor]
theorem s_64 : Sound Tryz.prog 35 c_64 := mkF_sound _ rfl (snd_cons s_57 (snd_cons s_59 (snd_cons s_58 (snd_cons s_60 (snd_cons s_61 (snd_cons s_63 snd_nil)))))) (by kernel_rfl : chkFn Tryz.prog 35 ir35 ir35_v = true)
theorem M_64 : c_64.modes = [.bor] := rfl
theorem Fl_64 : c_64.flat = true := rfl
attribute [go_sem] M_64 Fl_64
attribute [go_sem] lk_64_71 lk_64_72 lk_64_73 lk_64_74 lk_64_75 lk_64_59
def E_64_l1 (list : List Estimate) (stars : List (List UInt8)) (people : List (List UInt8)) : ((List UInt8) × Int × Int × Int) → St
 | (out, time, mag, i) => ⟨[.sl 5 (List.map Estimate_av list), .any, .sl 1 (List.map AV.str stars), .sl 1 (List.map AV.str people), .own 3200000, .int .i64 time, .int .i64 mag, .int .i64 i, .any], [], [(3200000, ⟨1, List.map byteAV out⟩)], true⟩
def R_64_l1 (list : List Estimate) (stars : List (List UInt8)) (people : List (List UInt8)) (y : (List UInt8)) : Res := (.exit 0, ⟨[.any, .any, .any, .any, .own 3200000, .any, .any, .any, .any], [], [(3200000, ⟨1, List.map byteAV y⟩)], true⟩)
theorem spec_l25Estimates_l1_ex {list : List Estimate} {stars : List (List UInt8)} {people : List (List UInt8)} {sgm_ : (List UInt8) × Int × Int × Int} {rho_ : (List UInt8)} (h : whileE (spec_l25Estimates_l1 list stars people) sgm_ = some rho_) : ∃ L0, ∀ L, L0 ≤ L → iter (exec (look t_64) L ir35_b0) ir35_k0 ir35_o0 ir35_r0 L (E_64_l1 list stars people sgm_) = R_64_l1 list stars people rho_ := by
 refine loop_ex (E := E_64_l1 list stars people) (R := R_64_l1 list stars people) (fun y => by first | (intro c; cases c) | (rcases y with y | y <;> (intro c; cases c)) | (rcases y with y | y | y <;> (intro c; cases c))) ?_ h
 clear h
 rintro ⟨out, time, mag, i⟩ o_ h
 dsimp only [spec_l25Estimates_l1] at h
 rcases it_some h with ⟨z7, h⟩ | ⟨z7, h⟩
 ·try simp only [go_sem, n1, n2, n3, n4] at z7
  all_goals
  obtain ⟨z8, h⟩ := ck_some h
  have lz8 := ix_lt z8
  have xz8 := getD_mapD Estimate_av list lz8
  try simp only [go_sem] at lz8
  try simp only [go_sem] at xz8
  try simp only [go_sem, n1, n2, n3, n4, z7] at z8
  all_goals
  obtain ⟨y_9, z9, h⟩ := bd_some h
  have fz9 := Fs_58 z9
  try simp only [go_sem, z7, z8] at fz9
  obtain ⟨z10, h⟩ := ck_some h
  try simp only [go_sem, n1, n2, n3, n4, z7, z8] at z10
  all_goals
  obtain ⟨y_11, z11, h⟩ := bd_some h
  have fz11 := Fs_60 z11
  try simp only [go_sem, z7, z8, z10] at fz11
  obtain ⟨y_12, z12, h⟩ := bd_some h
  have fz12 := Fs_58 z12
  try simp only [go_sem, z7, z8, z10] at fz12
  obtain ⟨z13, h⟩ := ck_some h
  try simp only [go_sem, n1, n2, n3, n4, z7, z8, z10] at z13
  all_goals
  obtain ⟨y_14, z14, h⟩ := bd_some h
  have fz14 := Fs_60 z14
  try simp only [go_sem, z7, z8, z10, z13] at fz14
  rcases it_some h with ⟨z15, h⟩ | ⟨z15, h⟩
  ·try simp only [go_sem, n1, n2, n3, n4, z7, z8, z10, z13] at z15
   all_goals
   obtain ⟨y_16, z16, h⟩ := bd_some h
   have fz16 := Fs_58 z16
   try simp only [go_sem, z7, z8, z10, z13, z15] at fz16
   obtain ⟨z17, h⟩ := ck_some h
   try simp only [go_sem, n1, n2, n3, n4, z7, z8, z10, z13, z15] at z17
   all_goals
   obtain ⟨y_18, z18, h⟩ := bd_some h
   have fz18 := Fs_61 z18
   try simp only [go_sem, z7, z8, z10, z13, z15, z17] at fz18
   obtain ⟨y_19, z19, h⟩ := bd_some h
   have fz19 := Fs_58 z19
   try simp only [go_sem, z7, z8, z10, z13, z15, z17] at fz19
   obtain ⟨z20, h⟩ := ck_some h
   try simp only [go_sem, n1, n2, n3, n4, z7, z8, z10, z13, z15, z17] at z20
   all_goals
   obtain rfl := so_some h
   refine ⟨0, fun L hL => ?_⟩
   simp only [go_sem, ir35, E_64_l1, R_64_l1, ir35_b0, ir35_k0, ir35_o0, ir35_r0, z7, z8, lz8, xz8, fz9, z10, fz11, fz12, z13, fz14, z15, fz16, z17, fz18, fz19, z20]
  ·try simp only [go_sem, n1, n2, n3, n4, z7, z8, z10, z13] at z15
   all_goals
   obtain ⟨y_21, z21, h⟩ := bd_some h
   have fz21 := Fs_58 z21
   try simp only [go_sem, z7, z8, z10, z13, z15] at fz21
   obtain ⟨z22, h⟩ := ck_some h
   try simp only [go_sem, n1, n2, n3, n4, z7, z8, z10, z13, z15] at z22
   all_goals
   obtain ⟨y_23, z23, h⟩ := bd_some h
   have fz23 := Fs_61 z23
   try simp only [go_sem, z7, z8, z10, z13, z15, z22] at fz23
   obtain ⟨y_24, z24, h⟩ := bd_some h
   have fz24 := Fs_58 z24
   try simp only [go_sem, z7, z8, z10, z13, z15, z22] at fz24
   obtain ⟨z25, h⟩ := ck_some h
   try simp only [go_sem, n1, n2, n3, n4, z7, z8, z10, z13, z15, z22] at z25
   all_goals
   obtain rfl := so_some h
   refine ⟨0, fun L hL => ?_⟩
   simp only [go_sem, ir35, E_64_l1, R_64_l1, ir35_b0, ir35_k0, ir35_o0, ir35_r0, z7, z8, lz8, xz8, fz9, z10, fz11, fz12, z13, fz14, z15, fz21, z22, fz23, fz24, z25]
 ·try simp only [go_sem, n1, n2, n3, n4] at z7
  all_goals
  obtain rfl := so_some h
  refine ⟨0, fun L hL => ?_⟩
  simp only [go_sem, ir35, E_64_l1, R_64_l1, ir35_b0, ir35_k0, ir35_o0, ir35_r0, z7]

theorem Fs_64 {list : List Estimate} {y_ : (List UInt8)} (h : spec_l25Estimates list = some y_) : c_64.F [.sl 5 (List.map Estimate_av list)] = ⟨true, .fresh 1 (List.map byteAV y_), [.any]⟩ := by
 refine mkF_E (by simp only [flatA, flatB, flat1, List.all_cons, List.all_nil, Bool.and_self, flatE_map (f := byteAV) (fun _ => rfl)]) ?_
 dsimp only [spec_l25Estimates] at h
 obtain ⟨y_1, z1, h⟩ := bd_some h
 have fz1 := Fs_57 z1
 try simp only [go_sem] at fz1
 obtain ⟨y_2, z2, h⟩ := bd_some h
 have fz2 := Fs_57 z2
 try simp only [go_sem] at fz2
 obtain ⟨y_3, z3, h⟩ := bd_some h
 have fz3 := Fs_59 z3
 try simp only [go_sem] at fz3
 obtain ⟨y_4, z4, h⟩ := bd_some h
 have fz4 := Fs_59 z4
 try simp only [go_sem] at fz4
 obtain ⟨y_5, z5, h⟩ := bd_some h
 have fz5 := Fs_58 z5
 try simp only [go_sem] at fz5
 obtain ⟨z6, h⟩ := ck_some h
 try simp only [go_sem, n1, n2, n3, n4] at z6
 all_goals
 obtain ⟨y_26, z26, h⟩ := bd_some h
 obtain ⟨Lz26, ez26⟩ := spec_l25Estimates_l1_ex z26
 obtain ⟨y_27, z27, h⟩ := bd_some h
 have fz27 := Fs_63 z27
 try simp only [go_sem, z6] at fz27
 obtain rfl := so_some h
 refine ⟨Lz26, fun L hL => ?_⟩
 have ez26 := ez26 L (by omega)
 try simp only [go_sem, E_64_l1, R_64_l1, ir35_k0, ir35_o0, ir35_r0, z6] at ez26
 simp only [go_sem, ir35, E_64_l1, R_64_l1, ir35_k0, ir35_o0, ir35_r0, fz1, fz2, fz3, fz4, fz5, z6, fz27, ez26]


def ir7_v : List Nat := [0, 2, 3]
def ir7 : AFn := ⟨1, 3, .seq (.region false [ VO 1 2 (.newnil 1), VO 2 3 (.mov (I6 0))]) (.seq (.test false [ PM 4 0, PO 5 (.call 34 [(.s 0)]), PO 6 (.un .not (.s 0))] (.s 0) (.seq (.region false [ VO 1 2 (.newnil 1), VO 2 3 (.mov (I6 1))]) (.ret)) (.skip)) (.seq (.region false [ PM 7 0, PO 8 (.call 35 [(.s 0)]), VS 1 2 0, VO 2 3 (.mov (I6 0))]) (.ret))), [.t 1, .t 2]⟩
noncomputable def t_65 : List (Nat × Ctr) := [(34, c_55), (35, c_64)]
theorem lk_65_34 : look t_65 34 = some c_55 := rfl
theorem lk_65_35 : look t_65 35 = some c_64 := rfl
noncomputable def c_65 : Ctr := mkF t_65 ir7 [.bor]
theorem s_65 : Sound Tryz.prog 7 c_65 := mkF_sound _ rfl (snd_cons s_55 (snd_cons s_64 snd_nil)) (by kernel_rfl : chkFn Tryz.prog 7 ir7 ir7_v = true)
theorem M_65 : c_65.modes = [.bor] := rfl
theorem Fl_65 : c_65.flat = true := rfl
attribute [go_sem] M_65 Fl_65
attribute [go_sem] lk_65_34 lk_65_35
theorem Fs_65 {list : List Estimate} {y_ : (List UInt8) × Int} (h : spec_PackEstimates list = some y_) : c_65.F [.sl 5 (List.map Estimate_av list)] = ⟨true, .tup [.fresh 1 (List.map byteAV y_.1), .int .i64 y_.2], [.any]⟩ := by
 refine mkF_E (by simp only [flatA, flatB, flat1, List.all_cons, List.all_nil, Bool.and_self, flatE_map (f := byteAV) (fun _ => rfl)]) ?_
 dsimp only [spec_PackEstimates] at h
 obtain ⟨y_1, z1, h⟩ := bd_some h
 have fz1 := Fs_55 z1
 try simp only [go_sem] at fz1
 rcases it_some h with ⟨z2, h⟩ | ⟨z2, h⟩
 ·try simp only [go_sem, n1, n2, n3, n4] at z2
  all_goals
  obtain rfl := so_some h
  refine ⟨0, fun L hL => ?_⟩
  simp only [go_sem, ir7, fz1, z2]
 ·try simp only [go_sem, n1, n2, n3, n4] at z2
  all_goals
  obtain ⟨y_3, z3, h⟩ := bd_some h
  have fz3 := Fs_64 z3
  try simp only [go_sem, z2] at fz3
  obtain rfl := so_some h
  refine ⟨0, fun L hL => ?_⟩
  simp only [go_sem, ir7, fz1, z2, fz3]


def ir53_b0 : IR := .seq (.test false [ PM 16 5, PO 17 (.bin false .gtr (.s 0) (I6 0))] (.s 0) (.skip) (.exit 0)) (.seq (.block 1 (.seq (.region false [ PM 20 3, PM 21 4, PM 22 0, PO 23 (.call 58 [(.s 0), (I6 100)]), PO 24 (.bin false .mul (I6 20) (.s 0)), PO 25 (.bin false .add (I6 8000) (.s 0)), PO 26 (.build [.int .i64 (0), .int .i64 (0)] [(0, 1, (.s 4)), (1, 1, (.s 0))]), PO 27 (.mkSl 2 (.agg [.int .i64 (0), .int .i64 (0)]) 1 [(0, (.s 0))]), PO 28 (.app 2 16 (.agg [.int .i64 (0), .int .i64 (0)]) (.s 7) (.s 0)), VS 3 5 0]) (.region false [ PM 29 4, PM 30 0, PO 31 (.call 58 [(.s 0), (I6
 40)]), PO 32 (.bin false .add (I6 1) (.s 0)), PO 33 (.bin false .mul (I6 100) (.s 0)), PO 34 (.bin false .add (.s 4) (.s 0)), VS 4 6 0]))) (.region false [ PM 18 5, PO 19 (.bin false .sub (.s 0) (I6 1)), VS 5 7 0]))
def ir53_k0 : List Bool := [true, false, false, true, true, true]
def ir53_o0 : List Bool := [true, false, false, true, false, false]
def ir53_r0 : List Bool := [true, false, true, false, false, false]
def ir53_v : List Nat := [0, 1, 4, 5, 6, 7]
def ir53 : AFn := ⟨2, 6, .seq (.region false [ VO 2 4 (.newnil 2)]) (.seq (.region false [ PO 8 (.mkSl 2 (.agg [.int .i64 (0), .int .i64 (0)]) 0 []), VS 3 5 0]) (.seq (.region false [ PM 9 0, PO 10 (.call 58 [(.s 0), (I6 9)]), PO 11 (.bin false .mul (I6 1000) (.s 0)), VS 4 6 0]) (.seq (.seq (.region false [ PM 12 0, PM 13 1, PO 14 (.bin false .add (.s 0) (I6 1)), PO 15 (.call 58 [(.s 2), (.s 0)]), VS 5 7 0]) (.block 0 (.loop ir53_k0 ir53_o0 ir53_r0 ir53_b0))) (.seq (.region false [ PM 35 3, VS 2 4 0]) (.ret))))), [.t 2]⟩
noncomputable def t_66 : List (Nat × Ctr) := [(58, c_3)]
theorem lk_66_58 : look t_66 58 = some c_3 := rfl
noncomputable def c_66 : Ctr := mkN t_66 ir53 [.io, .bor]
theorem s_66 : Sound Tryz.prog 53 c_66 := mkN_sound _ (snd_cons s_3 snd_nil) (by kernel_rfl : chkFn Tryz.prog 53 ir53 ir53_v = true)
theorem M_66 : c_66.modes = [.io, .bor] := rfl
theorem Fl_66 : c_66.flat = false := rfl
attribute [go_sem] M_66 Fl_66
attribute [go_sem] lk_66_58
def E_66_l1  : (L00Src × (List Point) × Int × Int) → St
 | (s_, out, at_, k) => ⟨[.ref 31 0 0, .any, .any, .own 3200032, .int .i64 at_, .int .i64 k], [], [(31, ⟨3, [L00Src_av s_]⟩), (3200032, ⟨2, List.map Point_av out⟩)], true⟩
def R_66_l1  (y : L00Src × (List Point)) : Res := (.exit 0, ⟨[.ref 31 0 0, .any, .any, .own 3200032, .any, .any], [], [(31, ⟨3, [L00Src_av y.1]⟩), (3200032, ⟨2, List.map Point_av y.2⟩)], true⟩)
theorem spec_l08Draw_l1_ex  {sgm_ : L00Src × (List Point) × Int × Int} {rho_ : L00Src × (List Point)} (h : whileE (spec_l08Draw_l1) sgm_ = some rho_) : ∃ L0, ∀ L, L0 ≤ L → iter (exec (look t_66) L ir53_b0) ir53_k0 ir53_o0 ir53_r0 L (E_66_l1 sgm_) = R_66_l1 rho_ := by
 refine loop_ex (E := E_66_l1) (R := R_66_l1) (fun y => by first | (intro c; cases c) | (rcases y with y | y <;> (intro c; cases c)) | (rcases y with y | y | y <;> (intro c; cases c))) ?_ h
 clear h
 rintro ⟨s_, out, at_, k⟩ o_ h
 dsimp only [spec_l08Draw_l1] at h
 rcases it_some h with ⟨z3, h⟩ | ⟨z3, h⟩
 ·try simp only [go_sem, n1, n2, n3, n4] at z3
  all_goals
  obtain ⟨y_4, z4, h⟩ := bd_some h
  have fz4 := Fs_3 z4
  try simp only [go_sem, z3] at fz4
  obtain ⟨z5, h⟩ := ck_some h
  try simp only [go_sem, n1, n2, n3, n4, z3] at z5
  all_goals
  obtain ⟨y_6, z6, h⟩ := bd_some h
  have fz6 := Fs_3 z6
  try simp only [go_sem, z3, z5] at fz6
  obtain rfl := so_some h
  refine ⟨0, fun L hL => ?_⟩
  simp only [go_sem, ir53, E_66_l1, R_66_l1, ir53_b0, ir53_k0, ir53_o0, ir53_r0, z3, fz4, z5, fz6]
 ·try simp only [go_sem, n1, n2, n3, n4] at z3
  all_goals
  obtain rfl := so_some h
  refine ⟨0, fun L hL => ?_⟩
  simp only [go_sem, ir53, E_66_l1, R_66_l1, ir53_b0, ir53_k0, ir53_o0, ir53_r0, z3]

theorem Fs_66 {s_ : L00Src} {most : Int} {y_ : (List Point) × L00Src} (h : spec_l08Draw s_ most = some y_) : c_66.F [.mem 3 [L00Src_av s_] 0, .int .i64 most] = ⟨true, .fresh 2 (List.map Point_av y_.1), [.mem 3 [L00Src_av y_.2] 0, .any]⟩ := by
 refine mkN_E ?_
 dsimp only [spec_l08Draw] at h
 obtain ⟨y_1, z1, h⟩ := bd_some h
 have fz1 := Fs_3 z1
 try simp only [go_sem] at fz1
 obtain ⟨y_2, z2, h⟩ := bd_some h
 have fz2 := Fs_3 z2
 try simp only [go_sem] at fz2
 obtain ⟨y_7, z7, h⟩ := bd_some h
 obtain ⟨Lz7, ez7⟩ := spec_l08Draw_l1_ex z7
 obtain rfl := so_some h
 refine ⟨Lz7, fun L hL => ?_⟩
 have ez7 := ez7 L (by omega)
 try simp only [go_sem, E_66_l1, R_66_l1, ir53_k0, ir53_o0, ir53_r0] at ez7
 simp only [go_sem, ir53, E_66_l1, R_66_l1, ir53_k0, ir53_o0, ir53_r0, fz1, fz2, ez7]


def ir36_b0 : IR := .seq (.test false [ PM 38 3, PO 39 (.bin false .gtr (.s 0) (I6 0))] (.s 0) (.skip) (.exit 1)) (.seq (.block 2 (.region false [ PM 42 2, PM 43 2, PO 44 (.len false (.s 0)), PO 45 (.bin false .mul (I6 10) (.s 0)), PM 46 3, PO 47 (.bin false .add (I6 9000) (.s 0)), PO 48 (.build [.int .i64 (0), .int .i64 (0)] [(0, 1, (.s 2)), (1, 1, (.s 0))]), PO 49 (.mkSl 2 (.agg [.int .i64 (0), .int .i64 (0)]) 1 [(0, (.s 0))]), PO 50 (.app 2 16 (.agg [.int .i64 (0), .int .i64 (0)]) (.s 7) (.s 0)), VS 2 3 0])) (.region false [ PM 40 3, PO 41 (.bin false .sub (.s 0) (I6 1)), VS 3 4 0]))
def ir36_k0 : List Bool := [true, false, true, true, false]
def ir36_o0 : List Bool := [true, false, true, false, false]
def ir36_r0 : List Bool := [true, true, false, false, false]
def ir36_v : List Nat := [0, 2, 3, 4, 8]
def ir36 : AFn := ⟨1, 5, .seq (.region false [ VO 1 2 (.newnil 2)]) (.seq (.region false [ PM 5 0, PO 6 (.call 53 [(.s 0), (I6 12)]), VS 2 3 0]) (.seq (.seq (.region false [ PM 7 0, VO 4 8 (.call 58 [(.s 0), (I6 20)])]) (.block 0 (.test false [ PO 10 (.bin false .eql (.v 4) (I6 0)), PO 9 (.mov (.s 0))] (.s 0) (.region false [ PM 11 2, PM 12 0, PO 13 (.mkSl 1 (.int .i64 (0)) 4 [(0, (.c (.int .i64 (-1)))), (1, (I6 0)), (2, (I6 10000000)), (3, (I6 10000001))]), PO 14 (.call 76 [(.s 1), (.s 0)]), PO 15 (.build [.int .i64 (0), .int .i64 (0)] [(0, 1, (.s 0)), (1, 1, (I6 9000))]), PO 16 (.mkSl 2 (.agg
 [.int .i64 (0), .int .i64 (0)]) 1 [(0, (.s 0))]), PO 17 (.app 2 16 (.agg [.int .i64 (0), .int .i64 (0)]) (.s 5) (.s 0)), VS 2 3 0]) (.test false [ PO 19 (.bin false .eql (.v 4) (I6 1)), PO 18 (.mov (.s 0))] (.s 0) (.test false [ PM 20 2, PO 21 (.len false (.s 0)), PO 22 (.bin false .gtr (.s 0) (I6 0))] (.s 0) (.region false [ PM 23 2, PM 24 0, PM 25 2, PO 26 (.len false (.s 0)), PO 27 (.call 58 [(.s 2), (.s 0)]), PM 28 0, PO 29 (.call 77 [(.s 0)]), PO 30 (.ixAddr 2 (.s 6) (.s 2)), PO 31 (.fldAddr 1 (.s 0)), ⟨.no, 0, none, .store 1 (.s 0) (.s 2)⟩]) (.skip)) (.test false [ PO 33 (.bin false .eql
 (.v 4) (I6 2)), PO 32 (.mov (.s 0))] (.s 0) (.seq (.region false [ PO 34 (.mkSl 2 (.agg [.int .i64 (0), .int .i64 (0)]) 0 []), VS 2 3 0]) (.seq (.region false [ PM 35 0, PO 36 (.call 58 [(.s 0), (I6 2)]), PO 37 (.bin false .add (I6 100) (.s 0)), VS 3 4 0]) (.block 1 (.loop ir36_k0 ir36_o0 ir36_r0 ir36_b0)))) (.skip)))))) (.seq (.region false [ PM 51 2, VS 1 2 0]) (.ret)))), [.t 1]⟩
noncomputable def t_67 : List (Nat × Ctr) := [(53, c_66), (58, c_3), (76, c_11), (77, c_13)]
theorem lk_67_53 : look t_67 53 = some c_66 := rfl
theorem lk_67_58 : look t_67 58 = some c_3 := rfl
theorem lk_67_76 : look t_67 76 = some c_11 := rfl
theorem lk_67_77 : look t_67 77 = some c_13 := rfl
noncomputable def c_67 : Ctr := mkN t_67 ir36 [.io]
theorem s_67 : Sound Tryz.prog 36 c_67 := mkN_sound _ (snd_cons s_66 (snd_cons s_3 (snd_cons s_11 (snd_cons s_13 snd_nil)))) (by kernel_rfl : chkFn Tryz.prog 36 ir36 ir36_v = true)
theorem M_67 : c_67.modes = [.io] := rfl
theorem Fl_67 : c_67.flat = false := rfl
attribute [go_sem] M_67 Fl_67
attribute [go_sem] lk_67_53 lk_67_58 lk_67_76 lk_67_77
def E_67_l1 (s_ : L00Src) : ((List Point) × Int) → St
 | (curve, k) => ⟨[.ref 31 0 0, .any, .own 3200032, .int .i64 k, .any], [], [(31, ⟨3, [L00Src_av s_]⟩), (3200032, ⟨2, List.map Point_av curve⟩)], true⟩
def R_67_l1 (s_ : L00Src) (y : (List Point)) : Res := (.exit 1, ⟨[.ref 31 0 0, .any, .own 3200032, .any, .any], [], [(31, ⟨3, [L00Src_av s_]⟩), (3200032, ⟨2, List.map Point_av y⟩)], true⟩)
theorem spec_l08Bent_l1_ex {s_ : L00Src} {sgm_ : (List Point) × Int} {rho_ : (List Point)} (h : whileE (spec_l08Bent_l1 s_) sgm_ = some rho_) : ∃ L0, ∀ L, L0 ≤ L → iter (exec (look t_67) L ir36_b0) ir36_k0 ir36_o0 ir36_r0 L (E_67_l1 s_ sgm_) = R_67_l1 s_ rho_ := by
 refine loop_ex (E := E_67_l1 s_) (R := R_67_l1 s_) (fun y => by first | (intro c; cases c) | (rcases y with y | y <;> (intro c; cases c)) | (rcases y with y | y | y <;> (intro c; cases c))) ?_ h
 clear h
 rintro ⟨curve, k⟩ o_ h
 dsimp only [spec_l08Bent_l1] at h
 rcases it_some h with ⟨z13, h⟩ | ⟨z13, h⟩
 ·try simp only [go_sem, n1, n2, n3, n4] at z13
  all_goals
  obtain ⟨z14, h⟩ := ck_some h
  try simp only [go_sem, n1, n2, n3, n4, z13] at z14
  all_goals
  obtain rfl := so_some h
  refine ⟨0, fun L hL => ?_⟩
  simp only [go_sem, ir36, E_67_l1, R_67_l1, ir36_b0, ir36_k0, ir36_o0, ir36_r0, z13, z14]
 ·try simp only [go_sem, n1, n2, n3, n4] at z13
  all_goals
  obtain rfl := so_some h
  refine ⟨0, fun L hL => ?_⟩
  simp only [go_sem, ir36, E_67_l1, R_67_l1, ir36_b0, ir36_k0, ir36_o0, ir36_r0, z13]

theorem Fs_67 {s_ : L00Src} {y_ : (List Point) × L00Src} (h : spec_l08Bent s_ = some y_) : c_67.F [.mem 3 [L00Src_av s_] 0] = ⟨true, .fresh 2 (List.map Point_av y_.1), [.mem 3 [L00Src_av y_.2] 0]⟩ := by
 refine mkN_E ?_
 dsimp only [spec_l08Bent] at h
 obtain ⟨y_1, z1, h⟩ := bd_some h
 have fz1 := Fs_66 z1
 try simp only [go_sem] at fz1
 obtain ⟨y_2, z2, h⟩ := bd_some h
 have fz2 := Fs_3 z2
 try simp only [go_sem] at fz2
 rcases it_some h with ⟨z3, h⟩ | ⟨z3, h⟩
 ·try simp only [go_sem, n1, n2, n3, n4] at z3
  all_goals
  obtain ⟨y_4, z4, h⟩ := bd_some h
  have fz4 := Fs_11 z4
  try simp only [go_sem, z3] at fz4
  obtain ⟨z5, h⟩ := ck_some h
  try simp only [go_sem, n1, n2, n3, n4, z3] at z5
  all_goals
  obtain rfl := so_some h
  refine ⟨0, fun L hL => ?_⟩
  simp only [go_sem, ir36, E_67_l1, R_67_l1, ir36_k0, ir36_o0, ir36_r0, fz1, fz2, z3, fz4, z5]
 ·try simp only [go_sem, n1, n2, n3, n4] at z3
  all_goals
  rcases it_some h with ⟨z6, h⟩ | ⟨z6, h⟩
  ·try simp only [go_sem, n1, n2, n3, n4, z3] at z6
   all_goals
   rcases it_some h with ⟨z7, h⟩ | ⟨z7, h⟩
   ·try simp only [go_sem, n1, n2, n3, n4, z3, z6] at z7
    all_goals
    obtain ⟨y_8, z8, h⟩ := bd_some h
    have fz8 := Fs_3 z8
    try simp only [go_sem, z3, z6, z7] at fz8
    obtain ⟨y_9, z9, h⟩ := bd_some h
    have fz9 := Fs_13 z9
    try simp only [go_sem, z3, z6, z7] at fz9
    obtain ⟨z10, h⟩ := ck_some h
    have lz10 := ix_lt z10
    have xz10 := getD_mapD Point_av y_1.1 lz10
    try simp only [go_sem] at lz10
    try simp only [go_sem] at xz10
    try simp only [go_sem, n1, n2, n3, n4, z3, z6, z7] at z10
    all_goals
    obtain rfl := so_some h
    refine ⟨0, fun L hL => ?_⟩
    simp only [go_sem, ir36, E_67_l1, R_67_l1, ir36_k0, ir36_o0, ir36_r0, fz1, fz2, z3, z6, z7, fz8, fz9, z10, lz10, xz10]
   ·try simp only [go_sem, n1, n2, n3, n4, z3, z6] at z7
    all_goals
    obtain rfl := so_some h
    refine ⟨0, fun L hL => ?_⟩
    simp only [go_sem, ir36, E_67_l1, R_67_l1, ir36_k0, ir36_o0, ir36_r0, fz1, fz2, z3, z6, z7]
  ·try simp only [go_sem, n1, n2, n3, n4, z3] at z6
   all_goals
   rcases it_some h with ⟨z11, h⟩ | ⟨z11, h⟩
   ·try simp only [go_sem, n1, n2, n3, n4, z3, z6] at z11
    all_goals
    obtain ⟨y_12, z12, h⟩ := bd_some h
    have fz12 := Fs_3 z12
    try simp only [go_sem, z3, z6, z11] at fz12
    obtain ⟨y_15, z15, h⟩ := bd_some h
    obtain ⟨Lz15, ez15⟩ := spec_l08Bent_l1_ex z15
    obtain rfl := so_some h
    refine ⟨Lz15, fun L hL => ?_⟩
    have ez15 := ez15 L (by omega)
    try simp only [go_sem, E_67_l1, R_67_l1, ir36_k0, ir36_o0, ir36_r0, z3, z6, z11] at ez15
    simp only [go_sem, ir36, E_67_l1, R_67_l1, ir36_k0, ir36_o0, ir36_r0, fz1, fz2, z3, z6, z11, fz12, ez15]
   ·try simp only [go_sem, n1, n2, n3, n4, z3, z6] at z11
    all_goals
    obtain rfl := so_some h
    refine ⟨0, fun L hL => ?_⟩
    simp only [go_sem, ir36, E_67_l1, R_67_l1, ir36_k0, ir36_o0, ir36_r0, fz1, fz2, z3, z6, z11]


def ir8_v : List Nat := [0, 2]
def ir8 : AFn := ⟨1, 2, .seq (.region false [ VO 1 2 (.newnil 2)]) (.seq (.region false [ PM 3 0, PO 4 (.call 23 [(.s 0)]), PO 5 (.call 36 [(.s 0)]), VS 1 2 0]) (.ret)), [.t 1]⟩
noncomputable def t_68 : List (Nat × Ctr) := [(23, c_1), (36, c_67)]
theorem lk_68_23 : look t_68 23 = some c_1 := rfl
theorem lk_68_36 : look t_68 36 = some c_67 := rfl
noncomputable def c_68 : Ctr := mkF t_68 ir8 [.bor]
theorem s_68 : Sound Tryz.prog 8 c_68 := mkF_sound _ rfl (snd_cons s_1 (snd_cons s_67 snd_nil)) (by kernel_rfl : chkFn Tryz.prog 8 ir8 ir8_v = true)
theorem M_68 : c_68.modes = [.bor] := rfl
theorem Fl_68 : c_68.flat = true := rfl
attribute [go_sem] M_68 Fl_68
attribute [go_sem] lk_68_23 lk_68_36
theorem Fs_68 {code : List UInt8} {y_ : (List Point)} (h : spec_DrawPackCurve code = some y_) : c_68.F [.sl 1 (List.map byteAV code)] = ⟨true, .fresh 2 (List.map Point_av y_), [.any]⟩ := by
 refine mkF_E (by simp only [flatA, flatB, flat1, List.all_cons, List.all_nil, Bool.and_self, flatE_map (f := Point_av) (fun _ => rfl)]) ?_
 dsimp only [spec_DrawPackCurve] at h
 obtain ⟨y_1, z1, h⟩ := bd_some h
 have fz1 := Fs_1 z1
 try simp only [go_sem] at fz1
 obtain ⟨y_2, z2, h⟩ := bd_some h
 have fz2 := Fs_67 z2
 try simp only [go_sem] at fz2
 obtain rfl := so_some h
 refine ⟨0, fun L hL => ?_⟩
 simp only [go_sem, ir8, fz1, fz2]


def ir37_b0 : IR := .seq (.region false [ VO 7 11 (.bin false .lss (.v 6) (.v 5))]) (.seq (.cond (.v 7) (.skip) (.exit 0)) (.seq (.block 1 (.seq (.region false [ PM 12 6, PO 13 (.ixAddr 2 (.v 4) (.v 6)), PO 14 (.load true 2 (.s 0)), VO 3 4 (.alloc (.agg [.int .i64 (0), .int .i64 (0)])), VS 2 3 2, ⟨.no, 0, none, .store 2 (.v 3) (.s 0)⟩]) (.anyo 25 [ SO 0 15 (.fldAddr 0 (.v 3)), SO 1 16 (.load false 1 (.s 0)), SO 2 17 (.callp 78 [(.s 1)]), SO 3 18 (.un .not (.s 2)), SO 4 19 (.mov (.s 3)), ⟨.slot 5, 20, (some ((.s 4), false)), .fldAddr 1 (.v 3)⟩, ⟨.slot 6, 21, (some ((.s 4), false)), .load false 1
 (.s 5)⟩, ⟨.slot 7, 22, (some ((.s 4), false)), .call 79 [(.s 6)]⟩, ⟨.slot 8, 23, (some ((.s 4), false)), .un .not (.s 7)⟩, SO 9 24 (.pick (.s 4) (.c (.bool true)) (.s 8)), SO 10 25 (.mov (.s 9)), ⟨.slot 11, 26, (some ((.s 10), false)), .mov (.v 2)⟩, ⟨.slot 12, 27, (some ((.s 10), false)), .bin false .gtr (.s 11) (I6 0)⟩, ⟨.slot 13, 28, (some ((.s 10), false)), .mov (.s 12)⟩, ⟨.slot 14, 29, (some ((.s 13), true)), .mov (.v 0)⟩, ⟨.slot 15, 30, (some ((.s 13), true)), .mov (.v 2)⟩, ⟨.slot 16, 31, (some ((.s 13), true)), .bin false .sub (.s 15) (I6 1)⟩, ⟨.slot 17, 32, (some ((.s 13), true)),
 .ixAddr 2 (.s 14) (.s 16)⟩, ⟨.slot 18, 33, (some ((.s 13), true)), .fldAddr 0 (.s 17)⟩, ⟨.slot 19, 34, (some ((.s 13), true)), .load false 1 (.s 18)⟩, ⟨.slot 20, 35, (some ((.s 13), true)), .fldAddr 0 (.v 3)⟩, ⟨.slot 21, 36, (some ((.s 13), true)), .load false 1 (.s 20)⟩, ⟨.slot 22, 37, (some ((.s 13), true)), .bin false .geq (.s 19) (.s 21)⟩, ⟨.slot 23, 38, (some ((.s 10), false)), .pick (.s 13) (.s 22) (.c (.bool false))⟩, SO 24 39 (.pick (.s 10) (.c (.bool true)) (.s 23))] [] (.cond (.s 24) (.seq (.region false [ VO 1 2 (.mov (.c (.bool false)))]) (.ret)) (.skip))))) (.region false [ PO 40
 (.bin false .add (.v 6) (I6 1)), VS 6 10 0])))
def ir37_k0 : List Bool := [true, false, false, false, true, true, true, false]
def ir37_o0 : List Bool := [false, false, false, false, false, false, false, false]
def ir37_r0 : List Bool := [false, true, false, false, false, false, false, false]
def ir37_v : List Nat := [0, 2, 3, 4, 8, 9, 10, 11]
def ir37 : AFn := ⟨1, 8, .seq (.region false [ VO 1 2 (.mov (.c (.bool false)))]) (.seq (.test false [ PM 5 0, PO 6 (.len false (.s 0)), PO 7 (.bin false .gtr (.s 0) (I6 100))] (.s 0) (.seq (.region false [ VO 1 2 (.mov (.c (.bool false)))]) (.ret)) (.skip)) (.seq (.seq (.region false [ VO 4 8 (.mov (.v 0)), VO 5 9 (.len false (.v 4)), VO 6 10 (.mov (I6 0))]) (.block 0 (.loop ir37_k0 ir37_o0 ir37_r0 ir37_b0))) (.seq (.region false [ VO 1 2 (.mov (.c (.bool true)))]) (.ret)))), [.t 1]⟩
noncomputable def t_69 : List (Nat × Ctr) := [(78, c_23), (79, c_25)]
theorem lk_69_78 : look t_69 78 = some c_23 := rfl
theorem lk_69_79 : look t_69 79 = some c_25 := rfl
noncomputable def c_69 : Ctr := mkF t_69 ir37 [.bor]
theorem s_69 : Sound Tryz.prog 37 c_69 := mkF_sound _ rfl (snd_cons s_23 (snd_cons s_25 snd_nil)) (by kernel_rfl : chkFn Tryz.prog 37 ir37 ir37_v = true)
theorem M_69 : c_69.modes = [.bor] := rfl
theorem Fl_69 : c_69.flat = true := rfl
attribute [go_sem] M_69 Fl_69
attribute [go_sem] lk_69_78 lk_69_79
def E_69_l1 (curve : List Point) (t8 : List Point) (t9 : Int) : Int → St
 | t10 => ⟨[.sl 2 (List.map Point_av curve), .any, .any, .any, .sl 2 (List.map Point_av t8), .int .i64 t9, .int .i64 t10, .any], [], [], true⟩
def R_69_l1 (curve : List Point) (t8 : List Point) (t9 : Int) : (Unit ⊕ Bool) → Res
 | .inl y => (.exit 0, ⟨[.any, .any, .any, .any, .any, .any, .any, .any], [], [], true⟩)
 | .inr y => (.ret, ⟨[.any, .bool y, .any, .any, .any, .any, .any, .any], [], [], true⟩)
theorem impl_ValidCurve_l1_ex {curve : List Point} {t8 : List Point} {t9 : Int} {sgm_ : Int} {rho_ : Unit ⊕ Bool} (h : whileE (impl_ValidCurve_l1 curve t8 t9) sgm_ = some rho_) : ∃ L0, ∀ L, L0 ≤ L → iter (exec (look t_69) L ir37_b0) ir37_k0 ir37_o0 ir37_r0 L (E_69_l1 curve t8 t9 sgm_) = R_69_l1 curve t8 t9 rho_ := by
 refine loop_ex (E := E_69_l1 curve t8 t9) (R := R_69_l1 curve t8 t9) (fun y => by first | (intro c; cases c) | (rcases y with y | y <;> (intro c; cases c)) | (rcases y with y | y | y <;> (intro c; cases c))) ?_ h
 clear h
 intro t10 o_ h
 dsimp only [impl_ValidCurve_l1] at h
 rcases it_some h with ⟨z2, h⟩ | ⟨z2, h⟩
 ·try simp only [go_sem, n1, n2, n3, n4] at z2
  all_goals
  obtain ⟨z3, h⟩ := ck_some h
  have lz3 := ix_lt z3
  have xz3 := getD_mapD Point_av t8 lz3
  try simp only [go_sem] at lz3
  try simp only [go_sem] at xz3
  try simp only [go_sem, n1, n2, n3, n4, z2] at z3
  all_goals
  obtain ⟨y_4, z4, h⟩ := bd_some h
  have fz4 := Fs_23 z4
  try simp only [go_sem, z2, z3] at fz4
  obtain ⟨z5, h⟩ := ck_some h
  rcases or_split z5 with ⟨gz5, z5⟩ | gz5
  ·try simp only [go_sem, n1, n2, n3, n4, z2, z3] at gz5
   all_goals
   obtain ⟨y_5, hz5⟩ := Option.isSome_iff_exists.1 z5
   have fz5 := Fs_25 hz5
   try simp only [go_sem, n1, n2, n3, n4, z2, z3, gz5] at hz5
   all_goals
   try simp only [go_sem, z2, z3, gz5] at fz5
   obtain ⟨z6, h⟩ := ck_some h
   rcases or_split z6 with ⟨gz6, z6⟩ | gz6
   ·try simp only [go_sem, n1, n2, n3, n4, z2, z3, gz5, hz5] at gz6
    all_goals
    have lz6 := ix_lt z6
    have xz6 := getD_mapD Point_av curve lz6
    try simp only [go_sem] at lz6
    try simp only [go_sem] at xz6
    try simp only [go_sem, n1, n2, n3, n4, z2, z3, gz5, hz5, gz6] at z6
    all_goals
    rcases it_some h with ⟨z7, h⟩ | ⟨z7, h⟩
    ·try simp only [go_sem, n1, n2, n3, n4, z2, z3, gz5, hz5, gz6, z6] at z7
     all_goals
     obtain rfl := so_some h
     refine ⟨0, fun L hL => ?_⟩
     simp only [go_sem, ir37, E_69_l1, R_69_l1, ir37_b0, ir37_k0, ir37_o0, ir37_r0, z2, z3, lz3, xz3, fz4, gz5, hz5, fz5, gz6, z6, lz6, xz6, z7]
    ·try simp only [go_sem, n1, n2, n3, n4, z2, z3, gz5, hz5, gz6, z6] at z7
     all_goals
     obtain rfl := so_some h
     refine ⟨0, fun L hL => ?_⟩
     simp only [go_sem, ir37, E_69_l1, R_69_l1, ir37_b0, ir37_k0, ir37_o0, ir37_r0, z2, z3, lz3, xz3, fz4, gz5, hz5, fz5, gz6, z6, lz6, xz6, z7]
   ·rcases and_f gz6 with gz6a | ⟨gz6a, gz6b⟩
    ·have gz6an := no_f gz6a
     rcases or_t gz6an with gz6ana | ⟨gz6ana, gz6anb⟩
     ·try simp only [go_sem, n1, n2, n3, n4, z2, z3, gz5, hz5] at gz6ana
      all_goals
      (simp_all)
     ·have gz6anan := no_f gz6ana
      have gz6anbn := no_t gz6anb
      try simp only [go_sem, n1, n2, n3, n4, z2, z3, gz5, hz5] at gz6anan
      all_goals
      try simp only [go_sem, n1, n2, n3, n4, z2, z3, gz5, hz5, gz6anan] at gz6anbn
      all_goals
      rcases it_some h with ⟨z7, h⟩ | ⟨z7, h⟩
      ·try simp only [go_sem, n1, n2, n3, n4, z2, z3, gz5, hz5, gz6anan, gz6anbn] at z7
       all_goals
       obtain rfl := so_some h
       refine ⟨0, fun L hL => ?_⟩
       simp only [go_sem, ir37, E_69_l1, R_69_l1, ir37_b0, ir37_k0, ir37_o0, ir37_r0, z2, z3, lz3, xz3, fz4, gz5, hz5, fz5, gz6anan, gz6anbn, z7]
      ·try simp only [go_sem, n1, n2, n3, n4, z2, z3, gz5, hz5, gz6anan, gz6anbn] at z7
       all_goals
       (simp_all)
    ·have gz6an := no_t gz6a
     obtain ⟨gz6ana, gz6anb⟩ := or_f gz6an
     have gz6anan := no_f gz6ana
     have gz6anbn := no_f gz6anb
     try simp only [go_sem, n1, n2, n3, n4, z2, z3, gz5, hz5] at gz6anan
     all_goals
     try simp only [go_sem, n1, n2, n3, n4, z2, z3, gz5, hz5, gz6anan] at gz6anbn
     all_goals
     try simp only [go_sem, n1, n2, n3, n4, z2, z3, gz5, hz5, gz6anan, gz6anbn] at gz6b
     all_goals
     rcases it_some h with ⟨z7, h⟩ | ⟨z7, h⟩
     ·try simp only [go_sem, n1, n2, n3, n4, z2, z3, gz5, hz5, gz6anan, gz6anbn, gz6b] at z7
      all_goals
      (simp_all)
     ·try simp only [go_sem, n1, n2, n3, n4, z2, z3, gz5, hz5, gz6anan, gz6anbn, gz6b] at z7
      all_goals
      obtain rfl := so_some h
      refine ⟨0, fun L hL => ?_⟩
      simp only [go_sem, ir37, E_69_l1, R_69_l1, ir37_b0, ir37_k0, ir37_o0, ir37_r0, z2, z3, lz3, xz3, fz4, gz5, hz5, fz5, gz6anan, gz6anbn, gz6b, z7]
  ·have gz5n := no_f gz5
   have gz5nn := no_t gz5n
   try simp only [go_sem, n1, n2, n3, n4, z2, z3] at gz5nn
   all_goals
   obtain ⟨z6, h⟩ := ck_some h
   rcases it_some h with ⟨z7, h⟩ | ⟨z7, h⟩
   ·try simp only [go_sem, n1, n2, n3, n4, z2, z3, gz5nn] at z7
    all_goals
    obtain rfl := so_some h
    refine ⟨0, fun L hL => ?_⟩
    simp only [go_sem, ir37, E_69_l1, R_69_l1, ir37_b0, ir37_k0, ir37_o0, ir37_r0, z2, z3, lz3, xz3, fz4, gz5nn, z7]
   ·try simp only [go_sem, n1, n2, n3, n4, z2, z3, gz5nn] at z7
    all_goals
    (simp_all)
 ·try simp only [go_sem, n1, n2, n3, n4] at z2
  all_goals
  obtain rfl := so_some h
  refine ⟨0, fun L hL => ?_⟩
  simp only [go_sem, ir37, E_69_l1, R_69_l1, ir37_b0, ir37_k0, ir37_o0, ir37_r0, z2]

theorem Fs_69 {curve : List Point} {y_ : Bool} (h : impl_ValidCurve curve = some y_) : c_69.F [.sl 2 (List.map Point_av curve)] = ⟨true, .bool y_, [.any]⟩ := by
 refine mkF_E rfl ?_
 dsimp only [impl_ValidCurve] at h
 rcases it_some h with ⟨z1, h⟩ | ⟨z1, h⟩
 ·try simp only [go_sem, n1, n2, n3, n4] at z1
  all_goals
  obtain rfl := so_some h
  refine ⟨0, fun L hL => ?_⟩
  simp only [go_sem, ir37, E_69_l1, R_69_l1, ir37_k0, ir37_o0, ir37_r0, z1]
 ·try simp only [go_sem, n1, n2, n3, n4] at z1
  all_goals
  obtain ⟨y_8, z8, h⟩ := bd_some h
  obtain ⟨Lz8, ez8⟩ := impl_ValidCurve_l1_ex z8
  rcases y_8 with y_8a | y_8b
  ·dsimp only at h
   obtain rfl := so_some h
   refine ⟨Lz8, fun L hL => ?_⟩
   have ez8 := ez8 L (by omega)
   try simp only [go_sem, E_69_l1, R_69_l1, ir37_k0, ir37_o0, ir37_r0, z1] at ez8
   simp only [go_sem, ir37, E_69_l1, R_69_l1, ir37_k0, ir37_o0, ir37_r0, z1, ez8]
  ·dsimp only at h
   obtain rfl := so_some h
   refine ⟨Lz8, fun L hL => ?_⟩
   have ez8 := ez8 L (by omega)
   try simp only [go_sem, E_69_l1, R_69_l1, ir37_k0, ir37_o0, ir37_r0, z1] at ez8
   simp only [go_sem, ir37, E_69_l1, R_69_l1, ir37_k0, ir37_o0, ir37_r0, z1, ez8]


def ir38_v : List Nat := [0, 2]
def ir38 : AFn := ⟨1, 2, .seq (.region false [ VO 1 2 (.mov (I6 0))]) (.seq (.region false [ PM 3 0, PO 4 (.len false (.s 0)), VS 1 2 0]) (.ret)), [.t 1]⟩
noncomputable def t_70 : List (Nat × Ctr) := []
noncomputable def c_70 : Ctr := mkF t_70 ir38 [.bor]
theorem s_70 : Sound Tryz.prog 38 c_70 := mkF_sound _ rfl snd_nil (by kernel_rfl : chkFn Tryz.prog 38 ir38 ir38_v = true)
theorem M_70 : c_70.modes = [.bor] := rfl
theorem Fl_70 : c_70.flat = true := rfl
attribute [go_sem] M_70 Fl_70
theorem Fs_70 {list : List Point} {y_ : Int} (h : impl_count_impl_Point list = some y_) : c_70.F [.sl 2 (List.map Point_av list)] = ⟨true, .int .i64 y_, [.any]⟩ := by
 refine mkF_E rfl ?_
 dsimp only [impl_count_impl_Point] at h
 obtain rfl := so_some h
 refine ⟨0, fun L hL => ?_⟩
 simp only [go_sem, ir38]


def ir9_b0 : IR := .seq (.region false [ VO 10 19 (.bin false .lss (.v 9) (.v 8))]) (.seq (.cond (.v 10) (.skip) (.exit 0)) (.seq (.block 1 (.seq (.region false [ PO 20 (.ixAddr 2 (.v 7) (.v 9)), PO 21 (.load true 2 (.s 0)), VO 6 8 (.alloc (.agg [.int .i64 (0), .int .i64 (0)])), ⟨.no, 0, none, .store 2 (.v 6) (.s 0)⟩]) (.seq (.anyo 12 [ SO 0 22 (.mov (.v 3)), SO 1 23 (.fldAddr 0 (.v 6)), SO 2 24 (.load false 1 (.s 1)), SO 3 25 (.flat (.mov (.v 4))), SO 4 26 (.flat (.bin false .sub (.s 2) (.s 3))), SO 5 27 (.call 29 [(.s 0), (.s 4)]), SO 6 28 (.fldAddr 1 (.v 6)), SO 7 29 (.load false 1 (.s 6)),
 SO 8 30 (.flat (.mov (.v 5))), SO 9 31 (.flat (.bin false .sub (.s 7) (.s 8))), SO 10 32 (.flat (.callp 32 [(.s 9)])), SO 11 33 (.call 29 [(.s 5), (.s 10)]), VS 3 4 11] [[0, 1, 2, 3, 4, 8, 5, 6, 7, 9, 10, 11, 12], [0, 1, 2, 3, 4, 8, 6, 5, 7, 9, 10, 11, 12], [0, 1, 2, 3, 4, 8, 6, 7, 5, 9, 10, 11, 12]] .skip) (.anyo 4 [ SO 0 34 (.fldAddr 0 (.v 6)), SO 1 35 (.load false 1 (.s 0)), SO 2 36 (.fldAddr 1 (.v 6)), SO 3 37 (.load false 1 (.s 2)), VS 4 5 1, VS 5 6 3] [] .skip)))) (.region false [ PO 38 (.bin false .add (.v 9) (I6 1)), VS 9 18 0])))
def ir9_k0 : List Bool := [false, false, false, true, true, true, false, true, true, true, false]
def ir9_o0 : List Bool := [false, false, false, true, false, false, false, false, false, false, false]
def ir9_r0 : List Bool := [false, true, true, false, false, false, false, false, false, false, false]
def ir9_v : List Nat := [0, 2, 3, 4, 5, 6, 8, 16, 17, 18, 19]
def ir9 : AFn := ⟨1, 11, .seq (.region false [ VO 1 2 (.newnil 1), VO 2 3 (.mov (I6 0))]) (.seq (.test false [ PM 9 0, PO 10 (.call 37 [(.s 0)]), PO 11 (.un .not (.s 0))] (.s 0) (.seq (.region false [ VO 1 2 (.newnil 1), VO 2 3 (.mov (I6 1))]) (.ret)) (.skip)) (.seq (.region false [ PO 12 (.mkSl 1 (.int .u8 (0)) 1 [(0, (.c (.int .u8 (67))))]), PM 13 0, PO 14 (.call 38 [(.s 0)]), PO 15 (.call 29 [(.s 2), (.s 0)]), VS 3 4 0]) (.seq (.region false [ VO 4 5 (.mov (I6 0)), VO 5 6 (.mov (I6 0))]) (.seq (.seq (.region false [ VO 7 16 (.mov (.v 0)), VO 8 17 (.len false (.v 7)), VO 9 18 (.mov (I6 0))])
 (.block 0 (.loop ir9_k0 ir9_o0 ir9_r0 ir9_b0))) (.seq (.region false [ PM 39 3, PO 40 (.call 33 [(.s 0)]), VS 1 2 0, VO 2 3 (.mov (I6 0))]) (.ret)))))), [.t 1, .t 2]⟩
noncomputable def t_71 : List (Nat × Ctr) := [(37, c_69), (38, c_70), (29, c_42), (32, c_21), (33, c_46)]
theorem lk_71_37 : look t_71 37 = some c_69 := rfl
theorem lk_71_38 : look t_71 38 = some c_70 := rfl
theorem lk_71_29 : look t_71 29 = some c_42 := rfl
theorem lk_71_32 : look t_71 32 = some c_21 := rfl
theorem lk_71_33 : look t_71 33 = some c_46 := rfl
noncomputable def c_71 : Ctr := mkF t_71 ir9 [.bor]
theorem s_71 : Sound Tryz.prog 9 c_71 := mkF_sound _ rfl (snd_cons s_69 (snd_cons s_70 (snd_cons s_42 (snd_cons s_21 (snd_cons s_46 snd_nil))))) (by kernel_rfl : chkFn Tryz.prog 9 ir9 ir9_v = true)
theorem M_71 : c_71.modes = [.bor] := rfl
theorem Fl_71 : c_71.flat = true := rfl
attribute [go_sem] M_71 Fl_71
attribute [go_sem] lk_71_37 lk_71_38 lk_71_29 lk_71_32 lk_71_33
def E_71_l1 (t16 : List Point) (t17 : Int) : ((List UInt8) × Int × Int × Int) → St
 | (b, time, mag, t18) => ⟨[.any, .any, .any, .own 3200000, .int .i64 time, .int .i64 mag, .any, .sl 2 (List.map Point_av t16), .int .i64 t17, .int .i64 t18, .any], [], [(3200000, ⟨1, List.map byteAV b⟩)], true⟩
def R_71_l1 (t16 : List Point) (t17 : Int) (y : (List UInt8)) : Res := (.exit 0, ⟨[.any, .any, .any, .own 3200000, .any, .any, .any, .any, .any, .any, .any], [], [(3200000, ⟨1, List.map byteAV y⟩)], true⟩)
theorem impl_PackCurve_l1_ex {t16 : List Point} {t17 : Int} {sgm_ : (List UInt8) × Int × Int × Int} {rho_ : (List UInt8)} (h : whileE (impl_PackCurve_l1 t16 t17) sgm_ = some rho_) : ∃ L0, ∀ L, L0 ≤ L → iter (exec (look t_71) L ir9_b0) ir9_k0 ir9_o0 ir9_r0 L (E_71_l1 t16 t17 sgm_) = R_71_l1 t16 t17 rho_ := by
 refine loop_ex (E := E_71_l1 t16 t17) (R := R_71_l1 t16 t17) (fun y => by first | (intro c; cases c) | (rcases y with y | y <;> (intro c; cases c)) | (rcases y with y | y | y <;> (intro c; cases c))) ?_ h
 clear h
 rintro ⟨b, time, mag, t18⟩ o_ h
 dsimp only [impl_PackCurve_l1] at h
 rcases it_some h with ⟨z5, h⟩ | ⟨z5, h⟩
 ·try simp only [go_sem, n1, n2, n3, n4] at z5
  all_goals
  obtain ⟨z6, h⟩ := ck_some h
  have lz6 := ix_lt z6
  have xz6 := getD_mapD Point_av t16 lz6
  try simp only [go_sem] at lz6
  try simp only [go_sem] at xz6
  try simp only [go_sem, n1, n2, n3, n4, z5] at z6
  all_goals
  obtain ⟨y_7, z7, h⟩ := bd_some h
  have fz7 := Fs_42 z7
  try simp only [go_sem, z5, z6] at fz7
  obtain ⟨y_8, z8, h⟩ := bd_some h
  have fz8 := Fs_21 z8
  try simp only [go_sem, z5, z6] at fz8
  obtain ⟨y_9, z9, h⟩ := bd_some h
  have fz9 := Fs_42 z9
  try simp only [go_sem, z5, z6] at fz9
  obtain rfl := so_some h
  refine ⟨0, fun L hL => ?_⟩
  simp only [go_sem, ir9, E_71_l1, R_71_l1, ir9_b0, ir9_k0, ir9_o0, ir9_r0, z5, z6, lz6, xz6, fz7, fz8, fz9]
 ·try simp only [go_sem, n1, n2, n3, n4] at z5
  all_goals
  obtain rfl := so_some h
  refine ⟨0, fun L hL => ?_⟩
  simp only [go_sem, ir9, E_71_l1, R_71_l1, ir9_b0, ir9_k0, ir9_o0, ir9_r0, z5]

theorem Fs_71 {curve : List Point} {y_ : (List UInt8) × Int} (h : impl_PackCurve curve = some y_) : c_71.F [.sl 2 (List.map Point_av curve)] = ⟨true, .tup [.fresh 1 (List.map byteAV y_.1), .int .i64 y_.2], [.any]⟩ := by
 refine mkF_E (by simp only [flatA, flatB, flat1, List.all_cons, List.all_nil, Bool.and_self, flatE_map (f := byteAV) (fun _ => rfl)]) ?_
 dsimp only [impl_PackCurve] at h
 obtain ⟨y_1, z1, h⟩ := bd_some h
 have fz1 := Fs_69 z1
 try simp only [go_sem] at fz1
 rcases it_some h with ⟨z2, h⟩ | ⟨z2, h⟩
 ·try simp only [go_sem, n1, n2, n3, n4] at z2
  all_goals
  obtain rfl := so_some h
  refine ⟨0, fun L hL => ?_⟩
  simp only [go_sem, ir9, E_71_l1, R_71_l1, ir9_k0, ir9_o0, ir9_r0, fz1, z2]
 ·try simp only [go_sem, n1, n2, n3, n4] at z2
  all_goals
  obtain ⟨y_3, z3, h⟩ := bd_some h
  have fz3 := Fs_70 z3
  try simp only [go_sem, z2] at fz3
  obtain ⟨y_4, z4, h⟩ := bd_some h
  have fz4 := Fs_42 z4
  try simp only [go_sem, z2] at fz4
  obtain ⟨y_10, z10, h⟩ := bd_some h
  obtain ⟨Lz10, ez10⟩ := impl_PackCurve_l1_ex z10
  obtain ⟨y_11, z11, h⟩ := bd_some h
  have fz11 := Fs_46 z11
  try simp only [go_sem, z2] at fz11
  obtain rfl := so_some h
  refine ⟨Lz10, fun L hL => ?_⟩
  have ez10 := ez10 L (by omega)
  try simp only [go_sem, E_71_l1, R_71_l1, ir9_k0, ir9_o0, ir9_r0, z2] at ez10
  simp only [go_sem, ir9, E_71_l1, R_71_l1, ir9_k0, ir9_o0, ir9_r0, fz1, z2, fz3, fz4, fz11, ez10]


def ir39_b0 : IR := .seq (.test false [ PM 4 2, PM 5 0, PO 6 (.len false (.s 0)), PO 7 (.bin false .lss (.s 2) (.s 0))] (.s 0) (.skip) (.exit 0)) (.seq (.block 1 (.anyo 34 [ SO 0 10 (.mov (.v 0)), SO 1 11 (.mov (.v 2)), SO 2 12 (.ixAddr 2 (.s 0) (.s 1)), SO 3 13 (.fldAddr 0 (.s 2)), SO 4 14 (.load false 1 (.s 3)), SO 5 15 (.callp 80 [(.s 4)]), SO 6 16 (.un .not (.s 5)), SO 7 17 (.mov (.s 6)), ⟨.slot 8, 18, (some ((.s 7), false)), .mov (.v 0)⟩, ⟨.slot 9, 19, (some ((.s 7), false)), .mov (.v 2)⟩, ⟨.slot 10, 20, (some ((.s 7), false)), .ixAddr 2 (.s 8) (.s 9)⟩, ⟨.slot 11, 21, (some ((.s 7),
 false)), .fldAddr 1 (.s 10)⟩, ⟨.slot 12, 22, (some ((.s 7), false)), .load false 1 (.s 11)⟩, ⟨.slot 13, 23, (some ((.s 7), false)), .call 81 [(.s 12)]⟩, ⟨.slot 14, 24, (some ((.s 7), false)), .un .not (.s 13)⟩, SO 15 25 (.pick (.s 7) (.c (.bool true)) (.s 14)), SO 16 26 (.mov (.s 15)), ⟨.slot 17, 27, (some ((.s 16), false)), .mov (.v 2)⟩, ⟨.slot 18, 28, (some ((.s 16), false)), .bin false .gtr (.s 17) (I6 0)⟩, ⟨.slot 19, 29, (some ((.s 16), false)), .mov (.s 18)⟩, ⟨.slot 20, 30, (some ((.s 19), true)), .mov (.v 0)⟩, ⟨.slot 21, 31, (some ((.s 19), true)), .mov (.v 2)⟩, ⟨.slot 22, 32, (some ((.s
 19), true)), .bin false .sub (.s 21) (I6 1)⟩, ⟨.slot 23, 33, (some ((.s 19), true)), .ixAddr 2 (.s 20) (.s 22)⟩, ⟨.slot 24, 34, (some ((.s 19), true)), .fldAddr 0 (.s 23)⟩, ⟨.slot 25, 35, (some ((.s 19), true)), .load false 1 (.s 24)⟩, ⟨.slot 26, 36, (some ((.s 19), true)), .mov (.v 0)⟩, ⟨.slot 27, 37, (some ((.s 19), true)), .mov (.v 2)⟩, ⟨.slot 28, 38, (some ((.s 19), true)), .ixAddr 2 (.s 26) (.s 27)⟩, ⟨.slot 29, 39, (some ((.s 19), true)), .fldAddr 0 (.s 28)⟩, ⟨.slot 30, 40, (some ((.s 19), true)), .load false 1 (.s 29)⟩, ⟨.slot 31, 41, (some ((.s 19), true)), .bin false .geq (.s 25) (.s
 30)⟩, ⟨.slot 32, 42, (some ((.s 16), false)), .pick (.s 19) (.s 31) (.c (.bool false))⟩, SO 33 43 (.pick (.s 16) (.c (.bool true)) (.s 32))] [] (.cond (.s 33) (.seq (.region false [ VO 1 2 (.mov (.c (.bool false)))]) (.ret)) (.skip)))) (.region false [ PM 8 2, PO 9 (.bin false .add (.s 0) (I6 1)), VS 2 3 0]))
def ir39_k0 : List Bool := [true, false, true]
def ir39_o0 : List Bool := [true, false, false]
def ir39_r0 : List Bool := [false, true, false]
def ir39_v : List Nat := [0, 2, 3]
def ir39 : AFn := ⟨1, 3, .seq (.region false [ VO 1 2 (.mov (.c (.bool false)))]) (.seq (.seq (.region false [ VO 2 3 (.mov (I6 0))]) (.block 0 (.loop ir39_k0 ir39_o0 ir39_r0 ir39_b0))) (.seq (.region false [ PM 44 0, PO 45 (.len false (.s 0)), PO 46 (.bin false .leq (.s 0) (I6 100)), VS 1 2 0]) (.ret))), [.t 1]⟩
noncomputable def t_72 : List (Nat × Ctr) := [(80, c_49), (81, c_53)]
theorem lk_72_80 : look t_72 80 = some c_49 := rfl
theorem lk_72_81 : look t_72 81 = some c_53 := rfl
noncomputable def c_72 : Ctr := mkF t_72 ir39 [.bor]
theorem s_72 : Sound Tryz.prog 39 c_72 := mkF_sound _ rfl (snd_cons s_49 (snd_cons s_53 snd_nil)) (by kernel_rfl : chkFn Tryz.prog 39 ir39 ir39_v = true)
theorem M_72 : c_72.modes = [.bor] := rfl
theorem Fl_72 : c_72.flat = true := rfl
attribute [go_sem] M_72 Fl_72
attribute [go_sem] lk_72_80 lk_72_81
def E_72_l1 (curve : List Point) : Int → St
 | i => ⟨[.sl 2 (List.map Point_av curve), .any, .int .i64 i], [], [], true⟩
def R_72_l1 (curve : List Point) : (Unit ⊕ Bool) → Res
 | .inl y => (.exit 0, ⟨[.sl 2 (List.map Point_av curve), .any, .any], [], [], true⟩)
 | .inr y => (.ret, ⟨[.any, .bool y, .any], [], [], true⟩)
theorem spec_l08Ok_l1_ex {curve : List Point} {sgm_ : Int} {rho_ : Unit ⊕ Bool} (h : whileE (spec_l08Ok_l1 curve) sgm_ = some rho_) : ∃ L0, ∀ L, L0 ≤ L → iter (exec (look t_72) L ir39_b0) ir39_k0 ir39_o0 ir39_r0 L (E_72_l1 curve sgm_) = R_72_l1 curve rho_ := by
 refine loop_ex (E := E_72_l1 curve) (R := R_72_l1 curve) (fun y => by first | (intro c; cases c) | (rcases y with y | y <;> (intro c; cases c)) | (rcases y with y | y | y <;> (intro c; cases c))) ?_ h
 clear h
 intro i o_ h
 dsimp only [spec_l08Ok_l1] at h
 rcases it_some h with ⟨z1, h⟩ | ⟨z1, h⟩
 ·try simp only [go_sem, n1, n2, n3, n4] at z1
  all_goals
  obtain ⟨z2, h⟩ := ck_some h
  have lz2 := ix_lt z2
  have xz2 := getD_mapD Point_av curve lz2
  try simp only [go_sem] at lz2
  try simp only [go_sem] at xz2
  try simp only [go_sem, n1, n2, n3, n4, z1] at z2
  all_goals
  obtain ⟨y_3, z3, h⟩ := bd_some h
  have fz3 := Fs_49 z3
  try simp only [go_sem, z1, z2] at fz3
  obtain ⟨z4, h⟩ := ck_some h
  rcases or_split z4 with ⟨gz4, z4⟩ | gz4
  ·try simp only [go_sem, n1, n2, n3, n4, z1, z2] at gz4
   all_goals
   obtain ⟨y_4, hz4⟩ := Option.isSome_iff_exists.1 z4
   have fz4 := Fs_53 hz4
   try simp only [go_sem, n1, n2, n3, n4, z1, z2, gz4] at hz4
   all_goals
   try simp only [go_sem, z1, z2, gz4] at fz4
   obtain ⟨z5, h⟩ := ck_some h
   rcases or_split z5 with ⟨gz5, z5⟩ | gz5
   ·try simp only [go_sem, n1, n2, n3, n4, z1, z2, gz4, hz4] at gz5
    all_goals
    have lz5 := ix_lt z5
    have xz5 := getD_mapD Point_av curve lz5
    try simp only [go_sem] at lz5
    try simp only [go_sem] at xz5
    try simp only [go_sem, n1, n2, n3, n4, z1, z2, gz4, hz4, gz5] at z5
    all_goals
    rcases it_some h with ⟨z6, h⟩ | ⟨z6, h⟩
    ·try simp only [go_sem, n1, n2, n3, n4, z1, z2, gz4, hz4, gz5, z5] at z6
     all_goals
     obtain rfl := so_some h
     refine ⟨0, fun L hL => ?_⟩
     simp only [go_sem, ir39, E_72_l1, R_72_l1, ir39_b0, ir39_k0, ir39_o0, ir39_r0, z1, z2, lz2, xz2, fz3, gz4, hz4, fz4, gz5, z5, lz5, xz5, z6]
    ·try simp only [go_sem, n1, n2, n3, n4, z1, z2, gz4, hz4, gz5, z5] at z6
     all_goals
     obtain rfl := so_some h
     refine ⟨0, fun L hL => ?_⟩
     simp only [go_sem, ir39, E_72_l1, R_72_l1, ir39_b0, ir39_k0, ir39_o0, ir39_r0, z1, z2, lz2, xz2, fz3, gz4, hz4, fz4, gz5, z5, lz5, xz5, z6]
   ·rcases and_f gz5 with gz5a | ⟨gz5a, gz5b⟩
    ·have gz5an := no_f gz5a
     rcases or_t gz5an with gz5ana | ⟨gz5ana, gz5anb⟩
     ·try simp only [go_sem, n1, n2, n3, n4, z1, z2, gz4, hz4] at gz5ana
      all_goals
      (simp_all)
     ·have gz5anan := no_f gz5ana
      have gz5anbn := no_t gz5anb
      try simp only [go_sem, n1, n2, n3, n4, z1, z2, gz4, hz4] at gz5anan
      all_goals
      try simp only [go_sem, n1, n2, n3, n4, z1, z2, gz4, hz4, gz5anan] at gz5anbn
      all_goals
      rcases it_some h with ⟨z6, h⟩ | ⟨z6, h⟩
      ·try simp only [go_sem, n1, n2, n3, n4, z1, z2, gz4, hz4, gz5anan, gz5anbn] at z6
       all_goals
       obtain rfl := so_some h
       refine ⟨0, fun L hL => ?_⟩
       simp only [go_sem, ir39, E_72_l1, R_72_l1, ir39_b0, ir39_k0, ir39_o0, ir39_r0, z1, z2, lz2, xz2, fz3, gz4, hz4, fz4, gz5anan, gz5anbn, z6]
      ·try simp only [go_sem, n1, n2, n3, n4, z1, z2, gz4, hz4, gz5anan, gz5anbn] at z6
       all_goals
       (simp_all)
    ·have gz5an := no_t gz5a
     obtain ⟨gz5ana, gz5anb⟩ := or_f gz5an
     have gz5anan := no_f gz5ana
     have gz5anbn := no_f gz5anb
     try simp only [go_sem, n1, n2, n3, n4, z1, z2, gz4, hz4] at gz5anan
     all_goals
     try simp only [go_sem, n1, n2, n3, n4, z1, z2, gz4, hz4, gz5anan] at gz5anbn
     all_goals
     try simp only [go_sem, n1, n2, n3, n4, z1, z2, gz4, hz4, gz5anan, gz5anbn] at gz5b
     all_goals
     rcases it_some h with ⟨z6, h⟩ | ⟨z6, h⟩
     ·try simp only [go_sem, n1, n2, n3, n4, z1, z2, gz4, hz4, gz5anan, gz5anbn, gz5b] at z6
      all_goals
      (simp_all)
     ·try simp only [go_sem, n1, n2, n3, n4, z1, z2, gz4, hz4, gz5anan, gz5anbn, gz5b] at z6
      all_goals
      obtain rfl := so_some h
      refine ⟨0, fun L hL => ?_⟩
      simp only [go_sem, ir39, E_72_l1, R_72_l1, ir39_b0, ir39_k0, ir39_o0, ir39_r0, z1, z2, lz2, xz2, fz3, gz4, hz4, fz4, gz5anan, gz5anbn, gz5b, z6]
  ·have gz4n := no_f gz4
   have gz4nn := no_t gz4n
   try simp only [go_sem, n1, n2, n3, n4, z1, z2] at gz4nn
   all_goals
   obtain ⟨z5, h⟩ := ck_some h
   rcases it_some h with ⟨z6, h⟩ | ⟨z6, h⟩
   ·try simp only [go_sem, n1, n2, n3, n4, z1, z2, gz4nn] at z6
    all_goals
    obtain rfl := so_some h
    refine ⟨0, fun L hL => ?_⟩
    simp only [go_sem, ir39, E_72_l1, R_72_l1, ir39_b0, ir39_k0, ir39_o0, ir39_r0, z1, z2, lz2, xz2, fz3, gz4nn, z6]
   ·try simp only [go_sem, n1, n2, n3, n4, z1, z2, gz4nn] at z6
    all_goals
    (simp_all)
 ·try simp only [go_sem, n1, n2, n3, n4] at z1
  all_goals
  obtain rfl := so_some h
  refine ⟨0, fun L hL => ?_⟩
  simp only [go_sem, ir39, E_72_l1, R_72_l1, ir39_b0, ir39_k0, ir39_o0, ir39_r0, z1]

theorem Fs_72 {curve : List Point} {y_ : Bool} (h : spec_l08Ok curve = some y_) : c_72.F [.sl 2 (List.map Point_av curve)] = ⟨true, .bool y_, [.any]⟩ := by
 refine mkF_E rfl ?_
 dsimp only [spec_l08Ok] at h
 obtain ⟨y_7, z7, h⟩ := bd_some h
 obtain ⟨Lz7, ez7⟩ := spec_l08Ok_l1_ex z7
 rcases y_7 with y_7a | y_7b
 ·dsimp only at h
  obtain rfl := so_some h
  refine ⟨Lz7, fun L hL => ?_⟩
  have ez7 := ez7 L (by omega)
  try simp only [go_sem, E_72_l1, R_72_l1, ir39_k0, ir39_o0, ir39_r0] at ez7
  simp only [go_sem, ir39, E_72_l1, R_72_l1, ir39_k0, ir39_o0, ir39_r0, ez7]
 ·dsimp only at h
  obtain rfl := so_some h
  refine ⟨Lz7, fun L hL => ?_⟩
  have ez7 := ez7 L (by omega)
  try simp only [go_sem, E_72_l1, R_72_l1, ir39_k0, ir39_o0, ir39_r0] at ez7
  simp only [go_sem, ir39, E_72_l1, R_72_l1, ir39_k0, ir39_o0, ir39_r0, ez7]


def ir40_b0 : IR := .seq (.test false [ PM 13 5, PM 14 0, PO 15 (.len false (.s 0)), PO 16 (.bin false .lss (.s 2) (.s 0))] (.s 0) (.skip) (.exit 0)) (.seq (.block 1 (.seq (.region false [ PM 19 2, PM 20 0, PM 21 5, PO 22 (.ixAddr 2 (.s 1) (.s 0)), PO 23 (.fldAddr 0 (.s 0)), PO 24 (.load false 1 (.s 0)), PM 25 3, PO 26 (.bin false .sub (.s 1) (.s 0)), PO 27 (.call 73 [(.s 0)]), PO 28 (.app 1 1 (.int .u8 (0)) (.s 8) (.s 0)), VS 2 3 0]) (.seq (.region false [ PM 29 2, PM 30 0, PM 31 5, PO 32 (.ixAddr 2 (.s 1) (.s 0)), PO 33 (.fldAddr 1 (.s 0)), PO 34 (.load false 1 (.s 0)), PM 35 4, PO 36 (.bin
 false .sub (.s 1) (.s 0)), PO 37 (.call 75 [(.s 0)]), PO 38 (.call 73 [(.s 0)]), PO 39 (.app 1 1 (.int .u8 (0)) (.s 9) (.s 0)), VS 2 3 0]) (.seq (.region false [ PM 40 0, PM 41 5, PO 42 (.ixAddr 2 (.s 1) (.s 0)), PO 43 (.fldAddr 0 (.s 0)), PO 44 (.load false 1 (.s 0)), VS 3 4 0]) (.region false [ PM 45 0, PM 46 5, PO 47 (.ixAddr 2 (.s 1) (.s 0)), PO 48 (.fldAddr 1 (.s 0)), PO 49 (.load false 1 (.s 0)), VS 4 5 0]))))) (.region false [ PM 17 5, PO 18 (.bin false .add (.s 0) (I6 1)), VS 5 6 0]))
def ir40_k0 : List Bool := [true, false, true, true, true, true]
def ir40_o0 : List Bool := [false, false, true, false, false, false]
def ir40_r0 : List Bool := [false, true, false, false, false, false]
def ir40_v : List Nat := [0, 2, 3, 4, 5, 6]
def ir40 : AFn := ⟨1, 6, .seq (.region false [ VO 1 2 (.newnil 1)]) (.seq (.region false [ PO 7 (.mkSl 1 (.int .u8 (0)) 1 [(0, (.c (.int .u8 (67))))]), VS 2 3 0]) (.seq (.region false [ PM 8 2, PM 9 0, PO 10 (.len false (.s 0)), PO 11 (.call 73 [(.s 0)]), PO 12 (.app 1 1 (.int .u8 (0)) (.s 3) (.s 0)), VS 2 3 0]) (.seq (.region false [ VO 3 4 (.mov (I6 0))]) (.seq (.region false [ VO 4 5 (.mov (I6 0))]) (.seq (.seq (.region false [ VO 5 6 (.mov (I6 0))]) (.block 0 (.loop ir40_k0 ir40_o0 ir40_r0 ir40_b0))) (.seq (.region false [ PM 50 2, PO 51 (.call 59 [(.s 0)]), VS 1 2 0]) (.ret))))))), [.t 1]⟩
noncomputable def t_73 : List (Nat × Ctr) := [(73, c_58), (75, c_61), (59, c_63)]
theorem lk_73_73 : look t_73 73 = some c_58 := rfl
theorem lk_73_75 : look t_73 75 = some c_61 := rfl
theorem lk_73_59 : look t_73 59 = some c_63 := rfl
noncomputable def c_73 : Ctr := mkF t_73 ir40 [.bor]
theorem s_73 : Sound Tryz.prog 40 c_73 := mkF_sound _ rfl (snd_cons s_58 (snd_cons s_61 (snd_cons s_63 snd_nil))) (by kernel_rfl : chkFn Tryz.prog 40 ir40 ir40_v = true)
theorem M_73 : c_73.modes = [.bor] := rfl
theorem Fl_73 : c_73.flat = true := rfl
attribute [go_sem] M_73 Fl_73
attribute [go_sem] lk_73_73 lk_73_75 lk_73_59
def E_73_l1 (curve : List Point) : ((List UInt8) × Int × Int × Int) → St
 | (out, time, mag, i) => ⟨[.sl 2 (List.map Point_av curve), .any, .own 3200000, .int .i64 time, .int .i64 mag, .int .i64 i], [], [(3200000, ⟨1, List.map byteAV out⟩)], true⟩
def R_73_l1 (curve : List Point) (y : (List UInt8)) : Res := (.exit 0, ⟨[.any, .any, .own 3200000, .any, .any, .any], [], [(3200000, ⟨1, List.map byteAV y⟩)], true⟩)
theorem spec_l25Curve_l1_ex {curve : List Point} {sgm_ : (List UInt8) × Int × Int × Int} {rho_ : (List UInt8)} (h : whileE (spec_l25Curve_l1 curve) sgm_ = some rho_) : ∃ L0, ∀ L, L0 ≤ L → iter (exec (look t_73) L ir40_b0) ir40_k0 ir40_o0 ir40_r0 L (E_73_l1 curve sgm_) = R_73_l1 curve rho_ := by
 refine loop_ex (E := E_73_l1 curve) (R := R_73_l1 curve) (fun y => by first | (intro c; cases c) | (rcases y with y | y <;> (intro c; cases c)) | (rcases y with y | y | y <;> (intro c; cases c))) ?_ h
 clear h
 rintro ⟨out, time, mag, i⟩ o_ h
 dsimp only [spec_l25Curve_l1] at h
 rcases it_some h with ⟨z3, h⟩ | ⟨z3, h⟩
 ·try simp only [go_sem, n1, n2, n3, n4] at z3
  all_goals
  obtain ⟨z4, h⟩ := ck_some h
  have lz4 := ix_lt z4
  have xz4 := getD_mapD Point_av curve lz4
  try simp only [go_sem] at lz4
  try simp only [go_sem] at xz4
  try simp only [go_sem, n1, n2, n3, n4, z3] at z4
  all_goals
  obtain ⟨y_5, z5, h⟩ := bd_some h
  have fz5 := Fs_58 z5
  try simp only [go_sem, z3, z4] at fz5
  obtain ⟨z6, h⟩ := ck_some h
  try simp only [go_sem, n1, n2, n3, n4, z3, z4] at z6
  all_goals
  obtain ⟨y_7, z7, h⟩ := bd_some h
  have fz7 := Fs_61 z7
  try simp only [go_sem, z3, z4, z6] at fz7
  obtain ⟨y_8, z8, h⟩ := bd_some h
  have fz8 := Fs_58 z8
  try simp only [go_sem, z3, z4, z6] at fz8
  obtain ⟨z9, h⟩ := ck_some h
  try simp only [go_sem, n1, n2, n3, n4, z3, z4, z6] at z9
  all_goals
  obtain rfl := so_some h
  refine ⟨0, fun L hL => ?_⟩
  simp only [go_sem, ir40, E_73_l1, R_73_l1, ir40_b0, ir40_k0, ir40_o0, ir40_r0, z3, z4, lz4, xz4, fz5, z6, fz7, fz8, z9]
 ·try simp only [go_sem, n1, n2, n3, n4] at z3
  all_goals
  obtain rfl := so_some h
  refine ⟨0, fun L hL => ?_⟩
  simp only [go_sem, ir40, E_73_l1, R_73_l1, ir40_b0, ir40_k0, ir40_o0, ir40_r0, z3]

theorem Fs_73 {curve : List Point} {y_ : (List UInt8)} (h : spec_l25Curve curve = some y_) : c_73.F [.sl 2 (List.map Point_av curve)] = ⟨true, .fresh 1 (List.map byteAV y_), [.any]⟩ := by
 refine mkF_E (by simp only [flatA, flatB, flat1, List.all_cons, List.all_nil, Bool.and_self, flatE_map (f := byteAV) (fun _ => rfl)]) ?_
 dsimp only [spec_l25Curve] at h
 obtain ⟨y_1, z1, h⟩ := bd_some h
 have fz1 := Fs_58 z1
 try simp only [go_sem] at fz1
 obtain ⟨z2, h⟩ := ck_some h
 try simp only [go_sem, n1, n2, n3, n4] at z2
 all_goals
 obtain ⟨y_10, z10, h⟩ := bd_some h
 obtain ⟨Lz10, ez10⟩ := spec_l25Curve_l1_ex z10
 obtain ⟨y_11, z11, h⟩ := bd_some h
 have fz11 := Fs_63 z11
 try simp only [go_sem, z2] at fz11
 obtain rfl := so_some h
 refine ⟨Lz10, fun L hL => ?_⟩
 have ez10 := ez10 L (by omega)
 try simp only [go_sem, E_73_l1, R_73_l1, ir40_k0, ir40_o0, ir40_r0, z2] at ez10
 simp only [go_sem, ir40, E_73_l1, R_73_l1, ir40_k0, ir40_o0, ir40_r0, fz1, z2, fz11, ez10]


def ir10_v : List Nat := [0, 2, 3]
def ir10 : AFn := ⟨1, 3, .seq (.region false [ VO 1 2 (.newnil 1), VO 2 3 (.mov (I6 0))]) (.seq (.test false [ PM 4 0, PO 5 (.call 39 [(.s 0)]), PO 6 (.un .not (.s 0))] (.s 0) (.seq (.region false [ VO 1 2 (.newnil 1), VO 2 3 (.mov (I6 1))]) (.ret)) (.skip)) (.seq (.region false [ PM 7 0, PO 8 (.call 40 [(.s 0)]), VS 1 2 0, VO 2 3 (.mov (I6 0))]) (.ret))), [.t 1, .t 2]⟩
noncomputable def t_74 : List (Nat × Ctr) := [(39, c_72), (40, c_73)]
theorem lk_74_39 : look t_74 39 = some c_72 := rfl
theorem lk_74_40 : look t_74 40 = some c_73 := rfl
noncomputable def c_74 : Ctr := mkF t_74 ir10 [.bor]
theorem s_74 : Sound Tryz.prog 10 c_74 := mkF_sound _ rfl (snd_cons s_72 (snd_cons s_73 snd_nil)) (by kernel_rfl : chkFn Tryz.prog 10 ir10 ir10_v = true)
theorem M_74 : c_74.modes = [.bor] := rfl
theorem Fl_74 : c_74.flat = true := rfl
attribute [go_sem] M_74 Fl_74
attribute [go_sem] lk_74_39 lk_74_40
theorem Fs_74 {curve : List Point} {y_ : (List UInt8) × Int} (h : spec_PackCurve curve = some y_) : c_74.F [.sl 2 (List.map Point_av curve)] = ⟨true, .tup [.fresh 1 (List.map byteAV y_.1), .int .i64 y_.2], [.any]⟩ := by
 refine mkF_E (by simp only [flatA, flatB, flat1, List.all_cons, List.all_nil, Bool.and_self, flatE_map (f := byteAV) (fun _ => rfl)]) ?_
 dsimp only [spec_PackCurve] at h
 obtain ⟨y_1, z1, h⟩ := bd_some h
 have fz1 := Fs_72 z1
 try simp only [go_sem] at fz1
 rcases it_some h with ⟨z2, h⟩ | ⟨z2, h⟩
 ·try simp only [go_sem, n1, n2, n3, n4] at z2
  all_goals
  obtain rfl := so_some h
  refine ⟨0, fun L hL => ?_⟩
  simp only [go_sem, ir10, fz1, z2]
 ·try simp only [go_sem, n1, n2, n3, n4] at z2
  all_goals
  obtain ⟨y_3, z3, h⟩ := bd_some h
  have fz3 := Fs_73 z3
  try simp only [go_sem, z2] at fz3
  obtain rfl := so_some h
  refine ⟨0, fun L hL => ?_⟩
  simp only [go_sem, ir10, fz1, z2, fz3]


def ir43_v : List Nat := [0, 1, 4, 5, 6, 16]
def ir43 : AFn := ⟨2, 6, .seq (.region false [ VO 2 4 (.newnil 1)]) (.seq (.region false [ PO 7 (.mkSl 1 (.int .u8 (0)) 0 []), PM 8 1, PO 9 (.app 1 1 (.int .u8 (0)) (.s 1) (.s 0)), VS 3 5 0]) (.seq (.region false [ PM 10 3, PO 11 (.len false (.s 0)), VS 4 6 0]) (.seq (.test false [ PM 12 4, PO 13 (.bin false .lss (.s 0) (I6 3))] (.s 0) (.seq (.region false [ PM 14 3, VS 2 4 0]) (.ret)) (.skip)) (.seq (.seq (.region false [ PM 15 0, VO 5 16 (.call 58 [(.s 0), (I6 6)])]) (.block 0 (.test false [ PO 18 (.bin false .eql (.v 5) (I6 0)), PO 17 (.mov (.s 0))] (.s 0) (.anyo 12 [ SO 0 19 (.mov (.v 3)),
 SO 1 20 (.mov (.v 0)), SO 2 21 (.flat (.mov (.v 4))), SO 3 22 (.call 58 [(.s 1), (.s 2)]), SO 4 23 (.ixAddr 1 (.s 0) (.s 3)), SO 5 24 (.load false 1 (.s 4)), SO 6 25 (.mov (.v 0)), SO 7 26 (.call 58 [(.s 6), (I6 8)]), SO 8 27 (.flat (.conv .u64 (.s 7))), SO 9 28 (.flat (.bin false .shl (.c (.int .u8 (1))) (.s 8))), SO 10 29 (.flat (.bin false .xor (.s 5) (.s 9))), SO 11 30 (.ixAddr 1 (.s 0) (.s 3)), ⟨.no, 0, none, .store 1 (.s 11) (.s 10)⟩] [[1, 2, 0, 3, 6, 4, 5, 7, 8, 9, 10, 11, 12], [1, 2, 0, 3, 6, 4, 7, 5, 8, 9, 10, 11, 12], [1, 2, 0, 3, 6, 7, 4, 5, 8, 9, 10, 11, 12], [1, 2, 0, 6, 3, 4, 5,
 7, 8, 9, 10, 11, 12], [1, 2, 0, 6, 3, 4, 7, 5, 8, 9, 10, 11, 12], [1, 2, 0, 6, 3, 7, 4, 5, 8, 9, 10, 11, 12], [1, 2, 3, 6, 0, 4, 5, 7, 8, 9, 10, 11, 12], [1, 2, 3, 6, 0, 4, 7, 5, 8, 9, 10, 11, 12], [1, 2, 3, 6, 0, 7, 4, 5, 8, 9, 10, 11, 12], [1, 2, 3, 6, 7, 0, 4, 5, 8, 9, 10, 11, 12], [1, 2, 6, 0, 3, 4, 5, 7, 8, 9, 10, 11, 12], [1, 2, 6, 0, 3, 4, 7, 5, 8, 9, 10, 11, 12], [1, 2, 6, 0, 3, 7, 4, 5, 8, 9, 10, 11, 12], [1, 2, 6, 3, 0, 4, 5, 7, 8, 9, 10, 11, 12], [1, 2, 6, 3, 0, 4, 7, 5, 8, 9, 10, 11, 12], [1, 2, 6, 3, 0, 7, 4, 5, 8, 9, 10, 11, 12], [1, 2, 6, 3, 7, 0, 4, 5, 8, 9, 10, 11, 12]] .skip)
 (.test false [ PO 32 (.bin false .eql (.v 5) (I6 1)), PO 31 (.mov (.s 0))] (.s 0) (.region false [ PM 33 3, PM 34 0, PM 35 4, PO 36 (.call 58 [(.s 1), (.s 0)]), PO 37 (.trunc 1 (.s 3) (.s 0)), VS 3 5 0]) (.test false [ PO 39 (.bin false .eql (.v 5) (I6 2)), PO 38 (.mov (.s 0))] (.s 0) (.region false [ PM 40 3, PM 41 0, PO 42 (.call 58 [(.s 0), (I6 256)]), PO 43 (.conv .u8 (.s 0)), PO 44 (.mkSl 1 (.int .u8 (0)) 1 [(0, (.s 0))]), PO 45 (.app 1 1 (.int .u8 (0)) (.s 4) (.s 0)), VS 3 5 0]) (.test false [ PO 47 (.bin false .eql (.v 5) (I6 3)), PO 46 (.mov (.s 0))] (.s 0) (.seq (.region false [ PM 48
 3, PM 49 4, PO 50 (.bin false .sub (.s 0) (I6 2)), PO 51 (.trunc 1 (.s 2) (.s 0)), VS 3 5 0]) (.seq (.anyo 13 [ SO 0 52 (.mov (.v 3)), SO 1 53 (.mov (.v 0)), SO 2 54 (.flat (.mov (.v 4))), SO 3 55 (.flat (.bin false .sub (.s 2) (I6 2))), SO 4 56 (.call 58 [(.s 1), (.s 3)]), SO 5 57 (.ixAddr 1 (.s 0) (.s 4)), SO 6 58 (.load false 1 (.s 5)), SO 7 59 (.mov (.v 0)), SO 8 60 (.call 58 [(.s 7), (I6 8)]), SO 9 61 (.flat (.conv .u64 (.s 8))), SO 10 62 (.flat (.bin false .shl (.c (.int .u8 (1))) (.s 9))), SO 11 63 (.flat (.bin false .xor (.s 6) (.s 10))), SO 12 64 (.ixAddr 1 (.s 0) (.s 4)), ⟨.no, 0,
 none, .store 1 (.s 12) (.s 11)⟩] [[1, 2, 3, 0, 4, 7, 5, 6, 8, 9, 10, 11, 12, 13], [1, 2, 3, 0, 4, 7, 5, 8, 6, 9, 10, 11, 12, 13], [1, 2, 3, 0, 4, 7, 8, 5, 6, 9, 10, 11, 12, 13], [1, 2, 3, 0, 7, 4, 5, 6, 8, 9, 10, 11, 12, 13], [1, 2, 3, 0, 7, 4, 5, 8, 6, 9, 10, 11, 12, 13], [1, 2, 3, 0, 7, 4, 8, 5, 6, 9, 10, 11, 12, 13], [1, 2, 3, 4, 7, 0, 5, 6, 8, 9, 10, 11, 12, 13], [1, 2, 3, 4, 7, 0, 5, 8, 6, 9, 10, 11, 12, 13], [1, 2, 3, 4, 7, 0, 8, 5, 6, 9, 10, 11, 12, 13], [1, 2, 3, 4, 7, 8, 0, 5, 6, 9, 10, 11, 12, 13], [1, 2, 3, 7, 0, 4, 5, 6, 8, 9, 10, 11, 12, 13], [1, 2, 3, 7, 0, 4, 5, 8, 6, 9, 10, 11,
 12, 13], [1, 2, 3, 7, 0, 4, 8, 5, 6, 9, 10, 11, 12, 13], [1, 2, 3, 7, 4, 0, 5, 6, 8, 9, 10, 11, 12, 13], [1, 2, 3, 7, 4, 0, 5, 8, 6, 9, 10, 11, 12, 13], [1, 2, 3, 7, 4, 0, 8, 5, 6, 9, 10, 11, 12, 13], [1, 2, 3, 7, 4, 8, 0, 5, 6, 9, 10, 11, 12, 13]] .skip) (.region false [ PM 65 3, PO 66 (.call 59 [(.s 0)]), VS 3 5 0]))) (.test false [ PO 68 (.bin false .eql (.v 5) (I6 4)), PO 67 (.mov (.s 0))] (.s 0) (.seq (.anyo 9 [ SO 0 69 (.mov (.v 3)), SO 1 70 (.flat (.mov (.v 4))), SO 2 71 (.flat (.bin false .sub (.s 1) (I6 2))), SO 3 72 (.trunc 1 (.s 0) (.s 2)), SO 4 73 (.mov (.v 0)), SO 5 74 (.call 58
 [(.s 4), (I6 256)]), SO 6 75 (.flat (.conv .u8 (.s 5))), SO 7 76 (.pur (.mkSl 1 (.int .u8 (0)) 1 [(0, (.s 6))])), SO 8 77 (.app 1 1 (.int .u8 (0)) (.s 3) (.s 7)), VS 3 5 8] [[1, 2, 0, 3, 4, 5, 6, 7, 8, 9], [1, 2, 0, 4, 3, 5, 6, 7, 8, 9], [1, 2, 0, 4, 5, 6, 3, 7, 8, 9], [1, 2, 0, 4, 5, 6, 7, 3, 8, 9], [1, 2, 4, 0, 3, 5, 6, 7, 8, 9], [1, 2, 4, 0, 5, 6, 3, 7, 8, 9], [1, 2, 4, 0, 5, 6, 7, 3, 8, 9], [1, 2, 4, 5, 0, 6, 3, 7, 8, 9], [1, 2, 4, 5, 0, 6, 7, 3, 8, 9]] .skip) (.region false [ PM 78 3, PO 79 (.call 59 [(.s 0)]), VS 3 5 0])) (.skip)))))))) (.seq (.region false [ PM 80 3, VS 2 4 0])
 (.ret)))))), [.t 2]⟩
noncomputable def t_75 : List (Nat × Ctr) := [(58, c_3), (59, c_63)]
theorem lk_75_58 : look t_75 58 = some c_3 := rfl
theorem lk_75_59 : look t_75 59 = some c_63 := rfl
noncomputable def c_75 : Ctr := mkN t_75 ir43 [.io, .bor]
theorem s_75 : Sound Tryz.prog 43 c_75 := mkN_sound _ (snd_cons s_3 (snd_cons s_63 snd_nil)) (by kernel_rfl : chkFn Tryz.prog 43 ir43 ir43_v = true)
theorem M_75 : c_75.modes = [.io, .bor] := rfl
theorem Fl_75 : c_75.flat = false := rfl
attribute [go_sem] M_75 Fl_75
attribute [go_sem] lk_75_58 lk_75_59
theorem Fs_75 {s_ : L00Src} {b : List UInt8} {y_ : (List UInt8) × L00Src} (h : spec_l25Spoil s_ b = some y_) : c_75.F [.mem 3 [L00Src_av s_] 0, .sl 1 (List.map byteAV b)] = ⟨true, .fresh 1 (List.map byteAV y_.1), [.mem 3 [L00Src_av y_.2] 0, .any]⟩ := by
 refine mkN_E ?_
 dsimp only [spec_l25Spoil] at h
 obtain ⟨z1, h⟩ := ck_some h
 try simp only [go_sem, n1, n2, n3, n4] at z1
 all_goals
 rcases it_some h with ⟨z2, h⟩ | ⟨z2, h⟩
 ·try simp only [go_sem, n1, n2, n3, n4, z1] at z2
  all_goals
  obtain rfl := so_some h
  refine ⟨0, fun L hL => ?_⟩
  simp only [go_sem, ir43, z1, z2]
 ·try simp only [go_sem, n1, n2, n3, n4, z1] at z2
  all_goals
  obtain ⟨y_3, z3, h⟩ := bd_some h
  have fz3 := Fs_3 z3
  try simp only [go_sem, z1, z2] at fz3
  rcases it_some h with ⟨z4, h⟩ | ⟨z4, h⟩
  ·try simp only [go_sem, n1, n2, n3, n4, z1, z2] at z4
   all_goals
   obtain ⟨y_5, z5, h⟩ := bd_some h
   have fz5 := Fs_3 z5
   try simp only [go_sem, z1, z2, z4] at fz5
   obtain ⟨z6, h⟩ := ck_some h
   have lz6 := ix_lt z6
   have xz6 := getD_mapD byteAV (([] : List UInt8) ++ b) lz6
   try simp only [go_sem] at lz6
   try simp only [go_sem] at xz6
   try simp only [go_sem, n1, n2, n3, n4, z1, z2, z4] at z6
   all_goals
   obtain ⟨y_7, z7, h⟩ := bd_some h
   have fz7 := Fs_3 z7
   try simp only [go_sem, z1, z2, z4, z6] at fz7
   obtain ⟨z8, h⟩ := ck_some h
   try simp only [go_sem, n1, n2, n3, n4, z1, z2, z4, z6] at z8
   all_goals
   obtain rfl := so_some h
   refine ⟨0, fun L hL => ?_⟩
   simp only [go_sem, ir43, z1, z2, fz3, z4, fz5, z6, lz6, xz6, fz7, z8]
  ·try simp only [go_sem, n1, n2, n3, n4, z1, z2] at z4
   all_goals
   rcases it_some h with ⟨z9, h⟩ | ⟨z9, h⟩
   ·try simp only [go_sem, n1, n2, n3, n4, z1, z2, z4] at z9
    all_goals
    obtain ⟨y_10, z10, h⟩ := bd_some h
    have fz10 := Fs_3 z10
    try simp only [go_sem, z1, z2, z4, z9] at fz10
    obtain ⟨z11, h⟩ := ck_some h
    try simp only [go_sem, n1, n2, n3, n4, z1, z2, z4, z9] at z11
    all_goals
    obtain rfl := so_some h
    refine ⟨0, fun L hL => ?_⟩
    simp only [go_sem, ir43, z1, z2, fz3, z4, z9, fz10, z11]
   ·try simp only [go_sem, n1, n2, n3, n4, z1, z2, z4] at z9
    all_goals
    rcases it_some h with ⟨z12, h⟩ | ⟨z12, h⟩
    ·try simp only [go_sem, n1, n2, n3, n4, z1, z2, z4, z9] at z12
     all_goals
     obtain ⟨y_13, z13, h⟩ := bd_some h
     have fz13 := Fs_3 z13
     try simp only [go_sem, z1, z2, z4, z9, z12] at fz13
     obtain ⟨z14, h⟩ := ck_some h
     try simp only [go_sem, n1, n2, n3, n4, z1, z2, z4, z9, z12] at z14
     all_goals
     obtain rfl := so_some h
     refine ⟨0, fun L hL => ?_⟩
     simp only [go_sem, ir43, z1, z2, fz3, z4, z9, z12, fz13, z14]
    ·try simp only [go_sem, n1, n2, n3, n4, z1, z2, z4, z9] at z12
     all_goals
     rcases it_some h with ⟨z15, h⟩ | ⟨z15, h⟩
     ·try simp only [go_sem, n1, n2, n3, n4, z1, z2, z4, z9, z12] at z15
      all_goals
      obtain ⟨z16, h⟩ := ck_some h
      try simp only [go_sem, n1, n2, n3, n4, z1, z2, z4, z9, z12, z15] at z16
      all_goals
      obtain ⟨y_17, z17, h⟩ := bd_some h
      have fz17 := Fs_3 z17
      try simp only [go_sem, z1, z2, z4, z9, z12, z15, z16] at fz17
      obtain ⟨z18, h⟩ := ck_some h
      have lz18 := ix_lt z18
      have xz18 := getD_mapD byteAV ((([] : List UInt8) ++ b).take (IntKind.i64.wrap (((([] : List UInt8) ++ b).length : Int) - 2)).toNat) lz18
      try simp only [go_sem] at lz18
      try simp only [go_sem] at xz18
      try simp only [go_sem, n1, n2, n3, n4, z1, z2, z4, z9, z12, z15, z16] at z18
      all_goals
      obtain ⟨y_19, z19, h⟩ := bd_some h
      have fz19 := Fs_3 z19
      try simp only [go_sem, z1, z2, z4, z9, z12, z15, z16, z18] at fz19
      obtain ⟨z20, h⟩ := ck_some h
      try simp only [go_sem, n1, n2, n3, n4, z1, z2, z4, z9, z12, z15, z16, z18] at z20
      all_goals
      obtain ⟨y_21, z21, h⟩ := bd_some h
      have fz21 := Fs_63 z21
      try simp only [go_sem, z1, z2, z4, z9, z12, z15, z16, z18, z20] at fz21
      obtain rfl := so_some h
      refine ⟨0, fun L hL => ?_⟩
      simp only [go_sem, ir43, z1, z2, fz3, z4, z9, z12, z15, z16, fz17, z18, lz18, xz18, fz19, z20, fz21]
     ·try simp only [go_sem, n1, n2, n3, n4, z1, z2, z4, z9, z12] at z15
      all_goals
      rcases it_some h with ⟨z22, h⟩ | ⟨z22, h⟩
      ·try simp only [go_sem, n1, n2, n3, n4, z1, z2, z4, z9, z12, z15] at z22
       all_goals
       obtain ⟨z23, h⟩ := ck_some h
       try simp only [go_sem, n1, n2, n3, n4, z1, z2, z4, z9, z12, z15, z22] at z23
       all_goals
       obtain ⟨y_24, z24, h⟩ := bd_some h
       have fz24 := Fs_3 z24
       try simp only [go_sem, z1, z2, z4, z9, z12, z15, z22, z23] at fz24
       obtain ⟨z25, h⟩ := ck_some h
       try simp only [go_sem, n1, n2, n3, n4, z1, z2, z4, z9, z12, z15, z22, z23] at z25
       all_goals
       obtain ⟨y_26, z26, h⟩ := bd_some h
       have fz26 := Fs_63 z26
       try simp only [go_sem, z1, z2, z4, z9, z12, z15, z22, z23, z25] at fz26
       obtain rfl := so_some h
       refine ⟨0, fun L hL => ?_⟩
       simp only [go_sem, ir43, z1, z2, fz3, z4, z9, z12, z15, z22, z23, fz24, z25, fz26]
      ·try simp only [go_sem, n1, n2, n3, n4, z1, z2, z4, z9, z12, z15] at z22
       all_goals
       obtain rfl := so_some h
       refine ⟨0, fun L hL => ?_⟩
       simp only [go_sem, ir43, z1, z2, fz3, z4, z9, z12, z15, z22]


def ir11_v : List Nat := [0, 2, 3, 4]
def ir11 : AFn := ⟨1, 4, .seq (.region false [ VO 1 2 (.newnil 1)]) (.seq (.region false [ PM 5 0, PO 6 (.call 23 [(.s 0)]), VS 2 3 0]) (.seq (.region false [ PM 7 2, PO 8 (.call 41 [(.s 0), (I6 6)]), PO 9 (.call 35 [(.s 0)]), VS 3 4 0]) (.seq (.test false [ PM 10 2, PO 11 (.call 42 [(.s 0), (I6 2)])] (.s 0) (.seq (.region false [ PM 12 2, PM 13 3, PO 14 (.call 43 [(.s 1), (.s 0)]), VS 1 2 0]) (.ret)) (.skip)) (.seq (.region false [ PM 15 3, VS 1 2 0]) (.ret))))), [.t 1]⟩
noncomputable def t_76 : List (Nat × Ctr) := [(23, c_1), (41, c_10), (35, c_64), (42, c_4), (43, c_75)]
theorem lk_76_23 : look t_76 23 = some c_1 := rfl
theorem lk_76_41 : look t_76 41 = some c_10 := rfl
theorem lk_76_35 : look t_76 35 = some c_64 := rfl
theorem lk_76_42 : look t_76 42 = some c_4 := rfl
theorem lk_76_43 : look t_76 43 = some c_75 := rfl
noncomputable def c_76 : Ctr := mkF t_76 ir11 [.bor]
theorem s_76 : Sound Tryz.prog 11 c_76 := mkF_sound _ rfl (snd_cons s_1 (snd_cons s_10 (snd_cons s_64 (snd_cons s_4 (snd_cons s_75 snd_nil))))) (by kernel_rfl : chkFn Tryz.prog 11 ir11 ir11_v = true)
theorem M_76 : c_76.modes = [.bor] := rfl
theorem Fl_76 : c_76.flat = true := rfl
attribute [go_sem] M_76 Fl_76
attribute [go_sem] lk_76_23 lk_76_41 lk_76_35 lk_76_42 lk_76_43
theorem Fs_76 {code : List UInt8} {y_ : (List UInt8)} (h : spec_DrawUnpackEstimates code = some y_) : c_76.F [.sl 1 (List.map byteAV code)] = ⟨true, .fresh 1 (List.map byteAV y_), [.any]⟩ := by
 refine mkF_E (by simp only [flatA, flatB, flat1, List.all_cons, List.all_nil, Bool.and_self, flatE_map (f := byteAV) (fun _ => rfl)]) ?_
 dsimp only [spec_DrawUnpackEstimates] at h
 obtain ⟨y_1, z1, h⟩ := bd_some h
 have fz1 := Fs_1 z1
 try simp only [go_sem] at fz1
 obtain ⟨y_2, z2, h⟩ := bd_some h
 have fz2 := Fs_10 z2
 try simp only [go_sem] at fz2
 obtain ⟨y_3, z3, h⟩ := bd_some h
 have fz3 := Fs_64 z3
 try simp only [go_sem] at fz3
 obtain ⟨y_4, z4, h⟩ := bd_some h
 have fz4 := Fs_4 z4
 try simp only [go_sem] at fz4
 rcases it_some h with ⟨z5, h⟩ | ⟨z5, h⟩
 ·try simp only [go_sem, n1, n2, n3, n4] at z5
  all_goals
  obtain ⟨y_6, z6, h⟩ := bd_some h
  have fz6 := Fs_75 z6
  try simp only [go_sem, z5] at fz6
  obtain rfl := so_some h
  refine ⟨0, fun L hL => ?_⟩
  simp only [go_sem, ir11, fz1, fz2, fz3, fz4, z5, fz6]
 ·try simp only [go_sem, n1, n2, n3, n4] at z5
  all_goals
  obtain rfl := so_some h
  refine ⟨0, fun L hL => ?_⟩
  simp only [go_sem, ir11, fz1, fz2, fz3, fz4, z5]


def ir45_v : List Nat := [0, 2]
def ir45 : AFn := ⟨1, 2, .seq (.region false [ VO 1 2 (.mov (.c (.bool false)))]) (.seq (.region false [ PM 3 0, PO 4 (.bin false .eql (.s 0) (.c (.int .u8 (69)))), VS 1 2 0]) (.ret)), [.t 1]⟩
noncomputable def t_77 : List (Nat × Ctr) := []
noncomputable def c_77 : Ctr := mkF t_77 ir45 [.bor]
theorem s_77 : Sound Tryz.prog 45 c_77 := mkF_sound _ rfl snd_nil (by kernel_rfl : chkFn Tryz.prog 45 ir45 ir45_v = true)
theorem M_77 : c_77.modes = [.bor] := rfl
theorem Fl_77 : c_77.flat = true := rfl
attribute [go_sem] M_77 Fl_77
theorem Fs_77 {kind : UInt8} {y_ : Bool} (h : impl_UnpackEstimates_c1 kind = some y_) : c_77.F [.int .u8 (kind.toNat : Int)] = ⟨true, .bool y_, [.any]⟩ := by
 refine mkF_E rfl ?_
 dsimp only [impl_UnpackEstimates_c1] at h
 obtain rfl := so_some h
 refine ⟨0, fun L hL => ?_⟩
 simp only [go_sem, ir45]


end Go.Proofs.YtpjpfdoaemoddaaGreat
