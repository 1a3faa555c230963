/- Codes and contracts of the functions that SV reaches, and that their typed forms say what they do. No condition. -/
import Derived.Test.YtibabbjpkjmdeaaSVT
import Derived.Test.YtibabbjpkjmdeaaRows
import Derived.WalkKit
namespace Go.Proofs.Ytibabbjpkjmdeaa
open Go Go.RowKit
set_option linter.unusedVariables false
set_option linter.unusedSimpArgs false
set_option maxRecDepth 10000

def ir5_v : List Nat := [0, 2]
def ir5 : AFn := ⟨1, 2, .seq (.region false [ VO 1 2 (.mov (.c (.bool false)))]) (.seq (.region false [ PM 3 0, PO 4 (.len false (.s 0)), PO 5 (.bin false .gtr (.s 0) (I6 4096)), VS 1 2 0]) (.ret)), [.t 1]⟩
noncomputable def t_0 : List (Nat × Ctr) := []
noncomputable def c_0 : Ctr := mkF t_0 ir5 [.bor]
theorem s_0 : Sound Try.prog 5 c_0 := mkF_sound _ rfl snd_nil (by kernel_rfl : chkFn Try.prog 5 ir5 ir5_v = true)
theorem M_0 : c_0.modes = [.bor] := rfl
theorem Fl_0 : c_0.flat = true := rfl
attribute [go_sem] M_0 Fl_0
theorem Fs_0 {code : List UInt8} {y_ : Bool} (h : laws_f6big code = some y_) : c_0.F [.sl 1 (List.map byteAV code)] = ⟨true, .bool y_, [.any]⟩ := by
 refine mkF_E rfl ?_
 dsimp only [laws_f6big] at h
 obtain rfl := so_some h
 refine ⟨0, fun L hL => ?_⟩
 simp only [go_sem, ir5]


def ir30_v : List Nat := [0, 2]
def ir30 : AFn := ⟨1, 2, .seq (.region false [ VO 1 2 (.mov (.c (.cv (.pointer none))))]) (.seq (.region false [ PM 3 0, PO 4 (.build [.sl 1 [], .int .i64 (0), .int .u64 (0)] [(0, 1, (.s 0))]), PO 5 (.box (.s 0)), VS 1 2 0]) (.ret)), [.t 1]⟩
noncomputable def t_1 : List (Nat × Ctr) := []
noncomputable def c_1 : Ctr := mkN t_1 ir30 [.bor]
theorem s_1 : Sound Try.prog 30 c_1 := mkN_sound _ snd_nil (by kernel_rfl : chkFn Try.prog 30 ir30 ir30_v = true)
theorem M_1 : c_1.modes = [.bor] := rfl
theorem Fl_1 : c_1.flat = false := rfl
attribute [go_sem] M_1 Fl_1
theorem Fs_1 {code : List UInt8} {y_ : L00Src} (h : spec_l00From code = some y_) : c_1.F [.sl 1 (List.map byteAV code)] = ⟨true, .mem 3 [L00Src_av y_] 0, [.any]⟩ := by
 refine mkN_E ?_
 dsimp only [spec_l00From] at h
 obtain rfl := so_some h
 refine ⟨0, fun L hL => ?_⟩
 simp only [go_sem, ir30]


def ir98_v : List Nat := [0, 2, 3]
def ir98 : AFn := ⟨1, 3, .seq (.region false [ VO 1 2 (.mov (I6 0))]) (.seq (.region false [ VO 2 3 (.mov (I6 0))]) (.seq (.anyo 10 [ SO 0 4 (.mov (.v 0)), SO 1 5 (.nilck (.s 0)), SO 2 6 (.fldAddr 1 (.s 1)), SO 3 7 (.load false 1 (.s 2)), SO 4 8 (.mov (.v 0)), SO 5 9 (.nilck (.s 4)), SO 6 10 (.fldAddr 0 (.s 5)), SO 7 11 (.load false 1 (.s 6)), SO 8 12 (.len false (.s 7)), SO 9 13 (.bin false .lss (.s 3) (.s 8))] [] (.cond (.s 9) (.anyo 11 [ SO 0 14 (.mov (.v 0)), SO 1 15 (.nilck (.s 0)), SO 2 16 (.fldAddr 0 (.s 1)), SO 3 17 (.load false 1 (.s 2)), SO 4 18 (.mov (.v 0)), SO 5 19 (.nilck (.s 4)),
 SO 6 20 (.fldAddr 1 (.s 5)), SO 7 21 (.load false 1 (.s 6)), SO 8 22 (.ixAddr 1 (.s 3) (.s 7)), SO 9 23 (.load false 1 (.s 8)), SO 10 24 (.conv .i64 (.s 9)), VS 2 3 10] [] .skip) (.skip))) (.seq (.region false [ PM 25 0, PO 26 (.nilck (.s 0)), PO 27 (.fldAddr 1 (.s 0)), PO 28 (.load false 1 (.s 0)), PO 29 (.bin false .add (.s 0) (I6 1)), PO 30 (.nilck (.s 4)), PO 31 (.fldAddr 1 (.s 0)), ⟨.no, 0, none, .store 1 (.s 0) (.s 2)⟩]) (.seq (.region false [ PM 32 0, PM 33 0, PO 34 (.nilck (.s 0)), PO 35 (.fldAddr 2 (.s 0)), PO 36 (.load false 1 (.s 0)), PO 37 (.bin false .mul (.s 0) (.c (.int .u64
 (6364136223846793005)))), PM 38 2, PO 39 (.conv .u64 (.s 0)), PO 40 (.bin false .add (.s 2) (.s 0)), PO 41 (.bin false .add (.s 0) (.c (.int .u64 (1442695040888963407)))), PO 42 (.nilck (.s 9)), PO 43 (.fldAddr 2 (.s 0)), ⟨.no, 0, none, .store 1 (.s 0) (.s 2)⟩]) (.seq (.anyo 10 [ SO 0 44 (.mov (.v 0)), SO 1 45 (.nilck (.s 0)), SO 2 46 (.fldAddr 1 (.s 1)), SO 3 47 (.load false 1 (.s 2)), SO 4 48 (.mov (.v 0)), SO 5 49 (.nilck (.s 4)), SO 6 50 (.fldAddr 0 (.s 5)), SO 7 51 (.load false 1 (.s 6)), SO 8 52 (.len false (.s 7)), SO 9 53 (.bin false .leq (.s 3) (.s 8))] [] (.cond (.s 9) (.seq (.region
 false [ PM 54 2, VS 1 2 0]) (.ret)) (.skip))) (.seq (.region false [ PM 55 0, PO 56 (.nilck (.s 0)), PO 57 (.fldAddr 2 (.s 0)), PO 58 (.load false 1 (.s 0)), PO 59 (.bin false .shr (.s 0) (.c (.int .u64 (40)))), PO 60 (.bin false .and (.s 0) (.c (.int .u64 (255)))), PO 61 (.conv .i64 (.s 0)), VS 1 2 0]) (.ret))))))), [.t 1]⟩
noncomputable def t_2 : List (Nat × Ctr) := []
noncomputable def c_2 : Ctr := mkN t_2 ir98 [.io]
theorem s_2 : Sound Try.prog 98 c_2 := mkN_sound _ snd_nil (by kernel_rfl : chkFn Try.prog 98 ir98 ir98_v = true)
theorem M_2 : c_2.modes = [.io] := rfl
theorem Fl_2 : c_2.flat = false := rfl
attribute [go_sem] M_2 Fl_2
theorem Fs_2 {s_ : L00Src} {y_ : Int × L00Src} (h : spec_l00Src_next s_ = some y_) : c_2.F [.mem 3 [L00Src_av s_] 0] = ⟨true, .int .i64 y_.1, [.mem 3 [L00Src_av y_.2] 0]⟩ := by
 refine mkN_E ?_
 dsimp only [spec_l00Src_next] at h
 rcases it_some h with ⟨z1, h⟩ | ⟨z1, h⟩
 ·try simp only [go_sem, n1, n2, n3, n4] at z1
  all_goals
  obtain ⟨z2, h⟩ := ck_some h
  have lz2 := ix_lt z2
  have xz2 := getD_mapD byteAV s_.code_ lz2
  try simp only [go_sem] at lz2
  try simp only [go_sem] at xz2
  try simp only [go_sem, n1, n2, n3, n4, z1] at z2
  all_goals
  rcases it_some h with ⟨z3, h⟩ | ⟨z3, h⟩
  ·try simp only [go_sem, n1, n2, n3, n4, z1, z2] at z3
   all_goals
   obtain rfl := so_some h
   refine ⟨0, fun L hL => ?_⟩
   simp only [go_sem, ir98, z1, z2, lz2, xz2, z3]
  ·try simp only [go_sem, n1, n2, n3, n4, z1, z2] at z3
   all_goals
   obtain ⟨z4, h⟩ := ck_some h
   try simp only [go_sem, n1, n2, n3, n4, z1, z2, z3] at z4
   all_goals
   obtain rfl := so_some h
   refine ⟨0, fun L hL => ?_⟩
   simp only [go_sem, ir98, z1, z2, lz2, xz2, z3, z4]
 ·try simp only [go_sem, n1, n2, n3, n4] at z1
  all_goals
  rcases it_some h with ⟨z5, h⟩ | ⟨z5, h⟩
  ·try simp only [go_sem, n1, n2, n3, n4, z1] at z5
   all_goals
   obtain rfl := so_some h
   refine ⟨0, fun L hL => ?_⟩
   simp only [go_sem, ir98, z1, z5]
  ·try simp only [go_sem, n1, n2, n3, n4, z1] at z5
   all_goals
   obtain ⟨z6, h⟩ := ck_some h
   try simp only [go_sem, n1, n2, n3, n4, z1, z5] at z6
   all_goals
   obtain rfl := so_some h
   refine ⟨0, fun L hL => ?_⟩
   simp only [go_sem, ir98, z1, z5, z6]


def ir70_v : List Nat := [0, 1, 4, 5]
def ir70 : AFn := ⟨2, 4, .seq (.region false [ VO 2 4 (.mov (I6 0))]) (.seq (.test false [ PM 6 1, PO 7 (.bin false .leq (.s 0) (I6 1))] (.s 0) (.seq (.region false [ VO 2 4 (.mov (I6 0))]) (.ret)) (.skip)) (.seq (.region false [ PM 8 0, PO 9 (.call 98 [(.s 0)]), VS 3 5 0]) (.seq (.test false [ PM 10 1, PO 11 (.bin false .gtr (.s 0) (I6 200))] (.s 0) (.region false [ PM 12 3, PO 13 (.bin false .mul (.s 0) (I6 256)), PM 14 0, PO 15 (.call 98 [(.s 0)]), PO 16 (.bin false .add (.s 2) (.s 0)), VS 3 5 0]) (.skip)) (.seq (.region false [ PM 17 3, PM 18 1, PO 19 (.bin false .rem (.s 1) (.s 0)), VS 2 4
 0]) (.ret))))), [.t 2]⟩
noncomputable def t_3 : List (Nat × Ctr) := [(98, c_2)]
theorem lk_3_98 : look t_3 98 = some c_2 := rfl
noncomputable def c_3 : Ctr := mkN t_3 ir70 [.io, .bor]
theorem s_3 : Sound Try.prog 70 c_3 := mkN_sound _ (snd_cons s_2 snd_nil) (by kernel_rfl : chkFn Try.prog 70 ir70 ir70_v = true)
theorem M_3 : c_3.modes = [.io, .bor] := rfl
theorem Fl_3 : c_3.flat = false := rfl
attribute [go_sem] M_3 Fl_3
attribute [go_sem] lk_3_98
theorem Fs_3 {s_ : L00Src} {n : Int} {y_ : Int × L00Src} (h : spec_l00Src_pick s_ n = some y_) : c_3.F [.mem 3 [L00Src_av s_] 0, .int .i64 n] = ⟨true, .int .i64 y_.1, [.mem 3 [L00Src_av y_.2] 0, .any]⟩ := by
 refine mkN_E ?_
 dsimp only [spec_l00Src_pick] at h
 rcases it_some h with ⟨z1, h⟩ | ⟨z1, h⟩
 ·try simp only [go_sem, n1, n2, n3, n4] at z1
  all_goals
  obtain rfl := so_some h
  refine ⟨0, fun L hL => ?_⟩
  simp only [go_sem, ir70, z1]
 ·try simp only [go_sem, n1, n2, n3, n4] at z1
  all_goals
  obtain ⟨y_2, z2, h⟩ := bd_some h
  have fz2 := Fs_2 z2
  try simp only [go_sem, z1] at fz2
  rcases it_some h with ⟨z3, h⟩ | ⟨z3, h⟩
  ·try simp only [go_sem, n1, n2, n3, n4, z1] at z3
   all_goals
   obtain ⟨y_4, z4, h⟩ := bd_some h
   have fz4 := Fs_2 z4
   try simp only [go_sem, z1, z3] at fz4
   obtain ⟨z5, h⟩ := ck_some h
   try simp only [go_sem, n1, n2, n3, n4, z1, z3] at z5
   all_goals
   obtain rfl := so_some h
   refine ⟨0, fun L hL => ?_⟩
   simp only [go_sem, ir70, z1, fz2, z3, fz4, z5]
  ·try simp only [go_sem, n1, n2, n3, n4, z1] at z3
   all_goals
   obtain ⟨z6, h⟩ := ck_some h
   try simp only [go_sem, n1, n2, n3, n4, z1, z3] at z6
   all_goals
   obtain rfl := so_some h
   refine ⟨0, fun L hL => ?_⟩
   simp only [go_sem, ir70, z1, fz2, z3, z6]


def ir58_v : List Nat := [0, 1, 4]
def ir58 : AFn := ⟨2, 3, .seq (.region false [ VO 2 4 (.mov (.c (.bool false)))]) (.seq (.region false [ PM 5 0, PM 6 1, PO 7 (.call 70 [(.s 1), (.s 0)]), PO 8 (.bin false .eql (.s 0) (I6 0)), VS 2 4 0]) (.ret)), [.t 2]⟩
noncomputable def t_4 : List (Nat × Ctr) := [(70, c_3)]
theorem lk_4_70 : look t_4 70 = some c_3 := rfl
noncomputable def c_4 : Ctr := mkN t_4 ir58 [.io, .bor]
theorem s_4 : Sound Try.prog 58 c_4 := mkN_sound _ (snd_cons s_3 snd_nil) (by kernel_rfl : chkFn Try.prog 58 ir58 ir58_v = true)
theorem M_4 : c_4.modes = [.io, .bor] := rfl
theorem Fl_4 : c_4.flat = false := rfl
attribute [go_sem] M_4 Fl_4
attribute [go_sem] lk_4_70
theorem Fs_4 {s_ : L00Src} {n : Int} {y_ : Bool × L00Src} (h : spec_l00Src_one s_ n = some y_) : c_4.F [.mem 3 [L00Src_av s_] 0, .int .i64 n] = ⟨true, .bool y_.1, [.mem 3 [L00Src_av y_.2] 0, .any]⟩ := by
 refine mkN_E ?_
 dsimp only [spec_l00Src_one] at h
 obtain ⟨y_1, z1, h⟩ := bd_some h
 have fz1 := Fs_3 z1
 try simp only [go_sem] at fz1
 obtain rfl := so_some h
 refine ⟨0, fun L hL => ?_⟩
 simp only [go_sem, ir58, fz1]


def ir73_v : List Nat := [0, 1, 4]
def ir73 : AFn := ⟨2, 3, .seq (.region false [ VO 2 4 (.mov (.c (.str [])))]) (.seq (.region false [ PM 5 1, PM 6 0, PM 7 1, PO 8 (.len false (.s 0)), PO 9 (.call 70 [(.s 2), (.s 0)]), PO 10 (.ixAddr 1 (.s 4) (.s 0)), PO 11 (.load false 1 (.s 0)), VS 2 4 0]) (.ret)), [.t 2]⟩
noncomputable def t_5 : List (Nat × Ctr) := [(70, c_3)]
theorem lk_5_70 : look t_5 70 = some c_3 := rfl
noncomputable def c_5 : Ctr := mkN t_5 ir73 [.io, .bor]
theorem s_5 : Sound Try.prog 73 c_5 := mkN_sound _ (snd_cons s_3 snd_nil) (by kernel_rfl : chkFn Try.prog 73 ir73 ir73_v = true)
theorem M_5 : c_5.modes = [.io, .bor] := rfl
theorem Fl_5 : c_5.flat = false := rfl
attribute [go_sem] M_5 Fl_5
attribute [go_sem] lk_5_70
theorem Fs_5 {s_ : L00Src} {list : List (List UInt8)} {y_ : (List UInt8) × L00Src} (h : spec_l00Src_text s_ list = some y_) : c_5.F [.mem 3 [L00Src_av s_] 0, .sl 1 (List.map AV.str list)] = ⟨true, .str y_.1, [.mem 3 [L00Src_av y_.2] 0, .any]⟩ := by
 refine mkN_E ?_
 dsimp only [spec_l00Src_text] at h
 obtain ⟨y_1, z1, h⟩ := bd_some h
 have fz1 := Fs_3 z1
 try simp only [go_sem] at fz1
 obtain ⟨z2, h⟩ := ck_some h
 have lz2 := ix_lt z2
 have xz2 := getD_mapD AV.str list lz2
 try simp only [go_sem] at lz2
 try simp only [go_sem] at xz2
 try simp only [go_sem, n1, n2, n3, n4] at z2
 all_goals
 obtain rfl := so_some h
 refine ⟨0, fun L hL => ?_⟩
 simp only [go_sem, ir73, fz1, z2, lz2, xz2]


def ir71_v : List Nat := [0, 2, 3]
def ir71 : AFn := ⟨1, 3, .seq (.region false [ VO 1 2 (.alloc (.agg [.str [], .int .i64 (0), .int .i64 (0), .int .i64 (0), .int .i64 (0), .int .i64 (0)]))]) (.seq (.region false [ PM 4 0, PO 5 (.mkSl 1 (.str []) 3 [(0, (.c (.str [109, 105, 114, 97]))), (1, (.c (.str [114, 114, 45, 108, 121, 114]))), (2, (.c (.str [115, 115, 45, 99, 121, 103])))]), PO 6 (.call 73 [(.s 1), (.s 0)]), PO 7 (.build [.str [], .int .i64 (0), .int .i64 (0), .int .i64 (0), .int .i64 (0), .int .i64 (0)] [(0, 1, (.s 0))]), VO 2 3 (.alloc (.agg [.str [], .int .i64 (0), .int .i64 (0), .int .i64 (0), .int .i64 (0), .int .i64
 (0)])), ⟨.no, 0, none, .store 6 (.v 2) (.s 0)⟩]) (.seq (.region false [ PM 8 0, PO 9 (.call 70 [(.s 0), (I6 25)]), PO 10 (.bin false .mul (I6 1000) (.s 0)), PO 11 (.fldAddr 1 (.v 2)), ⟨.no, 0, none, .store 1 (.s 0) (.s 1)⟩]) (.seq (.anyo 7 [ SO 0 12 (.fldAddr 1 (.v 2)), SO 1 13 (.load false 1 (.s 0)), SO 2 14 (.mov (.v 0)), SO 3 15 (.call 70 [(.s 2), (I6 15)]), SO 4 16 (.bin false .mul (I6 1000) (.s 3)), SO 5 17 (.bin false .add (.s 1) (.s 4)), SO 6 18 (.fldAddr 2 (.v 2)), ⟨.no, 0, none, .store 1 (.s 6) (.s 5)⟩] [[2, 0, 1, 3, 4, 5, 6, 7], [2, 0, 3, 1, 4, 5, 6, 7], [2, 3, 0, 1, 4, 5, 6, 7]]
 .skip) (.seq (.region false [ PM 19 0, PO 20 (.call 70 [(.s 0), (I6 5)]), PO 21 (.bin false .add (I6 1) (.s 0)), PO 22 (.fldAddr 3 (.v 2)), ⟨.no, 0, none, .store 1 (.s 0) (.s 1)⟩]) (.seq (.region false [ PM 23 0, PO 24 (.fldAddr 3 (.v 2)), PO 25 (.load false 1 (.s 0)), PO 26 (.bin false .add (.s 0) (I6 1)), PO 27 (.call 70 [(.s 3), (.s 0)]), PO 28 (.fldAddr 4 (.v 2)), ⟨.no, 0, none, .store 1 (.s 0) (.s 1)⟩]) (.seq (.region false [ PM 29 0, PO 30 (.call 70 [(.s 0), (I6 5)]), PO 31 (.bin false .add (I6 1) (.s 0)), PO 32 (.fldAddr 5 (.v 2)), ⟨.no, 0, none, .store 1 (.s 0) (.s 1)⟩]) (.seq (.region
 false [ PO 33 (.load true 6 (.v 2)), ⟨.no, 0, none, .store 6 (.v 1) (.s 0)⟩]) (.ret)))))))), [.cell true 6 1]⟩
noncomputable def t_6 : List (Nat × Ctr) := [(73, c_5), (70, c_3)]
theorem lk_6_73 : look t_6 73 = some c_5 := rfl
theorem lk_6_70 : look t_6 70 = some c_3 := rfl
noncomputable def c_6 : Ctr := mkN t_6 ir71 [.io]
theorem s_6 : Sound Try.prog 71 c_6 := mkN_sound _ (snd_cons s_5 (snd_cons s_3 snd_nil)) (by kernel_rfl : chkFn Try.prog 71 ir71 ir71_v = true)
theorem M_6 : c_6.modes = [.io] := rfl
theorem Fl_6 : c_6.flat = false := rfl
attribute [go_sem] M_6 Fl_6
attribute [go_sem] lk_6_73 lk_6_70
theorem Fs_6 {s_ : L00Src} {y_ : Request × L00Src} (h : spec_l22New s_ = some y_) : c_6.F [.mem 3 [L00Src_av s_] 0] = ⟨true, Request_av y_.1, [.mem 3 [L00Src_av y_.2] 0]⟩ := by
 refine mkN_E ?_
 dsimp only [spec_l22New] at h
 obtain ⟨y_1, z1, h⟩ := bd_some h
 have fz1 := Fs_5 z1
 try simp only [go_sem] at fz1
 obtain ⟨y_2, z2, h⟩ := bd_some h
 have fz2 := Fs_3 z2
 try simp only [go_sem] at fz2
 obtain ⟨y_3, z3, h⟩ := bd_some h
 have fz3 := Fs_3 z3
 try simp only [go_sem] at fz3
 obtain ⟨y_4, z4, h⟩ := bd_some h
 have fz4 := Fs_3 z4
 try simp only [go_sem] at fz4
 obtain ⟨y_5, z5, h⟩ := bd_some h
 have fz5 := Fs_3 z5
 try simp only [go_sem] at fz5
 obtain ⟨y_6, z6, h⟩ := bd_some h
 have fz6 := Fs_3 z6
 try simp only [go_sem] at fz6
 obtain rfl := so_some h
 refine ⟨0, fun L hL => ?_⟩
 simp only [go_sem, ir71, fz1, fz2, fz3, fz4, fz5, fz6]


def ir74_v : List Nat := [0, 1, 4]
def ir74 : AFn := ⟨2, 3, .seq (.region false [ VO 2 4 (.mov (I6 0))]) (.seq (.region false [ PM 5 1, PM 6 0, PM 7 1, PO 8 (.len false (.s 0)), PO 9 (.call 70 [(.s 2), (.s 0)]), PO 10 (.ixAddr 1 (.s 4) (.s 0)), PO 11 (.load false 1 (.s 0)), VS 2 4 0]) (.ret)), [.t 2]⟩
noncomputable def t_7 : List (Nat × Ctr) := [(70, c_3)]
theorem lk_7_70 : look t_7 70 = some c_3 := rfl
noncomputable def c_7 : Ctr := mkN t_7 ir74 [.io, .bor]
theorem s_7 : Sound Try.prog 74 c_7 := mkN_sound _ (snd_cons s_3 snd_nil) (by kernel_rfl : chkFn Try.prog 74 ir74 ir74_v = true)
theorem M_7 : c_7.modes = [.io, .bor] := rfl
theorem Fl_7 : c_7.flat = false := rfl
attribute [go_sem] M_7 Fl_7
attribute [go_sem] lk_7_70
theorem Fs_7 {s_ : L00Src} {list : List Int} {y_ : Int × L00Src} (h : spec_l00Src_among s_ list = some y_) : c_7.F [.mem 3 [L00Src_av s_] 0, .sl 1 (List.map (AV.int .i64) list)] = ⟨true, .int .i64 y_.1, [.mem 3 [L00Src_av y_.2] 0, .any]⟩ := by
 refine mkN_E ?_
 dsimp only [spec_l00Src_among] at h
 obtain ⟨y_1, z1, h⟩ := bd_some h
 have fz1 := Fs_3 z1
 try simp only [go_sem] at fz1
 obtain ⟨z2, h⟩ := ck_some h
 have lz2 := ix_lt z2
 have xz2 := getD_mapD (AV.int .i64) list lz2
 try simp only [go_sem] at lz2
 try simp only [go_sem] at xz2
 try simp only [go_sem, n1, n2, n3, n4] at z2
 all_goals
 obtain rfl := so_some h
 refine ⟨0, fun L hL => ?_⟩
 simp only [go_sem, ir74, fz1, z2, lz2, xz2]


def ir72_v : List Nat := [0, 1, 5]
def ir72 : AFn := ⟨2, 3, .seq (.region false [ PM 4 0, VO 2 5 (.call 70 [(.s 0), (I6 5)])]) (.block 0 (.test false [ PO 7 (.bin false .eql (.v 2) (I6 0)), PO 6 (.mov (.s 0))] (.s 0) (.region false [ PM 8 1, PM 9 0, PO 10 (.mkSl 1 (.str []) 3 [(0, (.c (.str []))), (1, (.c (.str [77, 105, 114, 97]))), (2, (.c (.str [120])))]), PO 11 (.call 73 [(.s 1), (.s 0)]), PO 12 (.nilck (.s 3)), PO 13 (.fldAddr 0 (.s 0)), ⟨.no, 0, none, .store 1 (.s 0) (.s 2)⟩]) (.test false [ PO 15 (.bin false .eql (.v 2) (I6 1)), PO 14 (.mov (.s 0))] (.s 0) (.anyo 15 [ SO 0 16 (.mov (.v 1)), SO 1 17 (.mov (.v 0)), SO 2 18
 (.mov (.v 1)), SO 3 19 (.nilck (.s 2)), SO 4 20 (.fldAddr 2 (.s 3)), SO 5 21 (.load false 1 (.s 4)), SO 6 22 (.mov (.v 1)), SO 7 23 (.nilck (.s 6)), SO 8 24 (.fldAddr 2 (.s 7)), SO 9 25 (.load false 1 (.s 8)), SO 10 26 (.bin false .add (.s 9) (I6 1)), SO 11 27 (.pur (.mkSl 1 (.int .i64 (0)) 4 [(0, (.c (.int .i64 (-1)))), (1, (I6 0)), (2, (.s 5)), (3, (.s 10))])), SO 12 28 (.call 74 [(.s 1), (.s 11)]), SO 13 29 (.nilck (.s 0)), SO 14 30 (.fldAddr 1 (.s 13)), ⟨.no, 0, none, .store 1 (.s 14) (.s 12)⟩] [[1, 2, 3, 4, 5, 6, 7, 8, 9, 10, 11, 0, 12, 13, 14, 15], [1, 2, 3, 4, 5, 6, 7, 8, 9, 10, 11, 12,
 0, 13, 14, 15]] .skip) (.test false [ PO 32 (.bin false .eql (.v 2) (I6 2)), PO 31 (.mov (.s 0))] (.s 0) (.region false [ PM 33 1, PM 34 0, PO 35 (.mkSl 1 (.int .i64 (0)) 3 [(0, (.c (.int .i64 (-1)))), (1, (I6 10000000)), (2, (I6 10000001))]), PO 36 (.call 74 [(.s 1), (.s 0)]), PO 37 (.nilck (.s 3)), PO 38 (.fldAddr 2 (.s 0)), ⟨.no, 0, none, .store 1 (.s 0) (.s 2)⟩]) (.test false [ PO 40 (.bin false .eql (.v 2) (I6 3)), PO 39 (.mov (.s 0))] (.s 0) (.region false [ PM 41 1, PM 42 0, PM 43 1, PO 44 (.nilck (.s 0)), PO 45 (.fldAddr 4 (.s 0)), PO 46 (.load false 1 (.s 0)), PO 47 (.mkSl 1 (.int
 .i64 (0)) 5 [(0, (I6 0)), (1, (.s 0)), (2, (I6 100)), (3, (I6 101)), (4, (.c (.int .i64 (-9223372036854775808))))]), PO 48 (.call 74 [(.s 5), (.s 0)]), PO 49 (.nilck (.s 7)), PO 50 (.fldAddr 3 (.s 0)), ⟨.no, 0, none, .store 1 (.s 0) (.s 2)⟩]) (.test false [ PO 52 (.bin false .eql (.v 2) (I6 4)), PO 51 (.mov (.s 0))] (.s 0) (.region false [ PM 53 1, PM 54 0, PO 55 (.mkSl 1 (.int .i64 (0)) 4 [(0, (I6 0)), (1, (I6 1)), (2, (I6 5)), (3, (I6 6))]), PO 56 (.call 74 [(.s 1), (.s 0)]), PO 57 (.nilck (.s 3)), PO 58 (.fldAddr 5 (.s 0)), ⟨.no, 0, none, .store 1 (.s 0) (.s 2)⟩]) (.skip))))))), []⟩
noncomputable def t_8 : List (Nat × Ctr) := [(70, c_3), (73, c_5), (74, c_7)]
theorem lk_8_70 : look t_8 70 = some c_3 := rfl
theorem lk_8_73 : look t_8 73 = some c_5 := rfl
theorem lk_8_74 : look t_8 74 = some c_7 := rfl
noncomputable def c_8 : Ctr := mkN t_8 ir72 [.io, .io]
theorem s_8 : Sound Try.prog 72 c_8 := mkN_sound _ (snd_cons s_3 (snd_cons s_5 (snd_cons s_7 snd_nil))) (by kernel_rfl : chkFn Try.prog 72 ir72 ir72_v = true)
theorem M_8 : c_8.modes = [.io, .io] := rfl
theorem Fl_8 : c_8.flat = false := rfl
attribute [go_sem] M_8 Fl_8
attribute [go_sem] lk_8_70 lk_8_73 lk_8_74
theorem Fs_8 {s_ : L00Src} {x : List Request} {x_ix : Int} {y_ : L00Src × (List Request)} (h : spec_l22Spoil_ix1 s_ x x_ix = some y_) : c_8.F [.mem 3 [L00Src_av s_] 0, .mem 6 (List.map Request_av x) x_ix.toNat] = ⟨true, .cv undef, [.mem 3 [L00Src_av y_.1] 0, .mem 6 (List.map Request_av y_.2) 0]⟩ := by
 refine mkN_E ?_
 dsimp only [spec_l22Spoil_ix1] at h
 obtain ⟨z1, h⟩ := ck_some h
 have lz1 := ix_lt z1
 have xz1 := getD_mapD Request_av x lz1
 try simp only [go_sem] at lz1
 try simp only [go_sem] at xz1
 try simp only [go_sem, n1, n2, n3, n4] at z1
 all_goals
 obtain ⟨y_2, z2, h⟩ := bd_some h
 have fz2 := Fs_3 z2
 try simp only [go_sem, z1] at fz2
 rcases it_some h with ⟨z3, h⟩ | ⟨z3, h⟩
 ·try simp only [go_sem, n1, n2, n3, n4, z1] at z3
  all_goals
  obtain ⟨y_4, z4, h⟩ := bd_some h
  have fz4 := Fs_5 z4
  try simp only [go_sem, z1, z3] at fz4
  obtain ⟨z5, h⟩ := ck_some h
  try simp only [go_sem, n1, n2, n3, n4, z1, z3] at z5
  all_goals
  obtain rfl := so_some h
  refine ⟨0, fun L hL => ?_⟩
  simp only [go_sem, ir72, z1, lz1, xz1, fz2, z3, fz4, z5]
 ·try simp only [go_sem, n1, n2, n3, n4, z1] at z3
  all_goals
  rcases it_some h with ⟨z6, h⟩ | ⟨z6, h⟩
  ·try simp only [go_sem, n1, n2, n3, n4, z1, z3] at z6
   all_goals
   obtain ⟨y_7, z7, h⟩ := bd_some h
   have fz7 := Fs_7 z7
   try simp only [go_sem, z1, z3, z6] at fz7
   obtain ⟨z8, h⟩ := ck_some h
   try simp only [go_sem, n1, n2, n3, n4, z1, z3, z6] at z8
   all_goals
   obtain rfl := so_some h
   refine ⟨0, fun L hL => ?_⟩
   simp only [go_sem, ir72, z1, lz1, xz1, fz2, z3, z6, fz7, z8]
  ·try simp only [go_sem, n1, n2, n3, n4, z1, z3] at z6
   all_goals
   rcases it_some h with ⟨z9, h⟩ | ⟨z9, h⟩
   ·try simp only [go_sem, n1, n2, n3, n4, z1, z3, z6] at z9
    all_goals
    obtain ⟨y_10, z10, h⟩ := bd_some h
    have fz10 := Fs_7 z10
    try simp only [go_sem, z1, z3, z6, z9] at fz10
    obtain ⟨z11, h⟩ := ck_some h
    try simp only [go_sem, n1, n2, n3, n4, z1, z3, z6, z9] at z11
    all_goals
    obtain rfl := so_some h
    refine ⟨0, fun L hL => ?_⟩
    simp only [go_sem, ir72, z1, lz1, xz1, fz2, z3, z6, z9, fz10, z11]
   ·try simp only [go_sem, n1, n2, n3, n4, z1, z3, z6] at z9
    all_goals
    rcases it_some h with ⟨z12, h⟩ | ⟨z12, h⟩
    ·try simp only [go_sem, n1, n2, n3, n4, z1, z3, z6, z9] at z12
     all_goals
     obtain ⟨y_13, z13, h⟩ := bd_some h
     have fz13 := Fs_7 z13
     try simp only [go_sem, z1, z3, z6, z9, z12] at fz13
     obtain ⟨z14, h⟩ := ck_some h
     try simp only [go_sem, n1, n2, n3, n4, z1, z3, z6, z9, z12] at z14
     all_goals
     obtain rfl := so_some h
     refine ⟨0, fun L hL => ?_⟩
     simp only [go_sem, ir72, z1, lz1, xz1, fz2, z3, z6, z9, z12, fz13, z14]
    ·try simp only [go_sem, n1, n2, n3, n4, z1, z3, z6, z9] at z12
     all_goals
     rcases it_some h with ⟨z15, h⟩ | ⟨z15, h⟩
     ·try simp only [go_sem, n1, n2, n3, n4, z1, z3, z6, z9, z12] at z15
      all_goals
      obtain ⟨y_16, z16, h⟩ := bd_some h
      have fz16 := Fs_7 z16
      try simp only [go_sem, z1, z3, z6, z9, z12, z15] at fz16
      obtain ⟨z17, h⟩ := ck_some h
      try simp only [go_sem, n1, n2, n3, n4, z1, z3, z6, z9, z12, z15] at z17
      all_goals
      obtain rfl := so_some h
      refine ⟨0, fun L hL => ?_⟩
      simp only [go_sem, ir72, z1, lz1, xz1, fz2, z3, z6, z9, z12, z15, fz16, z17]
     ·try simp only [go_sem, n1, n2, n3, n4, z1, z3, z6, z9, z12] at z15
      all_goals
      obtain rfl := so_some h
      refine ⟨0, fun L hL => ?_⟩
      simp only [go_sem, ir72, z1, lz1, xz1, fz2, z3, z6, z9, z12, z15]


def ir31_b0 : IR := .seq (.test false [ PM 15 4, PO 16 (.bin false .gtr (.s 0) (I6 0))] (.s 0) (.skip) (.exit 0)) (.seq (.block 1 (.region false [ PM 19 2, PM 20 0, PO 21 (.call 71 [(.s 0)]), PO 22 (.mkSl 6 (.agg [.str [], .int .i64 (0), .int .i64 (0), .int .i64 (0), .int .i64 (0), .int .i64 (0)]) 1 [(0, (.s 0))]), PO 23 (.app 6 56 (.agg [.str [], .int .i64 (0), .int .i64 (0), .int .i64 (0), .int .i64 (0), .int .i64 (0)]) (.s 3) (.s 0)), VS 2 3 0])) (.region false [ PM 17 4, PO 18 (.bin false .sub (.s 0) (I6 1)), VS 4 5 0]))
def ir31_k0 : List Bool := [true, false, true, false, true]
def ir31_o0 : List Bool := [true, false, true, false, false]
def ir31_r0 : List Bool := [true, true, false, false, false]
def ir31_v : List Nat := [0, 2, 3, 4, 5]
def ir31 : AFn := ⟨1, 5, .seq (.region false [ VO 1 2 (.newnil 6)]) (.seq (.region false [ PO 6 (.mkSl 6 (.agg [.str [], .int .i64 (0), .int .i64 (0), .int .i64 (0), .int .i64 (0), .int .i64 (0)]) 0 []), VS 2 3 0]) (.seq (.region false [ PM 7 0, PO 8 (.call 70 [(.s 0), (I6 7)]), VS 3 4 0]) (.seq (.test false [ PM 9 0, PO 10 (.call 58 [(.s 0), (I6 24)])] (.s 0) (.region false [ PM 11 0, PO 12 (.call 70 [(.s 0), (I6 2)]), PO 13 (.bin false .add (I6 30) (.s 0)), VS 3 4 0]) (.skip)) (.seq (.seq (.region false [ PM 14 3, VS 4 5 0]) (.block 0 (.loop ir31_k0 ir31_o0 ir31_r0 ir31_b0))) (.seq (.test
 false [ PM 24 2, PO 25 (.len false (.s 0)), PO 26 (.bin false .gtr (.s 0) (I6 0)), PO 27 (.mov (.s 0)), ⟨.push, 28, (some ((.s 0), true)), .mov (.v 0)⟩, ⟨.push, 29, (some ((.s 1), true)), .callw 58 [(.s 0), (I6 8)]⟩, PO 30 (.pick (.s 2) (.s 0) (.c (.bool false)))] (.s 0) (.region false [ PM 31 0, PM 32 2, PM 33 0, PM 34 2, PO 35 (.len false (.s 0)), PO 36 (.call 70 [(.s 2), (.s 0)]), PO 37 (.ixAddr 6 (.s 4) (.s 0)), PO 38 (.call 72 [(.s 6), (.s 0)])]) (.skip)) (.seq (.region false [ PM 39 2, VS 1 2 0]) (.ret))))))), [.t 1]⟩
noncomputable def t_9 : List (Nat × Ctr) := [(70, c_3), (58, c_4), (71, c_6), (72, c_8)]
theorem lk_9_70 : look t_9 70 = some c_3 := rfl
theorem lk_9_58 : look t_9 58 = some c_4 := rfl
theorem lk_9_71 : look t_9 71 = some c_6 := rfl
theorem lk_9_72 : look t_9 72 = some c_8 := rfl
noncomputable def c_9 : Ctr := mkN t_9 ir31 [.io]
theorem s_9 : Sound Try.prog 31 c_9 := mkN_sound _ (snd_cons s_3 (snd_cons s_4 (snd_cons s_6 (snd_cons s_8 snd_nil)))) (by kernel_rfl : chkFn Try.prog 31 ir31 ir31_v = true)
theorem M_9 : c_9.modes = [.io] := rfl
theorem Fl_9 : c_9.flat = false := rfl
attribute [go_sem] M_9 Fl_9
attribute [go_sem] lk_9_70 lk_9_58 lk_9_71 lk_9_72
def E_9_l1  : (L00Src × (List Request) × Int) → St
 | (s_, list, k) => ⟨[.ref 31 0 0, .any, .own 3200032, .any, .int .i64 k], [], [(31, ⟨3, [L00Src_av s_]⟩), (3200032, ⟨6, List.map Request_av list⟩)], true⟩
def R_9_l1  (y : L00Src × (List Request)) : Res := (.exit 0, ⟨[.ref 31 0 0, .any, .own 3200032, .any, .any], [], [(31, ⟨3, [L00Src_av y.1]⟩), (3200032, ⟨6, List.map Request_av y.2⟩)], true⟩)
theorem spec_l22Bent_l1_ex  {sgm_ : L00Src × (List Request) × Int} {rho_ : L00Src × (List Request)} (h : whileE (spec_l22Bent_l1) sgm_ = some rho_) : ∃ L0, ∀ L, L0 ≤ L → iter (exec (look t_9) L ir31_b0) ir31_k0 ir31_o0 ir31_r0 L (E_9_l1 sgm_) = R_9_l1 rho_ := by
 refine loop_ex (E := E_9_l1) (R := R_9_l1) (fun y => by first | (intro c; cases c) | (rcases y with y | y <;> (intro c; cases c)) | (rcases y with y | y | y <;> (intro c; cases c))) ?_ h
 clear h
 rintro ⟨s_, list, k⟩ o_ h
 dsimp only [spec_l22Bent_l1] at h
 rcases it_some h with ⟨z5, h⟩ | ⟨z5, h⟩
 ·try simp only [go_sem, n1, n2, n3, n4] at z5
  all_goals
  obtain ⟨y_6, z6, h⟩ := bd_some h
  have fz6 := Fs_6 z6
  try simp only [go_sem, z5] at fz6
  obtain ⟨z7, h⟩ := ck_some h
  try simp only [go_sem, n1, n2, n3, n4, z5] at z7
  all_goals
  obtain rfl := so_some h
  refine ⟨0, fun L hL => ?_⟩
  simp only [go_sem, ir31, E_9_l1, R_9_l1, ir31_b0, ir31_k0, ir31_o0, ir31_r0, z5, fz6, z7]
 ·try simp only [go_sem, n1, n2, n3, n4] at z5
  all_goals
  obtain rfl := so_some h
  refine ⟨0, fun L hL => ?_⟩
  simp only [go_sem, ir31, E_9_l1, R_9_l1, ir31_b0, ir31_k0, ir31_o0, ir31_r0, z5]

def E_9_l2  : (L00Src × (List Request) × Int) → St
 | (s_, list, k) => ⟨[.ref 31 0 0, .any, .own 3200032, .any, .int .i64 k], [], [(31, ⟨3, [L00Src_av s_]⟩), (3200032, ⟨6, List.map Request_av list⟩)], true⟩
def R_9_l2  (y : L00Src × (List Request)) : Res := (.exit 0, ⟨[.ref 31 0 0, .any, .own 3200032, .any, .any], [], [(31, ⟨3, [L00Src_av y.1]⟩), (3200032, ⟨6, List.map Request_av y.2⟩)], true⟩)
theorem spec_l22Bent_l2_ex  {sgm_ : L00Src × (List Request) × Int} {rho_ : L00Src × (List Request)} (h : whileE (spec_l22Bent_l2) sgm_ = some rho_) : ∃ L0, ∀ L, L0 ≤ L → iter (exec (look t_9) L ir31_b0) ir31_k0 ir31_o0 ir31_r0 L (E_9_l2 sgm_) = R_9_l2 rho_ := by
 refine loop_ex (E := E_9_l2) (R := R_9_l2) (fun y => by first | (intro c; cases c) | (rcases y with y | y <;> (intro c; cases c)) | (rcases y with y | y | y <;> (intro c; cases c))) ?_ h
 clear h
 rintro ⟨s_, list, k⟩ o_ h
 dsimp only [spec_l22Bent_l2] at h
 rcases it_some h with ⟨z15, h⟩ | ⟨z15, h⟩
 ·try simp only [go_sem, n1, n2, n3, n4] at z15
  all_goals
  obtain ⟨y_16, z16, h⟩ := bd_some h
  have fz16 := Fs_6 z16
  try simp only [go_sem, z15] at fz16
  obtain ⟨z17, h⟩ := ck_some h
  try simp only [go_sem, n1, n2, n3, n4, z15] at z17
  all_goals
  obtain rfl := so_some h
  refine ⟨0, fun L hL => ?_⟩
  simp only [go_sem, ir31, E_9_l2, R_9_l2, ir31_b0, ir31_k0, ir31_o0, ir31_r0, E_9_l1, R_9_l1, ir31_k0, ir31_o0, ir31_r0, z15, fz16, z17]
 ·try simp only [go_sem, n1, n2, n3, n4] at z15
  all_goals
  obtain rfl := so_some h
  refine ⟨0, fun L hL => ?_⟩
  simp only [go_sem, ir31, E_9_l2, R_9_l2, ir31_b0, ir31_k0, ir31_o0, ir31_r0, E_9_l1, R_9_l1, ir31_k0, ir31_o0, ir31_r0, z15]

theorem Fs_9 {s_ : L00Src} {y_ : (List Request) × L00Src} (h : spec_l22Bent s_ = some y_) : c_9.F [.mem 3 [L00Src_av s_] 0] = ⟨true, .fresh 6 (List.map Request_av y_.1), [.mem 3 [L00Src_av y_.2] 0]⟩ := by
 refine mkN_E ?_
 dsimp only [spec_l22Bent] at h
 obtain ⟨y_1, z1, h⟩ := bd_some h
 have fz1 := Fs_3 z1
 try simp only [go_sem] at fz1
 obtain ⟨y_2, z2, h⟩ := bd_some h
 have fz2 := Fs_4 z2
 try simp only [go_sem] at fz2
 rcases it_some h with ⟨z3, h⟩ | ⟨z3, h⟩
 ·try simp only [go_sem, n1, n2, n3, n4] at z3
  all_goals
  obtain ⟨y_4, z4, h⟩ := bd_some h
  have fz4 := Fs_3 z4
  try simp only [go_sem, z3] at fz4
  obtain ⟨y_8, z8, h⟩ := bd_some h
  obtain ⟨Lz8, ez8⟩ := spec_l22Bent_l1_ex z8
  rcases it_some h with ⟨z9, h⟩ | ⟨z9, h⟩
  ·try simp only [go_sem, n1, n2, n3, n4, z3] at z9
   all_goals
   obtain ⟨y_10, z10, h⟩ := bd_some h
   have fz10 := Fs_4 z10
   try simp only [go_sem, z3, z9] at fz10
   rcases it_some h with ⟨z11, h⟩ | ⟨z11, h⟩
   ·try simp only [go_sem, n1, n2, n3, n4, z3, z9] at z11
    all_goals
    obtain ⟨y_12, z12, h⟩ := bd_some h
    have fz12 := Fs_3 z12
    try simp only [go_sem, z3, z9, z11] at fz12
    obtain ⟨z13, h⟩ := ck_some h
    have lz13 := ix_lt z13
    have xz13 := getD_mapD Request_av y_8.2 lz13
    try simp only [go_sem] at lz13
    try simp only [go_sem] at xz13
    try simp only [go_sem, n1, n2, n3, n4, z3, z9, z11] at z13
    all_goals
    obtain ⟨y_14, z14, h⟩ := bd_some h
    have fz14 := Fs_8 z14
    try simp only [go_sem, z3, z9, z11, z13] at fz14
    obtain rfl := so_some h
    refine ⟨Lz8, fun L hL => ?_⟩
    have ez8 := ez8 L (by omega)
    try simp only [go_sem, E_9_l1, R_9_l1, ir31_k0, ir31_o0, ir31_r0, E_9_l2, R_9_l2, ir31_k0, ir31_o0, ir31_r0, z3, z9, z11, z13] at ez8
    simp only [go_sem, ir31, E_9_l1, R_9_l1, ir31_k0, ir31_o0, ir31_r0, E_9_l2, R_9_l2, ir31_k0, ir31_o0, ir31_r0, fz1, fz2, z3, fz4, z9, fz10, z11, fz12, z13, lz13, xz13, fz14, ez8]
   ·try simp only [go_sem, n1, n2, n3, n4, z3, z9] at z11
    all_goals
    obtain rfl := so_some h
    refine ⟨Lz8, fun L hL => ?_⟩
    have ez8 := ez8 L (by omega)
    try simp only [go_sem, E_9_l1, R_9_l1, ir31_k0, ir31_o0, ir31_r0, E_9_l2, R_9_l2, ir31_k0, ir31_o0, ir31_r0, z3, z9, z11] at ez8
    simp only [go_sem, ir31, E_9_l1, R_9_l1, ir31_k0, ir31_o0, ir31_r0, E_9_l2, R_9_l2, ir31_k0, ir31_o0, ir31_r0, fz1, fz2, z3, fz4, z9, fz10, z11, ez8]
  ·try simp only [go_sem, n1, n2, n3, n4, z3] at z9
   all_goals
   obtain rfl := so_some h
   refine ⟨Lz8, fun L hL => ?_⟩
   have ez8 := ez8 L (by omega)
   try simp only [go_sem, E_9_l1, R_9_l1, ir31_k0, ir31_o0, ir31_r0, E_9_l2, R_9_l2, ir31_k0, ir31_o0, ir31_r0, z3, z9] at ez8
   simp only [go_sem, ir31, E_9_l1, R_9_l1, ir31_k0, ir31_o0, ir31_r0, E_9_l2, R_9_l2, ir31_k0, ir31_o0, ir31_r0, fz1, fz2, z3, fz4, z9, ez8]
 ·try simp only [go_sem, n1, n2, n3, n4] at z3
  all_goals
  obtain ⟨y_18, z18, h⟩ := bd_some h
  obtain ⟨Lz18, ez18⟩ := spec_l22Bent_l2_ex z18
  rcases it_some h with ⟨z19, h⟩ | ⟨z19, h⟩
  ·try simp only [go_sem, n1, n2, n3, n4, z3] at z19
   all_goals
   obtain ⟨y_20, z20, h⟩ := bd_some h
   have fz20 := Fs_4 z20
   try simp only [go_sem, z3, z19] at fz20
   rcases it_some h with ⟨z21, h⟩ | ⟨z21, h⟩
   ·try simp only [go_sem, n1, n2, n3, n4, z3, z19] at z21
    all_goals
    obtain ⟨y_22, z22, h⟩ := bd_some h
    have fz22 := Fs_3 z22
    try simp only [go_sem, z3, z19, z21] at fz22
    obtain ⟨z23, h⟩ := ck_some h
    have lz23 := ix_lt z23
    have xz23 := getD_mapD Request_av y_18.2 lz23
    try simp only [go_sem] at lz23
    try simp only [go_sem] at xz23
    try simp only [go_sem, n1, n2, n3, n4, z3, z19, z21] at z23
    all_goals
    obtain ⟨y_24, z24, h⟩ := bd_some h
    have fz24 := Fs_8 z24
    try simp only [go_sem, z3, z19, z21, z23] at fz24
    obtain rfl := so_some h
    refine ⟨Lz18, fun L hL => ?_⟩
    have ez18 := ez18 L (by omega)
    try simp only [go_sem, E_9_l1, R_9_l1, ir31_k0, ir31_o0, ir31_r0, E_9_l2, R_9_l2, ir31_k0, ir31_o0, ir31_r0, z3, z19, z21, z23] at ez18
    simp only [go_sem, ir31, E_9_l1, R_9_l1, ir31_k0, ir31_o0, ir31_r0, E_9_l2, R_9_l2, ir31_k0, ir31_o0, ir31_r0, fz1, fz2, z3, z19, fz20, z21, fz22, z23, lz23, xz23, fz24, ez18]
   ·try simp only [go_sem, n1, n2, n3, n4, z3, z19] at z21
    all_goals
    obtain rfl := so_some h
    refine ⟨Lz18, fun L hL => ?_⟩
    have ez18 := ez18 L (by omega)
    try simp only [go_sem, E_9_l1, R_9_l1, ir31_k0, ir31_o0, ir31_r0, E_9_l2, R_9_l2, ir31_k0, ir31_o0, ir31_r0, z3, z19, z21] at ez18
    simp only [go_sem, ir31, E_9_l1, R_9_l1, ir31_k0, ir31_o0, ir31_r0, E_9_l2, R_9_l2, ir31_k0, ir31_o0, ir31_r0, fz1, fz2, z3, z19, fz20, z21, ez18]
  ·try simp only [go_sem, n1, n2, n3, n4, z3] at z19
   all_goals
   obtain rfl := so_some h
   refine ⟨Lz18, fun L hL => ?_⟩
   have ez18 := ez18 L (by omega)
   try simp only [go_sem, E_9_l1, R_9_l1, ir31_k0, ir31_o0, ir31_r0, E_9_l2, R_9_l2, ir31_k0, ir31_o0, ir31_r0, z3, z19] at ez18
   simp only [go_sem, ir31, E_9_l1, R_9_l1, ir31_k0, ir31_o0, ir31_r0, E_9_l2, R_9_l2, ir31_k0, ir31_o0, ir31_r0, fz1, fz2, z3, z19, ez18]


def ir32_v : List Nat := [0, 2]
def ir32 : AFn := ⟨1, 2, .seq (.region false [ VO 1 2 (.mov (.c (.str [])))]) (.seq (.region false [ PM 3 0, PO 4 (.mkSl 1 (.str []) 7 [(0, (.c (.str [109, 105, 114, 97]))), (1, (.c (.str [114, 114, 45, 108, 121, 114]))), (2, (.c (.str [115, 115, 45, 99, 121, 103]))), (3, (.c (.str [110, 111, 110, 101]))), (4, (.c (.str []))), (5, (.c (.str [97, 98]))), (6, (.c (.str [99, 100])))]), PO 5 (.call 73 [(.s 1), (.s 0)]), VS 1 2 0]) (.ret)), [.t 1]⟩
noncomputable def t_10 : List (Nat × Ctr) := [(73, c_5)]
theorem lk_10_73 : look t_10 73 = some c_5 := rfl
noncomputable def c_10 : Ctr := mkN t_10 ir32 [.io]
theorem s_10 : Sound Try.prog 32 c_10 := mkN_sound _ (snd_cons s_5 snd_nil) (by kernel_rfl : chkFn Try.prog 32 ir32 ir32_v = true)
theorem M_10 : c_10.modes = [.io] := rfl
theorem Fl_10 : c_10.flat = false := rfl
attribute [go_sem] M_10 Fl_10
attribute [go_sem] lk_10_73
theorem Fs_10 {s_ : L00Src} {y_ : (List UInt8) × L00Src} (h : spec_l06Name s_ = some y_) : c_10.F [.mem 3 [L00Src_av s_] 0] = ⟨true, .str y_.1, [.mem 3 [L00Src_av y_.2] 0]⟩ := by
 refine mkN_E ?_
 dsimp only [spec_l06Name] at h
 obtain ⟨y_1, z1, h⟩ := bd_some h
 have fz1 := Fs_5 z1
 try simp only [go_sem] at fz1
 obtain rfl := so_some h
 refine ⟨0, fun L hL => ?_⟩
 simp only [go_sem, ir32, fz1]


def ir33_v : List Nat := [0, 2]
def ir33 : AFn := ⟨1, 2, .seq (.region false [ VO 1 2 (.mov (I6 0))]) (.seq (.test false [ PM 3 0, PO 4 (.call 58 [(.s 0), (I6 12)])] (.s 0) (.seq (.region false [ PM 5 0, PO 6 (.mkSl 1 (.int .i64 (0)) 4 [(0, (.c (.int .i64 (-1)))), (1, (I6 0)), (2, (I6 10000000)), (3, (I6 10000001))]), PO 7 (.call 74 [(.s 1), (.s 0)]), VS 1 2 0]) (.ret)) (.skip)) (.seq (.region false [ PM 8 0, PO 9 (.call 70 [(.s 0), (I6 33)]), PO 10 (.bin false .mul (I6 1000) (.s 0)), VS 1 2 0]) (.ret))), [.t 1]⟩
noncomputable def t_11 : List (Nat × Ctr) := [(58, c_4), (74, c_7), (70, c_3)]
theorem lk_11_58 : look t_11 58 = some c_4 := rfl
theorem lk_11_74 : look t_11 74 = some c_7 := rfl
theorem lk_11_70 : look t_11 70 = some c_3 := rfl
noncomputable def c_11 : Ctr := mkN t_11 ir33 [.io]
theorem s_11 : Sound Try.prog 33 c_11 := mkN_sound _ (snd_cons s_4 (snd_cons s_7 (snd_cons s_3 snd_nil))) (by kernel_rfl : chkFn Try.prog 33 ir33 ir33_v = true)
theorem M_11 : c_11.modes = [.io] := rfl
theorem Fl_11 : c_11.flat = false := rfl
attribute [go_sem] M_11 Fl_11
attribute [go_sem] lk_11_58 lk_11_74 lk_11_70
theorem Fs_11 {s_ : L00Src} {y_ : Int × L00Src} (h : spec_l06When s_ = some y_) : c_11.F [.mem 3 [L00Src_av s_] 0] = ⟨true, .int .i64 y_.1, [.mem 3 [L00Src_av y_.2] 0]⟩ := by
 refine mkN_E ?_
 dsimp only [spec_l06When] at h
 obtain ⟨y_1, z1, h⟩ := bd_some h
 have fz1 := Fs_4 z1
 try simp only [go_sem] at fz1
 rcases it_some h with ⟨z2, h⟩ | ⟨z2, h⟩
 ·try simp only [go_sem, n1, n2, n3, n4] at z2
  all_goals
  obtain ⟨y_3, z3, h⟩ := bd_some h
  have fz3 := Fs_7 z3
  try simp only [go_sem, z2] at fz3
  obtain rfl := so_some h
  refine ⟨0, fun L hL => ?_⟩
  simp only [go_sem, ir33, fz1, z2, fz3]
 ·try simp only [go_sem, n1, n2, n3, n4] at z2
  all_goals
  obtain ⟨y_4, z4, h⟩ := bd_some h
  have fz4 := Fs_3 z4
  try simp only [go_sem, z2] at fz4
  obtain rfl := so_some h
  refine ⟨0, fun L hL => ?_⟩
  simp only [go_sem, ir33, fz1, z2, fz4]


def ir6_v : List Nat := [0, 2, 3, 4, 5, 6, 7]
def ir6 : AFn := ⟨1, 7, .seq (.region false [ VO 1 2 (.newnil 6), VO 2 3 (.mov (.c (.str []))), VO 3 4 (.mov (I6 0))]) (.seq (.region false [ PM 8 0, PO 9 (.call 30 [(.s 0)]), VS 4 5 0]) (.seq (.region false [ PM 10 4, PO 11 (.call 31 [(.s 0)]), VS 5 6 0]) (.seq (.region false [ PM 12 4, PO 13 (.call 32 [(.s 0)]), VS 6 7 0]) (.seq (.region false [ PM 14 5, PM 15 6, PM 16 4, PO 17 (.call 33 [(.s 0)]), VS 1 2 3, VS 2 3 2, VS 3 4 0]) (.ret))))), [.t 1, .t 2, .t 3]⟩
noncomputable def t_12 : List (Nat × Ctr) := [(30, c_1), (31, c_9), (32, c_10), (33, c_11)]
theorem lk_12_30 : look t_12 30 = some c_1 := rfl
theorem lk_12_31 : look t_12 31 = some c_9 := rfl
theorem lk_12_32 : look t_12 32 = some c_10 := rfl
theorem lk_12_33 : look t_12 33 = some c_11 := rfl
noncomputable def c_12 : Ctr := mkF t_12 ir6 [.bor]
theorem s_12 : Sound Try.prog 6 c_12 := mkF_sound _ rfl (snd_cons s_1 (snd_cons s_9 (snd_cons s_10 (snd_cons s_11 snd_nil)))) (by kernel_rfl : chkFn Try.prog 6 ir6 ir6_v = true)
theorem M_12 : c_12.modes = [.bor] := rfl
theorem Fl_12 : c_12.flat = true := rfl
attribute [go_sem] M_12 Fl_12
attribute [go_sem] lk_12_30 lk_12_31 lk_12_32 lk_12_33
theorem Fs_12 {code : List UInt8} {y_ : (List Request) × (List UInt8) × Int} (h : spec_DrawServeRequests code = some y_) : c_12.F [.sl 1 (List.map byteAV code)] = ⟨true, .tup [.fresh 6 (List.map Request_av y_.1), .str y_.2.1, .int .i64 y_.2.2], [.any]⟩ := by
 refine mkF_E (by simp only [flatA, flatB, flat1, List.all_cons, List.all_nil, Bool.and_self, flatE_map (f := Request_av) (fun _ => rfl)]) ?_
 dsimp only [spec_DrawServeRequests] at h
 obtain ⟨y_1, z1, h⟩ := bd_some h
 have fz1 := Fs_1 z1
 try simp only [go_sem] at fz1
 obtain ⟨y_2, z2, h⟩ := bd_some h
 have fz2 := Fs_9 z2
 try simp only [go_sem] at fz2
 obtain ⟨y_3, z3, h⟩ := bd_some h
 have fz3 := Fs_10 z3
 try simp only [go_sem] at fz3
 obtain ⟨y_4, z4, h⟩ := bd_some h
 have fz4 := Fs_11 z4
 try simp only [go_sem] at fz4
 obtain rfl := so_some h
 refine ⟨0, fun L hL => ?_⟩
 simp only [go_sem, ir6, fz1, fz2, fz3, fz4]


def ir61_v : List Nat := [0, 1, 2, 6]
def ir61 : AFn := ⟨3, 4, .seq (.region false [ VO 3 6 (.mov (.c (.bool false)))]) (.seq (.region false [ PM 7 0, PM 8 1, PO 9 (.bin false .geq (.s 1) (.s 0)), PO 10 (.mov (.s 0)), ⟨.push, 11, (some ((.s 0), true)), .mov (.v 0)⟩, ⟨.push, 12, (some ((.s 1), true)), .mov (.v 2)⟩, ⟨.push, 13, (some ((.s 2), true)), .bin false .leq (.s 1) (.s 0)⟩, PO 14 (.pick (.s 3) (.s 0) (.c (.bool false))), VS 3 6 0]) (.ret)), [.t 3]⟩
noncomputable def t_13 : List (Nat × Ctr) := []
noncomputable def c_13 : Ctr := mkF t_13 ir61 [.bor, .bor, .bor]
theorem s_13 : Sound Try.prog 61 c_13 := mkF_sound _ rfl snd_nil (by kernel_rfl : chkFn Try.prog 61 ir61 ir61_v = true)
theorem M_13 : c_13.modes = [.bor, .bor, .bor] := rfl
theorem Fl_13 : c_13.flat = true := rfl
attribute [go_sem] M_13 Fl_13
theorem Fs_13 {n : Int} {low : Int} {high : Int} {y_ : Bool} (h : impl_in n low high = some y_) : c_13.F [.int .i64 n, .int .i64 low, .int .i64 high] = ⟨true, .bool y_, [.any, .any, .any]⟩ := by
 refine mkF_E rfl ?_
 dsimp only [impl_in] at h
 obtain rfl := so_some h
 refine ⟨0, fun L hL => ?_⟩
 simp only [go_sem, ir61]


def ir34_v : List Nat := [0, 2]
def ir34 : AFn := ⟨1, 2, .seq (.region false [ VO 1 2 (.mov (.c (.bool false)))]) (.seq (.region false [ PM 3 0, PO 4 (.call 61 [(.s 0), (I6 0), (I6 10000000)]), VS 1 2 0]) (.ret)), [.t 1]⟩
noncomputable def t_14 : List (Nat × Ctr) := [(61, c_13)]
theorem lk_14_61 : look t_14 61 = some c_13 := rfl
noncomputable def c_14 : Ctr := mkF t_14 ir34 [.bor]
theorem s_14 : Sound Try.prog 34 c_14 := mkF_sound _ rfl (snd_cons s_13 snd_nil) (by kernel_rfl : chkFn Try.prog 34 ir34 ir34_v = true)
theorem M_14 : c_14.modes = [.bor] := rfl
theorem Fl_14 : c_14.flat = true := rfl
attribute [go_sem] M_14 Fl_14
attribute [go_sem] lk_14_61
theorem Fs_14 {t : Int} {y_ : Bool} (h : impl_ValidTime t = some y_) : c_14.F [.int .i64 t] = ⟨true, .bool y_, [.any]⟩ := by
 refine mkF_E rfl ?_
 dsimp only [impl_ValidTime] at h
 obtain ⟨y_1, z1, h⟩ := bd_some h
 have fz1 := Fs_13 z1
 try simp only [go_sem] at fz1
 obtain rfl := so_some h
 refine ⟨0, fun L hL => ?_⟩
 simp only [go_sem, ir34, fz1]


def ir35_b0 : IR := .seq (.region false [ VO 7 17 (.bin false .lss (.v 6) (.v 5))]) (.seq (.cond (.v 7) (.skip) (.exit 0)) (.seq (.block 1 (.seq (.region false [ PM 18 6, VS 2 3 0]) (.seq (.region false [ PM 19 0, PM 20 2, PO 21 (.ixStr (.s 1) (.s 0)), PO 22 (.bin false .geq (.s 0) (.c (.int .u8 (97)))), PO 23 (.mov (.s 0)), ⟨.push, 24, (some ((.s 0), true)), .mov (.v 0)⟩, ⟨.push, 25, (some ((.s 1), true)), .mov (.v 2)⟩, ⟨.push, 26, (some ((.s 2), true)), .ixStr (.s 1) (.s 0)⟩, ⟨.push, 27, (some ((.s 3), true)), .bin false .leq (.s 0) (.c (.int .u8 (122)))⟩, PO 28 (.pick (.s 4) (.s 0) (.c
 (.bool false))), VS 3 4 0]) (.seq (.region false [ PM 29 0, PM 30 2, PO 31 (.ixStr (.s 1) (.s 0)), PO 32 (.bin false .geq (.s 0) (.c (.int .u8 (48)))), PO 33 (.mov (.s 0)), ⟨.push, 34, (some ((.s 0), true)), .mov (.v 0)⟩, ⟨.push, 35, (some ((.s 1), true)), .mov (.v 2)⟩, ⟨.push, 36, (some ((.s 2), true)), .ixStr (.s 1) (.s 0)⟩, ⟨.push, 37, (some ((.s 3), true)), .bin false .leq (.s 0) (.c (.int .u8 (57)))⟩, PO 38 (.pick (.s 4) (.s 0) (.c (.bool false))), PO 39 (.mov (.s 0)), ⟨.push, 40, (some ((.s 0), false)), .mov (.v 0)⟩, ⟨.push, 41, (some ((.s 1), false)), .mov (.v 2)⟩, ⟨.push, 42, (some
 ((.s 2), false)), .ixStr (.s 1) (.s 0)⟩, ⟨.push, 43, (some ((.s 3), false)), .bin false .eql (.s 0) (.c (.int .u8 (45)))⟩, PO 44 (.pick (.s 4) (.c (.bool true)) (.s 0)), VS 4 5 0]) (.test false [ PM 45 3, PO 46 (.un .not (.s 0)), PO 47 (.mov (.s 0)), ⟨.push, 48, (some ((.s 0), true)), .mov (.v 2)⟩, ⟨.push, 49, (some ((.s 1), true)), .bin false .eql (.s 0) (I6 0)⟩, ⟨.push, 50, (some ((.s 2), true)), .mov (.s 0)⟩, ⟨.push, 51, (some ((.s 0), false)), .mov (.v 4)⟩, ⟨.push, 52, (some ((.s 1), false)), .un .not (.s 0)⟩, ⟨.push, 53, (some ((.s 5), true)), .pick (.s 2) (.c (.bool true)) (.s 0)⟩, PO 54
 (.pick (.s 6) (.s 0) (.c (.bool false)))] (.s 0) (.seq (.region false [ VO 1 2 (.mov (.c (.bool false)))]) (.ret)) (.skip)))))) (.region false [ PO 55 (.bin false .add (.v 6) (I6 1)), VS 6 16 0])))
def ir35_k0 : List Bool := [true, false, false, false, false, true, true, false]
def ir35_o0 : List Bool := [false, false, false, false, false, false, false, false]
def ir35_r0 : List Bool := [false, true, false, false, false, false, false, false]
def ir35_v : List Nat := [0, 2, 3, 4, 5, 15, 16, 17]
def ir35 : AFn := ⟨1, 8, .seq (.region false [ VO 1 2 (.mov (.c (.bool false)))]) (.seq (.test false [ PM 6 0, PO 7 (.len true (.s 0)), PO 8 (.bin false .lss (.s 0) (I6 1)), PO 9 (.mov (.s 0)), ⟨.push, 10, (some ((.s 0), false)), .mov (.v 0)⟩, ⟨.push, 11, (some ((.s 1), false)), .len true (.s 0)⟩, ⟨.push, 12, (some ((.s 2), false)), .bin false .gtr (.s 0) (I6 12)⟩, PO 13 (.pick (.s 3) (.c (.bool true)) (.s 0))] (.s 0) (.seq (.region false [ VO 1 2 (.mov (.c (.bool false)))]) (.ret)) (.skip)) (.seq (.seq (.region false [ PM 14 0, VO 5 15 (.len true (.s 0)), VO 6 16 (.mov (I6 0))]) (.block 0
 (.loop ir35_k0 ir35_o0 ir35_r0 ir35_b0))) (.seq (.region false [ VO 1 2 (.mov (.c (.bool true)))]) (.ret)))), [.t 1]⟩
noncomputable def t_15 : List (Nat × Ctr) := []
noncomputable def c_15 : Ctr := mkF t_15 ir35 [.bor]
theorem s_15 : Sound Try.prog 35 c_15 := mkF_sound _ rfl snd_nil (by kernel_rfl : chkFn Try.prog 35 ir35 ir35_v = true)
theorem M_15 : c_15.modes = [.bor] := rfl
theorem Fl_15 : c_15.flat = true := rfl
attribute [go_sem] M_15 Fl_15
def E_15_l1 (s_ : List UInt8) (t15 : Int) : Int → St
 | t16 => ⟨[.str s_, .any, .any, .any, .any, .int .i64 t15, .int .i64 t16, .any], [], [], true⟩
def R_15_l1 (s_ : List UInt8) (t15 : Int) : (Unit ⊕ Bool) → Res
 | .inl y => (.exit 0, ⟨[.any, .any, .any, .any, .any, .any, .any, .any], [], [], true⟩)
 | .inr y => (.ret, ⟨[.any, .bool y, .any, .any, .any, .any, .any, .any], [], [], true⟩)
theorem impl_IsName_l1_ex {s_ : List UInt8} {t15 : Int} {sgm_ : Int} {rho_ : Unit ⊕ Bool} (h : whileE (impl_IsName_l1 s_ t15) sgm_ = some rho_) : ∃ L0, ∀ L, L0 ≤ L → iter (exec (look t_15) L ir35_b0) ir35_k0 ir35_o0 ir35_r0 L (E_15_l1 s_ t15 sgm_) = R_15_l1 s_ t15 rho_ := by
 refine loop_ex (E := E_15_l1 s_ t15) (R := R_15_l1 s_ t15) (fun y => by first | (intro c; cases c) | (rcases y with y | y <;> (intro c; cases c)) | (rcases y with y | y | y <;> (intro c; cases c))) ?_ h
 clear h
 intro t16 o_ h
 dsimp only [impl_IsName_l1] at h
 rcases it_some h with ⟨z2, h⟩ | ⟨z2, h⟩
 ·try simp only [go_sem, n1, n2, n3, n4] at z2
  all_goals
  obtain ⟨z3, h⟩ := ck_some h
  try simp only [go_sem, n1, n2, n3, n4, z2] at z3
  all_goals
  rcases it_some h with ⟨z4, h⟩ | ⟨z4, h⟩
  ·try simp only [go_sem, n1, n2, n3, n4, z2, z3] at z4
   all_goals
   obtain rfl := so_some h
   refine ⟨0, fun L hL => ?_⟩
   simp only [go_sem, ir35, E_15_l1, R_15_l1, ir35_b0, ir35_k0, ir35_o0, ir35_r0, z2, z3, z4]
  ·try simp only [go_sem, n1, n2, n3, n4, z2, z3] at z4
   all_goals
   obtain rfl := so_some h
   refine ⟨0, fun L hL => ?_⟩
   simp only [go_sem, ir35, E_15_l1, R_15_l1, ir35_b0, ir35_k0, ir35_o0, ir35_r0, z2, z3, z4]
 ·try simp only [go_sem, n1, n2, n3, n4] at z2
  all_goals
  obtain rfl := so_some h
  refine ⟨0, fun L hL => ?_⟩
  simp only [go_sem, ir35, E_15_l1, R_15_l1, ir35_b0, ir35_k0, ir35_o0, ir35_r0, z2]

theorem Fs_15 {s_ : List UInt8} {y_ : Bool} (h : impl_IsName s_ = some y_) : c_15.F [.str s_] = ⟨true, .bool y_, [.any]⟩ := by
 refine mkF_E rfl ?_
 dsimp only [impl_IsName] at h
 rcases it_some h with ⟨z1, h⟩ | ⟨z1, h⟩
 ·try simp only [go_sem, n1, n2, n3, n4] at z1
  all_goals
  obtain rfl := so_some h
  refine ⟨0, fun L hL => ?_⟩
  simp only [go_sem, ir35, E_15_l1, R_15_l1, ir35_k0, ir35_o0, ir35_r0, z1]
 ·try simp only [go_sem, n1, n2, n3, n4] at z1
  all_goals
  obtain ⟨y_5, z5, h⟩ := bd_some h
  obtain ⟨Lz5, ez5⟩ := impl_IsName_l1_ex z5
  rcases y_5 with y_5a | y_5b
  ·dsimp only at h
   obtain rfl := so_some h
   refine ⟨Lz5, fun L hL => ?_⟩
   have ez5 := ez5 L (by omega)
   try simp only [go_sem, E_15_l1, R_15_l1, ir35_k0, ir35_o0, ir35_r0, z1] at ez5
   simp only [go_sem, ir35, E_15_l1, R_15_l1, ir35_k0, ir35_o0, ir35_r0, z1, ez5]
  ·dsimp only at h
   obtain rfl := so_some h
   refine ⟨Lz5, fun L hL => ?_⟩
   have ez5 := ez5 L (by omega)
   try simp only [go_sem, E_15_l1, R_15_l1, ir35_k0, ir35_o0, ir35_r0, z1] at ez5
   simp only [go_sem, ir35, E_15_l1, R_15_l1, ir35_k0, ir35_o0, ir35_r0, z1, ez5]


def ir56_v : List Nat := [0, 1, 2, 3]
def ir56 : AFn := ⟨1, 4, .seq (.region false [ VO 1 1 (.box (.v 0)), VO 2 2 (.mov (.c (.bool false)))]) (.seq (.region false [ PO 4 (.fldAddr 1 (.v 1)), PO 5 (.load false 1 (.s 0)), PO 6 (.call 34 [(.s 0)]), PO 7 (.mov (.s 0)), ⟨.push, 8, (some ((.s 0), true)), .fldAddr 2 (.v 1)⟩, ⟨.push, 9, (some ((.s 1), true)), .load false 1 (.s 0)⟩, ⟨.push, 10, (some ((.s 2), true)), .call 34 [(.s 0)]⟩, PO 11 (.pick (.s 3) (.s 0) (.c (.bool false))), PO 12 (.mov (.s 0)), ⟨.push, 13, (some ((.s 0), true)), .fldAddr 1 (.v 1)⟩, ⟨.push, 14, (some ((.s 1), true)), .load false 1 (.s 0)⟩, ⟨.push, 15, (some ((.s
 2), true)), .fldAddr 2 (.v 1)⟩, ⟨.push, 16, (some ((.s 3), true)), .load false 1 (.s 0)⟩, ⟨.push, 17, (some ((.s 4), true)), .bin false .leq (.s 2) (.s 0)⟩, PO 18 (.pick (.s 5) (.s 0) (.c (.bool false))), VS 3 3 0]) (.seq (.region false [ PO 19 (.fldAddr 0 (.v 1)), PO 20 (.load false 1 (.s 0)), PO 21 (.call 35 [(.s 0)]), PO 22 (.mov (.s 0)), ⟨.push, 23, (some ((.s 0), true)), .mov (.v 3)⟩, PO 24 (.pick (.s 1) (.s 0) (.c (.bool false))), PO 25 (.mov (.s 0)), ⟨.push, 26, (some ((.s 0), true)), .fldAddr 3 (.v 1)⟩, ⟨.push, 27, (some ((.s 1), true)), .load false 1 (.s 0)⟩, ⟨.push, 28, (some ((.s
 2), true)), .call 61 [(.s 0), (I6 1), (I6 100)]⟩, PO 29 (.pick (.s 3) (.s 0) (.c (.bool false))), PO 30 (.mov (.s 0)), ⟨.push, 31, (some ((.s 0), true)), .fldAddr 4 (.v 1)⟩, ⟨.push, 32, (some ((.s 1), true)), .load false 1 (.s 0)⟩, ⟨.push, 33, (some ((.s 2), true)), .fldAddr 3 (.v 1)⟩, ⟨.push, 34, (some ((.s 3), true)), .load false 1 (.s 0)⟩, ⟨.push, 35, (some ((.s 4), true)), .call 61 [(.s 2), (I6 0), (.s 0)]⟩, PO 36 (.pick (.s 5) (.s 0) (.c (.bool false))), PO 37 (.mov (.s 0)), ⟨.push, 38, (some ((.s 0), true)), .fldAddr 5 (.v 1)⟩, ⟨.push, 39, (some ((.s 1), true)), .load false 1 (.s 0)⟩,
 ⟨.push, 40, (some ((.s 2), true)), .call 61 [(.s 0), (I6 1), (I6 5)]⟩, PO 41 (.pick (.s 3) (.s 0) (.c (.bool false))), VS 2 2 0]) (.ret))), [.t 2]⟩
noncomputable def t_16 : List (Nat × Ctr) := [(34, c_14), (35, c_15), (61, c_13)]
theorem lk_16_34 : look t_16 34 = some c_14 := rfl
theorem lk_16_35 : look t_16 35 = some c_15 := rfl
theorem lk_16_61 : look t_16 61 = some c_13 := rfl
noncomputable def c_16 : Ctr := mkF t_16 ir56 [.bor]
theorem s_16 : Sound Try.prog 56 c_16 := mkF_sound _ rfl (snd_cons s_14 (snd_cons s_15 (snd_cons s_13 snd_nil))) (by kernel_rfl : chkFn Try.prog 56 ir56 ir56_v = true)
theorem M_16 : c_16.modes = [.bor] := rfl
theorem Fl_16 : c_16.flat = true := rfl
attribute [go_sem] M_16 Fl_16
attribute [go_sem] lk_16_34 lk_16_35 lk_16_61
theorem Fs_16 {x : Request} {y_ : Bool} (h : impl_isRequest x = some y_) : c_16.F [Request_av x] = ⟨true, .bool y_, [.any]⟩ := by
 refine mkF_E rfl ?_
 dsimp only [impl_isRequest] at h
 obtain ⟨y_1, z1, h⟩ := bd_some h
 have fz1 := Fs_14 z1
 try simp only [go_sem] at fz1
 obtain ⟨z2, h⟩ := ck_some h
 rcases or_split z2 with ⟨gz2, z2⟩ | gz2
 ·try simp only [go_sem, n1, n2, n3, n4] at gz2
  all_goals
  obtain ⟨y_2, hz2⟩ := Option.isSome_iff_exists.1 z2
  have fz2 := Fs_14 hz2
  try simp only [go_sem, n1, n2, n3, n4, gz2] at hz2
  all_goals
  try simp only [go_sem, gz2] at fz2
  obtain ⟨y_3, z3, h⟩ := bd_some h
  have fz3 := Fs_15 z3
  try simp only [go_sem, gz2, hz2] at fz3
  obtain ⟨z4, h⟩ := ck_some h
  rcases or_split z4 with ⟨gz4, z4⟩ | gz4
  ·try simp only [go_sem, n1, n2, n3, n4, gz2, hz2] at gz4
   all_goals
   obtain ⟨y_4, hz4⟩ := Option.isSome_iff_exists.1 z4
   have fz4 := Fs_13 hz4
   try simp only [go_sem, n1, n2, n3, n4, gz2, hz2, gz4] at hz4
   all_goals
   try simp only [go_sem, gz2, hz2, gz4] at fz4
   obtain ⟨z5, h⟩ := ck_some h
   rcases or_split z5 with ⟨gz5, z5⟩ | gz5
   ·try simp only [go_sem, n1, n2, n3, n4, gz2, hz2, gz4, hz4] at gz5
    all_goals
    obtain ⟨y_5, hz5⟩ := Option.isSome_iff_exists.1 z5
    have fz5 := Fs_13 hz5
    try simp only [go_sem, n1, n2, n3, n4, gz2, hz2, gz4, hz4, gz5] at hz5
    all_goals
    try simp only [go_sem, gz2, hz2, gz4, hz4, gz5] at fz5
    obtain ⟨z6, h⟩ := ck_some h
    rcases or_split z6 with ⟨gz6, z6⟩ | gz6
    ·try simp only [go_sem, n1, n2, n3, n4, gz2, hz2, gz4, hz4, gz5, hz5] at gz6
     all_goals
     obtain ⟨y_6, hz6⟩ := Option.isSome_iff_exists.1 z6
     have fz6 := Fs_13 hz6
     try simp only [go_sem, n1, n2, n3, n4, gz2, hz2, gz4, hz4, gz5, hz5, gz6] at hz6
     all_goals
     try simp only [go_sem, gz2, hz2, gz4, hz4, gz5, hz5, gz6] at fz6
     obtain rfl := so_some h
     refine ⟨0, fun L hL => ?_⟩
     simp only [go_sem, ir56, fz1, gz2, hz2, fz2, fz3, gz4, hz4, fz4, gz5, hz5, fz5, gz6, hz6, fz6]
    ·rcases and_f gz6 with gz6a | ⟨gz6a, gz6b⟩
     ·try simp only [go_sem, n1, n2, n3, n4, gz2, hz2, gz4, hz4, gz5, hz5] at gz6a
      all_goals
      (simp_all)
     ·obtain ⟨gz6aa, gz6ab⟩ := and_t gz6a
      obtain ⟨gz6aaa, gz6aab⟩ := and_t gz6aa
      obtain ⟨gz6aaba, gz6aabb⟩ := and_t gz6aab
      obtain ⟨gz6aabaa, gz6aabab⟩ := and_t gz6aaba
      try simp only [go_sem, n1, n2, n3, n4, gz2, hz2, gz4, hz4, gz5, hz5] at gz6aaa
      all_goals
      try simp only [go_sem, n1, n2, n3, n4, gz2, hz2, gz4, hz4, gz5, hz5, gz6aaa] at gz6aabaa
      all_goals
      try simp only [go_sem, n1, n2, n3, n4, gz2, hz2, gz4, hz4, gz5, hz5, gz6aaa, gz6aabaa] at gz6aabab
      all_goals
      try simp only [go_sem, n1, n2, n3, n4, gz2, hz2, gz4, hz4, gz5, hz5, gz6aaa, gz6aabaa, gz6aabab] at gz6aabb
      all_goals
      try simp only [go_sem, n1, n2, n3, n4, gz2, hz2, gz4, hz4, gz5, hz5, gz6aaa, gz6aabaa, gz6aabab, gz6aabb] at gz6ab
      all_goals
      try simp only [go_sem, n1, n2, n3, n4, gz2, hz2, gz4, hz4, gz5, hz5, gz6aaa, gz6aabaa, gz6aabab, gz6aabb, gz6ab] at gz6b
      all_goals
      obtain rfl := so_some h
      refine ⟨0, fun L hL => ?_⟩
      simp only [go_sem, ir56, fz1, gz2, hz2, fz2, fz3, gz4, hz4, fz4, gz5, hz5, fz5, gz6aaa, gz6aabaa, gz6aabab, gz6aabb, gz6ab, gz6b]
   ·rcases and_f gz5 with gz5a | ⟨gz5a, gz5b⟩
    ·try simp only [go_sem, n1, n2, n3, n4, gz2, hz2, gz4, hz4] at gz5a
     all_goals
     (simp_all)
    ·obtain ⟨gz5aa, gz5ab⟩ := and_t gz5a
     obtain ⟨gz5aba, gz5abb⟩ := and_t gz5ab
     obtain ⟨gz5abaa, gz5abab⟩ := and_t gz5aba
     try simp only [go_sem, n1, n2, n3, n4, gz2, hz2, gz4, hz4] at gz5aa
     all_goals
     try simp only [go_sem, n1, n2, n3, n4, gz2, hz2, gz4, hz4, gz5aa] at gz5abaa
     all_goals
     try simp only [go_sem, n1, n2, n3, n4, gz2, hz2, gz4, hz4, gz5aa, gz5abaa] at gz5abab
     all_goals
     try simp only [go_sem, n1, n2, n3, n4, gz2, hz2, gz4, hz4, gz5aa, gz5abaa, gz5abab] at gz5abb
     all_goals
     try simp only [go_sem, n1, n2, n3, n4, gz2, hz2, gz4, hz4, gz5aa, gz5abaa, gz5abab, gz5abb] at gz5b
     all_goals
     obtain ⟨z6, h⟩ := ck_some h
     obtain rfl := so_some h
     refine ⟨0, fun L hL => ?_⟩
     simp only [go_sem, ir56, fz1, gz2, hz2, fz2, fz3, gz4, hz4, fz4, gz5aa, gz5abaa, gz5abab, gz5abb, gz5b]
  ·rcases and_f gz4 with gz4a | ⟨gz4a, gz4b⟩
   ·try simp only [go_sem, n1, n2, n3, n4, gz2, hz2] at gz4a
    all_goals
    obtain ⟨z5, h⟩ := ck_some h
    obtain ⟨z6, h⟩ := ck_some h
    obtain rfl := so_some h
    refine ⟨0, fun L hL => ?_⟩
    simp only [go_sem, ir56, fz1, gz2, hz2, fz2, fz3, gz4a]
   ·rcases and_f gz4b with gz4ba | ⟨gz4ba, gz4bb⟩
    ·rcases and_f gz4ba with gz4baa | ⟨gz4baa, gz4bab⟩
     ·try simp only [go_sem, n1, n2, n3, n4, gz2, hz2, gz4a] at gz4baa
      all_goals
      (simp_all)
     ·try simp only [go_sem, n1, n2, n3, n4, gz2, hz2] at gz4a
      all_goals
      try simp only [go_sem, n1, n2, n3, n4, gz2, hz2, gz4a] at gz4baa
      all_goals
      try simp only [go_sem, n1, n2, n3, n4, gz2, hz2, gz4a, gz4baa] at gz4bab
      all_goals
      obtain ⟨z5, h⟩ := ck_some h
      obtain ⟨z6, h⟩ := ck_some h
      obtain rfl := so_some h
      refine ⟨0, fun L hL => ?_⟩
      simp only [go_sem, ir56, fz1, gz2, hz2, fz2, fz3, gz4a, gz4baa, gz4bab]
    ·obtain ⟨gz4baa, gz4bab⟩ := and_t gz4ba
     try simp only [go_sem, n1, n2, n3, n4, gz2, hz2] at gz4a
     all_goals
     try simp only [go_sem, n1, n2, n3, n4, gz2, hz2, gz4a] at gz4baa
     all_goals
     try simp only [go_sem, n1, n2, n3, n4, gz2, hz2, gz4a, gz4baa] at gz4bab
     all_goals
     try simp only [go_sem, n1, n2, n3, n4, gz2, hz2, gz4a, gz4baa, gz4bab] at gz4bb
     all_goals
     obtain ⟨z5, h⟩ := ck_some h
     obtain ⟨z6, h⟩ := ck_some h
     obtain rfl := so_some h
     refine ⟨0, fun L hL => ?_⟩
     simp only [go_sem, ir56, fz1, gz2, hz2, fz2, fz3, gz4a, gz4baa, gz4bab, gz4bb]
 ·try simp only [go_sem, n1, n2, n3, n4] at gz2
  all_goals
  obtain ⟨y_3, z3, h⟩ := bd_some h
  have fz3 := Fs_15 z3
  try simp only [go_sem, gz2] at fz3
  obtain ⟨z4, h⟩ := ck_some h
  obtain ⟨z5, h⟩ := ck_some h
  obtain ⟨z6, h⟩ := ck_some h
  obtain rfl := so_some h
  refine ⟨0, fun L hL => ?_⟩
  simp only [go_sem, ir56, fz1, gz2, fz3]


def ir55_v : List Nat := [0, 1, 2]
def ir55 : AFn := ⟨1, 3, .seq (.region false [ VO 1 1 (.box (.v 0)), VO 2 2 (.mov (.c (.bool false)))]) (.seq (.region false [ PO 3 (.load true 6 (.v 1)), PO 4 (.call 56 [(.s 0)]), PO 5 (.un .not (.s 0)), VS 2 2 0]) (.ret)), [.t 2]⟩
noncomputable def t_17 : List (Nat × Ctr) := [(56, c_16)]
theorem lk_17_56 : look t_17 56 = some c_16 := rfl
noncomputable def c_17 : Ctr := mkF t_17 ir55 [.bor]
theorem s_17 : Sound Try.prog 55 c_17 := mkF_sound _ rfl (snd_cons s_16 snd_nil) (by kernel_rfl : chkFn Try.prog 55 ir55 ir55_v = true)
theorem M_17 : c_17.modes = [.bor] := rfl
theorem Fl_17 : c_17.flat = true := rfl
attribute [go_sem] M_17 Fl_17
attribute [go_sem] lk_17_56
theorem Fs_17 {x : Request} {y_ : Bool} (h : impl_ValidRequests_c1 x = some y_) : c_17.F [Request_av x] = ⟨true, .bool y_, [.any]⟩ := by
 refine mkF_E rfl ?_
 dsimp only [impl_ValidRequests_c1] at h
 obtain ⟨y_1, z1, h⟩ := bd_some h
 have fz1 := Fs_16 z1
 try simp only [go_sem] at fz1
 obtain rfl := so_some h
 refine ⟨0, fun L hL => ?_⟩
 simp only [go_sem, ir55, fz1]


def ir89_b0 : IR := .seq (.region false [ VO 6 9 (.bin false .lss (.v 5) (.v 4))]) (.seq (.cond (.v 6) (.skip) (.exit 0)) (.seq (.block 1 (.seq (.region false [ PM 10 5, VS 3 5 0]) (.test false [ PM 11 1, PM 12 0, PM 13 3, PO 14 (.ixAddr 6 (.s 1) (.s 0)), PO 15 (.load true 6 (.s 0)), PO 16 (.callv (.s 4) [(.s 0)])] (.s 0) (.seq (.region false [ PM 17 3, VS 2 4 0]) (.ret)) (.skip)))) (.region false [ PO 18 (.bin false .add (.v 5) (I6 1)), VS 5 8 0])))
def ir89_k0 : List Bool := [true, true, false, false, true, true, false]
def ir89_o0 : List Bool := [false, false, false, false, false, false, false]
def ir89_r0 : List Bool := [false, false, true, false, false, false, false]
def ir89_v : List Nat := [0, 1, 4, 5, 7, 8, 9]
def ir89 : AFn := ⟨2, 7, .seq (.region false [ VO 2 4 (.mov (I6 0))]) (.seq (.seq (.region false [ PM 6 0, VO 4 7 (.len false (.s 0)), VO 5 8 (.mov (I6 0))]) (.block 0 (.loop ir89_k0 ir89_o0 ir89_r0 ir89_b0))) (.seq (.region false [ VO 2 4 (.mov (.c (.int .i64 (-1))))]) (.ret))), [.t 2]⟩
noncomputable def t_18 : List (Nat × Ctr) := [(55, c_17)]
theorem lk_18_55 : look t_18 55 = some c_17 := rfl
noncomputable def c_18 : Ctr := mkF t_18 ir89 [.bor, .bor]
theorem s_18 : Sound Try.prog 89 c_18 := mkF_sound _ rfl (snd_cons s_17 snd_nil) (by kernel_rfl : chkFn Try.prog 89 ir89 ir89_v = true)
theorem M_18 : c_18.modes = [.bor, .bor] := rfl
theorem Fl_18 : c_18.flat = true := rfl
attribute [go_sem] M_18 Fl_18
attribute [go_sem] lk_18_55
def E_18_l1 (s_ : List Request) (t7 : Int) : Int → St
 | t8 => ⟨[.sl 6 (List.map Request_av s_), .fn (.func 55) [] [], .any, .any, .int .i64 t7, .int .i64 t8, .any], [], [], true⟩
def R_18_l1 (s_ : List Request) (t7 : Int) : (Unit ⊕ Int) → Res
 | .inl y => (.exit 0, ⟨[.any, .any, .any, .any, .any, .any, .any], [], [], true⟩)
 | .inr y => (.ret, ⟨[.any, .any, .int .i64 y, .any, .any, .any, .any], [], [], true⟩)
theorem slices_IndexFunc_impl_Request_impl_Request__impl_ValidRequests_c1_l1_ex {s_ : List Request} {t7 : Int} {sgm_ : Int} {rho_ : Unit ⊕ Int} (h : whileE (slices_IndexFunc_impl_Request_impl_Request__impl_ValidRequests_c1_l1 s_ t7) sgm_ = some rho_) : ∃ L0, ∀ L, L0 ≤ L → iter (exec (look t_18) L ir89_b0) ir89_k0 ir89_o0 ir89_r0 L (E_18_l1 s_ t7 sgm_) = R_18_l1 s_ t7 rho_ := by
 refine loop_ex (E := E_18_l1 s_ t7) (R := R_18_l1 s_ t7) (fun y => by first | (intro c; cases c) | (rcases y with y | y <;> (intro c; cases c)) | (rcases y with y | y | y <;> (intro c; cases c))) ?_ h
 clear h
 intro t8 o_ h
 dsimp only [slices_IndexFunc_impl_Request_impl_Request__impl_ValidRequests_c1_l1] at h
 rcases it_some h with ⟨z1, h⟩ | ⟨z1, h⟩
 ·try simp only [go_sem, n1, n2, n3, n4] at z1
  all_goals
  obtain ⟨z2, h⟩ := ck_some h
  have lz2 := ix_lt z2
  have xz2 := getD_mapD Request_av s_ lz2
  try simp only [go_sem] at lz2
  try simp only [go_sem] at xz2
  try simp only [go_sem, n1, n2, n3, n4, z1] at z2
  all_goals
  obtain ⟨y_3, z3, h⟩ := bd_some h
  have fz3 := Fs_17 z3
  try simp only [go_sem, z1, z2] at fz3
  rcases it_some h with ⟨z4, h⟩ | ⟨z4, h⟩
  ·try simp only [go_sem, n1, n2, n3, n4, z1, z2] at z4
   all_goals
   obtain rfl := so_some h
   refine ⟨0, fun L hL => ?_⟩
   simp only [go_sem, ir89, E_18_l1, R_18_l1, ir89_b0, ir89_k0, ir89_o0, ir89_r0, z1, z2, lz2, xz2, fz3, z4]
  ·try simp only [go_sem, n1, n2, n3, n4, z1, z2] at z4
   all_goals
   obtain rfl := so_some h
   refine ⟨0, fun L hL => ?_⟩
   simp only [go_sem, ir89, E_18_l1, R_18_l1, ir89_b0, ir89_k0, ir89_o0, ir89_r0, z1, z2, lz2, xz2, fz3, z4]
 ·try simp only [go_sem, n1, n2, n3, n4] at z1
  all_goals
  obtain rfl := so_some h
  refine ⟨0, fun L hL => ?_⟩
  simp only [go_sem, ir89, E_18_l1, R_18_l1, ir89_b0, ir89_k0, ir89_o0, ir89_r0, z1]

theorem Fs_18 {s_ : List Request} {y_ : Int} (h : slices_IndexFunc_impl_Request_impl_Request__impl_ValidRequests_c1 s_ = some y_) : c_18.F [.sl 6 (List.map Request_av s_), .fn (.func 55) [] []] = ⟨true, .int .i64 y_, [.any, .any]⟩ := by
 refine mkF_E rfl ?_
 dsimp only [slices_IndexFunc_impl_Request_impl_Request__impl_ValidRequests_c1] at h
 obtain ⟨y_5, z5, h⟩ := bd_some h
 obtain ⟨Lz5, ez5⟩ := slices_IndexFunc_impl_Request_impl_Request__impl_ValidRequests_c1_l1_ex z5
 rcases y_5 with y_5a | y_5b
 ·dsimp only at h
  obtain rfl := so_some h
  refine ⟨Lz5, fun L hL => ?_⟩
  have ez5 := ez5 L (by omega)
  try simp only [go_sem, E_18_l1, R_18_l1, ir89_k0, ir89_o0, ir89_r0] at ez5
  simp only [go_sem, ir89, E_18_l1, R_18_l1, ir89_k0, ir89_o0, ir89_r0, ez5]
 ·dsimp only at h
  obtain rfl := so_some h
  refine ⟨Lz5, fun L hL => ?_⟩
  have ez5 := ez5 L (by omega)
  try simp only [go_sem, E_18_l1, R_18_l1, ir89_k0, ir89_o0, ir89_r0] at ez5
  simp only [go_sem, ir89, E_18_l1, R_18_l1, ir89_k0, ir89_o0, ir89_r0, ez5]


def ir54_v : List Nat := [0, 1, 4]
def ir54 : AFn := ⟨2, 3, .seq (.region false [ VO 2 4 (.mov (.c (.bool false)))]) (.seq (.region false [ PM 5 0, PM 6 1, PO 7 (.call 89 [(.s 1), (.s 0)]), PO 8 (.bin false .geq (.s 0) (I6 0)), VS 2 4 0]) (.ret)), [.t 2]⟩
noncomputable def t_19 : List (Nat × Ctr) := [(89, c_18)]
theorem lk_19_89 : look t_19 89 = some c_18 := rfl
noncomputable def c_19 : Ctr := mkF t_19 ir54 [.bor, .bor]
theorem s_19 : Sound Try.prog 54 c_19 := mkF_sound _ rfl (snd_cons s_18 snd_nil) (by kernel_rfl : chkFn Try.prog 54 ir54 ir54_v = true)
theorem M_19 : c_19.modes = [.bor, .bor] := rfl
theorem Fl_19 : c_19.flat = true := rfl
attribute [go_sem] M_19 Fl_19
attribute [go_sem] lk_19_89
theorem Fs_19 {s_ : List Request} {y_ : Bool} (h : slices_ContainsFunc_impl_Request_impl_Request__impl_ValidRequests_c1 s_ = some y_) : c_19.F [.sl 6 (List.map Request_av s_), .fn (.func 55) [] []] = ⟨true, .bool y_, [.any, .any]⟩ := by
 refine mkF_E rfl ?_
 dsimp only [slices_ContainsFunc_impl_Request_impl_Request__impl_ValidRequests_c1] at h
 obtain ⟨y_1, z1, h⟩ := bd_some h
 have fz1 := Fs_18 z1
 try simp only [go_sem] at fz1
 obtain rfl := so_some h
 refine ⟨0, fun L hL => ?_⟩
 simp only [go_sem, ir54, fz1]


def ir20_v : List Nat := [0, 2]
def ir20 : AFn := ⟨1, 2, .seq (.region false [ VO 1 2 (.mov (.c (.bool false)))]) (.seq (.region false [ PM 3 0, PO 4 (.len false (.s 0)), PO 5 (.bin false .leq (.s 0) (I6 30)), PO 6 (.mov (.s 0)), ⟨.push, 7, (some ((.s 0), true)), .mov (.v 0)⟩, ⟨.push, 8, (some ((.s 1), true)), .call 54 [(.s 0), (.c (.fn (.func 55) [] []))]⟩, ⟨.push, 9, (some ((.s 2), true)), .un .not (.s 0)⟩, PO 10 (.pick (.s 3) (.s 0) (.c (.bool false))), VS 1 2 0]) (.ret)), [.t 1]⟩
noncomputable def t_20 : List (Nat × Ctr) := [(54, c_19)]
theorem lk_20_54 : look t_20 54 = some c_19 := rfl
noncomputable def c_20 : Ctr := mkF t_20 ir20 [.bor]
theorem s_20 : Sound Try.prog 20 c_20 := mkF_sound _ rfl (snd_cons s_19 snd_nil) (by kernel_rfl : chkFn Try.prog 20 ir20 ir20_v = true)
theorem M_20 : c_20.modes = [.bor] := rfl
theorem Fl_20 : c_20.flat = true := rfl
attribute [go_sem] M_20 Fl_20
attribute [go_sem] lk_20_54
theorem Fs_20 {list : List Request} {y_ : Bool} (h : impl_ValidRequests list = some y_) : c_20.F [.sl 6 (List.map Request_av list)] = ⟨true, .bool y_, [.any]⟩ := by
 refine mkF_E rfl ?_
 dsimp only [impl_ValidRequests] at h
 obtain ⟨z1, h⟩ := ck_some h
 rcases or_split z1 with ⟨gz1, z1⟩ | gz1
 ·try simp only [go_sem, n1, n2, n3, n4] at gz1
  all_goals
  obtain ⟨y_1, hz1⟩ := Option.isSome_iff_exists.1 z1
  have fz1 := Fs_19 hz1
  try simp only [go_sem, n1, n2, n3, n4, gz1] at hz1
  all_goals
  try simp only [go_sem, gz1] at fz1
  obtain rfl := so_some h
  refine ⟨0, fun L hL => ?_⟩
  simp only [go_sem, ir20, gz1, hz1, fz1]
 ·try simp only [go_sem, n1, n2, n3, n4] at gz1
  all_goals
  obtain rfl := so_some h
  refine ⟨0, fun L hL => ?_⟩
  simp only [go_sem, ir20, gz1]


def ir36_v : List Nat := [0, 2]
def ir36 : AFn := ⟨1, 2, .seq (.region false [ VO 1 2 (.newnil 6)]) (.seq (.region false [ PO 3 (.mkSl 6 (.agg [.str [], .int .i64 (0), .int .i64 (0), .int .i64 (0), .int .i64 (0), .int .i64 (0)]) 0 []), PM 4 0, PO 5 (.app 6 56 (.agg [.str [], .int .i64 (0), .int .i64 (0), .int .i64 (0), .int .i64 (0), .int .i64 (0)]) (.s 1) (.s 0)), VS 1 2 0]) (.ret)), [.t 1]⟩
noncomputable def t_21 : List (Nat × Ctr) := []
noncomputable def c_21 : Ctr := mkF t_21 ir36 [.bor]
theorem s_21 : Sound Try.prog 36 c_21 := mkF_sound _ rfl snd_nil (by kernel_rfl : chkFn Try.prog 36 ir36 ir36_v = true)
theorem M_21 : c_21.modes = [.bor] := rfl
theorem Fl_21 : c_21.flat = true := rfl
attribute [go_sem] M_21 Fl_21
theorem Fs_21 {list : List Request} {y_ : (List Request)} (h : impl_copyOf_impl_Request list = some y_) : c_21.F [.sl 6 (List.map Request_av list)] = ⟨true, .fresh 6 (List.map Request_av y_), [.any]⟩ := by
 refine mkF_E (by simp only [flatA, flatB, flat1, List.all_cons, List.all_nil, Bool.and_self, flatE_map (f := Request_av) (fun _ => rfl)]) ?_
 dsimp only [impl_copyOf_impl_Request] at h
 obtain ⟨z1, h⟩ := ck_some h
 try simp only [go_sem, n1, n2, n3, n4] at z1
 all_goals
 obtain rfl := so_some h
 refine ⟨0, fun L hL => ?_⟩
 simp only [go_sem, ir36, z1]


def ir53_v : List Nat := [0, 1, 2, 4]
def ir53 : AFn := ⟨2, 4, .seq (.region false [ VO 2 2 (.box (.v 0)), VO 3 4 (.mov (.c (.bool false)))]) (.seq (.region false [ PM 5 1, PO 6 (.fldAddr 1 (.v 2)), PO 7 (.load false 1 (.s 0)), PO 8 (.fldAddr 2 (.v 2)), PO 9 (.load false 1 (.s 0)), PO 10 (.call 61 [(.s 4), (.s 2), (.s 0)]), PO 11 (.mov (.s 0)), ⟨.push, 12, (some ((.s 0), true)), .fldAddr 4 (.v 2)⟩, ⟨.push, 13, (some ((.s 1), true)), .load false 1 (.s 0)⟩, ⟨.push, 14, (some ((.s 2), true)), .fldAddr 3 (.v 2)⟩, ⟨.push, 15, (some ((.s 3), true)), .load false 1 (.s 0)⟩, ⟨.push, 16, (some ((.s 4), true)), .bin false .lss (.s 2) (.s 0)⟩,
 PO 17 (.pick (.s 5) (.s 0) (.c (.bool false))), VS 3 4 0]) (.ret)), [.t 3]⟩
noncomputable def t_22 : List (Nat × Ctr) := [(61, c_13)]
theorem lk_22_61 : look t_22 61 = some c_13 := rfl
noncomputable def c_22 : Ctr := mkF t_22 ir53 [.bor, .bor]
theorem s_22 : Sound Try.prog 53 c_22 := mkF_sound _ rfl (snd_cons s_13 snd_nil) (by kernel_rfl : chkFn Try.prog 53 ir53 ir53_v = true)
theorem M_22 : c_22.modes = [.bor, .bor] := rfl
theorem Fl_22 : c_22.flat = true := rfl
attribute [go_sem] M_22 Fl_22
attribute [go_sem] lk_22_61
theorem Fs_22 {x : Request} {t : Int} {y_ : Bool} (h : impl_Request_open x t = some y_) : c_22.F [Request_av x, .int .i64 t] = ⟨true, .bool y_, [.any, .any]⟩ := by
 refine mkF_E rfl ?_
 dsimp only [impl_Request_open] at h
 obtain ⟨y_1, z1, h⟩ := bd_some h
 have fz1 := Fs_13 z1
 try simp only [go_sem] at fz1
 obtain rfl := so_some h
 refine ⟨0, fun L hL => ?_⟩
 simp only [go_sem, ir53, fz1]


def ir37_b0 : IR := .seq (.region false [ VO 8 11 (.bin false .lss (.v 7) (.v 6))]) (.seq (.cond (.v 8) (.skip) (.exit 0)) (.seq (.block 1 (.seq (.region false [ PM 12 7, PO 13 (.ixAddr 6 (.v 5) (.v 7)), PO 14 (.load true 6 (.s 0)), VO 4 7 (.alloc (.agg [.str [], .int .i64 (0), .int .i64 (0), .int .i64 (0), .int .i64 (0), .int .i64 (0)])), VS 3 6 2, ⟨.no, 0, none, .store 6 (.v 4) (.s 0)⟩]) (.test false [ PO 15 (.fldAddr 0 (.v 4)), PO 16 (.load false 1 (.s 0)), PM 17 1, PO 18 (.bin false .eql (.s 1) (.s 0)), PO 19 (.mov (.s 0)), ⟨.push, 20, (some ((.s 0), true)), .load true 6 (.v 4)⟩, ⟨.push,
 21, (some ((.s 1), true)), .mov (.v 2)⟩, ⟨.push, 22, (some ((.s 2), true)), .call 53 [(.s 1), (.s 0)]⟩, PO 23 (.pick (.s 3) (.s 0) (.c (.bool false)))] (.s 0) (.region false [ PM 24 0, PM 25 3, PO 26 (.ixAddr 6 (.s 1) (.s 0)), PO 27 (.fldAddr 4 (.s 0)), PO 28 (.load false 1 (.s 0)), PO 29 (.bin false .add (.s 0) (I6 1)), PO 30 (.ixAddr 6 (.s 5) (.s 4)), PO 31 (.fldAddr 4 (.s 0)), ⟨.no, 0, none, .store 1 (.s 0) (.s 2)⟩]) (.skip)))) (.region false [ PO 32 (.bin false .add (.v 7) (I6 1)), VS 7 10 0])))
def ir37_k0 : List Bool := [true, true, true, false, false, true, true, true, false]
def ir37_o0 : List Bool := [true, false, false, false, false, false, false, false, false]
def ir37_r0 : List Bool := [true, false, false, false, false, false, false, false, false]
def ir37_v : List Nat := [0, 1, 2, 6, 7, 8, 9, 10, 11]
def ir37 : AFn := ⟨3, 9, .seq (.region false [ VO 5 8 (.mov (.v 0)), VO 6 9 (.len false (.v 5)), VO 7 10 (.mov (I6 0))]) (.block 0 (.loop ir37_k0 ir37_o0 ir37_r0 ir37_b0)), []⟩
noncomputable def t_23 : List (Nat × Ctr) := [(53, c_22)]
theorem lk_23_53 : look t_23 53 = some c_22 := rfl
noncomputable def c_23 : Ctr := mkN t_23 ir37 [.io, .bor, .bor]
theorem s_23 : Sound Try.prog 37 c_23 := mkN_sound _ (snd_cons s_22 snd_nil) (by kernel_rfl : chkFn Try.prog 37 ir37 ir37_v = true)
theorem M_23 : c_23.modes = [.io, .bor, .bor] := rfl
theorem Fl_23 : c_23.flat = false := rfl
attribute [go_sem] M_23 Fl_23
attribute [go_sem] lk_23_53
def E_23_l1 (star : List UInt8) (t : Int) (t9 : Int) : ((List Request) × Int) → St
 | (list, t10) => ⟨[.own 31, .str star, .int .i64 t, .any, .any, .own 31, .int .i64 t9, .int .i64 t10, .any], [], [(31, ⟨6, List.map Request_av list⟩)], true⟩
def R_23_l1 (star : List UInt8) (t : Int) (t9 : Int) (y : (List Request)) : Res := (.exit 0, ⟨[.own 31, .any, .any, .any, .any, .any, .any, .any, .any], [], [(31, ⟨6, List.map Request_av y⟩)], true⟩)
theorem impl_serve_l1_ex {star : List UInt8} {t : Int} {t9 : Int} {sgm_ : (List Request) × Int} {rho_ : (List Request)} (h : whileE (impl_serve_l1 star t t9) sgm_ = some rho_) : ∃ L0, ∀ L, L0 ≤ L → iter (exec (look t_23) L ir37_b0) ir37_k0 ir37_o0 ir37_r0 L (E_23_l1 star t t9 sgm_) = R_23_l1 star t t9 rho_ := by
 refine loop_ex (E := E_23_l1 star t t9) (R := R_23_l1 star t t9) (fun y => by first | (intro c; cases c) | (rcases y with y | y <;> (intro c; cases c)) | (rcases y with y | y | y <;> (intro c; cases c))) ?_ h
 clear h
 rintro ⟨list, t10⟩ o_ h
 dsimp only [impl_serve_l1] at h
 rcases it_some h with ⟨z1, h⟩ | ⟨z1, h⟩
 ·try simp only [go_sem, n1, n2, n3, n4] at z1
  all_goals
  obtain ⟨z2, h⟩ := ck_some h
  have lz2 := ix_lt z2
  have xz2 := getD_mapD Request_av list lz2
  try simp only [go_sem] at lz2
  try simp only [go_sem] at xz2
  try simp only [go_sem, n1, n2, n3, n4, z1] at z2
  all_goals
  obtain ⟨z3, h⟩ := ck_some h
  rcases or_split z3 with ⟨gz3, z3⟩ | gz3
  ·try simp only [go_sem, n1, n2, n3, n4, z1, z2] at gz3
   all_goals
   obtain ⟨y_3, hz3⟩ := Option.isSome_iff_exists.1 z3
   have fz3 := Fs_22 hz3
   try simp only [go_sem, n1, n2, n3, n4, z1, z2, gz3] at hz3
   all_goals
   try simp only [go_sem, z1, z2, gz3] at fz3
   rcases it_some h with ⟨z4, h⟩ | ⟨z4, h⟩
   ·try simp only [go_sem, n1, n2, n3, n4, z1, z2, gz3, hz3] at z4
    all_goals
    obtain rfl := so_some h
    refine ⟨0, fun L hL => ?_⟩
    simp only [go_sem, ir37, E_23_l1, R_23_l1, ir37_b0, ir37_k0, ir37_o0, ir37_r0, z1, z2, lz2, xz2, gz3, hz3, fz3, z4]
   ·try simp only [go_sem, n1, n2, n3, n4, z1, z2, gz3, hz3] at z4
    all_goals
    obtain rfl := so_some h
    refine ⟨0, fun L hL => ?_⟩
    simp only [go_sem, ir37, E_23_l1, R_23_l1, ir37_b0, ir37_k0, ir37_o0, ir37_r0, z1, z2, lz2, xz2, gz3, hz3, fz3, z4]
  ·try simp only [go_sem, n1, n2, n3, n4, z1, z2] at gz3
   all_goals
   rcases it_some h with ⟨z4, h⟩ | ⟨z4, h⟩
   ·try simp only [go_sem, n1, n2, n3, n4, z1, z2, gz3] at z4
    all_goals
    (simp_all)
   ·try simp only [go_sem, n1, n2, n3, n4, z1, z2, gz3] at z4
    all_goals
    obtain rfl := so_some h
    refine ⟨0, fun L hL => ?_⟩
    simp only [go_sem, ir37, E_23_l1, R_23_l1, ir37_b0, ir37_k0, ir37_o0, ir37_r0, z1, z2, lz2, xz2, gz3, z4]
 ·try simp only [go_sem, n1, n2, n3, n4] at z1
  all_goals
  obtain rfl := so_some h
  refine ⟨0, fun L hL => ?_⟩
  simp only [go_sem, ir37, E_23_l1, R_23_l1, ir37_b0, ir37_k0, ir37_o0, ir37_r0, z1]

theorem Fs_23 {list : List Request} {star : List UInt8} {t : Int} {y_ : (List Request)} (h : impl_serve list star t = some y_) : c_23.F [.fresh 6 (List.map Request_av list), .str star, .int .i64 t] = ⟨true, .cv undef, [.fresh 6 (List.map Request_av y_), .any, .any]⟩ := by
 refine mkN_E ?_
 dsimp only [impl_serve] at h
 obtain ⟨y_5, z5, h⟩ := bd_some h
 obtain ⟨Lz5, ez5⟩ := impl_serve_l1_ex z5
 obtain ⟨z6, h⟩ := ck_some h
 try simp only [go_sem, n1, n2, n3, n4] at z6
 all_goals
 obtain rfl := so_some h
 refine ⟨Lz5, fun L hL => ?_⟩
 have ez5 := ez5 L (by omega)
 try simp only [go_sem, E_23_l1, R_23_l1, ir37_k0, ir37_o0, ir37_r0, z6] at ez5
 simp only [go_sem, ir37, E_23_l1, R_23_l1, ir37_k0, ir37_o0, ir37_r0, z6, ez5]


def ir7_v : List Nat := [0, 1, 2, 6, 7, 8]
def ir7 : AFn := ⟨3, 6, .seq (.region false [ VO 3 6 (.newnil 6), VO 4 7 (.mov (I6 0))]) (.seq (.block 0 (.test false [ PM 10 0, PO 11 (.call 20 [(.s 0)]), PO 12 (.un .not (.s 0)), PO 9 (.mov (.s 0))] (.s 0) (.seq (.region false [ VO 3 6 (.newnil 6), VO 4 7 (.mov (I6 1))]) (.ret)) (.test false [ PM 14 2, PO 15 (.call 34 [(.s 0)]), PO 16 (.un .not (.s 0)), PO 17 (.mov (.s 0)), ⟨.push, 18, (some ((.s 0), false)), .mov (.v 1)⟩, ⟨.push, 19, (some ((.s 1), false)), .call 35 [(.s 0)]⟩, ⟨.push, 20, (some ((.s 2), false)), .un .not (.s 0)⟩, PO 21 (.pick (.s 3) (.c (.bool true)) (.s 0)), PO 13 (.mov (.s
 0))] (.s 0) (.seq (.region false [ VO 3 6 (.newnil 6), VO 4 7 (.mov (I6 2))]) (.ret)) (.skip)))) (.seq (.region false [ PM 22 0, PO 23 (.call 36 [(.s 0)]), VS 5 8 0]) (.seq (.region false [ PM 24 5, PM 25 1, PM 26 2, PO 27 (.call 37 [(.s 2), (.s 1), (.s 0)])]) (.seq (.region false [ PM 28 5, VS 3 6 0, VO 4 7 (.mov (I6 0))]) (.ret))))), [.t 3, .t 4]⟩
noncomputable def t_24 : List (Nat × Ctr) := [(20, c_20), (34, c_14), (35, c_15), (36, c_21), (37, c_23)]
theorem lk_24_20 : look t_24 20 = some c_20 := rfl
theorem lk_24_34 : look t_24 34 = some c_14 := rfl
theorem lk_24_35 : look t_24 35 = some c_15 := rfl
theorem lk_24_36 : look t_24 36 = some c_21 := rfl
theorem lk_24_37 : look t_24 37 = some c_23 := rfl
noncomputable def c_24 : Ctr := mkF t_24 ir7 [.bor, .bor, .bor]
theorem s_24 : Sound Try.prog 7 c_24 := mkF_sound _ rfl (snd_cons s_20 (snd_cons s_14 (snd_cons s_15 (snd_cons s_21 (snd_cons s_23 snd_nil))))) (by kernel_rfl : chkFn Try.prog 7 ir7 ir7_v = true)
theorem M_24 : c_24.modes = [.bor, .bor, .bor] := rfl
theorem Fl_24 : c_24.flat = true := rfl
attribute [go_sem] M_24 Fl_24
attribute [go_sem] lk_24_20 lk_24_34 lk_24_35 lk_24_36 lk_24_37
theorem Fs_24 {list : List Request} {star : List UInt8} {t : Int} {y_ : (List Request) × Int} (h : impl_ServeRequests list star t = some y_) : c_24.F [.sl 6 (List.map Request_av list), .str star, .int .i64 t] = ⟨true, .tup [.fresh 6 (List.map Request_av y_.1), .int .i64 y_.2], [.any, .any, .any]⟩ := by
 refine mkF_E (by simp only [flatA, flatB, flat1, List.all_cons, List.all_nil, Bool.and_self, flatE_map (f := Request_av) (fun _ => rfl)]) ?_
 dsimp only [impl_ServeRequests] at h
 obtain ⟨y_1, z1, h⟩ := bd_some h
 have fz1 := Fs_20 z1
 try simp only [go_sem] at fz1
 rcases it_some h with ⟨z2, h⟩ | ⟨z2, h⟩
 ·try simp only [go_sem, n1, n2, n3, n4] at z2
  all_goals
  obtain rfl := so_some h
  refine ⟨0, fun L hL => ?_⟩
  simp only [go_sem, ir7, fz1, z2]
 ·try simp only [go_sem, n1, n2, n3, n4] at z2
  all_goals
  obtain ⟨y_3, z3, h⟩ := bd_some h
  have fz3 := Fs_14 z3
  try simp only [go_sem, z2] at fz3
  obtain ⟨z4, h⟩ := ck_some h
  rcases or_split z4 with ⟨gz4, z4⟩ | gz4
  ·try simp only [go_sem, n1, n2, n3, n4, z2] at gz4
   all_goals
   obtain ⟨y_4, hz4⟩ := Option.isSome_iff_exists.1 z4
   have fz4 := Fs_15 hz4
   try simp only [go_sem, n1, n2, n3, n4, z2, gz4] at hz4
   all_goals
   try simp only [go_sem, z2, gz4] at fz4
   rcases it_some h with ⟨z5, h⟩ | ⟨z5, h⟩
   ·try simp only [go_sem, n1, n2, n3, n4, z2, gz4, hz4] at z5
    all_goals
    obtain rfl := so_some h
    refine ⟨0, fun L hL => ?_⟩
    simp only [go_sem, ir7, fz1, z2, fz3, gz4, hz4, fz4, z5]
   ·try simp only [go_sem, n1, n2, n3, n4, z2, gz4, hz4] at z5
    all_goals
    obtain ⟨y_6, z6, h⟩ := bd_some h
    have fz6 := Fs_21 z6
    try simp only [go_sem, z2, gz4, hz4, z5] at fz6
    obtain ⟨y_7, z7, h⟩ := bd_some h
    have fz7 := Fs_23 z7
    try simp only [go_sem, z2, gz4, hz4, z5] at fz7
    obtain rfl := so_some h
    refine ⟨0, fun L hL => ?_⟩
    simp only [go_sem, ir7, fz1, z2, fz3, gz4, hz4, fz4, z5, fz6, fz7]
  ·have gz4n := no_f gz4
   have gz4nn := no_t gz4n
   try simp only [go_sem, n1, n2, n3, n4, z2] at gz4nn
   all_goals
   rcases it_some h with ⟨z5, h⟩ | ⟨z5, h⟩
   ·try simp only [go_sem, n1, n2, n3, n4, z2, gz4nn] at z5
    all_goals
    obtain rfl := so_some h
    refine ⟨0, fun L hL => ?_⟩
    simp only [go_sem, ir7, fz1, z2, fz3, gz4nn, z5]
   ·try simp only [go_sem, n1, n2, n3, n4, z2, gz4nn] at z5
    all_goals
    (simp_all)


def ir76_v : List Nat := [0, 2]
def ir76 : AFn := ⟨1, 2, .seq (.region false [ VO 1 2 (.mov (.c (.bool false)))]) (.seq (.region false [ PM 3 0, PO 4 (.bin false .geq (.s 0) (.c (.int .u8 (97)))), PO 5 (.mov (.s 0)), ⟨.push, 6, (some ((.s 0), true)), .mov (.v 0)⟩, ⟨.push, 7, (some ((.s 1), true)), .bin false .leq (.s 0) (.c (.int .u8 (122)))⟩, PO 8 (.pick (.s 2) (.s 0) (.c (.bool false))), VS 1 2 0]) (.ret)), [.t 1]⟩
noncomputable def t_25 : List (Nat × Ctr) := []
noncomputable def c_25 : Ctr := mkF t_25 ir76 [.bor]
theorem s_25 : Sound Try.prog 76 c_25 := mkF_sound _ rfl snd_nil (by kernel_rfl : chkFn Try.prog 76 ir76 ir76_v = true)
theorem M_25 : c_25.modes = [.bor] := rfl
theorem Fl_25 : c_25.flat = true := rfl
attribute [go_sem] M_25 Fl_25
theorem Fs_25 {c : UInt8} {y_ : Bool} (h : spec_l01Small c = some y_) : c_25.F [.int .u8 (c.toNat : Int)] = ⟨true, .bool y_, [.any]⟩ := by
 refine mkF_E rfl ?_
 dsimp only [spec_l01Small] at h
 obtain rfl := so_some h
 refine ⟨0, fun L hL => ?_⟩
 simp only [go_sem, ir76]


def ir77_v : List Nat := [0, 2]
def ir77 : AFn := ⟨1, 2, .seq (.region false [ VO 1 2 (.mov (.c (.bool false)))]) (.seq (.region false [ PM 3 0, PO 4 (.bin false .geq (.s 0) (.c (.int .u8 (48)))), PO 5 (.mov (.s 0)), ⟨.push, 6, (some ((.s 0), true)), .mov (.v 0)⟩, ⟨.push, 7, (some ((.s 1), true)), .bin false .leq (.s 0) (.c (.int .u8 (57)))⟩, PO 8 (.pick (.s 2) (.s 0) (.c (.bool false))), VS 1 2 0]) (.ret)), [.t 1]⟩
noncomputable def t_26 : List (Nat × Ctr) := []
noncomputable def c_26 : Ctr := mkF t_26 ir77 [.bor]
theorem s_26 : Sound Try.prog 77 c_26 := mkF_sound _ rfl snd_nil (by kernel_rfl : chkFn Try.prog 77 ir77 ir77_v = true)
theorem M_26 : c_26.modes = [.bor] := rfl
theorem Fl_26 : c_26.flat = true := rfl
attribute [go_sem] M_26 Fl_26
theorem Fs_26 {c : UInt8} {y_ : Bool} (h : spec_l01Digit c = some y_) : c_26.F [.int .u8 (c.toNat : Int)] = ⟨true, .bool y_, [.any]⟩ := by
 refine mkF_E rfl ?_
 dsimp only [spec_l01Digit] at h
 obtain rfl := so_some h
 refine ⟨0, fun L hL => ?_⟩
 simp only [go_sem, ir77]


def ir39_b0 : IR := .seq (.test false [ PM 17 2, PM 18 0, PO 19 (.len true (.s 0)), PO 20 (.bin false .lss (.s 2) (.s 0))] (.s 0) (.skip) (.exit 0)) (.seq (.block 1 (.test false [ PM 23 0, PM 24 2, PO 25 (.ixStr (.s 1) (.s 0)), PO 26 (.call 76 [(.s 0)]), PO 27 (.un .not (.s 0)), PO 28 (.mov (.s 0)), ⟨.push, 29, (some ((.s 0), true)), .mov (.v 0)⟩, ⟨.push, 30, (some ((.s 1), true)), .mov (.v 2)⟩, ⟨.push, 31, (some ((.s 2), true)), .ixStr (.s 1) (.s 0)⟩, ⟨.push, 32, (some ((.s 3), true)), .call 77 [(.s 0)]⟩, ⟨.push, 33, (some ((.s 4), true)), .un .not (.s 0)⟩, PO 34 (.pick (.s 5) (.s 0) (.c
 (.bool false))), PO 35 (.mov (.s 0)), ⟨.push, 36, (some ((.s 0), true)), .mov (.v 0)⟩, ⟨.push, 37, (some ((.s 1), true)), .mov (.v 2)⟩, ⟨.push, 38, (some ((.s 2), true)), .ixStr (.s 1) (.s 0)⟩, ⟨.push, 39, (some ((.s 3), true)), .bin false .neq (.s 0) (.c (.int .u8 (45)))⟩, PO 40 (.pick (.s 4) (.s 0) (.c (.bool false)))] (.s 0) (.seq (.region false [ VO 1 2 (.mov (.c (.bool false)))]) (.ret)) (.skip))) (.region false [ PM 21 2, PO 22 (.bin false .add (.s 0) (I6 1)), VS 2 3 0]))
def ir39_k0 : List Bool := [true, false, true]
def ir39_o0 : List Bool := [false, false, false]
def ir39_r0 : List Bool := [false, true, false]
def ir39_v : List Nat := [0, 2, 3]
def ir39 : AFn := ⟨1, 3, .seq (.region false [ VO 1 2 (.mov (.c (.bool false)))]) (.seq (.test false [ PM 4 0, PO 5 (.bin false .eql (.s 0) (.c (.str []))), PO 6 (.mov (.s 0)), ⟨.push, 7, (some ((.s 0), false)), .mov (.v 0)⟩, ⟨.push, 8, (some ((.s 1), false)), .len true (.s 0)⟩, ⟨.push, 9, (some ((.s 2), false)), .bin false .gtr (.s 0) (I6 12)⟩, PO 10 (.pick (.s 3) (.c (.bool true)) (.s 0)), PO 11 (.mov (.s 0)), ⟨.push, 12, (some ((.s 0), false)), .mov (.v 0)⟩, ⟨.push, 13, (some ((.s 1), false)), .ixStr (.s 0) (I6 0)⟩, ⟨.push, 14, (some ((.s 2), false)), .call 76 [(.s 0)]⟩, ⟨.push, 15, (some
 ((.s 3), false)), .un .not (.s 0)⟩, PO 16 (.pick (.s 4) (.c (.bool true)) (.s 0))] (.s 0) (.seq (.region false [ VO 1 2 (.mov (.c (.bool false)))]) (.ret)) (.skip)) (.seq (.seq (.region false [ VO 2 3 (.mov (I6 0))]) (.block 0 (.loop ir39_k0 ir39_o0 ir39_r0 ir39_b0))) (.seq (.region false [ VO 1 2 (.mov (.c (.bool true)))]) (.ret)))), [.t 1]⟩
noncomputable def t_27 : List (Nat × Ctr) := [(76, c_25), (77, c_26)]
theorem lk_27_76 : look t_27 76 = some c_25 := rfl
theorem lk_27_77 : look t_27 77 = some c_26 := rfl
noncomputable def c_27 : Ctr := mkF t_27 ir39 [.bor]
theorem s_27 : Sound Try.prog 39 c_27 := mkF_sound _ rfl (snd_cons s_25 (snd_cons s_26 snd_nil)) (by kernel_rfl : chkFn Try.prog 39 ir39 ir39_v = true)
theorem M_27 : c_27.modes = [.bor] := rfl
theorem Fl_27 : c_27.flat = true := rfl
attribute [go_sem] M_27 Fl_27
attribute [go_sem] lk_27_76 lk_27_77
def E_27_l1 (s_ : List UInt8) : Int → St
 | i => ⟨[.str s_, .any, .int .i64 i], [], [], true⟩
def R_27_l1 (s_ : List UInt8) : (Unit ⊕ Bool) → Res
 | .inl y => (.exit 0, ⟨[.any, .any, .any], [], [], true⟩)
 | .inr y => (.ret, ⟨[.any, .bool y, .any], [], [], true⟩)
theorem spec_IsName_l1_ex {s_ : List UInt8} {sgm_ : Int} {rho_ : Unit ⊕ Bool} (h : whileE (spec_IsName_l1 s_) sgm_ = some rho_) : ∃ L0, ∀ L, L0 ≤ L → iter (exec (look t_27) L ir39_b0) ir39_k0 ir39_o0 ir39_r0 L (E_27_l1 s_ sgm_) = R_27_l1 s_ rho_ := by
 refine loop_ex (E := E_27_l1 s_) (R := R_27_l1 s_) (fun y => by first | (intro c; cases c) | (rcases y with y | y <;> (intro c; cases c)) | (rcases y with y | y | y <;> (intro c; cases c))) ?_ h
 clear h
 intro i o_ h
 dsimp only [spec_IsName_l1] at h
 rcases it_some h with ⟨z4, h⟩ | ⟨z4, h⟩
 ·try simp only [go_sem, n1, n2, n3, n4] at z4
  all_goals
  obtain ⟨z5, h⟩ := ck_some h
  try simp only [go_sem, n1, n2, n3, n4, z4] at z5
  all_goals
  obtain ⟨y_6, z6, h⟩ := bd_some h
  have fz6 := Fs_25 z6
  try simp only [go_sem, z4, z5] at fz6
  obtain ⟨z7, h⟩ := ck_some h
  rcases or_split z7 with ⟨gz7, z7⟩ | gz7
  ·try simp only [go_sem, n1, n2, n3, n4, z4, z5] at gz7
   all_goals
   obtain ⟨y_7, hz7⟩ := Option.isSome_iff_exists.1 z7
   have fz7 := Fs_26 hz7
   try simp only [go_sem, n1, n2, n3, n4, z4, z5, gz7] at hz7
   all_goals
   try simp only [go_sem, z4, z5, gz7] at fz7
   rcases it_some h with ⟨z8, h⟩ | ⟨z8, h⟩
   ·try simp only [go_sem, n1, n2, n3, n4, z4, z5, gz7, hz7] at z8
    all_goals
    obtain rfl := so_some h
    refine ⟨0, fun L hL => ?_⟩
    simp only [go_sem, ir39, E_27_l1, R_27_l1, ir39_b0, ir39_k0, ir39_o0, ir39_r0, z4, z5, fz6, gz7, hz7, fz7, z8]
   ·try simp only [go_sem, n1, n2, n3, n4, z4, z5, gz7, hz7] at z8
    all_goals
    obtain rfl := so_some h
    refine ⟨0, fun L hL => ?_⟩
    simp only [go_sem, ir39, E_27_l1, R_27_l1, ir39_b0, ir39_k0, ir39_o0, ir39_r0, z4, z5, fz6, gz7, hz7, fz7, z8]
  ·have gz7n := no_f gz7
   try simp only [go_sem, n1, n2, n3, n4, z4, z5] at gz7n
   all_goals
   rcases it_some h with ⟨z8, h⟩ | ⟨z8, h⟩
   ·try simp only [go_sem, n1, n2, n3, n4, z4, z5, gz7n] at z8
    all_goals
    (simp_all)
   ·try simp only [go_sem, n1, n2, n3, n4, z4, z5, gz7n] at z8
    all_goals
    obtain rfl := so_some h
    refine ⟨0, fun L hL => ?_⟩
    simp only [go_sem, ir39, E_27_l1, R_27_l1, ir39_b0, ir39_k0, ir39_o0, ir39_r0, z4, z5, fz6, gz7n, z8]
 ·try simp only [go_sem, n1, n2, n3, n4] at z4
  all_goals
  obtain rfl := so_some h
  refine ⟨0, fun L hL => ?_⟩
  simp only [go_sem, ir39, E_27_l1, R_27_l1, ir39_b0, ir39_k0, ir39_o0, ir39_r0, z4]

theorem Fs_27 {s_ : List UInt8} {y_ : Bool} (h : spec_IsName s_ = some y_) : c_27.F [.str s_] = ⟨true, .bool y_, [.any]⟩ := by
 refine mkF_E rfl ?_
 dsimp only [spec_IsName] at h
 obtain ⟨z1, h⟩ := ck_some h
 rcases or_split z1 with ⟨gz1, z1⟩ | gz1
 ·try simp only [go_sem, n1, n2, n3, n4] at gz1
  all_goals
  try simp only [go_sem, n1, n2, n3, n4, gz1] at z1
  all_goals
  obtain ⟨z2, h⟩ := ck_some h
  rcases or_split z2 with ⟨gz2, z2⟩ | gz2
  ·try simp only [go_sem, n1, n2, n3, n4, gz1, z1] at gz2
   all_goals
   obtain ⟨y_2, hz2⟩ := Option.isSome_iff_exists.1 z2
   have fz2 := Fs_25 hz2
   try simp only [go_sem, n1, n2, n3, n4, gz1, z1, gz2] at hz2
   all_goals
   try simp only [go_sem, gz1, z1, gz2] at fz2
   rcases it_some h with ⟨z3, h⟩ | ⟨z3, h⟩
   ·try simp only [go_sem, n1, n2, n3, n4, gz1, z1, gz2, hz2] at z3
    all_goals
    obtain rfl := so_some h
    refine ⟨0, fun L hL => ?_⟩
    simp only [go_sem, ir39, E_27_l1, R_27_l1, ir39_k0, ir39_o0, ir39_r0, gz1, z1, gz2, hz2, fz2, z3]
   ·try simp only [go_sem, n1, n2, n3, n4, gz1, z1, gz2, hz2] at z3
    all_goals
    obtain ⟨y_9, z9, h⟩ := bd_some h
    obtain ⟨Lz9, ez9⟩ := spec_IsName_l1_ex z9
    rcases y_9 with y_9a | y_9b
    ·dsimp only at h
     obtain rfl := so_some h
     refine ⟨Lz9, fun L hL => ?_⟩
     have ez9 := ez9 L (by omega)
     try simp only [go_sem, E_27_l1, R_27_l1, ir39_k0, ir39_o0, ir39_r0, gz1, z1, gz2, hz2, z3] at ez9
     simp only [go_sem, ir39, E_27_l1, R_27_l1, ir39_k0, ir39_o0, ir39_r0, gz1, z1, gz2, hz2, fz2, z3, ez9]
    ·dsimp only at h
     obtain rfl := so_some h
     refine ⟨Lz9, fun L hL => ?_⟩
     have ez9 := ez9 L (by omega)
     try simp only [go_sem, E_27_l1, R_27_l1, ir39_k0, ir39_o0, ir39_r0, gz1, z1, gz2, hz2, z3] at ez9
     simp only [go_sem, ir39, E_27_l1, R_27_l1, ir39_k0, ir39_o0, ir39_r0, gz1, z1, gz2, hz2, fz2, z3, ez9]
  ·have gz2n := no_f gz2
   rcases or_t gz2n with gz2na | ⟨gz2na, gz2nb⟩
   ·try simp only [go_sem, n1, n2, n3, n4, gz1, z1] at gz2na
    all_goals
    (simp_all)
   ·try simp only [go_sem, n1, n2, n3, n4, gz1, z1] at gz2na
    all_goals
    try simp only [go_sem, n1, n2, n3, n4, gz1, z1, gz2na] at gz2nb
    all_goals
    rcases it_some h with ⟨z3, h⟩ | ⟨z3, h⟩
    ·try simp only [go_sem, n1, n2, n3, n4, gz1, z1, gz2na, gz2nb] at z3
     all_goals
     obtain rfl := so_some h
     refine ⟨0, fun L hL => ?_⟩
     simp only [go_sem, ir39, E_27_l1, R_27_l1, ir39_k0, ir39_o0, ir39_r0, gz1, z1, gz2na, gz2nb, z3]
    ·try simp only [go_sem, n1, n2, n3, n4, gz1, z1, gz2na, gz2nb] at z3
     all_goals
     obtain ⟨y_9, z9, h⟩ := bd_some h
     obtain ⟨Lz9, ez9⟩ := spec_IsName_l1_ex z9
     rcases y_9 with y_9a | y_9b
     ·dsimp only at h
      obtain rfl := so_some h
      refine ⟨Lz9, fun L hL => ?_⟩
      have ez9 := ez9 L (by omega)
      try simp only [go_sem, E_27_l1, R_27_l1, ir39_k0, ir39_o0, ir39_r0, gz1, z1, gz2na, gz2nb, z3] at ez9
      simp only [go_sem, ir39, E_27_l1, R_27_l1, ir39_k0, ir39_o0, ir39_r0, gz1, z1, gz2na, gz2nb, z3, ez9]
     ·dsimp only at h
      obtain rfl := so_some h
      refine ⟨Lz9, fun L hL => ?_⟩
      have ez9 := ez9 L (by omega)
      try simp only [go_sem, E_27_l1, R_27_l1, ir39_k0, ir39_o0, ir39_r0, gz1, z1, gz2na, gz2nb, z3] at ez9
      simp only [go_sem, ir39, E_27_l1, R_27_l1, ir39_k0, ir39_o0, ir39_r0, gz1, z1, gz2na, gz2nb, z3, ez9]
 ·have gz1n := no_f gz1
  rcases or_t gz1n with gz1na | ⟨gz1na, gz1nb⟩
  ·try simp only [go_sem, n1, n2, n3, n4] at gz1na
   all_goals
   obtain ⟨z2, h⟩ := ck_some h
   rcases it_some h with ⟨z3, h⟩ | ⟨z3, h⟩
   ·try simp only [go_sem, n1, n2, n3, n4, gz1na] at z3
    all_goals
    obtain rfl := so_some h
    refine ⟨0, fun L hL => ?_⟩
    simp only [go_sem, ir39, E_27_l1, R_27_l1, ir39_k0, ir39_o0, ir39_r0, gz1na, z3]
   ·try simp only [go_sem, n1, n2, n3, n4, gz1na] at z3
    all_goals
    (simp_all)
  ·try simp only [go_sem, n1, n2, n3, n4] at gz1na
   all_goals
   try simp only [go_sem, n1, n2, n3, n4, gz1na] at gz1nb
   all_goals
   obtain ⟨z2, h⟩ := ck_some h
   rcases it_some h with ⟨z3, h⟩ | ⟨z3, h⟩
   ·try simp only [go_sem, n1, n2, n3, n4, gz1na, gz1nb] at z3
    all_goals
    obtain rfl := so_some h
    refine ⟨0, fun L hL => ?_⟩
    simp only [go_sem, ir39, E_27_l1, R_27_l1, ir39_k0, ir39_o0, ir39_r0, gz1na, gz1nb, z3]
   ·try simp only [go_sem, n1, n2, n3, n4, gz1na, gz1nb] at z3
    all_goals
    (simp_all)


def ir92_v : List Nat := [0, 1, 2, 6]
def ir92 : AFn := ⟨3, 4, .seq (.region false [ VO 3 6 (.mov (.c (.bool false)))]) (.seq (.region false [ PM 7 0, PM 8 1, PO 9 (.bin false .geq (.s 1) (.s 0)), PO 10 (.mov (.s 0)), ⟨.push, 11, (some ((.s 0), true)), .mov (.v 0)⟩, ⟨.push, 12, (some ((.s 1), true)), .mov (.v 2)⟩, ⟨.push, 13, (some ((.s 2), true)), .bin false .leq (.s 1) (.s 0)⟩, PO 14 (.pick (.s 3) (.s 0) (.c (.bool false))), VS 3 6 0]) (.ret)), [.t 3]⟩
noncomputable def t_28 : List (Nat × Ctr) := []
noncomputable def c_28 : Ctr := mkF t_28 ir92 [.bor, .bor, .bor]
theorem s_28 : Sound Try.prog 92 c_28 := mkF_sound _ rfl snd_nil (by kernel_rfl : chkFn Try.prog 92 ir92 ir92_v = true)
theorem M_28 : c_28.modes = [.bor, .bor, .bor] := rfl
theorem Fl_28 : c_28.flat = true := rfl
attribute [go_sem] M_28 Fl_28
theorem Fs_28 {n : Int} {low : Int} {high : Int} {y_ : Bool} (h : spec_l00In n low high = some y_) : c_28.F [.int .i64 n, .int .i64 low, .int .i64 high] = ⟨true, .bool y_, [.any, .any, .any]⟩ := by
 refine mkF_E rfl ?_
 dsimp only [spec_l00In] at h
 obtain rfl := so_some h
 refine ⟨0, fun L hL => ?_⟩
 simp only [go_sem, ir92]


def ir75_v : List Nat := [0, 2]
def ir75 : AFn := ⟨1, 2, .seq (.region false [ VO 1 2 (.mov (.c (.bool false)))]) (.seq (.region false [ PM 3 0, PO 4 (.call 92 [(.s 0), (I6 0), (I6 10000000)]), VS 1 2 0]) (.ret)), [.t 1]⟩
noncomputable def t_29 : List (Nat × Ctr) := [(92, c_28)]
theorem lk_29_92 : look t_29 92 = some c_28 := rfl
noncomputable def c_29 : Ctr := mkF t_29 ir75 [.bor]
theorem s_29 : Sound Try.prog 75 c_29 := mkF_sound _ rfl (snd_cons s_28 snd_nil) (by kernel_rfl : chkFn Try.prog 75 ir75 ir75_v = true)
theorem M_29 : c_29.modes = [.bor] := rfl
theorem Fl_29 : c_29.flat = true := rfl
attribute [go_sem] M_29 Fl_29
attribute [go_sem] lk_29_92
theorem Fs_29 {t : Int} {y_ : Bool} (h : spec_l03Time t = some y_) : c_29.F [.int .i64 t] = ⟨true, .bool y_, [.any]⟩ := by
 refine mkF_E rfl ?_
 dsimp only [spec_l03Time] at h
 obtain ⟨y_1, z1, h⟩ := bd_some h
 have fz1 := Fs_28 z1
 try simp only [go_sem] at fz1
 obtain rfl := so_some h
 refine ⟨0, fun L hL => ?_⟩
 simp only [go_sem, ir75, fz1]


def ir83_v : List Nat := [0, 2]
def ir83 : AFn := ⟨1, 2, .seq (.region false [ VO 1 2 (.mov (.c (.bool false)))]) (.seq (.anyo 48 [ SO 0 3 (.mov (.v 0)), SO 1 4 (.nilck (.s 0)), SO 2 5 (.fldAddr 0 (.s 1)), SO 3 6 (.load false 1 (.s 2)), SO 4 7 (.callp 39 [(.s 3)]), SO 5 8 (.mov (.s 4)), ⟨.slot 6, 9, (some ((.s 5), true)), .mov (.v 0)⟩, ⟨.slot 7, 10, (some ((.s 5), true)), .nilck (.s 6)⟩, ⟨.slot 8, 11, (some ((.s 5), true)), .fldAddr 1 (.s 7)⟩, ⟨.slot 9, 12, (some ((.s 5), true)), .load false 1 (.s 8)⟩, ⟨.slot 10, 13, (some ((.s 5), true)), .call 75 [(.s 9)]⟩, SO 11 14 (.pick (.s 5) (.s 10) (.c (.bool false))), SO 12 15 (.mov
 (.s 11)), ⟨.slot 13, 16, (some ((.s 12), true)), .mov (.v 0)⟩, ⟨.slot 14, 17, (some ((.s 12), true)), .nilck (.s 13)⟩, ⟨.slot 15, 18, (some ((.s 12), true)), .fldAddr 2 (.s 14)⟩, ⟨.slot 16, 19, (some ((.s 12), true)), .load false 1 (.s 15)⟩, ⟨.slot 17, 20, (some ((.s 12), true)), .mov (.v 0)⟩, ⟨.slot 18, 21, (some ((.s 12), true)), .nilck (.s 17)⟩, ⟨.slot 19, 22, (some ((.s 12), true)), .fldAddr 1 (.s 18)⟩, ⟨.slot 20, 23, (some ((.s 12), true)), .load false 1 (.s 19)⟩, ⟨.slot 21, 24, (some ((.s 12), true)), .call 92 [(.s 16), (.s 20), (I6 10000000)]⟩, SO 22 25 (.pick (.s 12) (.s 21) (.c (.bool
 false))), SO 23 26 (.mov (.s 22)), ⟨.slot 24, 27, (some ((.s 23), true)), .mov (.v 0)⟩, ⟨.slot 25, 28, (some ((.s 23), true)), .nilck (.s 24)⟩, ⟨.slot 26, 29, (some ((.s 23), true)), .fldAddr 3 (.s 25)⟩, ⟨.slot 27, 30, (some ((.s 23), true)), .load false 1 (.s 26)⟩, ⟨.slot 28, 31, (some ((.s 23), true)), .call 92 [(.s 27), (I6 1), (I6 100)]⟩, SO 29 32 (.pick (.s 23) (.s 28) (.c (.bool false))), SO 30 33 (.mov (.s 29)), ⟨.slot 31, 34, (some ((.s 30), true)), .mov (.v 0)⟩, ⟨.slot 32, 35, (some ((.s 30), true)), .nilck (.s 31)⟩, ⟨.slot 33, 36, (some ((.s 30), true)), .fldAddr 4 (.s 32)⟩, ⟨.slot
 34, 37, (some ((.s 30), true)), .load false 1 (.s 33)⟩, ⟨.slot 35, 38, (some ((.s 30), true)), .mov (.v 0)⟩, ⟨.slot 36, 39, (some ((.s 30), true)), .nilck (.s 35)⟩, ⟨.slot 37, 40, (some ((.s 30), true)), .fldAddr 3 (.s 36)⟩, ⟨.slot 38, 41, (some ((.s 30), true)), .load false 1 (.s 37)⟩, ⟨.slot 39, 42, (some ((.s 30), true)), .call 92 [(.s 34), (I6 0), (.s 38)]⟩, SO 40 43 (.pick (.s 30) (.s 39) (.c (.bool false))), SO 41 44 (.mov (.s 40)), ⟨.slot 42, 45, (some ((.s 41), true)), .mov (.v 0)⟩, ⟨.slot 43, 46, (some ((.s 41), true)), .nilck (.s 42)⟩, ⟨.slot 44, 47, (some ((.s 41), true)), .fldAddr
 5 (.s 43)⟩, ⟨.slot 45, 48, (some ((.s 41), true)), .load false 1 (.s 44)⟩, ⟨.slot 46, 49, (some ((.s 41), true)), .call 92 [(.s 45), (I6 1), (I6 5)]⟩, SO 47 50 (.pick (.s 41) (.s 46) (.c (.bool false))), VS 1 2 47] [] .skip) (.ret)), [.t 1]⟩
noncomputable def t_30 : List (Nat × Ctr) := [(39, c_27), (75, c_29), (92, c_28)]
theorem lk_30_39 : look t_30 39 = some c_27 := rfl
theorem lk_30_75 : look t_30 75 = some c_29 := rfl
theorem lk_30_92 : look t_30 92 = some c_28 := rfl
noncomputable def c_30 : Ctr := mkF t_30 ir83 [.bor]
theorem s_30 : Sound Try.prog 83 c_30 := mkF_sound _ rfl (snd_cons s_27 (snd_cons s_29 (snd_cons s_28 snd_nil))) (by kernel_rfl : chkFn Try.prog 83 ir83 ir83_v = true)
theorem M_30 : c_30.modes = [.bor] := rfl
theorem Fl_30 : c_30.flat = true := rfl
attribute [go_sem] M_30 Fl_30
attribute [go_sem] lk_30_39 lk_30_75 lk_30_92
theorem Fs_30 {x : Request} {y_ : Bool} (h : spec_l22One x = some y_) : c_30.F [.ptr 6 [Request_av x] 0 0] = ⟨true, .bool y_, [.any]⟩ := by
 refine mkF_E rfl ?_
 dsimp only [spec_l22One] at h
 obtain ⟨y_1, z1, h⟩ := bd_some h
 have fz1 := Fs_27 z1
 try simp only [go_sem] at fz1
 obtain ⟨z2, h⟩ := ck_some h
 rcases or_split z2 with ⟨gz2, z2⟩ | gz2
 ·try simp only [go_sem, n1, n2, n3, n4] at gz2
  all_goals
  obtain ⟨y_2, hz2⟩ := Option.isSome_iff_exists.1 z2
  have fz2 := Fs_29 hz2
  try simp only [go_sem, n1, n2, n3, n4, gz2] at hz2
  all_goals
  try simp only [go_sem, gz2] at fz2
  obtain ⟨z3, h⟩ := ck_some h
  rcases or_split z3 with ⟨gz3, z3⟩ | gz3
  ·try simp only [go_sem, n1, n2, n3, n4, gz2, hz2] at gz3
   all_goals
   obtain ⟨y_3, hz3⟩ := Option.isSome_iff_exists.1 z3
   have fz3 := Fs_28 hz3
   try simp only [go_sem, n1, n2, n3, n4, gz2, hz2, gz3] at hz3
   all_goals
   try simp only [go_sem, gz2, hz2, gz3] at fz3
   obtain ⟨z4, h⟩ := ck_some h
   rcases or_split z4 with ⟨gz4, z4⟩ | gz4
   ·try simp only [go_sem, n1, n2, n3, n4, gz2, hz2, gz3, hz3] at gz4
    all_goals
    obtain ⟨y_4, hz4⟩ := Option.isSome_iff_exists.1 z4
    have fz4 := Fs_28 hz4
    try simp only [go_sem, n1, n2, n3, n4, gz2, hz2, gz3, hz3, gz4] at hz4
    all_goals
    try simp only [go_sem, gz2, hz2, gz3, hz3, gz4] at fz4
    obtain ⟨z5, h⟩ := ck_some h
    rcases or_split z5 with ⟨gz5, z5⟩ | gz5
    ·try simp only [go_sem, n1, n2, n3, n4, gz2, hz2, gz3, hz3, gz4, hz4] at gz5
     all_goals
     obtain ⟨y_5, hz5⟩ := Option.isSome_iff_exists.1 z5
     have fz5 := Fs_28 hz5
     try simp only [go_sem, n1, n2, n3, n4, gz2, hz2, gz3, hz3, gz4, hz4, gz5] at hz5
     all_goals
     try simp only [go_sem, gz2, hz2, gz3, hz3, gz4, hz4, gz5] at fz5
     obtain ⟨z6, h⟩ := ck_some h
     rcases or_split z6 with ⟨gz6, z6⟩ | gz6
     ·try simp only [go_sem, n1, n2, n3, n4, gz2, hz2, gz3, hz3, gz4, hz4, gz5, hz5] at gz6
      all_goals
      obtain ⟨y_6, hz6⟩ := Option.isSome_iff_exists.1 z6
      have fz6 := Fs_28 hz6
      try simp only [go_sem, n1, n2, n3, n4, gz2, hz2, gz3, hz3, gz4, hz4, gz5, hz5, gz6] at hz6
      all_goals
      try simp only [go_sem, gz2, hz2, gz3, hz3, gz4, hz4, gz5, hz5, gz6] at fz6
      obtain rfl := so_some h
      refine ⟨0, fun L hL => ?_⟩
      simp only [go_sem, ir83, fz1, gz2, hz2, fz2, gz3, hz3, fz3, gz4, hz4, fz4, gz5, hz5, fz5, gz6, hz6, fz6]
     ·rcases and_f gz6 with gz6a | ⟨gz6a, gz6b⟩
      ·try simp only [go_sem, n1, n2, n3, n4, gz2, hz2, gz3, hz3, gz4, hz4, gz5, hz5] at gz6a
       all_goals
       (simp_all)
      ·obtain ⟨gz6aa, gz6ab⟩ := and_t gz6a
       obtain ⟨gz6aaa, gz6aab⟩ := and_t gz6aa
       obtain ⟨gz6aaaa, gz6aaab⟩ := and_t gz6aaa
       try simp only [go_sem, n1, n2, n3, n4, gz2, hz2, gz3, hz3, gz4, hz4, gz5, hz5] at gz6aaaa
       all_goals
       try simp only [go_sem, n1, n2, n3, n4, gz2, hz2, gz3, hz3, gz4, hz4, gz5, hz5, gz6aaaa] at gz6aaab
       all_goals
       try simp only [go_sem, n1, n2, n3, n4, gz2, hz2, gz3, hz3, gz4, hz4, gz5, hz5, gz6aaaa, gz6aaab] at gz6aab
       all_goals
       try simp only [go_sem, n1, n2, n3, n4, gz2, hz2, gz3, hz3, gz4, hz4, gz5, hz5, gz6aaaa, gz6aaab, gz6aab] at gz6ab
       all_goals
       try simp only [go_sem, n1, n2, n3, n4, gz2, hz2, gz3, hz3, gz4, hz4, gz5, hz5, gz6aaaa, gz6aaab, gz6aab, gz6ab] at gz6b
       all_goals
       obtain rfl := so_some h
       refine ⟨0, fun L hL => ?_⟩
       simp only [go_sem, ir83, fz1, gz2, hz2, fz2, gz3, hz3, fz3, gz4, hz4, fz4, gz5, hz5, fz5, gz6aaaa, gz6aaab, gz6aab, gz6ab, gz6b]
    ·rcases and_f gz5 with gz5a | ⟨gz5a, gz5b⟩
     ·try simp only [go_sem, n1, n2, n3, n4, gz2, hz2, gz3, hz3, gz4, hz4] at gz5a
      all_goals
      (simp_all)
     ·obtain ⟨gz5aa, gz5ab⟩ := and_t gz5a
      obtain ⟨gz5aaa, gz5aab⟩ := and_t gz5aa
      try simp only [go_sem, n1, n2, n3, n4, gz2, hz2, gz3, hz3, gz4, hz4] at gz5aaa
      all_goals
      try simp only [go_sem, n1, n2, n3, n4, gz2, hz2, gz3, hz3, gz4, hz4, gz5aaa] at gz5aab
      all_goals
      try simp only [go_sem, n1, n2, n3, n4, gz2, hz2, gz3, hz3, gz4, hz4, gz5aaa, gz5aab] at gz5ab
      all_goals
      try simp only [go_sem, n1, n2, n3, n4, gz2, hz2, gz3, hz3, gz4, hz4, gz5aaa, gz5aab, gz5ab] at gz5b
      all_goals
      obtain ⟨z6, h⟩ := ck_some h
      obtain rfl := so_some h
      refine ⟨0, fun L hL => ?_⟩
      simp only [go_sem, ir83, fz1, gz2, hz2, fz2, gz3, hz3, fz3, gz4, hz4, fz4, gz5aaa, gz5aab, gz5ab, gz5b]
   ·rcases and_f gz4 with gz4a | ⟨gz4a, gz4b⟩
    ·try simp only [go_sem, n1, n2, n3, n4, gz2, hz2, gz3, hz3] at gz4a
     all_goals
     (simp_all)
    ·obtain ⟨gz4aa, gz4ab⟩ := and_t gz4a
     try simp only [go_sem, n1, n2, n3, n4, gz2, hz2, gz3, hz3] at gz4aa
     all_goals
     try simp only [go_sem, n1, n2, n3, n4, gz2, hz2, gz3, hz3, gz4aa] at gz4ab
     all_goals
     try simp only [go_sem, n1, n2, n3, n4, gz2, hz2, gz3, hz3, gz4aa, gz4ab] at gz4b
     all_goals
     obtain ⟨z5, h⟩ := ck_some h
     obtain ⟨z6, h⟩ := ck_some h
     obtain rfl := so_some h
     refine ⟨0, fun L hL => ?_⟩
     simp only [go_sem, ir83, fz1, gz2, hz2, fz2, gz3, hz3, fz3, gz4aa, gz4ab, gz4b]
  ·rcases and_f gz3 with gz3a | ⟨gz3a, gz3b⟩
   ·try simp only [go_sem, n1, n2, n3, n4, gz2, hz2] at gz3a
    all_goals
    (simp_all)
   ·try simp only [go_sem, n1, n2, n3, n4, gz2, hz2] at gz3a
    all_goals
    try simp only [go_sem, n1, n2, n3, n4, gz2, hz2, gz3a] at gz3b
    all_goals
    obtain ⟨z4, h⟩ := ck_some h
    obtain ⟨z5, h⟩ := ck_some h
    obtain ⟨z6, h⟩ := ck_some h
    obtain rfl := so_some h
    refine ⟨0, fun L hL => ?_⟩
    simp only [go_sem, ir83, fz1, gz2, hz2, fz2, gz3a, gz3b]
 ·try simp only [go_sem, n1, n2, n3, n4] at gz2
  all_goals
  obtain ⟨z3, h⟩ := ck_some h
  obtain ⟨z4, h⟩ := ck_some h
  obtain ⟨z5, h⟩ := ck_some h
  obtain ⟨z6, h⟩ := ck_some h
  obtain rfl := so_some h
  refine ⟨0, fun L hL => ?_⟩
  simp only [go_sem, ir83, fz1, gz2]


def ir43_b0 : IR := .seq (.test false [ PM 4 2, PM 5 0, PO 6 (.len false (.s 0)), PO 7 (.bin false .lss (.s 2) (.s 0))] (.s 0) (.skip) (.exit 0)) (.seq (.block 1 (.test false [ PM 10 0, PM 11 2, PO 12 (.ixAddr 6 (.s 1) (.s 0)), PO 13 (.call 83 [(.s 0)]), PO 14 (.un .not (.s 0))] (.s 0) (.seq (.region false [ VO 1 2 (.mov (.c (.bool false)))]) (.ret)) (.skip))) (.region false [ PM 8 2, PO 9 (.bin false .add (.s 0) (I6 1)), VS 2 3 0]))
def ir43_k0 : List Bool := [true, false, true]
def ir43_o0 : List Bool := [true, false, false]
def ir43_r0 : List Bool := [false, true, false]
def ir43_v : List Nat := [0, 2, 3]
def ir43 : AFn := ⟨1, 3, .seq (.region false [ VO 1 2 (.mov (.c (.bool false)))]) (.seq (.seq (.region false [ VO 2 3 (.mov (I6 0))]) (.block 0 (.loop ir43_k0 ir43_o0 ir43_r0 ir43_b0))) (.seq (.region false [ PM 15 0, PO 16 (.len false (.s 0)), PO 17 (.bin false .leq (.s 0) (I6 30)), VS 1 2 0]) (.ret))), [.t 1]⟩
noncomputable def t_31 : List (Nat × Ctr) := [(83, c_30)]
theorem lk_31_83 : look t_31 83 = some c_30 := rfl
noncomputable def c_31 : Ctr := mkF t_31 ir43 [.bor]
theorem s_31 : Sound Try.prog 43 c_31 := mkF_sound _ rfl (snd_cons s_30 snd_nil) (by kernel_rfl : chkFn Try.prog 43 ir43 ir43_v = true)
theorem M_31 : c_31.modes = [.bor] := rfl
theorem Fl_31 : c_31.flat = true := rfl
attribute [go_sem] M_31 Fl_31
attribute [go_sem] lk_31_83
def E_31_l1 (list : List Request) : Int → St
 | i => ⟨[.sl 6 (List.map Request_av list), .any, .int .i64 i], [], [], true⟩
def R_31_l1 (list : List Request) : (Unit ⊕ Bool) → Res
 | .inl y => (.exit 0, ⟨[.sl 6 (List.map Request_av list), .any, .any], [], [], true⟩)
 | .inr y => (.ret, ⟨[.any, .bool y, .any], [], [], true⟩)
theorem spec_l22Ok_l1_ex {list : List Request} {sgm_ : Int} {rho_ : Unit ⊕ Bool} (h : whileE (spec_l22Ok_l1 list) sgm_ = some rho_) : ∃ L0, ∀ L, L0 ≤ L → iter (exec (look t_31) L ir43_b0) ir43_k0 ir43_o0 ir43_r0 L (E_31_l1 list sgm_) = R_31_l1 list rho_ := by
 refine loop_ex (E := E_31_l1 list) (R := R_31_l1 list) (fun y => by first | (intro c; cases c) | (rcases y with y | y <;> (intro c; cases c)) | (rcases y with y | y | y <;> (intro c; cases c))) ?_ h
 clear h
 intro i o_ h
 dsimp only [spec_l22Ok_l1] at h
 rcases it_some h with ⟨z1, h⟩ | ⟨z1, h⟩
 ·try simp only [go_sem, n1, n2, n3, n4] at z1
  all_goals
  obtain ⟨z2, h⟩ := ck_some h
  have lz2 := ix_lt z2
  have xz2 := getD_mapD Request_av list lz2
  try simp only [go_sem] at lz2
  try simp only [go_sem] at xz2
  try simp only [go_sem, n1, n2, n3, n4, z1] at z2
  all_goals
  obtain ⟨y_3, z3, h⟩ := bd_some h
  have fz3 := Fs_30 z3
  try simp only [go_sem, z1, z2] at fz3
  rcases it_some h with ⟨z4, h⟩ | ⟨z4, h⟩
  ·try simp only [go_sem, n1, n2, n3, n4, z1, z2] at z4
   all_goals
   obtain rfl := so_some h
   refine ⟨0, fun L hL => ?_⟩
   simp only [go_sem, ir43, E_31_l1, R_31_l1, ir43_b0, ir43_k0, ir43_o0, ir43_r0, z1, z2, lz2, xz2, fz3, z4]
  ·try simp only [go_sem, n1, n2, n3, n4, z1, z2] at z4
   all_goals
   obtain rfl := so_some h
   refine ⟨0, fun L hL => ?_⟩
   simp only [go_sem, ir43, E_31_l1, R_31_l1, ir43_b0, ir43_k0, ir43_o0, ir43_r0, z1, z2, lz2, xz2, fz3, z4]
 ·try simp only [go_sem, n1, n2, n3, n4] at z1
  all_goals
  obtain rfl := so_some h
  refine ⟨0, fun L hL => ?_⟩
  simp only [go_sem, ir43, E_31_l1, R_31_l1, ir43_b0, ir43_k0, ir43_o0, ir43_r0, z1]

theorem Fs_31 {list : List Request} {y_ : Bool} (h : spec_l22Ok list = some y_) : c_31.F [.sl 6 (List.map Request_av list)] = ⟨true, .bool y_, [.any]⟩ := by
 refine mkF_E rfl ?_
 dsimp only [spec_l22Ok] at h
 obtain ⟨y_5, z5, h⟩ := bd_some h
 obtain ⟨Lz5, ez5⟩ := spec_l22Ok_l1_ex z5
 rcases y_5 with y_5a | y_5b
 ·dsimp only at h
  obtain rfl := so_some h
  refine ⟨Lz5, fun L hL => ?_⟩
  have ez5 := ez5 L (by omega)
  try simp only [go_sem, E_31_l1, R_31_l1, ir43_k0, ir43_o0, ir43_r0] at ez5
  simp only [go_sem, ir43, E_31_l1, R_31_l1, ir43_k0, ir43_o0, ir43_r0, ez5]
 ·dsimp only at h
  obtain rfl := so_some h
  refine ⟨Lz5, fun L hL => ?_⟩
  have ez5 := ez5 L (by omega)
  try simp only [go_sem, E_31_l1, R_31_l1, ir43_k0, ir43_o0, ir43_r0] at ez5
  simp only [go_sem, ir43, E_31_l1, R_31_l1, ir43_k0, ir43_o0, ir43_r0, ez5]


def ir38_v : List Nat := [0, 1, 4]
def ir38 : AFn := ⟨2, 3, .seq (.region false [ VO 2 4 (.mov (I6 0))]) (.seq (.test false [ PM 5 0, PO 6 (.call 43 [(.s 0)]), PO 7 (.un .not (.s 0))] (.s 0) (.seq (.region false [ VO 2 4 (.mov (I6 1))]) (.ret)) (.skip)) (.seq (.test false [ PM 8 1, PO 9 (.call 75 [(.s 0)]), PO 10 (.un .not (.s 0))] (.s 0) (.seq (.region false [ VO 2 4 (.mov (I6 2))]) (.ret)) (.skip)) (.seq (.region false [ VO 2 4 (.mov (I6 0))]) (.ret)))), [.t 2]⟩
noncomputable def t_32 : List (Nat × Ctr) := [(43, c_31), (75, c_29)]
theorem lk_32_43 : look t_32 43 = some c_31 := rfl
theorem lk_32_75 : look t_32 75 = some c_29 := rfl
noncomputable def c_32 : Ctr := mkF t_32 ir38 [.bor, .bor]
theorem s_32 : Sound Try.prog 38 c_32 := mkF_sound _ rfl (snd_cons s_31 (snd_cons s_29 snd_nil)) (by kernel_rfl : chkFn Try.prog 38 ir38 ir38_v = true)
theorem M_32 : c_32.modes = [.bor, .bor] := rfl
theorem Fl_32 : c_32.flat = true := rfl
attribute [go_sem] M_32 Fl_32
attribute [go_sem] lk_32_43 lk_32_75
theorem Fs_32 {list : List Request} {t : Int} {y_ : Int} (h : spec_l22Code list t = some y_) : c_32.F [.sl 6 (List.map Request_av list), .int .i64 t] = ⟨true, .int .i64 y_, [.any, .any]⟩ := by
 refine mkF_E rfl ?_
 dsimp only [spec_l22Code] at h
 obtain ⟨y_1, z1, h⟩ := bd_some h
 have fz1 := Fs_31 z1
 try simp only [go_sem] at fz1
 rcases it_some h with ⟨z2, h⟩ | ⟨z2, h⟩
 ·try simp only [go_sem, n1, n2, n3, n4] at z2
  all_goals
  obtain rfl := so_some h
  refine ⟨0, fun L hL => ?_⟩
  simp only [go_sem, ir38, fz1, z2]
 ·try simp only [go_sem, n1, n2, n3, n4] at z2
  all_goals
  obtain ⟨y_3, z3, h⟩ := bd_some h
  have fz3 := Fs_29 z3
  try simp only [go_sem, z2] at fz3
  rcases it_some h with ⟨z4, h⟩ | ⟨z4, h⟩
  ·try simp only [go_sem, n1, n2, n3, n4, z2] at z4
   all_goals
   obtain rfl := so_some h
   refine ⟨0, fun L hL => ?_⟩
   simp only [go_sem, ir38, fz1, z2, fz3, z4]
  ·try simp only [go_sem, n1, n2, n3, n4, z2] at z4
   all_goals
   obtain rfl := so_some h
   refine ⟨0, fun L hL => ?_⟩
   simp only [go_sem, ir38, fz1, z2, fz3, z4]


def ir78_v : List Nat := [0, 1, 4]
def ir78 : AFn := ⟨2, 3, .seq (.region false [ VO 2 4 (.mov (.c (.bool false)))]) (.seq (.anyo 21 [ SO 0 5 (.mov (.v 1)), SO 1 6 (.mov (.v 0)), SO 2 7 (.nilck (.s 1)), SO 3 8 (.fldAddr 1 (.s 2)), SO 4 9 (.load false 1 (.s 3)), SO 5 10 (.mov (.v 0)), SO 6 11 (.nilck (.s 5)), SO 7 12 (.fldAddr 2 (.s 6)), SO 8 13 (.load false 1 (.s 7)), SO 9 14 (.callp 92 [(.s 0), (.s 4), (.s 8)]), SO 10 15 (.mov (.s 9)), ⟨.slot 11, 16, (some ((.s 10), true)), .mov (.v 0)⟩, ⟨.slot 12, 17, (some ((.s 10), true)), .nilck (.s 11)⟩, ⟨.slot 13, 18, (some ((.s 10), true)), .fldAddr 4 (.s 12)⟩, ⟨.slot 14, 19, (some ((.s
 10), true)), .load false 1 (.s 13)⟩, ⟨.slot 15, 20, (some ((.s 10), true)), .mov (.v 0)⟩, ⟨.slot 16, 21, (some ((.s 10), true)), .nilck (.s 15)⟩, ⟨.slot 17, 22, (some ((.s 10), true)), .fldAddr 3 (.s 16)⟩, ⟨.slot 18, 23, (some ((.s 10), true)), .load false 1 (.s 17)⟩, ⟨.slot 19, 24, (some ((.s 10), true)), .bin false .lss (.s 14) (.s 18)⟩, SO 20 25 (.pick (.s 10) (.s 19) (.c (.bool false))), VS 2 4 20] [] .skip) (.ret)), [.t 2]⟩
noncomputable def t_33 : List (Nat × Ctr) := [(92, c_28)]
theorem lk_33_92 : look t_33 92 = some c_28 := rfl
noncomputable def c_33 : Ctr := mkF t_33 ir78 [.bor, .bor]
theorem s_33 : Sound Try.prog 78 c_33 := mkF_sound _ rfl (snd_cons s_28 snd_nil) (by kernel_rfl : chkFn Try.prog 78 ir78 ir78_v = true)
theorem M_33 : c_33.modes = [.bor, .bor] := rfl
theorem Fl_33 : c_33.flat = true := rfl
attribute [go_sem] M_33 Fl_33
attribute [go_sem] lk_33_92
theorem Fs_33 {x : Request} {t : Int} {y_ : Bool} (h : spec_l22Open x t = some y_) : c_33.F [.ptr 6 [Request_av x] 0 0, .int .i64 t] = ⟨true, .bool y_, [.any, .any]⟩ := by
 refine mkF_E rfl ?_
 dsimp only [spec_l22Open] at h
 obtain ⟨y_1, z1, h⟩ := bd_some h
 have fz1 := Fs_28 z1
 try simp only [go_sem] at fz1
 obtain rfl := so_some h
 refine ⟨0, fun L hL => ?_⟩
 simp only [go_sem, ir78, fz1]


def ir40_b0 : IR := .seq (.test false [ PM 7 3, PM 8 0, PO 9 (.len false (.s 0)), PO 10 (.bin false .lss (.s 2) (.s 0))] (.s 0) (.skip) (.exit 0)) (.seq (.block 1 (.test false [ PM 13 0, PM 14 3, PO 15 (.ixAddr 6 (.s 1) (.s 0)), PO 16 (.fldAddr 0 (.s 0)), PO 17 (.load false 1 (.s 0)), PM 18 1, PO 19 (.bin false .eql (.s 1) (.s 0)), PO 20 (.mov (.s 0)), ⟨.push, 21, (some ((.s 0), true)), .mov (.v 0)⟩, ⟨.push, 22, (some ((.s 1), true)), .mov (.v 3)⟩, ⟨.push, 23, (some ((.s 2), true)), .ixAddr 6 (.s 1) (.s 0)⟩, ⟨.push, 24, (some ((.s 3), true)), .mov (.v 2)⟩, ⟨.push, 25, (some ((.s 4), true)),
 .call 78 [(.s 1), (.s 0)]⟩, PO 26 (.pick (.s 5) (.s 0) (.c (.bool false)))] (.s 0) (.region false [ PM 27 0, PM 28 3, PO 29 (.ixAddr 6 (.s 1) (.s 0)), PO 30 (.fldAddr 4 (.s 0)), PO 31 (.load false 1 (.s 0)), PO 32 (.bin false .add (.s 0) (I6 1)), PO 33 (.ixAddr 6 (.s 5) (.s 4)), PO 34 (.fldAddr 4 (.s 0)), ⟨.no, 0, none, .store 1 (.s 0) (.s 2)⟩]) (.skip))) (.region false [ PM 11 3, PO 12 (.bin false .add (.s 0) (I6 1)), VS 3 6 0]))
def ir40_k0 : List Bool := [true, true, true, true]
def ir40_o0 : List Bool := [true, false, false, false]
def ir40_r0 : List Bool := [true, false, false, false]
def ir40_v : List Nat := [0, 1, 2, 6]
def ir40 : AFn := ⟨3, 4, .seq (.region false [ VO 3 6 (.mov (I6 0))]) (.block 0 (.loop ir40_k0 ir40_o0 ir40_r0 ir40_b0)), []⟩
noncomputable def t_34 : List (Nat × Ctr) := [(78, c_33)]
theorem lk_34_78 : look t_34 78 = some c_33 := rfl
noncomputable def c_34 : Ctr := mkN t_34 ir40 [.io, .bor, .bor]
theorem s_34 : Sound Try.prog 40 c_34 := mkN_sound _ (snd_cons s_33 snd_nil) (by kernel_rfl : chkFn Try.prog 40 ir40 ir40_v = true)
theorem M_34 : c_34.modes = [.io, .bor, .bor] := rfl
theorem Fl_34 : c_34.flat = false := rfl
attribute [go_sem] M_34 Fl_34
attribute [go_sem] lk_34_78
def E_34_l1 (star : List UInt8) (t : Int) : ((List Request) × Int) → St
 | (list, i) => ⟨[.own 31, .str star, .int .i64 t, .int .i64 i], [], [(31, ⟨6, List.map Request_av list⟩)], true⟩
def R_34_l1 (star : List UInt8) (t : Int) (y : (List Request)) : Res := (.exit 0, ⟨[.own 31, .any, .any, .any], [], [(31, ⟨6, List.map Request_av y⟩)], true⟩)
theorem spec_l22Serve_l1_ex {star : List UInt8} {t : Int} {sgm_ : (List Request) × Int} {rho_ : (List Request)} (h : whileE (spec_l22Serve_l1 star t) sgm_ = some rho_) : ∃ L0, ∀ L, L0 ≤ L → iter (exec (look t_34) L ir40_b0) ir40_k0 ir40_o0 ir40_r0 L (E_34_l1 star t sgm_) = R_34_l1 star t rho_ := by
 refine loop_ex (E := E_34_l1 star t) (R := R_34_l1 star t) (fun y => by first | (intro c; cases c) | (rcases y with y | y <;> (intro c; cases c)) | (rcases y with y | y | y <;> (intro c; cases c))) ?_ h
 clear h
 rintro ⟨list, i⟩ o_ h
 dsimp only [spec_l22Serve_l1] at h
 rcases it_some h with ⟨z1, h⟩ | ⟨z1, h⟩
 ·try simp only [go_sem, n1, n2, n3, n4] at z1
  all_goals
  obtain ⟨z2, h⟩ := ck_some h
  have lz2 := ix_lt z2
  have xz2 := getD_mapD Request_av list lz2
  try simp only [go_sem] at lz2
  try simp only [go_sem] at xz2
  try simp only [go_sem, n1, n2, n3, n4, z1] at z2
  all_goals
  obtain ⟨z3, h⟩ := ck_some h
  rcases or_split z3 with ⟨gz3, z3⟩ | gz3
  ·try simp only [go_sem, n1, n2, n3, n4, z1, z2] at gz3
   all_goals
   obtain ⟨y_3, hz3⟩ := Option.isSome_iff_exists.1 z3
   have fz3 := Fs_33 hz3
   try simp only [go_sem, n1, n2, n3, n4, z1, z2, gz3] at hz3
   all_goals
   try simp only [go_sem, z1, z2, gz3] at fz3
   rcases it_some h with ⟨z4, h⟩ | ⟨z4, h⟩
   ·try simp only [go_sem, n1, n2, n3, n4, z1, z2, gz3, hz3] at z4
    all_goals
    obtain rfl := so_some h
    refine ⟨0, fun L hL => ?_⟩
    simp only [go_sem, ir40, E_34_l1, R_34_l1, ir40_b0, ir40_k0, ir40_o0, ir40_r0, z1, z2, lz2, xz2, gz3, hz3, fz3, z4]
   ·try simp only [go_sem, n1, n2, n3, n4, z1, z2, gz3, hz3] at z4
    all_goals
    obtain rfl := so_some h
    refine ⟨0, fun L hL => ?_⟩
    simp only [go_sem, ir40, E_34_l1, R_34_l1, ir40_b0, ir40_k0, ir40_o0, ir40_r0, z1, z2, lz2, xz2, gz3, hz3, fz3, z4]
  ·try simp only [go_sem, n1, n2, n3, n4, z1, z2] at gz3
   all_goals
   rcases it_some h with ⟨z4, h⟩ | ⟨z4, h⟩
   ·try simp only [go_sem, n1, n2, n3, n4, z1, z2, gz3] at z4
    all_goals
    (simp_all)
   ·try simp only [go_sem, n1, n2, n3, n4, z1, z2, gz3] at z4
    all_goals
    obtain rfl := so_some h
    refine ⟨0, fun L hL => ?_⟩
    simp only [go_sem, ir40, E_34_l1, R_34_l1, ir40_b0, ir40_k0, ir40_o0, ir40_r0, z1, z2, lz2, xz2, gz3, z4]
 ·try simp only [go_sem, n1, n2, n3, n4] at z1
  all_goals
  obtain rfl := so_some h
  refine ⟨0, fun L hL => ?_⟩
  simp only [go_sem, ir40, E_34_l1, R_34_l1, ir40_b0, ir40_k0, ir40_o0, ir40_r0, z1]

theorem Fs_34 {list : List Request} {star : List UInt8} {t : Int} {y_ : (List Request)} (h : spec_l22Serve list star t = some y_) : c_34.F [.fresh 6 (List.map Request_av list), .str star, .int .i64 t] = ⟨true, .cv undef, [.fresh 6 (List.map Request_av y_), .any, .any]⟩ := by
 refine mkN_E ?_
 dsimp only [spec_l22Serve] at h
 obtain ⟨y_5, z5, h⟩ := bd_some h
 obtain ⟨Lz5, ez5⟩ := spec_l22Serve_l1_ex z5
 obtain ⟨z6, h⟩ := ck_some h
 try simp only [go_sem, n1, n2, n3, n4] at z6
 all_goals
 obtain rfl := so_some h
 refine ⟨Lz5, fun L hL => ?_⟩
 have ez5 := ez5 L (by omega)
 try simp only [go_sem, E_34_l1, R_34_l1, ir40_k0, ir40_o0, ir40_r0, z6] at ez5
 simp only [go_sem, ir40, E_34_l1, R_34_l1, ir40_k0, ir40_o0, ir40_r0, z6, ez5]


def ir8_v : List Nat := [0, 1, 2, 6, 7, 8, 9]
def ir8 : AFn := ⟨3, 7, .seq (.region false [ VO 3 6 (.newnil 6), VO 4 7 (.mov (I6 0))]) (.seq (.region false [ PM 10 0, PM 11 2, PO 12 (.call 38 [(.s 1), (.s 0)]), VS 5 8 0]) (.seq (.test false [ PM 13 5, PO 14 (.bin false .eql (.s 0) (I6 0)), PO 15 (.mov (.s 0)), ⟨.push, 16, (some ((.s 0), true)), .mov (.v 1)⟩, ⟨.push, 17, (some ((.s 1), true)), .call 39 [(.s 0)]⟩, ⟨.push, 18, (some ((.s 2), true)), .un .not (.s 0)⟩, PO 19 (.pick (.s 3) (.s 0) (.c (.bool false)))] (.s 0) (.region false [ VO 5 8 (.mov (I6 2))]) (.skip)) (.seq (.test false [ PM 20 5, PO 21 (.bin false .neq (.s 0) (I6 0))] (.s
 0) (.seq (.region false [ PM 22 5, VO 3 6 (.newnil 6), VS 4 7 0]) (.ret)) (.skip)) (.seq (.region false [ PO 23 (.mkSl 6 (.agg [.str [], .int .i64 (0), .int .i64 (0), .int .i64 (0), .int .i64 (0), .int .i64 (0)]) 0 []), PM 24 0, PO 25 (.app 6 56 (.agg [.str [], .int .i64 (0), .int .i64 (0), .int .i64 (0), .int .i64 (0), .int .i64 (0)]) (.s 1) (.s 0)), VS 6 9 0]) (.seq (.region false [ PM 26 6, PM 27 1, PM 28 2, PO 29 (.call 40 [(.s 2), (.s 1), (.s 0)])]) (.seq (.region false [ PM 30 6, VS 3 6 0, VO 4 7 (.mov (I6 0))]) (.ret))))))), [.t 3, .t 4]⟩
noncomputable def t_35 : List (Nat × Ctr) := [(38, c_32), (39, c_27), (40, c_34)]
theorem lk_35_38 : look t_35 38 = some c_32 := rfl
theorem lk_35_39 : look t_35 39 = some c_27 := rfl
theorem lk_35_40 : look t_35 40 = some c_34 := rfl
noncomputable def c_35 : Ctr := mkF t_35 ir8 [.bor, .bor, .bor]
theorem s_35 : Sound Try.prog 8 c_35 := mkF_sound _ rfl (snd_cons s_32 (snd_cons s_27 (snd_cons s_34 snd_nil))) (by kernel_rfl : chkFn Try.prog 8 ir8 ir8_v = true)
theorem M_35 : c_35.modes = [.bor, .bor, .bor] := rfl
theorem Fl_35 : c_35.flat = true := rfl
attribute [go_sem] M_35 Fl_35
attribute [go_sem] lk_35_38 lk_35_39 lk_35_40
theorem Fs_35 {list : List Request} {star : List UInt8} {t : Int} {y_ : (List Request) × Int} (h : spec_ServeRequests list star t = some y_) : c_35.F [.sl 6 (List.map Request_av list), .str star, .int .i64 t] = ⟨true, .tup [.fresh 6 (List.map Request_av y_.1), .int .i64 y_.2], [.any, .any, .any]⟩ := by
 refine mkF_E (by simp only [flatA, flatB, flat1, List.all_cons, List.all_nil, Bool.and_self, flatE_map (f := Request_av) (fun _ => rfl)]) ?_
 dsimp only [spec_ServeRequests] at h
 obtain ⟨y_1, z1, h⟩ := bd_some h
 have fz1 := Fs_32 z1
 try simp only [go_sem] at fz1
 obtain ⟨z2, h⟩ := ck_some h
 rcases or_split z2 with ⟨gz2, z2⟩ | gz2
 ·try simp only [go_sem, n1, n2, n3, n4] at gz2
  all_goals
  obtain ⟨y_2, hz2⟩ := Option.isSome_iff_exists.1 z2
  have fz2 := Fs_27 hz2
  try simp only [go_sem, n1, n2, n3, n4, gz2] at hz2
  all_goals
  try simp only [go_sem, gz2] at fz2
  rcases it_some h with ⟨z3, h⟩ | ⟨z3, h⟩
  ·try simp only [go_sem, n1, n2, n3, n4, gz2, hz2] at z3
   all_goals
   rcases it_some h with ⟨z4, h⟩ | ⟨z4, h⟩
   ·try simp only [go_sem, n1, n2, n3, n4, gz2, hz2, z3] at z4
    all_goals
    obtain rfl := so_some h
    refine ⟨0, fun L hL => ?_⟩
    simp only [go_sem, ir8, fz1, gz2, hz2, fz2, z3, z4]
   ·try simp only [go_sem, n1, n2, n3, n4, gz2, hz2, z3] at z4
    all_goals
    obtain ⟨z5, h⟩ := ck_some h
    try simp only [go_sem, n1, n2, n3, n4, gz2, hz2, z3, z4] at z5
    all_goals
    obtain ⟨y_6, z6, h⟩ := bd_some h
    have fz6 := Fs_34 z6
    try simp only [go_sem, gz2, hz2, z3, z4, z5] at fz6
    obtain rfl := so_some h
    refine ⟨0, fun L hL => ?_⟩
    simp only [go_sem, ir8, fz1, gz2, hz2, fz2, z3, z4, z5, fz6]
  ·try simp only [go_sem, n1, n2, n3, n4, gz2, hz2] at z3
   all_goals
   rcases it_some h with ⟨z7, h⟩ | ⟨z7, h⟩
   ·try simp only [go_sem, n1, n2, n3, n4, gz2, hz2, z3] at z7
    all_goals
    (simp_all)
   ·try simp only [go_sem, n1, n2, n3, n4, gz2, hz2, z3] at z7
    all_goals
    obtain ⟨z8, h⟩ := ck_some h
    try simp only [go_sem, n1, n2, n3, n4, gz2, hz2, z3, z7] at z8
    all_goals
    obtain ⟨y_9, z9, h⟩ := bd_some h
    have fz9 := Fs_34 z9
    try simp only [go_sem, gz2, hz2, z3, z7, z8] at fz9
    obtain rfl := so_some h
    refine ⟨0, fun L hL => ?_⟩
    simp only [go_sem, ir8, fz1, gz2, hz2, fz2, z3, z7, z8, fz9]
 ·try simp only [go_sem, n1, n2, n3, n4] at gz2
  all_goals
  rcases it_some h with ⟨z3, h⟩ | ⟨z3, h⟩
  ·try simp only [go_sem, n1, n2, n3, n4, gz2] at z3
   all_goals
   (simp_all)
  ·try simp only [go_sem, n1, n2, n3, n4, gz2] at z3
   all_goals
   rcases it_some h with ⟨z7, h⟩ | ⟨z7, h⟩
   ·try simp only [go_sem, n1, n2, n3, n4, gz2, z3] at z7
    all_goals
    obtain rfl := so_some h
    refine ⟨0, fun L hL => ?_⟩
    simp only [go_sem, ir8, fz1, gz2, z3, z7]
   ·try simp only [go_sem, n1, n2, n3, n4, gz2, z3] at z7
    all_goals
    (simp_all)


def ir99_v : List Nat := [0, 2, 3]
def ir99 : AFn := ⟨1, 3, .seq (.region false [ VO 1 2 (.alloc (.agg [.int .i64 (0), .str [], .str [], .int .i64 (0), .bool false]))]) (.seq (.region false [ PM 4 0, PO 5 (.call 70 [(.s 0), (I6 30)]), PO 6 (.bin false .mul (I6 1000) (.s 0)), PO 7 (.build [.int .i64 (0), .str [], .str [], .int .i64 (0), .bool false] [(0, 1, (.s 0))]), VO 2 3 (.alloc (.agg [.int .i64 (0), .str [], .str [], .int .i64 (0), .bool false])), ⟨.no, 0, none, .store 5 (.v 2) (.s 0)⟩]) (.seq (.test false [ PM 8 0, PO 9 (.call 58 [(.s 0), (I6 2)])] (.s 0) (.anyo 6 [ SO 0 10 (.fldAddr 0 (.v 2)), SO 1 11 (.load false 1 (.s
 0)), SO 2 12 (.mov (.v 0)), SO 3 13 (.call 70 [(.s 2), (I6 3000)]), SO 4 14 (.bin false .add (.s 1) (.s 3)), SO 5 15 (.fldAddr 0 (.v 2)), ⟨.no, 0, none, .store 1 (.s 5) (.s 4)⟩] [[2, 0, 1, 3, 4, 5, 6], [2, 0, 3, 1, 4, 5, 6], [2, 3, 0, 1, 4, 5, 6]] .skip) (.skip)) (.seq (.region false [ PM 16 0, PO 17 (.mkSl 1 (.str []) 3 [(0, (.c (.str [109, 105, 114, 97]))), (1, (.c (.str [114, 114, 45, 108, 121, 114]))), (2, (.c (.str [115, 115, 45, 99, 121, 103])))]), PO 18 (.call 73 [(.s 1), (.s 0)]), PO 19 (.fldAddr 1 (.v 2)), ⟨.no, 0, none, .store 1 (.s 0) (.s 1)⟩]) (.seq (.region false [ PM 20 0, PO 21
 (.mkSl 1 (.str []) 3 [(0, (.c (.str [97, 98]))), (1, (.c (.str [99, 100]))), (2, (.c (.str [101])))]), PO 22 (.call 73 [(.s 1), (.s 0)]), PO 23 (.fldAddr 2 (.v 2)), ⟨.no, 0, none, .store 1 (.s 0) (.s 1)⟩]) (.seq (.region false [ PM 24 0, PO 25 (.call 70 [(.s 0), (I6 60)]), PO 26 (.bin false .mul (I6 50) (.s 0)), PO 27 (.bin false .add (I6 8000) (.s 0)), PO 28 (.fldAddr 3 (.v 2)), ⟨.no, 0, none, .store 1 (.s 0) (.s 1)⟩]) (.seq (.region false [ PM 29 0, PO 30 (.call 58 [(.s 0), (I6 5)]), PO 31 (.fldAddr 4 (.v 2)), ⟨.no, 0, none, .store 1 (.s 0) (.s 1)⟩]) (.seq (.region false [ PO 32 (.load true
 5 (.v 2)), ⟨.no, 0, none, .store 5 (.v 1) (.s 0)⟩]) (.ret)))))))), [.cell true 5 1]⟩
noncomputable def t_36 : List (Nat × Ctr) := [(70, c_3), (58, c_4), (73, c_5)]
theorem lk_36_70 : look t_36 70 = some c_3 := rfl
theorem lk_36_58 : look t_36 58 = some c_4 := rfl
theorem lk_36_73 : look t_36 73 = some c_5 := rfl
noncomputable def c_36 : Ctr := mkN t_36 ir99 [.io]
theorem s_36 : Sound Try.prog 99 c_36 := mkN_sound _ (snd_cons s_3 (snd_cons s_4 (snd_cons s_5 snd_nil))) (by kernel_rfl : chkFn Try.prog 99 ir99 ir99_v = true)
theorem M_36 : c_36.modes = [.io] := rfl
theorem Fl_36 : c_36.flat = false := rfl
attribute [go_sem] M_36 Fl_36
attribute [go_sem] lk_36_70 lk_36_58 lk_36_73
theorem Fs_36 {s_ : L00Src} {y_ : Estimate × L00Src} (h : spec_l06New s_ = some y_) : c_36.F [.mem 3 [L00Src_av s_] 0] = ⟨true, Estimate_av y_.1, [.mem 3 [L00Src_av y_.2] 0]⟩ := by
 refine mkN_E ?_
 dsimp only [spec_l06New] at h
 obtain ⟨y_1, z1, h⟩ := bd_some h
 have fz1 := Fs_3 z1
 try simp only [go_sem] at fz1
 obtain ⟨y_2, z2, h⟩ := bd_some h
 have fz2 := Fs_4 z2
 try simp only [go_sem] at fz2
 rcases it_some h with ⟨z3, h⟩ | ⟨z3, h⟩
 ·try simp only [go_sem, n1, n2, n3, n4] at z3
  all_goals
  obtain ⟨y_4, z4, h⟩ := bd_some h
  have fz4 := Fs_3 z4
  try simp only [go_sem, z3] at fz4
  obtain ⟨y_5, z5, h⟩ := bd_some h
  have fz5 := Fs_5 z5
  try simp only [go_sem, z3] at fz5
  obtain ⟨y_6, z6, h⟩ := bd_some h
  have fz6 := Fs_5 z6
  try simp only [go_sem, z3] at fz6
  obtain ⟨y_7, z7, h⟩ := bd_some h
  have fz7 := Fs_3 z7
  try simp only [go_sem, z3] at fz7
  obtain ⟨y_8, z8, h⟩ := bd_some h
  have fz8 := Fs_4 z8
  try simp only [go_sem, z3] at fz8
  obtain rfl := so_some h
  refine ⟨0, fun L hL => ?_⟩
  simp only [go_sem, ir99, fz1, fz2, z3, fz4, fz5, fz6, fz7, fz8]
 ·try simp only [go_sem, n1, n2, n3, n4] at z3
  all_goals
  obtain ⟨y_9, z9, h⟩ := bd_some h
  have fz9 := Fs_5 z9
  try simp only [go_sem, z3] at fz9
  obtain ⟨y_10, z10, h⟩ := bd_some h
  have fz10 := Fs_5 z10
  try simp only [go_sem, z3] at fz10
  obtain ⟨y_11, z11, h⟩ := bd_some h
  have fz11 := Fs_3 z11
  try simp only [go_sem, z3] at fz11
  obtain ⟨y_12, z12, h⟩ := bd_some h
  have fz12 := Fs_4 z12
  try simp only [go_sem, z3] at fz12
  obtain rfl := so_some h
  refine ⟨0, fun L hL => ?_⟩
  simp only [go_sem, ir99, fz1, fz2, z3, fz9, fz10, fz11, fz12]


def ir85_v : List Nat := [0, 1, 4]
def ir85 : AFn := ⟨2, 3, .seq (.region false [ VO 2 4 (.mov (.c (.bool false)))]) (.seq (.anyo 9 [ SO 0 5 (.mov (.v 0)), SO 1 6 (.nilck (.s 0)), SO 2 7 (.fldAddr 0 (.s 1)), SO 3 8 (.load false 1 (.s 2)), SO 4 9 (.mov (.v 1)), SO 5 10 (.nilck (.s 4)), SO 6 11 (.fldAddr 0 (.s 5)), SO 7 12 (.load false 1 (.s 6)), SO 8 13 (.bin false .neq (.s 3) (.s 7))] [] (.cond (.s 8) (.seq (.anyo 9 [ SO 0 14 (.mov (.v 0)), SO 1 15 (.nilck (.s 0)), SO 2 16 (.fldAddr 0 (.s 1)), SO 3 17 (.load false 1 (.s 2)), SO 4 18 (.mov (.v 1)), SO 5 19 (.nilck (.s 4)), SO 6 20 (.fldAddr 0 (.s 5)), SO 7 21 (.load false 1 (.s
 6)), SO 8 22 (.bin false .lss (.s 3) (.s 7)), VS 2 4 8] [] .skip) (.ret)) (.skip))) (.seq (.anyo 9 [ SO 0 23 (.mov (.v 0)), SO 1 24 (.nilck (.s 0)), SO 2 25 (.fldAddr 1 (.s 1)), SO 3 26 (.load false 1 (.s 2)), SO 4 27 (.mov (.v 1)), SO 5 28 (.nilck (.s 4)), SO 6 29 (.fldAddr 1 (.s 5)), SO 7 30 (.load false 1 (.s 6)), SO 8 31 (.bin false .neq (.s 3) (.s 7))] [] (.cond (.s 8) (.seq (.anyo 9 [ SO 0 32 (.mov (.v 0)), SO 1 33 (.nilck (.s 0)), SO 2 34 (.fldAddr 1 (.s 1)), SO 3 35 (.load false 1 (.s 2)), SO 4 36 (.mov (.v 1)), SO 5 37 (.nilck (.s 4)), SO 6 38 (.fldAddr 1 (.s 5)), SO 7 39 (.load false
 1 (.s 6)), SO 8 40 (.bin false .lss (.s 3) (.s 7)), VS 2 4 8] [] .skip) (.ret)) (.skip))) (.seq (.anyo 9 [ SO 0 41 (.mov (.v 0)), SO 1 42 (.nilck (.s 0)), SO 2 43 (.fldAddr 2 (.s 1)), SO 3 44 (.load false 1 (.s 2)), SO 4 45 (.mov (.v 1)), SO 5 46 (.nilck (.s 4)), SO 6 47 (.fldAddr 2 (.s 5)), SO 7 48 (.load false 1 (.s 6)), SO 8 49 (.bin false .lss (.s 3) (.s 7)), VS 2 4 8] [] .skip) (.ret)))), [.t 2]⟩
noncomputable def t_37 : List (Nat × Ctr) := []
noncomputable def c_37 : Ctr := mkF t_37 ir85 [.bor, .bor]
theorem s_37 : Sound Try.prog 85 c_37 := mkF_sound _ rfl snd_nil (by kernel_rfl : chkFn Try.prog 85 ir85 ir85_v = true)
theorem M_37 : c_37.modes = [.bor, .bor] := rfl
theorem Fl_37 : c_37.flat = true := rfl
attribute [go_sem] M_37 Fl_37
theorem Fs_37 {a : Estimate} {b : Estimate} {y_ : Bool} (h : spec_l06Before a b = some y_) : c_37.F [.ptr 5 [Estimate_av a] 0 0, .ptr 5 [Estimate_av b] 0 0] = ⟨true, .bool y_, [.any, .any]⟩ := by
 refine mkF_E rfl ?_
 dsimp only [spec_l06Before] at h
 rcases it_some h with ⟨z1, h⟩ | ⟨z1, h⟩
 ·try simp only [go_sem, n1, n2, n3, n4] at z1
  all_goals
  obtain rfl := so_some h
  refine ⟨0, fun L hL => ?_⟩
  simp only [go_sem, ir85, z1]
 ·try simp only [go_sem, n1, n2, n3, n4] at z1
  all_goals
  rcases it_some h with ⟨z2, h⟩ | ⟨z2, h⟩
  ·try simp only [go_sem, n1, n2, n3, n4, z1] at z2
   all_goals
   obtain rfl := so_some h
   refine ⟨0, fun L hL => ?_⟩
   simp only [go_sem, ir85, z1, z2]
  ·try simp only [go_sem, n1, n2, n3, n4, z1] at z2
   all_goals
   obtain rfl := so_some h
   refine ⟨0, fun L hL => ?_⟩
   simp only [go_sem, ir85, z1, z2]


def ir100_b0 : IR := .seq (.test false [ PM 6 3, PM 7 0, PO 8 (.len false (.s 0)), PO 9 (.bin false .lss (.s 2) (.s 0))] (.s 0) (.skip) (.exit 0)) (.seq (.block 1 (.test false [ PM 12 0, PM 13 3, PO 14 (.ixAddr 5 (.s 1) (.s 0)), PM 15 1, PO 16 (.call 85 [(.s 1), (.s 0)]), PO 17 (.un .not (.s 0)), PO 18 (.mov (.s 0)), ⟨.push, 19, (some ((.s 0), true)), .mov (.v 1)⟩, ⟨.push, 20, (some ((.s 1), true)), .mov (.v 0)⟩, ⟨.push, 21, (some ((.s 2), true)), .mov (.v 3)⟩, ⟨.push, 22, (some ((.s 3), true)), .ixAddr 5 (.s 1) (.s 0)⟩, ⟨.push, 23, (some ((.s 4), true)), .call 85 [(.s 3), (.s 0)]⟩, ⟨.push, 24,
 (some ((.s 5), true)), .un .not (.s 0)⟩, PO 25 (.pick (.s 6) (.s 0) (.c (.bool false)))] (.s 0) (.seq (.region false [ PM 26 3, VS 2 4 0]) (.ret)) (.skip))) (.region false [ PM 10 3, PO 11 (.bin false .add (.s 0) (I6 1)), VS 3 5 0]))
def ir100_k0 : List Bool := [true, true, false, true]
def ir100_o0 : List Bool := [false, false, false, false]
def ir100_r0 : List Bool := [false, false, true, false]
def ir100_v : List Nat := [0, 1, 4, 5]
def ir100 : AFn := ⟨2, 4, .seq (.region false [ VO 2 4 (.mov (I6 0))]) (.seq (.seq (.region false [ VO 3 5 (.mov (I6 0))]) (.block 0 (.loop ir100_k0 ir100_o0 ir100_r0 ir100_b0))) (.seq (.region false [ VO 2 4 (.mov (.c (.int .i64 (-1))))]) (.ret))), [.t 2]⟩
noncomputable def t_38 : List (Nat × Ctr) := [(85, c_37)]
theorem lk_38_85 : look t_38 85 = some c_37 := rfl
noncomputable def c_38 : Ctr := mkF t_38 ir100 [.bor, .bor]
theorem s_38 : Sound Try.prog 100 c_38 := mkF_sound _ rfl (snd_cons s_37 snd_nil) (by kernel_rfl : chkFn Try.prog 100 ir100 ir100_v = true)
theorem M_38 : c_38.modes = [.bor, .bor] := rfl
theorem Fl_38 : c_38.flat = true := rfl
attribute [go_sem] M_38 Fl_38
attribute [go_sem] lk_38_85
def E_38_l1 (list : List Estimate) (e_ : Estimate) : Int → St
 | i => ⟨[.sl 5 (List.map Estimate_av list), .ptr 5 [Estimate_av e_] 0 0, .any, .int .i64 i], [], [], true⟩
def R_38_l1 (list : List Estimate) (e_ : Estimate) : (Unit ⊕ Int) → Res
 | .inl y => (.exit 0, ⟨[.any, .any, .any, .any], [], [], true⟩)
 | .inr y => (.ret, ⟨[.any, .any, .int .i64 y, .any], [], [], true⟩)
theorem spec_l06Find_l1_ex {list : List Estimate} {e_ : Estimate} {sgm_ : Int} {rho_ : Unit ⊕ Int} (h : whileE (spec_l06Find_l1 list e_) sgm_ = some rho_) : ∃ L0, ∀ L, L0 ≤ L → iter (exec (look t_38) L ir100_b0) ir100_k0 ir100_o0 ir100_r0 L (E_38_l1 list e_ sgm_) = R_38_l1 list e_ rho_ := by
 refine loop_ex (E := E_38_l1 list e_) (R := R_38_l1 list e_) (fun y => by first | (intro c; cases c) | (rcases y with y | y <;> (intro c; cases c)) | (rcases y with y | y | y <;> (intro c; cases c))) ?_ h
 clear h
 intro i o_ h
 dsimp only [spec_l06Find_l1] at h
 rcases it_some h with ⟨z1, h⟩ | ⟨z1, h⟩
 ·try simp only [go_sem, n1, n2, n3, n4] at z1
  all_goals
  obtain ⟨z2, h⟩ := ck_some h
  have lz2 := ix_lt z2
  have xz2 := getD_mapD Estimate_av list lz2
  try simp only [go_sem] at lz2
  try simp only [go_sem] at xz2
  try simp only [go_sem, n1, n2, n3, n4, z1] at z2
  all_goals
  obtain ⟨y_3, z3, h⟩ := bd_some h
  have fz3 := Fs_37 z3
  try simp only [go_sem, z1, z2] at fz3
  obtain ⟨z4, h⟩ := ck_some h
  rcases or_split z4 with ⟨gz4, z4⟩ | gz4
  ·try simp only [go_sem, n1, n2, n3, n4, z1, z2] at gz4
   all_goals
   obtain ⟨y_4, hz4⟩ := Option.isSome_iff_exists.1 z4
   have fz4 := Fs_37 hz4
   try simp only [go_sem, n1, n2, n3, n4, z1, z2, gz4] at hz4
   all_goals
   try simp only [go_sem, z1, z2, gz4] at fz4
   rcases it_some h with ⟨z5, h⟩ | ⟨z5, h⟩
   ·try simp only [go_sem, n1, n2, n3, n4, z1, z2, gz4, hz4] at z5
    all_goals
    obtain rfl := so_some h
    refine ⟨0, fun L hL => ?_⟩
    simp only [go_sem, ir100, E_38_l1, R_38_l1, ir100_b0, ir100_k0, ir100_o0, ir100_r0, z1, z2, lz2, xz2, fz3, gz4, hz4, fz4, z5]
   ·try simp only [go_sem, n1, n2, n3, n4, z1, z2, gz4, hz4] at z5
    all_goals
    obtain rfl := so_some h
    refine ⟨0, fun L hL => ?_⟩
    simp only [go_sem, ir100, E_38_l1, R_38_l1, ir100_b0, ir100_k0, ir100_o0, ir100_r0, z1, z2, lz2, xz2, fz3, gz4, hz4, fz4, z5]
  ·have gz4n := no_f gz4
   try simp only [go_sem, n1, n2, n3, n4, z1, z2] at gz4n
   all_goals
   rcases it_some h with ⟨z5, h⟩ | ⟨z5, h⟩
   ·try simp only [go_sem, n1, n2, n3, n4, z1, z2, gz4n] at z5
    all_goals
    (simp_all)
   ·try simp only [go_sem, n1, n2, n3, n4, z1, z2, gz4n] at z5
    all_goals
    obtain rfl := so_some h
    refine ⟨0, fun L hL => ?_⟩
    simp only [go_sem, ir100, E_38_l1, R_38_l1, ir100_b0, ir100_k0, ir100_o0, ir100_r0, z1, z2, lz2, xz2, fz3, gz4n, z5]
 ·try simp only [go_sem, n1, n2, n3, n4] at z1
  all_goals
  obtain rfl := so_some h
  refine ⟨0, fun L hL => ?_⟩
  simp only [go_sem, ir100, E_38_l1, R_38_l1, ir100_b0, ir100_k0, ir100_o0, ir100_r0, z1]

theorem Fs_38 {list : List Estimate} {e_ : Estimate} {y_ : Int} (h : spec_l06Find list e_ = some y_) : c_38.F [.sl 5 (List.map Estimate_av list), .ptr 5 [Estimate_av e_] 0 0] = ⟨true, .int .i64 y_, [.any, .any]⟩ := by
 refine mkF_E rfl ?_
 dsimp only [spec_l06Find] at h
 obtain ⟨y_6, z6, h⟩ := bd_some h
 obtain ⟨Lz6, ez6⟩ := spec_l06Find_l1_ex z6
 rcases y_6 with y_6a | y_6b
 ·dsimp only at h
  obtain rfl := so_some h
  refine ⟨Lz6, fun L hL => ?_⟩
  have ez6 := ez6 L (by omega)
  try simp only [go_sem, E_38_l1, R_38_l1, ir100_k0, ir100_o0, ir100_r0] at ez6
  simp only [go_sem, ir100, E_38_l1, R_38_l1, ir100_k0, ir100_o0, ir100_r0, ez6]
 ·dsimp only at h
  obtain rfl := so_some h
  refine ⟨Lz6, fun L hL => ?_⟩
  have ez6 := ez6 L (by omega)
  try simp only [go_sem, E_38_l1, R_38_l1, ir100_k0, ir100_o0, ir100_r0] at ez6
  simp only [go_sem, ir100, E_38_l1, R_38_l1, ir100_k0, ir100_o0, ir100_r0, ez6]


def ir101_b0 : IR := .seq (.test false [ PM 9 4, PO 10 (.bin false .gtr (.s 0) (I6 0)), PO 11 (.mov (.s 0)), ⟨.push, 12, (some ((.s 0), true)), .mov (.v 0)⟩, ⟨.push, 13, (some ((.s 1), true)), .mov (.v 4)⟩, ⟨.push, 14, (some ((.s 2), true)), .bin false .sub (.s 0) (I6 1)⟩, ⟨.push, 15, (some ((.s 3), true)), .ixAddr 5 (.s 2) (.s 0)⟩, ⟨.push, 16, (some ((.s 4), true)), .call 85 [(.v 2), (.s 0)]⟩, PO 17 (.pick (.s 5) (.s 0) (.c (.bool false)))] (.s 0) (.skip) (.exit 0)) (.block 1 (.region false [ PM 18 4, PO 19 (.bin false .sub (.s 0) (I6 1)), VS 4 5 0]))
def ir101_k0 : List Bool := [true, false, true, false, true, false]
def ir101_o0 : List Bool := [true, false, true, false, true, false]
def ir101_r0 : List Bool := [false, false, false, true, false, false]
def ir101_v : List Nat := [0, 1, 3, 4, 5, 6]
def ir101 : AFn := ⟨2, 6, .seq (.region false [ VO 2 3 (.box (.v 1)), VO 3 4 (.newnil 5)]) (.seq (.region false [ PM 7 0, PO 8 (.len false (.s 0)), VS 4 5 0]) (.seq (.block 0 (.loop ir101_k0 ir101_o0 ir101_r0 ir101_b0)) (.seq (.region false [ PO 20 (.mkSl 5 (.agg [.int .i64 (0), .str [], .str [], .int .i64 (0), .bool false]) 0 []), PM 21 0, PM 22 4, PO 23 (.slice 5 (.s 1) none (some (.s 0))), PO 24 (.app 5 56 (.agg [.int .i64 (0), .str [], .str [], .int .i64 (0), .bool false]) (.s 3) (.s 0)), VS 5 6 0]) (.seq (.region false [ PM 25 5, PO 26 (.load true 5 (.v 2)), PO 27 (.mkSl 5 (.agg [.int .i64
 (0), .str [], .str [], .int .i64 (0), .bool false]) 1 [(0, (.s 0))]), PO 28 (.app 5 56 (.agg [.int .i64 (0), .str [], .str [], .int .i64 (0), .bool false]) (.s 2) (.s 0)), VS 5 6 0]) (.seq (.region false [ PM 29 5, PM 30 0, PM 31 4, PO 32 (.slice 5 (.s 1) (some (.s 0)) none), PO 33 (.app 5 56 (.agg [.int .i64 (0), .str [], .str [], .int .i64 (0), .bool false]) (.s 3) (.s 0)), VS 3 4 0]) (.ret)))))), [.t 3]⟩
noncomputable def t_39 : List (Nat × Ctr) := [(85, c_37)]
theorem lk_39_85 : look t_39 85 = some c_37 := rfl
noncomputable def c_39 : Ctr := mkF t_39 ir101 [.bor, .bor]
theorem s_39 : Sound Try.prog 101 c_39 := mkF_sound _ rfl (snd_cons s_37 snd_nil) (by kernel_rfl : chkFn Try.prog 101 ir101 ir101_v = true)
theorem M_39 : c_39.modes = [.bor, .bor] := rfl
theorem Fl_39 : c_39.flat = true := rfl
attribute [go_sem] M_39 Fl_39
attribute [go_sem] lk_39_85
def E_39_l1 (list : List Estimate) (e_ : Estimate) : Int → St
 | k => ⟨[.sl 5 (List.map Estimate_av list), .any, .ref 3200000 0 0, .any, .int .i64 k, .any], [], [(3200000, ⟨5, [Estimate_av e_]⟩)], true⟩
def R_39_l1 (list : List Estimate) (e_ : Estimate) (y : Int) : Res := (.exit 0, ⟨[.sl 5 (List.map Estimate_av list), .any, .ref 3200000 0 0, .any, .int .i64 y, .any], [], [(3200000, ⟨5, [Estimate_av e_]⟩)], true⟩)
theorem spec_l06Put_l1_ex {list : List Estimate} {e_ : Estimate} {sgm_ : Int} {rho_ : Int} (h : whileE (spec_l06Put_l1 list e_) sgm_ = some rho_) : ∃ L0, ∀ L, L0 ≤ L → iter (exec (look t_39) L ir101_b0) ir101_k0 ir101_o0 ir101_r0 L (E_39_l1 list e_ sgm_) = R_39_l1 list e_ rho_ := by
 refine loop_ex (E := E_39_l1 list e_) (R := R_39_l1 list e_) (fun y => by first | (intro c; cases c) | (rcases y with y | y <;> (intro c; cases c)) | (rcases y with y | y | y <;> (intro c; cases c))) ?_ h
 clear h
 intro k o_ h
 dsimp only [spec_l06Put_l1] at h
 obtain ⟨z1, h⟩ := ck_some h
 rcases or_split z1 with ⟨gz1, z1⟩ | gz1
 ·try simp only [go_sem, n1, n2, n3, n4] at gz1
  all_goals
  have lz1 := ix_lt z1
  have xz1 := getD_mapD Estimate_av list lz1
  try simp only [go_sem] at lz1
  try simp only [go_sem] at xz1
  try simp only [go_sem, n1, n2, n3, n4, gz1] at z1
  all_goals
  obtain ⟨z2, h⟩ := ck_some h
  rcases or_split z2 with ⟨gz2, z2⟩ | gz2
  ·try simp only [go_sem, n1, n2, n3, n4, gz1, z1] at gz2
   all_goals
   obtain ⟨y_2, hz2⟩ := Option.isSome_iff_exists.1 z2
   have fz2 := Fs_37 hz2
   try simp only [go_sem, n1, n2, n3, n4, gz1, z1, gz2] at hz2
   all_goals
   try simp only [go_sem, gz1, z1, gz2] at fz2
   rcases it_some h with ⟨z3, h⟩ | ⟨z3, h⟩
   ·try simp only [go_sem, n1, n2, n3, n4, gz1, z1, gz2, hz2] at z3
    all_goals
    obtain rfl := so_some h
    refine ⟨0, fun L hL => ?_⟩
    simp only [go_sem, ir101, E_39_l1, R_39_l1, ir101_b0, ir101_k0, ir101_o0, ir101_r0, gz1, z1, lz1, xz1, gz2, hz2, fz2, z3]
   ·try simp only [go_sem, n1, n2, n3, n4, gz1, z1, gz2, hz2] at z3
    all_goals
    obtain rfl := so_some h
    refine ⟨0, fun L hL => ?_⟩
    simp only [go_sem, ir101, E_39_l1, R_39_l1, ir101_b0, ir101_k0, ir101_o0, ir101_r0, gz1, z1, lz1, xz1, gz2, hz2, fz2, z3]
  ·try simp only [go_sem, n1, n2, n3, n4, gz1, z1] at gz2
   all_goals
   rcases it_some h with ⟨z3, h⟩ | ⟨z3, h⟩
   ·try simp only [go_sem, n1, n2, n3, n4, gz1, z1, gz2] at z3
    all_goals
    (simp_all)
   ·try simp only [go_sem, n1, n2, n3, n4, gz1, z1, gz2] at z3
    all_goals
    obtain rfl := so_some h
    refine ⟨0, fun L hL => ?_⟩
    simp only [go_sem, ir101, E_39_l1, R_39_l1, ir101_b0, ir101_k0, ir101_o0, ir101_r0, gz1, z1, lz1, xz1, gz2, z3]
 ·try simp only [go_sem, n1, n2, n3, n4] at gz1
  all_goals
  obtain ⟨z2, h⟩ := ck_some h
  rcases it_some h with ⟨z3, h⟩ | ⟨z3, h⟩
  ·try simp only [go_sem, n1, n2, n3, n4, gz1] at z3
   all_goals
   (simp_all)
  ·try simp only [go_sem, n1, n2, n3, n4, gz1] at z3
   all_goals
   obtain rfl := so_some h
   refine ⟨0, fun L hL => ?_⟩
   simp only [go_sem, ir101, E_39_l1, R_39_l1, ir101_b0, ir101_k0, ir101_o0, ir101_r0, gz1, z3]

theorem Fs_39 {list : List Estimate} {e_ : Estimate} {y_ : (List Estimate)} (h : spec_l06Put list e_ = some y_) : c_39.F [.sl 5 (List.map Estimate_av list), Estimate_av e_] = ⟨true, .fresh 5 (List.map Estimate_av y_), [.any, .any]⟩ := by
 refine mkF_E (by simp only [flatA, flatB, flat1, List.all_cons, List.all_nil, Bool.and_self, flatE_map (f := Estimate_av) (fun _ => rfl)]) ?_
 dsimp only [spec_l06Put] at h
 obtain ⟨y_4, z4, h⟩ := bd_some h
 obtain ⟨Lz4, ez4⟩ := spec_l06Put_l1_ex z4
 obtain ⟨z5, h⟩ := ck_some h
 try simp only [go_sem, n1, n2, n3, n4] at z5
 all_goals
 obtain ⟨z6, h⟩ := ck_some h
 try simp only [go_sem, n1, n2, n3, n4, z5] at z6
 all_goals
 obtain ⟨z7, h⟩ := ck_some h
 try simp only [go_sem, n1, n2, n3, n4, z5, z6] at z7
 all_goals
 obtain ⟨z8, h⟩ := ck_some h
 try simp only [go_sem, n1, n2, n3, n4, z5, z6, z7] at z8
 all_goals
 obtain ⟨z9, h⟩ := ck_some h
 try simp only [go_sem, n1, n2, n3, n4, z5, z6, z7, z8] at z9
 all_goals
 obtain rfl := so_some h
 refine ⟨Lz4, fun L hL => ?_⟩
 have ez4 := ez4 L (by omega)
 try simp only [go_sem, E_39_l1, R_39_l1, ir101_k0, ir101_o0, ir101_r0, z5, z6, z7, z8, z9] at ez4
 simp only [go_sem, ir101, E_39_l1, R_39_l1, ir101_k0, ir101_o0, ir101_r0, z5, z6, z7, z8, z9, ez4]


def ir79_b0 : IR := .seq (.test false [ PM 13 4, PO 14 (.bin false .gtr (.s 0) (I6 0))] (.s 0) (.skip) (.exit 0)) (.seq (.block 1 (.seq (.region false [ PM 17 0, PO 18 (.call 99 [(.s 0)]), VO 5 7 (.alloc (.agg [.int .i64 (0), .str [], .str [], .int .i64 (0), .bool false])), ⟨.no, 0, none, .store 5 (.v 5) (.s 0)⟩]) (.test false [ PM 19 3, PO 20 (.call 100 [(.s 0), (.v 5)]), PO 21 (.bin false .lss (.s 0) (I6 0))] (.s 0) (.region false [ PM 22 3, PO 23 (.load true 5 (.v 5)), PO 24 (.call 101 [(.s 1), (.s 0)]), VS 3 5 0]) (.skip)))) (.region false [ PM 15 4, PO 16 (.bin false .sub (.s 0) (I6 1)),
 VS 4 6 0]))
def ir79_k0 : List Bool := [true, false, false, true, true, false]
def ir79_o0 : List Bool := [true, false, false, true, false, false]
def ir79_r0 : List Bool := [true, false, true, false, false, false]
def ir79_v : List Nat := [0, 1, 4, 5, 6, 7]
def ir79 : AFn := ⟨2, 6, .seq (.region false [ VO 2 4 (.newnil 5)]) (.seq (.region false [ PO 8 (.mkSl 5 (.agg [.int .i64 (0), .str [], .str [], .int .i64 (0), .bool false]) 0 []), VS 3 5 0]) (.seq (.seq (.region false [ PM 9 0, PM 10 1, PO 11 (.bin false .add (.s 0) (I6 1)), PO 12 (.call 70 [(.s 2), (.s 0)]), VS 4 6 0]) (.block 0 (.loop ir79_k0 ir79_o0 ir79_r0 ir79_b0))) (.seq (.region false [ PM 25 3, VS 2 4 0]) (.ret)))), [.t 2]⟩
noncomputable def t_40 : List (Nat × Ctr) := [(70, c_3), (99, c_36), (100, c_38), (101, c_39)]
theorem lk_40_70 : look t_40 70 = some c_3 := rfl
theorem lk_40_99 : look t_40 99 = some c_36 := rfl
theorem lk_40_100 : look t_40 100 = some c_38 := rfl
theorem lk_40_101 : look t_40 101 = some c_39 := rfl
noncomputable def c_40 : Ctr := mkN t_40 ir79 [.io, .bor]
theorem s_40 : Sound Try.prog 79 c_40 := mkN_sound _ (snd_cons s_3 (snd_cons s_36 (snd_cons s_38 (snd_cons s_39 snd_nil)))) (by kernel_rfl : chkFn Try.prog 79 ir79 ir79_v = true)
theorem M_40 : c_40.modes = [.io, .bor] := rfl
theorem Fl_40 : c_40.flat = false := rfl
attribute [go_sem] M_40 Fl_40
attribute [go_sem] lk_40_70 lk_40_99 lk_40_100 lk_40_101
def E_40_l1  : (L00Src × (List Estimate) × Int) → St
 | (s_, out, k) => ⟨[.ref 31 0 0, .any, .any, .own 3200032, .int .i64 k, .any], [], [(31, ⟨3, [L00Src_av s_]⟩), (3200032, ⟨5, List.map Estimate_av out⟩)], true⟩
def R_40_l1  (y : L00Src × (List Estimate)) : Res := (.exit 0, ⟨[.ref 31 0 0, .any, .any, .own 3200032, .any, .any], [], [(31, ⟨3, [L00Src_av y.1]⟩), (3200032, ⟨5, List.map Estimate_av y.2⟩)], true⟩)
theorem spec_l06Draw_l1_ex  {sgm_ : L00Src × (List Estimate) × Int} {rho_ : L00Src × (List Estimate)} (h : whileE (spec_l06Draw_l1) sgm_ = some rho_) : ∃ L0, ∀ L, L0 ≤ L → iter (exec (look t_40) L ir79_b0) ir79_k0 ir79_o0 ir79_r0 L (E_40_l1 sgm_) = R_40_l1 rho_ := by
 refine loop_ex (E := E_40_l1) (R := R_40_l1) (fun y => by first | (intro c; cases c) | (rcases y with y | y <;> (intro c; cases c)) | (rcases y with y | y | y <;> (intro c; cases c))) ?_ h
 clear h
 rintro ⟨s_, out, k⟩ o_ h
 dsimp only [spec_l06Draw_l1] at h
 rcases it_some h with ⟨z2, h⟩ | ⟨z2, h⟩
 ·try simp only [go_sem, n1, n2, n3, n4] at z2
  all_goals
  obtain ⟨y_3, z3, h⟩ := bd_some h
  have fz3 := Fs_36 z3
  try simp only [go_sem, z2] at fz3
  obtain ⟨y_4, z4, h⟩ := bd_some h
  have fz4 := Fs_38 z4
  try simp only [go_sem, z2] at fz4
  rcases it_some h with ⟨z5, h⟩ | ⟨z5, h⟩
  ·try simp only [go_sem, n1, n2, n3, n4, z2] at z5
   all_goals
   obtain ⟨y_6, z6, h⟩ := bd_some h
   have fz6 := Fs_39 z6
   try simp only [go_sem, z2, z5] at fz6
   obtain rfl := so_some h
   refine ⟨0, fun L hL => ?_⟩
   simp only [go_sem, ir79, E_40_l1, R_40_l1, ir79_b0, ir79_k0, ir79_o0, ir79_r0, z2, fz3, fz4, z5, fz6]
  ·try simp only [go_sem, n1, n2, n3, n4, z2] at z5
   all_goals
   obtain rfl := so_some h
   refine ⟨0, fun L hL => ?_⟩
   simp only [go_sem, ir79, E_40_l1, R_40_l1, ir79_b0, ir79_k0, ir79_o0, ir79_r0, z2, fz3, fz4, z5]
 ·try simp only [go_sem, n1, n2, n3, n4] at z2
  all_goals
  obtain rfl := so_some h
  refine ⟨0, fun L hL => ?_⟩
  simp only [go_sem, ir79, E_40_l1, R_40_l1, ir79_b0, ir79_k0, ir79_o0, ir79_r0, z2]

theorem Fs_40 {s_ : L00Src} {most : Int} {y_ : (List Estimate) × L00Src} (h : spec_l06Draw s_ most = some y_) : c_40.F [.mem 3 [L00Src_av s_] 0, .int .i64 most] = ⟨true, .fresh 5 (List.map Estimate_av y_.1), [.mem 3 [L00Src_av y_.2] 0, .any]⟩ := by
 refine mkN_E ?_
 dsimp only [spec_l06Draw] at h
 obtain ⟨y_1, z1, h⟩ := bd_some h
 have fz1 := Fs_3 z1
 try simp only [go_sem] at fz1
 obtain ⟨y_7, z7, h⟩ := bd_some h
 obtain ⟨Lz7, ez7⟩ := spec_l06Draw_l1_ex z7
 obtain rfl := so_some h
 refine ⟨Lz7, fun L hL => ?_⟩
 have ez7 := ez7 L (by omega)
 try simp only [go_sem, E_40_l1, R_40_l1, ir79_k0, ir79_o0, ir79_r0] at ez7
 simp only [go_sem, ir79, E_40_l1, R_40_l1, ir79_k0, ir79_o0, ir79_r0, fz1, ez7]


def ir116_v : List Nat := [0, 2]
def ir116 : AFn := ⟨1, 2, .seq (.region false [ VO 1 2 (.mov (I6 0))]) (.seq (.test false [ PM 3 0, PO 4 (.call 58 [(.s 0), (I6 8)])] (.s 0) (.seq (.region false [ PM 5 0, PO 6 (.call 70 [(.s 0), (I6 22001)]), PO 7 (.bin false .add (.s 0) (.c (.int .i64 (-2000)))), VS 1 2 0]) (.ret)) (.skip)) (.seq (.region false [ PM 8 0, PO 9 (.call 70 [(.s 0), (I6 60)]), PO 10 (.bin false .mul (I6 50) (.s 0)), PO 11 (.bin false .add (I6 8000) (.s 0)), VS 1 2 0]) (.ret))), [.t 1]⟩
noncomputable def t_41 : List (Nat × Ctr) := [(58, c_4), (70, c_3)]
theorem lk_41_58 : look t_41 58 = some c_4 := rfl
theorem lk_41_70 : look t_41 70 = some c_3 := rfl
noncomputable def c_41 : Ctr := mkN t_41 ir116 [.io]
theorem s_41 : Sound Try.prog 116 c_41 := mkN_sound _ (snd_cons s_4 (snd_cons s_3 snd_nil)) (by kernel_rfl : chkFn Try.prog 116 ir116 ir116_v = true)
theorem M_41 : c_41.modes = [.io] := rfl
theorem Fl_41 : c_41.flat = false := rfl
attribute [go_sem] M_41 Fl_41
attribute [go_sem] lk_41_58 lk_41_70
theorem Fs_41 {s_ : L00Src} {y_ : Int × L00Src} (h : spec_l02Draw s_ = some y_) : c_41.F [.mem 3 [L00Src_av s_] 0] = ⟨true, .int .i64 y_.1, [.mem 3 [L00Src_av y_.2] 0]⟩ := by
 refine mkN_E ?_
 dsimp only [spec_l02Draw] at h
 obtain ⟨y_1, z1, h⟩ := bd_some h
 have fz1 := Fs_4 z1
 try simp only [go_sem] at fz1
 rcases it_some h with ⟨z2, h⟩ | ⟨z2, h⟩
 ·try simp only [go_sem, n1, n2, n3, n4] at z2
  all_goals
  obtain ⟨y_3, z3, h⟩ := bd_some h
  have fz3 := Fs_3 z3
  try simp only [go_sem, z2] at fz3
  obtain rfl := so_some h
  refine ⟨0, fun L hL => ?_⟩
  simp only [go_sem, ir116, fz1, z2, fz3]
 ·try simp only [go_sem, n1, n2, n3, n4] at z2
  all_goals
  obtain ⟨y_4, z4, h⟩ := bd_some h
  have fz4 := Fs_3 z4
  try simp only [go_sem, z2] at fz4
  obtain rfl := so_some h
  refine ⟨0, fun L hL => ?_⟩
  simp only [go_sem, ir116, fz1, z2, fz4]


def ir102_v : List Nat := [0, 2]
def ir102 : AFn := ⟨1, 2, .seq (.region false [ VO 1 2 (.mov (I6 0))]) (.seq (.test false [ PM 3 0, PO 4 (.call 58 [(.s 0), (I6 14)])] (.s 0) (.seq (.region false [ PM 5 0, PO 6 (.mkSl 1 (.int .i64 (0)) 6 [(0, (.c (.int .i64 (-2001)))), (1, (.c (.int .i64 (-2000)))), (2, (I6 20000)), (3, (I6 20001)), (4, (.c (.int .i64 (-9223372036854775808)))), (5, (I6 9223372036854775807))]), PO 7 (.call 74 [(.s 1), (.s 0)]), VS 1 2 0]) (.ret)) (.skip)) (.seq (.region false [ PM 8 0, PO 9 (.call 116 [(.s 0)]), VS 1 2 0]) (.ret))), [.t 1]⟩
noncomputable def t_42 : List (Nat × Ctr) := [(58, c_4), (74, c_7), (116, c_41)]
theorem lk_42_58 : look t_42 58 = some c_4 := rfl
theorem lk_42_74 : look t_42 74 = some c_7 := rfl
theorem lk_42_116 : look t_42 116 = some c_41 := rfl
noncomputable def c_42 : Ctr := mkN t_42 ir102 [.io]
theorem s_42 : Sound Try.prog 102 c_42 := mkN_sound _ (snd_cons s_4 (snd_cons s_7 (snd_cons s_41 snd_nil))) (by kernel_rfl : chkFn Try.prog 102 ir102 ir102_v = true)
theorem M_42 : c_42.modes = [.io] := rfl
theorem Fl_42 : c_42.flat = false := rfl
attribute [go_sem] M_42 Fl_42
attribute [go_sem] lk_42_58 lk_42_74 lk_42_116
theorem Fs_42 {s_ : L00Src} {y_ : Int × L00Src} (h : spec_l02Bent s_ = some y_) : c_42.F [.mem 3 [L00Src_av s_] 0] = ⟨true, .int .i64 y_.1, [.mem 3 [L00Src_av y_.2] 0]⟩ := by
 refine mkN_E ?_
 dsimp only [spec_l02Bent] at h
 obtain ⟨y_1, z1, h⟩ := bd_some h
 have fz1 := Fs_4 z1
 try simp only [go_sem] at fz1
 rcases it_some h with ⟨z2, h⟩ | ⟨z2, h⟩
 ·try simp only [go_sem, n1, n2, n3, n4] at z2
  all_goals
  obtain ⟨y_3, z3, h⟩ := bd_some h
  have fz3 := Fs_7 z3
  try simp only [go_sem, z2] at fz3
  obtain rfl := so_some h
  refine ⟨0, fun L hL => ?_⟩
  simp only [go_sem, ir102, fz1, z2, fz3]
 ·try simp only [go_sem, n1, n2, n3, n4] at z2
  all_goals
  obtain ⟨y_4, z4, h⟩ := bd_some h
  have fz4 := Fs_41 z4
  try simp only [go_sem, z2] at fz4
  obtain rfl := so_some h
  refine ⟨0, fun L hL => ?_⟩
  simp only [go_sem, ir102, fz1, z2, fz4]


def ir80_v : List Nat := [0, 2, 3, 7]
def ir80 : AFn := ⟨1, 4, .seq (.region false [ VO 1 2 (.alloc (.agg [.int .i64 (0), .str [], .str [], .int .i64 (0), .bool false]))]) (.seq (.region false [ PM 4 0, PO 5 (.call 99 [(.s 0)]), VO 2 3 (.alloc (.agg [.int .i64 (0), .str [], .str [], .int .i64 (0), .bool false])), ⟨.no, 0, none, .store 5 (.v 2) (.s 0)⟩]) (.seq (.seq (.region false [ PM 6 0, VO 3 7 (.call 70 [(.s 0), (I6 24)])]) (.block 0 (.test false [ PO 9 (.bin false .eql (.v 3) (I6 0)), PO 8 (.mov (.s 0))] (.s 0) (.region false [ PM 10 0, PO 11 (.mkSl 1 (.int .i64 (0)) 4 [(0, (.c (.int .i64 (-1)))), (1, (I6 0)), (2, (I6
 10000000)), (3, (I6 10000001))]), PO 12 (.call 74 [(.s 1), (.s 0)]), PO 13 (.fldAddr 0 (.v 2)), ⟨.no, 0, none, .store 1 (.s 0) (.s 1)⟩]) (.test false [ PO 15 (.bin false .eql (.v 3) (I6 1)), PO 14 (.mov (.s 0))] (.s 0) (.region false [ PM 16 0, PO 17 (.mkSl 1 (.str []) 3 [(0, (.c (.str []))), (1, (.c (.str [77, 105, 114, 97]))), (2, (.c (.str [97, 32, 98])))]), PO 18 (.call 73 [(.s 1), (.s 0)]), PO 19 (.fldAddr 1 (.v 2)), ⟨.no, 0, none, .store 1 (.s 0) (.s 1)⟩]) (.test false [ PO 21 (.bin false .eql (.v 3) (I6 2)), PO 20 (.mov (.s 0))] (.s 0) (.region false [ PM 22 0, PO 23 (.mkSl 1 (.str [])
 2 [(0, (.c (.str []))), (1, (.c (.str [65, 66])))]), PO 24 (.call 73 [(.s 1), (.s 0)]), PO 25 (.fldAddr 2 (.v 2)), ⟨.no, 0, none, .store 1 (.s 0) (.s 1)⟩]) (.test false [ PO 27 (.bin false .eql (.v 3) (I6 3)), PO 26 (.mov (.s 0))] (.s 0) (.region false [ PM 28 0, PO 29 (.call 102 [(.s 0)]), PO 30 (.fldAddr 3 (.v 2)), ⟨.no, 0, none, .store 1 (.s 0) (.s 1)⟩]) (.skip))))))) (.seq (.region false [ PO 31 (.load true 5 (.v 2)), ⟨.no, 0, none, .store 5 (.v 1) (.s 0)⟩]) (.ret)))), [.cell true 5 1]⟩
noncomputable def t_43 : List (Nat × Ctr) := [(99, c_36), (70, c_3), (74, c_7), (73, c_5), (102, c_42)]
theorem lk_43_99 : look t_43 99 = some c_36 := rfl
theorem lk_43_70 : look t_43 70 = some c_3 := rfl
theorem lk_43_74 : look t_43 74 = some c_7 := rfl
theorem lk_43_73 : look t_43 73 = some c_5 := rfl
theorem lk_43_102 : look t_43 102 = some c_42 := rfl
noncomputable def c_43 : Ctr := mkN t_43 ir80 [.io]
theorem s_43 : Sound Try.prog 80 c_43 := mkN_sound _ (snd_cons s_36 (snd_cons s_3 (snd_cons s_7 (snd_cons s_5 (snd_cons s_42 snd_nil))))) (by kernel_rfl : chkFn Try.prog 80 ir80 ir80_v = true)
theorem M_43 : c_43.modes = [.io] := rfl
theorem Fl_43 : c_43.flat = false := rfl
attribute [go_sem] M_43 Fl_43
attribute [go_sem] lk_43_99 lk_43_70 lk_43_74 lk_43_73 lk_43_102
theorem Fs_43 {s_ : L00Src} {y_ : Estimate × L00Src} (h : spec_l06BentOne s_ = some y_) : c_43.F [.mem 3 [L00Src_av s_] 0] = ⟨true, Estimate_av y_.1, [.mem 3 [L00Src_av y_.2] 0]⟩ := by
 refine mkN_E ?_
 dsimp only [spec_l06BentOne] at h
 obtain ⟨y_1, z1, h⟩ := bd_some h
 have fz1 := Fs_36 z1
 try simp only [go_sem] at fz1
 obtain ⟨y_2, z2, h⟩ := bd_some h
 have fz2 := Fs_3 z2
 try simp only [go_sem] at fz2
 rcases it_some h with ⟨z3, h⟩ | ⟨z3, h⟩
 ·try simp only [go_sem, n1, n2, n3, n4] at z3
  all_goals
  obtain ⟨y_4, z4, h⟩ := bd_some h
  have fz4 := Fs_7 z4
  try simp only [go_sem, z3] at fz4
  obtain rfl := so_some h
  refine ⟨0, fun L hL => ?_⟩
  simp only [go_sem, ir80, fz1, fz2, z3, fz4]
 ·try simp only [go_sem, n1, n2, n3, n4] at z3
  all_goals
  rcases it_some h with ⟨z5, h⟩ | ⟨z5, h⟩
  ·try simp only [go_sem, n1, n2, n3, n4, z3] at z5
   all_goals
   obtain ⟨y_6, z6, h⟩ := bd_some h
   have fz6 := Fs_5 z6
   try simp only [go_sem, z3, z5] at fz6
   obtain rfl := so_some h
   refine ⟨0, fun L hL => ?_⟩
   simp only [go_sem, ir80, fz1, fz2, z3, z5, fz6]
  ·try simp only [go_sem, n1, n2, n3, n4, z3] at z5
   all_goals
   rcases it_some h with ⟨z7, h⟩ | ⟨z7, h⟩
   ·try simp only [go_sem, n1, n2, n3, n4, z3, z5] at z7
    all_goals
    obtain ⟨y_8, z8, h⟩ := bd_some h
    have fz8 := Fs_5 z8
    try simp only [go_sem, z3, z5, z7] at fz8
    obtain rfl := so_some h
    refine ⟨0, fun L hL => ?_⟩
    simp only [go_sem, ir80, fz1, fz2, z3, z5, z7, fz8]
   ·try simp only [go_sem, n1, n2, n3, n4, z3, z5] at z7
    all_goals
    rcases it_some h with ⟨z9, h⟩ | ⟨z9, h⟩
    ·try simp only [go_sem, n1, n2, n3, n4, z3, z5, z7] at z9
     all_goals
     obtain ⟨y_10, z10, h⟩ := bd_some h
     have fz10 := Fs_42 z10
     try simp only [go_sem, z3, z5, z7, z9] at fz10
     obtain rfl := so_some h
     refine ⟨0, fun L hL => ?_⟩
     simp only [go_sem, ir80, fz1, fz2, z3, z5, z7, z9, fz10]
    ·try simp only [go_sem, n1, n2, n3, n4, z3, z5, z7] at z9
     all_goals
     obtain rfl := so_some h
     refine ⟨0, fun L hL => ?_⟩
     simp only [go_sem, ir80, fz1, fz2, z3, z5, z7, z9]


def ir41_b0 : IR := .seq (.test false [ PM 22 3, PO 23 (.bin false .gtr (.s 0) (I6 0))] (.s 0) (.skip) (.exit 1)) (.seq (.block 2 (.region false [ PM 26 2, PM 27 2, PO 28 (.len false (.s 0)), PO 29 (.build [.int .i64 (0), .str [], .str [], .int .i64 (0), .bool false] [(0, 1, (.s 0)), (1, 1, (.c (.str [109, 105, 114, 97]))), (2, 1, (.c (.str [97, 98]))), (3, 1, (I6 9000))]), PO 30 (.mkSl 5 (.agg [.int .i64 (0), .str [], .str [], .int .i64 (0), .bool false]) 1 [(0, (.s 0))]), PO 31 (.app 5 56 (.agg [.int .i64 (0), .str [], .str [], .int .i64 (0), .bool false]) (.s 4) (.s 0)), VS 2 3 0])) (.region
 false [ PM 24 3, PO 25 (.bin false .sub (.s 0) (I6 1)), VS 3 4 0]))
def ir41_k0 : List Bool := [true, false, true, true, false]
def ir41_o0 : List Bool := [true, false, true, false, false]
def ir41_r0 : List Bool := [true, true, false, false, false]
def ir41_v : List Nat := [0, 2, 3, 4, 8]
def ir41 : AFn := ⟨1, 5, .seq (.region false [ VO 1 2 (.newnil 5)]) (.seq (.region false [ PM 5 0, PO 6 (.call 79 [(.s 0), (I6 10)]), VS 2 3 0]) (.seq (.seq (.region false [ PM 7 0, VO 4 8 (.call 70 [(.s 0), (I6 20)])]) (.block 0 (.test false [ PO 10 (.bin false .eql (.v 4) (I6 0)), PO 9 (.mov (.s 0))] (.s 0) (.region false [ PM 11 2, PM 12 0, PO 13 (.call 80 [(.s 0)]), PO 14 (.mkSl 5 (.agg [.int .i64 (0), .str [], .str [], .int .i64 (0), .bool false]) 1 [(0, (.s 0))]), PO 15 (.app 5 56 (.agg [.int .i64 (0), .str [], .str [], .int .i64 (0), .bool false]) (.s 3) (.s 0)), VS 2 3 0]) (.test false
 [ PO 17 (.bin false .eql (.v 4) (I6 1)), PO 16 (.mov (.s 0))] (.s 0) (.seq (.region false [ PO 18 (.mkSl 5 (.agg [.int .i64 (0), .str [], .str [], .int .i64 (0), .bool false]) 0 []), VS 2 3 0]) (.seq (.region false [ PM 19 0, PO 20 (.call 70 [(.s 0), (I6 2)]), PO 21 (.bin false .add (I6 100) (.s 0)), VS 3 4 0]) (.block 1 (.loop ir41_k0 ir41_o0 ir41_r0 ir41_b0)))) (.test false [ PO 33 (.bin false .eql (.v 4) (I6 2)), PO 32 (.mov (.s 0))] (.s 0) (.test false [ PM 34 2, PO 35 (.len false (.s 0)), PO 36 (.bin false .gtr (.s 0) (I6 0))] (.s 0) (.region false [ PM 37 2, PM 38 0, PM 39 2, PO 40 (.len
 false (.s 0)), PO 41 (.call 70 [(.s 2), (.s 0)]), PM 42 0, PO 43 (.call 80 [(.s 0)]), PO 44 (.ixAddr 5 (.s 6) (.s 2)), ⟨.no, 0, none, .store 5 (.s 0) (.s 1)⟩]) (.skip)) (.skip)))))) (.seq (.region false [ PM 45 2, VS 1 2 0]) (.ret)))), [.t 1]⟩
noncomputable def t_44 : List (Nat × Ctr) := [(79, c_40), (70, c_3), (80, c_43)]
theorem lk_44_79 : look t_44 79 = some c_40 := rfl
theorem lk_44_70 : look t_44 70 = some c_3 := rfl
theorem lk_44_80 : look t_44 80 = some c_43 := rfl
noncomputable def c_44 : Ctr := mkN t_44 ir41 [.io]
theorem s_44 : Sound Try.prog 41 c_44 := mkN_sound _ (snd_cons s_40 (snd_cons s_3 (snd_cons s_43 snd_nil))) (by kernel_rfl : chkFn Try.prog 41 ir41 ir41_v = true)
theorem M_44 : c_44.modes = [.io] := rfl
theorem Fl_44 : c_44.flat = false := rfl
attribute [go_sem] M_44 Fl_44
attribute [go_sem] lk_44_79 lk_44_70 lk_44_80
def E_44_l1 (s_ : L00Src) : ((List Estimate) × Int) → St
 | (list, k) => ⟨[.ref 31 0 0, .any, .own 3200032, .int .i64 k, .any], [], [(31, ⟨3, [L00Src_av s_]⟩), (3200032, ⟨5, List.map Estimate_av list⟩)], true⟩
def R_44_l1 (s_ : L00Src) (y : (List Estimate)) : Res := (.exit 1, ⟨[.ref 31 0 0, .any, .own 3200032, .any, .any], [], [(31, ⟨3, [L00Src_av s_]⟩), (3200032, ⟨5, List.map Estimate_av y⟩)], true⟩)
theorem spec_l06Bent_l1_ex {s_ : L00Src} {sgm_ : (List Estimate) × Int} {rho_ : (List Estimate)} (h : whileE (spec_l06Bent_l1 s_) sgm_ = some rho_) : ∃ L0, ∀ L, L0 ≤ L → iter (exec (look t_44) L ir41_b0) ir41_k0 ir41_o0 ir41_r0 L (E_44_l1 s_ sgm_) = R_44_l1 s_ rho_ := by
 refine loop_ex (E := E_44_l1 s_) (R := R_44_l1 s_) (fun y => by first | (intro c; cases c) | (rcases y with y | y <;> (intro c; cases c)) | (rcases y with y | y | y <;> (intro c; cases c))) ?_ h
 clear h
 rintro ⟨list, k⟩ o_ h
 dsimp only [spec_l06Bent_l1] at h
 rcases it_some h with ⟨z8, h⟩ | ⟨z8, h⟩
 ·try simp only [go_sem, n1, n2, n3, n4] at z8
  all_goals
  obtain ⟨z9, h⟩ := ck_some h
  try simp only [go_sem, n1, n2, n3, n4, z8] at z9
  all_goals
  obtain rfl := so_some h
  refine ⟨0, fun L hL => ?_⟩
  simp only [go_sem, ir41, E_44_l1, R_44_l1, ir41_b0, ir41_k0, ir41_o0, ir41_r0, z8, z9]
 ·try simp only [go_sem, n1, n2, n3, n4] at z8
  all_goals
  obtain rfl := so_some h
  refine ⟨0, fun L hL => ?_⟩
  simp only [go_sem, ir41, E_44_l1, R_44_l1, ir41_b0, ir41_k0, ir41_o0, ir41_r0, z8]

theorem Fs_44 {s_ : L00Src} {y_ : (List Estimate) × L00Src} (h : spec_l06Bent s_ = some y_) : c_44.F [.mem 3 [L00Src_av s_] 0] = ⟨true, .fresh 5 (List.map Estimate_av y_.1), [.mem 3 [L00Src_av y_.2] 0]⟩ := by
 refine mkN_E ?_
 dsimp only [spec_l06Bent] at h
 obtain ⟨y_1, z1, h⟩ := bd_some h
 have fz1 := Fs_40 z1
 try simp only [go_sem] at fz1
 obtain ⟨y_2, z2, h⟩ := bd_some h
 have fz2 := Fs_3 z2
 try simp only [go_sem] at fz2
 rcases it_some h with ⟨z3, h⟩ | ⟨z3, h⟩
 ·try simp only [go_sem, n1, n2, n3, n4] at z3
  all_goals
  obtain ⟨y_4, z4, h⟩ := bd_some h
  have fz4 := Fs_43 z4
  try simp only [go_sem, z3] at fz4
  obtain ⟨z5, h⟩ := ck_some h
  try simp only [go_sem, n1, n2, n3, n4, z3] at z5
  all_goals
  obtain rfl := so_some h
  refine ⟨0, fun L hL => ?_⟩
  simp only [go_sem, ir41, E_44_l1, R_44_l1, ir41_k0, ir41_o0, ir41_r0, fz1, fz2, z3, fz4, z5]
 ·try simp only [go_sem, n1, n2, n3, n4] at z3
  all_goals
  rcases it_some h with ⟨z6, h⟩ | ⟨z6, h⟩
  ·try simp only [go_sem, n1, n2, n3, n4, z3] at z6
   all_goals
   obtain ⟨y_7, z7, h⟩ := bd_some h
   have fz7 := Fs_3 z7
   try simp only [go_sem, z3, z6] at fz7
   obtain ⟨y_10, z10, h⟩ := bd_some h
   obtain ⟨Lz10, ez10⟩ := spec_l06Bent_l1_ex z10
   obtain rfl := so_some h
   refine ⟨Lz10, fun L hL => ?_⟩
   have ez10 := ez10 L (by omega)
   try simp only [go_sem, E_44_l1, R_44_l1, ir41_k0, ir41_o0, ir41_r0, z3, z6] at ez10
   simp only [go_sem, ir41, E_44_l1, R_44_l1, ir41_k0, ir41_o0, ir41_r0, fz1, fz2, z3, z6, fz7, ez10]
  ·try simp only [go_sem, n1, n2, n3, n4, z3] at z6
   all_goals
   rcases it_some h with ⟨z11, h⟩ | ⟨z11, h⟩
   ·try simp only [go_sem, n1, n2, n3, n4, z3, z6] at z11
    all_goals
    rcases it_some h with ⟨z12, h⟩ | ⟨z12, h⟩
    ·try simp only [go_sem, n1, n2, n3, n4, z3, z6, z11] at z12
     all_goals
     obtain ⟨y_13, z13, h⟩ := bd_some h
     have fz13 := Fs_3 z13
     try simp only [go_sem, z3, z6, z11, z12] at fz13
     obtain ⟨y_14, z14, h⟩ := bd_some h
     have fz14 := Fs_43 z14
     try simp only [go_sem, z3, z6, z11, z12] at fz14
     obtain ⟨z15, h⟩ := ck_some h
     have lz15 := ix_lt z15
     have xz15 := getD_mapD Estimate_av y_1.1 lz15
     try simp only [go_sem] at lz15
     try simp only [go_sem] at xz15
     try simp only [go_sem, n1, n2, n3, n4, z3, z6, z11, z12] at z15
     all_goals
     obtain rfl := so_some h
     refine ⟨0, fun L hL => ?_⟩
     simp only [go_sem, ir41, E_44_l1, R_44_l1, ir41_k0, ir41_o0, ir41_r0, fz1, fz2, z3, z6, z11, z12, fz13, fz14, z15, lz15, xz15]
    ·try simp only [go_sem, n1, n2, n3, n4, z3, z6, z11] at z12
     all_goals
     obtain rfl := so_some h
     refine ⟨0, fun L hL => ?_⟩
     simp only [go_sem, ir41, E_44_l1, R_44_l1, ir41_k0, ir41_o0, ir41_r0, fz1, fz2, z3, z6, z11, z12]
   ·try simp only [go_sem, n1, n2, n3, n4, z3, z6] at z11
    all_goals
    obtain rfl := so_some h
    refine ⟨0, fun L hL => ?_⟩
    simp only [go_sem, ir41, E_44_l1, R_44_l1, ir41_k0, ir41_o0, ir41_r0, fz1, fz2, z3, z6, z11]


def ir9_v : List Nat := [0, 2, 3, 4, 5]
def ir9 : AFn := ⟨1, 5, .seq (.region false [ VO 1 2 (.newnil 6), VO 2 3 (.newnil 5)]) (.seq (.region false [ PM 6 0, PO 7 (.call 30 [(.s 0)]), VS 3 4 0]) (.seq (.region false [ PM 8 3, PO 9 (.call 31 [(.s 0)]), VS 4 5 0]) (.seq (.region false [ PM 10 4, PM 11 3, PO 12 (.call 41 [(.s 0)]), VS 1 2 2, VS 2 3 0]) (.ret)))), [.t 1, .t 2]⟩
noncomputable def t_45 : List (Nat × Ctr) := [(30, c_1), (31, c_9), (41, c_44)]
theorem lk_45_30 : look t_45 30 = some c_1 := rfl
theorem lk_45_31 : look t_45 31 = some c_9 := rfl
theorem lk_45_41 : look t_45 41 = some c_44 := rfl
noncomputable def c_45 : Ctr := mkF t_45 ir9 [.bor]
theorem s_45 : Sound Try.prog 9 c_45 := mkF_sound _ rfl (snd_cons s_1 (snd_cons s_9 (snd_cons s_44 snd_nil))) (by kernel_rfl : chkFn Try.prog 9 ir9 ir9_v = true)
theorem M_45 : c_45.modes = [.bor] := rfl
theorem Fl_45 : c_45.flat = true := rfl
attribute [go_sem] M_45 Fl_45
attribute [go_sem] lk_45_30 lk_45_31 lk_45_41
theorem Fs_45 {code : List UInt8} {y_ : (List Request) × (List Estimate)} (h : spec_DrawServeEstimates code = some y_) : c_45.F [.sl 1 (List.map byteAV code)] = ⟨true, .tup [.fresh 6 (List.map Request_av y_.1), .fresh 5 (List.map Estimate_av y_.2)], [.any]⟩ := by
 refine mkF_E (by simp only [flatA, flatB, flat1, List.all_cons, List.all_nil, Bool.and_self, flatE_map (f := Request_av) (fun _ => rfl), flatE_map (f := Estimate_av) (fun _ => rfl)]) ?_
 dsimp only [spec_DrawServeEstimates] at h
 obtain ⟨y_1, z1, h⟩ := bd_some h
 have fz1 := Fs_1 z1
 try simp only [go_sem] at fz1
 obtain ⟨y_2, z2, h⟩ := bd_some h
 have fz2 := Fs_9 z2
 try simp only [go_sem] at fz2
 obtain ⟨y_3, z3, h⟩ := bd_some h
 have fz3 := Fs_44 z3
 try simp only [go_sem] at fz3
 obtain rfl := so_some h
 refine ⟨0, fun L hL => ?_⟩
 simp only [go_sem, ir9, fz1, fz2, fz3]


def ir103_v : List Nat := [0, 2]
def ir103 : AFn := ⟨1, 2, .seq (.region false [ VO 1 2 (.mov (.c (.bool false)))]) (.seq (.region false [ PM 3 0, PO 4 (.call 61 [(.s 0), (.c (.int .i64 (-2000))), (I6 20000)]), VS 1 2 0]) (.ret)), [.t 1]⟩
noncomputable def t_46 : List (Nat × Ctr) := [(61, c_13)]
theorem lk_46_61 : look t_46 61 = some c_13 := rfl
noncomputable def c_46 : Ctr := mkF t_46 ir103 [.bor]
theorem s_46 : Sound Try.prog 103 c_46 := mkF_sound _ rfl (snd_cons s_13 snd_nil) (by kernel_rfl : chkFn Try.prog 103 ir103 ir103_v = true)
theorem M_46 : c_46.modes = [.bor] := rfl
theorem Fl_46 : c_46.flat = true := rfl
attribute [go_sem] M_46 Fl_46
attribute [go_sem] lk_46_61
theorem Fs_46 {m : Int} {y_ : Bool} (h : impl_ValidMag m = some y_) : c_46.F [.int .i64 m] = ⟨true, .bool y_, [.any]⟩ := by
 refine mkF_E rfl ?_
 dsimp only [impl_ValidMag] at h
 obtain ⟨y_1, z1, h⟩ := bd_some h
 have fz1 := Fs_13 z1
 try simp only [go_sem] at fz1
 obtain rfl := so_some h
 refine ⟨0, fun L hL => ?_⟩
 simp only [go_sem, ir103, fz1]


def ir81_v : List Nat := [0, 1, 2]
def ir81 : AFn := ⟨1, 3, .seq (.region false [ VO 1 1 (.box (.v 0)), VO 2 2 (.mov (.c (.bool false)))]) (.seq (.region false [ PO 3 (.fldAddr 0 (.v 1)), PO 4 (.load false 1 (.s 0)), PO 5 (.call 34 [(.s 0)]), PO 6 (.mov (.s 0)), ⟨.push, 7, (some ((.s 0), true)), .fldAddr 1 (.v 1)⟩, ⟨.push, 8, (some ((.s 1), true)), .load false 1 (.s 0)⟩, ⟨.push, 9, (some ((.s 2), true)), .call 35 [(.s 0)]⟩, PO 10 (.pick (.s 3) (.s 0) (.c (.bool false))), PO 11 (.mov (.s 0)), ⟨.push, 12, (some ((.s 0), true)), .fldAddr 2 (.v 1)⟩, ⟨.push, 13, (some ((.s 1), true)), .load false 1 (.s 0)⟩, ⟨.push, 14, (some ((.s 2),
 true)), .call 35 [(.s 0)]⟩, PO 15 (.pick (.s 3) (.s 0) (.c (.bool false))), PO 16 (.mov (.s 0)), ⟨.push, 17, (some ((.s 0), true)), .fldAddr 3 (.v 1)⟩, ⟨.push, 18, (some ((.s 1), true)), .load false 1 (.s 0)⟩, ⟨.push, 19, (some ((.s 2), true)), .call 103 [(.s 0)]⟩, PO 20 (.pick (.s 3) (.s 0) (.c (.bool false))), VS 2 2 0]) (.ret)), [.t 2]⟩
noncomputable def t_47 : List (Nat × Ctr) := [(34, c_14), (35, c_15), (103, c_46)]
theorem lk_47_34 : look t_47 34 = some c_14 := rfl
theorem lk_47_35 : look t_47 35 = some c_15 := rfl
theorem lk_47_103 : look t_47 103 = some c_46 := rfl
noncomputable def c_47 : Ctr := mkF t_47 ir81 [.bor]
theorem s_47 : Sound Try.prog 81 c_47 := mkF_sound _ rfl (snd_cons s_14 (snd_cons s_15 (snd_cons s_46 snd_nil))) (by kernel_rfl : chkFn Try.prog 81 ir81 ir81_v = true)
theorem M_47 : c_47.modes = [.bor] := rfl
theorem Fl_47 : c_47.flat = true := rfl
attribute [go_sem] M_47 Fl_47
attribute [go_sem] lk_47_34 lk_47_35 lk_47_103
theorem Fs_47 {e_ : Estimate} {y_ : Bool} (h : impl_isEstimate e_ = some y_) : c_47.F [Estimate_av e_] = ⟨true, .bool y_, [.any]⟩ := by
 refine mkF_E rfl ?_
 dsimp only [impl_isEstimate] at h
 obtain ⟨y_1, z1, h⟩ := bd_some h
 have fz1 := Fs_14 z1
 try simp only [go_sem] at fz1
 obtain ⟨z2, h⟩ := ck_some h
 rcases or_split z2 with ⟨gz2, z2⟩ | gz2
 ·try simp only [go_sem, n1, n2, n3, n4] at gz2
  all_goals
  obtain ⟨y_2, hz2⟩ := Option.isSome_iff_exists.1 z2
  have fz2 := Fs_15 hz2
  try simp only [go_sem, n1, n2, n3, n4, gz2] at hz2
  all_goals
  try simp only [go_sem, gz2] at fz2
  obtain ⟨z3, h⟩ := ck_some h
  rcases or_split z3 with ⟨gz3, z3⟩ | gz3
  ·try simp only [go_sem, n1, n2, n3, n4, gz2, hz2] at gz3
   all_goals
   obtain ⟨y_3, hz3⟩ := Option.isSome_iff_exists.1 z3
   have fz3 := Fs_15 hz3
   try simp only [go_sem, n1, n2, n3, n4, gz2, hz2, gz3] at hz3
   all_goals
   try simp only [go_sem, gz2, hz2, gz3] at fz3
   obtain ⟨z4, h⟩ := ck_some h
   rcases or_split z4 with ⟨gz4, z4⟩ | gz4
   ·try simp only [go_sem, n1, n2, n3, n4, gz2, hz2, gz3, hz3] at gz4
    all_goals
    obtain ⟨y_4, hz4⟩ := Option.isSome_iff_exists.1 z4
    have fz4 := Fs_46 hz4
    try simp only [go_sem, n1, n2, n3, n4, gz2, hz2, gz3, hz3, gz4] at hz4
    all_goals
    try simp only [go_sem, gz2, hz2, gz3, hz3, gz4] at fz4
    obtain rfl := so_some h
    refine ⟨0, fun L hL => ?_⟩
    simp only [go_sem, ir81, fz1, gz2, hz2, fz2, gz3, hz3, fz3, gz4, hz4, fz4]
   ·rcases and_f gz4 with gz4a | ⟨gz4a, gz4b⟩
    ·try simp only [go_sem, n1, n2, n3, n4, gz2, hz2, gz3, hz3] at gz4a
     all_goals
     (simp_all)
    ·obtain ⟨gz4aa, gz4ab⟩ := and_t gz4a
     try simp only [go_sem, n1, n2, n3, n4, gz2, hz2, gz3, hz3] at gz4aa
     all_goals
     try simp only [go_sem, n1, n2, n3, n4, gz2, hz2, gz3, hz3, gz4aa] at gz4ab
     all_goals
     try simp only [go_sem, n1, n2, n3, n4, gz2, hz2, gz3, hz3, gz4aa, gz4ab] at gz4b
     all_goals
     obtain rfl := so_some h
     refine ⟨0, fun L hL => ?_⟩
     simp only [go_sem, ir81, fz1, gz2, hz2, fz2, gz3, hz3, fz3, gz4aa, gz4ab, gz4b]
  ·rcases and_f gz3 with gz3a | ⟨gz3a, gz3b⟩
   ·try simp only [go_sem, n1, n2, n3, n4, gz2, hz2] at gz3a
    all_goals
    (simp_all)
   ·try simp only [go_sem, n1, n2, n3, n4, gz2, hz2] at gz3a
    all_goals
    try simp only [go_sem, n1, n2, n3, n4, gz2, hz2, gz3a] at gz3b
    all_goals
    obtain ⟨z4, h⟩ := ck_some h
    obtain rfl := so_some h
    refine ⟨0, fun L hL => ?_⟩
    simp only [go_sem, ir81, fz1, gz2, hz2, fz2, gz3a, gz3b]
 ·try simp only [go_sem, n1, n2, n3, n4] at gz2
  all_goals
  obtain ⟨z3, h⟩ := ck_some h
  obtain ⟨z4, h⟩ := ck_some h
  obtain rfl := so_some h
  refine ⟨0, fun L hL => ?_⟩
  simp only [go_sem, ir81, fz1, gz2]


def ir117_v : List Nat := [0, 2]
def ir117 : AFn := ⟨1, 2, .seq (.region false [ VO 1 2 (.mov (.c (.bool false)))]) (.seq (.region false [ PM 3 0, PM 4 0, PO 5 (.bin false .neq (.s 1) (.s 0)), VS 1 2 0]) (.ret)), [.t 1]⟩
noncomputable def t_48 : List (Nat × Ctr) := []
noncomputable def c_48 : Ctr := mkF t_48 ir117 [.bor]
theorem s_48 : Sound Try.prog 117 c_48 := mkF_sound _ rfl snd_nil (by kernel_rfl : chkFn Try.prog 117 ir117 ir117_v = true)
theorem M_48 : c_48.modes = [.bor] := rfl
theorem Fl_48 : c_48.flat = true := rfl
attribute [go_sem] M_48 Fl_48
theorem Fs_48 {x : Int} {y_ : Bool} (h : cmp_isNaN_int64 x = some y_) : c_48.F [.int .i64 x] = ⟨true, .bool y_, [.any]⟩ := by
 refine mkF_E rfl ?_
 dsimp only [cmp_isNaN_int64] at h
 obtain rfl := so_some h
 refine ⟨0, fun L hL => ?_⟩
 simp only [go_sem, ir117]


def ir105_v : List Nat := [0, 1, 4, 5, 6]
def ir105 : AFn := ⟨2, 5, .seq (.region false [ VO 2 4 (.mov (I6 0))]) (.seq (.region false [ PM 7 0, PO 8 (.call 117 [(.s 0)]), VS 3 5 0]) (.seq (.region false [ PM 9 1, PO 10 (.call 117 [(.s 0)]), VS 4 6 0]) (.seq (.test false [ PM 11 3] (.s 0) (.seq (.test false [ PM 12 4] (.s 0) (.seq (.region false [ VO 2 4 (.mov (I6 0))]) (.ret)) (.skip)) (.seq (.region false [ VO 2 4 (.mov (.c (.int .i64 (-1))))]) (.ret))) (.skip)) (.seq (.test false [ PM 13 4] (.s 0) (.seq (.region false [ VO 2 4 (.mov (I6 1))]) (.ret)) (.skip)) (.seq (.test false [ PM 14 0, PM 15 1, PO 16 (.bin false .lss (.s 1) (.s
 0))] (.s 0) (.seq (.region false [ VO 2 4 (.mov (.c (.int .i64 (-1))))]) (.ret)) (.skip)) (.seq (.test false [ PM 17 0, PM 18 1, PO 19 (.bin false .gtr (.s 1) (.s 0))] (.s 0) (.seq (.region false [ VO 2 4 (.mov (I6 1))]) (.ret)) (.skip)) (.seq (.region false [ VO 2 4 (.mov (I6 0))]) (.ret)))))))), [.t 2]⟩
noncomputable def t_49 : List (Nat × Ctr) := [(117, c_48)]
theorem lk_49_117 : look t_49 117 = some c_48 := rfl
noncomputable def c_49 : Ctr := mkF t_49 ir105 [.bor, .bor]
theorem s_49 : Sound Try.prog 105 c_49 := mkF_sound _ rfl (snd_cons s_48 snd_nil) (by kernel_rfl : chkFn Try.prog 105 ir105 ir105_v = true)
theorem M_49 : c_49.modes = [.bor, .bor] := rfl
theorem Fl_49 : c_49.flat = true := rfl
attribute [go_sem] M_49 Fl_49
attribute [go_sem] lk_49_117
theorem Fs_49 {x : Int} {y : Int} {y_ : Int} (h : cmp_Compare_int64 x y = some y_) : c_49.F [.int .i64 x, .int .i64 y] = ⟨true, .int .i64 y_, [.any, .any]⟩ := by
 refine mkF_E rfl ?_
 dsimp only [cmp_Compare_int64] at h
 obtain ⟨y_1, z1, h⟩ := bd_some h
 have fz1 := Fs_48 z1
 try simp only [go_sem] at fz1
 obtain ⟨y_2, z2, h⟩ := bd_some h
 have fz2 := Fs_48 z2
 try simp only [go_sem] at fz2
 rcases it_some h with ⟨z3, h⟩ | ⟨z3, h⟩
 ·try simp only [go_sem, n1, n2, n3, n4] at z3
  all_goals
  rcases it_some h with ⟨z4, h⟩ | ⟨z4, h⟩
  ·try simp only [go_sem, n1, n2, n3, n4, z3] at z4
   all_goals
   obtain rfl := so_some h
   refine ⟨0, fun L hL => ?_⟩
   simp only [go_sem, ir105, fz1, fz2, z3, z4]
  ·try simp only [go_sem, n1, n2, n3, n4, z3] at z4
   all_goals
   obtain rfl := so_some h
   refine ⟨0, fun L hL => ?_⟩
   simp only [go_sem, ir105, fz1, fz2, z3, z4]
 ·try simp only [go_sem, n1, n2, n3, n4] at z3
  all_goals
  rcases it_some h with ⟨z5, h⟩ | ⟨z5, h⟩
  ·try simp only [go_sem, n1, n2, n3, n4, z3] at z5
   all_goals
   obtain rfl := so_some h
   refine ⟨0, fun L hL => ?_⟩
   simp only [go_sem, ir105, fz1, fz2, z3, z5]
  ·try simp only [go_sem, n1, n2, n3, n4, z3] at z5
   all_goals
   rcases it_some h with ⟨z6, h⟩ | ⟨z6, h⟩
   ·try simp only [go_sem, n1, n2, n3, n4, z3, z5] at z6
    all_goals
    obtain rfl := so_some h
    refine ⟨0, fun L hL => ?_⟩
    simp only [go_sem, ir105, fz1, fz2, z3, z5, z6]
   ·try simp only [go_sem, n1, n2, n3, n4, z3, z5] at z6
    all_goals
    rcases it_some h with ⟨z7, h⟩ | ⟨z7, h⟩
    ·try simp only [go_sem, n1, n2, n3, n4, z3, z5, z6] at z7
     all_goals
     obtain rfl := so_some h
     refine ⟨0, fun L hL => ?_⟩
     simp only [go_sem, ir105, fz1, fz2, z3, z5, z6, z7]
    ·try simp only [go_sem, n1, n2, n3, n4, z3, z5, z6] at z7
     all_goals
     obtain rfl := so_some h
     refine ⟨0, fun L hL => ?_⟩
     simp only [go_sem, ir105, fz1, fz2, z3, z5, z6, z7]


theorem s_hCmp : Sound Try.prog 122 c_hCmp := hCmp_sound Try.func122 (by kernel_rfl) (by kernel_rfl) (by kernel_rfl) (by kernel_rfl)

def ir118_v : List Nat := [0, 1, 4]
def ir118 : AFn := ⟨2, 3, .seq (.region false [ VO 2 4 (.mov (I6 0))]) (.seq (.region false [ PM 5 0, PM 6 1, PO 7 (.call 122 [(.s 1), (.s 0)]), VS 2 4 0]) (.ret)), [.t 2]⟩
noncomputable def t_51 : List (Nat × Ctr) := [(122, c_hCmp)]
theorem lk_51_122 : look t_51 122 = some c_hCmp := rfl
noncomputable def c_51 : Ctr := mkF t_51 ir118 [.bor, .bor]
theorem s_51 : Sound Try.prog 118 c_51 := mkF_sound _ rfl (snd_cons s_hCmp snd_nil) (by kernel_rfl : chkFn Try.prog 118 ir118 ir118_v = true)
theorem M_51 : c_51.modes = [.bor, .bor] := rfl
theorem Fl_51 : c_51.flat = true := rfl
attribute [go_sem] M_51 Fl_51
attribute [go_sem] lk_51_122
theorem Fs_51 {a : List UInt8} {b : List UInt8} {y_ : Int} (h : internal_bytealg_CompareString a b = some y_) : c_51.F [.str a, .str b] = ⟨true, .int .i64 y_, [.any, .any]⟩ := by
 refine mkF_E rfl ?_
 dsimp only [internal_bytealg_CompareString] at h
 obtain ⟨y_1, z1, h⟩ := bd_some h
 have fz1 := Fs_hCmp z1
 try simp only [go_sem] at fz1
 obtain rfl := so_some h
 refine ⟨0, fun L hL => ?_⟩
 simp only [go_sem, ir118, fz1]


def ir106_v : List Nat := [0, 1, 4]
def ir106 : AFn := ⟨2, 3, .seq (.region false [ VO 2 4 (.mov (I6 0))]) (.seq (.region false [ PM 5 0, PM 6 1, PO 7 (.call 118 [(.s 1), (.s 0)]), VS 2 4 0]) (.ret)), [.t 2]⟩
noncomputable def t_52 : List (Nat × Ctr) := [(118, c_51)]
theorem lk_52_118 : look t_52 118 = some c_51 := rfl
noncomputable def c_52 : Ctr := mkF t_52 ir106 [.bor, .bor]
theorem s_52 : Sound Try.prog 106 c_52 := mkF_sound _ rfl (snd_cons s_51 snd_nil) (by kernel_rfl : chkFn Try.prog 106 ir106 ir106_v = true)
theorem M_52 : c_52.modes = [.bor, .bor] := rfl
theorem Fl_52 : c_52.flat = true := rfl
attribute [go_sem] M_52 Fl_52
attribute [go_sem] lk_52_118
theorem Fs_52 {a : List UInt8} {b : List UInt8} {y_ : Int} (h : strings_Compare a b = some y_) : c_52.F [.str a, .str b] = ⟨true, .int .i64 y_, [.any, .any]⟩ := by
 refine mkF_E rfl ?_
 dsimp only [strings_Compare] at h
 obtain ⟨y_1, z1, h⟩ := bd_some h
 have fz1 := Fs_51 z1
 try simp only [go_sem] at fz1
 obtain rfl := so_some h
 refine ⟨0, fun L hL => ?_⟩
 simp only [go_sem, ir106, fz1]


def ir104_b0 : IR := .seq (.region false [ VO 7 9 (.bin false .lss (.v 6) (.v 5))]) (.seq (.cond (.v 7) (.skip) (.exit 0)) (.seq (.block 1 (.seq (.region false [ PO 10 (.ixAddr 1 (.v 4) (.v 6)), PO 11 (.load false 1 (.s 0)), VS 3 5 0]) (.test false [ PM 12 3, PM 13 2, PO 14 (.bin false .neq (.s 1) (.s 0))] (.s 0) (.seq (.region false [ PM 15 3, VS 1 2 0]) (.ret)) (.skip)))) (.region false [ PO 16 (.bin false .add (.v 6) (I6 1)), VS 6 8 0])))
def ir104_k0 : List Bool := [false, false, true, false, true, true, true, false]
def ir104_o0 : List Bool := [false, false, true, false, false, false, false, false]
def ir104_r0 : List Bool := [false, true, false, false, false, false, false, false]
def ir104_v : List Nat := [0, 2, 3, 5, 6, 7, 8, 9]
def ir104 : AFn := ⟨1, 8, .seq (.region false [ VO 1 2 (.mov (I6 0))]) (.seq (.region false [ VO 2 3 (.mov (I6 0))]) (.seq (.seq (.region false [ VO 4 6 (.mov (.v 0)), VO 5 7 (.len false (.v 4)), VO 6 8 (.mov (I6 0))]) (.block 0 (.loop ir104_k0 ir104_o0 ir104_r0 ir104_b0))) (.seq (.region false [ PM 17 2, VS 1 2 0]) (.ret)))), [.t 1]⟩
noncomputable def t_53 : List (Nat × Ctr) := []
noncomputable def c_53 : Ctr := mkF t_53 ir104 [.bor]
theorem s_53 : Sound Try.prog 104 c_53 := mkF_sound _ rfl snd_nil (by kernel_rfl : chkFn Try.prog 104 ir104 ir104_v = true)
theorem M_53 : c_53.modes = [.bor] := rfl
theorem Fl_53 : c_53.flat = true := rfl
attribute [go_sem] M_53 Fl_53
def E_53_l1 (zero : Int) (t6 : List Int) (t7 : Int) : Int → St
 | t8 => ⟨[.any, .any, .int .i64 zero, .any, .sl 1 (List.map (AV.int .i64) t6), .int .i64 t7, .int .i64 t8, .any], [], [], true⟩
def R_53_l1 (zero : Int) (t6 : List Int) (t7 : Int) : (Unit ⊕ Int) → Res
 | .inl y => (.exit 0, ⟨[.any, .any, .int .i64 zero, .any, .any, .any, .any, .any], [], [], true⟩)
 | .inr y => (.ret, ⟨[.any, .int .i64 y, .any, .any, .any, .any, .any, .any], [], [], true⟩)
theorem cmp_Or_int_l1_ex {zero : Int} {t6 : List Int} {t7 : Int} {sgm_ : Int} {rho_ : Unit ⊕ Int} (h : whileE (cmp_Or_int_l1 zero t6 t7) sgm_ = some rho_) : ∃ L0, ∀ L, L0 ≤ L → iter (exec (look t_53) L ir104_b0) ir104_k0 ir104_o0 ir104_r0 L (E_53_l1 zero t6 t7 sgm_) = R_53_l1 zero t6 t7 rho_ := by
 refine loop_ex (E := E_53_l1 zero t6 t7) (R := R_53_l1 zero t6 t7) (fun y => by first | (intro c; cases c) | (rcases y with y | y <;> (intro c; cases c)) | (rcases y with y | y | y <;> (intro c; cases c))) ?_ h
 clear h
 intro t8 o_ h
 dsimp only [cmp_Or_int_l1] at h
 rcases it_some h with ⟨z1, h⟩ | ⟨z1, h⟩
 ·try simp only [go_sem, n1, n2, n3, n4] at z1
  all_goals
  obtain ⟨z2, h⟩ := ck_some h
  have lz2 := ix_lt z2
  have xz2 := getD_mapD (AV.int .i64) t6 lz2
  try simp only [go_sem] at lz2
  try simp only [go_sem] at xz2
  try simp only [go_sem, n1, n2, n3, n4, z1] at z2
  all_goals
  rcases it_some h with ⟨z3, h⟩ | ⟨z3, h⟩
  ·try simp only [go_sem, n1, n2, n3, n4, z1, z2] at z3
   all_goals
   obtain rfl := so_some h
   refine ⟨0, fun L hL => ?_⟩
   simp only [go_sem, ir104, E_53_l1, R_53_l1, ir104_b0, ir104_k0, ir104_o0, ir104_r0, z1, z2, lz2, xz2, z3]
  ·try simp only [go_sem, n1, n2, n3, n4, z1, z2] at z3
   all_goals
   obtain rfl := so_some h
   refine ⟨0, fun L hL => ?_⟩
   simp only [go_sem, ir104, E_53_l1, R_53_l1, ir104_b0, ir104_k0, ir104_o0, ir104_r0, z1, z2, lz2, xz2, z3]
 ·try simp only [go_sem, n1, n2, n3, n4] at z1
  all_goals
  obtain rfl := so_some h
  refine ⟨0, fun L hL => ?_⟩
  simp only [go_sem, ir104, E_53_l1, R_53_l1, ir104_b0, ir104_k0, ir104_o0, ir104_r0, z1]

theorem Fs_53 {vals : List Int} {y_ : Int} (h : cmp_Or_int vals = some y_) : c_53.F [.sl 1 (List.map (AV.int .i64) vals)] = ⟨true, .int .i64 y_, [.any]⟩ := by
 refine mkF_E rfl ?_
 dsimp only [cmp_Or_int] at h
 obtain ⟨y_4, z4, h⟩ := bd_some h
 obtain ⟨Lz4, ez4⟩ := cmp_Or_int_l1_ex z4
 rcases y_4 with y_4a | y_4b
 ·dsimp only at h
  obtain rfl := so_some h
  refine ⟨Lz4, fun L hL => ?_⟩
  have ez4 := ez4 L (by omega)
  try simp only [go_sem, E_53_l1, R_53_l1, ir104_k0, ir104_o0, ir104_r0] at ez4
  simp only [go_sem, ir104, E_53_l1, R_53_l1, ir104_k0, ir104_o0, ir104_r0, ez4]
 ·dsimp only at h
  obtain rfl := so_some h
  refine ⟨Lz4, fun L hL => ?_⟩
  have ez4 := ez4 L (by omega)
  try simp only [go_sem, E_53_l1, R_53_l1, ir104_k0, ir104_o0, ir104_r0] at ez4
  simp only [go_sem, ir104, E_53_l1, R_53_l1, ir104_k0, ir104_o0, ir104_r0, ez4]


def ir82_v : List Nat := [0, 1, 2, 3, 4]
def ir82 : AFn := ⟨2, 5, .seq (.region false [ VO 2 2 (.box (.v 0)), VO 3 3 (.box (.v 1)), VO 4 4 (.mov (I6 0))]) (.seq (.anyo 17 [ SO 0 5 (.fldAddr 0 (.v 2)), SO 1 6 (.load false 1 (.s 0)), SO 2 7 (.fldAddr 0 (.v 3)), SO 3 8 (.load false 1 (.s 2)), SO 4 9 (.callp 105 [(.s 1), (.s 3)]), SO 5 10 (.fldAddr 1 (.v 2)), SO 6 11 (.load false 1 (.s 5)), SO 7 12 (.fldAddr 1 (.v 3)), SO 8 13 (.load false 1 (.s 7)), SO 9 14 (.callp 106 [(.s 6), (.s 8)]), SO 10 15 (.fldAddr 2 (.v 2)), SO 11 16 (.load false 1 (.s 10)), SO 12 17 (.fldAddr 2 (.v 3)), SO 13 18 (.load false 1 (.s 12)), SO 14 19 (.callp 106
 [(.s 11), (.s 13)]), SO 15 20 (.pur (.mkSl 1 (.int .i64 (0)) 3 [(0, (.s 4)), (1, (.s 9)), (2, (.s 14))])), SO 16 21 (.callp 104 [(.s 15)]), VS 4 4 16] [] .skip) (.ret)), [.t 4]⟩
noncomputable def t_54 : List (Nat × Ctr) := [(105, c_49), (106, c_52), (104, c_53)]
theorem lk_54_105 : look t_54 105 = some c_49 := rfl
theorem lk_54_106 : look t_54 106 = some c_52 := rfl
theorem lk_54_104 : look t_54 104 = some c_53 := rfl
noncomputable def c_54 : Ctr := mkF t_54 ir82 [.bor, .bor]
theorem s_54 : Sound Try.prog 82 c_54 := mkF_sound _ rfl (snd_cons s_49 (snd_cons s_52 (snd_cons s_53 snd_nil))) (by kernel_rfl : chkFn Try.prog 82 ir82 ir82_v = true)
theorem M_54 : c_54.modes = [.bor, .bor] := rfl
theorem Fl_54 : c_54.flat = true := rfl
attribute [go_sem] M_54 Fl_54
attribute [go_sem] lk_54_105 lk_54_106 lk_54_104
theorem Fs_54 {a : Estimate} {b : Estimate} {y_ : Int} (h : impl_compareEstimates a b = some y_) : c_54.F [Estimate_av a, Estimate_av b] = ⟨true, .int .i64 y_, [.any, .any]⟩ := by
 refine mkF_E rfl ?_
 dsimp only [impl_compareEstimates] at h
 obtain ⟨y_1, z1, h⟩ := bd_some h
 have fz1 := Fs_49 z1
 try simp only [go_sem] at fz1
 obtain ⟨y_2, z2, h⟩ := bd_some h
 have fz2 := Fs_52 z2
 try simp only [go_sem] at fz2
 obtain ⟨y_3, z3, h⟩ := bd_some h
 have fz3 := Fs_52 z3
 try simp only [go_sem] at fz3
 obtain ⟨y_4, z4, h⟩ := bd_some h
 have fz4 := Fs_53 z4
 try simp only [go_sem] at fz4
 obtain rfl := so_some h
 refine ⟨0, fun L hL => ?_⟩
 simp only [go_sem, ir82, fz1, fz2, fz3, fz4]


def ir42_b0 : IR := .seq (.region false [ VO 7 11 (.bin false .lss (.v 6) (.v 5))]) (.seq (.cond (.v 7) (.skip) (.exit 0)) (.seq (.block 1 (.seq (.region false [ PM 12 6, PO 13 (.ixAddr 5 (.v 4) (.v 6)), PO 14 (.load true 5 (.s 0)), VO 3 4 (.alloc (.agg [.int .i64 (0), .str [], .str [], .int .i64 (0), .bool false])), VS 2 3 2, ⟨.no, 0, none, .store 5 (.v 3) (.s 0)⟩]) (.anyo 17 [ SO 0 15 (.load true 5 (.v 3)), SO 1 16 (.callp 81 [(.s 0)]), SO 2 17 (.un .not (.s 1)), SO 3 18 (.mov (.s 2)), ⟨.slot 4, 19, (some ((.s 3), false)), .mov (.v 2)⟩, ⟨.slot 5, 20, (some ((.s 3), false)), .bin false .gtr
 (.s 4) (I6 0)⟩, ⟨.slot 6, 21, (some ((.s 3), false)), .mov (.s 5)⟩, ⟨.slot 7, 22, (some ((.s 6), true)), .mov (.v 0)⟩, ⟨.slot 8, 23, (some ((.s 6), true)), .mov (.v 2)⟩, ⟨.slot 9, 24, (some ((.s 6), true)), .bin false .sub (.s 8) (I6 1)⟩, ⟨.slot 10, 25, (some ((.s 6), true)), .ixAddr 5 (.s 7) (.s 9)⟩, ⟨.slot 11, 26, (some ((.s 6), true)), .load true 5 (.s 10)⟩, ⟨.slot 12, 27, (some ((.s 6), true)), .load true 5 (.v 3)⟩, ⟨.slot 13, 28, (some ((.s 6), true)), .call 82 [(.s 11), (.s 12)]⟩, ⟨.slot 14, 29, (some ((.s 6), true)), .bin false .geq (.s 13) (I6 0)⟩, ⟨.slot 15, 30, (some ((.s 3),
 false)), .pick (.s 6) (.s 14) (.c (.bool false))⟩, SO 16 31 (.pick (.s 3) (.c (.bool true)) (.s 15))] [] (.cond (.s 16) (.seq (.region false [ VO 1 2 (.mov (.c (.bool false)))]) (.ret)) (.skip))))) (.region false [ PO 32 (.bin false .add (.v 6) (I6 1)), VS 6 10 0])))
def ir42_k0 : List Bool := [true, false, false, false, true, true, true, false]
def ir42_o0 : List Bool := [false, false, false, false, false, false, false, false]
def ir42_r0 : List Bool := [false, true, false, false, false, false, false, false]
def ir42_v : List Nat := [0, 2, 3, 4, 8, 9, 10, 11]
def ir42 : AFn := ⟨1, 8, .seq (.region false [ VO 1 2 (.mov (.c (.bool false)))]) (.seq (.test false [ PM 5 0, PO 6 (.len false (.s 0)), PO 7 (.bin false .gtr (.s 0) (I6 100))] (.s 0) (.seq (.region false [ VO 1 2 (.mov (.c (.bool false)))]) (.ret)) (.skip)) (.seq (.seq (.region false [ VO 4 8 (.mov (.v 0)), VO 5 9 (.len false (.v 4)), VO 6 10 (.mov (I6 0))]) (.block 0 (.loop ir42_k0 ir42_o0 ir42_r0 ir42_b0))) (.seq (.region false [ VO 1 2 (.mov (.c (.bool true)))]) (.ret)))), [.t 1]⟩
noncomputable def t_55 : List (Nat × Ctr) := [(81, c_47), (82, c_54)]
theorem lk_55_81 : look t_55 81 = some c_47 := rfl
theorem lk_55_82 : look t_55 82 = some c_54 := rfl
noncomputable def c_55 : Ctr := mkF t_55 ir42 [.bor]
theorem s_55 : Sound Try.prog 42 c_55 := mkF_sound _ rfl (snd_cons s_47 (snd_cons s_54 snd_nil)) (by kernel_rfl : chkFn Try.prog 42 ir42 ir42_v = true)
theorem M_55 : c_55.modes = [.bor] := rfl
theorem Fl_55 : c_55.flat = true := rfl
attribute [go_sem] M_55 Fl_55
attribute [go_sem] lk_55_81 lk_55_82
def E_55_l1 (list : List Estimate) (t8 : List Estimate) (t9 : Int) : Int → St
 | t10 => ⟨[.sl 5 (List.map Estimate_av list), .any, .any, .any, .sl 5 (List.map Estimate_av t8), .int .i64 t9, .int .i64 t10, .any], [], [], true⟩
def R_55_l1 (list : List Estimate) (t8 : List Estimate) (t9 : Int) : (Unit ⊕ Bool) → Res
 | .inl y => (.exit 0, ⟨[.any, .any, .any, .any, .any, .any, .any, .any], [], [], true⟩)
 | .inr y => (.ret, ⟨[.any, .bool y, .any, .any, .any, .any, .any, .any], [], [], true⟩)
theorem impl_ValidEstimates_l1_ex {list : List Estimate} {t8 : List Estimate} {t9 : Int} {sgm_ : Int} {rho_ : Unit ⊕ Bool} (h : whileE (impl_ValidEstimates_l1 list t8 t9) sgm_ = some rho_) : ∃ L0, ∀ L, L0 ≤ L → iter (exec (look t_55) L ir42_b0) ir42_k0 ir42_o0 ir42_r0 L (E_55_l1 list t8 t9 sgm_) = R_55_l1 list t8 t9 rho_ := by
 refine loop_ex (E := E_55_l1 list t8 t9) (R := R_55_l1 list t8 t9) (fun y => by first | (intro c; cases c) | (rcases y with y | y <;> (intro c; cases c)) | (rcases y with y | y | y <;> (intro c; cases c))) ?_ h
 clear h
 intro t10 o_ h
 dsimp only [impl_ValidEstimates_l1] at h
 rcases it_some h with ⟨z2, h⟩ | ⟨z2, h⟩
 ·try simp only [go_sem, n1, n2, n3, n4] at z2
  all_goals
  obtain ⟨z3, h⟩ := ck_some h
  have lz3 := ix_lt z3
  have xz3 := getD_mapD Estimate_av t8 lz3
  try simp only [go_sem] at lz3
  try simp only [go_sem] at xz3
  try simp only [go_sem, n1, n2, n3, n4, z2] at z3
  all_goals
  obtain ⟨y_4, z4, h⟩ := bd_some h
  have fz4 := Fs_47 z4
  try simp only [go_sem, z2, z3] at fz4
  obtain ⟨z5, h⟩ := ck_some h
  rcases or_split z5 with ⟨gz5, z5⟩ | gz5
  ·try simp only [go_sem, n1, n2, n3, n4, z2, z3] at gz5
   all_goals
   have lz5 := ix_lt z5
   have xz5 := getD_mapD Estimate_av list lz5
   try simp only [go_sem] at lz5
   try simp only [go_sem] at xz5
   try simp only [go_sem, n1, n2, n3, n4, z2, z3, gz5] at z5
   all_goals
   obtain ⟨z6, h⟩ := ck_some h
   rcases or_split z6 with ⟨gz6, z6⟩ | gz6
   ·try simp only [go_sem, n1, n2, n3, n4, z2, z3, gz5, z5] at gz6
    all_goals
    obtain ⟨y_6, hz6⟩ := Option.isSome_iff_exists.1 z6
    have fz6 := Fs_54 hz6
    try simp only [go_sem, n1, n2, n3, n4, z2, z3, gz5, z5, gz6] at hz6
    all_goals
    try simp only [go_sem, z2, z3, gz5, z5, gz6] at fz6
    rcases it_some h with ⟨z7, h⟩ | ⟨z7, h⟩
    ·try simp only [go_sem, n1, n2, n3, n4, z2, z3, gz5, z5, gz6, hz6] at z7
     all_goals
     obtain rfl := so_some h
     refine ⟨0, fun L hL => ?_⟩
     simp only [go_sem, ir42, E_55_l1, R_55_l1, ir42_b0, ir42_k0, ir42_o0, ir42_r0, z2, z3, lz3, xz3, fz4, gz5, z5, lz5, xz5, gz6, hz6, fz6, z7]
    ·try simp only [go_sem, n1, n2, n3, n4, z2, z3, gz5, z5, gz6, hz6] at z7
     all_goals
     obtain rfl := so_some h
     refine ⟨0, fun L hL => ?_⟩
     simp only [go_sem, ir42, E_55_l1, R_55_l1, ir42_b0, ir42_k0, ir42_o0, ir42_r0, z2, z3, lz3, xz3, fz4, gz5, z5, lz5, xz5, gz6, hz6, fz6, z7]
   ·rcases and_f gz6 with gz6a | ⟨gz6a, gz6b⟩
    ·try simp only [go_sem, n1, n2, n3, n4, z2, z3, gz5, z5] at gz6a
     all_goals
     (simp_all)
    ·have gz6an := no_t gz6a
     have gz6ann := no_f gz6an
     try simp only [go_sem, n1, n2, n3, n4, z2, z3, gz5, z5] at gz6ann
     all_goals
     try simp only [go_sem, n1, n2, n3, n4, z2, z3, gz5, z5, gz6ann] at gz6b
     all_goals
     rcases it_some h with ⟨z7, h⟩ | ⟨z7, h⟩
     ·try simp only [go_sem, n1, n2, n3, n4, z2, z3, gz5, z5, gz6ann, gz6b] at z7
      all_goals
      (simp_all)
     ·try simp only [go_sem, n1, n2, n3, n4, z2, z3, gz5, z5, gz6ann, gz6b] at z7
      all_goals
      obtain rfl := so_some h
      refine ⟨0, fun L hL => ?_⟩
      simp only [go_sem, ir42, E_55_l1, R_55_l1, ir42_b0, ir42_k0, ir42_o0, ir42_r0, z2, z3, lz3, xz3, fz4, gz5, z5, lz5, xz5, gz6ann, gz6b, z7]
  ·rcases and_f gz5 with gz5a | ⟨gz5a, gz5b⟩
   ·have gz5an := no_f gz5a
    have gz5ann := no_t gz5an
    try simp only [go_sem, n1, n2, n3, n4, z2, z3] at gz5ann
    all_goals
    obtain ⟨z6, h⟩ := ck_some h
    rcases it_some h with ⟨z7, h⟩ | ⟨z7, h⟩
    ·try simp only [go_sem, n1, n2, n3, n4, z2, z3, gz5ann] at z7
     all_goals
     obtain rfl := so_some h
     refine ⟨0, fun L hL => ?_⟩
     simp only [go_sem, ir42, E_55_l1, R_55_l1, ir42_b0, ir42_k0, ir42_o0, ir42_r0, z2, z3, lz3, xz3, fz4, gz5ann, z7]
    ·try simp only [go_sem, n1, n2, n3, n4, z2, z3, gz5ann] at z7
     all_goals
     (simp_all)
   ·have gz5an := no_t gz5a
    have gz5ann := no_f gz5an
    try simp only [go_sem, n1, n2, n3, n4, z2, z3] at gz5ann
    all_goals
    try simp only [go_sem, n1, n2, n3, n4, z2, z3, gz5ann] at gz5b
    all_goals
    obtain ⟨z6, h⟩ := ck_some h
    rcases it_some h with ⟨z7, h⟩ | ⟨z7, h⟩
    ·try simp only [go_sem, n1, n2, n3, n4, z2, z3, gz5ann, gz5b] at z7
     all_goals
     (simp_all)
    ·try simp only [go_sem, n1, n2, n3, n4, z2, z3, gz5ann, gz5b] at z7
     all_goals
     obtain rfl := so_some h
     refine ⟨0, fun L hL => ?_⟩
     simp only [go_sem, ir42, E_55_l1, R_55_l1, ir42_b0, ir42_k0, ir42_o0, ir42_r0, z2, z3, lz3, xz3, fz4, gz5ann, gz5b, z7]
 ·try simp only [go_sem, n1, n2, n3, n4] at z2
  all_goals
  obtain rfl := so_some h
  refine ⟨0, fun L hL => ?_⟩
  simp only [go_sem, ir42, E_55_l1, R_55_l1, ir42_b0, ir42_k0, ir42_o0, ir42_r0, z2]

theorem Fs_55 {list : List Estimate} {y_ : Bool} (h : impl_ValidEstimates list = some y_) : c_55.F [.sl 5 (List.map Estimate_av list)] = ⟨true, .bool y_, [.any]⟩ := by
 refine mkF_E rfl ?_
 dsimp only [impl_ValidEstimates] at h
 rcases it_some h with ⟨z1, h⟩ | ⟨z1, h⟩
 ·try simp only [go_sem, n1, n2, n3, n4] at z1
  all_goals
  obtain rfl := so_some h
  refine ⟨0, fun L hL => ?_⟩
  simp only [go_sem, ir42, E_55_l1, R_55_l1, ir42_k0, ir42_o0, ir42_r0, z1]
 ·try simp only [go_sem, n1, n2, n3, n4] at z1
  all_goals
  obtain ⟨y_8, z8, h⟩ := bd_some h
  obtain ⟨Lz8, ez8⟩ := impl_ValidEstimates_l1_ex z8
  rcases y_8 with y_8a | y_8b
  ·dsimp only at h
   obtain rfl := so_some h
   refine ⟨Lz8, fun L hL => ?_⟩
   have ez8 := ez8 L (by omega)
   try simp only [go_sem, E_55_l1, R_55_l1, ir42_k0, ir42_o0, ir42_r0, z1] at ez8
   simp only [go_sem, ir42, E_55_l1, R_55_l1, ir42_k0, ir42_o0, ir42_r0, z1, ez8]
  ·dsimp only at h
   obtain rfl := so_some h
   refine ⟨Lz8, fun L hL => ?_⟩
   have ez8 := ez8 L (by omega)
   try simp only [go_sem, E_55_l1, R_55_l1, ir42_k0, ir42_o0, ir42_r0, z1] at ez8
   simp only [go_sem, ir42, E_55_l1, R_55_l1, ir42_k0, ir42_o0, ir42_r0, z1, ez8]


def ir10_b0 : IR := .seq (.region false [ VO 9 22 (.bin false .lss (.v 8) (.v 7))]) (.seq (.cond (.v 9) (.skip) (.exit 0)) (.seq (.block 1 (.seq (.region false [ PO 23 (.ixAddr 5 (.v 6) (.v 8)), PO 24 (.load true 5 (.s 0)), VO 5 8 (.alloc (.agg [.int .i64 (0), .str [], .str [], .int .i64 (0), .bool false])), ⟨.no, 0, none, .store 5 (.v 5) (.s 0)⟩]) (.region false [ PM 25 4, PO 26 (.fldAddr 1 (.v 5)), PO 27 (.load false 1 (.s 0)), PO 28 (.fldAddr 0 (.v 5)), PO 29 (.load false 1 (.s 0)), PO 30 (.call 37 [(.s 4), (.s 2), (.s 0)])]))) (.region false [ PO 31 (.bin false .add (.v 8) (I6 1)), VS 8 21
 0])))
def ir10_k0 : List Bool := [false, false, false, false, true, false, true, true, true, false]
def ir10_o0 : List Bool := [false, false, false, false, true, false, false, false, false, false]
def ir10_r0 : List Bool := [false, false, true, true, false, false, false, false, false, false]
def ir10_v : List Nat := [0, 1, 4, 5, 6, 8, 19, 20, 21, 22]
def ir10 : AFn := ⟨2, 10, .seq (.region false [ VO 2 4 (.newnil 6), VO 3 5 (.mov (I6 0))]) (.seq (.test false [ PM 9 0, PO 10 (.call 20 [(.s 0)]), PO 11 (.un .not (.s 0)), PO 12 (.mov (.s 0)), ⟨.push, 13, (some ((.s 0), false)), .mov (.v 1)⟩, ⟨.push, 14, (some ((.s 1), false)), .call 42 [(.s 0)]⟩, ⟨.push, 15, (some ((.s 2), false)), .un .not (.s 0)⟩, PO 16 (.pick (.s 3) (.c (.bool true)) (.s 0))] (.s 0) (.seq (.region false [ VO 2 4 (.newnil 6), VO 3 5 (.mov (I6 1))]) (.ret)) (.skip)) (.seq (.region false [ PM 17 0, PO 18 (.call 36 [(.s 0)]), VS 4 6 0]) (.seq (.seq (.region false [ VO 6 19
 (.mov (.v 1)), VO 7 20 (.len false (.v 6)), VO 8 21 (.mov (I6 0))]) (.block 0 (.loop ir10_k0 ir10_o0 ir10_r0 ir10_b0))) (.seq (.region false [ PM 32 4, VS 2 4 0, VO 3 5 (.mov (I6 0))]) (.ret))))), [.t 2, .t 3]⟩
noncomputable def t_56 : List (Nat × Ctr) := [(20, c_20), (42, c_55), (36, c_21), (37, c_23)]
theorem lk_56_20 : look t_56 20 = some c_20 := rfl
theorem lk_56_42 : look t_56 42 = some c_55 := rfl
theorem lk_56_36 : look t_56 36 = some c_21 := rfl
theorem lk_56_37 : look t_56 37 = some c_23 := rfl
noncomputable def c_56 : Ctr := mkF t_56 ir10 [.bor, .bor]
theorem s_56 : Sound Try.prog 10 c_56 := mkF_sound _ rfl (snd_cons s_20 (snd_cons s_55 (snd_cons s_21 (snd_cons s_23 snd_nil)))) (by kernel_rfl : chkFn Try.prog 10 ir10 ir10_v = true)
theorem M_56 : c_56.modes = [.bor, .bor] := rfl
theorem Fl_56 : c_56.flat = true := rfl
attribute [go_sem] M_56 Fl_56
attribute [go_sem] lk_56_20 lk_56_42 lk_56_36 lk_56_37
def E_56_l1 (t19 : List Estimate) (t20 : Int) : ((List Request) × Int) → St
 | (out, t21) => ⟨[.any, .any, .any, .any, .own 3200000, .any, .sl 5 (List.map Estimate_av t19), .int .i64 t20, .int .i64 t21, .any], [], [(3200000, ⟨6, List.map Request_av out⟩)], true⟩
def R_56_l1 (t19 : List Estimate) (t20 : Int) (y : (List Request)) : Res := (.exit 0, ⟨[.any, .any, .any, .any, .own 3200000, .any, .any, .any, .any, .any], [], [(3200000, ⟨6, List.map Request_av y⟩)], true⟩)
theorem impl_ServeEstimates_l1_ex {t19 : List Estimate} {t20 : Int} {sgm_ : (List Request) × Int} {rho_ : (List Request)} (h : whileE (impl_ServeEstimates_l1 t19 t20) sgm_ = some rho_) : ∃ L0, ∀ L, L0 ≤ L → iter (exec (look t_56) L ir10_b0) ir10_k0 ir10_o0 ir10_r0 L (E_56_l1 t19 t20 sgm_) = R_56_l1 t19 t20 rho_ := by
 refine loop_ex (E := E_56_l1 t19 t20) (R := R_56_l1 t19 t20) (fun y => by first | (intro c; cases c) | (rcases y with y | y <;> (intro c; cases c)) | (rcases y with y | y | y <;> (intro c; cases c))) ?_ h
 clear h
 rintro ⟨out, t21⟩ o_ h
 dsimp only [impl_ServeEstimates_l1] at h
 rcases it_some h with ⟨z5, h⟩ | ⟨z5, h⟩
 ·try simp only [go_sem, n1, n2, n3, n4] at z5
  all_goals
  obtain ⟨z6, h⟩ := ck_some h
  have lz6 := ix_lt z6
  have xz6 := getD_mapD Estimate_av t19 lz6
  try simp only [go_sem] at lz6
  try simp only [go_sem] at xz6
  try simp only [go_sem, n1, n2, n3, n4, z5] at z6
  all_goals
  obtain ⟨y_7, z7, h⟩ := bd_some h
  have fz7 := Fs_23 z7
  try simp only [go_sem, z5, z6] at fz7
  obtain rfl := so_some h
  refine ⟨0, fun L hL => ?_⟩
  simp only [go_sem, ir10, E_56_l1, R_56_l1, ir10_b0, ir10_k0, ir10_o0, ir10_r0, z5, z6, lz6, xz6, fz7]
 ·try simp only [go_sem, n1, n2, n3, n4] at z5
  all_goals
  obtain rfl := so_some h
  refine ⟨0, fun L hL => ?_⟩
  simp only [go_sem, ir10, E_56_l1, R_56_l1, ir10_b0, ir10_k0, ir10_o0, ir10_r0, z5]

theorem Fs_56 {list : List Request} {estimates : List Estimate} {y_ : (List Request) × Int} (h : impl_ServeEstimates list estimates = some y_) : c_56.F [.sl 6 (List.map Request_av list), .sl 5 (List.map Estimate_av estimates)] = ⟨true, .tup [.fresh 6 (List.map Request_av y_.1), .int .i64 y_.2], [.any, .any]⟩ := by
 refine mkF_E (by simp only [flatA, flatB, flat1, List.all_cons, List.all_nil, Bool.and_self, flatE_map (f := Request_av) (fun _ => rfl)]) ?_
 dsimp only [impl_ServeEstimates] at h
 obtain ⟨y_1, z1, h⟩ := bd_some h
 have fz1 := Fs_20 z1
 try simp only [go_sem] at fz1
 obtain ⟨z2, h⟩ := ck_some h
 rcases or_split z2 with ⟨gz2, z2⟩ | gz2
 ·try simp only [go_sem, n1, n2, n3, n4] at gz2
  all_goals
  obtain ⟨y_2, hz2⟩ := Option.isSome_iff_exists.1 z2
  have fz2 := Fs_55 hz2
  try simp only [go_sem, n1, n2, n3, n4, gz2] at hz2
  all_goals
  try simp only [go_sem, gz2] at fz2
  rcases it_some h with ⟨z3, h⟩ | ⟨z3, h⟩
  ·try simp only [go_sem, n1, n2, n3, n4, gz2, hz2] at z3
   all_goals
   obtain rfl := so_some h
   refine ⟨0, fun L hL => ?_⟩
   simp only [go_sem, ir10, E_56_l1, R_56_l1, ir10_k0, ir10_o0, ir10_r0, fz1, gz2, hz2, fz2, z3]
  ·try simp only [go_sem, n1, n2, n3, n4, gz2, hz2] at z3
   all_goals
   obtain ⟨y_4, z4, h⟩ := bd_some h
   have fz4 := Fs_21 z4
   try simp only [go_sem, gz2, hz2, z3] at fz4
   obtain ⟨y_8, z8, h⟩ := bd_some h
   obtain ⟨Lz8, ez8⟩ := impl_ServeEstimates_l1_ex z8
   obtain rfl := so_some h
   refine ⟨Lz8, fun L hL => ?_⟩
   have ez8 := ez8 L (by omega)
   try simp only [go_sem, E_56_l1, R_56_l1, ir10_k0, ir10_o0, ir10_r0, gz2, hz2, z3] at ez8
   simp only [go_sem, ir10, E_56_l1, R_56_l1, ir10_k0, ir10_o0, ir10_r0, fz1, gz2, hz2, fz2, z3, fz4, ez8]
 ·have gz2n := no_f gz2
  have gz2nn := no_t gz2n
  try simp only [go_sem, n1, n2, n3, n4] at gz2nn
  all_goals
  rcases it_some h with ⟨z3, h⟩ | ⟨z3, h⟩
  ·try simp only [go_sem, n1, n2, n3, n4, gz2nn] at z3
   all_goals
   obtain rfl := so_some h
   refine ⟨0, fun L hL => ?_⟩
   simp only [go_sem, ir10, E_56_l1, R_56_l1, ir10_k0, ir10_o0, ir10_r0, fz1, gz2nn, z3]
  ·try simp only [go_sem, n1, n2, n3, n4, gz2nn] at z3
   all_goals
   (simp_all)


def ir107_v : List Nat := [0, 2]
def ir107 : AFn := ⟨1, 2, .seq (.region false [ VO 1 2 (.mov (.c (.bool false)))]) (.seq (.region false [ PM 3 0, PO 4 (.call 92 [(.s 0), (I6 0), (I6 10000000)]), VS 1 2 0]) (.ret)), [.t 1]⟩
noncomputable def t_57 : List (Nat × Ctr) := [(92, c_28)]
theorem lk_57_92 : look t_57 92 = some c_28 := rfl
noncomputable def c_57 : Ctr := mkF t_57 ir107 [.bor]
theorem s_57 : Sound Try.prog 107 c_57 := mkF_sound _ rfl (snd_cons s_28 snd_nil) (by kernel_rfl : chkFn Try.prog 107 ir107 ir107_v = true)
theorem M_57 : c_57.modes = [.bor] := rfl
theorem Fl_57 : c_57.flat = true := rfl
attribute [go_sem] M_57 Fl_57
attribute [go_sem] lk_57_92
theorem Fs_57 {n : Int} {y_ : Bool} (h : spec_l06Time n = some y_) : c_57.F [.int .i64 n] = ⟨true, .bool y_, [.any]⟩ := by
 refine mkF_E rfl ?_
 dsimp only [spec_l06Time] at h
 obtain ⟨y_1, z1, h⟩ := bd_some h
 have fz1 := Fs_28 z1
 try simp only [go_sem] at fz1
 obtain rfl := so_some h
 refine ⟨0, fun L hL => ?_⟩
 simp only [go_sem, ir107, fz1]


def ir108_v : List Nat := [0, 2]
def ir108 : AFn := ⟨1, 2, .seq (.region false [ VO 1 2 (.mov (.c (.bool false)))]) (.seq (.region false [ PM 3 0, PO 4 (.call 92 [(.s 0), (.c (.int .i64 (-2000))), (I6 20000)]), VS 1 2 0]) (.ret)), [.t 1]⟩
noncomputable def t_58 : List (Nat × Ctr) := [(92, c_28)]
theorem lk_58_92 : look t_58 92 = some c_28 := rfl
noncomputable def c_58 : Ctr := mkF t_58 ir108 [.bor]
theorem s_58 : Sound Try.prog 108 c_58 := mkF_sound _ rfl (snd_cons s_28 snd_nil) (by kernel_rfl : chkFn Try.prog 108 ir108 ir108_v = true)
theorem M_58 : c_58.modes = [.bor] := rfl
theorem Fl_58 : c_58.flat = true := rfl
attribute [go_sem] M_58 Fl_58
attribute [go_sem] lk_58_92
theorem Fs_58 {m : Int} {y_ : Bool} (h : spec_l02Mag m = some y_) : c_58.F [.int .i64 m] = ⟨true, .bool y_, [.any]⟩ := by
 refine mkF_E rfl ?_
 dsimp only [spec_l02Mag] at h
 obtain ⟨y_1, z1, h⟩ := bd_some h
 have fz1 := Fs_28 z1
 try simp only [go_sem] at fz1
 obtain rfl := so_some h
 refine ⟨0, fun L hL => ?_⟩
 simp only [go_sem, ir108, fz1]


def ir84_v : List Nat := [0, 2]
def ir84 : AFn := ⟨1, 2, .seq (.region false [ VO 1 2 (.mov (.c (.bool false)))]) (.seq (.region false [ PM 3 0, PO 4 (.nilck (.s 0)), PO 5 (.fldAddr 0 (.s 0)), PO 6 (.load false 1 (.s 0)), PO 7 (.call 107 [(.s 0)]), PO 8 (.mov (.s 0)), ⟨.push, 9, (some ((.s 0), true)), .mov (.v 0)⟩, ⟨.push, 10, (some ((.s 1), true)), .nilck (.s 0)⟩, ⟨.push, 11, (some ((.s 2), true)), .fldAddr 1 (.s 0)⟩, ⟨.push, 12, (some ((.s 3), true)), .load false 1 (.s 0)⟩, ⟨.push, 13, (some ((.s 4), true)), .call 39 [(.s 0)]⟩, PO 14 (.pick (.s 5) (.s 0) (.c (.bool false))), PO 15 (.mov (.s 0)), ⟨.push, 16, (some ((.s 0),
 true)), .mov (.v 0)⟩, ⟨.push, 17, (some ((.s 1), true)), .nilck (.s 0)⟩, ⟨.push, 18, (some ((.s 2), true)), .fldAddr 2 (.s 0)⟩, ⟨.push, 19, (some ((.s 3), true)), .load false 1 (.s 0)⟩, ⟨.push, 20, (some ((.s 4), true)), .call 39 [(.s 0)]⟩, PO 21 (.pick (.s 5) (.s 0) (.c (.bool false))), PO 22 (.mov (.s 0)), ⟨.push, 23, (some ((.s 0), true)), .mov (.v 0)⟩, ⟨.push, 24, (some ((.s 1), true)), .nilck (.s 0)⟩, ⟨.push, 25, (some ((.s 2), true)), .fldAddr 3 (.s 0)⟩, ⟨.push, 26, (some ((.s 3), true)), .load false 1 (.s 0)⟩, ⟨.push, 27, (some ((.s 4), true)), .call 108 [(.s 0)]⟩, PO 28 (.pick (.s 5)
 (.s 0) (.c (.bool false))), VS 1 2 0]) (.ret)), [.t 1]⟩
noncomputable def t_59 : List (Nat × Ctr) := [(107, c_57), (39, c_27), (108, c_58)]
theorem lk_59_107 : look t_59 107 = some c_57 := rfl
theorem lk_59_39 : look t_59 39 = some c_27 := rfl
theorem lk_59_108 : look t_59 108 = some c_58 := rfl
noncomputable def c_59 : Ctr := mkF t_59 ir84 [.bor]
theorem s_59 : Sound Try.prog 84 c_59 := mkF_sound _ rfl (snd_cons s_57 (snd_cons s_27 (snd_cons s_58 snd_nil))) (by kernel_rfl : chkFn Try.prog 84 ir84 ir84_v = true)
theorem M_59 : c_59.modes = [.bor] := rfl
theorem Fl_59 : c_59.flat = true := rfl
attribute [go_sem] M_59 Fl_59
attribute [go_sem] lk_59_107 lk_59_39 lk_59_108
theorem Fs_59 {e_ : Estimate} {y_ : Bool} (h : spec_l06One e_ = some y_) : c_59.F [.ptr 5 [Estimate_av e_] 0 0] = ⟨true, .bool y_, [.any]⟩ := by
 refine mkF_E rfl ?_
 dsimp only [spec_l06One] at h
 obtain ⟨y_1, z1, h⟩ := bd_some h
 have fz1 := Fs_57 z1
 try simp only [go_sem] at fz1
 obtain ⟨z2, h⟩ := ck_some h
 rcases or_split z2 with ⟨gz2, z2⟩ | gz2
 ·try simp only [go_sem, n1, n2, n3, n4] at gz2
  all_goals
  obtain ⟨y_2, hz2⟩ := Option.isSome_iff_exists.1 z2
  have fz2 := Fs_27 hz2
  try simp only [go_sem, n1, n2, n3, n4, gz2] at hz2
  all_goals
  try simp only [go_sem, gz2] at fz2
  obtain ⟨z3, h⟩ := ck_some h
  rcases or_split z3 with ⟨gz3, z3⟩ | gz3
  ·try simp only [go_sem, n1, n2, n3, n4, gz2, hz2] at gz3
   all_goals
   obtain ⟨y_3, hz3⟩ := Option.isSome_iff_exists.1 z3
   have fz3 := Fs_27 hz3
   try simp only [go_sem, n1, n2, n3, n4, gz2, hz2, gz3] at hz3
   all_goals
   try simp only [go_sem, gz2, hz2, gz3] at fz3
   obtain ⟨z4, h⟩ := ck_some h
   rcases or_split z4 with ⟨gz4, z4⟩ | gz4
   ·try simp only [go_sem, n1, n2, n3, n4, gz2, hz2, gz3, hz3] at gz4
    all_goals
    obtain ⟨y_4, hz4⟩ := Option.isSome_iff_exists.1 z4
    have fz4 := Fs_58 hz4
    try simp only [go_sem, n1, n2, n3, n4, gz2, hz2, gz3, hz3, gz4] at hz4
    all_goals
    try simp only [go_sem, gz2, hz2, gz3, hz3, gz4] at fz4
    obtain rfl := so_some h
    refine ⟨0, fun L hL => ?_⟩
    simp only [go_sem, ir84, fz1, gz2, hz2, fz2, gz3, hz3, fz3, gz4, hz4, fz4]
   ·rcases and_f gz4 with gz4a | ⟨gz4a, gz4b⟩
    ·try simp only [go_sem, n1, n2, n3, n4, gz2, hz2, gz3, hz3] at gz4a
     all_goals
     (simp_all)
    ·obtain ⟨gz4aa, gz4ab⟩ := and_t gz4a
     try simp only [go_sem, n1, n2, n3, n4, gz2, hz2, gz3, hz3] at gz4aa
     all_goals
     try simp only [go_sem, n1, n2, n3, n4, gz2, hz2, gz3, hz3, gz4aa] at gz4ab
     all_goals
     try simp only [go_sem, n1, n2, n3, n4, gz2, hz2, gz3, hz3, gz4aa, gz4ab] at gz4b
     all_goals
     obtain rfl := so_some h
     refine ⟨0, fun L hL => ?_⟩
     simp only [go_sem, ir84, fz1, gz2, hz2, fz2, gz3, hz3, fz3, gz4aa, gz4ab, gz4b]
  ·rcases and_f gz3 with gz3a | ⟨gz3a, gz3b⟩
   ·try simp only [go_sem, n1, n2, n3, n4, gz2, hz2] at gz3a
    all_goals
    (simp_all)
   ·try simp only [go_sem, n1, n2, n3, n4, gz2, hz2] at gz3a
    all_goals
    try simp only [go_sem, n1, n2, n3, n4, gz2, hz2, gz3a] at gz3b
    all_goals
    obtain ⟨z4, h⟩ := ck_some h
    obtain rfl := so_some h
    refine ⟨0, fun L hL => ?_⟩
    simp only [go_sem, ir84, fz1, gz2, hz2, fz2, gz3a, gz3b]
 ·try simp only [go_sem, n1, n2, n3, n4] at gz2
  all_goals
  obtain ⟨z3, h⟩ := ck_some h
  obtain ⟨z4, h⟩ := ck_some h
  obtain rfl := so_some h
  refine ⟨0, fun L hL => ?_⟩
  simp only [go_sem, ir84, fz1, gz2]


def ir44_b0 : IR := .seq (.test false [ PM 4 2, PM 5 0, PO 6 (.len false (.s 0)), PO 7 (.bin false .lss (.s 2) (.s 0))] (.s 0) (.skip) (.exit 0)) (.seq (.block 1 (.anyo 20 [ SO 0 10 (.mov (.v 0)), SO 1 11 (.mov (.v 2)), SO 2 12 (.ixAddr 5 (.s 0) (.s 1)), SO 3 13 (.callp 84 [(.s 2)]), SO 4 14 (.un .not (.s 3)), SO 5 15 (.mov (.s 4)), ⟨.slot 6, 16, (some ((.s 5), false)), .mov (.v 2)⟩, ⟨.slot 7, 17, (some ((.s 5), false)), .bin false .gtr (.s 6) (I6 0)⟩, ⟨.slot 8, 18, (some ((.s 5), false)), .mov (.s 7)⟩, ⟨.slot 9, 19, (some ((.s 8), true)), .mov (.v 0)⟩, ⟨.slot 10, 20, (some ((.s 8), true)),
 .mov (.v 2)⟩, ⟨.slot 11, 21, (some ((.s 8), true)), .bin false .sub (.s 10) (I6 1)⟩, ⟨.slot 12, 22, (some ((.s 8), true)), .ixAddr 5 (.s 9) (.s 11)⟩, ⟨.slot 13, 23, (some ((.s 8), true)), .mov (.v 0)⟩, ⟨.slot 14, 24, (some ((.s 8), true)), .mov (.v 2)⟩, ⟨.slot 15, 25, (some ((.s 8), true)), .ixAddr 5 (.s 13) (.s 14)⟩, ⟨.slot 16, 26, (some ((.s 8), true)), .call 85 [(.s 12), (.s 15)]⟩, ⟨.slot 17, 27, (some ((.s 8), true)), .un .not (.s 16)⟩, ⟨.slot 18, 28, (some ((.s 5), false)), .pick (.s 8) (.s 17) (.c (.bool false))⟩, SO 19 29 (.pick (.s 5) (.c (.bool true)) (.s 18))] [] (.cond (.s 19) (.seq
 (.region false [ VO 1 2 (.mov (.c (.bool false)))]) (.ret)) (.skip)))) (.region false [ PM 8 2, PO 9 (.bin false .add (.s 0) (I6 1)), VS 2 3 0]))
def ir44_k0 : List Bool := [true, false, true]
def ir44_o0 : List Bool := [true, false, false]
def ir44_r0 : List Bool := [false, true, false]
def ir44_v : List Nat := [0, 2, 3]
def ir44 : AFn := ⟨1, 3, .seq (.region false [ VO 1 2 (.mov (.c (.bool false)))]) (.seq (.seq (.region false [ VO 2 3 (.mov (I6 0))]) (.block 0 (.loop ir44_k0 ir44_o0 ir44_r0 ir44_b0))) (.seq (.region false [ PM 30 0, PO 31 (.len false (.s 0)), PO 32 (.bin false .leq (.s 0) (I6 100)), VS 1 2 0]) (.ret))), [.t 1]⟩
noncomputable def t_60 : List (Nat × Ctr) := [(84, c_59), (85, c_37)]
theorem lk_60_84 : look t_60 84 = some c_59 := rfl
theorem lk_60_85 : look t_60 85 = some c_37 := rfl
noncomputable def c_60 : Ctr := mkF t_60 ir44 [.bor]
theorem s_60 : Sound Try.prog 44 c_60 := mkF_sound _ rfl (snd_cons s_59 (snd_cons s_37 snd_nil)) (by kernel_rfl : chkFn Try.prog 44 ir44 ir44_v = true)
theorem M_60 : c_60.modes = [.bor] := rfl
theorem Fl_60 : c_60.flat = true := rfl
attribute [go_sem] M_60 Fl_60
attribute [go_sem] lk_60_84 lk_60_85
def E_60_l1 (list : List Estimate) : Int → St
 | i => ⟨[.sl 5 (List.map Estimate_av list), .any, .int .i64 i], [], [], true⟩
def R_60_l1 (list : List Estimate) : (Unit ⊕ Bool) → Res
 | .inl y => (.exit 0, ⟨[.sl 5 (List.map Estimate_av list), .any, .any], [], [], true⟩)
 | .inr y => (.ret, ⟨[.any, .bool y, .any], [], [], true⟩)
theorem spec_l06Ok_l1_ex {list : List Estimate} {sgm_ : Int} {rho_ : Unit ⊕ Bool} (h : whileE (spec_l06Ok_l1 list) sgm_ = some rho_) : ∃ L0, ∀ L, L0 ≤ L → iter (exec (look t_60) L ir44_b0) ir44_k0 ir44_o0 ir44_r0 L (E_60_l1 list sgm_) = R_60_l1 list rho_ := by
 refine loop_ex (E := E_60_l1 list) (R := R_60_l1 list) (fun y => by first | (intro c; cases c) | (rcases y with y | y <;> (intro c; cases c)) | (rcases y with y | y | y <;> (intro c; cases c))) ?_ h
 clear h
 intro i o_ h
 dsimp only [spec_l06Ok_l1] at h
 rcases it_some h with ⟨z1, h⟩ | ⟨z1, h⟩
 ·try simp only [go_sem, n1, n2, n3, n4] at z1
  all_goals
  obtain ⟨z2, h⟩ := ck_some h
  have lz2 := ix_lt z2
  have xz2 := getD_mapD Estimate_av list lz2
  try simp only [go_sem] at lz2
  try simp only [go_sem] at xz2
  try simp only [go_sem, n1, n2, n3, n4, z1] at z2
  all_goals
  obtain ⟨y_3, z3, h⟩ := bd_some h
  have fz3 := Fs_59 z3
  try simp only [go_sem, z1, z2] at fz3
  obtain ⟨z4, h⟩ := ck_some h
  rcases or_split z4 with ⟨gz4, z4⟩ | gz4
  ·try simp only [go_sem, n1, n2, n3, n4, z1, z2] at gz4
   all_goals
   have lz4 := ix_lt z4
   have xz4 := getD_mapD Estimate_av list lz4
   try simp only [go_sem] at lz4
   try simp only [go_sem] at xz4
   try simp only [go_sem, n1, n2, n3, n4, z1, z2, gz4] at z4
   all_goals
   obtain ⟨z5, h⟩ := ck_some h
   rcases or_split z5 with ⟨gz5, z5⟩ | gz5
   ·try simp only [go_sem, n1, n2, n3, n4, z1, z2, gz4, z4] at gz5
    all_goals
    obtain ⟨y_5, hz5⟩ := Option.isSome_iff_exists.1 z5
    have fz5 := Fs_37 hz5
    try simp only [go_sem, n1, n2, n3, n4, z1, z2, gz4, z4, gz5] at hz5
    all_goals
    try simp only [go_sem, z1, z2, gz4, z4, gz5] at fz5
    rcases it_some h with ⟨z6, h⟩ | ⟨z6, h⟩
    ·try simp only [go_sem, n1, n2, n3, n4, z1, z2, gz4, z4, gz5, hz5] at z6
     all_goals
     obtain rfl := so_some h
     refine ⟨0, fun L hL => ?_⟩
     simp only [go_sem, ir44, E_60_l1, R_60_l1, ir44_b0, ir44_k0, ir44_o0, ir44_r0, z1, z2, lz2, xz2, fz3, gz4, z4, lz4, xz4, gz5, hz5, fz5, z6]
    ·try simp only [go_sem, n1, n2, n3, n4, z1, z2, gz4, z4, gz5, hz5] at z6
     all_goals
     obtain rfl := so_some h
     refine ⟨0, fun L hL => ?_⟩
     simp only [go_sem, ir44, E_60_l1, R_60_l1, ir44_b0, ir44_k0, ir44_o0, ir44_r0, z1, z2, lz2, xz2, fz3, gz4, z4, lz4, xz4, gz5, hz5, fz5, z6]
   ·rcases and_f gz5 with gz5a | ⟨gz5a, gz5b⟩
    ·try simp only [go_sem, n1, n2, n3, n4, z1, z2, gz4, z4] at gz5a
     all_goals
     (simp_all)
    ·have gz5an := no_t gz5a
     have gz5ann := no_f gz5an
     try simp only [go_sem, n1, n2, n3, n4, z1, z2, gz4, z4] at gz5ann
     all_goals
     try simp only [go_sem, n1, n2, n3, n4, z1, z2, gz4, z4, gz5ann] at gz5b
     all_goals
     rcases it_some h with ⟨z6, h⟩ | ⟨z6, h⟩
     ·try simp only [go_sem, n1, n2, n3, n4, z1, z2, gz4, z4, gz5ann, gz5b] at z6
      all_goals
      (simp_all)
     ·try simp only [go_sem, n1, n2, n3, n4, z1, z2, gz4, z4, gz5ann, gz5b] at z6
      all_goals
      obtain rfl := so_some h
      refine ⟨0, fun L hL => ?_⟩
      simp only [go_sem, ir44, E_60_l1, R_60_l1, ir44_b0, ir44_k0, ir44_o0, ir44_r0, z1, z2, lz2, xz2, fz3, gz4, z4, lz4, xz4, gz5ann, gz5b, z6]
  ·rcases and_f gz4 with gz4a | ⟨gz4a, gz4b⟩
   ·have gz4an := no_f gz4a
    have gz4ann := no_t gz4an
    try simp only [go_sem, n1, n2, n3, n4, z1, z2] at gz4ann
    all_goals
    obtain ⟨z5, h⟩ := ck_some h
    rcases it_some h with ⟨z6, h⟩ | ⟨z6, h⟩
    ·try simp only [go_sem, n1, n2, n3, n4, z1, z2, gz4ann] at z6
     all_goals
     obtain rfl := so_some h
     refine ⟨0, fun L hL => ?_⟩
     simp only [go_sem, ir44, E_60_l1, R_60_l1, ir44_b0, ir44_k0, ir44_o0, ir44_r0, z1, z2, lz2, xz2, fz3, gz4ann, z6]
    ·try simp only [go_sem, n1, n2, n3, n4, z1, z2, gz4ann] at z6
     all_goals
     (simp_all)
   ·have gz4an := no_t gz4a
    have gz4ann := no_f gz4an
    try simp only [go_sem, n1, n2, n3, n4, z1, z2] at gz4ann
    all_goals
    try simp only [go_sem, n1, n2, n3, n4, z1, z2, gz4ann] at gz4b
    all_goals
    obtain ⟨z5, h⟩ := ck_some h
    rcases it_some h with ⟨z6, h⟩ | ⟨z6, h⟩
    ·try simp only [go_sem, n1, n2, n3, n4, z1, z2, gz4ann, gz4b] at z6
     all_goals
     (simp_all)
    ·try simp only [go_sem, n1, n2, n3, n4, z1, z2, gz4ann, gz4b] at z6
     all_goals
     obtain rfl := so_some h
     refine ⟨0, fun L hL => ?_⟩
     simp only [go_sem, ir44, E_60_l1, R_60_l1, ir44_b0, ir44_k0, ir44_o0, ir44_r0, z1, z2, lz2, xz2, fz3, gz4ann, gz4b, z6]
 ·try simp only [go_sem, n1, n2, n3, n4] at z1
  all_goals
  obtain rfl := so_some h
  refine ⟨0, fun L hL => ?_⟩
  simp only [go_sem, ir44, E_60_l1, R_60_l1, ir44_b0, ir44_k0, ir44_o0, ir44_r0, z1]

theorem Fs_60 {list : List Estimate} {y_ : Bool} (h : spec_l06Ok list = some y_) : c_60.F [.sl 5 (List.map Estimate_av list)] = ⟨true, .bool y_, [.any]⟩ := by
 refine mkF_E rfl ?_
 dsimp only [spec_l06Ok] at h
 obtain ⟨y_7, z7, h⟩ := bd_some h
 obtain ⟨Lz7, ez7⟩ := spec_l06Ok_l1_ex z7
 rcases y_7 with y_7a | y_7b
 ·dsimp only at h
  obtain rfl := so_some h
  refine ⟨Lz7, fun L hL => ?_⟩
  have ez7 := ez7 L (by omega)
  try simp only [go_sem, E_60_l1, R_60_l1, ir44_k0, ir44_o0, ir44_r0] at ez7
  simp only [go_sem, ir44, E_60_l1, R_60_l1, ir44_k0, ir44_o0, ir44_r0, ez7]
 ·dsimp only at h
  obtain rfl := so_some h
  refine ⟨Lz7, fun L hL => ?_⟩
  have ez7 := ez7 L (by omega)
  try simp only [go_sem, E_60_l1, R_60_l1, ir44_k0, ir44_o0, ir44_r0] at ez7
  simp only [go_sem, ir44, E_60_l1, R_60_l1, ir44_k0, ir44_o0, ir44_r0, ez7]


def ir11_b0 : IR := .seq (.test false [ PM 19 5, PM 20 1, PO 21 (.len false (.s 0)), PO 22 (.bin false .lss (.s 2) (.s 0))] (.s 0) (.skip) (.exit 0)) (.seq (.block 1 (.anyo 12 [ SO 0 25 (.mov (.v 4)), SO 1 26 (.mov (.v 1)), SO 2 27 (.mov (.v 5)), SO 3 28 (.ixAddr 5 (.s 1) (.s 2)), SO 4 29 (.fldAddr 1 (.s 3)), SO 5 30 (.load false 1 (.s 4)), SO 6 31 (.mov (.v 1)), SO 7 32 (.mov (.v 5)), SO 8 33 (.ixAddr 5 (.s 6) (.s 7)), SO 9 34 (.fldAddr 0 (.s 8)), SO 10 35 (.load false 1 (.s 9)), SO 11 36 (.call 40 [(.s 0), (.s 5), (.s 10)])] [] .skip)) (.region false [ PM 23 5, PO 24 (.bin false .add (.s 0)
 (I6 1)), VS 5 7 0]))
def ir11_k0 : List Bool := [false, true, false, false, true, true]
def ir11_o0 : List Bool := [false, false, false, false, true, false]
def ir11_r0 : List Bool := [false, false, true, true, false, false]
def ir11_v : List Nat := [0, 1, 4, 5, 6, 7]
def ir11 : AFn := ⟨2, 6, .seq (.region false [ VO 2 4 (.newnil 6), VO 3 5 (.mov (I6 0))]) (.seq (.test false [ PM 8 0, PO 9 (.call 43 [(.s 0)]), PO 10 (.un .not (.s 0)), PO 11 (.mov (.s 0)), ⟨.push, 12, (some ((.s 0), false)), .mov (.v 1)⟩, ⟨.push, 13, (some ((.s 1), false)), .call 44 [(.s 0)]⟩, ⟨.push, 14, (some ((.s 2), false)), .un .not (.s 0)⟩, PO 15 (.pick (.s 3) (.c (.bool true)) (.s 0))] (.s 0) (.seq (.region false [ VO 2 4 (.newnil 6), VO 3 5 (.mov (I6 1))]) (.ret)) (.skip)) (.seq (.region false [ PO 16 (.mkSl 6 (.agg [.str [], .int .i64 (0), .int .i64 (0), .int .i64 (0), .int .i64 (0),
 .int .i64 (0)]) 0 []), PM 17 0, PO 18 (.app 6 56 (.agg [.str [], .int .i64 (0), .int .i64 (0), .int .i64 (0), .int .i64 (0), .int .i64 (0)]) (.s 1) (.s 0)), VS 4 6 0]) (.seq (.seq (.region false [ VO 5 7 (.mov (I6 0))]) (.block 0 (.loop ir11_k0 ir11_o0 ir11_r0 ir11_b0))) (.seq (.region false [ PM 37 4, VS 2 4 0, VO 3 5 (.mov (I6 0))]) (.ret))))), [.t 2, .t 3]⟩
noncomputable def t_61 : List (Nat × Ctr) := [(43, c_31), (44, c_60), (40, c_34)]
theorem lk_61_43 : look t_61 43 = some c_31 := rfl
theorem lk_61_44 : look t_61 44 = some c_60 := rfl
theorem lk_61_40 : look t_61 40 = some c_34 := rfl
noncomputable def c_61 : Ctr := mkF t_61 ir11 [.bor, .bor]
theorem s_61 : Sound Try.prog 11 c_61 := mkF_sound _ rfl (snd_cons s_31 (snd_cons s_60 (snd_cons s_34 snd_nil))) (by kernel_rfl : chkFn Try.prog 11 ir11 ir11_v = true)
theorem M_61 : c_61.modes = [.bor, .bor] := rfl
theorem Fl_61 : c_61.flat = true := rfl
attribute [go_sem] M_61 Fl_61
attribute [go_sem] lk_61_43 lk_61_44 lk_61_40
def E_61_l1 (estimates : List Estimate) : ((List Request) × Int) → St
 | (out, i) => ⟨[.any, .sl 5 (List.map Estimate_av estimates), .any, .any, .own 3200000, .int .i64 i], [], [(3200000, ⟨6, List.map Request_av out⟩)], true⟩
def R_61_l1 (estimates : List Estimate) (y : (List Request)) : Res := (.exit 0, ⟨[.any, .any, .any, .any, .own 3200000, .any], [], [(3200000, ⟨6, List.map Request_av y⟩)], true⟩)
theorem spec_ServeEstimates_l1_ex {estimates : List Estimate} {sgm_ : (List Request) × Int} {rho_ : (List Request)} (h : whileE (spec_ServeEstimates_l1 estimates) sgm_ = some rho_) : ∃ L0, ∀ L, L0 ≤ L → iter (exec (look t_61) L ir11_b0) ir11_k0 ir11_o0 ir11_r0 L (E_61_l1 estimates sgm_) = R_61_l1 estimates rho_ := by
 refine loop_ex (E := E_61_l1 estimates) (R := R_61_l1 estimates) (fun y => by first | (intro c; cases c) | (rcases y with y | y <;> (intro c; cases c)) | (rcases y with y | y | y <;> (intro c; cases c))) ?_ h
 clear h
 rintro ⟨out, i⟩ o_ h
 dsimp only [spec_ServeEstimates_l1] at h
 rcases it_some h with ⟨z5, h⟩ | ⟨z5, h⟩
 ·try simp only [go_sem, n1, n2, n3, n4] at z5
  all_goals
  obtain ⟨z6, h⟩ := ck_some h
  have lz6 := ix_lt z6
  have xz6 := getD_mapD Estimate_av estimates lz6
  try simp only [go_sem] at lz6
  try simp only [go_sem] at xz6
  try simp only [go_sem, n1, n2, n3, n4, z5] at z6
  all_goals
  obtain ⟨y_7, z7, h⟩ := bd_some h
  have fz7 := Fs_34 z7
  try simp only [go_sem, z5, z6] at fz7
  obtain rfl := so_some h
  refine ⟨0, fun L hL => ?_⟩
  simp only [go_sem, ir11, E_61_l1, R_61_l1, ir11_b0, ir11_k0, ir11_o0, ir11_r0, z5, z6, lz6, xz6, fz7]
 ·try simp only [go_sem, n1, n2, n3, n4] at z5
  all_goals
  obtain rfl := so_some h
  refine ⟨0, fun L hL => ?_⟩
  simp only [go_sem, ir11, E_61_l1, R_61_l1, ir11_b0, ir11_k0, ir11_o0, ir11_r0, z5]

theorem Fs_61 {list : List Request} {estimates : List Estimate} {y_ : (List Request) × Int} (h : spec_ServeEstimates list estimates = some y_) : c_61.F [.sl 6 (List.map Request_av list), .sl 5 (List.map Estimate_av estimates)] = ⟨true, .tup [.fresh 6 (List.map Request_av y_.1), .int .i64 y_.2], [.any, .any]⟩ := by
 refine mkF_E (by simp only [flatA, flatB, flat1, List.all_cons, List.all_nil, Bool.and_self, flatE_map (f := Request_av) (fun _ => rfl)]) ?_
 dsimp only [spec_ServeEstimates] at h
 obtain ⟨y_1, z1, h⟩ := bd_some h
 have fz1 := Fs_31 z1
 try simp only [go_sem] at fz1
 obtain ⟨z2, h⟩ := ck_some h
 rcases or_split z2 with ⟨gz2, z2⟩ | gz2
 ·try simp only [go_sem, n1, n2, n3, n4] at gz2
  all_goals
  obtain ⟨y_2, hz2⟩ := Option.isSome_iff_exists.1 z2
  have fz2 := Fs_60 hz2
  try simp only [go_sem, n1, n2, n3, n4, gz2] at hz2
  all_goals
  try simp only [go_sem, gz2] at fz2
  rcases it_some h with ⟨z3, h⟩ | ⟨z3, h⟩
  ·try simp only [go_sem, n1, n2, n3, n4, gz2, hz2] at z3
   all_goals
   obtain rfl := so_some h
   refine ⟨0, fun L hL => ?_⟩
   simp only [go_sem, ir11, E_61_l1, R_61_l1, ir11_k0, ir11_o0, ir11_r0, fz1, gz2, hz2, fz2, z3]
  ·try simp only [go_sem, n1, n2, n3, n4, gz2, hz2] at z3
   all_goals
   obtain ⟨z4, h⟩ := ck_some h
   try simp only [go_sem, n1, n2, n3, n4, gz2, hz2, z3] at z4
   all_goals
   obtain ⟨y_8, z8, h⟩ := bd_some h
   obtain ⟨Lz8, ez8⟩ := spec_ServeEstimates_l1_ex z8
   obtain rfl := so_some h
   refine ⟨Lz8, fun L hL => ?_⟩
   have ez8 := ez8 L (by omega)
   try simp only [go_sem, E_61_l1, R_61_l1, ir11_k0, ir11_o0, ir11_r0, gz2, hz2, z3, z4] at ez8
   simp only [go_sem, ir11, E_61_l1, R_61_l1, ir11_k0, ir11_o0, ir11_r0, fz1, gz2, hz2, fz2, z3, z4, ez8]
 ·have gz2n := no_f gz2
  have gz2nn := no_t gz2n
  try simp only [go_sem, n1, n2, n3, n4] at gz2nn
  all_goals
  rcases it_some h with ⟨z3, h⟩ | ⟨z3, h⟩
  ·try simp only [go_sem, n1, n2, n3, n4, gz2nn] at z3
   all_goals
   obtain rfl := so_some h
   refine ⟨0, fun L hL => ?_⟩
   simp only [go_sem, ir11, E_61_l1, R_61_l1, ir11_k0, ir11_o0, ir11_r0, fz1, gz2nn, z3]
  ·try simp only [go_sem, n1, n2, n3, n4, gz2nn] at z3
   all_goals
   (simp_all)


def ir45_v : List Nat := [0, 2, 3, 4, 5]
def ir45 : AFn := ⟨1, 5, .seq (.region false [ VO 1 2 (.newnil 6), VO 2 3 (.mov (I6 0))]) (.seq (.region false [ PM 6 0, PO 7 (.call 30 [(.s 0)]), VS 3 4 0]) (.seq (.region false [ PM 8 3, PO 9 (.call 31 [(.s 0)]), VS 4 5 0]) (.seq (.region false [ PM 10 4, PM 11 3, PO 12 (.call 33 [(.s 0)]), VS 1 2 2, VS 2 3 0]) (.ret)))), [.t 1, .t 2]⟩
noncomputable def t_62 : List (Nat × Ctr) := [(30, c_1), (31, c_9), (33, c_11)]
theorem lk_62_30 : look t_62 30 = some c_1 := rfl
theorem lk_62_31 : look t_62 31 = some c_9 := rfl
theorem lk_62_33 : look t_62 33 = some c_11 := rfl
noncomputable def c_62 : Ctr := mkF t_62 ir45 [.bor]
theorem s_62 : Sound Try.prog 45 c_62 := mkF_sound _ rfl (snd_cons s_1 (snd_cons s_9 (snd_cons s_11 snd_nil))) (by kernel_rfl : chkFn Try.prog 45 ir45 ir45_v = true)
theorem M_62 : c_62.modes = [.bor] := rfl
theorem Fl_62 : c_62.flat = true := rfl
attribute [go_sem] M_62 Fl_62
attribute [go_sem] lk_62_30 lk_62_31 lk_62_33
theorem Fs_62 {code : List UInt8} {y_ : (List Request) × Int} (h : spec_l22Ask code = some y_) : c_62.F [.sl 1 (List.map byteAV code)] = ⟨true, .tup [.fresh 6 (List.map Request_av y_.1), .int .i64 y_.2], [.any]⟩ := by
 refine mkF_E (by simp only [flatA, flatB, flat1, List.all_cons, List.all_nil, Bool.and_self, flatE_map (f := Request_av) (fun _ => rfl)]) ?_
 dsimp only [spec_l22Ask] at h
 obtain ⟨y_1, z1, h⟩ := bd_some h
 have fz1 := Fs_1 z1
 try simp only [go_sem] at fz1
 obtain ⟨y_2, z2, h⟩ := bd_some h
 have fz2 := Fs_9 z2
 try simp only [go_sem] at fz2
 obtain ⟨y_3, z3, h⟩ := bd_some h
 have fz3 := Fs_11 z3
 try simp only [go_sem] at fz3
 obtain rfl := so_some h
 refine ⟨0, fun L hL => ?_⟩
 simp only [go_sem, ir45, fz1, fz2, fz3]


def ir12_v : List Nat := [0, 2, 3]
def ir12 : AFn := ⟨1, 3, .seq (.region false [ VO 1 2 (.newnil 6), VO 2 3 (.mov (I6 0))]) (.seq (.region false [ PM 4 0, PO 5 (.call 45 [(.s 0)]), PO 6 (.ext (.s 0) 0), PO 7 (.ext (.s 1) 1), VS 1 2 1, VS 2 3 0]) (.ret)), [.t 1, .t 2]⟩
noncomputable def t_63 : List (Nat × Ctr) := [(45, c_62)]
theorem lk_63_45 : look t_63 45 = some c_62 := rfl
noncomputable def c_63 : Ctr := mkF t_63 ir12 [.bor]
theorem s_63 : Sound Try.prog 12 c_63 := mkF_sound _ rfl (snd_cons s_62 snd_nil) (by kernel_rfl : chkFn Try.prog 12 ir12 ir12_v = true)
theorem M_63 : c_63.modes = [.bor] := rfl
theorem Fl_63 : c_63.flat = true := rfl
attribute [go_sem] M_63 Fl_63
attribute [go_sem] lk_63_45
theorem Fs_63 {code : List UInt8} {y_ : (List Request) × Int} (h : spec_DrawExpireRequests code = some y_) : c_63.F [.sl 1 (List.map byteAV code)] = ⟨true, .tup [.fresh 6 (List.map Request_av y_.1), .int .i64 y_.2], [.any]⟩ := by
 refine mkF_E (by simp only [flatA, flatB, flat1, List.all_cons, List.all_nil, Bool.and_self, flatE_map (f := Request_av) (fun _ => rfl)]) ?_
 dsimp only [spec_DrawExpireRequests] at h
 obtain ⟨y_1, z1, h⟩ := bd_some h
 have fz1 := Fs_62 z1
 try simp only [go_sem] at fz1
 obtain rfl := so_some h
 refine ⟨0, fun L hL => ?_⟩
 simp only [go_sem, ir12, fz1]


def ir46_v : List Nat := [0, 1, 4]
def ir46 : AFn := ⟨2, 3, .seq (.region false [ VO 2 4 (.mov (I6 0))]) (.seq (.block 0 (.test false [ PM 6 0, PO 7 (.call 20 [(.s 0)]), PO 8 (.un .not (.s 0)), PO 5 (.mov (.s 0))] (.s 0) (.seq (.region false [ VO 2 4 (.mov (I6 1))]) (.ret)) (.test false [ PM 10 1, PO 11 (.call 34 [(.s 0)]), PO 12 (.un .not (.s 0)), PO 9 (.mov (.s 0))] (.s 0) (.seq (.region false [ VO 2 4 (.mov (I6 2))]) (.ret)) (.skip)))) (.seq (.region false [ VO 2 4 (.mov (I6 0))]) (.ret))), [.t 2]⟩
noncomputable def t_64 : List (Nat × Ctr) := [(20, c_20), (34, c_14)]
theorem lk_64_20 : look t_64 20 = some c_20 := rfl
theorem lk_64_34 : look t_64 34 = some c_14 := rfl
noncomputable def c_64 : Ctr := mkF t_64 ir46 [.bor, .bor]
theorem s_64 : Sound Try.prog 46 c_64 := mkF_sound _ rfl (snd_cons s_20 (snd_cons s_14 snd_nil)) (by kernel_rfl : chkFn Try.prog 46 ir46 ir46_v = true)
theorem M_64 : c_64.modes = [.bor, .bor] := rfl
theorem Fl_64 : c_64.flat = true := rfl
attribute [go_sem] M_64 Fl_64
attribute [go_sem] lk_64_20 lk_64_34
theorem Fs_64 {list : List Request} {t : Int} {y_ : Int} (h : impl_timed list t = some y_) : c_64.F [.sl 6 (List.map Request_av list), .int .i64 t] = ⟨true, .int .i64 y_, [.any, .any]⟩ := by
 refine mkF_E rfl ?_
 dsimp only [impl_timed] at h
 obtain ⟨y_1, z1, h⟩ := bd_some h
 have fz1 := Fs_20 z1
 try simp only [go_sem] at fz1
 rcases it_some h with ⟨z2, h⟩ | ⟨z2, h⟩
 ·try simp only [go_sem, n1, n2, n3, n4] at z2
  all_goals
  obtain rfl := so_some h
  refine ⟨0, fun L hL => ?_⟩
  simp only [go_sem, ir46, fz1, z2]
 ·try simp only [go_sem, n1, n2, n3, n4] at z2
  all_goals
  obtain ⟨y_3, z3, h⟩ := bd_some h
  have fz3 := Fs_14 z3
  try simp only [go_sem, z2] at fz3
  rcases it_some h with ⟨z4, h⟩ | ⟨z4, h⟩
  ·try simp only [go_sem, n1, n2, n3, n4, z2] at z4
   all_goals
   obtain rfl := so_some h
   refine ⟨0, fun L hL => ?_⟩
   simp only [go_sem, ir46, fz1, z2, fz3, z4]
  ·try simp only [go_sem, n1, n2, n3, n4, z2] at z4
   all_goals
   obtain rfl := so_some h
   refine ⟨0, fun L hL => ?_⟩
   simp only [go_sem, ir46, fz1, z2, fz3, z4]


def ir48_v : List Nat := [0, 1, 2, 3]
def ir48 : AFn := ⟨2, 4, .seq (.region false [ VO 2 2 (.box (.v 0)), VO 3 3 (.mov (.c (.bool false)))]) (.seq (.region false [ PO 4 (.fldAddr 2 (.v 2)), PO 5 (.load false 1 (.s 0)), PO 6 (.load false 1 (.v 1)), PO 7 (.bin false .geq (.s 1) (.s 0)), PO 8 (.mov (.s 0)), ⟨.push, 9, (some ((.s 0), true)), .fldAddr 4 (.v 2)⟩, ⟨.push, 10, (some ((.s 1), true)), .load false 1 (.s 0)⟩, ⟨.push, 11, (some ((.s 2), true)), .fldAddr 3 (.v 2)⟩, ⟨.push, 12, (some ((.s 3), true)), .load false 1 (.s 0)⟩, ⟨.push, 13, (some ((.s 4), true)), .bin false .lss (.s 2) (.s 0)⟩, PO 14 (.pick (.s 5) (.s 0) (.c (.bool
 false))), VS 3 3 0]) (.ret)), [.t 3]⟩
noncomputable def t_65 : List (Nat × Ctr) := []
noncomputable def c_65 : Ctr := mkF t_65 ir48 [.bor, .bor]
theorem s_65 : Sound Try.prog 48 c_65 := mkF_sound _ rfl snd_nil (by kernel_rfl : chkFn Try.prog 48 ir48 ir48_v = true)
theorem M_65 : c_65.modes = [.bor, .bor] := rfl
theorem Fl_65 : c_65.flat = true := rfl
attribute [go_sem] M_65 Fl_65
theorem Fs_65 {x : Request} {t1 : Int} {y_ : Bool} (h : impl_ExpireRequests_c1 x t1 = some y_) : c_65.F [Request_av x, .ptr 1 [.int .i64 t1] 0 0] = ⟨true, .bool y_, [.any, .any]⟩ := by
 refine mkF_E rfl ?_
 dsimp only [impl_ExpireRequests_c1] at h
 obtain rfl := so_some h
 refine ⟨0, fun L hL => ?_⟩
 simp only [go_sem, ir48]


def ir47_b0 : IR := .seq (.region false [ VO 8 12 (.bin false .lss (.v 7) (.v 6))]) (.seq (.cond (.v 8) (.skip) (.exit 0)) (.seq (.block 1 (.seq (.region false [ PO 13 (.ixAddr 6 (.v 5) (.v 7)), PO 14 (.load true 6 (.s 0)), VO 4 7 (.alloc (.agg [.str [], .int .i64 (0), .int .i64 (0), .int .i64 (0), .int .i64 (0), .int .i64 (0)])), ⟨.no, 0, none, .store 6 (.v 4) (.s 0)⟩]) (.test false [ PM 15 1, PO 16 (.load true 6 (.v 4)), PO 17 (.callv (.s 1) [(.s 0)])] (.s 0) (.region false [ PM 18 3, PO 19 (.load true 6 (.v 4)), PO 20 (.mkSl 6 (.agg [.str [], .int .i64 (0), .int .i64 (0), .int .i64 (0), .int
 .i64 (0), .int .i64 (0)]) 1 [(0, (.s 0))]), PO 21 (.app 6 56 (.agg [.str [], .int .i64 (0), .int .i64 (0), .int .i64 (0), .int .i64 (0), .int .i64 (0)]) (.s 2) (.s 0)), VS 3 5 0]) (.skip)))) (.region false [ PO 22 (.bin false .add (.v 7) (I6 1)), VS 7 11 0])))
def ir47_k0 : List Bool := [false, true, false, true, false, true, true, true, false]
def ir47_o0 : List Bool := [false, false, false, true, false, false, false, false, false]
def ir47_r0 : List Bool := [false, false, true, false, false, false, false, false, false]
def ir47_v : List Nat := [0, 1, 4, 5, 7, 9, 10, 11, 12]
def ir47 : AFn := ⟨2, 9, .seq (.region false [ VO 2 4 (.newnil 6)]) (.seq (.region false [ PO 8 (.mkSl 6 (.agg [.str [], .int .i64 (0), .int .i64 (0), .int .i64 (0), .int .i64 (0), .int .i64 (0)]) 0 []), VS 3 5 0]) (.seq (.seq (.region false [ VO 5 9 (.mov (.v 0)), VO 6 10 (.len false (.v 5)), VO 7 11 (.mov (I6 0))]) (.block 0 (.loop ir47_k0 ir47_o0 ir47_r0 ir47_b0))) (.seq (.region false [ PM 23 3, VS 2 4 0]) (.ret)))), [.t 2]⟩
noncomputable def t_66 : List (Nat × Ctr) := [(48, c_65)]
theorem lk_66_48 : look t_66 48 = some c_65 := rfl
noncomputable def c_66 : Ctr := mkF t_66 ir47 [.bor, .bor]
theorem s_66 : Sound Try.prog 47 c_66 := mkF_sound _ rfl (snd_cons s_65 snd_nil) (by kernel_rfl : chkFn Try.prog 47 ir47 ir47_v = true)
theorem M_66 : c_66.modes = [.bor, .bor] := rfl
theorem Fl_66 : c_66.flat = true := rfl
attribute [go_sem] M_66 Fl_66
attribute [go_sem] lk_66_48
def E_66_l1 (c : Int) (t9 : List Request) (t10 : Int) : ((List Request) × Int) → St
 | (out, t11) => ⟨[.any, .fn (.func 48) [] [.ptr 1 [.int .i64 c] 0 0], .any, .own 3200000, .any, .sl 6 (List.map Request_av t9), .int .i64 t10, .int .i64 t11, .any], [], [(3200000, ⟨6, List.map Request_av out⟩)], true⟩
def R_66_l1 (c : Int) (t9 : List Request) (t10 : Int) (y : (List Request)) : Res := (.exit 0, ⟨[.any, .any, .any, .own 3200000, .any, .any, .any, .any, .any], [], [(3200000, ⟨6, List.map Request_av y⟩)], true⟩)
theorem impl_chosen_impl_Request__impl_ExpireRequests_c1_l1_ex {c : Int} {t9 : List Request} {t10 : Int} {sgm_ : (List Request) × Int} {rho_ : (List Request)} (h : whileE (impl_chosen_impl_Request__impl_ExpireRequests_c1_l1 c t9 t10) sgm_ = some rho_) : ∃ L0, ∀ L, L0 ≤ L → iter (exec (look t_66) L ir47_b0) ir47_k0 ir47_o0 ir47_r0 L (E_66_l1 c t9 t10 sgm_) = R_66_l1 c t9 t10 rho_ := by
 refine loop_ex (E := E_66_l1 c t9 t10) (R := R_66_l1 c t9 t10) (fun y => by first | (intro c; cases c) | (rcases y with y | y <;> (intro c; cases c)) | (rcases y with y | y | y <;> (intro c; cases c))) ?_ h
 clear h
 rintro ⟨out, t11⟩ o_ h
 dsimp only [impl_chosen_impl_Request__impl_ExpireRequests_c1_l1] at h
 rcases it_some h with ⟨z1, h⟩ | ⟨z1, h⟩
 ·try simp only [go_sem, n1, n2, n3, n4] at z1
  all_goals
  obtain ⟨z2, h⟩ := ck_some h
  have lz2 := ix_lt z2
  have xz2 := getD_mapD Request_av t9 lz2
  try simp only [go_sem] at lz2
  try simp only [go_sem] at xz2
  try simp only [go_sem, n1, n2, n3, n4, z1] at z2
  all_goals
  obtain ⟨y_3, z3, h⟩ := bd_some h
  have fz3 := Fs_65 z3
  try simp only [go_sem, z1, z2] at fz3
  rcases it_some h with ⟨z4, h⟩ | ⟨z4, h⟩
  ·try simp only [go_sem, n1, n2, n3, n4, z1, z2] at z4
   all_goals
   obtain ⟨z5, h⟩ := ck_some h
   try simp only [go_sem, n1, n2, n3, n4, z1, z2, z4] at z5
   all_goals
   obtain rfl := so_some h
   refine ⟨0, fun L hL => ?_⟩
   simp only [go_sem, ir47, E_66_l1, R_66_l1, ir47_b0, ir47_k0, ir47_o0, ir47_r0, z1, z2, lz2, xz2, fz3, z4, z5]
  ·try simp only [go_sem, n1, n2, n3, n4, z1, z2] at z4
   all_goals
   obtain rfl := so_some h
   refine ⟨0, fun L hL => ?_⟩
   simp only [go_sem, ir47, E_66_l1, R_66_l1, ir47_b0, ir47_k0, ir47_o0, ir47_r0, z1, z2, lz2, xz2, fz3, z4]
 ·try simp only [go_sem, n1, n2, n3, n4] at z1
  all_goals
  obtain rfl := so_some h
  refine ⟨0, fun L hL => ?_⟩
  simp only [go_sem, ir47, E_66_l1, R_66_l1, ir47_b0, ir47_k0, ir47_o0, ir47_r0, z1]

theorem Fs_66 {list : List Request} {wanted_c0 : Int} {y_ : (List Request)} (h : impl_chosen_impl_Request__impl_ExpireRequests_c1 list wanted_c0 = some y_) : c_66.F [.sl 6 (List.map Request_av list), .fn (.func 48) [] [.ptr 1 [.int .i64 wanted_c0] 0 0]] = ⟨true, .fresh 6 (List.map Request_av y_), [.any, .any]⟩ := by
 refine mkF_E (by simp only [flatA, flatB, flat1, List.all_cons, List.all_nil, Bool.and_self, flatE_map (f := Request_av) (fun _ => rfl)]) ?_
 dsimp only [impl_chosen_impl_Request__impl_ExpireRequests_c1] at h
 obtain ⟨y_6, z6, h⟩ := bd_some h
 obtain ⟨Lz6, ez6⟩ := impl_chosen_impl_Request__impl_ExpireRequests_c1_l1_ex z6
 obtain rfl := so_some h
 refine ⟨Lz6, fun L hL => ?_⟩
 have ez6 := ez6 L (by omega)
 try simp only [go_sem, E_66_l1, R_66_l1, ir47_k0, ir47_o0, ir47_r0] at ez6
 simp only [go_sem, ir47, E_66_l1, R_66_l1, ir47_k0, ir47_o0, ir47_r0, ez6]


def ir13_v : List Nat := [0, 1, 3, 4, 5, 6]
def ir13 : AFn := ⟨2, 6, .seq (.region false [ VO 2 3 (.box (.v 1)), VO 3 4 (.newnil 6), VO 4 5 (.mov (I6 0))]) (.seq (.seq (.region false [ PM 7 0, PO 8 (.load false 1 (.v 2)), PO 9 (.call 46 [(.s 1), (.s 0)]), VS 5 6 0]) (.test false [ PM 10 5, PO 11 (.bin false .neq (.s 0) (I6 0))] (.s 0) (.seq (.region false [ PM 12 5, VO 3 4 (.newnil 6), VS 4 5 0]) (.ret)) (.skip))) (.seq (.region false [ PM 13 0, PO 14 (.mkFn (.func 48) [] [(.v 2)]), PO 15 (.call 47 [(.s 1), (.s 0)]), VS 3 4 0, VO 4 5 (.mov (I6 0))]) (.ret))), [.t 3, .t 4]⟩
noncomputable def t_67 : List (Nat × Ctr) := [(46, c_64), (47, c_66)]
theorem lk_67_46 : look t_67 46 = some c_64 := rfl
theorem lk_67_47 : look t_67 47 = some c_66 := rfl
noncomputable def c_67 : Ctr := mkF t_67 ir13 [.bor, .bor]
theorem s_67 : Sound Try.prog 13 c_67 := mkF_sound _ rfl (snd_cons s_64 (snd_cons s_66 snd_nil)) (by kernel_rfl : chkFn Try.prog 13 ir13 ir13_v = true)
theorem M_67 : c_67.modes = [.bor, .bor] := rfl
theorem Fl_67 : c_67.flat = true := rfl
attribute [go_sem] M_67 Fl_67
attribute [go_sem] lk_67_46 lk_67_47
theorem Fs_67 {list : List Request} {t : Int} {y_ : (List Request) × Int} (h : impl_ExpireRequests list t = some y_) : c_67.F [.sl 6 (List.map Request_av list), .int .i64 t] = ⟨true, .tup [.fresh 6 (List.map Request_av y_.1), .int .i64 y_.2], [.any, .any]⟩ := by
 refine mkF_E (by simp only [flatA, flatB, flat1, List.all_cons, List.all_nil, Bool.and_self, flatE_map (f := Request_av) (fun _ => rfl)]) ?_
 dsimp only [impl_ExpireRequests] at h
 obtain ⟨y_1, z1, h⟩ := bd_some h
 have fz1 := Fs_64 z1
 try simp only [go_sem] at fz1
 rcases it_some h with ⟨z2, h⟩ | ⟨z2, h⟩
 ·try simp only [go_sem, n1, n2, n3, n4] at z2
  all_goals
  obtain rfl := so_some h
  refine ⟨0, fun L hL => ?_⟩
  simp only [go_sem, ir13, fz1, z2]
 ·try simp only [go_sem, n1, n2, n3, n4] at z2
  all_goals
  obtain ⟨y_3, z3, h⟩ := bd_some h
  have fz3 := Fs_66 z3
  try simp only [go_sem, z2] at fz3
  obtain rfl := so_some h
  refine ⟨0, fun L hL => ?_⟩
  simp only [go_sem, ir13, fz1, z2, fz3]


def ir14_b0 : IR := .seq (.test false [ PM 16 6, PM 17 0, PO 18 (.len false (.s 0)), PO 19 (.bin false .lss (.s 2) (.s 0))] (.s 0) (.skip) (.exit 0)) (.seq (.block 1 (.anyo 20 [ SO 0 22 (.mov (.v 0)), SO 1 23 (.mov (.v 6)), SO 2 24 (.ixAddr 6 (.s 0) (.s 1)), SO 3 25 (.fldAddr 2 (.s 2)), SO 4 26 (.load false 1 (.s 3)), SO 5 27 (.mov (.v 1)), SO 6 28 (.bin false .geq (.s 4) (.s 5)), SO 7 29 (.mov (.s 6)), ⟨.slot 8, 30, (some ((.s 7), true)), .mov (.v 0)⟩, ⟨.slot 9, 31, (some ((.s 7), true)), .mov (.v 6)⟩, ⟨.slot 10, 32, (some ((.s 7), true)), .ixAddr 6 (.s 8) (.s 9)⟩, ⟨.slot 11, 33, (some ((.s
 7), true)), .fldAddr 4 (.s 10)⟩, ⟨.slot 12, 34, (some ((.s 7), true)), .load false 1 (.s 11)⟩, ⟨.slot 13, 35, (some ((.s 7), true)), .mov (.v 0)⟩, ⟨.slot 14, 36, (some ((.s 7), true)), .mov (.v 6)⟩, ⟨.slot 15, 37, (some ((.s 7), true)), .ixAddr 6 (.s 13) (.s 14)⟩, ⟨.slot 16, 38, (some ((.s 7), true)), .fldAddr 3 (.s 15)⟩, ⟨.slot 17, 39, (some ((.s 7), true)), .load false 1 (.s 16)⟩, ⟨.slot 18, 40, (some ((.s 7), true)), .bin false .lss (.s 12) (.s 17)⟩, SO 19 41 (.pick (.s 7) (.s 18) (.c (.bool false)))] [] (.cond (.s 19) (.region false [ PM 42 5, PM 43 0, PM 44 6, PO 45 (.ixAddr 6 (.s 1) (.s
 0)), PO 46 (.load true 6 (.s 0)), PO 47 (.mkSl 6 (.agg [.str [], .int .i64 (0), .int .i64 (0), .int .i64 (0), .int .i64 (0), .int .i64 (0)]) 1 [(0, (.s 0))]), PO 48 (.app 6 56 (.agg [.str [], .int .i64 (0), .int .i64 (0), .int .i64 (0), .int .i64 (0), .int .i64 (0)]) (.s 5) (.s 0)), VS 5 7 0]) (.skip)))) (.region false [ PM 20 6, PO 21 (.bin false .add (.s 0) (I6 1)), VS 6 8 0]))
def ir14_k0 : List Bool := [true, true, false, false, false, true, true]
def ir14_o0 : List Bool := [false, false, false, false, false, true, false]
def ir14_r0 : List Bool := [false, false, true, true, false, false, false]
def ir14_v : List Nat := [0, 1, 4, 5, 6, 7, 8]
def ir14 : AFn := ⟨2, 7, .seq (.region false [ VO 2 4 (.newnil 6), VO 3 5 (.mov (I6 0))]) (.seq (.region false [ PM 9 0, PM 10 1, PO 11 (.call 38 [(.s 1), (.s 0)]), VS 4 6 0]) (.seq (.test false [ PM 12 4, PO 13 (.bin false .neq (.s 0) (I6 0))] (.s 0) (.seq (.region false [ PM 14 4, VO 2 4 (.newnil 6), VS 3 5 0]) (.ret)) (.skip)) (.seq (.region false [ PO 15 (.mkSl 6 (.agg [.str [], .int .i64 (0), .int .i64 (0), .int .i64 (0), .int .i64 (0), .int .i64 (0)]) 0 []), VS 5 7 0]) (.seq (.seq (.region false [ VO 6 8 (.mov (I6 0))]) (.block 0 (.loop ir14_k0 ir14_o0 ir14_r0 ir14_b0))) (.seq (.region
 false [ PM 49 5, VS 2 4 0, VO 3 5 (.mov (I6 0))]) (.ret)))))), [.t 2, .t 3]⟩
noncomputable def t_68 : List (Nat × Ctr) := [(38, c_32)]
theorem lk_68_38 : look t_68 38 = some c_32 := rfl
noncomputable def c_68 : Ctr := mkF t_68 ir14 [.bor, .bor]
theorem s_68 : Sound Try.prog 14 c_68 := mkF_sound _ rfl (snd_cons s_32 snd_nil) (by kernel_rfl : chkFn Try.prog 14 ir14 ir14_v = true)
theorem M_68 : c_68.modes = [.bor, .bor] := rfl
theorem Fl_68 : c_68.flat = true := rfl
attribute [go_sem] M_68 Fl_68
attribute [go_sem] lk_68_38
def E_68_l1 (list : List Request) (t : Int) : ((List Request) × Int) → St
 | (out, i) => ⟨[.sl 6 (List.map Request_av list), .int .i64 t, .any, .any, .any, .own 3200000, .int .i64 i], [], [(3200000, ⟨6, List.map Request_av out⟩)], true⟩
def R_68_l1 (list : List Request) (t : Int) (y : (List Request)) : Res := (.exit 0, ⟨[.any, .any, .any, .any, .any, .own 3200000, .any], [], [(3200000, ⟨6, List.map Request_av y⟩)], true⟩)
theorem spec_ExpireRequests_l1_ex {list : List Request} {t : Int} {sgm_ : (List Request) × Int} {rho_ : (List Request)} (h : whileE (spec_ExpireRequests_l1 list t) sgm_ = some rho_) : ∃ L0, ∀ L, L0 ≤ L → iter (exec (look t_68) L ir14_b0) ir14_k0 ir14_o0 ir14_r0 L (E_68_l1 list t sgm_) = R_68_l1 list t rho_ := by
 refine loop_ex (E := E_68_l1 list t) (R := R_68_l1 list t) (fun y => by first | (intro c; cases c) | (rcases y with y | y <;> (intro c; cases c)) | (rcases y with y | y | y <;> (intro c; cases c))) ?_ h
 clear h
 rintro ⟨out, i⟩ o_ h
 dsimp only [spec_ExpireRequests_l1] at h
 rcases it_some h with ⟨z3, h⟩ | ⟨z3, h⟩
 ·try simp only [go_sem, n1, n2, n3, n4] at z3
  all_goals
  obtain ⟨z4, h⟩ := ck_some h
  have lz4 := ix_lt z4
  have xz4 := getD_mapD Request_av list lz4
  try simp only [go_sem] at lz4
  try simp only [go_sem] at xz4
  try simp only [go_sem, n1, n2, n3, n4, z3] at z4
  all_goals
  rcases it_some h with ⟨z5, h⟩ | ⟨z5, h⟩
  ·try simp only [go_sem, n1, n2, n3, n4, z3, z4] at z5
   all_goals
   obtain ⟨z6, h⟩ := ck_some h
   try simp only [go_sem, n1, n2, n3, n4, z3, z4, z5] at z6
   all_goals
   obtain rfl := so_some h
   refine ⟨0, fun L hL => ?_⟩
   simp only [go_sem, ir14, E_68_l1, R_68_l1, ir14_b0, ir14_k0, ir14_o0, ir14_r0, z3, z4, lz4, xz4, z5, z6]
  ·try simp only [go_sem, n1, n2, n3, n4, z3, z4] at z5
   all_goals
   obtain rfl := so_some h
   refine ⟨0, fun L hL => ?_⟩
   simp only [go_sem, ir14, E_68_l1, R_68_l1, ir14_b0, ir14_k0, ir14_o0, ir14_r0, z3, z4, lz4, xz4, z5]
 ·try simp only [go_sem, n1, n2, n3, n4] at z3
  all_goals
  obtain rfl := so_some h
  refine ⟨0, fun L hL => ?_⟩
  simp only [go_sem, ir14, E_68_l1, R_68_l1, ir14_b0, ir14_k0, ir14_o0, ir14_r0, z3]

theorem Fs_68 {list : List Request} {t : Int} {y_ : (List Request) × Int} (h : spec_ExpireRequests list t = some y_) : c_68.F [.sl 6 (List.map Request_av list), .int .i64 t] = ⟨true, .tup [.fresh 6 (List.map Request_av y_.1), .int .i64 y_.2], [.any, .any]⟩ := by
 refine mkF_E (by simp only [flatA, flatB, flat1, List.all_cons, List.all_nil, Bool.and_self, flatE_map (f := Request_av) (fun _ => rfl)]) ?_
 dsimp only [spec_ExpireRequests] at h
 obtain ⟨y_1, z1, h⟩ := bd_some h
 have fz1 := Fs_32 z1
 try simp only [go_sem] at fz1
 rcases it_some h with ⟨z2, h⟩ | ⟨z2, h⟩
 ·try simp only [go_sem, n1, n2, n3, n4] at z2
  all_goals
  obtain rfl := so_some h
  refine ⟨0, fun L hL => ?_⟩
  simp only [go_sem, ir14, E_68_l1, R_68_l1, ir14_k0, ir14_o0, ir14_r0, fz1, z2]
 ·try simp only [go_sem, n1, n2, n3, n4] at z2
  all_goals
  obtain ⟨y_7, z7, h⟩ := bd_some h
  obtain ⟨Lz7, ez7⟩ := spec_ExpireRequests_l1_ex z7
  obtain rfl := so_some h
  refine ⟨Lz7, fun L hL => ?_⟩
  have ez7 := ez7 L (by omega)
  try simp only [go_sem, E_68_l1, R_68_l1, ir14_k0, ir14_o0, ir14_r0, z2] at ez7
  simp only [go_sem, ir14, E_68_l1, R_68_l1, ir14_k0, ir14_o0, ir14_r0, fz1, z2, ez7]


def ir15_v : List Nat := [0, 2]
def ir15 : AFn := ⟨1, 2, .seq (.region false [ VO 1 2 (.newnil 6)]) (.seq (.region false [ PM 3 0, PO 4 (.call 30 [(.s 0)]), PO 5 (.call 31 [(.s 0)]), VS 1 2 0]) (.ret)), [.t 1]⟩
noncomputable def t_69 : List (Nat × Ctr) := [(30, c_1), (31, c_9)]
theorem lk_69_30 : look t_69 30 = some c_1 := rfl
theorem lk_69_31 : look t_69 31 = some c_9 := rfl
noncomputable def c_69 : Ctr := mkF t_69 ir15 [.bor]
theorem s_69 : Sound Try.prog 15 c_69 := mkF_sound _ rfl (snd_cons s_1 (snd_cons s_9 snd_nil)) (by kernel_rfl : chkFn Try.prog 15 ir15 ir15_v = true)
theorem M_69 : c_69.modes = [.bor] := rfl
theorem Fl_69 : c_69.flat = true := rfl
attribute [go_sem] M_69 Fl_69
attribute [go_sem] lk_69_30 lk_69_31
theorem Fs_69 {code : List UInt8} {y_ : (List Request)} (h : spec_DrawServedShare code = some y_) : c_69.F [.sl 1 (List.map byteAV code)] = ⟨true, .fresh 6 (List.map Request_av y_), [.any]⟩ := by
 refine mkF_E (by simp only [flatA, flatB, flat1, List.all_cons, List.all_nil, Bool.and_self, flatE_map (f := Request_av) (fun _ => rfl)]) ?_
 dsimp only [spec_DrawServedShare] at h
 obtain ⟨y_1, z1, h⟩ := bd_some h
 have fz1 := Fs_1 z1
 try simp only [go_sem] at fz1
 obtain ⟨y_2, z2, h⟩ := bd_some h
 have fz2 := Fs_9 z2
 try simp only [go_sem] at fz2
 obtain rfl := so_some h
 refine ⟨0, fun L hL => ?_⟩
 simp only [go_sem, ir15, fz1, fz2]


def ir109_v : List Nat := [0, 2]
def ir109 : AFn := ⟨1, 2, .seq (.region false [ VO 1 2 (.mov (I6 0))]) (.seq (.test false [ PM 3 0, PO 4 (.bin false .lss (.s 0) (I6 0))] (.s 0) (.seq (.region false [ PM 5 0, PO 6 (.un .neg (.s 0)), VS 1 2 0]) (.ret)) (.skip)) (.seq (.region false [ PM 7 0, VS 1 2 0]) (.ret))), [.t 1]⟩
noncomputable def t_70 : List (Nat × Ctr) := []
noncomputable def c_70 : Ctr := mkF t_70 ir109 [.bor]
theorem s_70 : Sound Try.prog 109 c_70 := mkF_sound _ rfl snd_nil (by kernel_rfl : chkFn Try.prog 109 ir109 ir109_v = true)
theorem M_70 : c_70.modes = [.bor] := rfl
theorem Fl_70 : c_70.flat = true := rfl
attribute [go_sem] M_70 Fl_70
theorem Fs_70 {n : Int} {y_ : Int} (h : impl_abs n = some y_) : c_70.F [.int .i64 n] = ⟨true, .int .i64 y_, [.any]⟩ := by
 refine mkF_E rfl ?_
 dsimp only [impl_abs] at h
 rcases it_some h with ⟨z1, h⟩ | ⟨z1, h⟩
 ·try simp only [go_sem, n1, n2, n3, n4] at z1
  all_goals
  obtain rfl := so_some h
  refine ⟨0, fun L hL => ?_⟩
  simp only [go_sem, ir109, z1]
 ·try simp only [go_sem, n1, n2, n3, n4] at z1
  all_goals
  obtain rfl := so_some h
  refine ⟨0, fun L hL => ?_⟩
  simp only [go_sem, ir109, z1]


def ir86_b0 : IR := .seq (.test false [ PM 5 1, PO 6 (.bin false .neq (.s 0) (I6 0))] (.s 0) (.skip) (.exit 0)) (.block 1 (.anyo 4 [ SO 0 7 (.mov (.v 1)), SO 1 8 (.mov (.v 0)), SO 2 9 (.mov (.v 1)), SO 3 10 (.bin false .rem (.s 1) (.s 2)), VS 0 0 0, VS 1 1 3] [] .skip))
def ir86_k0 : List Bool := [true, true, false]
def ir86_o0 : List Bool := [true, false, false]
def ir86_r0 : List Bool := [false, false, true]
def ir86_v : List Nat := [0, 1, 4]
def ir86 : AFn := ⟨2, 3, .seq (.region false [ VO 2 4 (.mov (I6 0))]) (.seq (.block 0 (.loop ir86_k0 ir86_o0 ir86_r0 ir86_b0)) (.seq (.region false [ PM 11 0, PO 12 (.call 109 [(.s 0)]), VS 2 4 0]) (.ret))), [.t 2]⟩
noncomputable def t_71 : List (Nat × Ctr) := [(109, c_70)]
theorem lk_71_109 : look t_71 109 = some c_70 := rfl
noncomputable def c_71 : Ctr := mkF t_71 ir86 [.bor, .bor]
theorem s_71 : Sound Try.prog 86 c_71 := mkF_sound _ rfl (snd_cons s_70 snd_nil) (by kernel_rfl : chkFn Try.prog 86 ir86 ir86_v = true)
theorem M_71 : c_71.modes = [.bor, .bor] := rfl
theorem Fl_71 : c_71.flat = true := rfl
attribute [go_sem] M_71 Fl_71
attribute [go_sem] lk_71_109
def E_71_l1  : (Int × Int) → St
 | (a, b) => ⟨[.int .i64 a, .int .i64 b, .any], [], [], true⟩
def R_71_l1  (y : Int) : Res := (.exit 0, ⟨[.int .i64 y, .any, .any], [], [], true⟩)
theorem impl_gcd_l1_ex  {sgm_ : Int × Int} {rho_ : Int} (h : whileE (impl_gcd_l1) sgm_ = some rho_) : ∃ L0, ∀ L, L0 ≤ L → iter (exec (look t_71) L ir86_b0) ir86_k0 ir86_o0 ir86_r0 L (E_71_l1 sgm_) = R_71_l1 rho_ := by
 refine loop_ex (E := E_71_l1) (R := R_71_l1) (fun y => by first | (intro c; cases c) | (rcases y with y | y <;> (intro c; cases c)) | (rcases y with y | y | y <;> (intro c; cases c))) ?_ h
 clear h
 rintro ⟨a, b⟩ o_ h
 dsimp only [impl_gcd_l1] at h
 rcases it_some h with ⟨z1, h⟩ | ⟨z1, h⟩
 ·try simp only [go_sem, n1, n2, n3, n4] at z1
  all_goals
  obtain ⟨z2, h⟩ := ck_some h
  try simp only [go_sem, n1, n2, n3, n4, z1] at z2
  all_goals
  obtain rfl := so_some h
  refine ⟨0, fun L hL => ?_⟩
  simp only [go_sem, ir86, E_71_l1, R_71_l1, ir86_b0, ir86_k0, ir86_o0, ir86_r0, z1, z2]
 ·try simp only [go_sem, n1, n2, n3, n4] at z1
  all_goals
  obtain rfl := so_some h
  refine ⟨0, fun L hL => ?_⟩
  simp only [go_sem, ir86, E_71_l1, R_71_l1, ir86_b0, ir86_k0, ir86_o0, ir86_r0, z1]

theorem Fs_71 {a : Int} {b : Int} {y_ : Int} (h : impl_gcd a b = some y_) : c_71.F [.int .i64 a, .int .i64 b] = ⟨true, .int .i64 y_, [.any, .any]⟩ := by
 refine mkF_E rfl ?_
 dsimp only [impl_gcd] at h
 obtain ⟨y_3, z3, h⟩ := bd_some h
 obtain ⟨Lz3, ez3⟩ := impl_gcd_l1_ex z3
 obtain ⟨y_4, z4, h⟩ := bd_some h
 have fz4 := Fs_70 z4
 try simp only [go_sem] at fz4
 obtain rfl := so_some h
 refine ⟨Lz3, fun L hL => ?_⟩
 have ez3 := ez3 L (by omega)
 try simp only [go_sem, E_71_l1, R_71_l1, ir86_k0, ir86_o0, ir86_r0] at ez3
 simp only [go_sem, ir86, E_71_l1, R_71_l1, ir86_k0, ir86_o0, ir86_r0, fz4, ez3]


def ir49_v : List Nat := [0, 1, 4, 5]
def ir49 : AFn := ⟨2, 4, .seq (.region false [ VO 2 4 (.alloc (.agg [.int .i64 (0), .int .i64 (0)]))]) (.seq (.region false [ PM 6 0, PM 7 1, PO 8 (.call 86 [(.s 1), (.s 0)]), VS 3 5 0]) (.seq (.test false [ PM 9 1, PO 10 (.bin false .lss (.s 0) (I6 0))] (.s 0) (.region false [ PM 11 3, PO 12 (.un .neg (.s 0)), VS 3 5 0]) (.skip)) (.seq (.anyo 7 [ SO 0 13 (.mov (.v 0)), SO 1 14 (.mov (.v 3)), SO 2 15 (.bin false .quo (.s 0) (.s 1)), SO 3 16 (.mov (.v 1)), SO 4 17 (.mov (.v 3)), SO 5 18 (.bin false .quo (.s 3) (.s 4)), SO 6 19 (.pur (.build [.int .i64 (0), .int .i64 (0)] [(0, 1, (.s 2)), (1, 1,
 (.s 5))])), ⟨.no, 0, none, .store 2 (.v 2) (.s 6)⟩] [] .skip) (.ret)))), [.cell true 2 2]⟩
noncomputable def t_72 : List (Nat × Ctr) := [(86, c_71)]
theorem lk_72_86 : look t_72 86 = some c_71 := rfl
noncomputable def c_72 : Ctr := mkN t_72 ir49 [.bor, .bor]
theorem s_72 : Sound Try.prog 49 c_72 := mkN_sound _ (snd_cons s_71 snd_nil) (by kernel_rfl : chkFn Try.prog 49 ir49 ir49_v = true)
theorem M_72 : c_72.modes = [.bor, .bor] := rfl
theorem Fl_72 : c_72.flat = false := rfl
attribute [go_sem] M_72 Fl_72
attribute [go_sem] lk_72_86
theorem Fs_72 {num : Int} {den : Int} {y_ : Fraction} (h : impl_lowest num den = some y_) : c_72.F [.int .i64 num, .int .i64 den] = ⟨true, Fraction_av y_, [.any, .any]⟩ := by
 refine mkN_E ?_
 dsimp only [impl_lowest] at h
 obtain ⟨y_1, z1, h⟩ := bd_some h
 have fz1 := Fs_71 z1
 try simp only [go_sem] at fz1
 rcases it_some h with ⟨z2, h⟩ | ⟨z2, h⟩
 ·try simp only [go_sem, n1, n2, n3, n4] at z2
  all_goals
  obtain ⟨z3, h⟩ := ck_some h
  try simp only [go_sem, n1, n2, n3, n4, z2] at z3
  all_goals
  obtain rfl := so_some h
  refine ⟨0, fun L hL => ?_⟩
  simp only [go_sem, ir49, fz1, z2, z3]
 ·try simp only [go_sem, n1, n2, n3, n4] at z2
  all_goals
  obtain ⟨z4, h⟩ := ck_some h
  try simp only [go_sem, n1, n2, n3, n4, z2] at z4
  all_goals
  obtain rfl := so_some h
  refine ⟨0, fun L hL => ?_⟩
  simp only [go_sem, ir49, fz1, z2, z4]


def ir16_b0 : IR := .seq (.region false [ VO 9 21 (.bin false .lss (.v 8) (.v 7))]) (.seq (.cond (.v 9) (.skip) (.exit 1)) (.seq (.block 2 (.seq (.region false [ PO 22 (.ixAddr 6 (.v 6) (.v 8)), PO 23 (.load true 6 (.s 0)), VO 5 7 (.alloc (.agg [.str [], .int .i64 (0), .int .i64 (0), .int .i64 (0), .int .i64 (0), .int .i64 (0)])), ⟨.no, 0, none, .store 6 (.v 5) (.s 0)⟩]) (.anyo 8 [ SO 0 24 (.mov (.v 3)), SO 1 25 (.fldAddr 4 (.v 5)), SO 2 26 (.load false 1 (.s 1)), SO 3 27 (.bin false .add (.s 0) (.s 2)), SO 4 28 (.mov (.v 4)), SO 5 29 (.fldAddr 3 (.v 5)), SO 6 30 (.load false 1 (.s 5)), SO 7 31
 (.bin false .add (.s 4) (.s 6)), VS 3 4 3, VS 4 5 7] [] .skip))) (.region false [ PO 32 (.bin false .add (.v 8) (I6 1)), VS 8 20 0])))
def ir16_k0 : List Bool := [false, true, false, true, true, false, true, true, true, false]
def ir16_o0 : List Bool := [false, true, false, true, true, false, false, false, false, false]
def ir16_r0 : List Bool := [false, true, true, false, false, false, false, false, false, false]
def ir16_v : List Nat := [0, 2, 3, 4, 5, 7, 18, 19, 20, 21]
def ir16 : AFn := ⟨1, 10, .seq (.region false [ VO 1 2 (.alloc (.agg [.int .i64 (0), .int .i64 (0)])), VO 2 3 (.mov (I6 0))]) (.seq (.block 0 (.test false [ PM 9 0, PO 10 (.call 20 [(.s 0)]), PO 11 (.un .not (.s 0)), PO 8 (.mov (.s 0))] (.s 0) (.seq (.region false [ PO 12 (.build [.int .i64 (0), .int .i64 (0)] []), ⟨.no, 0, none, .store 2 (.v 1) (.s 0)⟩, VO 2 3 (.mov (I6 1))]) (.ret)) (.test false [ PM 14 0, PO 15 (.len false (.s 0)), PO 16 (.bin false .eql (.s 0) (I6 0)), PO 13 (.mov (.s 0))] (.s 0) (.seq (.region false [ PO 17 (.build [.int .i64 (0), .int .i64 (0)] []), ⟨.no, 0, none, .store
 2 (.v 1) (.s 0)⟩, VO 2 3 (.mov (I6 3))]) (.ret)) (.skip)))) (.seq (.region false [ VO 3 4 (.mov (I6 0)), VO 4 5 (.mov (I6 0))]) (.seq (.seq (.region false [ VO 6 18 (.mov (.v 0)), VO 7 19 (.len false (.v 6)), VO 8 20 (.mov (I6 0))]) (.block 1 (.loop ir16_k0 ir16_o0 ir16_r0 ir16_b0))) (.seq (.region false [ PM 33 3, PM 34 4, PO 35 (.call 49 [(.s 1), (.s 0)]), ⟨.no, 0, none, .store 2 (.v 1) (.s 0)⟩, VO 2 3 (.mov (I6 0))]) (.ret))))), [.cell true 2 1, .t 2]⟩
noncomputable def t_73 : List (Nat × Ctr) := [(20, c_20), (49, c_72)]
theorem lk_73_20 : look t_73 20 = some c_20 := rfl
theorem lk_73_49 : look t_73 49 = some c_72 := rfl
noncomputable def c_73 : Ctr := mkN t_73 ir16 [.bor]
theorem s_73 : Sound Try.prog 16 c_73 := mkN_sound _ (snd_cons s_20 (snd_cons s_72 snd_nil)) (by kernel_rfl : chkFn Try.prog 16 ir16 ir16_v = true)
theorem M_73 : c_73.modes = [.bor] := rfl
theorem Fl_73 : c_73.flat = false := rfl
attribute [go_sem] M_73 Fl_73
attribute [go_sem] lk_73_20 lk_73_49
def E_73_l1 (t2 : Fraction) (t18 : List Request) (t19 : Int) : (Int × Int × Int) → St
 | (done, wanted, t20) => ⟨[.any, .ref 3200000 0 0, .any, .int .i64 done, .int .i64 wanted, .any, .sl 6 (List.map Request_av t18), .int .i64 t19, .int .i64 t20, .any], [], [(3200000, ⟨2, [Fraction_av t2]⟩)], true⟩
def R_73_l1 (t2 : Fraction) (t18 : List Request) (t19 : Int) (y : Int × Int) : Res := (.exit 1, ⟨[.any, .ref 3200000 0 0, .any, .int .i64 y.1, .int .i64 y.2, .any, .any, .any, .any, .any], [], [(3200000, ⟨2, [Fraction_av t2]⟩)], true⟩)
theorem impl_ServedShare_l1_ex {t2 : Fraction} {t18 : List Request} {t19 : Int} {sgm_ : Int × Int × Int} {rho_ : Int × Int} (h : whileE (impl_ServedShare_l1 t2 t18 t19) sgm_ = some rho_) : ∃ L0, ∀ L, L0 ≤ L → iter (exec (look t_73) L ir16_b0) ir16_k0 ir16_o0 ir16_r0 L (E_73_l1 t2 t18 t19 sgm_) = R_73_l1 t2 t18 t19 rho_ := by
 refine loop_ex (E := E_73_l1 t2 t18 t19) (R := R_73_l1 t2 t18 t19) (fun y => by first | (intro c; cases c) | (rcases y with y | y <;> (intro c; cases c)) | (rcases y with y | y | y <;> (intro c; cases c))) ?_ h
 clear h
 rintro ⟨done, wanted, t20⟩ o_ h
 dsimp only [impl_ServedShare_l1] at h
 rcases it_some h with ⟨z4, h⟩ | ⟨z4, h⟩
 ·try simp only [go_sem, n1, n2, n3, n4] at z4
  all_goals
  obtain ⟨z5, h⟩ := ck_some h
  have lz5 := ix_lt z5
  have xz5 := getD_mapD Request_av t18 lz5
  try simp only [go_sem] at lz5
  try simp only [go_sem] at xz5
  try simp only [go_sem, n1, n2, n3, n4, z4] at z5
  all_goals
  obtain rfl := so_some h
  refine ⟨0, fun L hL => ?_⟩
  simp only [go_sem, ir16, E_73_l1, R_73_l1, ir16_b0, ir16_k0, ir16_o0, ir16_r0, z4, z5, lz5, xz5]
 ·try simp only [go_sem, n1, n2, n3, n4] at z4
  all_goals
  obtain rfl := so_some h
  refine ⟨0, fun L hL => ?_⟩
  simp only [go_sem, ir16, E_73_l1, R_73_l1, ir16_b0, ir16_k0, ir16_o0, ir16_r0, z4]

theorem Fs_73 {list : List Request} {y_ : Fraction × Int} (h : impl_ServedShare list = some y_) : c_73.F [.sl 6 (List.map Request_av list)] = ⟨true, .tup [Fraction_av y_.1, .int .i64 y_.2], [.any]⟩ := by
 refine mkN_E ?_
 dsimp only [impl_ServedShare] at h
 obtain ⟨y_1, z1, h⟩ := bd_some h
 have fz1 := Fs_20 z1
 try simp only [go_sem] at fz1
 rcases it_some h with ⟨z2, h⟩ | ⟨z2, h⟩
 ·try simp only [go_sem, n1, n2, n3, n4] at z2
  all_goals
  obtain rfl := so_some h
  refine ⟨0, fun L hL => ?_⟩
  simp only [go_sem, ir16, E_73_l1, R_73_l1, ir16_k0, ir16_o0, ir16_r0, fz1, z2]
 ·try simp only [go_sem, n1, n2, n3, n4] at z2
  all_goals
  rcases it_some h with ⟨z3, h⟩ | ⟨z3, h⟩
  ·try simp only [go_sem, n1, n2, n3, n4, z2] at z3
   all_goals
   obtain rfl := so_some h
   refine ⟨0, fun L hL => ?_⟩
   simp only [go_sem, ir16, E_73_l1, R_73_l1, ir16_k0, ir16_o0, ir16_r0, fz1, z2, z3]
  ·try simp only [go_sem, n1, n2, n3, n4, z2] at z3
   all_goals
   obtain ⟨y_6, z6, h⟩ := bd_some h
   obtain ⟨Lz6, ez6⟩ := impl_ServedShare_l1_ex z6
   obtain ⟨y_7, z7, h⟩ := bd_some h
   have fz7 := Fs_72 z7
   try simp only [go_sem, z2, z3] at fz7
   obtain rfl := so_some h
   refine ⟨Lz6, fun L hL => ?_⟩
   have ez6 := ez6 L (by omega)
   try simp only [go_sem, E_73_l1, R_73_l1, ir16_k0, ir16_o0, ir16_r0, z2, z3] at ez6
   simp only [go_sem, ir16, E_73_l1, R_73_l1, ir16_k0, ir16_o0, ir16_r0, fz1, z2, z3, fz7, ez6]


def ir88_v : List Nat := [0, 2]
def ir88 : AFn := ⟨1, 2, .seq (.region false [ VO 1 2 (.mov (I6 0))]) (.seq (.test false [ PM 3 0, PO 4 (.bin false .lss (.s 0) (I6 0))] (.s 0) (.seq (.region false [ PM 5 0, PO 6 (.un .neg (.s 0)), VS 1 2 0]) (.ret)) (.skip)) (.seq (.region false [ PM 7 0, VS 1 2 0]) (.ret))), [.t 1]⟩
noncomputable def t_74 : List (Nat × Ctr) := []
noncomputable def c_74 : Ctr := mkF t_74 ir88 [.bor]
theorem s_74 : Sound Try.prog 88 c_74 := mkF_sound _ rfl snd_nil (by kernel_rfl : chkFn Try.prog 88 ir88 ir88_v = true)
theorem M_74 : c_74.modes = [.bor] := rfl
theorem Fl_74 : c_74.flat = true := rfl
attribute [go_sem] M_74 Fl_74
theorem Fs_74 {n : Int} {y_ : Int} (h : spec_l02Size n = some y_) : c_74.F [.int .i64 n] = ⟨true, .int .i64 y_, [.any]⟩ := by
 refine mkF_E rfl ?_
 dsimp only [spec_l02Size] at h
 rcases it_some h with ⟨z1, h⟩ | ⟨z1, h⟩
 ·try simp only [go_sem, n1, n2, n3, n4] at z1
  all_goals
  obtain rfl := so_some h
  refine ⟨0, fun L hL => ?_⟩
  simp only [go_sem, ir88, z1]
 ·try simp only [go_sem, n1, n2, n3, n4] at z1
  all_goals
  obtain rfl := so_some h
  refine ⟨0, fun L hL => ?_⟩
  simp only [go_sem, ir88, z1]


def ir87_b0 : IR := .seq (.test false [ PM 6 1, PO 7 (.bin false .neq (.s 0) (I6 0))] (.s 0) (.skip) (.exit 0)) (.block 1 (.seq (.region false [ PM 8 0, PM 9 1, PO 10 (.bin false .rem (.s 1) (.s 0)), VS 3 5 0]) (.seq (.region false [ PM 11 1, VS 0 0 0]) (.region false [ PM 12 3, VS 1 1 0]))))
def ir87_k0 : List Bool := [true, true, false, false]
def ir87_o0 : List Bool := [true, false, false, false]
def ir87_r0 : List Bool := [false, false, true, false]
def ir87_v : List Nat := [0, 1, 4, 5]
def ir87 : AFn := ⟨2, 4, .seq (.region false [ VO 2 4 (.mov (I6 0))]) (.seq (.block 0 (.loop ir87_k0 ir87_o0 ir87_r0 ir87_b0)) (.seq (.region false [ PM 13 0, VS 2 4 0]) (.ret))), [.t 2]⟩
noncomputable def t_75 : List (Nat × Ctr) := []
noncomputable def c_75 : Ctr := mkF t_75 ir87 [.bor, .bor]
theorem s_75 : Sound Try.prog 87 c_75 := mkF_sound _ rfl snd_nil (by kernel_rfl : chkFn Try.prog 87 ir87 ir87_v = true)
theorem M_75 : c_75.modes = [.bor, .bor] := rfl
theorem Fl_75 : c_75.flat = true := rfl
attribute [go_sem] M_75 Fl_75
def E_75_l1  : (Int × Int) → St
 | (a, b) => ⟨[.int .i64 a, .int .i64 b, .any, .any], [], [], true⟩
def R_75_l1  (y : Int) : Res := (.exit 0, ⟨[.int .i64 y, .any, .any, .any], [], [], true⟩)
theorem spec_l02Gcd_l1_ex  {sgm_ : Int × Int} {rho_ : Int} (h : whileE (spec_l02Gcd_l1) sgm_ = some rho_) : ∃ L0, ∀ L, L0 ≤ L → iter (exec (look t_75) L ir87_b0) ir87_k0 ir87_o0 ir87_r0 L (E_75_l1 sgm_) = R_75_l1 rho_ := by
 refine loop_ex (E := E_75_l1) (R := R_75_l1) (fun y => by first | (intro c; cases c) | (rcases y with y | y <;> (intro c; cases c)) | (rcases y with y | y | y <;> (intro c; cases c))) ?_ h
 clear h
 rintro ⟨a, b⟩ o_ h
 dsimp only [spec_l02Gcd_l1] at h
 rcases it_some h with ⟨z1, h⟩ | ⟨z1, h⟩
 ·try simp only [go_sem, n1, n2, n3, n4] at z1
  all_goals
  obtain ⟨z2, h⟩ := ck_some h
  try simp only [go_sem, n1, n2, n3, n4, z1] at z2
  all_goals
  obtain rfl := so_some h
  refine ⟨0, fun L hL => ?_⟩
  simp only [go_sem, ir87, E_75_l1, R_75_l1, ir87_b0, ir87_k0, ir87_o0, ir87_r0, z1, z2]
 ·try simp only [go_sem, n1, n2, n3, n4] at z1
  all_goals
  obtain rfl := so_some h
  refine ⟨0, fun L hL => ?_⟩
  simp only [go_sem, ir87, E_75_l1, R_75_l1, ir87_b0, ir87_k0, ir87_o0, ir87_r0, z1]

theorem Fs_75 {a : Int} {b : Int} {y_ : Int} (h : spec_l02Gcd a b = some y_) : c_75.F [.int .i64 a, .int .i64 b] = ⟨true, .int .i64 y_, [.any, .any]⟩ := by
 refine mkF_E rfl ?_
 dsimp only [spec_l02Gcd] at h
 obtain ⟨y_3, z3, h⟩ := bd_some h
 obtain ⟨Lz3, ez3⟩ := spec_l02Gcd_l1_ex z3
 obtain rfl := so_some h
 refine ⟨Lz3, fun L hL => ?_⟩
 have ez3 := ez3 L (by omega)
 try simp only [go_sem, E_75_l1, R_75_l1, ir87_k0, ir87_o0, ir87_r0] at ez3
 simp only [go_sem, ir87, E_75_l1, R_75_l1, ir87_k0, ir87_o0, ir87_r0, ez3]


def ir50_v : List Nat := [0, 1, 4, 5]
def ir50 : AFn := ⟨2, 4, .seq (.region false [ VO 2 4 (.alloc (.agg [.int .i64 (0), .int .i64 (0)]))]) (.seq (.region false [ PM 6 0, PO 7 (.call 88 [(.s 0)]), PM 8 1, PO 9 (.call 87 [(.s 1), (.s 0)]), VS 3 5 0]) (.seq (.anyo 7 [ SO 0 10 (.mov (.v 0)), SO 1 11 (.mov (.v 3)), SO 2 12 (.bin false .quo (.s 0) (.s 1)), SO 3 13 (.mov (.v 1)), SO 4 14 (.mov (.v 3)), SO 5 15 (.bin false .quo (.s 3) (.s 4)), SO 6 16 (.pur (.build [.int .i64 (0), .int .i64 (0)] [(0, 1, (.s 2)), (1, 1, (.s 5))])), ⟨.no, 0, none, .store 2 (.v 2) (.s 6)⟩] [] .skip) (.ret))), [.cell true 2 2]⟩
noncomputable def t_76 : List (Nat × Ctr) := [(88, c_74), (87, c_75)]
theorem lk_76_88 : look t_76 88 = some c_74 := rfl
theorem lk_76_87 : look t_76 87 = some c_75 := rfl
noncomputable def c_76 : Ctr := mkN t_76 ir50 [.bor, .bor]
theorem s_76 : Sound Try.prog 50 c_76 := mkN_sound _ (snd_cons s_74 (snd_cons s_75 snd_nil)) (by kernel_rfl : chkFn Try.prog 50 ir50 ir50_v = true)
theorem M_76 : c_76.modes = [.bor, .bor] := rfl
theorem Fl_76 : c_76.flat = false := rfl
attribute [go_sem] M_76 Fl_76
attribute [go_sem] lk_76_88 lk_76_87
theorem Fs_76 {num : Int} {den : Int} {y_ : Fraction} (h : spec_l02Make num den = some y_) : c_76.F [.int .i64 num, .int .i64 den] = ⟨true, Fraction_av y_, [.any, .any]⟩ := by
 refine mkN_E ?_
 dsimp only [spec_l02Make] at h
 obtain ⟨y_1, z1, h⟩ := bd_some h
 have fz1 := Fs_74 z1
 try simp only [go_sem] at fz1
 obtain ⟨y_2, z2, h⟩ := bd_some h
 have fz2 := Fs_75 z2
 try simp only [go_sem] at fz2
 obtain ⟨z3, h⟩ := ck_some h
 try simp only [go_sem, n1, n2, n3, n4] at z3
 all_goals
 obtain rfl := so_some h
 refine ⟨0, fun L hL => ?_⟩
 simp only [go_sem, ir50, fz1, fz2, z3]


def ir17_b0 : IR := .seq (.test false [ PM 15 5, PM 16 0, PO 17 (.len false (.s 0)), PO 18 (.bin false .lss (.s 2) (.s 0))] (.s 0) (.skip) (.exit 0)) (.seq (.block 1 (.seq (.region false [ PM 21 3, PM 22 0, PM 23 5, PO 24 (.ixAddr 6 (.s 1) (.s 0)), PO 25 (.fldAddr 4 (.s 0)), PO 26 (.load false 1 (.s 0)), PO 27 (.bin false .add (.s 5) (.s 0)), VS 3 4 0]) (.region false [ PM 28 4, PM 29 0, PM 30 5, PO 31 (.ixAddr 6 (.s 1) (.s 0)), PO 32 (.fldAddr 3 (.s 0)), PO 33 (.load false 1 (.s 0)), PO 34 (.bin false .add (.s 5) (.s 0)), VS 4 5 0]))) (.region false [ PM 19 5, PO 20 (.bin false .add (.s 0) (I6
 1)), VS 5 6 0]))
def ir17_k0 : List Bool := [true, true, false, true, true, true]
def ir17_o0 : List Bool := [false, true, false, true, true, false]
def ir17_r0 : List Bool := [false, true, true, false, false, false]
def ir17_v : List Nat := [0, 2, 3, 4, 5, 6]
def ir17 : AFn := ⟨1, 6, .seq (.region false [ VO 1 2 (.alloc (.agg [.int .i64 (0), .int .i64 (0)])), VO 2 3 (.mov (I6 0))]) (.seq (.test false [ PM 7 0, PO 8 (.call 43 [(.s 0)]), PO 9 (.un .not (.s 0))] (.s 0) (.seq (.region false [ PO 10 (.build [.int .i64 (0), .int .i64 (0)] []), ⟨.no, 0, none, .store 2 (.v 1) (.s 0)⟩, VO 2 3 (.mov (I6 1))]) (.ret)) (.skip)) (.seq (.test false [ PM 11 0, PO 12 (.len false (.s 0)), PO 13 (.bin false .eql (.s 0) (I6 0))] (.s 0) (.seq (.region false [ PO 14 (.build [.int .i64 (0), .int .i64 (0)] []), ⟨.no, 0, none, .store 2 (.v 1) (.s 0)⟩, VO 2 3 (.mov (I6
 3))]) (.ret)) (.skip)) (.seq (.region false [ VO 3 4 (.mov (I6 0))]) (.seq (.region false [ VO 4 5 (.mov (I6 0))]) (.seq (.seq (.region false [ VO 5 6 (.mov (I6 0))]) (.block 0 (.loop ir17_k0 ir17_o0 ir17_r0 ir17_b0))) (.seq (.region false [ PM 35 3, PM 36 4, PO 37 (.call 50 [(.s 1), (.s 0)]), ⟨.no, 0, none, .store 2 (.v 1) (.s 0)⟩, VO 2 3 (.mov (I6 0))]) (.ret))))))), [.cell true 2 1, .t 2]⟩
noncomputable def t_77 : List (Nat × Ctr) := [(43, c_31), (50, c_76)]
theorem lk_77_43 : look t_77 43 = some c_31 := rfl
theorem lk_77_50 : look t_77 50 = some c_76 := rfl
noncomputable def c_77 : Ctr := mkN t_77 ir17 [.bor]
theorem s_77 : Sound Try.prog 17 c_77 := mkN_sound _ (snd_cons s_31 (snd_cons s_76 snd_nil)) (by kernel_rfl : chkFn Try.prog 17 ir17 ir17_v = true)
theorem M_77 : c_77.modes = [.bor] := rfl
theorem Fl_77 : c_77.flat = false := rfl
attribute [go_sem] M_77 Fl_77
attribute [go_sem] lk_77_43 lk_77_50
def E_77_l1 (list : List Request) (t2 : Fraction) : (Int × Int × Int) → St
 | (done, wanted, i) => ⟨[.sl 6 (List.map Request_av list), .ref 3200000 0 0, .any, .int .i64 done, .int .i64 wanted, .int .i64 i], [], [(3200000, ⟨2, [Fraction_av t2]⟩)], true⟩
def R_77_l1 (list : List Request) (t2 : Fraction) (y : Int × Int) : Res := (.exit 0, ⟨[.any, .ref 3200000 0 0, .any, .int .i64 y.1, .int .i64 y.2, .any], [], [(3200000, ⟨2, [Fraction_av t2]⟩)], true⟩)
theorem spec_ServedShare_l1_ex {list : List Request} {t2 : Fraction} {sgm_ : Int × Int × Int} {rho_ : Int × Int} (h : whileE (spec_ServedShare_l1 list t2) sgm_ = some rho_) : ∃ L0, ∀ L, L0 ≤ L → iter (exec (look t_77) L ir17_b0) ir17_k0 ir17_o0 ir17_r0 L (E_77_l1 list t2 sgm_) = R_77_l1 list t2 rho_ := by
 refine loop_ex (E := E_77_l1 list t2) (R := R_77_l1 list t2) (fun y => by first | (intro c; cases c) | (rcases y with y | y <;> (intro c; cases c)) | (rcases y with y | y | y <;> (intro c; cases c))) ?_ h
 clear h
 rintro ⟨done, wanted, i⟩ o_ h
 dsimp only [spec_ServedShare_l1] at h
 rcases it_some h with ⟨z4, h⟩ | ⟨z4, h⟩
 ·try simp only [go_sem, n1, n2, n3, n4] at z4
  all_goals
  obtain ⟨z5, h⟩ := ck_some h
  have lz5 := ix_lt z5
  have xz5 := getD_mapD Request_av list lz5
  try simp only [go_sem] at lz5
  try simp only [go_sem] at xz5
  try simp only [go_sem, n1, n2, n3, n4, z4] at z5
  all_goals
  obtain rfl := so_some h
  refine ⟨0, fun L hL => ?_⟩
  simp only [go_sem, ir17, E_77_l1, R_77_l1, ir17_b0, ir17_k0, ir17_o0, ir17_r0, z4, z5, lz5, xz5]
 ·try simp only [go_sem, n1, n2, n3, n4] at z4
  all_goals
  obtain rfl := so_some h
  refine ⟨0, fun L hL => ?_⟩
  simp only [go_sem, ir17, E_77_l1, R_77_l1, ir17_b0, ir17_k0, ir17_o0, ir17_r0, z4]

theorem Fs_77 {list : List Request} {y_ : Fraction × Int} (h : spec_ServedShare list = some y_) : c_77.F [.sl 6 (List.map Request_av list)] = ⟨true, .tup [Fraction_av y_.1, .int .i64 y_.2], [.any]⟩ := by
 refine mkN_E ?_
 dsimp only [spec_ServedShare] at h
 obtain ⟨y_1, z1, h⟩ := bd_some h
 have fz1 := Fs_31 z1
 try simp only [go_sem] at fz1
 rcases it_some h with ⟨z2, h⟩ | ⟨z2, h⟩
 ·try simp only [go_sem, n1, n2, n3, n4] at z2
  all_goals
  obtain rfl := so_some h
  refine ⟨0, fun L hL => ?_⟩
  simp only [go_sem, ir17, E_77_l1, R_77_l1, ir17_k0, ir17_o0, ir17_r0, fz1, z2]
 ·try simp only [go_sem, n1, n2, n3, n4] at z2
  all_goals
  rcases it_some h with ⟨z3, h⟩ | ⟨z3, h⟩
  ·try simp only [go_sem, n1, n2, n3, n4, z2] at z3
   all_goals
   obtain rfl := so_some h
   refine ⟨0, fun L hL => ?_⟩
   simp only [go_sem, ir17, E_77_l1, R_77_l1, ir17_k0, ir17_o0, ir17_r0, fz1, z2, z3]
  ·try simp only [go_sem, n1, n2, n3, n4, z2] at z3
   all_goals
   obtain ⟨y_6, z6, h⟩ := bd_some h
   obtain ⟨Lz6, ez6⟩ := spec_ServedShare_l1_ex z6
   obtain ⟨y_7, z7, h⟩ := bd_some h
   have fz7 := Fs_76 z7
   try simp only [go_sem, z2, z3] at fz7
   obtain rfl := so_some h
   refine ⟨Lz6, fun L hL => ?_⟩
   have ez6 := ez6 L (by omega)
   try simp only [go_sem, E_77_l1, R_77_l1, ir17_k0, ir17_o0, ir17_r0, z2, z3] at ez6
   simp only [go_sem, ir17, E_77_l1, R_77_l1, ir17_k0, ir17_o0, ir17_r0, fz1, z2, z3, fz7, ez6]


def ir18_b0 : IR := .seq (.test false [ PM 11 3, PM 12 0, PO 13 (.len false (.s 0)), PO 14 (.bin false .lss (.s 2) (.s 0))] (.s 0) (.skip) (.exit 0)) (.seq (.block 1 (.anyo 9 [ SO 0 17 (.mov (.v 0)), SO 1 18 (.mov (.v 3)), SO 2 19 (.ixAddr 6 (.s 0) (.s 1)), SO 3 20 (.load true 6 (.s 2)), SO 4 21 (.mov (.v 1)), SO 5 22 (.mov (.v 3)), SO 6 23 (.ixAddr 6 (.s 4) (.s 5)), SO 7 24 (.load true 6 (.s 6)), SO 8 25 (.eqA true [2, 1, 1, 1, 1, 1] (.s 3) (.s 7))] [] (.cond (.s 8) (.seq (.region false [ VO 2 4 (.mov (.c (.bool false)))]) (.ret)) (.skip)))) (.region false [ PM 15 3, PO 16 (.bin false .add (.s
 0) (I6 1)), VS 3 5 0]))
def ir18_k0 : List Bool := [true, true, false, true]
def ir18_o0 : List Bool := [false, false, false, false]
def ir18_r0 : List Bool := [false, false, true, false]
def ir18_v : List Nat := [0, 1, 4, 5]
def ir18 : AFn := ⟨2, 4, .seq (.region false [ VO 2 4 (.mov (.c (.bool false)))]) (.seq (.test false [ PM 6 0, PO 7 (.len false (.s 0)), PM 8 1, PO 9 (.len false (.s 0)), PO 10 (.bin false .neq (.s 2) (.s 0))] (.s 0) (.seq (.region false [ VO 2 4 (.mov (.c (.bool false)))]) (.ret)) (.skip)) (.seq (.seq (.region false [ VO 3 5 (.mov (I6 0))]) (.block 0 (.loop ir18_k0 ir18_o0 ir18_r0 ir18_b0))) (.seq (.region false [ VO 2 4 (.mov (.c (.bool true)))]) (.ret)))), [.t 2]⟩
noncomputable def t_78 : List (Nat × Ctr) := []
noncomputable def c_78 : Ctr := mkF t_78 ir18 [.bor, .bor]
theorem s_78 : Sound Try.prog 18 c_78 := mkF_sound _ rfl snd_nil (by kernel_rfl : chkFn Try.prog 18 ir18 ir18_v = true)
theorem M_78 : c_78.modes = [.bor, .bor] := rfl
theorem Fl_78 : c_78.flat = true := rfl
attribute [go_sem] M_78 Fl_78
def E_78_l1 (a : List Request) (b : List Request) : Int → St
 | i => ⟨[.sl 6 (List.map Request_av a), .sl 6 (List.map Request_av b), .any, .int .i64 i], [], [], true⟩
def R_78_l1 (a : List Request) (b : List Request) : (Unit ⊕ Bool) → Res
 | .inl y => (.exit 0, ⟨[.any, .any, .any, .any], [], [], true⟩)
 | .inr y => (.ret, ⟨[.any, .any, .bool y, .any], [], [], true⟩)
theorem spec_SameRequests_l1_ex {a : List Request} {b : List Request} {sgm_ : Int} {rho_ : Unit ⊕ Bool} (h : whileE (spec_SameRequests_l1 a b) sgm_ = some rho_) : ∃ L0, ∀ L, L0 ≤ L → iter (exec (look t_78) L ir18_b0) ir18_k0 ir18_o0 ir18_r0 L (E_78_l1 a b sgm_) = R_78_l1 a b rho_ := by
 refine loop_ex (E := E_78_l1 a b) (R := R_78_l1 a b) (fun y => by first | (intro c; cases c) | (rcases y with y | y <;> (intro c; cases c)) | (rcases y with y | y | y <;> (intro c; cases c))) ?_ h
 clear h
 intro i o_ h
 dsimp only [spec_SameRequests_l1] at h
 rcases it_some h with ⟨z2, h⟩ | ⟨z2, h⟩
 ·try simp only [go_sem, n1, n2, n3, n4] at z2
  all_goals
  obtain ⟨z3, h⟩ := ck_some h
  have lz3 := ix_lt z3
  have xz3 := getD_mapD Request_av a lz3
  try simp only [go_sem] at lz3
  try simp only [go_sem] at xz3
  try simp only [go_sem, n1, n2, n3, n4, z2] at z3
  all_goals
  obtain ⟨z4, h⟩ := ck_some h
  have lz4 := ix_lt z4
  have xz4 := getD_mapD Request_av b lz4
  try simp only [go_sem] at lz4
  try simp only [go_sem] at xz4
  try simp only [go_sem, n1, n2, n3, n4, z2, z3] at z4
  all_goals
  rcases it_some h with ⟨z5, h⟩ | ⟨z5, h⟩
  ·try simp only [go_sem, n1, n2, n3, n4, z2, z3, z4] at z5
   all_goals
   obtain rfl := so_some h
   refine ⟨0, fun L hL => ?_⟩
   simp only [go_sem, ir18, E_78_l1, R_78_l1, ir18_b0, ir18_k0, ir18_o0, ir18_r0, z2, z3, lz3, xz3, z4, lz4, xz4, z5]
  ·try simp only [go_sem, n1, n2, n3, n4, z2, z3, z4] at z5
   all_goals
   obtain rfl := so_some h
   refine ⟨0, fun L hL => ?_⟩
   simp only [go_sem, ir18, E_78_l1, R_78_l1, ir18_b0, ir18_k0, ir18_o0, ir18_r0, z2, z3, lz3, xz3, z4, lz4, xz4, z5]
 ·try simp only [go_sem, n1, n2, n3, n4] at z2
  all_goals
  obtain rfl := so_some h
  refine ⟨0, fun L hL => ?_⟩
  simp only [go_sem, ir18, E_78_l1, R_78_l1, ir18_b0, ir18_k0, ir18_o0, ir18_r0, z2]

theorem Fs_78 {a : List Request} {b : List Request} {y_ : Bool} (h : spec_SameRequests a b = some y_) : c_78.F [.sl 6 (List.map Request_av a), .sl 6 (List.map Request_av b)] = ⟨true, .bool y_, [.any, .any]⟩ := by
 refine mkF_E rfl ?_
 dsimp only [spec_SameRequests] at h
 rcases it_some h with ⟨z1, h⟩ | ⟨z1, h⟩
 ·try simp only [go_sem, n1, n2, n3, n4] at z1
  all_goals
  obtain rfl := so_some h
  refine ⟨0, fun L hL => ?_⟩
  simp only [go_sem, ir18, E_78_l1, R_78_l1, ir18_k0, ir18_o0, ir18_r0, z1]
 ·try simp only [go_sem, n1, n2, n3, n4] at z1
  all_goals
  obtain ⟨y_6, z6, h⟩ := bd_some h
  obtain ⟨Lz6, ez6⟩ := spec_SameRequests_l1_ex z6
  rcases y_6 with y_6a | y_6b
  ·dsimp only at h
   obtain rfl := so_some h
   refine ⟨Lz6, fun L hL => ?_⟩
   have ez6 := ez6 L (by omega)
   try simp only [go_sem, E_78_l1, R_78_l1, ir18_k0, ir18_o0, ir18_r0, z1] at ez6
   simp only [go_sem, ir18, E_78_l1, R_78_l1, ir18_k0, ir18_o0, ir18_r0, z1, ez6]
  ·dsimp only at h
   obtain rfl := so_some h
   refine ⟨Lz6, fun L hL => ?_⟩
   have ez6 := ez6 L (by omega)
   try simp only [go_sem, E_78_l1, R_78_l1, ir18_k0, ir18_o0, ir18_r0, z1] at ez6
   simp only [go_sem, ir18, E_78_l1, R_78_l1, ir18_k0, ir18_o0, ir18_r0, z1, ez6]


def ir52_v : List Nat := [0, 1, 2, 4]
def ir52 : AFn := ⟨3, 4, .seq (.region false [ VO 3 4 (.mov (.c (.bool false)))]) (.seq (.anyo 6 [ SO 0 5 (.load false 1 (.v 1)), SO 1 6 (.mov (.v 0)), SO 2 7 (.ixAddr 6 (.s 0) (.s 1)), SO 3 8 (.load true 6 (.s 2)), SO 4 9 (.load false 1 (.v 2)), SO 5 10 (.callp 53 [(.s 3), (.s 4)]), VS 3 4 5] [] .skip) (.ret)), [.t 3]⟩
noncomputable def t_79 : List (Nat × Ctr) := [(53, c_22)]
theorem lk_79_53 : look t_79 53 = some c_22 := rfl
noncomputable def c_79 : Ctr := mkF t_79 ir52 [.bor, .bor, .bor]
theorem s_79 : Sound Try.prog 52 c_79 := mkF_sound _ rfl (snd_cons s_22 snd_nil) (by kernel_rfl : chkFn Try.prog 52 ir52 ir52_v = true)
theorem M_79 : c_79.modes = [.bor, .bor, .bor] := rfl
theorem Fl_79 : c_79.flat = true := rfl
attribute [go_sem] M_79 Fl_79
attribute [go_sem] lk_79_53
theorem Fs_79 {i : Int} {t1 : List Request} {t2 : Int} {y_ : Bool} (h : impl_OpenRequests_c1 i t1 t2 = some y_) : c_79.F [.int .i64 i, .ptr 1 [.sl 6 (List.map Request_av t1)] 0 0, .ptr 1 [.int .i64 t2] 0 0] = ⟨true, .bool y_, [.any, .any, .any]⟩ := by
 refine mkF_E rfl ?_
 dsimp only [impl_OpenRequests_c1] at h
 obtain ⟨z1, h⟩ := ck_some h
 have lz1 := ix_lt z1
 have xz1 := getD_mapD Request_av t1 lz1
 try simp only [go_sem] at lz1
 try simp only [go_sem] at xz1
 try simp only [go_sem, n1, n2, n3, n4] at z1
 all_goals
 obtain ⟨y_2, z2, h⟩ := bd_some h
 have fz2 := Fs_22 z2
 try simp only [go_sem, z1] at fz2
 obtain rfl := so_some h
 refine ⟨0, fun L hL => ?_⟩
 simp only [go_sem, ir52, z1, lz1, xz1, fz2]


def ir51_b0 : IR := .seq (.region false [ VO 7 10 (.bin false .lss (.v 6) (.v 5))]) (.seq (.cond (.v 7) (.skip) (.exit 0)) (.seq (.block 1 (.seq (.region false [ PM 11 6, VS 4 6 0]) (.test false [ PM 12 1, PM 13 4, PO 14 (.callv (.s 1) [(.s 0)])] (.s 0) (.region false [ PM 15 3, PM 16 4, PO 17 (.mkSl 1 (.int .i64 (0)) 1 [(0, (.s 0))]), PO 18 (.app 1 8 (.int .i64 (0)) (.s 2) (.s 0)), VS 3 5 0]) (.skip)))) (.region false [ PO 19 (.bin false .add (.v 6) (I6 1)), VS 6 9 0])))
def ir51_k0 : List Bool := [false, true, false, true, false, true, true, false]
def ir51_o0 : List Bool := [false, false, false, true, false, false, false, false]
def ir51_r0 : List Bool := [false, false, true, false, false, false, false, false]
def ir51_v : List Nat := [0, 1, 4, 5, 6, 8, 9, 10]
def ir51 : AFn := ⟨2, 8, .seq (.region false [ VO 2 4 (.newnil 1)]) (.seq (.region false [ PO 7 (.mkSl 1 (.int .i64 (0)) 0 []), VS 3 5 0]) (.seq (.seq (.region false [ VO 5 8 (.mov (.v 0)), VO 6 9 (.mov (I6 0))]) (.block 0 (.loop ir51_k0 ir51_o0 ir51_r0 ir51_b0))) (.seq (.region false [ PM 20 3, VS 2 4 0]) (.ret)))), [.t 2]⟩
noncomputable def t_80 : List (Nat × Ctr) := [(52, c_79)]
theorem lk_80_52 : look t_80 52 = some c_79 := rfl
noncomputable def c_80 : Ctr := mkF t_80 ir51 [.bor, .bor]
theorem s_80 : Sound Try.prog 51 c_80 := mkF_sound _ rfl (snd_cons s_79 snd_nil) (by kernel_rfl : chkFn Try.prog 51 ir51 ir51_v = true)
theorem M_80 : c_80.modes = [.bor, .bor] := rfl
theorem Fl_80 : c_80.flat = true := rfl
attribute [go_sem] M_80 Fl_80
attribute [go_sem] lk_80_52
def E_80_l1 (c : List Request) (c2 : Int) (t8 : Int) : ((List Int) × Int) → St
 | (out, t9) => ⟨[.any, .fn (.func 52) [] [.ptr 1 [.sl 6 (List.map Request_av c)] 0 0, .ptr 1 [.int .i64 c2] 0 0], .any, .own 3200000, .any, .int .i64 t8, .int .i64 t9, .any], [], [(3200000, ⟨1, List.map (AV.int .i64) out⟩)], true⟩
def R_80_l1 (c : List Request) (c2 : Int) (t8 : Int) (y : (List Int)) : Res := (.exit 0, ⟨[.any, .any, .any, .own 3200000, .any, .any, .any, .any], [], [(3200000, ⟨1, List.map (AV.int .i64) y⟩)], true⟩)
theorem impl_indicesWhere__impl_OpenRequests_c1_l1_ex {c : List Request} {c2 : Int} {t8 : Int} {sgm_ : (List Int) × Int} {rho_ : (List Int)} (h : whileE (impl_indicesWhere__impl_OpenRequests_c1_l1 c c2 t8) sgm_ = some rho_) : ∃ L0, ∀ L, L0 ≤ L → iter (exec (look t_80) L ir51_b0) ir51_k0 ir51_o0 ir51_r0 L (E_80_l1 c c2 t8 sgm_) = R_80_l1 c c2 t8 rho_ := by
 refine loop_ex (E := E_80_l1 c c2 t8) (R := R_80_l1 c c2 t8) (fun y => by first | (intro c; cases c) | (rcases y with y | y <;> (intro c; cases c)) | (rcases y with y | y | y <;> (intro c; cases c))) ?_ h
 clear h
 rintro ⟨out, t9⟩ o_ h
 dsimp only [impl_indicesWhere__impl_OpenRequests_c1_l1] at h
 rcases it_some h with ⟨z1, h⟩ | ⟨z1, h⟩
 ·try simp only [go_sem, n1, n2, n3, n4] at z1
  all_goals
  obtain ⟨y_2, z2, h⟩ := bd_some h
  have fz2 := Fs_79 z2
  try simp only [go_sem, z1] at fz2
  rcases it_some h with ⟨z3, h⟩ | ⟨z3, h⟩
  ·try simp only [go_sem, n1, n2, n3, n4, z1] at z3
   all_goals
   obtain ⟨z4, h⟩ := ck_some h
   try simp only [go_sem, n1, n2, n3, n4, z1, z3] at z4
   all_goals
   obtain rfl := so_some h
   refine ⟨0, fun L hL => ?_⟩
   simp only [go_sem, ir51, E_80_l1, R_80_l1, ir51_b0, ir51_k0, ir51_o0, ir51_r0, z1, fz2, z3, z4]
  ·try simp only [go_sem, n1, n2, n3, n4, z1] at z3
   all_goals
   obtain rfl := so_some h
   refine ⟨0, fun L hL => ?_⟩
   simp only [go_sem, ir51, E_80_l1, R_80_l1, ir51_b0, ir51_k0, ir51_o0, ir51_r0, z1, fz2, z3]
 ·try simp only [go_sem, n1, n2, n3, n4] at z1
  all_goals
  obtain rfl := so_some h
  refine ⟨0, fun L hL => ?_⟩
  simp only [go_sem, ir51, E_80_l1, R_80_l1, ir51_b0, ir51_k0, ir51_o0, ir51_r0, z1]

theorem Fs_80 {n : Int} {wanted_c0 : List Request} {wanted_c1 : Int} {y_ : (List Int)} (h : impl_indicesWhere__impl_OpenRequests_c1 n wanted_c0 wanted_c1 = some y_) : c_80.F [.int .i64 n, .fn (.func 52) [] [.ptr 1 [.sl 6 (List.map Request_av wanted_c0)] 0 0, .ptr 1 [.int .i64 wanted_c1] 0 0]] = ⟨true, .fresh 1 (List.map (AV.int .i64) y_), [.any, .any]⟩ := by
 refine mkF_E (by simp only [flatA, flatB, flat1, List.all_cons, List.all_nil, Bool.and_self, flatE_map (f := (AV.int .i64)) (fun _ => rfl)]) ?_
 dsimp only [impl_indicesWhere__impl_OpenRequests_c1] at h
 obtain ⟨y_5, z5, h⟩ := bd_some h
 obtain ⟨Lz5, ez5⟩ := impl_indicesWhere__impl_OpenRequests_c1_l1_ex z5
 obtain rfl := so_some h
 refine ⟨Lz5, fun L hL => ?_⟩
 have ez5 := ez5 L (by omega)
 try simp only [go_sem, E_80_l1, R_80_l1, ir51_k0, ir51_o0, ir51_r0] at ez5
 simp only [go_sem, ir51, E_80_l1, R_80_l1, ir51_k0, ir51_o0, ir51_r0, ez5]


def ir19_v : List Nat := [0, 1, 2, 3, 4, 5, 6]
def ir19 : AFn := ⟨2, 7, .seq (.region false [ VO 2 2 (.box (.v 0)), VO 3 3 (.box (.v 1)), VO 4 4 (.newnil 1), VO 5 5 (.mov (I6 0))]) (.seq (.seq (.region false [ PO 7 (.load false 1 (.v 2)), PO 8 (.load false 1 (.v 3)), PO 9 (.call 46 [(.s 1), (.s 0)]), VS 6 6 0]) (.test false [ PM 10 6, PO 11 (.bin false .neq (.s 0) (I6 0))] (.s 0) (.seq (.region false [ PM 12 6, VO 4 4 (.newnil 1), VS 5 5 0]) (.ret)) (.skip))) (.seq (.region false [ PO 13 (.load false 1 (.v 2)), PO 14 (.len false (.s 0)), PO 15 (.mkFn (.func 52) [] [(.v 2), (.v 3)]), PO 16 (.call 51 [(.s 1), (.s 0)]), VS 4 4 0, VO 5 5 (.mov
 (I6 0))]) (.ret))), [.t 4, .t 5]⟩
noncomputable def t_81 : List (Nat × Ctr) := [(46, c_64), (51, c_80)]
theorem lk_81_46 : look t_81 46 = some c_64 := rfl
theorem lk_81_51 : look t_81 51 = some c_80 := rfl
noncomputable def c_81 : Ctr := mkF t_81 ir19 [.bor, .bor]
theorem s_81 : Sound Try.prog 19 c_81 := mkF_sound _ rfl (snd_cons s_64 (snd_cons s_80 snd_nil)) (by kernel_rfl : chkFn Try.prog 19 ir19 ir19_v = true)
theorem M_81 : c_81.modes = [.bor, .bor] := rfl
theorem Fl_81 : c_81.flat = true := rfl
attribute [go_sem] M_81 Fl_81
attribute [go_sem] lk_81_46 lk_81_51
theorem Fs_81 {list : List Request} {t : Int} {y_ : (List Int) × Int} (h : impl_OpenRequests list t = some y_) : c_81.F [.sl 6 (List.map Request_av list), .int .i64 t] = ⟨true, .tup [.fresh 1 (List.map (AV.int .i64) y_.1), .int .i64 y_.2], [.any, .any]⟩ := by
 refine mkF_E (by simp only [flatA, flatB, flat1, List.all_cons, List.all_nil, Bool.and_self, flatE_map (f := (AV.int .i64)) (fun _ => rfl)]) ?_
 dsimp only [impl_OpenRequests] at h
 obtain ⟨y_1, z1, h⟩ := bd_some h
 have fz1 := Fs_64 z1
 try simp only [go_sem] at fz1
 rcases it_some h with ⟨z2, h⟩ | ⟨z2, h⟩
 ·try simp only [go_sem, n1, n2, n3, n4] at z2
  all_goals
  obtain rfl := so_some h
  refine ⟨0, fun L hL => ?_⟩
  simp only [go_sem, ir19, fz1, z2]
 ·try simp only [go_sem, n1, n2, n3, n4] at z2
  all_goals
  obtain ⟨y_3, z3, h⟩ := bd_some h
  have fz3 := Fs_80 z3
  try simp only [go_sem, z2] at fz3
  obtain rfl := so_some h
  refine ⟨0, fun L hL => ?_⟩
  simp only [go_sem, ir19, fz1, z2, fz3]


end Go.Proofs.Ytibabbjpkjmdeaa
