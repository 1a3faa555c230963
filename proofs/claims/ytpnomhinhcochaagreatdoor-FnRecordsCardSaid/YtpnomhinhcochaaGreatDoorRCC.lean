/- Codes and contracts of the functions that RC reaches, and that their typed forms say what they do. No condition. -/
import Derived.Test.YtpnomhinhcochaaGreatDoorRCT
import Derived.Test.YtpnomhinhcochaaGreatDoorEngInsEstimate
import Derived.Test.YtpnomhinhcochaaGreatDoorEngSCut
import Derived.Test.YtpnomhinhcochaaGreatDoorEngSF
import Derived.Test.YtpnomhinhcochaaGreatDoorEngSJ
import Derived.Test.YtpnomhinhcochaaGreatDoorEngSRd
import Derived.Test.YtpnomhinhcochaaGreatDoorRows
import Derived.WalkKit
namespace Go.Proofs.YtpnomhinhcochaaGreatDoor
open Go Go.RowKit
set_option linter.unusedVariables false
set_option linter.unusedSimpArgs false
set_option maxRecDepth 10000

def ir4_v : List Nat := [0, 1, 4]
def ir4 : AFn := ⟨2, 3, .seq (.region false [ VO 2 4 (.mov (.c (.bool false)))]) (.seq (.region false [ PM 5 0, PO 6 (.len false (.s 0)), PO 7 (.bin false .gtr (.s 0) (I6 3000)), PO 8 (.mov (.s 0)), ⟨.push, 9, (some ((.s 0), false)), .mov (.v 1)⟩, ⟨.push, 10, (some ((.s 1), false)), .len false (.s 0)⟩, ⟨.push, 11, (some ((.s 2), false)), .bin false .gtr (.s 0) (I6 3000)⟩, PO 12 (.pick (.s 3) (.c (.bool true)) (.s 0)), VS 2 4 0]) (.ret)), [.t 2]⟩
noncomputable def t_0 : List (Nat × Ctr) := []
noncomputable def c_0 : Ctr := mkF t_0 ir4 [.bor, .bor]
theorem s_0 : Sound Tryz.prog 4 c_0 := mkF_sound _ rfl snd_nil (by kernel_rfl : chkFn Tryz.prog 4 ir4 ir4_v = true)
theorem M_0 : c_0.modes = [.bor, .bor] := rfl
theorem Fl_0 : c_0.flat = true := rfl
attribute [go_sem] M_0 Fl_0
theorem Fs_0 {code : List UInt8} {more : List UInt8} {y_ : Bool} (h : laws_a2Long code more = some y_) : c_0.F [.sl 1 (List.map byteAV code), .sl 1 (List.map byteAV more)] = ⟨true, .bool y_, [.any, .any]⟩ := by
 refine mkF_E rfl ?_
 dsimp only [laws_a2Long] at h
 obtain rfl := so_some h
 refine ⟨0, fun L hL => ?_⟩
 simp only [go_sem, ir4]


def ir16_v : List Nat := [0, 2]
def ir16 : AFn := ⟨1, 2, .seq (.region false [ VO 1 2 (.mov (.c (.cv (.pointer none))))]) (.seq (.region false [ PM 3 0, PO 4 (.build [.sl 1 [], .int .i64 (0), .int .u64 (0)] [(0, 1, (.s 0))]), PO 5 (.box (.s 0)), VS 1 2 0]) (.ret)), [.t 1]⟩
noncomputable def t_1 : List (Nat × Ctr) := []
noncomputable def c_1 : Ctr := mkN t_1 ir16 [.bor]
theorem s_1 : Sound Tryz.prog 16 c_1 := mkN_sound _ snd_nil (by kernel_rfl : chkFn Tryz.prog 16 ir16 ir16_v = true)
theorem M_1 : c_1.modes = [.bor] := rfl
theorem Fl_1 : c_1.flat = false := rfl
attribute [go_sem] M_1 Fl_1
theorem Fs_1 {code : List UInt8} {y_ : L00Src} (h : spec_l00From code = some y_) : c_1.F [.sl 1 (List.map byteAV code)] = ⟨true, .mem 3 [L00Src_av y_] 0, [.any]⟩ := by
 refine mkN_E ?_
 dsimp only [spec_l00From] at h
 obtain rfl := so_some h
 refine ⟨0, fun L hL => ?_⟩
 simp only [go_sem, ir16]


def ir59_v : List Nat := [0, 2, 3]
def ir59 : AFn := ⟨1, 3, .seq (.region false [ VO 1 2 (.mov (I6 0))]) (.seq (.region false [ VO 2 3 (.mov (I6 0))]) (.seq (.anyo 10 [ SO 0 4 (.mov (.v 0)), SO 1 5 (.nilck (.s 0)), SO 2 6 (.fldAddr 1 (.s 1)), SO 3 7 (.load false 1 (.s 2)), SO 4 8 (.mov (.v 0)), SO 5 9 (.nilck (.s 4)), SO 6 10 (.fldAddr 0 (.s 5)), SO 7 11 (.load false 1 (.s 6)), SO 8 12 (.len false (.s 7)), SO 9 13 (.bin false .lss (.s 3) (.s 8))] [] (.cond (.s 9) (.anyo 11 [ SO 0 14 (.mov (.v 0)), SO 1 15 (.nilck (.s 0)), SO 2 16 (.fldAddr 0 (.s 1)), SO 3 17 (.load false 1 (.s 2)), SO 4 18 (.mov (.v 0)), SO 5 19 (.nilck (.s 4)),
 SO 6 20 (.fldAddr 1 (.s 5)), SO 7 21 (.load false 1 (.s 6)), SO 8 22 (.ixAddr 1 (.s 3) (.s 7)), SO 9 23 (.load false 1 (.s 8)), SO 10 24 (.conv .i64 (.s 9)), VS 2 3 10] [] .skip) (.skip))) (.seq (.region false [ PM 25 0, PO 26 (.nilck (.s 0)), PO 27 (.fldAddr 1 (.s 0)), PO 28 (.load false 1 (.s 0)), PO 29 (.bin false .add (.s 0) (I6 1)), PO 30 (.nilck (.s 4)), PO 31 (.fldAddr 1 (.s 0)), ⟨.no, 0, none, .store 1 (.s 0) (.s 2)⟩]) (.seq (.region false [ PM 32 0, PM 33 0, PO 34 (.nilck (.s 0)), PO 35 (.fldAddr 2 (.s 0)), PO 36 (.load false 1 (.s 0)), PO 37 (.bin false .mul (.s 0) (.c (.int .u64
 (6364136223846793005)))), PM 38 2, PO 39 (.conv .u64 (.s 0)), PO 40 (.bin false .add (.s 2) (.s 0)), PO 41 (.bin false .add (.s 0) (.c (.int .u64 (1442695040888963407)))), PO 42 (.nilck (.s 9)), PO 43 (.fldAddr 2 (.s 0)), ⟨.no, 0, none, .store 1 (.s 0) (.s 2)⟩]) (.seq (.anyo 10 [ SO 0 44 (.mov (.v 0)), SO 1 45 (.nilck (.s 0)), SO 2 46 (.fldAddr 1 (.s 1)), SO 3 47 (.load false 1 (.s 2)), SO 4 48 (.mov (.v 0)), SO 5 49 (.nilck (.s 4)), SO 6 50 (.fldAddr 0 (.s 5)), SO 7 51 (.load false 1 (.s 6)), SO 8 52 (.len false (.s 7)), SO 9 53 (.bin false .leq (.s 3) (.s 8))] [] (.cond (.s 9) (.seq (.region
 false [ PM 54 2, VS 1 2 0]) (.ret)) (.skip))) (.seq (.region false [ PM 55 0, PO 56 (.nilck (.s 0)), PO 57 (.fldAddr 2 (.s 0)), PO 58 (.load false 1 (.s 0)), PO 59 (.bin false .shr (.s 0) (.c (.int .u64 (40)))), PO 60 (.bin false .and (.s 0) (.c (.int .u64 (255)))), PO 61 (.conv .i64 (.s 0)), VS 1 2 0]) (.ret))))))), [.t 1]⟩
noncomputable def t_2 : List (Nat × Ctr) := []
noncomputable def c_2 : Ctr := mkN t_2 ir59 [.io]
theorem s_2 : Sound Tryz.prog 59 c_2 := mkN_sound _ snd_nil (by kernel_rfl : chkFn Tryz.prog 59 ir59 ir59_v = true)
theorem M_2 : c_2.modes = [.io] := rfl
theorem Fl_2 : c_2.flat = false := rfl
attribute [go_sem] M_2 Fl_2
theorem Fs_2 {s_ : L00Src} {y_ : Int × L00Src} (h : spec_l00Src_next s_ = some y_) : c_2.F [.mem 3 [L00Src_av s_] 0] = ⟨true, .int .i64 y_.1, [.mem 3 [L00Src_av y_.2] 0]⟩ := by
 refine mkN_E ?_
 dsimp only [spec_l00Src_next] at h
 rcases it_some h with ⟨z1, h⟩ | ⟨z1, h⟩
 ·try simp only [go_sem, n1, n2, n3, n4] at z1
  all_goals
  obtain ⟨z2, h⟩ := ck_some h
  have lz2 := ix_lt z2
  have xz2 := getD_mapD byteAV s_.code_ lz2
  try simp only [go_sem] at lz2
  try simp only [go_sem] at xz2
  try simp only [go_sem, n1, n2, n3, n4, z1] at z2
  all_goals
  rcases it_some h with ⟨z3, h⟩ | ⟨z3, h⟩
  ·try simp only [go_sem, n1, n2, n3, n4, z1, z2] at z3
   all_goals
   obtain rfl := so_some h
   refine ⟨0, fun L hL => ?_⟩
   simp only [go_sem, ir59, z1, z2, lz2, xz2, z3]
  ·try simp only [go_sem, n1, n2, n3, n4, z1, z2] at z3
   all_goals
   obtain ⟨z4, h⟩ := ck_some h
   try simp only [go_sem, n1, n2, n3, n4, z1, z2, z3] at z4
   all_goals
   obtain rfl := so_some h
   refine ⟨0, fun L hL => ?_⟩
   simp only [go_sem, ir59, z1, z2, lz2, xz2, z3, z4]
 ·try simp only [go_sem, n1, n2, n3, n4] at z1
  all_goals
  rcases it_some h with ⟨z5, h⟩ | ⟨z5, h⟩
  ·try simp only [go_sem, n1, n2, n3, n4, z1] at z5
   all_goals
   obtain rfl := so_some h
   refine ⟨0, fun L hL => ?_⟩
   simp only [go_sem, ir59, z1, z5]
  ·try simp only [go_sem, n1, n2, n3, n4, z1] at z5
   all_goals
   obtain ⟨z6, h⟩ := ck_some h
   try simp only [go_sem, n1, n2, n3, n4, z1, z5] at z6
   all_goals
   obtain rfl := so_some h
   refine ⟨0, fun L hL => ?_⟩
   simp only [go_sem, ir59, z1, z5, z6]


def ir34_v : List Nat := [0, 1, 4, 5]
def ir34 : AFn := ⟨2, 4, .seq (.region false [ VO 2 4 (.mov (I6 0))]) (.seq (.test false [ PM 6 1, PO 7 (.bin false .leq (.s 0) (I6 1))] (.s 0) (.seq (.region false [ VO 2 4 (.mov (I6 0))]) (.ret)) (.skip)) (.seq (.region false [ PM 8 0, PO 9 (.call 59 [(.s 0)]), VS 3 5 0]) (.seq (.test false [ PM 10 1, PO 11 (.bin false .gtr (.s 0) (I6 200))] (.s 0) (.region false [ PM 12 3, PO 13 (.bin false .mul (.s 0) (I6 256)), PM 14 0, PO 15 (.call 59 [(.s 0)]), PO 16 (.bin false .add (.s 2) (.s 0)), VS 3 5 0]) (.skip)) (.seq (.region false [ PM 17 3, PM 18 1, PO 19 (.bin false .rem (.s 1) (.s 0)), VS 2 4
 0]) (.ret))))), [.t 2]⟩
noncomputable def t_3 : List (Nat × Ctr) := [(59, c_2)]
theorem lk_3_59 : look t_3 59 = some c_2 := rfl
noncomputable def c_3 : Ctr := mkN t_3 ir34 [.io, .bor]
theorem s_3 : Sound Tryz.prog 34 c_3 := mkN_sound _ (snd_cons s_2 snd_nil) (by kernel_rfl : chkFn Tryz.prog 34 ir34 ir34_v = true)
theorem M_3 : c_3.modes = [.io, .bor] := rfl
theorem Fl_3 : c_3.flat = false := rfl
attribute [go_sem] M_3 Fl_3
attribute [go_sem] lk_3_59
theorem Fs_3 {s_ : L00Src} {n : Int} {y_ : Int × L00Src} (h : spec_l00Src_pick s_ n = some y_) : c_3.F [.mem 3 [L00Src_av s_] 0, .int .i64 n] = ⟨true, .int .i64 y_.1, [.mem 3 [L00Src_av y_.2] 0, .any]⟩ := by
 refine mkN_E ?_
 dsimp only [spec_l00Src_pick] at h
 rcases it_some h with ⟨z1, h⟩ | ⟨z1, h⟩
 ·try simp only [go_sem, n1, n2, n3, n4] at z1
  all_goals
  obtain rfl := so_some h
  refine ⟨0, fun L hL => ?_⟩
  simp only [go_sem, ir34, z1]
 ·try simp only [go_sem, n1, n2, n3, n4] at z1
  all_goals
  obtain ⟨y_2, z2, h⟩ := bd_some h
  have fz2 := Fs_2 z2
  try simp only [go_sem, z1] at fz2
  rcases it_some h with ⟨z3, h⟩ | ⟨z3, h⟩
  ·try simp only [go_sem, n1, n2, n3, n4, z1] at z3
   all_goals
   obtain ⟨y_4, z4, h⟩ := bd_some h
   have fz4 := Fs_2 z4
   try simp only [go_sem, z1, z3] at fz4
   obtain ⟨z5, h⟩ := ck_some h
   try simp only [go_sem, n1, n2, n3, n4, z1, z3] at z5
   all_goals
   obtain rfl := so_some h
   refine ⟨0, fun L hL => ?_⟩
   simp only [go_sem, ir34, z1, fz2, z3, fz4, z5]
  ·try simp only [go_sem, n1, n2, n3, n4, z1] at z3
   all_goals
   obtain ⟨z6, h⟩ := ck_some h
   try simp only [go_sem, n1, n2, n3, n4, z1, z3] at z6
   all_goals
   obtain rfl := so_some h
   refine ⟨0, fun L hL => ?_⟩
   simp only [go_sem, ir34, z1, fz2, z3, z6]


def ir37_v : List Nat := [0, 1, 4]
def ir37 : AFn := ⟨2, 3, .seq (.region false [ VO 2 4 (.mov (.c (.bool false)))]) (.seq (.region false [ PM 5 0, PM 6 1, PO 7 (.call 34 [(.s 1), (.s 0)]), PO 8 (.bin false .eql (.s 0) (I6 0)), VS 2 4 0]) (.ret)), [.t 2]⟩
noncomputable def t_4 : List (Nat × Ctr) := [(34, c_3)]
theorem lk_4_34 : look t_4 34 = some c_3 := rfl
noncomputable def c_4 : Ctr := mkN t_4 ir37 [.io, .bor]
theorem s_4 : Sound Tryz.prog 37 c_4 := mkN_sound _ (snd_cons s_3 snd_nil) (by kernel_rfl : chkFn Tryz.prog 37 ir37 ir37_v = true)
theorem M_4 : c_4.modes = [.io, .bor] := rfl
theorem Fl_4 : c_4.flat = false := rfl
attribute [go_sem] M_4 Fl_4
attribute [go_sem] lk_4_34
theorem Fs_4 {s_ : L00Src} {n : Int} {y_ : Bool × L00Src} (h : spec_l00Src_one s_ n = some y_) : c_4.F [.mem 3 [L00Src_av s_] 0, .int .i64 n] = ⟨true, .bool y_.1, [.mem 3 [L00Src_av y_.2] 0, .any]⟩ := by
 refine mkN_E ?_
 dsimp only [spec_l00Src_one] at h
 obtain ⟨y_1, z1, h⟩ := bd_some h
 have fz1 := Fs_3 z1
 try simp only [go_sem] at fz1
 obtain rfl := so_some h
 refine ⟨0, fun L hL => ?_⟩
 simp only [go_sem, ir37, fz1]


def ir38_v : List Nat := [0, 1, 4]
def ir38 : AFn := ⟨2, 3, .seq (.region false [ VO 2 4 (.mov (.c (.str [])))]) (.seq (.region false [ PM 5 1, PM 6 0, PM 7 1, PO 8 (.len false (.s 0)), PO 9 (.call 34 [(.s 2), (.s 0)]), PO 10 (.ixAddr 1 (.s 4) (.s 0)), PO 11 (.load false 1 (.s 0)), VS 2 4 0]) (.ret)), [.t 2]⟩
noncomputable def t_5 : List (Nat × Ctr) := [(34, c_3)]
theorem lk_5_34 : look t_5 34 = some c_3 := rfl
noncomputable def c_5 : Ctr := mkN t_5 ir38 [.io, .bor]
theorem s_5 : Sound Tryz.prog 38 c_5 := mkN_sound _ (snd_cons s_3 snd_nil) (by kernel_rfl : chkFn Tryz.prog 38 ir38 ir38_v = true)
theorem M_5 : c_5.modes = [.io, .bor] := rfl
theorem Fl_5 : c_5.flat = false := rfl
attribute [go_sem] M_5 Fl_5
attribute [go_sem] lk_5_34
theorem Fs_5 {s_ : L00Src} {list : List (List UInt8)} {y_ : (List UInt8) × L00Src} (h : spec_l00Src_text s_ list = some y_) : c_5.F [.mem 3 [L00Src_av s_] 0, .sl 1 (List.map AV.str list)] = ⟨true, .str y_.1, [.mem 3 [L00Src_av y_.2] 0, .any]⟩ := by
 refine mkN_E ?_
 dsimp only [spec_l00Src_text] at h
 obtain ⟨y_1, z1, h⟩ := bd_some h
 have fz1 := Fs_3 z1
 try simp only [go_sem] at fz1
 obtain ⟨z2, h⟩ := ck_some h
 have lz2 := ix_lt z2
 have xz2 := getD_mapD AV.str list lz2
 try simp only [go_sem] at lz2
 try simp only [go_sem] at xz2
 try simp only [go_sem, n1, n2, n3, n4] at z2
 all_goals
 obtain rfl := so_some h
 refine ⟨0, fun L hL => ?_⟩
 simp only [go_sem, ir38, fz1, z2, lz2, xz2]


def ir17_v : List Nat := [0, 2, 3]
def ir17 : AFn := ⟨1, 3, .seq (.region false [ VO 1 2 (.alloc (.agg [.int .i64 (0), .str [], .str [], .int .i64 (0), .bool false]))]) (.seq (.region false [ PM 4 0, PO 5 (.call 34 [(.s 0), (I6 30)]), PO 6 (.bin false .mul (I6 1000) (.s 0)), PO 7 (.build [.int .i64 (0), .str [], .str [], .int .i64 (0), .bool false] [(0, 1, (.s 0))]), VO 2 3 (.alloc (.agg [.int .i64 (0), .str [], .str [], .int .i64 (0), .bool false])), ⟨.no, 0, none, .store 5 (.v 2) (.s 0)⟩]) (.seq (.test false [ PM 8 0, PO 9 (.call 37 [(.s 0), (I6 2)])] (.s 0) (.anyo 6 [ SO 0 10 (.fldAddr 0 (.v 2)), SO 1 11 (.load false 1 (.s
 0)), SO 2 12 (.mov (.v 0)), SO 3 13 (.call 34 [(.s 2), (I6 3000)]), SO 4 14 (.bin false .add (.s 1) (.s 3)), SO 5 15 (.fldAddr 0 (.v 2)), ⟨.no, 0, none, .store 1 (.s 5) (.s 4)⟩] [[2, 0, 1, 3, 4, 5, 6], [2, 0, 3, 1, 4, 5, 6], [2, 3, 0, 1, 4, 5, 6]] .skip) (.skip)) (.seq (.region false [ PM 16 0, PO 17 (.mkSl 1 (.str []) 3 [(0, (.c (.str [109, 105, 114, 97]))), (1, (.c (.str [114, 114, 45, 108, 121, 114]))), (2, (.c (.str [115, 115, 45, 99, 121, 103])))]), PO 18 (.call 38 [(.s 1), (.s 0)]), PO 19 (.fldAddr 1 (.v 2)), ⟨.no, 0, none, .store 1 (.s 0) (.s 1)⟩]) (.seq (.region false [ PM 20 0, PO 21
 (.mkSl 1 (.str []) 3 [(0, (.c (.str [97, 98]))), (1, (.c (.str [99, 100]))), (2, (.c (.str [101])))]), PO 22 (.call 38 [(.s 1), (.s 0)]), PO 23 (.fldAddr 2 (.v 2)), ⟨.no, 0, none, .store 1 (.s 0) (.s 1)⟩]) (.seq (.region false [ PM 24 0, PO 25 (.call 34 [(.s 0), (I6 60)]), PO 26 (.bin false .mul (I6 50) (.s 0)), PO 27 (.bin false .add (I6 8000) (.s 0)), PO 28 (.fldAddr 3 (.v 2)), ⟨.no, 0, none, .store 1 (.s 0) (.s 1)⟩]) (.seq (.region false [ PM 29 0, PO 30 (.call 37 [(.s 0), (I6 5)]), PO 31 (.fldAddr 4 (.v 2)), ⟨.no, 0, none, .store 1 (.s 0) (.s 1)⟩]) (.seq (.region false [ PO 32 (.load true
 5 (.v 2)), ⟨.no, 0, none, .store 5 (.v 1) (.s 0)⟩]) (.ret)))))))), [.cell true 5 1]⟩
noncomputable def t_6 : List (Nat × Ctr) := [(34, c_3), (37, c_4), (38, c_5)]
theorem lk_6_34 : look t_6 34 = some c_3 := rfl
theorem lk_6_37 : look t_6 37 = some c_4 := rfl
theorem lk_6_38 : look t_6 38 = some c_5 := rfl
noncomputable def c_6 : Ctr := mkN t_6 ir17 [.io]
theorem s_6 : Sound Tryz.prog 17 c_6 := mkN_sound _ (snd_cons s_3 (snd_cons s_4 (snd_cons s_5 snd_nil))) (by kernel_rfl : chkFn Tryz.prog 17 ir17 ir17_v = true)
theorem M_6 : c_6.modes = [.io] := rfl
theorem Fl_6 : c_6.flat = false := rfl
attribute [go_sem] M_6 Fl_6
attribute [go_sem] lk_6_34 lk_6_37 lk_6_38
theorem Fs_6 {s_ : L00Src} {y_ : Estimate × L00Src} (h : spec_l06New s_ = some y_) : c_6.F [.mem 3 [L00Src_av s_] 0] = ⟨true, Estimate_av y_.1, [.mem 3 [L00Src_av y_.2] 0]⟩ := by
 refine mkN_E ?_
 dsimp only [spec_l06New] at h
 obtain ⟨y_1, z1, h⟩ := bd_some h
 have fz1 := Fs_3 z1
 try simp only [go_sem] at fz1
 obtain ⟨y_2, z2, h⟩ := bd_some h
 have fz2 := Fs_4 z2
 try simp only [go_sem] at fz2
 rcases it_some h with ⟨z3, h⟩ | ⟨z3, h⟩
 ·try simp only [go_sem, n1, n2, n3, n4] at z3
  all_goals
  obtain ⟨y_4, z4, h⟩ := bd_some h
  have fz4 := Fs_3 z4
  try simp only [go_sem, z3] at fz4
  obtain ⟨y_5, z5, h⟩ := bd_some h
  have fz5 := Fs_5 z5
  try simp only [go_sem, z3] at fz5
  obtain ⟨y_6, z6, h⟩ := bd_some h
  have fz6 := Fs_5 z6
  try simp only [go_sem, z3] at fz6
  obtain ⟨y_7, z7, h⟩ := bd_some h
  have fz7 := Fs_3 z7
  try simp only [go_sem, z3] at fz7
  obtain ⟨y_8, z8, h⟩ := bd_some h
  have fz8 := Fs_4 z8
  try simp only [go_sem, z3] at fz8
  obtain rfl := so_some h
  refine ⟨0, fun L hL => ?_⟩
  simp only [go_sem, ir17, fz1, fz2, z3, fz4, fz5, fz6, fz7, fz8]
 ·try simp only [go_sem, n1, n2, n3, n4] at z3
  all_goals
  obtain ⟨y_9, z9, h⟩ := bd_some h
  have fz9 := Fs_5 z9
  try simp only [go_sem, z3] at fz9
  obtain ⟨y_10, z10, h⟩ := bd_some h
  have fz10 := Fs_5 z10
  try simp only [go_sem, z3] at fz10
  obtain ⟨y_11, z11, h⟩ := bd_some h
  have fz11 := Fs_3 z11
  try simp only [go_sem, z3] at fz11
  obtain ⟨y_12, z12, h⟩ := bd_some h
  have fz12 := Fs_4 z12
  try simp only [go_sem, z3] at fz12
  obtain rfl := so_some h
  refine ⟨0, fun L hL => ?_⟩
  simp only [go_sem, ir17, fz1, fz2, z3, fz9, fz10, fz11, fz12]


def ir58_v : List Nat := [0, 1, 4]
def ir58 : AFn := ⟨2, 3, .seq (.region false [ VO 2 4 (.mov (.c (.bool false)))]) (.seq (.anyo 9 [ SO 0 5 (.mov (.v 0)), SO 1 6 (.nilck (.s 0)), SO 2 7 (.fldAddr 0 (.s 1)), SO 3 8 (.load false 1 (.s 2)), SO 4 9 (.mov (.v 1)), SO 5 10 (.nilck (.s 4)), SO 6 11 (.fldAddr 0 (.s 5)), SO 7 12 (.load false 1 (.s 6)), SO 8 13 (.bin false .neq (.s 3) (.s 7))] [] (.cond (.s 8) (.seq (.anyo 9 [ SO 0 14 (.mov (.v 0)), SO 1 15 (.nilck (.s 0)), SO 2 16 (.fldAddr 0 (.s 1)), SO 3 17 (.load false 1 (.s 2)), SO 4 18 (.mov (.v 1)), SO 5 19 (.nilck (.s 4)), SO 6 20 (.fldAddr 0 (.s 5)), SO 7 21 (.load false 1 (.s
 6)), SO 8 22 (.bin false .lss (.s 3) (.s 7)), VS 2 4 8] [] .skip) (.ret)) (.skip))) (.seq (.anyo 9 [ SO 0 23 (.mov (.v 0)), SO 1 24 (.nilck (.s 0)), SO 2 25 (.fldAddr 1 (.s 1)), SO 3 26 (.load false 1 (.s 2)), SO 4 27 (.mov (.v 1)), SO 5 28 (.nilck (.s 4)), SO 6 29 (.fldAddr 1 (.s 5)), SO 7 30 (.load false 1 (.s 6)), SO 8 31 (.bin false .neq (.s 3) (.s 7))] [] (.cond (.s 8) (.seq (.anyo 9 [ SO 0 32 (.mov (.v 0)), SO 1 33 (.nilck (.s 0)), SO 2 34 (.fldAddr 1 (.s 1)), SO 3 35 (.load false 1 (.s 2)), SO 4 36 (.mov (.v 1)), SO 5 37 (.nilck (.s 4)), SO 6 38 (.fldAddr 1 (.s 5)), SO 7 39 (.load false
 1 (.s 6)), SO 8 40 (.bin false .lss (.s 3) (.s 7)), VS 2 4 8] [] .skip) (.ret)) (.skip))) (.seq (.anyo 9 [ SO 0 41 (.mov (.v 0)), SO 1 42 (.nilck (.s 0)), SO 2 43 (.fldAddr 2 (.s 1)), SO 3 44 (.load false 1 (.s 2)), SO 4 45 (.mov (.v 1)), SO 5 46 (.nilck (.s 4)), SO 6 47 (.fldAddr 2 (.s 5)), SO 7 48 (.load false 1 (.s 6)), SO 8 49 (.bin false .lss (.s 3) (.s 7)), VS 2 4 8] [] .skip) (.ret)))), [.t 2]⟩
noncomputable def t_7 : List (Nat × Ctr) := []
noncomputable def c_7 : Ctr := mkF t_7 ir58 [.bor, .bor]
theorem s_7 : Sound Tryz.prog 58 c_7 := mkF_sound _ rfl snd_nil (by kernel_rfl : chkFn Tryz.prog 58 ir58 ir58_v = true)
theorem M_7 : c_7.modes = [.bor, .bor] := rfl
theorem Fl_7 : c_7.flat = true := rfl
attribute [go_sem] M_7 Fl_7
theorem Fs_7 {a : Estimate} {b : Estimate} {y_ : Bool} (h : spec_l06Before a b = some y_) : c_7.F [.ptr 5 [Estimate_av a] 0 0, .ptr 5 [Estimate_av b] 0 0] = ⟨true, .bool y_, [.any, .any]⟩ := by
 refine mkF_E rfl ?_
 dsimp only [spec_l06Before] at h
 rcases it_some h with ⟨z1, h⟩ | ⟨z1, h⟩
 ·try simp only [go_sem, n1, n2, n3, n4] at z1
  all_goals
  obtain rfl := so_some h
  refine ⟨0, fun L hL => ?_⟩
  simp only [go_sem, ir58, z1]
 ·try simp only [go_sem, n1, n2, n3, n4] at z1
  all_goals
  rcases it_some h with ⟨z2, h⟩ | ⟨z2, h⟩
  ·try simp only [go_sem, n1, n2, n3, n4, z1] at z2
   all_goals
   obtain rfl := so_some h
   refine ⟨0, fun L hL => ?_⟩
   simp only [go_sem, ir58, z1, z2]
  ·try simp only [go_sem, n1, n2, n3, n4, z1] at z2
   all_goals
   obtain rfl := so_some h
   refine ⟨0, fun L hL => ?_⟩
   simp only [go_sem, ir58, z1, z2]


def ir35_b0 : IR := .seq (.test false [ PM 6 3, PM 7 0, PO 8 (.len false (.s 0)), PO 9 (.bin false .lss (.s 2) (.s 0))] (.s 0) (.skip) (.exit 0)) (.seq (.block 1 (.test false [ PM 12 0, PM 13 3, PO 14 (.ixAddr 5 (.s 1) (.s 0)), PM 15 1, PO 16 (.call 58 [(.s 1), (.s 0)]), PO 17 (.un .not (.s 0)), PO 18 (.mov (.s 0)), ⟨.push, 19, (some ((.s 0), true)), .mov (.v 1)⟩, ⟨.push, 20, (some ((.s 1), true)), .mov (.v 0)⟩, ⟨.push, 21, (some ((.s 2), true)), .mov (.v 3)⟩, ⟨.push, 22, (some ((.s 3), true)), .ixAddr 5 (.s 1) (.s 0)⟩, ⟨.push, 23, (some ((.s 4), true)), .call 58 [(.s 3), (.s 0)]⟩, ⟨.push, 24,
 (some ((.s 5), true)), .un .not (.s 0)⟩, PO 25 (.pick (.s 6) (.s 0) (.c (.bool false)))] (.s 0) (.seq (.region false [ PM 26 3, VS 2 4 0]) (.ret)) (.skip))) (.region false [ PM 10 3, PO 11 (.bin false .add (.s 0) (I6 1)), VS 3 5 0]))
def ir35_k0 : List Bool := [true, true, false, true]
def ir35_o0 : List Bool := [false, false, false, false]
def ir35_r0 : List Bool := [false, false, true, false]
def ir35_v : List Nat := [0, 1, 4, 5]
def ir35 : AFn := ⟨2, 4, .seq (.region false [ VO 2 4 (.mov (I6 0))]) (.seq (.seq (.region false [ VO 3 5 (.mov (I6 0))]) (.block 0 (.loop ir35_k0 ir35_o0 ir35_r0 ir35_b0))) (.seq (.region false [ VO 2 4 (.mov (.c (.int .i64 (-1))))]) (.ret))), [.t 2]⟩
noncomputable def t_8 : List (Nat × Ctr) := [(58, c_7)]
theorem lk_8_58 : look t_8 58 = some c_7 := rfl
noncomputable def c_8 : Ctr := mkF t_8 ir35 [.bor, .bor]
theorem s_8 : Sound Tryz.prog 35 c_8 := mkF_sound _ rfl (snd_cons s_7 snd_nil) (by kernel_rfl : chkFn Tryz.prog 35 ir35 ir35_v = true)
theorem M_8 : c_8.modes = [.bor, .bor] := rfl
theorem Fl_8 : c_8.flat = true := rfl
attribute [go_sem] M_8 Fl_8
attribute [go_sem] lk_8_58
def E_8_l1 (list : List Estimate) (e_ : Estimate) : Int → St
 | i => ⟨[.sl 5 (List.map Estimate_av list), .ptr 5 [Estimate_av e_] 0 0, .any, .int .i64 i], [], [], true⟩
def R_8_l1 (list : List Estimate) (e_ : Estimate) : (Unit ⊕ Int) → Res
 | .inl y => (.exit 0, ⟨[.any, .any, .any, .any], [], [], true⟩)
 | .inr y => (.ret, ⟨[.any, .any, .int .i64 y, .any], [], [], true⟩)
theorem spec_l06Find_l1_ex {list : List Estimate} {e_ : Estimate} {sgm_ : Int} {rho_ : Unit ⊕ Int} (h : whileE (spec_l06Find_l1 list e_) sgm_ = some rho_) : ∃ L0, ∀ L, L0 ≤ L → iter (exec (look t_8) L ir35_b0) ir35_k0 ir35_o0 ir35_r0 L (E_8_l1 list e_ sgm_) = R_8_l1 list e_ rho_ := by
 refine loop_ex (E := E_8_l1 list e_) (R := R_8_l1 list e_) (fun y => by first | (intro c; cases c) | (rcases y with y | y <;> (intro c; cases c)) | (rcases y with y | y | y <;> (intro c; cases c))) ?_ h
 clear h
 intro i o_ h
 dsimp only [spec_l06Find_l1] at h
 rcases it_some h with ⟨z1, h⟩ | ⟨z1, h⟩
 ·try simp only [go_sem, n1, n2, n3, n4] at z1
  all_goals
  obtain ⟨z2, h⟩ := ck_some h
  have lz2 := ix_lt z2
  have xz2 := getD_mapD Estimate_av list lz2
  try simp only [go_sem] at lz2
  try simp only [go_sem] at xz2
  try simp only [go_sem, n1, n2, n3, n4, z1] at z2
  all_goals
  obtain ⟨y_3, z3, h⟩ := bd_some h
  have fz3 := Fs_7 z3
  try simp only [go_sem, z1, z2] at fz3
  obtain ⟨z4, h⟩ := ck_some h
  rcases or_split z4 with ⟨gz4, z4⟩ | gz4
  ·try simp only [go_sem, n1, n2, n3, n4, z1, z2] at gz4
   all_goals
   obtain ⟨y_4, hz4⟩ := Option.isSome_iff_exists.1 z4
   have fz4 := Fs_7 hz4
   try simp only [go_sem, n1, n2, n3, n4, z1, z2, gz4] at hz4
   all_goals
   try simp only [go_sem, z1, z2, gz4] at fz4
   rcases it_some h with ⟨z5, h⟩ | ⟨z5, h⟩
   ·try simp only [go_sem, n1, n2, n3, n4, z1, z2, gz4, hz4] at z5
    all_goals
    obtain rfl := so_some h
    refine ⟨0, fun L hL => ?_⟩
    simp only [go_sem, ir35, E_8_l1, R_8_l1, ir35_b0, ir35_k0, ir35_o0, ir35_r0, z1, z2, lz2, xz2, fz3, gz4, hz4, fz4, z5]
   ·try simp only [go_sem, n1, n2, n3, n4, z1, z2, gz4, hz4] at z5
    all_goals
    obtain rfl := so_some h
    refine ⟨0, fun L hL => ?_⟩
    simp only [go_sem, ir35, E_8_l1, R_8_l1, ir35_b0, ir35_k0, ir35_o0, ir35_r0, z1, z2, lz2, xz2, fz3, gz4, hz4, fz4, z5]
  ·have gz4n := no_f gz4
   try simp only [go_sem, n1, n2, n3, n4, z1, z2] at gz4n
   all_goals
   rcases it_some h with ⟨z5, h⟩ | ⟨z5, h⟩
   ·try simp only [go_sem, n1, n2, n3, n4, z1, z2, gz4n] at z5
    all_goals
    (simp_all)
   ·try simp only [go_sem, n1, n2, n3, n4, z1, z2, gz4n] at z5
    all_goals
    obtain rfl := so_some h
    refine ⟨0, fun L hL => ?_⟩
    simp only [go_sem, ir35, E_8_l1, R_8_l1, ir35_b0, ir35_k0, ir35_o0, ir35_r0, z1, z2, lz2, xz2, fz3, gz4n, z5]
 ·try simp only [go_sem, n1, n2, n3, n4] at z1
  all_goals
  obtain rfl := so_some h
  refine ⟨0, fun L hL => ?_⟩
  simp only [go_sem, ir35, E_8_l1, R_8_l1, ir35_b0, ir35_k0, ir35_o0, ir35_r0, z1]

theorem Fs_8 {list : List Estimate} {e_ : Estimate} {y_ : Int} (h : spec_l06Find list e_ = some y_) : c_8.F [.sl 5 (List.map Estimate_av list), .ptr 5 [Estimate_av e_] 0 0] = ⟨true, .int .i64 y_, [.any, .any]⟩ := by
 refine mkF_E rfl ?_
 dsimp only [spec_l06Find] at h
 obtain ⟨y_6, z6, h⟩ := bd_some h
 obtain ⟨Lz6, ez6⟩ := spec_l06Find_l1_ex z6
 rcases y_6 with y_6a | y_6b
 ·dsimp only at h
  obtain rfl := so_some h
  refine ⟨Lz6, fun L hL => ?_⟩
  have ez6 := ez6 L (by omega)
  try simp only [go_sem, E_8_l1, R_8_l1, ir35_k0, ir35_o0, ir35_r0] at ez6
  simp only [go_sem, ir35, E_8_l1, R_8_l1, ir35_k0, ir35_o0, ir35_r0, ez6]
 ·dsimp only at h
  obtain rfl := so_some h
  refine ⟨Lz6, fun L hL => ?_⟩
  have ez6 := ez6 L (by omega)
  try simp only [go_sem, E_8_l1, R_8_l1, ir35_k0, ir35_o0, ir35_r0] at ez6
  simp only [go_sem, ir35, E_8_l1, R_8_l1, ir35_k0, ir35_o0, ir35_r0, ez6]


def ir36_b0 : IR := .seq (.test false [ PM 9 4, PO 10 (.bin false .gtr (.s 0) (I6 0)), PO 11 (.mov (.s 0)), ⟨.push, 12, (some ((.s 0), true)), .mov (.v 0)⟩, ⟨.push, 13, (some ((.s 1), true)), .mov (.v 4)⟩, ⟨.push, 14, (some ((.s 2), true)), .bin false .sub (.s 0) (I6 1)⟩, ⟨.push, 15, (some ((.s 3), true)), .ixAddr 5 (.s 2) (.s 0)⟩, ⟨.push, 16, (some ((.s 4), true)), .call 58 [(.v 2), (.s 0)]⟩, PO 17 (.pick (.s 5) (.s 0) (.c (.bool false)))] (.s 0) (.skip) (.exit 0)) (.block 1 (.region false [ PM 18 4, PO 19 (.bin false .sub (.s 0) (I6 1)), VS 4 5 0]))
def ir36_k0 : List Bool := [true, false, true, false, true, false]
def ir36_o0 : List Bool := [true, false, true, false, true, false]
def ir36_r0 : List Bool := [false, false, false, true, false, false]
def ir36_v : List Nat := [0, 1, 3, 4, 5, 6]
def ir36 : AFn := ⟨2, 6, .seq (.region false [ VO 2 3 (.box (.v 1)), VO 3 4 (.newnil 5)]) (.seq (.region false [ PM 7 0, PO 8 (.len false (.s 0)), VS 4 5 0]) (.seq (.block 0 (.loop ir36_k0 ir36_o0 ir36_r0 ir36_b0)) (.seq (.region false [ PO 20 (.mkSl 5 (.agg [.int .i64 (0), .str [], .str [], .int .i64 (0), .bool false]) 0 []), PM 21 0, PM 22 4, PO 23 (.slice 5 (.s 1) none (some (.s 0))), PO 24 (.app 5 56 (.agg [.int .i64 (0), .str [], .str [], .int .i64 (0), .bool false]) (.s 3) (.s 0)), VS 5 6 0]) (.seq (.region false [ PM 25 5, PO 26 (.load true 5 (.v 2)), PO 27 (.mkSl 5 (.agg [.int .i64 (0),
 .str [], .str [], .int .i64 (0), .bool false]) 1 [(0, (.s 0))]), PO 28 (.app 5 56 (.agg [.int .i64 (0), .str [], .str [], .int .i64 (0), .bool false]) (.s 2) (.s 0)), VS 5 6 0]) (.seq (.region false [ PM 29 5, PM 30 0, PM 31 4, PO 32 (.slice 5 (.s 1) (some (.s 0)) none), PO 33 (.app 5 56 (.agg [.int .i64 (0), .str [], .str [], .int .i64 (0), .bool false]) (.s 3) (.s 0)), VS 3 4 0]) (.ret)))))), [.t 3]⟩
noncomputable def t_9 : List (Nat × Ctr) := [(58, c_7)]
theorem lk_9_58 : look t_9 58 = some c_7 := rfl
noncomputable def c_9 : Ctr := mkF t_9 ir36 [.bor, .bor]
theorem s_9 : Sound Tryz.prog 36 c_9 := mkF_sound _ rfl (snd_cons s_7 snd_nil) (by kernel_rfl : chkFn Tryz.prog 36 ir36 ir36_v = true)
theorem M_9 : c_9.modes = [.bor, .bor] := rfl
theorem Fl_9 : c_9.flat = true := rfl
attribute [go_sem] M_9 Fl_9
attribute [go_sem] lk_9_58
def E_9_l1 (list : List Estimate) (e_ : Estimate) : Int → St
 | k => ⟨[.sl 5 (List.map Estimate_av list), .any, .ref 3200000 0 0, .any, .int .i64 k, .any], [], [(3200000, ⟨5, [Estimate_av e_]⟩)], true⟩
def R_9_l1 (list : List Estimate) (e_ : Estimate) (y : Int) : Res := (.exit 0, ⟨[.sl 5 (List.map Estimate_av list), .any, .ref 3200000 0 0, .any, .int .i64 y, .any], [], [(3200000, ⟨5, [Estimate_av e_]⟩)], true⟩)
theorem spec_l06Put_l1_ex {list : List Estimate} {e_ : Estimate} {sgm_ : Int} {rho_ : Int} (h : whileE (spec_l06Put_l1 list e_) sgm_ = some rho_) : ∃ L0, ∀ L, L0 ≤ L → iter (exec (look t_9) L ir36_b0) ir36_k0 ir36_o0 ir36_r0 L (E_9_l1 list e_ sgm_) = R_9_l1 list e_ rho_ := by
 refine loop_ex (E := E_9_l1 list e_) (R := R_9_l1 list e_) (fun y => by first | (intro c; cases c) | (rcases y with y | y <;> (intro c; cases c)) | (rcases y with y | y | y <;> (intro c; cases c))) ?_ h
 clear h
 intro k o_ h
 dsimp only [spec_l06Put_l1] at h
 obtain ⟨z1, h⟩ := ck_some h
 rcases or_split z1 with ⟨gz1, z1⟩ | gz1
 ·try simp only [go_sem, n1, n2, n3, n4] at gz1
  all_goals
  have lz1 := ix_lt z1
  have xz1 := getD_mapD Estimate_av list lz1
  try simp only [go_sem] at lz1
  try simp only [go_sem] at xz1
  try simp only [go_sem, n1, n2, n3, n4, gz1] at z1
  all_goals
  obtain ⟨z2, h⟩ := ck_some h
  rcases or_split z2 with ⟨gz2, z2⟩ | gz2
  ·try simp only [go_sem, n1, n2, n3, n4, gz1, z1] at gz2
   all_goals
   obtain ⟨y_2, hz2⟩ := Option.isSome_iff_exists.1 z2
   have fz2 := Fs_7 hz2
   try simp only [go_sem, n1, n2, n3, n4, gz1, z1, gz2] at hz2
   all_goals
   try simp only [go_sem, gz1, z1, gz2] at fz2
   rcases it_some h with ⟨z3, h⟩ | ⟨z3, h⟩
   ·try simp only [go_sem, n1, n2, n3, n4, gz1, z1, gz2, hz2] at z3
    all_goals
    obtain rfl := so_some h
    refine ⟨0, fun L hL => ?_⟩
    simp only [go_sem, ir36, E_9_l1, R_9_l1, ir36_b0, ir36_k0, ir36_o0, ir36_r0, gz1, z1, lz1, xz1, gz2, hz2, fz2, z3]
   ·try simp only [go_sem, n1, n2, n3, n4, gz1, z1, gz2, hz2] at z3
    all_goals
    obtain rfl := so_some h
    refine ⟨0, fun L hL => ?_⟩
    simp only [go_sem, ir36, E_9_l1, R_9_l1, ir36_b0, ir36_k0, ir36_o0, ir36_r0, gz1, z1, lz1, xz1, gz2, hz2, fz2, z3]
  ·try simp only [go_sem, n1, n2, n3, n4, gz1, z1] at gz2
   all_goals
   rcases it_some h with ⟨z3, h⟩ | ⟨z3, h⟩
   ·try simp only [go_sem, n1, n2, n3, n4, gz1, z1, gz2] at z3
    all_goals
    (simp_all)
   ·try simp only [go_sem, n1, n2, n3, n4, gz1, z1, gz2] at z3
    all_goals
    obtain rfl := so_some h
    refine ⟨0, fun L hL => ?_⟩
    simp only [go_sem, ir36, E_9_l1, R_9_l1, ir36_b0, ir36_k0, ir36_o0, ir36_r0, gz1, z1, lz1, xz1, gz2, z3]
 ·try simp only [go_sem, n1, n2, n3, n4] at gz1
  all_goals
  obtain ⟨z2, h⟩ := ck_some h
  rcases it_some h with ⟨z3, h⟩ | ⟨z3, h⟩
  ·try simp only [go_sem, n1, n2, n3, n4, gz1] at z3
   all_goals
   (simp_all)
  ·try simp only [go_sem, n1, n2, n3, n4, gz1] at z3
   all_goals
   obtain rfl := so_some h
   refine ⟨0, fun L hL => ?_⟩
   simp only [go_sem, ir36, E_9_l1, R_9_l1, ir36_b0, ir36_k0, ir36_o0, ir36_r0, gz1, z3]

theorem Fs_9 {list : List Estimate} {e_ : Estimate} {y_ : (List Estimate)} (h : spec_l06Put list e_ = some y_) : c_9.F [.sl 5 (List.map Estimate_av list), Estimate_av e_] = ⟨true, .fresh 5 (List.map Estimate_av y_), [.any, .any]⟩ := by
 refine mkF_E (by simp only [flatA, flatB, flat1, List.all_cons, List.all_nil, Bool.and_self, flatE_map (f := Estimate_av) (fun _ => rfl)]) ?_
 dsimp only [spec_l06Put] at h
 obtain ⟨y_4, z4, h⟩ := bd_some h
 obtain ⟨Lz4, ez4⟩ := spec_l06Put_l1_ex z4
 obtain ⟨z5, h⟩ := ck_some h
 try simp only [go_sem, n1, n2, n3, n4] at z5
 all_goals
 obtain ⟨z6, h⟩ := ck_some h
 try simp only [go_sem, n1, n2, n3, n4, z5] at z6
 all_goals
 obtain ⟨z7, h⟩ := ck_some h
 try simp only [go_sem, n1, n2, n3, n4, z5, z6] at z7
 all_goals
 obtain ⟨z8, h⟩ := ck_some h
 try simp only [go_sem, n1, n2, n3, n4, z5, z6, z7] at z8
 all_goals
 obtain ⟨z9, h⟩ := ck_some h
 try simp only [go_sem, n1, n2, n3, n4, z5, z6, z7, z8] at z9
 all_goals
 obtain rfl := so_some h
 refine ⟨Lz4, fun L hL => ?_⟩
 have ez4 := ez4 L (by omega)
 try simp only [go_sem, E_9_l1, R_9_l1, ir36_k0, ir36_o0, ir36_r0, z5, z6, z7, z8, z9] at ez4
 simp only [go_sem, ir36, E_9_l1, R_9_l1, ir36_k0, ir36_o0, ir36_r0, z5, z6, z7, z8, z9, ez4]


def ir15_b0 : IR := .seq (.test false [ PM 13 4, PO 14 (.bin false .gtr (.s 0) (I6 0))] (.s 0) (.skip) (.exit 0)) (.seq (.block 1 (.seq (.region false [ PM 17 0, PO 18 (.call 17 [(.s 0)]), VO 5 7 (.alloc (.agg [.int .i64 (0), .str [], .str [], .int .i64 (0), .bool false])), ⟨.no, 0, none, .store 5 (.v 5) (.s 0)⟩]) (.test false [ PM 19 3, PO 20 (.call 35 [(.s 0), (.v 5)]), PO 21 (.bin false .lss (.s 0) (I6 0))] (.s 0) (.region false [ PM 22 3, PO 23 (.load true 5 (.v 5)), PO 24 (.call 36 [(.s 1), (.s 0)]), VS 3 5 0]) (.skip)))) (.region false [ PM 15 4, PO 16 (.bin false .sub (.s 0) (I6 1)), VS
 4 6 0]))
def ir15_k0 : List Bool := [true, false, false, true, true, false]
def ir15_o0 : List Bool := [true, false, false, true, false, false]
def ir15_r0 : List Bool := [true, false, true, false, false, false]
def ir15_v : List Nat := [0, 1, 4, 5, 6, 7]
def ir15 : AFn := ⟨2, 6, .seq (.region false [ VO 2 4 (.newnil 5)]) (.seq (.region false [ PO 8 (.mkSl 5 (.agg [.int .i64 (0), .str [], .str [], .int .i64 (0), .bool false]) 0 []), VS 3 5 0]) (.seq (.seq (.region false [ PM 9 0, PM 10 1, PO 11 (.bin false .add (.s 0) (I6 1)), PO 12 (.call 34 [(.s 2), (.s 0)]), VS 4 6 0]) (.block 0 (.loop ir15_k0 ir15_o0 ir15_r0 ir15_b0))) (.seq (.region false [ PM 25 3, VS 2 4 0]) (.ret)))), [.t 2]⟩
noncomputable def t_10 : List (Nat × Ctr) := [(34, c_3), (17, c_6), (35, c_8), (36, c_9)]
theorem lk_10_34 : look t_10 34 = some c_3 := rfl
theorem lk_10_17 : look t_10 17 = some c_6 := rfl
theorem lk_10_35 : look t_10 35 = some c_8 := rfl
theorem lk_10_36 : look t_10 36 = some c_9 := rfl
noncomputable def c_10 : Ctr := mkN t_10 ir15 [.io, .bor]
theorem s_10 : Sound Tryz.prog 15 c_10 := mkN_sound _ (snd_cons s_3 (snd_cons s_6 (snd_cons s_8 (snd_cons s_9 snd_nil)))) (by kernel_rfl : chkFn Tryz.prog 15 ir15 ir15_v = true)
theorem M_10 : c_10.modes = [.io, .bor] := rfl
theorem Fl_10 : c_10.flat = false := rfl
attribute [go_sem] M_10 Fl_10
attribute [go_sem] lk_10_34 lk_10_17 lk_10_35 lk_10_36
def E_10_l1  : (L00Src × (List Estimate) × Int) → St
 | (s_, out, k) => ⟨[.ref 31 0 0, .any, .any, .own 3200032, .int .i64 k, .any], [], [(31, ⟨3, [L00Src_av s_]⟩), (3200032, ⟨5, List.map Estimate_av out⟩)], true⟩
def R_10_l1  (y : L00Src × (List Estimate)) : Res := (.exit 0, ⟨[.ref 31 0 0, .any, .any, .own 3200032, .any, .any], [], [(31, ⟨3, [L00Src_av y.1]⟩), (3200032, ⟨5, List.map Estimate_av y.2⟩)], true⟩)
theorem spec_l06Draw_l1_ex  {sgm_ : L00Src × (List Estimate) × Int} {rho_ : L00Src × (List Estimate)} (h : whileE (spec_l06Draw_l1) sgm_ = some rho_) : ∃ L0, ∀ L, L0 ≤ L → iter (exec (look t_10) L ir15_b0) ir15_k0 ir15_o0 ir15_r0 L (E_10_l1 sgm_) = R_10_l1 rho_ := by
 refine loop_ex (E := E_10_l1) (R := R_10_l1) (fun y => by first | (intro c; cases c) | (rcases y with y | y <;> (intro c; cases c)) | (rcases y with y | y | y <;> (intro c; cases c))) ?_ h
 clear h
 rintro ⟨s_, out, k⟩ o_ h
 dsimp only [spec_l06Draw_l1] at h
 rcases it_some h with ⟨z2, h⟩ | ⟨z2, h⟩
 ·try simp only [go_sem, n1, n2, n3, n4] at z2
  all_goals
  obtain ⟨y_3, z3, h⟩ := bd_some h
  have fz3 := Fs_6 z3
  try simp only [go_sem, z2] at fz3
  obtain ⟨y_4, z4, h⟩ := bd_some h
  have fz4 := Fs_8 z4
  try simp only [go_sem, z2] at fz4
  rcases it_some h with ⟨z5, h⟩ | ⟨z5, h⟩
  ·try simp only [go_sem, n1, n2, n3, n4, z2] at z5
   all_goals
   obtain ⟨y_6, z6, h⟩ := bd_some h
   have fz6 := Fs_9 z6
   try simp only [go_sem, z2, z5] at fz6
   obtain rfl := so_some h
   refine ⟨0, fun L hL => ?_⟩
   simp only [go_sem, ir15, E_10_l1, R_10_l1, ir15_b0, ir15_k0, ir15_o0, ir15_r0, z2, fz3, fz4, z5, fz6]
  ·try simp only [go_sem, n1, n2, n3, n4, z2] at z5
   all_goals
   obtain rfl := so_some h
   refine ⟨0, fun L hL => ?_⟩
   simp only [go_sem, ir15, E_10_l1, R_10_l1, ir15_b0, ir15_k0, ir15_o0, ir15_r0, z2, fz3, fz4, z5]
 ·try simp only [go_sem, n1, n2, n3, n4] at z2
  all_goals
  obtain rfl := so_some h
  refine ⟨0, fun L hL => ?_⟩
  simp only [go_sem, ir15, E_10_l1, R_10_l1, ir15_b0, ir15_k0, ir15_o0, ir15_r0, z2]

theorem Fs_10 {s_ : L00Src} {most : Int} {y_ : (List Estimate) × L00Src} (h : spec_l06Draw s_ most = some y_) : c_10.F [.mem 3 [L00Src_av s_] 0, .int .i64 most] = ⟨true, .fresh 5 (List.map Estimate_av y_.1), [.mem 3 [L00Src_av y_.2] 0, .any]⟩ := by
 refine mkN_E ?_
 dsimp only [spec_l06Draw] at h
 obtain ⟨y_1, z1, h⟩ := bd_some h
 have fz1 := Fs_3 z1
 try simp only [go_sem] at fz1
 obtain ⟨y_7, z7, h⟩ := bd_some h
 obtain ⟨Lz7, ez7⟩ := spec_l06Draw_l1_ex z7
 obtain rfl := so_some h
 refine ⟨Lz7, fun L hL => ?_⟩
 have ez7 := ez7 L (by omega)
 try simp only [go_sem, E_10_l1, R_10_l1, ir15_k0, ir15_o0, ir15_r0] at ez7
 simp only [go_sem, ir15, E_10_l1, R_10_l1, ir15_k0, ir15_o0, ir15_r0, fz1, ez7]


def ir5_v : List Nat := [0, 2]
def ir5 : AFn := ⟨1, 2, .seq (.region false [ VO 1 2 (.newnil 5)]) (.seq (.region false [ PM 3 0, PO 4 (.call 16 [(.s 0)]), PO 5 (.call 15 [(.s 0), (I6 12)]), VS 1 2 0]) (.ret)), [.t 1]⟩
noncomputable def t_11 : List (Nat × Ctr) := [(16, c_1), (15, c_10)]
theorem lk_11_16 : look t_11 16 = some c_1 := rfl
theorem lk_11_15 : look t_11 15 = some c_10 := rfl
noncomputable def c_11 : Ctr := mkF t_11 ir5 [.bor]
theorem s_11 : Sound Tryz.prog 5 c_11 := mkF_sound _ rfl (snd_cons s_1 (snd_cons s_10 snd_nil)) (by kernel_rfl : chkFn Tryz.prog 5 ir5 ir5_v = true)
theorem M_11 : c_11.modes = [.bor] := rfl
theorem Fl_11 : c_11.flat = true := rfl
attribute [go_sem] M_11 Fl_11
attribute [go_sem] lk_11_16 lk_11_15
theorem Fs_11 {code : List UInt8} {y_ : (List Estimate)} (h : spec_A2Estimates code = some y_) : c_11.F [.sl 1 (List.map byteAV code)] = ⟨true, .fresh 5 (List.map Estimate_av y_), [.any]⟩ := by
 refine mkF_E (by simp only [flatA, flatB, flat1, List.all_cons, List.all_nil, Bool.and_self, flatE_map (f := Estimate_av) (fun _ => rfl)]) ?_
 dsimp only [spec_A2Estimates] at h
 obtain ⟨y_1, z1, h⟩ := bd_some h
 have fz1 := Fs_1 z1
 try simp only [go_sem] at fz1
 obtain ⟨y_2, z2, h⟩ := bd_some h
 have fz2 := Fs_10 z2
 try simp only [go_sem] at fz2
 obtain rfl := so_some h
 refine ⟨0, fun L hL => ?_⟩
 simp only [go_sem, ir5, fz1, fz2]


def ir6_v : List Nat := [0, 2]
def ir6 : AFn := ⟨1, 2, .seq (.region false [ VO 1 2 (.alloc (.agg [.int .i64 (0), .str [], .str [], .int .i64 (0), .bool false]))]) (.seq (.region false [ PM 3 0, PO 4 (.call 16 [(.s 0)]), PO 5 (.call 17 [(.s 0)]), ⟨.no, 0, none, .store 5 (.v 1) (.s 0)⟩]) (.ret)), [.cell true 5 1]⟩
noncomputable def t_12 : List (Nat × Ctr) := [(16, c_1), (17, c_6)]
theorem lk_12_16 : look t_12 16 = some c_1 := rfl
theorem lk_12_17 : look t_12 17 = some c_6 := rfl
noncomputable def c_12 : Ctr := mkN t_12 ir6 [.bor]
theorem s_12 : Sound Tryz.prog 6 c_12 := mkN_sound _ (snd_cons s_1 (snd_cons s_6 snd_nil)) (by kernel_rfl : chkFn Tryz.prog 6 ir6 ir6_v = true)
theorem M_12 : c_12.modes = [.bor] := rfl
theorem Fl_12 : c_12.flat = false := rfl
attribute [go_sem] M_12 Fl_12
attribute [go_sem] lk_12_16 lk_12_17
theorem Fs_12 {code : List UInt8} {y_ : Estimate} (h : spec_A2Estimate code = some y_) : c_12.F [.sl 1 (List.map byteAV code)] = ⟨true, Estimate_av y_, [.any]⟩ := by
 refine mkN_E ?_
 dsimp only [spec_A2Estimate] at h
 obtain ⟨y_1, z1, h⟩ := bd_some h
 have fz1 := Fs_1 z1
 try simp only [go_sem] at fz1
 obtain ⟨y_2, z2, h⟩ := bd_some h
 have fz2 := Fs_6 z2
 try simp only [go_sem] at fz2
 obtain rfl := so_some h
 refine ⟨0, fun L hL => ?_⟩
 simp only [go_sem, ir6, fz1, fz2]


def ir53_v : List Nat := [0, 1, 2, 6]
def ir53 : AFn := ⟨3, 4, .seq (.region false [ VO 3 6 (.mov (.c (.bool false)))]) (.seq (.region false [ PM 7 0, PM 8 1, PO 9 (.bin false .geq (.s 1) (.s 0)), PO 10 (.mov (.s 0)), ⟨.push, 11, (some ((.s 0), true)), .mov (.v 0)⟩, ⟨.push, 12, (some ((.s 1), true)), .mov (.v 2)⟩, ⟨.push, 13, (some ((.s 2), true)), .bin false .leq (.s 1) (.s 0)⟩, PO 14 (.pick (.s 3) (.s 0) (.c (.bool false))), VS 3 6 0]) (.ret)), [.t 3]⟩
noncomputable def t_13 : List (Nat × Ctr) := []
noncomputable def c_13 : Ctr := mkF t_13 ir53 [.bor, .bor, .bor]
theorem s_13 : Sound Tryz.prog 53 c_13 := mkF_sound _ rfl snd_nil (by kernel_rfl : chkFn Tryz.prog 53 ir53 ir53_v = true)
theorem M_13 : c_13.modes = [.bor, .bor, .bor] := rfl
theorem Fl_13 : c_13.flat = true := rfl
attribute [go_sem] M_13 Fl_13
theorem Fs_13 {n : Int} {low : Int} {high : Int} {y_ : Bool} (h : impl_in n low high = some y_) : c_13.F [.int .i64 n, .int .i64 low, .int .i64 high] = ⟨true, .bool y_, [.any, .any, .any]⟩ := by
 refine mkF_E rfl ?_
 dsimp only [impl_in] at h
 obtain rfl := so_some h
 refine ⟨0, fun L hL => ?_⟩
 simp only [go_sem, ir53]


def ir54_v : List Nat := [0, 2]
def ir54 : AFn := ⟨1, 2, .seq (.region false [ VO 1 2 (.mov (.c (.bool false)))]) (.seq (.region false [ PM 3 0, PO 4 (.call 53 [(.s 0), (I6 0), (I6 10000000)]), VS 1 2 0]) (.ret)), [.t 1]⟩
noncomputable def t_14 : List (Nat × Ctr) := [(53, c_13)]
theorem lk_14_53 : look t_14 53 = some c_13 := rfl
noncomputable def c_14 : Ctr := mkF t_14 ir54 [.bor]
theorem s_14 : Sound Tryz.prog 54 c_14 := mkF_sound _ rfl (snd_cons s_13 snd_nil) (by kernel_rfl : chkFn Tryz.prog 54 ir54 ir54_v = true)
theorem M_14 : c_14.modes = [.bor] := rfl
theorem Fl_14 : c_14.flat = true := rfl
attribute [go_sem] M_14 Fl_14
attribute [go_sem] lk_14_53
theorem Fs_14 {t : Int} {y_ : Bool} (h : impl_ValidTime t = some y_) : c_14.F [.int .i64 t] = ⟨true, .bool y_, [.any]⟩ := by
 refine mkF_E rfl ?_
 dsimp only [impl_ValidTime] at h
 obtain ⟨y_1, z1, h⟩ := bd_some h
 have fz1 := Fs_13 z1
 try simp only [go_sem] at fz1
 obtain rfl := so_some h
 refine ⟨0, fun L hL => ?_⟩
 simp only [go_sem, ir54, fz1]


def ir55_b0 : IR := .seq (.region false [ VO 7 17 (.bin false .lss (.v 6) (.v 5))]) (.seq (.cond (.v 7) (.skip) (.exit 0)) (.seq (.block 1 (.seq (.region false [ PM 18 6, VS 2 3 0]) (.seq (.region false [ PM 19 0, PM 20 2, PO 21 (.ixStr (.s 1) (.s 0)), PO 22 (.bin false .geq (.s 0) (.c (.int .u8 (97)))), PO 23 (.mov (.s 0)), ⟨.push, 24, (some ((.s 0), true)), .mov (.v 0)⟩, ⟨.push, 25, (some ((.s 1), true)), .mov (.v 2)⟩, ⟨.push, 26, (some ((.s 2), true)), .ixStr (.s 1) (.s 0)⟩, ⟨.push, 27, (some ((.s 3), true)), .bin false .leq (.s 0) (.c (.int .u8 (122)))⟩, PO 28 (.pick (.s 4) (.s 0) (.c
 (.bool false))), VS 3 4 0]) (.seq (.region false [ PM 29 0, PM 30 2, PO 31 (.ixStr (.s 1) (.s 0)), PO 32 (.bin false .geq (.s 0) (.c (.int .u8 (48)))), PO 33 (.mov (.s 0)), ⟨.push, 34, (some ((.s 0), true)), .mov (.v 0)⟩, ⟨.push, 35, (some ((.s 1), true)), .mov (.v 2)⟩, ⟨.push, 36, (some ((.s 2), true)), .ixStr (.s 1) (.s 0)⟩, ⟨.push, 37, (some ((.s 3), true)), .bin false .leq (.s 0) (.c (.int .u8 (57)))⟩, PO 38 (.pick (.s 4) (.s 0) (.c (.bool false))), PO 39 (.mov (.s 0)), ⟨.push, 40, (some ((.s 0), false)), .mov (.v 0)⟩, ⟨.push, 41, (some ((.s 1), false)), .mov (.v 2)⟩, ⟨.push, 42, (some
 ((.s 2), false)), .ixStr (.s 1) (.s 0)⟩, ⟨.push, 43, (some ((.s 3), false)), .bin false .eql (.s 0) (.c (.int .u8 (45)))⟩, PO 44 (.pick (.s 4) (.c (.bool true)) (.s 0)), VS 4 5 0]) (.test false [ PM 45 3, PO 46 (.un .not (.s 0)), PO 47 (.mov (.s 0)), ⟨.push, 48, (some ((.s 0), true)), .mov (.v 2)⟩, ⟨.push, 49, (some ((.s 1), true)), .bin false .eql (.s 0) (I6 0)⟩, ⟨.push, 50, (some ((.s 2), true)), .mov (.s 0)⟩, ⟨.push, 51, (some ((.s 0), false)), .mov (.v 4)⟩, ⟨.push, 52, (some ((.s 1), false)), .un .not (.s 0)⟩, ⟨.push, 53, (some ((.s 5), true)), .pick (.s 2) (.c (.bool true)) (.s 0)⟩, PO 54
 (.pick (.s 6) (.s 0) (.c (.bool false)))] (.s 0) (.seq (.region false [ VO 1 2 (.mov (.c (.bool false)))]) (.ret)) (.skip)))))) (.region false [ PO 55 (.bin false .add (.v 6) (I6 1)), VS 6 16 0])))
def ir55_k0 : List Bool := [true, false, false, false, false, true, true, false]
def ir55_o0 : List Bool := [false, false, false, false, false, false, false, false]
def ir55_r0 : List Bool := [false, true, false, false, false, false, false, false]
def ir55_v : List Nat := [0, 2, 3, 4, 5, 15, 16, 17]
def ir55 : AFn := ⟨1, 8, .seq (.region false [ VO 1 2 (.mov (.c (.bool false)))]) (.seq (.test false [ PM 6 0, PO 7 (.len true (.s 0)), PO 8 (.bin false .lss (.s 0) (I6 1)), PO 9 (.mov (.s 0)), ⟨.push, 10, (some ((.s 0), false)), .mov (.v 0)⟩, ⟨.push, 11, (some ((.s 1), false)), .len true (.s 0)⟩, ⟨.push, 12, (some ((.s 2), false)), .bin false .gtr (.s 0) (I6 12)⟩, PO 13 (.pick (.s 3) (.c (.bool true)) (.s 0))] (.s 0) (.seq (.region false [ VO 1 2 (.mov (.c (.bool false)))]) (.ret)) (.skip)) (.seq (.seq (.region false [ PM 14 0, VO 5 15 (.len true (.s 0)), VO 6 16 (.mov (I6 0))]) (.block 0
 (.loop ir55_k0 ir55_o0 ir55_r0 ir55_b0))) (.seq (.region false [ VO 1 2 (.mov (.c (.bool true)))]) (.ret)))), [.t 1]⟩
noncomputable def t_15 : List (Nat × Ctr) := []
noncomputable def c_15 : Ctr := mkF t_15 ir55 [.bor]
theorem s_15 : Sound Tryz.prog 55 c_15 := mkF_sound _ rfl snd_nil (by kernel_rfl : chkFn Tryz.prog 55 ir55 ir55_v = true)
theorem M_15 : c_15.modes = [.bor] := rfl
theorem Fl_15 : c_15.flat = true := rfl
attribute [go_sem] M_15 Fl_15
def E_15_l1 (s_ : List UInt8) (t15 : Int) : Int → St
 | t16 => ⟨[.str s_, .any, .any, .any, .any, .int .i64 t15, .int .i64 t16, .any], [], [], true⟩
def R_15_l1 (s_ : List UInt8) (t15 : Int) : (Unit ⊕ Bool) → Res
 | .inl y => (.exit 0, ⟨[.any, .any, .any, .any, .any, .any, .any, .any], [], [], true⟩)
 | .inr y => (.ret, ⟨[.any, .bool y, .any, .any, .any, .any, .any, .any], [], [], true⟩)
theorem impl_IsName_l1_ex {s_ : List UInt8} {t15 : Int} {sgm_ : Int} {rho_ : Unit ⊕ Bool} (h : whileE (impl_IsName_l1 s_ t15) sgm_ = some rho_) : ∃ L0, ∀ L, L0 ≤ L → iter (exec (look t_15) L ir55_b0) ir55_k0 ir55_o0 ir55_r0 L (E_15_l1 s_ t15 sgm_) = R_15_l1 s_ t15 rho_ := by
 refine loop_ex (E := E_15_l1 s_ t15) (R := R_15_l1 s_ t15) (fun y => by first | (intro c; cases c) | (rcases y with y | y <;> (intro c; cases c)) | (rcases y with y | y | y <;> (intro c; cases c))) ?_ h
 clear h
 intro t16 o_ h
 dsimp only [impl_IsName_l1] at h
 rcases it_some h with ⟨z2, h⟩ | ⟨z2, h⟩
 ·try simp only [go_sem, n1, n2, n3, n4] at z2
  all_goals
  obtain ⟨z3, h⟩ := ck_some h
  try simp only [go_sem, n1, n2, n3, n4, z2] at z3
  all_goals
  rcases it_some h with ⟨z4, h⟩ | ⟨z4, h⟩
  ·try simp only [go_sem, n1, n2, n3, n4, z2, z3] at z4
   all_goals
   obtain rfl := so_some h
   refine ⟨0, fun L hL => ?_⟩
   simp only [go_sem, ir55, E_15_l1, R_15_l1, ir55_b0, ir55_k0, ir55_o0, ir55_r0, z2, z3, z4]
  ·try simp only [go_sem, n1, n2, n3, n4, z2, z3] at z4
   all_goals
   obtain rfl := so_some h
   refine ⟨0, fun L hL => ?_⟩
   simp only [go_sem, ir55, E_15_l1, R_15_l1, ir55_b0, ir55_k0, ir55_o0, ir55_r0, z2, z3, z4]
 ·try simp only [go_sem, n1, n2, n3, n4] at z2
  all_goals
  obtain rfl := so_some h
  refine ⟨0, fun L hL => ?_⟩
  simp only [go_sem, ir55, E_15_l1, R_15_l1, ir55_b0, ir55_k0, ir55_o0, ir55_r0, z2]

theorem Fs_15 {s_ : List UInt8} {y_ : Bool} (h : impl_IsName s_ = some y_) : c_15.F [.str s_] = ⟨true, .bool y_, [.any]⟩ := by
 refine mkF_E rfl ?_
 dsimp only [impl_IsName] at h
 rcases it_some h with ⟨z1, h⟩ | ⟨z1, h⟩
 ·try simp only [go_sem, n1, n2, n3, n4] at z1
  all_goals
  obtain rfl := so_some h
  refine ⟨0, fun L hL => ?_⟩
  simp only [go_sem, ir55, E_15_l1, R_15_l1, ir55_k0, ir55_o0, ir55_r0, z1]
 ·try simp only [go_sem, n1, n2, n3, n4] at z1
  all_goals
  obtain ⟨y_5, z5, h⟩ := bd_some h
  obtain ⟨Lz5, ez5⟩ := impl_IsName_l1_ex z5
  rcases y_5 with y_5a | y_5b
  ·dsimp only at h
   obtain rfl := so_some h
   refine ⟨Lz5, fun L hL => ?_⟩
   have ez5 := ez5 L (by omega)
   try simp only [go_sem, E_15_l1, R_15_l1, ir55_k0, ir55_o0, ir55_r0, z1] at ez5
   simp only [go_sem, ir55, E_15_l1, R_15_l1, ir55_k0, ir55_o0, ir55_r0, z1, ez5]
  ·dsimp only at h
   obtain rfl := so_some h
   refine ⟨Lz5, fun L hL => ?_⟩
   have ez5 := ez5 L (by omega)
   try simp only [go_sem, E_15_l1, R_15_l1, ir55_k0, ir55_o0, ir55_r0, z1] at ez5
   simp only [go_sem, ir55, E_15_l1, R_15_l1, ir55_k0, ir55_o0, ir55_r0, z1, ez5]


def ir56_v : List Nat := [0, 2]
def ir56 : AFn := ⟨1, 2, .seq (.region false [ VO 1 2 (.mov (.c (.bool false)))]) (.seq (.region false [ PM 3 0, PO 4 (.call 53 [(.s 0), (.c (.int .i64 (-2000))), (I6 20000)]), VS 1 2 0]) (.ret)), [.t 1]⟩
noncomputable def t_16 : List (Nat × Ctr) := [(53, c_13)]
theorem lk_16_53 : look t_16 53 = some c_13 := rfl
noncomputable def c_16 : Ctr := mkF t_16 ir56 [.bor]
theorem s_16 : Sound Tryz.prog 56 c_16 := mkF_sound _ rfl (snd_cons s_13 snd_nil) (by kernel_rfl : chkFn Tryz.prog 56 ir56 ir56_v = true)
theorem M_16 : c_16.modes = [.bor] := rfl
theorem Fl_16 : c_16.flat = true := rfl
attribute [go_sem] M_16 Fl_16
attribute [go_sem] lk_16_53
theorem Fs_16 {m : Int} {y_ : Bool} (h : impl_ValidMag m = some y_) : c_16.F [.int .i64 m] = ⟨true, .bool y_, [.any]⟩ := by
 refine mkF_E rfl ?_
 dsimp only [impl_ValidMag] at h
 obtain ⟨y_1, z1, h⟩ := bd_some h
 have fz1 := Fs_13 z1
 try simp only [go_sem] at fz1
 obtain rfl := so_some h
 refine ⟨0, fun L hL => ?_⟩
 simp only [go_sem, ir56, fz1]


def ir32_v : List Nat := [0, 1, 2]
def ir32 : AFn := ⟨1, 3, .seq (.region false [ VO 1 1 (.box (.v 0)), VO 2 2 (.mov (.c (.bool false)))]) (.seq (.region false [ PO 3 (.fldAddr 0 (.v 1)), PO 4 (.load false 1 (.s 0)), PO 5 (.call 54 [(.s 0)]), PO 6 (.mov (.s 0)), ⟨.push, 7, (some ((.s 0), true)), .fldAddr 1 (.v 1)⟩, ⟨.push, 8, (some ((.s 1), true)), .load false 1 (.s 0)⟩, ⟨.push, 9, (some ((.s 2), true)), .call 55 [(.s 0)]⟩, PO 10 (.pick (.s 3) (.s 0) (.c (.bool false))), PO 11 (.mov (.s 0)), ⟨.push, 12, (some ((.s 0), true)), .fldAddr 2 (.v 1)⟩, ⟨.push, 13, (some ((.s 1), true)), .load false 1 (.s 0)⟩, ⟨.push, 14, (some ((.s 2),
 true)), .call 55 [(.s 0)]⟩, PO 15 (.pick (.s 3) (.s 0) (.c (.bool false))), PO 16 (.mov (.s 0)), ⟨.push, 17, (some ((.s 0), true)), .fldAddr 3 (.v 1)⟩, ⟨.push, 18, (some ((.s 1), true)), .load false 1 (.s 0)⟩, ⟨.push, 19, (some ((.s 2), true)), .call 56 [(.s 0)]⟩, PO 20 (.pick (.s 3) (.s 0) (.c (.bool false))), VS 2 2 0]) (.ret)), [.t 2]⟩
noncomputable def t_17 : List (Nat × Ctr) := [(54, c_14), (55, c_15), (56, c_16)]
theorem lk_17_54 : look t_17 54 = some c_14 := rfl
theorem lk_17_55 : look t_17 55 = some c_15 := rfl
theorem lk_17_56 : look t_17 56 = some c_16 := rfl
noncomputable def c_17 : Ctr := mkF t_17 ir32 [.bor]
theorem s_17 : Sound Tryz.prog 32 c_17 := mkF_sound _ rfl (snd_cons s_14 (snd_cons s_15 (snd_cons s_16 snd_nil))) (by kernel_rfl : chkFn Tryz.prog 32 ir32 ir32_v = true)
theorem M_17 : c_17.modes = [.bor] := rfl
theorem Fl_17 : c_17.flat = true := rfl
attribute [go_sem] M_17 Fl_17
attribute [go_sem] lk_17_54 lk_17_55 lk_17_56
theorem Fs_17 {e_ : Estimate} {y_ : Bool} (h : impl_isEstimate e_ = some y_) : c_17.F [Estimate_av e_] = ⟨true, .bool y_, [.any]⟩ := by
 refine mkF_E rfl ?_
 dsimp only [impl_isEstimate] at h
 obtain ⟨y_1, z1, h⟩ := bd_some h
 have fz1 := Fs_14 z1
 try simp only [go_sem] at fz1
 obtain ⟨z2, h⟩ := ck_some h
 rcases or_split z2 with ⟨gz2, z2⟩ | gz2
 ·try simp only [go_sem, n1, n2, n3, n4] at gz2
  all_goals
  obtain ⟨y_2, hz2⟩ := Option.isSome_iff_exists.1 z2
  have fz2 := Fs_15 hz2
  try simp only [go_sem, n1, n2, n3, n4, gz2] at hz2
  all_goals
  try simp only [go_sem, gz2] at fz2
  obtain ⟨z3, h⟩ := ck_some h
  rcases or_split z3 with ⟨gz3, z3⟩ | gz3
  ·try simp only [go_sem, n1, n2, n3, n4, gz2, hz2] at gz3
   all_goals
   obtain ⟨y_3, hz3⟩ := Option.isSome_iff_exists.1 z3
   have fz3 := Fs_15 hz3
   try simp only [go_sem, n1, n2, n3, n4, gz2, hz2, gz3] at hz3
   all_goals
   try simp only [go_sem, gz2, hz2, gz3] at fz3
   obtain ⟨z4, h⟩ := ck_some h
   rcases or_split z4 with ⟨gz4, z4⟩ | gz4
   ·try simp only [go_sem, n1, n2, n3, n4, gz2, hz2, gz3, hz3] at gz4
    all_goals
    obtain ⟨y_4, hz4⟩ := Option.isSome_iff_exists.1 z4
    have fz4 := Fs_16 hz4
    try simp only [go_sem, n1, n2, n3, n4, gz2, hz2, gz3, hz3, gz4] at hz4
    all_goals
    try simp only [go_sem, gz2, hz2, gz3, hz3, gz4] at fz4
    obtain rfl := so_some h
    refine ⟨0, fun L hL => ?_⟩
    simp only [go_sem, ir32, fz1, gz2, hz2, fz2, gz3, hz3, fz3, gz4, hz4, fz4]
   ·rcases and_f gz4 with gz4a | ⟨gz4a, gz4b⟩
    ·try simp only [go_sem, n1, n2, n3, n4, gz2, hz2, gz3, hz3] at gz4a
     all_goals
     (simp_all)
    ·obtain ⟨gz4aa, gz4ab⟩ := and_t gz4a
     try simp only [go_sem, n1, n2, n3, n4, gz2, hz2, gz3, hz3] at gz4aa
     all_goals
     try simp only [go_sem, n1, n2, n3, n4, gz2, hz2, gz3, hz3, gz4aa] at gz4ab
     all_goals
     try simp only [go_sem, n1, n2, n3, n4, gz2, hz2, gz3, hz3, gz4aa, gz4ab] at gz4b
     all_goals
     obtain rfl := so_some h
     refine ⟨0, fun L hL => ?_⟩
     simp only [go_sem, ir32, fz1, gz2, hz2, fz2, gz3, hz3, fz3, gz4aa, gz4ab, gz4b]
  ·rcases and_f gz3 with gz3a | ⟨gz3a, gz3b⟩
   ·try simp only [go_sem, n1, n2, n3, n4, gz2, hz2] at gz3a
    all_goals
    (simp_all)
   ·try simp only [go_sem, n1, n2, n3, n4, gz2, hz2] at gz3a
    all_goals
    try simp only [go_sem, n1, n2, n3, n4, gz2, hz2, gz3a] at gz3b
    all_goals
    obtain ⟨z4, h⟩ := ck_some h
    obtain rfl := so_some h
    refine ⟨0, fun L hL => ?_⟩
    simp only [go_sem, ir32, fz1, gz2, hz2, fz2, gz3a, gz3b]
 ·try simp only [go_sem, n1, n2, n3, n4] at gz2
  all_goals
  obtain ⟨z3, h⟩ := ck_some h
  obtain ⟨z4, h⟩ := ck_some h
  obtain rfl := so_some h
  refine ⟨0, fun L hL => ?_⟩
  simp only [go_sem, ir32, fz1, gz2]


def ir60_v : List Nat := [0, 2]
def ir60 : AFn := ⟨1, 2, .seq (.region false [ VO 1 2 (.mov (.c (.bool false)))]) (.seq (.region false [ PM 3 0, PM 4 0, PO 5 (.bin false .neq (.s 1) (.s 0)), VS 1 2 0]) (.ret)), [.t 1]⟩
noncomputable def t_18 : List (Nat × Ctr) := []
noncomputable def c_18 : Ctr := mkF t_18 ir60 [.bor]
theorem s_18 : Sound Tryz.prog 60 c_18 := mkF_sound _ rfl snd_nil (by kernel_rfl : chkFn Tryz.prog 60 ir60 ir60_v = true)
theorem M_18 : c_18.modes = [.bor] := rfl
theorem Fl_18 : c_18.flat = true := rfl
attribute [go_sem] M_18 Fl_18
theorem Fs_18 {x : Int} {y_ : Bool} (h : cmp_isNaN_int64 x = some y_) : c_18.F [.int .i64 x] = ⟨true, .bool y_, [.any]⟩ := by
 refine mkF_E rfl ?_
 dsimp only [cmp_isNaN_int64] at h
 obtain rfl := so_some h
 refine ⟨0, fun L hL => ?_⟩
 simp only [go_sem, ir60]


def ir40_v : List Nat := [0, 1, 4, 5, 6]
def ir40 : AFn := ⟨2, 5, .seq (.region false [ VO 2 4 (.mov (I6 0))]) (.seq (.region false [ PM 7 0, PO 8 (.call 60 [(.s 0)]), VS 3 5 0]) (.seq (.region false [ PM 9 1, PO 10 (.call 60 [(.s 0)]), VS 4 6 0]) (.seq (.test false [ PM 11 3] (.s 0) (.seq (.test false [ PM 12 4] (.s 0) (.seq (.region false [ VO 2 4 (.mov (I6 0))]) (.ret)) (.skip)) (.seq (.region false [ VO 2 4 (.mov (.c (.int .i64 (-1))))]) (.ret))) (.skip)) (.seq (.test false [ PM 13 4] (.s 0) (.seq (.region false [ VO 2 4 (.mov (I6 1))]) (.ret)) (.skip)) (.seq (.test false [ PM 14 0, PM 15 1, PO 16 (.bin false .lss (.s 1) (.s 0))]
 (.s 0) (.seq (.region false [ VO 2 4 (.mov (.c (.int .i64 (-1))))]) (.ret)) (.skip)) (.seq (.test false [ PM 17 0, PM 18 1, PO 19 (.bin false .gtr (.s 1) (.s 0))] (.s 0) (.seq (.region false [ VO 2 4 (.mov (I6 1))]) (.ret)) (.skip)) (.seq (.region false [ VO 2 4 (.mov (I6 0))]) (.ret)))))))), [.t 2]⟩
noncomputable def t_19 : List (Nat × Ctr) := [(60, c_18)]
theorem lk_19_60 : look t_19 60 = some c_18 := rfl
noncomputable def c_19 : Ctr := mkF t_19 ir40 [.bor, .bor]
theorem s_19 : Sound Tryz.prog 40 c_19 := mkF_sound _ rfl (snd_cons s_18 snd_nil) (by kernel_rfl : chkFn Tryz.prog 40 ir40 ir40_v = true)
theorem M_19 : c_19.modes = [.bor, .bor] := rfl
theorem Fl_19 : c_19.flat = true := rfl
attribute [go_sem] M_19 Fl_19
attribute [go_sem] lk_19_60
theorem Fs_19 {x : Int} {y : Int} {y_ : Int} (h : cmp_Compare_int64 x y = some y_) : c_19.F [.int .i64 x, .int .i64 y] = ⟨true, .int .i64 y_, [.any, .any]⟩ := by
 refine mkF_E rfl ?_
 dsimp only [cmp_Compare_int64] at h
 obtain ⟨y_1, z1, h⟩ := bd_some h
 have fz1 := Fs_18 z1
 try simp only [go_sem] at fz1
 obtain ⟨y_2, z2, h⟩ := bd_some h
 have fz2 := Fs_18 z2
 try simp only [go_sem] at fz2
 rcases it_some h with ⟨z3, h⟩ | ⟨z3, h⟩
 ·try simp only [go_sem, n1, n2, n3, n4] at z3
  all_goals
  rcases it_some h with ⟨z4, h⟩ | ⟨z4, h⟩
  ·try simp only [go_sem, n1, n2, n3, n4, z3] at z4
   all_goals
   obtain rfl := so_some h
   refine ⟨0, fun L hL => ?_⟩
   simp only [go_sem, ir40, fz1, fz2, z3, z4]
  ·try simp only [go_sem, n1, n2, n3, n4, z3] at z4
   all_goals
   obtain rfl := so_some h
   refine ⟨0, fun L hL => ?_⟩
   simp only [go_sem, ir40, fz1, fz2, z3, z4]
 ·try simp only [go_sem, n1, n2, n3, n4] at z3
  all_goals
  rcases it_some h with ⟨z5, h⟩ | ⟨z5, h⟩
  ·try simp only [go_sem, n1, n2, n3, n4, z3] at z5
   all_goals
   obtain rfl := so_some h
   refine ⟨0, fun L hL => ?_⟩
   simp only [go_sem, ir40, fz1, fz2, z3, z5]
  ·try simp only [go_sem, n1, n2, n3, n4, z3] at z5
   all_goals
   rcases it_some h with ⟨z6, h⟩ | ⟨z6, h⟩
   ·try simp only [go_sem, n1, n2, n3, n4, z3, z5] at z6
    all_goals
    obtain rfl := so_some h
    refine ⟨0, fun L hL => ?_⟩
    simp only [go_sem, ir40, fz1, fz2, z3, z5, z6]
   ·try simp only [go_sem, n1, n2, n3, n4, z3, z5] at z6
    all_goals
    rcases it_some h with ⟨z7, h⟩ | ⟨z7, h⟩
    ·try simp only [go_sem, n1, n2, n3, n4, z3, z5, z6] at z7
     all_goals
     obtain rfl := so_some h
     refine ⟨0, fun L hL => ?_⟩
     simp only [go_sem, ir40, fz1, fz2, z3, z5, z6, z7]
    ·try simp only [go_sem, n1, n2, n3, n4, z3, z5, z6] at z7
     all_goals
     obtain rfl := so_some h
     refine ⟨0, fun L hL => ?_⟩
     simp only [go_sem, ir40, fz1, fz2, z3, z5, z6, z7]


theorem s_hCmp : Sound Tryz.prog 79 c_hCmp := hCmp_sound Tryz.func79 (by kernel_rfl) (by kernel_rfl) (by kernel_rfl) (by kernel_rfl)

def ir61_v : List Nat := [0, 1, 4]
def ir61 : AFn := ⟨2, 3, .seq (.region false [ VO 2 4 (.mov (I6 0))]) (.seq (.region false [ PM 5 0, PM 6 1, PO 7 (.call 79 [(.s 1), (.s 0)]), VS 2 4 0]) (.ret)), [.t 2]⟩
noncomputable def t_21 : List (Nat × Ctr) := [(79, c_hCmp)]
theorem lk_21_79 : look t_21 79 = some c_hCmp := rfl
noncomputable def c_21 : Ctr := mkF t_21 ir61 [.bor, .bor]
theorem s_21 : Sound Tryz.prog 61 c_21 := mkF_sound _ rfl (snd_cons s_hCmp snd_nil) (by kernel_rfl : chkFn Tryz.prog 61 ir61 ir61_v = true)
theorem M_21 : c_21.modes = [.bor, .bor] := rfl
theorem Fl_21 : c_21.flat = true := rfl
attribute [go_sem] M_21 Fl_21
attribute [go_sem] lk_21_79
theorem Fs_21 {a : List UInt8} {b : List UInt8} {y_ : Int} (h : internal_bytealg_CompareString a b = some y_) : c_21.F [.str a, .str b] = ⟨true, .int .i64 y_, [.any, .any]⟩ := by
 refine mkF_E rfl ?_
 dsimp only [internal_bytealg_CompareString] at h
 obtain ⟨y_1, z1, h⟩ := bd_some h
 have fz1 := Fs_hCmp z1
 try simp only [go_sem] at fz1
 obtain rfl := so_some h
 refine ⟨0, fun L hL => ?_⟩
 simp only [go_sem, ir61, fz1]


def ir41_v : List Nat := [0, 1, 4]
def ir41 : AFn := ⟨2, 3, .seq (.region false [ VO 2 4 (.mov (I6 0))]) (.seq (.region false [ PM 5 0, PM 6 1, PO 7 (.call 61 [(.s 1), (.s 0)]), VS 2 4 0]) (.ret)), [.t 2]⟩
noncomputable def t_22 : List (Nat × Ctr) := [(61, c_21)]
theorem lk_22_61 : look t_22 61 = some c_21 := rfl
noncomputable def c_22 : Ctr := mkF t_22 ir41 [.bor, .bor]
theorem s_22 : Sound Tryz.prog 41 c_22 := mkF_sound _ rfl (snd_cons s_21 snd_nil) (by kernel_rfl : chkFn Tryz.prog 41 ir41 ir41_v = true)
theorem M_22 : c_22.modes = [.bor, .bor] := rfl
theorem Fl_22 : c_22.flat = true := rfl
attribute [go_sem] M_22 Fl_22
attribute [go_sem] lk_22_61
theorem Fs_22 {a : List UInt8} {b : List UInt8} {y_ : Int} (h : strings_Compare a b = some y_) : c_22.F [.str a, .str b] = ⟨true, .int .i64 y_, [.any, .any]⟩ := by
 refine mkF_E rfl ?_
 dsimp only [strings_Compare] at h
 obtain ⟨y_1, z1, h⟩ := bd_some h
 have fz1 := Fs_21 z1
 try simp only [go_sem] at fz1
 obtain rfl := so_some h
 refine ⟨0, fun L hL => ?_⟩
 simp only [go_sem, ir41, fz1]


def ir39_b0 : IR := .seq (.region false [ VO 7 9 (.bin false .lss (.v 6) (.v 5))]) (.seq (.cond (.v 7) (.skip) (.exit 0)) (.seq (.block 1 (.seq (.region false [ PO 10 (.ixAddr 1 (.v 4) (.v 6)), PO 11 (.load false 1 (.s 0)), VS 3 5 0]) (.test false [ PM 12 3, PM 13 2, PO 14 (.bin false .neq (.s 1) (.s 0))] (.s 0) (.seq (.region false [ PM 15 3, VS 1 2 0]) (.ret)) (.skip)))) (.region false [ PO 16 (.bin false .add (.v 6) (I6 1)), VS 6 8 0])))
def ir39_k0 : List Bool := [false, false, true, false, true, true, true, false]
def ir39_o0 : List Bool := [false, false, true, false, false, false, false, false]
def ir39_r0 : List Bool := [false, true, false, false, false, false, false, false]
def ir39_v : List Nat := [0, 2, 3, 5, 6, 7, 8, 9]
def ir39 : AFn := ⟨1, 8, .seq (.region false [ VO 1 2 (.mov (I6 0))]) (.seq (.region false [ VO 2 3 (.mov (I6 0))]) (.seq (.seq (.region false [ VO 4 6 (.mov (.v 0)), VO 5 7 (.len false (.v 4)), VO 6 8 (.mov (I6 0))]) (.block 0 (.loop ir39_k0 ir39_o0 ir39_r0 ir39_b0))) (.seq (.region false [ PM 17 2, VS 1 2 0]) (.ret)))), [.t 1]⟩
noncomputable def t_23 : List (Nat × Ctr) := []
noncomputable def c_23 : Ctr := mkF t_23 ir39 [.bor]
theorem s_23 : Sound Tryz.prog 39 c_23 := mkF_sound _ rfl snd_nil (by kernel_rfl : chkFn Tryz.prog 39 ir39 ir39_v = true)
theorem M_23 : c_23.modes = [.bor] := rfl
theorem Fl_23 : c_23.flat = true := rfl
attribute [go_sem] M_23 Fl_23
def E_23_l1 (zero : Int) (t6 : List Int) (t7 : Int) : Int → St
 | t8 => ⟨[.any, .any, .int .i64 zero, .any, .sl 1 (List.map (AV.int .i64) t6), .int .i64 t7, .int .i64 t8, .any], [], [], true⟩
def R_23_l1 (zero : Int) (t6 : List Int) (t7 : Int) : (Unit ⊕ Int) → Res
 | .inl y => (.exit 0, ⟨[.any, .any, .int .i64 zero, .any, .any, .any, .any, .any], [], [], true⟩)
 | .inr y => (.ret, ⟨[.any, .int .i64 y, .any, .any, .any, .any, .any, .any], [], [], true⟩)
theorem cmp_Or_int_l1_ex {zero : Int} {t6 : List Int} {t7 : Int} {sgm_ : Int} {rho_ : Unit ⊕ Int} (h : whileE (cmp_Or_int_l1 zero t6 t7) sgm_ = some rho_) : ∃ L0, ∀ L, L0 ≤ L → iter (exec (look t_23) L ir39_b0) ir39_k0 ir39_o0 ir39_r0 L (E_23_l1 zero t6 t7 sgm_) = R_23_l1 zero t6 t7 rho_ := by
 refine loop_ex (E := E_23_l1 zero t6 t7) (R := R_23_l1 zero t6 t7) (fun y => by first | (intro c; cases c) | (rcases y with y | y <;> (intro c; cases c)) | (rcases y with y | y | y <;> (intro c; cases c))) ?_ h
 clear h
 intro t8 o_ h
 dsimp only [cmp_Or_int_l1] at h
 rcases it_some h with ⟨z1, h⟩ | ⟨z1, h⟩
 ·try simp only [go_sem, n1, n2, n3, n4] at z1
  all_goals
  obtain ⟨z2, h⟩ := ck_some h
  have lz2 := ix_lt z2
  have xz2 := getD_mapD (AV.int .i64) t6 lz2
  try simp only [go_sem] at lz2
  try simp only [go_sem] at xz2
  try simp only [go_sem, n1, n2, n3, n4, z1] at z2
  all_goals
  rcases it_some h with ⟨z3, h⟩ | ⟨z3, h⟩
  ·try simp only [go_sem, n1, n2, n3, n4, z1, z2] at z3
   all_goals
   obtain rfl := so_some h
   refine ⟨0, fun L hL => ?_⟩
   simp only [go_sem, ir39, E_23_l1, R_23_l1, ir39_b0, ir39_k0, ir39_o0, ir39_r0, z1, z2, lz2, xz2, z3]
  ·try simp only [go_sem, n1, n2, n3, n4, z1, z2] at z3
   all_goals
   obtain rfl := so_some h
   refine ⟨0, fun L hL => ?_⟩
   simp only [go_sem, ir39, E_23_l1, R_23_l1, ir39_b0, ir39_k0, ir39_o0, ir39_r0, z1, z2, lz2, xz2, z3]
 ·try simp only [go_sem, n1, n2, n3, n4] at z1
  all_goals
  obtain rfl := so_some h
  refine ⟨0, fun L hL => ?_⟩
  simp only [go_sem, ir39, E_23_l1, R_23_l1, ir39_b0, ir39_k0, ir39_o0, ir39_r0, z1]

theorem Fs_23 {vals : List Int} {y_ : Int} (h : cmp_Or_int vals = some y_) : c_23.F [.sl 1 (List.map (AV.int .i64) vals)] = ⟨true, .int .i64 y_, [.any]⟩ := by
 refine mkF_E rfl ?_
 dsimp only [cmp_Or_int] at h
 obtain ⟨y_4, z4, h⟩ := bd_some h
 obtain ⟨Lz4, ez4⟩ := cmp_Or_int_l1_ex z4
 rcases y_4 with y_4a | y_4b
 ·dsimp only at h
  obtain rfl := so_some h
  refine ⟨Lz4, fun L hL => ?_⟩
  have ez4 := ez4 L (by omega)
  try simp only [go_sem, E_23_l1, R_23_l1, ir39_k0, ir39_o0, ir39_r0] at ez4
  simp only [go_sem, ir39, E_23_l1, R_23_l1, ir39_k0, ir39_o0, ir39_r0, ez4]
 ·dsimp only at h
  obtain rfl := so_some h
  refine ⟨Lz4, fun L hL => ?_⟩
  have ez4 := ez4 L (by omega)
  try simp only [go_sem, E_23_l1, R_23_l1, ir39_k0, ir39_o0, ir39_r0] at ez4
  simp only [go_sem, ir39, E_23_l1, R_23_l1, ir39_k0, ir39_o0, ir39_r0, ez4]


def ir20_v : List Nat := [0, 1, 2, 3, 4]
def ir20 : AFn := ⟨2, 5, .seq (.region false [ VO 2 2 (.box (.v 0)), VO 3 3 (.box (.v 1)), VO 4 4 (.mov (I6 0))]) (.seq (.anyo 17 [ SO 0 5 (.fldAddr 0 (.v 2)), SO 1 6 (.load false 1 (.s 0)), SO 2 7 (.fldAddr 0 (.v 3)), SO 3 8 (.load false 1 (.s 2)), SO 4 9 (.callp 40 [(.s 1), (.s 3)]), SO 5 10 (.fldAddr 1 (.v 2)), SO 6 11 (.load false 1 (.s 5)), SO 7 12 (.fldAddr 1 (.v 3)), SO 8 13 (.load false 1 (.s 7)), SO 9 14 (.callp 41 [(.s 6), (.s 8)]), SO 10 15 (.fldAddr 2 (.v 2)), SO 11 16 (.load false 1 (.s 10)), SO 12 17 (.fldAddr 2 (.v 3)), SO 13 18 (.load false 1 (.s 12)), SO 14 19 (.callp 41 [(.s
 11), (.s 13)]), SO 15 20 (.pur (.mkSl 1 (.int .i64 (0)) 3 [(0, (.s 4)), (1, (.s 9)), (2, (.s 14))])), SO 16 21 (.callp 39 [(.s 15)]), VS 4 4 16] [] .skip) (.ret)), [.t 4]⟩
noncomputable def t_24 : List (Nat × Ctr) := [(40, c_19), (41, c_22), (39, c_23)]
theorem lk_24_40 : look t_24 40 = some c_19 := rfl
theorem lk_24_41 : look t_24 41 = some c_22 := rfl
theorem lk_24_39 : look t_24 39 = some c_23 := rfl
noncomputable def c_24 : Ctr := mkF t_24 ir20 [.bor, .bor]
theorem s_24 : Sound Tryz.prog 20 c_24 := mkF_sound _ rfl (snd_cons s_19 (snd_cons s_22 (snd_cons s_23 snd_nil))) (by kernel_rfl : chkFn Tryz.prog 20 ir20 ir20_v = true)
theorem M_24 : c_24.modes = [.bor, .bor] := rfl
theorem Fl_24 : c_24.flat = true := rfl
attribute [go_sem] M_24 Fl_24
attribute [go_sem] lk_24_40 lk_24_41 lk_24_39
theorem Fs_24 {a : Estimate} {b : Estimate} {y_ : Int} (h : impl_compareEstimates a b = some y_) : c_24.F [Estimate_av a, Estimate_av b] = ⟨true, .int .i64 y_, [.any, .any]⟩ := by
 refine mkF_E rfl ?_
 dsimp only [impl_compareEstimates] at h
 obtain ⟨y_1, z1, h⟩ := bd_some h
 have fz1 := Fs_19 z1
 try simp only [go_sem] at fz1
 obtain ⟨y_2, z2, h⟩ := bd_some h
 have fz2 := Fs_22 z2
 try simp only [go_sem] at fz2
 obtain ⟨y_3, z3, h⟩ := bd_some h
 have fz3 := Fs_22 z3
 try simp only [go_sem] at fz3
 obtain ⟨y_4, z4, h⟩ := bd_some h
 have fz4 := Fs_23 z4
 try simp only [go_sem] at fz4
 obtain rfl := so_some h
 refine ⟨0, fun L hL => ?_⟩
 simp only [go_sem, ir20, fz1, fz2, fz3, fz4]


def ir14_b0 : IR := .seq (.region false [ VO 7 11 (.bin false .lss (.v 6) (.v 5))]) (.seq (.cond (.v 7) (.skip) (.exit 0)) (.seq (.block 1 (.seq (.region false [ PM 12 6, PO 13 (.ixAddr 5 (.v 4) (.v 6)), PO 14 (.load true 5 (.s 0)), VO 3 4 (.alloc (.agg [.int .i64 (0), .str [], .str [], .int .i64 (0), .bool false])), VS 2 3 2, ⟨.no, 0, none, .store 5 (.v 3) (.s 0)⟩]) (.anyo 17 [ SO 0 15 (.load true 5 (.v 3)), SO 1 16 (.callp 32 [(.s 0)]), SO 2 17 (.un .not (.s 1)), SO 3 18 (.mov (.s 2)), ⟨.slot 4, 19, (some ((.s 3), false)), .mov (.v 2)⟩, ⟨.slot 5, 20, (some ((.s 3), false)), .bin false .gtr
 (.s 4) (I6 0)⟩, ⟨.slot 6, 21, (some ((.s 3), false)), .mov (.s 5)⟩, ⟨.slot 7, 22, (some ((.s 6), true)), .mov (.v 0)⟩, ⟨.slot 8, 23, (some ((.s 6), true)), .mov (.v 2)⟩, ⟨.slot 9, 24, (some ((.s 6), true)), .bin false .sub (.s 8) (I6 1)⟩, ⟨.slot 10, 25, (some ((.s 6), true)), .ixAddr 5 (.s 7) (.s 9)⟩, ⟨.slot 11, 26, (some ((.s 6), true)), .load true 5 (.s 10)⟩, ⟨.slot 12, 27, (some ((.s 6), true)), .load true 5 (.v 3)⟩, ⟨.slot 13, 28, (some ((.s 6), true)), .call 20 [(.s 11), (.s 12)]⟩, ⟨.slot 14, 29, (some ((.s 6), true)), .bin false .geq (.s 13) (I6 0)⟩, ⟨.slot 15, 30, (some ((.s 3),
 false)), .pick (.s 6) (.s 14) (.c (.bool false))⟩, SO 16 31 (.pick (.s 3) (.c (.bool true)) (.s 15))] [] (.cond (.s 16) (.seq (.region false [ VO 1 2 (.mov (.c (.bool false)))]) (.ret)) (.skip))))) (.region false [ PO 32 (.bin false .add (.v 6) (I6 1)), VS 6 10 0])))
def ir14_k0 : List Bool := [true, false, false, false, true, true, true, false]
def ir14_o0 : List Bool := [false, false, false, false, false, false, false, false]
def ir14_r0 : List Bool := [false, true, false, false, false, false, false, false]
def ir14_v : List Nat := [0, 2, 3, 4, 8, 9, 10, 11]
def ir14 : AFn := ⟨1, 8, .seq (.region false [ VO 1 2 (.mov (.c (.bool false)))]) (.seq (.test false [ PM 5 0, PO 6 (.len false (.s 0)), PO 7 (.bin false .gtr (.s 0) (I6 100))] (.s 0) (.seq (.region false [ VO 1 2 (.mov (.c (.bool false)))]) (.ret)) (.skip)) (.seq (.seq (.region false [ VO 4 8 (.mov (.v 0)), VO 5 9 (.len false (.v 4)), VO 6 10 (.mov (I6 0))]) (.block 0 (.loop ir14_k0 ir14_o0 ir14_r0 ir14_b0))) (.seq (.region false [ VO 1 2 (.mov (.c (.bool true)))]) (.ret)))), [.t 1]⟩
noncomputable def t_25 : List (Nat × Ctr) := [(32, c_17), (20, c_24)]
theorem lk_25_32 : look t_25 32 = some c_17 := rfl
theorem lk_25_20 : look t_25 20 = some c_24 := rfl
noncomputable def c_25 : Ctr := mkF t_25 ir14 [.bor]
theorem s_25 : Sound Tryz.prog 14 c_25 := mkF_sound _ rfl (snd_cons s_17 (snd_cons s_24 snd_nil)) (by kernel_rfl : chkFn Tryz.prog 14 ir14 ir14_v = true)
theorem M_25 : c_25.modes = [.bor] := rfl
theorem Fl_25 : c_25.flat = true := rfl
attribute [go_sem] M_25 Fl_25
attribute [go_sem] lk_25_32 lk_25_20
def E_25_l1 (list : List Estimate) (t8 : List Estimate) (t9 : Int) : Int → St
 | t10 => ⟨[.sl 5 (List.map Estimate_av list), .any, .any, .any, .sl 5 (List.map Estimate_av t8), .int .i64 t9, .int .i64 t10, .any], [], [], true⟩
def R_25_l1 (list : List Estimate) (t8 : List Estimate) (t9 : Int) : (Unit ⊕ Bool) → Res
 | .inl y => (.exit 0, ⟨[.any, .any, .any, .any, .any, .any, .any, .any], [], [], true⟩)
 | .inr y => (.ret, ⟨[.any, .bool y, .any, .any, .any, .any, .any, .any], [], [], true⟩)
theorem impl_ValidEstimates_l1_ex {list : List Estimate} {t8 : List Estimate} {t9 : Int} {sgm_ : Int} {rho_ : Unit ⊕ Bool} (h : whileE (impl_ValidEstimates_l1 list t8 t9) sgm_ = some rho_) : ∃ L0, ∀ L, L0 ≤ L → iter (exec (look t_25) L ir14_b0) ir14_k0 ir14_o0 ir14_r0 L (E_25_l1 list t8 t9 sgm_) = R_25_l1 list t8 t9 rho_ := by
 refine loop_ex (E := E_25_l1 list t8 t9) (R := R_25_l1 list t8 t9) (fun y => by first | (intro c; cases c) | (rcases y with y | y <;> (intro c; cases c)) | (rcases y with y | y | y <;> (intro c; cases c))) ?_ h
 clear h
 intro t10 o_ h
 dsimp only [impl_ValidEstimates_l1] at h
 rcases it_some h with ⟨z2, h⟩ | ⟨z2, h⟩
 ·try simp only [go_sem, n1, n2, n3, n4] at z2
  all_goals
  obtain ⟨z3, h⟩ := ck_some h
  have lz3 := ix_lt z3
  have xz3 := getD_mapD Estimate_av t8 lz3
  try simp only [go_sem] at lz3
  try simp only [go_sem] at xz3
  try simp only [go_sem, n1, n2, n3, n4, z2] at z3
  all_goals
  obtain ⟨y_4, z4, h⟩ := bd_some h
  have fz4 := Fs_17 z4
  try simp only [go_sem, z2, z3] at fz4
  obtain ⟨z5, h⟩ := ck_some h
  rcases or_split z5 with ⟨gz5, z5⟩ | gz5
  ·try simp only [go_sem, n1, n2, n3, n4, z2, z3] at gz5
   all_goals
   have lz5 := ix_lt z5
   have xz5 := getD_mapD Estimate_av list lz5
   try simp only [go_sem] at lz5
   try simp only [go_sem] at xz5
   try simp only [go_sem, n1, n2, n3, n4, z2, z3, gz5] at z5
   all_goals
   obtain ⟨z6, h⟩ := ck_some h
   rcases or_split z6 with ⟨gz6, z6⟩ | gz6
   ·try simp only [go_sem, n1, n2, n3, n4, z2, z3, gz5, z5] at gz6
    all_goals
    obtain ⟨y_6, hz6⟩ := Option.isSome_iff_exists.1 z6
    have fz6 := Fs_24 hz6
    try simp only [go_sem, n1, n2, n3, n4, z2, z3, gz5, z5, gz6] at hz6
    all_goals
    try simp only [go_sem, z2, z3, gz5, z5, gz6] at fz6
    rcases it_some h with ⟨z7, h⟩ | ⟨z7, h⟩
    ·try simp only [go_sem, n1, n2, n3, n4, z2, z3, gz5, z5, gz6, hz6] at z7
     all_goals
     obtain rfl := so_some h
     refine ⟨0, fun L hL => ?_⟩
     simp only [go_sem, ir14, E_25_l1, R_25_l1, ir14_b0, ir14_k0, ir14_o0, ir14_r0, z2, z3, lz3, xz3, fz4, gz5, z5, lz5, xz5, gz6, hz6, fz6, z7]
    ·try simp only [go_sem, n1, n2, n3, n4, z2, z3, gz5, z5, gz6, hz6] at z7
     all_goals
     obtain rfl := so_some h
     refine ⟨0, fun L hL => ?_⟩
     simp only [go_sem, ir14, E_25_l1, R_25_l1, ir14_b0, ir14_k0, ir14_o0, ir14_r0, z2, z3, lz3, xz3, fz4, gz5, z5, lz5, xz5, gz6, hz6, fz6, z7]
   ·rcases and_f gz6 with gz6a | ⟨gz6a, gz6b⟩
    ·try simp only [go_sem, n1, n2, n3, n4, z2, z3, gz5, z5] at gz6a
     all_goals
     (simp_all)
    ·have gz6an := no_t gz6a
     have gz6ann := no_f gz6an
     try simp only [go_sem, n1, n2, n3, n4, z2, z3, gz5, z5] at gz6ann
     all_goals
     try simp only [go_sem, n1, n2, n3, n4, z2, z3, gz5, z5, gz6ann] at gz6b
     all_goals
     rcases it_some h with ⟨z7, h⟩ | ⟨z7, h⟩
     ·try simp only [go_sem, n1, n2, n3, n4, z2, z3, gz5, z5, gz6ann, gz6b] at z7
      all_goals
      (simp_all)
     ·try simp only [go_sem, n1, n2, n3, n4, z2, z3, gz5, z5, gz6ann, gz6b] at z7
      all_goals
      obtain rfl := so_some h
      refine ⟨0, fun L hL => ?_⟩
      simp only [go_sem, ir14, E_25_l1, R_25_l1, ir14_b0, ir14_k0, ir14_o0, ir14_r0, z2, z3, lz3, xz3, fz4, gz5, z5, lz5, xz5, gz6ann, gz6b, z7]
  ·rcases and_f gz5 with gz5a | ⟨gz5a, gz5b⟩
   ·have gz5an := no_f gz5a
    have gz5ann := no_t gz5an
    try simp only [go_sem, n1, n2, n3, n4, z2, z3] at gz5ann
    all_goals
    obtain ⟨z6, h⟩ := ck_some h
    rcases it_some h with ⟨z7, h⟩ | ⟨z7, h⟩
    ·try simp only [go_sem, n1, n2, n3, n4, z2, z3, gz5ann] at z7
     all_goals
     obtain rfl := so_some h
     refine ⟨0, fun L hL => ?_⟩
     simp only [go_sem, ir14, E_25_l1, R_25_l1, ir14_b0, ir14_k0, ir14_o0, ir14_r0, z2, z3, lz3, xz3, fz4, gz5ann, z7]
    ·try simp only [go_sem, n1, n2, n3, n4, z2, z3, gz5ann] at z7
     all_goals
     (simp_all)
   ·have gz5an := no_t gz5a
    have gz5ann := no_f gz5an
    try simp only [go_sem, n1, n2, n3, n4, z2, z3] at gz5ann
    all_goals
    try simp only [go_sem, n1, n2, n3, n4, z2, z3, gz5ann] at gz5b
    all_goals
    obtain ⟨z6, h⟩ := ck_some h
    rcases it_some h with ⟨z7, h⟩ | ⟨z7, h⟩
    ·try simp only [go_sem, n1, n2, n3, n4, z2, z3, gz5ann, gz5b] at z7
     all_goals
     (simp_all)
    ·try simp only [go_sem, n1, n2, n3, n4, z2, z3, gz5ann, gz5b] at z7
     all_goals
     obtain rfl := so_some h
     refine ⟨0, fun L hL => ?_⟩
     simp only [go_sem, ir14, E_25_l1, R_25_l1, ir14_b0, ir14_k0, ir14_o0, ir14_r0, z2, z3, lz3, xz3, fz4, gz5ann, gz5b, z7]
 ·try simp only [go_sem, n1, n2, n3, n4] at z2
  all_goals
  obtain rfl := so_some h
  refine ⟨0, fun L hL => ?_⟩
  simp only [go_sem, ir14, E_25_l1, R_25_l1, ir14_b0, ir14_k0, ir14_o0, ir14_r0, z2]

theorem Fs_25 {list : List Estimate} {y_ : Bool} (h : impl_ValidEstimates list = some y_) : c_25.F [.sl 5 (List.map Estimate_av list)] = ⟨true, .bool y_, [.any]⟩ := by
 refine mkF_E rfl ?_
 dsimp only [impl_ValidEstimates] at h
 rcases it_some h with ⟨z1, h⟩ | ⟨z1, h⟩
 ·try simp only [go_sem, n1, n2, n3, n4] at z1
  all_goals
  obtain rfl := so_some h
  refine ⟨0, fun L hL => ?_⟩
  simp only [go_sem, ir14, E_25_l1, R_25_l1, ir14_k0, ir14_o0, ir14_r0, z1]
 ·try simp only [go_sem, n1, n2, n3, n4] at z1
  all_goals
  obtain ⟨y_8, z8, h⟩ := bd_some h
  obtain ⟨Lz8, ez8⟩ := impl_ValidEstimates_l1_ex z8
  rcases y_8 with y_8a | y_8b
  ·dsimp only at h
   obtain rfl := so_some h
   refine ⟨Lz8, fun L hL => ?_⟩
   have ez8 := ez8 L (by omega)
   try simp only [go_sem, E_25_l1, R_25_l1, ir14_k0, ir14_o0, ir14_r0, z1] at ez8
   simp only [go_sem, ir14, E_25_l1, R_25_l1, ir14_k0, ir14_o0, ir14_r0, z1, ez8]
  ·dsimp only at h
   obtain rfl := so_some h
   refine ⟨Lz8, fun L hL => ?_⟩
   have ez8 := ez8 L (by omega)
   try simp only [go_sem, E_25_l1, R_25_l1, ir14_k0, ir14_o0, ir14_r0, z1] at ez8
   simp only [go_sem, ir14, E_25_l1, R_25_l1, ir14_k0, ir14_o0, ir14_r0, z1, ez8]


def ir18_v : List Nat := [0, 2]
def ir18 : AFn := ⟨1, 2, .seq (.region false [ VO 1 2 (.newnil 5)]) (.seq (.region false [ PO 3 (.mkSl 5 (.agg [.int .i64 (0), .str [], .str [], .int .i64 (0), .bool false]) 0 []), PM 4 0, PO 5 (.app 5 56 (.agg [.int .i64 (0), .str [], .str [], .int .i64 (0), .bool false]) (.s 1) (.s 0)), VS 1 2 0]) (.ret)), [.t 1]⟩
noncomputable def t_26 : List (Nat × Ctr) := []
noncomputable def c_26 : Ctr := mkF t_26 ir18 [.bor]
theorem s_26 : Sound Tryz.prog 18 c_26 := mkF_sound _ rfl snd_nil (by kernel_rfl : chkFn Tryz.prog 18 ir18 ir18_v = true)
theorem M_26 : c_26.modes = [.bor] := rfl
theorem Fl_26 : c_26.flat = true := rfl
attribute [go_sem] M_26 Fl_26
theorem Fs_26 {list : List Estimate} {y_ : (List Estimate)} (h : impl_copyOf_impl_Estimate list = some y_) : c_26.F [.sl 5 (List.map Estimate_av list)] = ⟨true, .fresh 5 (List.map Estimate_av y_), [.any]⟩ := by
 refine mkF_E (by simp only [flatA, flatB, flat1, List.all_cons, List.all_nil, Bool.and_self, flatE_map (f := Estimate_av) (fun _ => rfl)]) ?_
 dsimp only [impl_copyOf_impl_Estimate] at h
 obtain ⟨z1, h⟩ := ck_some h
 try simp only [go_sem, n1, n2, n3, n4] at z1
 all_goals
 obtain rfl := so_some h
 refine ⟨0, fun L hL => ?_⟩
 simp only [go_sem, ir18, z1]


def ir19_b0 : IR := .seq (.test false [ PM 15 7, PM 16 8, PO 17 (.bin false .lss (.s 1) (.s 0))] (.s 0) (.skip) (.exit 0)) (.block 1 (.seq (.region false [ PM 18 7, PM 19 8, PO 20 (.bin false .add (.s 1) (.s 0)), PO 21 (.conv .u64 (.s 0)), PO 22 (.bin false .shr (.s 0) (.c (.int .u64 (1)))), PO 23 (.conv .i64 (.s 0)), VS 9 11 0]) (.anyo 8 [ SO 0 24 (.mov (.v 2)), SO 1 25 (.mov (.v 0)), SO 2 26 (.mov (.v 9)), SO 3 27 (.ixAddr 5 (.s 1) (.s 2)), SO 4 28 (.load true 5 (.s 3)), SO 5 29 (.load true 5 (.v 3)), SO 6 30 (.pur (.callv (.s 0) [(.s 4), (.s 5)])), SO 7 31 (.bin false .lss (.s 6) (I6 0))] []
 (.cond (.s 7) (.region false [ PM 32 9, PO 33 (.bin false .add (.s 0) (I6 1)), VS 7 9 0]) (.region false [ PM 34 9, VS 8 10 0])))))
def ir19_k0 : List Bool := [true, false, true, true, false, false, true, true, true, false]
def ir19_o0 : List Bool := [true, false, true, true, false, false, true, true, false, false]
def ir19_r0 : List Bool := [false, false, false, false, true, true, false, false, false, false]
def ir19_v : List Nat := [0, 1, 2, 4, 6, 7, 8, 9, 10, 11]
def ir19 : AFn := ⟨3, 10, .seq (.region false [ VO 3 4 (.box (.v 1)), VO 4 6 (.mov (I6 0)), VO 5 7 (.mov (.c (.bool false)))]) (.seq (.region false [ PM 12 0, PO 13 (.len false (.s 0)), VS 6 8 0]) (.seq (.region false [ PM 14 6, VO 7 9 (.mov (I6 0)), VS 8 10 0]) (.seq (.block 0 (.loop ir19_k0 ir19_o0 ir19_r0 ir19_b0)) (.seq (.anyo 14 [ SO 0 35 (.mov (.v 7)), SO 1 36 (.mov (.v 7)), SO 2 37 (.mov (.v 6)), SO 3 38 (.bin false .lss (.s 1) (.s 2)), SO 4 39 (.mov (.s 3)), ⟨.slot 5, 40, (some ((.s 4), true)), .mov (.v 2)⟩, ⟨.slot 6, 41, (some ((.s 4), true)), .mov (.v 0)⟩, ⟨.slot 7, 42, (some ((.s 4),
 true)), .mov (.v 7)⟩, ⟨.slot 8, 43, (some ((.s 4), true)), .ixAddr 5 (.s 6) (.s 7)⟩, ⟨.slot 9, 44, (some ((.s 4), true)), .load true 5 (.s 8)⟩, ⟨.slot 10, 45, (some ((.s 4), true)), .load true 5 (.v 3)⟩, ⟨.slot 11, 46, (some ((.s 4), true)), .callv (.s 5) [(.s 9), (.s 10)]⟩, ⟨.slot 12, 47, (some ((.s 4), true)), .bin false .eql (.s 11) (I6 0)⟩, SO 13 48 (.pick (.s 4) (.s 12) (.c (.bool false))), VS 4 6 0, VS 5 7 13] [] .skip) (.ret))))), [.t 4, .t 5]⟩
noncomputable def t_27 : List (Nat × Ctr) := [(20, c_24)]
theorem lk_27_20 : look t_27 20 = some c_24 := rfl
noncomputable def c_27 : Ctr := mkF t_27 ir19 [.bor, .bor, .bor]
theorem s_27 : Sound Tryz.prog 19 c_27 := mkF_sound _ rfl (snd_cons s_24 snd_nil) (by kernel_rfl : chkFn Tryz.prog 19 ir19 ir19_v = true)
theorem M_27 : c_27.modes = [.bor, .bor, .bor] := rfl
theorem Fl_27 : c_27.flat = true := rfl
attribute [go_sem] M_27 Fl_27
attribute [go_sem] lk_27_20
def E_27_l1 (x : List Estimate) (target : Estimate) (n : Int) : (Int × Int) → St
 | (i, j) => ⟨[.sl 5 (List.map Estimate_av x), .any, .fn (.func 20) [] [], .ref 3200000 0 0, .any, .any, .int .i64 n, .int .i64 i, .int .i64 j, .any], [], [(3200000, ⟨5, [Estimate_av target]⟩)], true⟩
def R_27_l1 (x : List Estimate) (target : Estimate) (n : Int) (y : Int) : Res := (.exit 0, ⟨[.sl 5 (List.map Estimate_av x), .any, .fn (.func 20) [] [], .ref 3200000 0 0, .any, .any, .int .i64 n, .int .i64 y, .any, .any], [], [(3200000, ⟨5, [Estimate_av target]⟩)], true⟩)
set_option maxHeartbeats 64000000 in
theorem slices_BinarySearchFunc_impl_Estimate_impl_Estimate_impl_Estimate__impl_compareEstimates_l1_ex {x : List Estimate} {target : Estimate} {n : Int} {sgm_ : Int × Int} {rho_ : Int} (h : whileE (slices_BinarySearchFunc_impl_Estimate_impl_Estimate_impl_Estimate__impl_compareEstimates_l1 x target n) sgm_ = some rho_) : ∃ L0, ∀ L, L0 ≤ L → iter (exec (look t_27) L ir19_b0) ir19_k0 ir19_o0 ir19_r0 L (E_27_l1 x target n sgm_) = R_27_l1 x target n rho_ := by
 refine loop_ex (E := E_27_l1 x target n) (R := R_27_l1 x target n) (fun y => by first | (intro c; cases c) | (rcases y with y | y <;> (intro c; cases c)) | (rcases y with y | y | y <;> (intro c; cases c))) ?_ h
 clear h
 rintro ⟨i, j⟩ o_ h
 dsimp only [slices_BinarySearchFunc_impl_Estimate_impl_Estimate_impl_Estimate__impl_compareEstimates_l1] at h
 rcases it_some h with ⟨z1, h⟩ | ⟨z1, h⟩
 ·try simp only [go_sem, n1, n2, n3, n4] at z1
  all_goals
  obtain ⟨z2, h⟩ := ck_some h
  try simp only [go_sem, n1, n2, n3, n4, z1] at z2
  all_goals
  obtain ⟨z3, h⟩ := ck_some h
  have lz3 := ix_lt z3
  have xz3 := getD_mapD Estimate_av x lz3
  try simp only [go_sem] at lz3
  try simp only [go_sem] at xz3
  try simp only [go_sem, n1, n2, n3, n4, z1, z2] at z3
  all_goals
  obtain ⟨y_4, z4, h⟩ := bd_some h
  have fz4 := Fs_24 z4
  try simp only [go_sem, z1, z2, z3] at fz4
  rcases it_some h with ⟨z5, h⟩ | ⟨z5, h⟩
  ·try simp only [go_sem, n1, n2, n3, n4, z1, z2, z3] at z5
   all_goals
   obtain rfl := so_some h
   refine ⟨0, fun L hL => ?_⟩
   simp only [go_sem, ir19, E_27_l1, R_27_l1, ir19_b0, ir19_k0, ir19_o0, ir19_r0, z1, z2, z3, lz3, xz3, fz4, z5]
  ·try simp only [go_sem, n1, n2, n3, n4, z1, z2, z3] at z5
   all_goals
   obtain rfl := so_some h
   refine ⟨0, fun L hL => ?_⟩
   simp only [go_sem, ir19, E_27_l1, R_27_l1, ir19_b0, ir19_k0, ir19_o0, ir19_r0, z1, z2, z3, lz3, xz3, fz4, z5]
 ·try simp only [go_sem, n1, n2, n3, n4] at z1
  all_goals
  obtain rfl := so_some h
  refine ⟨0, fun L hL => ?_⟩
  simp only [go_sem, ir19, E_27_l1, R_27_l1, ir19_b0, ir19_k0, ir19_o0, ir19_r0, z1]

set_option maxHeartbeats 64000000 in
theorem Fs_27 {x : List Estimate} {target : Estimate} {y_ : Int × Bool} (h : slices_BinarySearchFunc_impl_Estimate_impl_Estimate_impl_Estimate__impl_compareEstimates x target = some y_) : c_27.F [.sl 5 (List.map Estimate_av x), Estimate_av target, .fn (.func 20) [] []] = ⟨true, .tup [.int .i64 y_.1, .bool y_.2], [.any, .any, .any]⟩ := by
 refine mkF_E rfl ?_
 dsimp only [slices_BinarySearchFunc_impl_Estimate_impl_Estimate_impl_Estimate__impl_compareEstimates] at h
 obtain ⟨y_6, z6, h⟩ := bd_some h
 obtain ⟨Lz6, ez6⟩ := slices_BinarySearchFunc_impl_Estimate_impl_Estimate_impl_Estimate__impl_compareEstimates_l1_ex z6
 obtain ⟨z7, h⟩ := ck_some h
 rcases or_split z7 with ⟨gz7, z7⟩ | gz7
 ·try simp only [go_sem, n1, n2, n3, n4] at gz7
  all_goals
  have lz7 := ix_lt z7
  have xz7 := getD_mapD Estimate_av x lz7
  try simp only [go_sem] at lz7
  try simp only [go_sem] at xz7
  try simp only [go_sem, n1, n2, n3, n4, gz7] at z7
  all_goals
  obtain ⟨z8, h⟩ := ck_some h
  rcases or_split z8 with ⟨gz8, z8⟩ | gz8
  ·try simp only [go_sem, n1, n2, n3, n4, gz7, z7] at gz8
   all_goals
   obtain ⟨y_8, hz8⟩ := Option.isSome_iff_exists.1 z8
   have fz8 := Fs_24 hz8
   try simp only [go_sem, n1, n2, n3, n4, gz7, z7, gz8] at hz8
   all_goals
   try simp only [go_sem, gz7, z7, gz8] at fz8
   obtain rfl := so_some h
   refine ⟨Lz6, fun L hL => ?_⟩
   have ez6 := ez6 L (by omega)
   try simp only [go_sem, E_27_l1, R_27_l1, ir19_k0, ir19_o0, ir19_r0, gz7, z7, gz8, hz8] at ez6
   simp only [go_sem, ir19, E_27_l1, R_27_l1, ir19_k0, ir19_o0, ir19_r0, gz7, z7, lz7, xz7, gz8, hz8, fz8, ez6]
  ·try simp only [go_sem, n1, n2, n3, n4, gz7, z7] at gz8
   all_goals
   obtain rfl := so_some h
   refine ⟨Lz6, fun L hL => ?_⟩
   have ez6 := ez6 L (by omega)
   try simp only [go_sem, E_27_l1, R_27_l1, ir19_k0, ir19_o0, ir19_r0, gz7, z7, gz8] at ez6
   simp only [go_sem, ir19, E_27_l1, R_27_l1, ir19_k0, ir19_o0, ir19_r0, gz7, z7, lz7, xz7, gz8, ez6]
 ·try simp only [go_sem, n1, n2, n3, n4] at gz7
  all_goals
  obtain ⟨z8, h⟩ := ck_some h
  obtain rfl := so_some h
  refine ⟨Lz6, fun L hL => ?_⟩
  have ez6 := ez6 L (by omega)
  try simp only [go_sem, E_27_l1, R_27_l1, ir19_k0, ir19_o0, ir19_r0, gz7] at ez6
  simp only [go_sem, ir19, E_27_l1, R_27_l1, ir19_k0, ir19_o0, ir19_r0, gz7, ez6]


theorem s_hInsEstimate : Sound Tryz.prog 21 c_hInsEstimate := hInsEstimate_is

def ir7_b0 : IR := .seq (.region false [ VO 11 24 (.bin false .lss (.v 10) (.v 9))]) (.seq (.cond (.v 11) (.skip) (.exit 0)) (.seq (.block 1 (.seq (.region false [ PO 25 (.ixAddr 5 (.v 8) (.v 10)), PO 26 (.load true 5 (.s 0)), VO 5 8 (.alloc (.agg [.int .i64 (0), .str [], .str [], .int .i64 (0), .bool false])), ⟨.no, 0, none, .store 5 (.v 5) (.s 0)⟩]) (.seq (.region false [ PM 28 4, PO 29 (.load true 5 (.v 5)), PO 30 (.call 19 [(.s 1), (.s 0), (.c (.fn (.func 20) [] []))]), PO 27 (.mov (.s 0)), PO 31 (.ext (.s 0) 0), PO 32 (.ext (.s 1) 1), VS 6 9 1, VS 7 10 0]) (.block 2 (.test false [ PM 34 7,
 PO 35 (.un .not (.s 0)), PO 33 (.mov (.s 0))] (.s 0) (.region false [ PM 36 4, PM 37 6, PO 38 (.load true 5 (.v 5)), PO 39 (.mkSl 5 (.agg [.int .i64 (0), .str [], .str [], .int .i64 (0), .bool false]) 1 [(0, (.s 0))]), PO 40 (.call 21 [(.s 3), (.s 2), (.s 0)]), VS 4 6 0]) (.anyo 7 [ SO 0 42 (.mov (.v 4)), SO 1 43 (.mov (.v 6)), SO 2 44 (.ixAddr 5 (.s 0) (.s 1)), SO 3 45 (.load true 5 (.s 2)), SO 4 46 (.load true 5 (.v 5)), SO 5 47 (.eqA true [1, 2, 2, 1, 0] (.s 3) (.s 4)), SO 6 41 (.mov (.s 5))] [] (.cond (.s 6) (.seq (.region false [ VO 2 4 (.newnil 5), VO 3 5 (.mov (I6 9))]) (.ret))
 (.skip)))))))) (.region false [ PO 48 (.bin false .add (.v 10) (I6 1)), VS 10 23 0])))
def ir7_k0 : List Bool := [false, false, false, false, true, false, false, false, true, true, true, false]
def ir7_o0 : List Bool := [false, false, false, false, true, false, false, false, false, false, false, false]
def ir7_r0 : List Bool := [false, false, true, true, false, false, false, false, false, false, false, false]
def ir7_v : List Nat := [0, 1, 4, 5, 6, 8, 9, 10, 21, 22, 23, 24]
def ir7 : AFn := ⟨2, 12, .seq (.region false [ VO 2 4 (.newnil 5), VO 3 5 (.mov (I6 0))]) (.seq (.test false [ PM 11 0, PO 12 (.call 14 [(.s 0)]), PO 13 (.un .not (.s 0)), PO 14 (.mov (.s 0)), ⟨.push, 15, (some ((.s 0), false)), .mov (.v 1)⟩, ⟨.push, 16, (some ((.s 1), false)), .call 14 [(.s 0)]⟩, ⟨.push, 17, (some ((.s 2), false)), .un .not (.s 0)⟩, PO 18 (.pick (.s 3) (.c (.bool true)) (.s 0))] (.s 0) (.seq (.region false [ VO 2 4 (.newnil 5), VO 3 5 (.mov (I6 1))]) (.ret)) (.skip)) (.seq (.region false [ PM 19 0, PO 20 (.call 18 [(.s 0)]), VS 4 6 0]) (.seq (.seq (.region false [ VO 8 21
 (.mov (.v 1)), VO 9 22 (.len false (.v 8)), VO 10 23 (.mov (I6 0))]) (.block 0 (.loop ir7_k0 ir7_o0 ir7_r0 ir7_b0))) (.seq (.test false [ PM 49 4, PO 50 (.len false (.s 0)), PO 51 (.bin false .gtr (.s 0) (I6 100))] (.s 0) (.seq (.region false [ VO 2 4 (.newnil 5), VO 3 5 (.mov (I6 5))]) (.ret)) (.skip)) (.seq (.region false [ PM 52 4, VS 2 4 0, VO 3 5 (.mov (I6 0))]) (.ret)))))), [.t 2, .t 3]⟩
noncomputable def t_29 : List (Nat × Ctr) := [(14, c_25), (18, c_26), (19, c_27), (21, c_hInsEstimate)]
theorem lk_29_14 : look t_29 14 = some c_25 := rfl
theorem lk_29_18 : look t_29 18 = some c_26 := rfl
theorem lk_29_19 : look t_29 19 = some c_27 := rfl
theorem lk_29_21 : look t_29 21 = some c_hInsEstimate := rfl
noncomputable def c_29 : Ctr := mkF t_29 ir7 [.bor, .bor]
theorem s_29 : Sound Tryz.prog 7 c_29 := mkF_sound _ rfl (snd_cons s_25 (snd_cons s_26 (snd_cons s_27 (snd_cons s_hInsEstimate snd_nil)))) (by kernel_rfl : chkFn Tryz.prog 7 ir7 ir7_v = true)
theorem M_29 : c_29.modes = [.bor, .bor] := rfl
theorem Fl_29 : c_29.flat = true := rfl
attribute [go_sem] M_29 Fl_29
attribute [go_sem] lk_29_14 lk_29_18 lk_29_19 lk_29_21
def E_29_l1 (t21 : List Estimate) (t22 : Int) : ((List Estimate) × Int) → St
 | (out, t23) => ⟨[.any, .any, .any, .any, .own 3200000, .any, .any, .any, .sl 5 (List.map Estimate_av t21), .int .i64 t22, .int .i64 t23, .any], [], [(3200000, ⟨5, List.map Estimate_av out⟩)], true⟩
def R_29_l1 (t21 : List Estimate) (t22 : Int) : ((List Estimate) ⊕ ((List Estimate) × Int)) → Res
 | .inl y => (.exit 0, ⟨[.any, .any, .any, .any, .own 3200000, .any, .any, .any, .any, .any, .any, .any], [], [(3200000, ⟨5, List.map Estimate_av y⟩)], true⟩)
 | .inr y => (.ret, ⟨[.any, .any, .own 3200000, .int .i64 y.2, .any, .any, .any, .any, .any, .any, .any, .any], [], [(3200000, ⟨5, List.map Estimate_av y.1⟩)], true⟩)
set_option maxHeartbeats 64000000 in
theorem impl_MergeEstimates_l1_ex {t21 : List Estimate} {t22 : Int} {sgm_ : (List Estimate) × Int} {rho_ : (List Estimate) ⊕ ((List Estimate) × Int)} (h : whileE (impl_MergeEstimates_l1 t21 t22) sgm_ = some rho_) : ∃ L0, ∀ L, L0 ≤ L → iter (exec (look t_29) L ir7_b0) ir7_k0 ir7_o0 ir7_r0 L (E_29_l1 t21 t22 sgm_) = R_29_l1 t21 t22 rho_ := by
 refine loop_ex (E := E_29_l1 t21 t22) (R := R_29_l1 t21 t22) (fun y => by first | (intro c; cases c) | (rcases y with y | y <;> (intro c; cases c)) | (rcases y with y | y | y <;> (intro c; cases c))) ?_ h
 clear h
 rintro ⟨out, t23⟩ o_ h
 dsimp only [impl_MergeEstimates_l1] at h
 rcases it_some h with ⟨z5, h⟩ | ⟨z5, h⟩
 ·try simp only [go_sem, n1, n2, n3, n4] at z5
  all_goals
  obtain ⟨z6, h⟩ := ck_some h
  have lz6 := ix_lt z6
  have xz6 := getD_mapD Estimate_av t21 lz6
  try simp only [go_sem] at lz6
  try simp only [go_sem] at xz6
  try simp only [go_sem, n1, n2, n3, n4, z5] at z6
  all_goals
  obtain ⟨y_7, z7, h⟩ := bd_some h
  have fz7 := Fs_27 z7
  try simp only [go_sem, z5, z6] at fz7
  rcases it_some h with ⟨z8, h⟩ | ⟨z8, h⟩
  ·try simp only [go_sem, n1, n2, n3, n4, z5, z6] at z8
   all_goals
   obtain ⟨y_9, z9, h⟩ := bd_some h
   have fz9 := (Fs_hInsEstimate Estimate_av) z9
   try simp only [go_sem, z5, z6, z8] at fz9
   obtain rfl := so_some h
   refine ⟨0, fun L hL => ?_⟩
   simp only [go_sem, ir7, E_29_l1, R_29_l1, ir7_b0, ir7_k0, ir7_o0, ir7_r0, z5, z6, lz6, xz6, fz7, z8, fz9]
  ·try simp only [go_sem, n1, n2, n3, n4, z5, z6] at z8
   all_goals
   obtain ⟨z10, h⟩ := ck_some h
   have lz10 := ix_lt z10
   have xz10 := getD_mapD Estimate_av out lz10
   try simp only [go_sem] at lz10
   try simp only [go_sem] at xz10
   try simp only [go_sem, n1, n2, n3, n4, z5, z6, z8] at z10
   all_goals
   rcases it_some h with ⟨z11, h⟩ | ⟨z11, h⟩
   ·try simp only [go_sem, n1, n2, n3, n4, z5, z6, z8, z10] at z11
    all_goals
    obtain rfl := so_some h
    refine ⟨0, fun L hL => ?_⟩
    simp only [go_sem, ir7, E_29_l1, R_29_l1, ir7_b0, ir7_k0, ir7_o0, ir7_r0, z5, z6, lz6, xz6, fz7, z8, z10, lz10, xz10, z11]
   ·try simp only [go_sem, n1, n2, n3, n4, z5, z6, z8, z10] at z11
    all_goals
    obtain rfl := so_some h
    refine ⟨0, fun L hL => ?_⟩
    simp only [go_sem, ir7, E_29_l1, R_29_l1, ir7_b0, ir7_k0, ir7_o0, ir7_r0, z5, z6, lz6, xz6, fz7, z8, z10, lz10, xz10, z11]
 ·try simp only [go_sem, n1, n2, n3, n4] at z5
  all_goals
  obtain rfl := so_some h
  refine ⟨0, fun L hL => ?_⟩
  simp only [go_sem, ir7, E_29_l1, R_29_l1, ir7_b0, ir7_k0, ir7_o0, ir7_r0, z5]

set_option maxHeartbeats 64000000 in
theorem Fs_29 {a : List Estimate} {b : List Estimate} {y_ : (List Estimate) × Int} (h : impl_MergeEstimates a b = some y_) : c_29.F [.sl 5 (List.map Estimate_av a), .sl 5 (List.map Estimate_av b)] = ⟨true, .tup [.fresh 5 (List.map Estimate_av y_.1), .int .i64 y_.2], [.any, .any]⟩ := by
 refine mkF_E (by simp only [flatA, flatB, flat1, List.all_cons, List.all_nil, Bool.and_self, flatE_map (f := Estimate_av) (fun _ => rfl)]) ?_
 dsimp only [impl_MergeEstimates] at h
 obtain ⟨y_1, z1, h⟩ := bd_some h
 have fz1 := Fs_25 z1
 try simp only [go_sem] at fz1
 obtain ⟨z2, h⟩ := ck_some h
 rcases or_split z2 with ⟨gz2, z2⟩ | gz2
 ·try simp only [go_sem, n1, n2, n3, n4] at gz2
  all_goals
  obtain ⟨y_2, hz2⟩ := Option.isSome_iff_exists.1 z2
  have fz2 := Fs_25 hz2
  try simp only [go_sem, n1, n2, n3, n4, gz2] at hz2
  all_goals
  try simp only [go_sem, gz2] at fz2
  rcases it_some h with ⟨z3, h⟩ | ⟨z3, h⟩
  ·try simp only [go_sem, n1, n2, n3, n4, gz2, hz2] at z3
   all_goals
   obtain rfl := so_some h
   refine ⟨0, fun L hL => ?_⟩
   simp only [go_sem, ir7, E_29_l1, R_29_l1, ir7_k0, ir7_o0, ir7_r0, fz1, gz2, hz2, fz2, z3]
  ·try simp only [go_sem, n1, n2, n3, n4, gz2, hz2] at z3
   all_goals
   obtain ⟨y_4, z4, h⟩ := bd_some h
   have fz4 := Fs_26 z4
   try simp only [go_sem, gz2, hz2, z3] at fz4
   obtain ⟨y_12, z12, h⟩ := bd_some h
   obtain ⟨Lz12, ez12⟩ := impl_MergeEstimates_l1_ex z12
   rcases y_12 with y_12a | y_12b
   ·dsimp only at h
    rcases it_some h with ⟨z13, h⟩ | ⟨z13, h⟩
    ·try simp only [go_sem, n1, n2, n3, n4, gz2, hz2, z3] at z13
     all_goals
     obtain rfl := so_some h
     refine ⟨Lz12, fun L hL => ?_⟩
     have ez12 := ez12 L (by omega)
     try simp only [go_sem, E_29_l1, R_29_l1, ir7_k0, ir7_o0, ir7_r0, gz2, hz2, z3, z13] at ez12
     simp only [go_sem, ir7, E_29_l1, R_29_l1, ir7_k0, ir7_o0, ir7_r0, fz1, gz2, hz2, fz2, z3, fz4, z13, ez12]
    ·try simp only [go_sem, n1, n2, n3, n4, gz2, hz2, z3] at z13
     all_goals
     obtain rfl := so_some h
     refine ⟨Lz12, fun L hL => ?_⟩
     have ez12 := ez12 L (by omega)
     try simp only [go_sem, E_29_l1, R_29_l1, ir7_k0, ir7_o0, ir7_r0, gz2, hz2, z3, z13] at ez12
     simp only [go_sem, ir7, E_29_l1, R_29_l1, ir7_k0, ir7_o0, ir7_r0, fz1, gz2, hz2, fz2, z3, fz4, z13, ez12]
   ·dsimp only at h
    obtain rfl := so_some h
    refine ⟨Lz12, fun L hL => ?_⟩
    have ez12 := ez12 L (by omega)
    try simp only [go_sem, E_29_l1, R_29_l1, ir7_k0, ir7_o0, ir7_r0, gz2, hz2, z3] at ez12
    simp only [go_sem, ir7, E_29_l1, R_29_l1, ir7_k0, ir7_o0, ir7_r0, fz1, gz2, hz2, fz2, z3, fz4, ez12]
 ·have gz2n := no_f gz2
  have gz2nn := no_t gz2n
  try simp only [go_sem, n1, n2, n3, n4] at gz2nn
  all_goals
  rcases it_some h with ⟨z3, h⟩ | ⟨z3, h⟩
  ·try simp only [go_sem, n1, n2, n3, n4, gz2nn] at z3
   all_goals
   obtain rfl := so_some h
   refine ⟨0, fun L hL => ?_⟩
   simp only [go_sem, ir7, E_29_l1, R_29_l1, ir7_k0, ir7_o0, ir7_r0, fz1, gz2nn, z3]
  ·try simp only [go_sem, n1, n2, n3, n4, gz2nn] at z3
   all_goals
   (simp_all)


def ir8_b0 : IR := .seq (.test false [ PM 11 3, PM 12 0, PO 13 (.len false (.s 0)), PO 14 (.bin false .lss (.s 2) (.s 0))] (.s 0) (.skip) (.exit 0)) (.seq (.block 1 (.anyo 9 [ SO 0 17 (.mov (.v 0)), SO 1 18 (.mov (.v 3)), SO 2 19 (.ixAddr 5 (.s 0) (.s 1)), SO 3 20 (.load true 5 (.s 2)), SO 4 21 (.mov (.v 1)), SO 5 22 (.mov (.v 3)), SO 6 23 (.ixAddr 5 (.s 4) (.s 5)), SO 7 24 (.load true 5 (.s 6)), SO 8 25 (.eqA true [1, 2, 2, 1, 0] (.s 3) (.s 7))] [] (.cond (.s 8) (.seq (.region false [ VO 2 4 (.mov (.c (.bool false)))]) (.ret)) (.skip)))) (.region false [ PM 15 3, PO 16 (.bin false .add (.s 0)
 (I6 1)), VS 3 5 0]))
def ir8_k0 : List Bool := [true, true, false, true]
def ir8_o0 : List Bool := [false, false, false, false]
def ir8_r0 : List Bool := [false, false, true, false]
def ir8_v : List Nat := [0, 1, 4, 5]
def ir8 : AFn := ⟨2, 4, .seq (.region false [ VO 2 4 (.mov (.c (.bool false)))]) (.seq (.test false [ PM 6 0, PO 7 (.len false (.s 0)), PM 8 1, PO 9 (.len false (.s 0)), PO 10 (.bin false .neq (.s 2) (.s 0))] (.s 0) (.seq (.region false [ VO 2 4 (.mov (.c (.bool false)))]) (.ret)) (.skip)) (.seq (.seq (.region false [ VO 3 5 (.mov (I6 0))]) (.block 0 (.loop ir8_k0 ir8_o0 ir8_r0 ir8_b0))) (.seq (.region false [ VO 2 4 (.mov (.c (.bool true)))]) (.ret)))), [.t 2]⟩
noncomputable def t_30 : List (Nat × Ctr) := []
noncomputable def c_30 : Ctr := mkF t_30 ir8 [.bor, .bor]
theorem s_30 : Sound Tryz.prog 8 c_30 := mkF_sound _ rfl snd_nil (by kernel_rfl : chkFn Tryz.prog 8 ir8 ir8_v = true)
theorem M_30 : c_30.modes = [.bor, .bor] := rfl
theorem Fl_30 : c_30.flat = true := rfl
attribute [go_sem] M_30 Fl_30
def E_30_l1 (a : List Estimate) (b : List Estimate) : Int → St
 | i => ⟨[.sl 5 (List.map Estimate_av a), .sl 5 (List.map Estimate_av b), .any, .int .i64 i], [], [], true⟩
def R_30_l1 (a : List Estimate) (b : List Estimate) : (Unit ⊕ Bool) → Res
 | .inl y => (.exit 0, ⟨[.any, .any, .any, .any], [], [], true⟩)
 | .inr y => (.ret, ⟨[.any, .any, .bool y, .any], [], [], true⟩)
theorem spec_SameEstimates_l1_ex {a : List Estimate} {b : List Estimate} {sgm_ : Int} {rho_ : Unit ⊕ Bool} (h : whileE (spec_SameEstimates_l1 a b) sgm_ = some rho_) : ∃ L0, ∀ L, L0 ≤ L → iter (exec (look t_30) L ir8_b0) ir8_k0 ir8_o0 ir8_r0 L (E_30_l1 a b sgm_) = R_30_l1 a b rho_ := by
 refine loop_ex (E := E_30_l1 a b) (R := R_30_l1 a b) (fun y => by first | (intro c; cases c) | (rcases y with y | y <;> (intro c; cases c)) | (rcases y with y | y | y <;> (intro c; cases c))) ?_ h
 clear h
 intro i o_ h
 dsimp only [spec_SameEstimates_l1] at h
 rcases it_some h with ⟨z2, h⟩ | ⟨z2, h⟩
 ·try simp only [go_sem, n1, n2, n3, n4] at z2
  all_goals
  obtain ⟨z3, h⟩ := ck_some h
  have lz3 := ix_lt z3
  have xz3 := getD_mapD Estimate_av a lz3
  try simp only [go_sem] at lz3
  try simp only [go_sem] at xz3
  try simp only [go_sem, n1, n2, n3, n4, z2] at z3
  all_goals
  obtain ⟨z4, h⟩ := ck_some h
  have lz4 := ix_lt z4
  have xz4 := getD_mapD Estimate_av b lz4
  try simp only [go_sem] at lz4
  try simp only [go_sem] at xz4
  try simp only [go_sem, n1, n2, n3, n4, z2, z3] at z4
  all_goals
  rcases it_some h with ⟨z5, h⟩ | ⟨z5, h⟩
  ·try simp only [go_sem, n1, n2, n3, n4, z2, z3, z4] at z5
   all_goals
   obtain rfl := so_some h
   refine ⟨0, fun L hL => ?_⟩
   simp only [go_sem, ir8, E_30_l1, R_30_l1, ir8_b0, ir8_k0, ir8_o0, ir8_r0, z2, z3, lz3, xz3, z4, lz4, xz4, z5]
  ·try simp only [go_sem, n1, n2, n3, n4, z2, z3, z4] at z5
   all_goals
   obtain rfl := so_some h
   refine ⟨0, fun L hL => ?_⟩
   simp only [go_sem, ir8, E_30_l1, R_30_l1, ir8_b0, ir8_k0, ir8_o0, ir8_r0, z2, z3, lz3, xz3, z4, lz4, xz4, z5]
 ·try simp only [go_sem, n1, n2, n3, n4] at z2
  all_goals
  obtain rfl := so_some h
  refine ⟨0, fun L hL => ?_⟩
  simp only [go_sem, ir8, E_30_l1, R_30_l1, ir8_b0, ir8_k0, ir8_o0, ir8_r0, z2]

theorem Fs_30 {a : List Estimate} {b : List Estimate} {y_ : Bool} (h : spec_SameEstimates a b = some y_) : c_30.F [.sl 5 (List.map Estimate_av a), .sl 5 (List.map Estimate_av b)] = ⟨true, .bool y_, [.any, .any]⟩ := by
 refine mkF_E rfl ?_
 dsimp only [spec_SameEstimates] at h
 rcases it_some h with ⟨z1, h⟩ | ⟨z1, h⟩
 ·try simp only [go_sem, n1, n2, n3, n4] at z1
  all_goals
  obtain rfl := so_some h
  refine ⟨0, fun L hL => ?_⟩
  simp only [go_sem, ir8, E_30_l1, R_30_l1, ir8_k0, ir8_o0, ir8_r0, z1]
 ·try simp only [go_sem, n1, n2, n3, n4] at z1
  all_goals
  obtain ⟨y_6, z6, h⟩ := bd_some h
  obtain ⟨Lz6, ez6⟩ := spec_SameEstimates_l1_ex z6
  rcases y_6 with y_6a | y_6b
  ·dsimp only at h
   obtain rfl := so_some h
   refine ⟨Lz6, fun L hL => ?_⟩
   have ez6 := ez6 L (by omega)
   try simp only [go_sem, E_30_l1, R_30_l1, ir8_k0, ir8_o0, ir8_r0, z1] at ez6
   simp only [go_sem, ir8, E_30_l1, R_30_l1, ir8_k0, ir8_o0, ir8_r0, z1, ez6]
  ·dsimp only at h
   obtain rfl := so_some h
   refine ⟨Lz6, fun L hL => ?_⟩
   have ez6 := ez6 L (by omega)
   try simp only [go_sem, E_30_l1, R_30_l1, ir8_k0, ir8_o0, ir8_r0, z1] at ez6
   simp only [go_sem, ir8, E_30_l1, R_30_l1, ir8_k0, ir8_o0, ir8_r0, z1, ez6]


def ir22_b0 : IR := .seq (.region false [ VO 6 14 (.bin false .lss (.v 5) (.v 4))]) (.seq (.cond (.v 6) (.skip) (.exit 0)) (.seq (.block 1 (.seq (.region false [ PM 15 5, VS 3 5 0]) (.anyo 9 [ SO 0 16 (.mov (.v 0)), SO 1 17 (.mov (.v 3)), SO 2 18 (.ixAddr 5 (.s 0) (.s 1)), SO 3 19 (.load true 5 (.s 2)), SO 4 20 (.mov (.v 1)), SO 5 21 (.mov (.v 3)), SO 6 22 (.ixAddr 5 (.s 4) (.s 5)), SO 7 23 (.load true 5 (.s 6)), SO 8 24 (.eqA true [1, 2, 2, 1, 0] (.s 3) (.s 7))] [] (.cond (.s 8) (.seq (.region false [ VO 2 4 (.mov (.c (.bool false)))]) (.ret)) (.skip))))) (.region false [ PO 25 (.bin false
 .add (.v 5) (I6 1)), VS 5 13 0])))
def ir22_k0 : List Bool := [true, true, false, false, true, true, false]
def ir22_o0 : List Bool := [false, false, false, false, false, false, false]
def ir22_r0 : List Bool := [false, false, true, false, false, false, false]
def ir22_v : List Nat := [0, 1, 4, 5, 12, 13, 14]
def ir22 : AFn := ⟨2, 7, .seq (.region false [ VO 2 4 (.mov (.c (.bool false)))]) (.seq (.test false [ PM 6 0, PO 7 (.len false (.s 0)), PM 8 1, PO 9 (.len false (.s 0)), PO 10 (.bin false .neq (.s 2) (.s 0))] (.s 0) (.seq (.region false [ VO 2 4 (.mov (.c (.bool false)))]) (.ret)) (.skip)) (.seq (.seq (.region false [ PM 11 0, VO 4 12 (.len false (.s 0)), VO 5 13 (.mov (I6 0))]) (.block 0 (.loop ir22_k0 ir22_o0 ir22_r0 ir22_b0))) (.seq (.region false [ VO 2 4 (.mov (.c (.bool true)))]) (.ret)))), [.t 2]⟩
noncomputable def t_31 : List (Nat × Ctr) := []
noncomputable def c_31 : Ctr := mkF t_31 ir22 [.bor, .bor]
theorem s_31 : Sound Tryz.prog 22 c_31 := mkF_sound _ rfl snd_nil (by kernel_rfl : chkFn Tryz.prog 22 ir22 ir22_v = true)
theorem M_31 : c_31.modes = [.bor, .bor] := rfl
theorem Fl_31 : c_31.flat = true := rfl
attribute [go_sem] M_31 Fl_31
def E_31_l1 (s1 : List Estimate) (s2 : List Estimate) (t12 : Int) : Int → St
 | t13 => ⟨[.sl 5 (List.map Estimate_av s1), .sl 5 (List.map Estimate_av s2), .any, .any, .int .i64 t12, .int .i64 t13, .any], [], [], true⟩
def R_31_l1 (s1 : List Estimate) (s2 : List Estimate) (t12 : Int) : (Unit ⊕ Bool) → Res
 | .inl y => (.exit 0, ⟨[.any, .any, .any, .any, .any, .any, .any], [], [], true⟩)
 | .inr y => (.ret, ⟨[.any, .any, .bool y, .any, .any, .any, .any], [], [], true⟩)
theorem slices_Equal_impl_Estimate_impl_Estimate_l1_ex {s1 : List Estimate} {s2 : List Estimate} {t12 : Int} {sgm_ : Int} {rho_ : Unit ⊕ Bool} (h : whileE (slices_Equal_impl_Estimate_impl_Estimate_l1 s1 s2 t12) sgm_ = some rho_) : ∃ L0, ∀ L, L0 ≤ L → iter (exec (look t_31) L ir22_b0) ir22_k0 ir22_o0 ir22_r0 L (E_31_l1 s1 s2 t12 sgm_) = R_31_l1 s1 s2 t12 rho_ := by
 refine loop_ex (E := E_31_l1 s1 s2 t12) (R := R_31_l1 s1 s2 t12) (fun y => by first | (intro c; cases c) | (rcases y with y | y <;> (intro c; cases c)) | (rcases y with y | y | y <;> (intro c; cases c))) ?_ h
 clear h
 intro t13 o_ h
 dsimp only [slices_Equal_impl_Estimate_impl_Estimate_l1] at h
 rcases it_some h with ⟨z2, h⟩ | ⟨z2, h⟩
 ·try simp only [go_sem, n1, n2, n3, n4] at z2
  all_goals
  obtain ⟨z3, h⟩ := ck_some h
  have lz3 := ix_lt z3
  have xz3 := getD_mapD Estimate_av s1 lz3
  try simp only [go_sem] at lz3
  try simp only [go_sem] at xz3
  try simp only [go_sem, n1, n2, n3, n4, z2] at z3
  all_goals
  obtain ⟨z4, h⟩ := ck_some h
  have lz4 := ix_lt z4
  have xz4 := getD_mapD Estimate_av s2 lz4
  try simp only [go_sem] at lz4
  try simp only [go_sem] at xz4
  try simp only [go_sem, n1, n2, n3, n4, z2, z3] at z4
  all_goals
  rcases it_some h with ⟨z5, h⟩ | ⟨z5, h⟩
  ·try simp only [go_sem, n1, n2, n3, n4, z2, z3, z4] at z5
   all_goals
   obtain rfl := so_some h
   refine ⟨0, fun L hL => ?_⟩
   simp only [go_sem, ir22, E_31_l1, R_31_l1, ir22_b0, ir22_k0, ir22_o0, ir22_r0, z2, z3, lz3, xz3, z4, lz4, xz4, z5]
  ·try simp only [go_sem, n1, n2, n3, n4, z2, z3, z4] at z5
   all_goals
   obtain rfl := so_some h
   refine ⟨0, fun L hL => ?_⟩
   simp only [go_sem, ir22, E_31_l1, R_31_l1, ir22_b0, ir22_k0, ir22_o0, ir22_r0, z2, z3, lz3, xz3, z4, lz4, xz4, z5]
 ·try simp only [go_sem, n1, n2, n3, n4] at z2
  all_goals
  obtain rfl := so_some h
  refine ⟨0, fun L hL => ?_⟩
  simp only [go_sem, ir22, E_31_l1, R_31_l1, ir22_b0, ir22_k0, ir22_o0, ir22_r0, z2]

theorem Fs_31 {s1 : List Estimate} {s2 : List Estimate} {y_ : Bool} (h : slices_Equal_impl_Estimate_impl_Estimate s1 s2 = some y_) : c_31.F [.sl 5 (List.map Estimate_av s1), .sl 5 (List.map Estimate_av s2)] = ⟨true, .bool y_, [.any, .any]⟩ := by
 refine mkF_E rfl ?_
 dsimp only [slices_Equal_impl_Estimate_impl_Estimate] at h
 rcases it_some h with ⟨z1, h⟩ | ⟨z1, h⟩
 ·try simp only [go_sem, n1, n2, n3, n4] at z1
  all_goals
  obtain rfl := so_some h
  refine ⟨0, fun L hL => ?_⟩
  simp only [go_sem, ir22, E_31_l1, R_31_l1, ir22_k0, ir22_o0, ir22_r0, z1]
 ·try simp only [go_sem, n1, n2, n3, n4] at z1
  all_goals
  obtain ⟨y_6, z6, h⟩ := bd_some h
  obtain ⟨Lz6, ez6⟩ := slices_Equal_impl_Estimate_impl_Estimate_l1_ex z6
  rcases y_6 with y_6a | y_6b
  ·dsimp only at h
   obtain rfl := so_some h
   refine ⟨Lz6, fun L hL => ?_⟩
   have ez6 := ez6 L (by omega)
   try simp only [go_sem, E_31_l1, R_31_l1, ir22_k0, ir22_o0, ir22_r0, z1] at ez6
   simp only [go_sem, ir22, E_31_l1, R_31_l1, ir22_k0, ir22_o0, ir22_r0, z1, ez6]
  ·dsimp only at h
   obtain rfl := so_some h
   refine ⟨Lz6, fun L hL => ?_⟩
   have ez6 := ez6 L (by omega)
   try simp only [go_sem, E_31_l1, R_31_l1, ir22_k0, ir22_o0, ir22_r0, z1] at ez6
   simp only [go_sem, ir22, E_31_l1, R_31_l1, ir22_k0, ir22_o0, ir22_r0, z1, ez6]


def ir9_v : List Nat := [0, 1, 4]
def ir9 : AFn := ⟨2, 3, .seq (.region false [ VO 2 4 (.mov (.c (.bool false)))]) (.seq (.region false [ PM 5 0, PM 6 1, PO 7 (.call 22 [(.s 1), (.s 0)]), VS 2 4 0]) (.ret)), [.t 2]⟩
noncomputable def t_32 : List (Nat × Ctr) := [(22, c_31)]
theorem lk_32_22 : look t_32 22 = some c_31 := rfl
noncomputable def c_32 : Ctr := mkF t_32 ir9 [.bor, .bor]
theorem s_32 : Sound Tryz.prog 9 c_32 := mkF_sound _ rfl (snd_cons s_31 snd_nil) (by kernel_rfl : chkFn Tryz.prog 9 ir9 ir9_v = true)
theorem M_32 : c_32.modes = [.bor, .bor] := rfl
theorem Fl_32 : c_32.flat = true := rfl
attribute [go_sem] M_32 Fl_32
attribute [go_sem] lk_32_22
theorem Fs_32 {a : List Estimate} {b : List Estimate} {y_ : Bool} (h : impl_SameEstimates a b = some y_) : c_32.F [.sl 5 (List.map Estimate_av a), .sl 5 (List.map Estimate_av b)] = ⟨true, .bool y_, [.any, .any]⟩ := by
 refine mkF_E rfl ?_
 dsimp only [impl_SameEstimates] at h
 obtain ⟨y_1, z1, h⟩ := bd_some h
 have fz1 := Fs_31 z1
 try simp only [go_sem] at fz1
 obtain rfl := so_some h
 refine ⟨0, fun L hL => ?_⟩
 simp only [go_sem, ir9, fz1]


theorem s_hFmt : Sound Tryz.prog 82 c_hFmt := hFmt_is

def ir67_v : List Nat := [0, 1, 4]
def ir67 : AFn := ⟨2, 3, .seq (.region false [ VO 2 4 (.mov (.c (.str [])))]) (.seq (.region false [ PM 5 0, PM 6 1, PO 7 (.call 82 [(.s 1), (.s 0)]), VS 2 4 0]) (.ret)), [.t 2]⟩
noncomputable def t_34 : List (Nat × Ctr) := [(82, c_hFmt)]
theorem lk_34_82 : look t_34 82 = some c_hFmt := rfl
noncomputable def c_34 : Ctr := mkF t_34 ir67 [.bor, .bor]
theorem s_34 : Sound Tryz.prog 67 c_34 := mkF_sound _ rfl (snd_cons s_hFmt snd_nil) (by kernel_rfl : chkFn Tryz.prog 67 ir67 ir67_v = true)
theorem M_34 : c_34.modes = [.bor, .bor] := rfl
theorem Fl_34 : c_34.flat = true := rfl
attribute [go_sem] M_34 Fl_34
attribute [go_sem] lk_34_82
theorem Fs_34 {i : Int} {base : Int} {y_ : (List UInt8)} (h : strconv_FormatInt i base = some y_) : c_34.F [.int .i64 i, .int .i64 base] = ⟨true, .str y_, [.any, .any]⟩ := by
 refine mkF_E rfl ?_
 dsimp only [strconv_FormatInt] at h
 obtain ⟨y_1, z1, h⟩ := bd_some h
 have fz1 := Fs_hFmt z1
 try simp only [go_sem] at fz1
 obtain rfl := so_some h
 refine ⟨0, fun L hL => ?_⟩
 simp only [go_sem, ir67, fz1]


def ir47_v : List Nat := [0, 2]
def ir47 : AFn := ⟨1, 2, .seq (.region false [ VO 1 2 (.mov (.c (.str [])))]) (.seq (.region false [ PM 3 0, PO 4 (.call 67 [(.s 0), (I6 10)]), VS 1 2 0]) (.ret)), [.t 1]⟩
noncomputable def t_35 : List (Nat × Ctr) := [(67, c_34)]
theorem lk_35_67 : look t_35 67 = some c_34 := rfl
noncomputable def c_35 : Ctr := mkF t_35 ir47 [.bor]
theorem s_35 : Sound Tryz.prog 47 c_35 := mkF_sound _ rfl (snd_cons s_34 snd_nil) (by kernel_rfl : chkFn Tryz.prog 47 ir47 ir47_v = true)
theorem M_35 : c_35.modes = [.bor] := rfl
theorem Fl_35 : c_35.flat = true := rfl
attribute [go_sem] M_35 Fl_35
attribute [go_sem] lk_35_67
theorem Fs_35 {n : Int} {y_ : (List UInt8)} (h : impl_Decimal n = some y_) : c_35.F [.int .i64 n] = ⟨true, .str y_, [.any]⟩ := by
 refine mkF_E rfl ?_
 dsimp only [impl_Decimal] at h
 obtain ⟨y_1, z1, h⟩ := bd_some h
 have fz1 := Fs_34 z1
 try simp only [go_sem] at fz1
 obtain rfl := so_some h
 refine ⟨0, fun L hL => ?_⟩
 simp only [go_sem, ir47, fz1]


theorem s_hJoin : Sound Tryz.prog 46 c_hJoin := hJoin_is

def ir64_v : List Nat := [0, 2]
def ir64 : AFn := ⟨1, 2, .seq (.region false [ VO 1 2 (.mov (I6 0))]) (.seq (.test false [ PM 3 0, PO 4 (.bin false .lss (.s 0) (I6 0))] (.s 0) (.seq (.region false [ PM 5 0, PO 6 (.un .neg (.s 0)), VS 1 2 0]) (.ret)) (.skip)) (.seq (.region false [ PM 7 0, VS 1 2 0]) (.ret))), [.t 1]⟩
noncomputable def t_37 : List (Nat × Ctr) := []
noncomputable def c_37 : Ctr := mkF t_37 ir64 [.bor]
theorem s_37 : Sound Tryz.prog 64 c_37 := mkF_sound _ rfl snd_nil (by kernel_rfl : chkFn Tryz.prog 64 ir64 ir64_v = true)
theorem M_37 : c_37.modes = [.bor] := rfl
theorem Fl_37 : c_37.flat = true := rfl
attribute [go_sem] M_37 Fl_37
theorem Fs_37 {n : Int} {y_ : Int} (h : impl_abs n = some y_) : c_37.F [.int .i64 n] = ⟨true, .int .i64 y_, [.any]⟩ := by
 refine mkF_E rfl ?_
 dsimp only [impl_abs] at h
 rcases it_some h with ⟨z1, h⟩ | ⟨z1, h⟩
 ·try simp only [go_sem, n1, n2, n3, n4] at z1
  all_goals
  obtain rfl := so_some h
  refine ⟨0, fun L hL => ?_⟩
  simp only [go_sem, ir64, z1]
 ·try simp only [go_sem, n1, n2, n3, n4] at z1
  all_goals
  obtain rfl := so_some h
  refine ⟨0, fun L hL => ?_⟩
  simp only [go_sem, ir64, z1]


def ir65_b0 : IR := .seq (.test false [ PM 8 3, PO 9 (.len true (.s 0)), PM 10 1, PO 11 (.bin false .lss (.s 1) (.s 0))] (.s 0) (.skip) (.exit 0)) (.block 1 (.region false [ PM 12 3, PO 13 (.bin false .add (.c (.str [48])) (.s 0)), VS 3 5 0]))
def ir65_k0 : List Bool := [false, true, false, true]
def ir65_o0 : List Bool := [false, false, false, true]
def ir65_r0 : List Bool := [false, false, true, false]
def ir65_v : List Nat := [0, 1, 4, 5]
def ir65 : AFn := ⟨2, 4, .seq (.region false [ VO 2 4 (.mov (.c (.str [])))]) (.seq (.region false [ PM 6 0, PO 7 (.call 47 [(.s 0)]), VS 3 5 0]) (.seq (.block 0 (.loop ir65_k0 ir65_o0 ir65_r0 ir65_b0)) (.seq (.region false [ PM 14 3, VS 2 4 0]) (.ret)))), [.t 2]⟩
noncomputable def t_38 : List (Nat × Ctr) := [(47, c_35)]
theorem lk_38_47 : look t_38 47 = some c_35 := rfl
noncomputable def c_38 : Ctr := mkF t_38 ir65 [.bor, .bor]
theorem s_38 : Sound Tryz.prog 65 c_38 := mkF_sound _ rfl (snd_cons s_35 snd_nil) (by kernel_rfl : chkFn Tryz.prog 65 ir65 ir65_v = true)
theorem M_38 : c_38.modes = [.bor, .bor] := rfl
theorem Fl_38 : c_38.flat = true := rfl
attribute [go_sem] M_38 Fl_38
attribute [go_sem] lk_38_47
def E_38_l1 (digits : Int) : (List UInt8) → St
 | s_ => ⟨[.any, .int .i64 digits, .any, .str s_], [], [], true⟩
def R_38_l1 (digits : Int) (y : (List UInt8)) : Res := (.exit 0, ⟨[.any, .any, .any, .str y], [], [], true⟩)
theorem impl_padded_l1_ex {digits : Int} {sgm_ : (List UInt8)} {rho_ : (List UInt8)} (h : whileE (impl_padded_l1 digits) sgm_ = some rho_) : ∃ L0, ∀ L, L0 ≤ L → iter (exec (look t_38) L ir65_b0) ir65_k0 ir65_o0 ir65_r0 L (E_38_l1 digits sgm_) = R_38_l1 digits rho_ := by
 refine loop_ex (E := E_38_l1 digits) (R := R_38_l1 digits) (fun y => by first | (intro c; cases c) | (rcases y with y | y <;> (intro c; cases c)) | (rcases y with y | y | y <;> (intro c; cases c))) ?_ h
 clear h
 intro s_ o_ h
 dsimp only [impl_padded_l1] at h
 rcases it_some h with ⟨z2, h⟩ | ⟨z2, h⟩
 ·try simp only [go_sem, n1, n2, n3, n4] at z2
  all_goals
  obtain ⟨z3, h⟩ := ck_some h
  try simp only [go_sem, n1, n2, n3, n4, z2] at z3
  all_goals
  obtain rfl := so_some h
  refine ⟨0, fun L hL => ?_⟩
  simp only [go_sem, ir65, E_38_l1, R_38_l1, ir65_b0, ir65_k0, ir65_o0, ir65_r0, z2, z3]
 ·try simp only [go_sem, n1, n2, n3, n4] at z2
  all_goals
  obtain rfl := so_some h
  refine ⟨0, fun L hL => ?_⟩
  simp only [go_sem, ir65, E_38_l1, R_38_l1, ir65_b0, ir65_k0, ir65_o0, ir65_r0, z2]

theorem Fs_38 {n : Int} {digits : Int} {y_ : (List UInt8)} (h : impl_padded n digits = some y_) : c_38.F [.int .i64 n, .int .i64 digits] = ⟨true, .str y_, [.any, .any]⟩ := by
 refine mkF_E rfl ?_
 dsimp only [impl_padded] at h
 obtain ⟨y_1, z1, h⟩ := bd_some h
 have fz1 := Fs_35 z1
 try simp only [go_sem] at fz1
 obtain ⟨y_4, z4, h⟩ := bd_some h
 obtain ⟨Lz4, ez4⟩ := impl_padded_l1_ex z4
 obtain rfl := so_some h
 refine ⟨Lz4, fun L hL => ?_⟩
 have ez4 := ez4 L (by omega)
 try simp only [go_sem, E_38_l1, R_38_l1, ir65_k0, ir65_o0, ir65_r0] at ez4
 simp only [go_sem, ir65, E_38_l1, R_38_l1, ir65_k0, ir65_o0, ir65_r0, fz1, ez4]


def ir45_v : List Nat := [0, 2, 3]
def ir45 : AFn := ⟨1, 3, .seq (.region false [ VO 1 2 (.mov (.c (.str [])))]) (.seq (.test false [ PM 4 0, PO 5 (.call 56 [(.s 0)]), PO 6 (.un .not (.s 0))] (.s 0) (.seq (.region false [ VO 1 2 (.mov (.c (.str [])))]) (.ret)) (.skip)) (.seq (.region false [ VO 2 3 (.mov (.c (.str [])))]) (.seq (.test false [ PM 7 0, PO 8 (.bin false .lss (.s 0) (I6 0))] (.s 0) (.region false [ VO 2 3 (.mov (.c (.str [45])))]) (.skip)) (.seq (.region false [ PM 9 2, PM 10 0, PO 11 (.call 64 [(.s 0)]), PO 12 (.bin false .quo (.s 0) (I6 1000)), PO 13 (.call 47 [(.s 0)]), PO 14 (.bin false .add (.s 4) (.s 0)), PO
 15 (.bin false .add (.s 0) (.c (.str [46]))), PM 16 0, PO 17 (.call 64 [(.s 0)]), PO 18 (.bin false .rem (.s 0) (I6 1000)), PO 19 (.call 65 [(.s 0), (I6 3)]), PO 20 (.bin false .add (.s 4) (.s 0)), VS 1 2 0]) (.ret))))), [.t 1]⟩
noncomputable def t_39 : List (Nat × Ctr) := [(56, c_16), (64, c_37), (47, c_35), (65, c_38)]
theorem lk_39_56 : look t_39 56 = some c_16 := rfl
theorem lk_39_64 : look t_39 64 = some c_37 := rfl
theorem lk_39_47 : look t_39 47 = some c_35 := rfl
theorem lk_39_65 : look t_39 65 = some c_38 := rfl
noncomputable def c_39 : Ctr := mkF t_39 ir45 [.bor]
theorem s_39 : Sound Tryz.prog 45 c_39 := mkF_sound _ rfl (snd_cons s_16 (snd_cons s_37 (snd_cons s_35 (snd_cons s_38 snd_nil)))) (by kernel_rfl : chkFn Tryz.prog 45 ir45 ir45_v = true)
theorem M_39 : c_39.modes = [.bor] := rfl
theorem Fl_39 : c_39.flat = true := rfl
attribute [go_sem] M_39 Fl_39
attribute [go_sem] lk_39_56 lk_39_64 lk_39_47 lk_39_65
theorem Fs_39 {m : Int} {y_ : (List UInt8)} (h : impl_MagText m = some y_) : c_39.F [.int .i64 m] = ⟨true, .str y_, [.any]⟩ := by
 refine mkF_E rfl ?_
 dsimp only [impl_MagText] at h
 obtain ⟨y_1, z1, h⟩ := bd_some h
 have fz1 := Fs_16 z1
 try simp only [go_sem] at fz1
 rcases it_some h with ⟨z2, h⟩ | ⟨z2, h⟩
 ·try simp only [go_sem, n1, n2, n3, n4] at z2
  all_goals
  obtain rfl := so_some h
  refine ⟨0, fun L hL => ?_⟩
  simp only [go_sem, ir45, fz1, z2]
 ·try simp only [go_sem, n1, n2, n3, n4] at z2
  all_goals
  rcases it_some h with ⟨z3, h⟩ | ⟨z3, h⟩
  ·try simp only [go_sem, n1, n2, n3, n4, z2] at z3
   all_goals
   obtain ⟨y_4, z4, h⟩ := bd_some h
   have fz4 := Fs_37 z4
   try simp only [go_sem, z2, z3] at fz4
   obtain ⟨z5, h⟩ := ck_some h
   try simp only [go_sem, n1, n2, n3, n4, z2, z3] at z5
   all_goals
   obtain ⟨y_6, z6, h⟩ := bd_some h
   have fz6 := Fs_35 z6
   try simp only [go_sem, z2, z3, z5] at fz6
   obtain ⟨z7, h⟩ := ck_some h
   try simp only [go_sem, n1, n2, n3, n4, z2, z3, z5] at z7
   all_goals
   obtain ⟨z8, h⟩ := ck_some h
   try simp only [go_sem, n1, n2, n3, n4, z2, z3, z5, z7] at z8
   all_goals
   obtain ⟨y_9, z9, h⟩ := bd_some h
   have fz9 := Fs_38 z9
   try simp only [go_sem, z2, z3, z5, z7, z8] at fz9
   obtain ⟨z10, h⟩ := ck_some h
   try simp only [go_sem, n1, n2, n3, n4, z2, z3, z5, z7, z8] at z10
   all_goals
   obtain rfl := so_some h
   refine ⟨0, fun L hL => ?_⟩
   simp only [go_sem, ir45, fz1, z2, z3, fz4, z5, fz6, z7, z8, fz9, z10]
  ·try simp only [go_sem, n1, n2, n3, n4, z2] at z3
   all_goals
   obtain ⟨y_11, z11, h⟩ := bd_some h
   have fz11 := Fs_37 z11
   try simp only [go_sem, z2, z3] at fz11
   obtain ⟨z12, h⟩ := ck_some h
   try simp only [go_sem, n1, n2, n3, n4, z2, z3] at z12
   all_goals
   obtain ⟨y_13, z13, h⟩ := bd_some h
   have fz13 := Fs_35 z13
   try simp only [go_sem, z2, z3, z12] at fz13
   obtain ⟨z14, h⟩ := ck_some h
   try simp only [go_sem, n1, n2, n3, n4, z2, z3, z12] at z14
   all_goals
   obtain ⟨z15, h⟩ := ck_some h
   try simp only [go_sem, n1, n2, n3, n4, z2, z3, z12, z14] at z15
   all_goals
   obtain ⟨y_16, z16, h⟩ := bd_some h
   have fz16 := Fs_38 z16
   try simp only [go_sem, z2, z3, z12, z14, z15] at fz16
   obtain ⟨z17, h⟩ := ck_some h
   try simp only [go_sem, n1, n2, n3, n4, z2, z3, z12, z14, z15] at z17
   all_goals
   obtain rfl := so_some h
   refine ⟨0, fun L hL => ?_⟩
   simp only [go_sem, ir45, fz1, z2, z3, fz11, z12, fz13, z14, z15, fz16, z17]


def ir24_v : List Nat := [0, 1, 2, 3]
def ir24 : AFn := ⟨1, 4, .seq (.region false [ VO 1 1 (.box (.v 0)), VO 2 2 (.mov (.c (.str [])))]) (.seq (.region false [ PO 4 (.fldAddr 3 (.v 1)), PO 5 (.load false 1 (.s 0)), PO 6 (.call 45 [(.s 0)]), VS 3 3 0]) (.seq (.test false [ PO 7 (.fldAddr 4 (.v 1)), PO 8 (.load false 1 (.s 0))] (.s 0) (.region false [ PM 9 3, PO 10 (.bin false .add (.c (.str [60])) (.s 0)), VS 3 3 0]) (.skip)) (.seq (.anyo 10 [ SO 0 11 (.fldAddr 0 (.v 1)), SO 1 12 (.load false 1 (.s 0)), SO 2 13 (.callp 47 [(.s 1)]), SO 3 14 (.fldAddr 1 (.v 1)), SO 4 15 (.load false 1 (.s 3)), SO 5 16 (.fldAddr 2 (.v 1)), SO 6 17
 (.load false 1 (.s 5)), SO 7 18 (.mov (.v 3)), SO 8 19 (.pur (.mkSl 1 (.str []) 4 [(0, (.s 2)), (1, (.s 4)), (2, (.s 6)), (3, (.s 7))])), SO 9 20 (.callp 46 [(.s 8), (.c (.str [32]))]), VS 2 2 9] [] .skip) (.ret)))), [.t 2]⟩
noncomputable def t_40 : List (Nat × Ctr) := [(45, c_39), (47, c_35), (46, c_hJoin)]
theorem lk_40_45 : look t_40 45 = some c_39 := rfl
theorem lk_40_47 : look t_40 47 = some c_35 := rfl
theorem lk_40_46 : look t_40 46 = some c_hJoin := rfl
noncomputable def c_40 : Ctr := mkF t_40 ir24 [.bor]
theorem s_40 : Sound Tryz.prog 24 c_40 := mkF_sound _ rfl (snd_cons s_39 (snd_cons s_35 (snd_cons s_hJoin snd_nil))) (by kernel_rfl : chkFn Tryz.prog 24 ir24 ir24_v = true)
theorem M_40 : c_40.modes = [.bor] := rfl
theorem Fl_40 : c_40.flat = true := rfl
attribute [go_sem] M_40 Fl_40
attribute [go_sem] lk_40_45 lk_40_47 lk_40_46
theorem Fs_40 {e_ : Estimate} {y_ : (List UInt8)} (h : impl_Estimate_line e_ = some y_) : c_40.F [Estimate_av e_] = ⟨true, .str y_, [.any]⟩ := by
 refine mkF_E rfl ?_
 dsimp only [impl_Estimate_line] at h
 obtain ⟨y_1, z1, h⟩ := bd_some h
 have fz1 := Fs_39 z1
 try simp only [go_sem] at fz1
 rcases it_some h with ⟨z2, h⟩ | ⟨z2, h⟩
 ·try simp only [go_sem, n1, n2, n3, n4] at z2
  all_goals
  obtain ⟨z3, h⟩ := ck_some h
  try simp only [go_sem, n1, n2, n3, n4, z2] at z3
  all_goals
  obtain ⟨y_4, z4, h⟩ := bd_some h
  have fz4 := Fs_35 z4
  try simp only [go_sem, z2, z3] at fz4
  obtain ⟨y_5, z5, h⟩ := bd_some h
  have fz5 := Fs_hJoin z5
  try simp only [go_sem, z2, z3] at fz5
  obtain rfl := so_some h
  refine ⟨0, fun L hL => ?_⟩
  simp only [go_sem, ir24, fz1, z2, z3, fz4, fz5]
 ·try simp only [go_sem, n1, n2, n3, n4] at z2
  all_goals
  obtain ⟨y_6, z6, h⟩ := bd_some h
  have fz6 := Fs_35 z6
  try simp only [go_sem, z2] at fz6
  obtain ⟨y_7, z7, h⟩ := bd_some h
  have fz7 := Fs_hJoin z7
  try simp only [go_sem, z2] at fz7
  obtain rfl := so_some h
  refine ⟨0, fun L hL => ?_⟩
  simp only [go_sem, ir24, fz1, z2, fz6, fz7]



end Go.Proofs.YtpnomhinhcochaaGreatDoor
