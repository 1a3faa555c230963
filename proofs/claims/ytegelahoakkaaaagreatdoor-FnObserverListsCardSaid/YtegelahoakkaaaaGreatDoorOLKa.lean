/- Codes and contracts of the functions that OL reaches, and that their typed forms say what they do. No condition. -/
import Derived.Test.YtegelahoakkaaaaGreatDoorOLT
import Derived.Test.YtegelahoakkaaaaGreatDoorEngInsObserver
import Derived.Test.YtegelahoakkaaaaGreatDoorEngSCut
import Derived.Test.YtegelahoakkaaaaGreatDoorEngSF
import Derived.Test.YtegelahoakkaaaaGreatDoorEngSRd
import Derived.Test.YtegelahoakkaaaaGreatDoorRows
import Derived.WalkKit
namespace Go.Proofs.YtegelahoakkaaaaGreatDoor
open Go Go.RowKit
set_option linter.unusedVariables false
set_option linter.unusedSimpArgs false
set_option maxRecDepth 10000

def ir4_v : List Nat := [0, 2]
def ir4 : AFn := ⟨1, 2, .seq (.region false [ VO 1 2 (.mov (.c (.bool false)))]) (.seq (.region false [ PM 3 0, PO 4 (.len false (.s 0)), PO 5 (.bin false .gtr (.s 0) (I6 4096)), VS 1 2 0]) (.ret)), [.t 1]⟩
noncomputable def t_0 : List (Nat × Ctr) := []
noncomputable def c_0 : Ctr := mkF t_0 ir4 [.bor]
theorem s_0 : Sound Tryz.prog 4 c_0 := mkF_sound _ rfl snd_nil (by kernel_rfl : chkFn Tryz.prog 4 ir4 ir4_v = true)
theorem M_0 : c_0.modes = [.bor] := rfl
theorem Fl_0 : c_0.flat = true := rfl
attribute [go_sem] M_0 Fl_0
theorem Fs_0 {code : List UInt8} {y_ : Bool} (h : laws_f6big code = some y_) : c_0.F [.sl 1 (List.map byteAV code)] = ⟨true, .bool y_, [.any]⟩ := by
 refine mkF_E rfl ?_
 dsimp only [laws_f6big] at h
 obtain rfl := so_some h
 refine ⟨0, fun L hL => ?_⟩
 simp only [go_sem, ir4]


def ir28_v : List Nat := [0, 2]
def ir28 : AFn := ⟨1, 2, .seq (.region false [ VO 1 2 (.mov (.c (.cv (.pointer none))))]) (.seq (.region false [ PM 3 0, PO 4 (.build [.sl 1 [], .int .i64 (0), .int .u64 (0)] [(0, 1, (.s 0))]), PO 5 (.box (.s 0)), VS 1 2 0]) (.ret)), [.t 1]⟩
noncomputable def t_1 : List (Nat × Ctr) := []
noncomputable def c_1 : Ctr := mkN t_1 ir28 [.bor]
theorem s_1 : Sound Tryz.prog 28 c_1 := mkN_sound _ snd_nil (by kernel_rfl : chkFn Tryz.prog 28 ir28 ir28_v = true)
theorem M_1 : c_1.modes = [.bor] := rfl
theorem Fl_1 : c_1.flat = false := rfl
attribute [go_sem] M_1 Fl_1
theorem Fs_1 {code : List UInt8} {y_ : L00Src} (h : spec_l00From code = some y_) : c_1.F [.sl 1 (List.map byteAV code)] = ⟨true, .mem 3 [L00Src_av y_] 0, [.any]⟩ := by
 refine mkN_E ?_
 dsimp only [spec_l00From] at h
 obtain rfl := so_some h
 refine ⟨0, fun L hL => ?_⟩
 simp only [go_sem, ir28]


def ir61_v : List Nat := [0, 2, 3]
def ir61 : AFn := ⟨1, 3, .seq (.region false [ VO 1 2 (.mov (I6 0))]) (.seq (.region false [ VO 2 3 (.mov (I6 0))]) (.seq (.anyo 10 [ SO 0 4 (.mov (.v 0)), SO 1 5 (.nilck (.s 0)), SO 2 6 (.fldAddr 1 (.s 1)), SO 3 7 (.load false 1 (.s 2)), SO 4 8 (.mov (.v 0)), SO 5 9 (.nilck (.s 4)), SO 6 10 (.fldAddr 0 (.s 5)), SO 7 11 (.load false 1 (.s 6)), SO 8 12 (.len false (.s 7)), SO 9 13 (.bin false .lss (.s 3) (.s 8))] [] (.cond (.s 9) (.anyo 11 [ SO 0 14 (.mov (.v 0)), SO 1 15 (.nilck (.s 0)), SO 2 16 (.fldAddr 0 (.s 1)), SO 3 17 (.load false 1 (.s 2)), SO 4 18 (.mov (.v 0)), SO 5 19 (.nilck (.s 4)),
 SO 6 20 (.fldAddr 1 (.s 5)), SO 7 21 (.load false 1 (.s 6)), SO 8 22 (.ixAddr 1 (.s 3) (.s 7)), SO 9 23 (.load false 1 (.s 8)), SO 10 24 (.conv .i64 (.s 9)), VS 2 3 10] [] .skip) (.skip))) (.seq (.region false [ PM 25 0, PO 26 (.nilck (.s 0)), PO 27 (.fldAddr 1 (.s 0)), PO 28 (.load false 1 (.s 0)), PO 29 (.bin false .add (.s 0) (I6 1)), PO 30 (.nilck (.s 4)), PO 31 (.fldAddr 1 (.s 0)), ⟨.no, 0, none, .store 1 (.s 0) (.s 2)⟩]) (.seq (.region false [ PM 32 0, PM 33 0, PO 34 (.nilck (.s 0)), PO 35 (.fldAddr 2 (.s 0)), PO 36 (.load false 1 (.s 0)), PO 37 (.bin false .mul (.s 0) (.c (.int .u64
 (6364136223846793005)))), PM 38 2, PO 39 (.conv .u64 (.s 0)), PO 40 (.bin false .add (.s 2) (.s 0)), PO 41 (.bin false .add (.s 0) (.c (.int .u64 (1442695040888963407)))), PO 42 (.nilck (.s 9)), PO 43 (.fldAddr 2 (.s 0)), ⟨.no, 0, none, .store 1 (.s 0) (.s 2)⟩]) (.seq (.anyo 10 [ SO 0 44 (.mov (.v 0)), SO 1 45 (.nilck (.s 0)), SO 2 46 (.fldAddr 1 (.s 1)), SO 3 47 (.load false 1 (.s 2)), SO 4 48 (.mov (.v 0)), SO 5 49 (.nilck (.s 4)), SO 6 50 (.fldAddr 0 (.s 5)), SO 7 51 (.load false 1 (.s 6)), SO 8 52 (.len false (.s 7)), SO 9 53 (.bin false .leq (.s 3) (.s 8))] [] (.cond (.s 9) (.seq (.region
 false [ PM 54 2, VS 1 2 0]) (.ret)) (.skip))) (.seq (.region false [ PM 55 0, PO 56 (.nilck (.s 0)), PO 57 (.fldAddr 2 (.s 0)), PO 58 (.load false 1 (.s 0)), PO 59 (.bin false .shr (.s 0) (.c (.int .u64 (40)))), PO 60 (.bin false .and (.s 0) (.c (.int .u64 (255)))), PO 61 (.conv .i64 (.s 0)), VS 1 2 0]) (.ret))))))), [.t 1]⟩
noncomputable def t_2 : List (Nat × Ctr) := []
noncomputable def c_2 : Ctr := mkN t_2 ir61 [.io]
theorem s_2 : Sound Tryz.prog 61 c_2 := mkN_sound _ snd_nil (by kernel_rfl : chkFn Tryz.prog 61 ir61 ir61_v = true)
theorem M_2 : c_2.modes = [.io] := rfl
theorem Fl_2 : c_2.flat = false := rfl
attribute [go_sem] M_2 Fl_2
theorem Fs_2 {s_ : L00Src} {y_ : Int × L00Src} (h : spec_l00Src_next s_ = some y_) : c_2.F [.mem 3 [L00Src_av s_] 0] = ⟨true, .int .i64 y_.1, [.mem 3 [L00Src_av y_.2] 0]⟩ := by
 refine mkN_E ?_
 dsimp only [spec_l00Src_next] at h
 rcases it_some h with ⟨z1, h⟩ | ⟨z1, h⟩
 ·try simp only [go_sem, n1, n2, n3, n4] at z1
  all_goals
  obtain ⟨z2, h⟩ := ck_some h
  have lz2 := ix_lt z2
  have xz2 := getD_mapD byteAV s_.code_ lz2
  try simp only [go_sem] at lz2
  try simp only [go_sem] at xz2
  try simp only [go_sem, n1, n2, n3, n4, z1] at z2
  all_goals
  rcases it_some h with ⟨z3, h⟩ | ⟨z3, h⟩
  ·try simp only [go_sem, n1, n2, n3, n4, z1, z2] at z3
   all_goals
   obtain rfl := so_some h
   refine ⟨0, fun L hL => ?_⟩
   simp only [go_sem, ir61, z1, z2, lz2, xz2, z3]
  ·try simp only [go_sem, n1, n2, n3, n4, z1, z2] at z3
   all_goals
   obtain ⟨z4, h⟩ := ck_some h
   try simp only [go_sem, n1, n2, n3, n4, z1, z2, z3] at z4
   all_goals
   obtain rfl := so_some h
   refine ⟨0, fun L hL => ?_⟩
   simp only [go_sem, ir61, z1, z2, lz2, xz2, z3, z4]
 ·try simp only [go_sem, n1, n2, n3, n4] at z1
  all_goals
  rcases it_some h with ⟨z5, h⟩ | ⟨z5, h⟩
  ·try simp only [go_sem, n1, n2, n3, n4, z1] at z5
   all_goals
   obtain rfl := so_some h
   refine ⟨0, fun L hL => ?_⟩
   simp only [go_sem, ir61, z1, z5]
  ·try simp only [go_sem, n1, n2, n3, n4, z1] at z5
   all_goals
   obtain ⟨z6, h⟩ := ck_some h
   try simp only [go_sem, n1, n2, n3, n4, z1, z5] at z6
   all_goals
   obtain rfl := so_some h
   refine ⟨0, fun L hL => ?_⟩
   simp only [go_sem, ir61, z1, z5, z6]


def ir31_v : List Nat := [0, 1, 4, 5]
def ir31 : AFn := ⟨2, 4, .seq (.region false [ VO 2 4 (.mov (I6 0))]) (.seq (.test false [ PM 6 1, PO 7 (.bin false .leq (.s 0) (I6 1))] (.s 0) (.seq (.region false [ VO 2 4 (.mov (I6 0))]) (.ret)) (.skip)) (.seq (.region false [ PM 8 0, PO 9 (.call 61 [(.s 0)]), VS 3 5 0]) (.seq (.test false [ PM 10 1, PO 11 (.bin false .gtr (.s 0) (I6 200))] (.s 0) (.region false [ PM 12 3, PO 13 (.bin false .mul (.s 0) (I6 256)), PM 14 0, PO 15 (.call 61 [(.s 0)]), PO 16 (.bin false .add (.s 2) (.s 0)), VS 3 5 0]) (.skip)) (.seq (.region false [ PM 17 3, PM 18 1, PO 19 (.bin false .rem (.s 1) (.s 0)), VS 2 4
 0]) (.ret))))), [.t 2]⟩
noncomputable def t_3 : List (Nat × Ctr) := [(61, c_2)]
theorem lk_3_61 : look t_3 61 = some c_2 := rfl
noncomputable def c_3 : Ctr := mkN t_3 ir31 [.io, .bor]
theorem s_3 : Sound Tryz.prog 31 c_3 := mkN_sound _ (snd_cons s_2 snd_nil) (by kernel_rfl : chkFn Tryz.prog 31 ir31 ir31_v = true)
theorem M_3 : c_3.modes = [.io, .bor] := rfl
theorem Fl_3 : c_3.flat = false := rfl
attribute [go_sem] M_3 Fl_3
attribute [go_sem] lk_3_61
theorem Fs_3 {s_ : L00Src} {n : Int} {y_ : Int × L00Src} (h : spec_l00Src_pick s_ n = some y_) : c_3.F [.mem 3 [L00Src_av s_] 0, .int .i64 n] = ⟨true, .int .i64 y_.1, [.mem 3 [L00Src_av y_.2] 0, .any]⟩ := by
 refine mkN_E ?_
 dsimp only [spec_l00Src_pick] at h
 rcases it_some h with ⟨z1, h⟩ | ⟨z1, h⟩
 ·try simp only [go_sem, n1, n2, n3, n4] at z1
  all_goals
  obtain rfl := so_some h
  refine ⟨0, fun L hL => ?_⟩
  simp only [go_sem, ir31, z1]
 ·try simp only [go_sem, n1, n2, n3, n4] at z1
  all_goals
  obtain ⟨y_2, z2, h⟩ := bd_some h
  have fz2 := Fs_2 z2
  try simp only [go_sem, z1] at fz2
  rcases it_some h with ⟨z3, h⟩ | ⟨z3, h⟩
  ·try simp only [go_sem, n1, n2, n3, n4, z1] at z3
   all_goals
   obtain ⟨y_4, z4, h⟩ := bd_some h
   have fz4 := Fs_2 z4
   try simp only [go_sem, z1, z3] at fz4
   obtain ⟨z5, h⟩ := ck_some h
   try simp only [go_sem, n1, n2, n3, n4, z1, z3] at z5
   all_goals
   obtain rfl := so_some h
   refine ⟨0, fun L hL => ?_⟩
   simp only [go_sem, ir31, z1, fz2, z3, fz4, z5]
  ·try simp only [go_sem, n1, n2, n3, n4, z1] at z3
   all_goals
   obtain ⟨z6, h⟩ := ck_some h
   try simp only [go_sem, n1, n2, n3, n4, z1, z3] at z6
   all_goals
   obtain rfl := so_some h
   refine ⟨0, fun L hL => ?_⟩
   simp only [go_sem, ir31, z1, fz2, z3, z6]


def ir78_v : List Nat := [0]
def ir78 : AFn := ⟨0, 1, .seq (.region false [ VO 0 0 (.newnil 1)]) (.seq (.region false [ PO 1 (.mkSl 1 (.str []) 6 [(0, (.c (.str [97, 98]))), (1, (.c (.str [99, 100, 45, 49]))), (2, (.c (.str [101, 118, 101]))), (3, (.c (.str [107, 105, 109]))), (4, (.c (.str [108, 111, 117]))), (5, (.c (.str [122, 101, 100])))]), VS 0 0 0]) (.ret)), [.t 0]⟩
noncomputable def t_4 : List (Nat × Ctr) := []
noncomputable def c_4 : Ctr := mkF t_4 ir78 []
theorem s_4 : Sound Tryz.prog 78 c_4 := mkF_sound _ rfl snd_nil (by kernel_rfl : chkFn Tryz.prog 78 ir78 ir78_v = true)
theorem M_4 : c_4.modes = [] := rfl
theorem Fl_4 : c_4.flat = true := rfl
attribute [go_sem] M_4 Fl_4
theorem Fs_4  {y_ : (List (List UInt8))} (h : spec_l05Names = some y_) : c_4.F [] = ⟨true, .fresh 1 (List.map AV.str y_), []⟩ := by
 refine mkF_E (by simp only [flatA, flatB, flat1, List.all_cons, List.all_nil, Bool.and_self, flatE_map (f := AV.str) (fun _ => rfl)]) ?_
 dsimp only [spec_l05Names] at h
 obtain rfl := so_some h
 refine ⟨0, fun L hL => ?_⟩
 simp only [go_sem, ir78]


def ir32_v : List Nat := [0, 1, 4]
def ir32 : AFn := ⟨2, 3, .seq (.region false [ VO 2 4 (.mov (.c (.bool false)))]) (.seq (.region false [ PM 5 0, PM 6 1, PO 7 (.call 31 [(.s 1), (.s 0)]), PO 8 (.bin false .eql (.s 0) (I6 0)), VS 2 4 0]) (.ret)), [.t 2]⟩
noncomputable def t_5 : List (Nat × Ctr) := [(31, c_3)]
theorem lk_5_31 : look t_5 31 = some c_3 := rfl
noncomputable def c_5 : Ctr := mkN t_5 ir32 [.io, .bor]
theorem s_5 : Sound Tryz.prog 32 c_5 := mkN_sound _ (snd_cons s_3 snd_nil) (by kernel_rfl : chkFn Tryz.prog 32 ir32 ir32_v = true)
theorem M_5 : c_5.modes = [.io, .bor] := rfl
theorem Fl_5 : c_5.flat = false := rfl
attribute [go_sem] M_5 Fl_5
attribute [go_sem] lk_5_31
theorem Fs_5 {s_ : L00Src} {n : Int} {y_ : Bool × L00Src} (h : spec_l00Src_one s_ n = some y_) : c_5.F [.mem 3 [L00Src_av s_] 0, .int .i64 n] = ⟨true, .bool y_.1, [.mem 3 [L00Src_av y_.2] 0, .any]⟩ := by
 refine mkN_E ?_
 dsimp only [spec_l00Src_one] at h
 obtain ⟨y_1, z1, h⟩ := bd_some h
 have fz1 := Fs_3 z1
 try simp only [go_sem] at fz1
 obtain rfl := so_some h
 refine ⟨0, fun L hL => ?_⟩
 simp only [go_sem, ir32, fz1]


def ir57_b0 : IR := .seq (.test false [ PM 8 4, PM 9 2, PO 10 (.len false (.s 0)), PO 11 (.bin false .lss (.s 2) (.s 0))] (.s 0) (.skip) (.exit 0)) (.seq (.block 1 (.seq (.test false [ PM 14 0, PO 15 (.call 32 [(.s 0), (I6 3)])] (.s 0) (.exit 1) (.skip)) (.anyo 12 [ SO 0 16 (.mov (.v 3)), SO 1 17 (.mov (.v 2)), SO 2 18 (.flat (.mov (.v 4))), SO 3 19 (.ixAddr 1 (.s 1) (.s 2)), SO 4 20 (.load false 1 (.s 3)), SO 5 21 (.mov (.v 0)), SO 6 22 (.call 31 [(.s 5), (I6 60)]), SO 7 23 (.flat (.bin false .mul (I6 10) (.s 6))), SO 8 24 (.flat (.bin false .sub (.s 7) (I6 300))), SO 9 25 (.pur (.build [.str
 [], .int .i64 (0)] [(0, 1, (.s 4)), (1, 1, (.s 8))])), SO 10 26 (.pur (.mkSl 2 (.agg [.str [], .int .i64 (0)]) 1 [(0, (.s 9))])), SO 11 27 (.app 2 24 (.agg [.str [], .int .i64 (0)]) (.s 0) (.s 10)), VS 3 4 11] [[2, 5, 0, 1, 3, 4, 6, 7, 8, 9, 10, 11, 12], [2, 5, 0, 1, 3, 6, 4, 7, 8, 9, 10, 11, 12], [2, 5, 0, 1, 6, 3, 4, 7, 8, 9, 10, 11, 12], [2, 5, 0, 6, 1, 3, 4, 7, 8, 9, 10, 11, 12], [2, 5, 1, 0, 3, 4, 6, 7, 8, 9, 10, 11, 12], [2, 5, 1, 0, 3, 6, 4, 7, 8, 9, 10, 11, 12], [2, 5, 1, 0, 6, 3, 4, 7, 8, 9, 10, 11, 12], [2, 5, 1, 3, 0, 4, 6, 7, 8, 9, 10, 11, 12], [2, 5, 1, 3, 0, 6, 4, 7, 8, 9, 10,
 11, 12], [2, 5, 1, 3, 4, 0, 6, 7, 8, 9, 10, 11, 12], [2, 5, 1, 3, 4, 6, 0, 7, 8, 9, 10, 11, 12], [2, 5, 1, 3, 6, 0, 4, 7, 8, 9, 10, 11, 12], [2, 5, 1, 6, 0, 3, 4, 7, 8, 9, 10, 11, 12], [2, 5, 6, 0, 1, 3, 4, 7, 8, 9, 10, 11, 12]] .skip))) (.region false [ PM 12 4, PO 13 (.bin false .add (.s 0) (I6 1)), VS 4 5 0]))
def ir57_k0 : List Bool := [true, false, true, true, true]
def ir57_o0 : List Bool := [true, false, false, true, false]
def ir57_r0 : List Bool := [true, true, false, false, false]
def ir57_v : List Nat := [0, 2, 3, 4, 5]
def ir57 : AFn := ⟨1, 5, .seq (.region false [ VO 1 2 (.newnil 2)]) (.seq (.region false [ PO 6 (.call 78 []), VS 2 3 0]) (.seq (.region false [ PO 7 (.mkSl 2 (.agg [.str [], .int .i64 (0)]) 0 []), VS 3 4 0]) (.seq (.seq (.region false [ VO 4 5 (.mov (I6 0))]) (.block 0 (.loop ir57_k0 ir57_o0 ir57_r0 ir57_b0))) (.seq (.region false [ PM 28 3, VS 1 2 0]) (.ret))))), [.t 1]⟩
noncomputable def t_6 : List (Nat × Ctr) := [(78, c_4), (32, c_5), (31, c_3)]
theorem lk_6_78 : look t_6 78 = some c_4 := rfl
theorem lk_6_32 : look t_6 32 = some c_5 := rfl
theorem lk_6_31 : look t_6 31 = some c_3 := rfl
noncomputable def c_6 : Ctr := mkN t_6 ir57 [.io]
theorem s_6 : Sound Tryz.prog 57 c_6 := mkN_sound _ (snd_cons s_4 (snd_cons s_5 (snd_cons s_3 snd_nil))) (by kernel_rfl : chkFn Tryz.prog 57 ir57 ir57_v = true)
theorem M_6 : c_6.modes = [.io] := rfl
theorem Fl_6 : c_6.flat = false := rfl
attribute [go_sem] M_6 Fl_6
attribute [go_sem] lk_6_78 lk_6_32 lk_6_31
def E_6_l1 (names : List (List UInt8)) : (L00Src × (List Observer) × Int) → St
 | (s_, out, k) => ⟨[.ref 31 0 0, .any, .own 3200032, .own 3200064, .int .i64 k], [], [(31, ⟨3, [L00Src_av s_]⟩), (3200032, ⟨1, List.map AV.str names⟩), (3200064, ⟨2, List.map Observer_av out⟩)], true⟩
def R_6_l1 (names : List (List UInt8)) (y : L00Src × (List Observer)) : Res := (.exit 0, ⟨[.ref 31 0 0, .any, .any, .own 3200032, .any], [], [(31, ⟨3, [L00Src_av y.1]⟩), (3200032, ⟨2, List.map Observer_av y.2⟩)], true⟩)
theorem spec_l05Draw_l1_ex {names : List (List UInt8)} {sgm_ : L00Src × (List Observer) × Int} {rho_ : L00Src × (List Observer)} (h : whileE (spec_l05Draw_l1 names) sgm_ = some rho_) : ∃ L0, ∀ L, L0 ≤ L → iter (exec (look t_6) L ir57_b0) ir57_k0 ir57_o0 ir57_r0 L (E_6_l1 names sgm_) = R_6_l1 names rho_ := by
 refine loop_ex (E := E_6_l1 names) (R := R_6_l1 names) (fun y => by first | (intro c; cases c) | (rcases y with y | y <;> (intro c; cases c)) | (rcases y with y | y | y <;> (intro c; cases c))) ?_ h
 clear h
 rintro ⟨s_, out, k⟩ o_ h
 dsimp only [spec_l05Draw_l1] at h
 rcases it_some h with ⟨z2, h⟩ | ⟨z2, h⟩
 ·try simp only [go_sem, n1, n2, n3, n4] at z2
  all_goals
  obtain ⟨y_3, z3, h⟩ := bd_some h
  have fz3 := Fs_5 z3
  try simp only [go_sem, z2] at fz3
  rcases it_some h with ⟨z4, h⟩ | ⟨z4, h⟩
  ·try simp only [go_sem, n1, n2, n3, n4, z2] at z4
   all_goals
   obtain rfl := so_some h
   refine ⟨0, fun L hL => ?_⟩
   simp only [go_sem, ir57, E_6_l1, R_6_l1, ir57_b0, ir57_k0, ir57_o0, ir57_r0, z2, fz3, z4]
  ·try simp only [go_sem, n1, n2, n3, n4, z2] at z4
   all_goals
   obtain ⟨z5, h⟩ := ck_some h
   have lz5 := ix_lt z5
   have xz5 := getD_mapD AV.str names lz5
   try simp only [go_sem] at lz5
   try simp only [go_sem] at xz5
   try simp only [go_sem, n1, n2, n3, n4, z2, z4] at z5
   all_goals
   obtain ⟨y_6, z6, h⟩ := bd_some h
   have fz6 := Fs_3 z6
   try simp only [go_sem, z2, z4, z5] at fz6
   obtain ⟨z7, h⟩ := ck_some h
   try simp only [go_sem, n1, n2, n3, n4, z2, z4, z5] at z7
   all_goals
   obtain rfl := so_some h
   refine ⟨0, fun L hL => ?_⟩
   simp only [go_sem, ir57, E_6_l1, R_6_l1, ir57_b0, ir57_k0, ir57_o0, ir57_r0, z2, fz3, z4, z5, lz5, xz5, fz6, z7]
 ·try simp only [go_sem, n1, n2, n3, n4] at z2
  all_goals
  obtain rfl := so_some h
  refine ⟨0, fun L hL => ?_⟩
  simp only [go_sem, ir57, E_6_l1, R_6_l1, ir57_b0, ir57_k0, ir57_o0, ir57_r0, z2]

theorem Fs_6 {s_ : L00Src} {y_ : (List Observer) × L00Src} (h : spec_l05Draw s_ = some y_) : c_6.F [.mem 3 [L00Src_av s_] 0] = ⟨true, .fresh 2 (List.map Observer_av y_.1), [.mem 3 [L00Src_av y_.2] 0]⟩ := by
 refine mkN_E ?_
 dsimp only [spec_l05Draw] at h
 obtain ⟨y_1, z1, h⟩ := bd_some h
 have fz1 := Fs_4 z1
 try simp only [go_sem] at fz1
 obtain ⟨y_8, z8, h⟩ := bd_some h
 obtain ⟨Lz8, ez8⟩ := spec_l05Draw_l1_ex z8
 obtain rfl := so_some h
 refine ⟨Lz8, fun L hL => ?_⟩
 have ez8 := ez8 L (by omega)
 try simp only [go_sem, E_6_l1, R_6_l1, ir57_k0, ir57_o0, ir57_r0] at ez8
 simp only [go_sem, ir57, E_6_l1, R_6_l1, ir57_k0, ir57_o0, ir57_r0, fz1, ez8]


def ir60_v : List Nat := [0, 1, 4]
def ir60 : AFn := ⟨2, 3, .seq (.region false [ VO 2 4 (.mov (.c (.str [])))]) (.seq (.region false [ PM 5 1, PM 6 0, PM 7 1, PO 8 (.len false (.s 0)), PO 9 (.call 31 [(.s 2), (.s 0)]), PO 10 (.ixAddr 1 (.s 4) (.s 0)), PO 11 (.load false 1 (.s 0)), VS 2 4 0]) (.ret)), [.t 2]⟩
noncomputable def t_7 : List (Nat × Ctr) := [(31, c_3)]
theorem lk_7_31 : look t_7 31 = some c_3 := rfl
noncomputable def c_7 : Ctr := mkN t_7 ir60 [.io, .bor]
theorem s_7 : Sound Tryz.prog 60 c_7 := mkN_sound _ (snd_cons s_3 snd_nil) (by kernel_rfl : chkFn Tryz.prog 60 ir60 ir60_v = true)
theorem M_7 : c_7.modes = [.io, .bor] := rfl
theorem Fl_7 : c_7.flat = false := rfl
attribute [go_sem] M_7 Fl_7
attribute [go_sem] lk_7_31
theorem Fs_7 {s_ : L00Src} {list : List (List UInt8)} {y_ : (List UInt8) × L00Src} (h : spec_l00Src_text s_ list = some y_) : c_7.F [.mem 3 [L00Src_av s_] 0, .sl 1 (List.map AV.str list)] = ⟨true, .str y_.1, [.mem 3 [L00Src_av y_.2] 0, .any]⟩ := by
 refine mkN_E ?_
 dsimp only [spec_l00Src_text] at h
 obtain ⟨y_1, z1, h⟩ := bd_some h
 have fz1 := Fs_3 z1
 try simp only [go_sem] at fz1
 obtain ⟨z2, h⟩ := ck_some h
 have lz2 := ix_lt z2
 have xz2 := getD_mapD AV.str list lz2
 try simp only [go_sem] at lz2
 try simp only [go_sem] at xz2
 try simp only [go_sem, n1, n2, n3, n4] at z2
 all_goals
 obtain rfl := so_some h
 refine ⟨0, fun L hL => ?_⟩
 simp only [go_sem, ir60, fz1, z2, lz2, xz2]


def ir33_v : List Nat := [0, 1, 4]
def ir33 : AFn := ⟨2, 3, .seq (.region false [ VO 2 4 (.mov (I6 0))]) (.seq (.region false [ PM 5 1, PM 6 0, PM 7 1, PO 8 (.len false (.s 0)), PO 9 (.call 31 [(.s 2), (.s 0)]), PO 10 (.ixAddr 1 (.s 4) (.s 0)), PO 11 (.load false 1 (.s 0)), VS 2 4 0]) (.ret)), [.t 2]⟩
noncomputable def t_8 : List (Nat × Ctr) := [(31, c_3)]
theorem lk_8_31 : look t_8 31 = some c_3 := rfl
noncomputable def c_8 : Ctr := mkN t_8 ir33 [.io, .bor]
theorem s_8 : Sound Tryz.prog 33 c_8 := mkN_sound _ (snd_cons s_3 snd_nil) (by kernel_rfl : chkFn Tryz.prog 33 ir33 ir33_v = true)
theorem M_8 : c_8.modes = [.io, .bor] := rfl
theorem Fl_8 : c_8.flat = false := rfl
attribute [go_sem] M_8 Fl_8
attribute [go_sem] lk_8_31
theorem Fs_8 {s_ : L00Src} {list : List Int} {y_ : Int × L00Src} (h : spec_l00Src_among s_ list = some y_) : c_8.F [.mem 3 [L00Src_av s_] 0, .sl 1 (List.map (AV.int .i64) list)] = ⟨true, .int .i64 y_.1, [.mem 3 [L00Src_av y_.2] 0, .any]⟩ := by
 refine mkN_E ?_
 dsimp only [spec_l00Src_among] at h
 obtain ⟨y_1, z1, h⟩ := bd_some h
 have fz1 := Fs_3 z1
 try simp only [go_sem] at fz1
 obtain ⟨z2, h⟩ := ck_some h
 have lz2 := ix_lt z2
 have xz2 := getD_mapD (AV.int .i64) list lz2
 try simp only [go_sem] at lz2
 try simp only [go_sem] at xz2
 try simp only [go_sem, n1, n2, n3, n4] at z2
 all_goals
 obtain rfl := so_some h
 refine ⟨0, fun L hL => ?_⟩
 simp only [go_sem, ir33, fz1, z2, lz2, xz2]


def ir29_b0 : IR := .seq (.test false [ PM 15 3, PO 16 (.bin false .gtr (.s 0) (I6 0))] (.s 0) (.skip) (.exit 0)) (.seq (.block 1 (.seq (.region false [ PM 19 2, PO 20 (.len false (.s 0)), VS 4 5 0]) (.region false [ PM 21 2, PM 22 4, PO 23 (.bin false .quo (.s 0) (I6 26)), PO 24 (.bin false .add (I6 97) (.s 0)), PO 25 (.conv .u8 (.s 0)), PM 26 4, PO 27 (.bin false .rem (.s 0) (I6 26)), PO 28 (.bin false .add (I6 97) (.s 0)), PO 29 (.conv .u8 (.s 0)), PO 30 (.mkSl 1 (.int .u8 (0)) 2 [(0, (.s 4)), (1, (.s 0))]), PO 31 (.b2s (.s 0)), PO 32 (.bin false .add (.c (.str [111])) (.s 0)), PM 33 4, PO
 34 (.build [.str [], .int .i64 (0)] [(0, 1, (.s 1)), (1, 1, (.s 0))]), PO 35 (.mkSl 2 (.agg [.str [], .int .i64 (0)]) 1 [(0, (.s 0))]), PO 36 (.app 2 24 (.agg [.str [], .int .i64 (0)]) (.s 14) (.s 0)), VS 2 3 0]))) (.region false [ PM 17 3, PO 18 (.bin false .sub (.s 0) (I6 1)), VS 3 4 0]))
def ir29_k0 : List Bool := [true, false, true, true, false, false, false]
def ir29_o0 : List Bool := [true, false, true, false, false, false, false]
def ir29_r0 : List Bool := [true, true, false, false, false, false, false]
def ir29_v : List Nat := [0, 2, 3, 4, 5, 6, 48]
def ir29 : AFn := ⟨1, 7, .seq (.region false [ VO 1 2 (.newnil 2)]) (.seq (.region false [ PM 7 0, PO 8 (.call 57 [(.s 0)]), VS 2 3 0]) (.seq (.test false [ PM 9 0, PO 10 (.call 32 [(.s 0), (I6 24)])] (.s 0) (.seq (.region false [ PO 11 (.mkSl 2 (.agg [.str [], .int .i64 (0)]) 0 []), VS 2 3 0]) (.seq (.region false [ PM 12 0, PO 13 (.call 31 [(.s 0), (I6 2)]), PO 14 (.bin false .add (I6 40) (.s 0)), VS 3 4 0]) (.block 0 (.loop ir29_k0 ir29_o0 ir29_r0 ir29_b0)))) (.skip)) (.seq (.test false [ PM 37 2, PO 38 (.len false (.s 0)), PO 39 (.bin false .eql (.s 0) (I6 0))] (.s 0) (.seq (.region false [
 PM 40 2, VS 1 2 0]) (.ret)) (.skip)) (.seq (.region false [ PM 41 2, PM 42 0, PM 43 2, PO 44 (.len false (.s 0)), PO 45 (.call 31 [(.s 2), (.s 0)]), PO 46 (.ixAddr 2 (.s 4) (.s 0)), VS 5 6 0]) (.seq (.seq (.region false [ PM 47 0, VO 6 48 (.call 31 [(.s 0), (I6 16)])]) (.block 2 (.test false [ PO 50 (.bin false .eql (.v 6) (I6 0)), PO 49 (.mov (.s 0))] (.s 0) (.region false [ PM 51 5, PM 52 0, PO 53 (.mkSl 1 (.str []) 4 [(0, (.c (.str []))), (1, (.c (.str [65, 98]))), (2, (.c (.str [97, 98]))), (3, (.c (.str [122, 122])))]), PO 54 (.call 60 [(.s 1), (.s 0)]), PO 55 (.nilck (.s 3)), PO 56
 (.fldAddr 0 (.s 0)), ⟨.no, 0, none, .store 1 (.s 0) (.s 2)⟩]) (.test false [ PO 58 (.bin false .eql (.v 6) (I6 1)), PO 57 (.mov (.s 0))] (.s 0) (.region false [ PM 59 5, PM 60 0, PO 61 (.mkSl 1 (.int .i64 (0)) 6 [(0, (.c (.int .i64 (-2001)))), (1, (.c (.int .i64 (-2000)))), (2, (I6 0)), (3, (I6 2000)), (4, (I6 2001)), (5, (.c (.int .i64 (-9223372036854775808))))]), PO 62 (.call 33 [(.s 1), (.s 0)]), PO 63 (.nilck (.s 3)), PO 64 (.fldAddr 1 (.s 0)), ⟨.no, 0, none, .store 1 (.s 0) (.s 2)⟩]) (.skip))))) (.seq (.region false [ PM 65 2, VS 1 2 0]) (.ret))))))), [.t 1]⟩
noncomputable def t_9 : List (Nat × Ctr) := [(57, c_6), (32, c_5), (31, c_3), (60, c_7), (33, c_8)]
theorem lk_9_57 : look t_9 57 = some c_6 := rfl
theorem lk_9_32 : look t_9 32 = some c_5 := rfl
theorem lk_9_31 : look t_9 31 = some c_3 := rfl
theorem lk_9_60 : look t_9 60 = some c_7 := rfl
theorem lk_9_33 : look t_9 33 = some c_8 := rfl
noncomputable def c_9 : Ctr := mkN t_9 ir29 [.io]
theorem s_9 : Sound Tryz.prog 29 c_9 := mkN_sound _ (snd_cons s_6 (snd_cons s_5 (snd_cons s_3 (snd_cons s_7 (snd_cons s_8 snd_nil))))) (by kernel_rfl : chkFn Tryz.prog 29 ir29 ir29_v = true)
theorem M_9 : c_9.modes = [.io] := rfl
theorem Fl_9 : c_9.flat = false := rfl
attribute [go_sem] M_9 Fl_9
attribute [go_sem] lk_9_57 lk_9_32 lk_9_31 lk_9_60 lk_9_33
def E_9_l1 (s_ : L00Src) : ((List Observer) × Int) → St
 | (list, k) => ⟨[.ref 31 0 0, .any, .own 3200032, .int .i64 k, .any, .any, .any], [], [(31, ⟨3, [L00Src_av s_]⟩), (3200032, ⟨2, List.map Observer_av list⟩)], true⟩
def R_9_l1 (s_ : L00Src) (y : (List Observer)) : Res := (.exit 0, ⟨[.ref 31 0 0, .any, .own 3200032, .any, .any, .any, .any], [], [(31, ⟨3, [L00Src_av s_]⟩), (3200032, ⟨2, List.map Observer_av y⟩)], true⟩)
theorem spec_l05Bent_l1_ex {s_ : L00Src} {sgm_ : (List Observer) × Int} {rho_ : (List Observer)} (h : whileE (spec_l05Bent_l1 s_) sgm_ = some rho_) : ∃ L0, ∀ L, L0 ≤ L → iter (exec (look t_9) L ir29_b0) ir29_k0 ir29_o0 ir29_r0 L (E_9_l1 s_ sgm_) = R_9_l1 s_ rho_ := by
 refine loop_ex (E := E_9_l1 s_) (R := R_9_l1 s_) (fun y => by first | (intro c; cases c) | (rcases y with y | y <;> (intro c; cases c)) | (rcases y with y | y | y <;> (intro c; cases c))) ?_ h
 clear h
 rintro ⟨list, k⟩ o_ h
 dsimp only [spec_l05Bent_l1] at h
 rcases it_some h with ⟨z5, h⟩ | ⟨z5, h⟩
 ·try simp only [go_sem, n1, n2, n3, n4] at z5
  all_goals
  obtain ⟨z6, h⟩ := ck_some h
  try simp only [go_sem, n1, n2, n3, n4, z5] at z6
  all_goals
  obtain ⟨z7, h⟩ := ck_some h
  try simp only [go_sem, n1, n2, n3, n4, z5, z6] at z7
  all_goals
  obtain ⟨z8, h⟩ := ck_some h
  try simp only [go_sem, n1, n2, n3, n4, z5, z6, z7] at z8
  all_goals
  obtain rfl := so_some h
  refine ⟨0, fun L hL => ?_⟩
  simp only [go_sem, ir29, E_9_l1, R_9_l1, ir29_b0, ir29_k0, ir29_o0, ir29_r0, z5, z6, z7, z8]
 ·try simp only [go_sem, n1, n2, n3, n4] at z5
  all_goals
  obtain rfl := so_some h
  refine ⟨0, fun L hL => ?_⟩
  simp only [go_sem, ir29, E_9_l1, R_9_l1, ir29_b0, ir29_k0, ir29_o0, ir29_r0, z5]

theorem Fs_9 {s_ : L00Src} {y_ : (List Observer) × L00Src} (h : spec_l05Bent s_ = some y_) : c_9.F [.mem 3 [L00Src_av s_] 0] = ⟨true, .fresh 2 (List.map Observer_av y_.1), [.mem 3 [L00Src_av y_.2] 0]⟩ := by
 refine mkN_E ?_
 dsimp only [spec_l05Bent] at h
 obtain ⟨y_1, z1, h⟩ := bd_some h
 have fz1 := Fs_6 z1
 try simp only [go_sem] at fz1
 obtain ⟨y_2, z2, h⟩ := bd_some h
 have fz2 := Fs_5 z2
 try simp only [go_sem] at fz2
 rcases it_some h with ⟨z3, h⟩ | ⟨z3, h⟩
 ·try simp only [go_sem, n1, n2, n3, n4] at z3
  all_goals
  obtain ⟨y_4, z4, h⟩ := bd_some h
  have fz4 := Fs_3 z4
  try simp only [go_sem, z3] at fz4
  obtain ⟨y_9, z9, h⟩ := bd_some h
  obtain ⟨Lz9, ez9⟩ := spec_l05Bent_l1_ex z9
  rcases it_some h with ⟨z10, h⟩ | ⟨z10, h⟩
  ·try simp only [go_sem, n1, n2, n3, n4, z3] at z10
   all_goals
   obtain rfl := so_some h
   refine ⟨Lz9, fun L hL => ?_⟩
   have ez9 := ez9 L (by omega)
   try simp only [go_sem, E_9_l1, R_9_l1, ir29_k0, ir29_o0, ir29_r0, z3, z10] at ez9
   simp only [go_sem, ir29, E_9_l1, R_9_l1, ir29_k0, ir29_o0, ir29_r0, fz1, fz2, z3, fz4, z10, ez9]
  ·try simp only [go_sem, n1, n2, n3, n4, z3] at z10
   all_goals
   obtain ⟨y_11, z11, h⟩ := bd_some h
   have fz11 := Fs_3 z11
   try simp only [go_sem, z3, z10] at fz11
   obtain ⟨z12, h⟩ := ck_some h
   have lz12 := ix_lt z12
   have xz12 := getD_mapD Observer_av y_9 lz12
   try simp only [go_sem] at lz12
   try simp only [go_sem] at xz12
   try simp only [go_sem, n1, n2, n3, n4, z3, z10] at z12
   all_goals
   obtain ⟨y_13, z13, h⟩ := bd_some h
   have fz13 := Fs_3 z13
   try simp only [go_sem, z3, z10, z12] at fz13
   rcases it_some h with ⟨z14, h⟩ | ⟨z14, h⟩
   ·try simp only [go_sem, n1, n2, n3, n4, z3, z10, z12] at z14
    all_goals
    obtain ⟨y_15, z15, h⟩ := bd_some h
    have fz15 := Fs_7 z15
    try simp only [go_sem, z3, z10, z12, z14] at fz15
    obtain rfl := so_some h
    refine ⟨Lz9, fun L hL => ?_⟩
    have ez9 := ez9 L (by omega)
    try simp only [go_sem, E_9_l1, R_9_l1, ir29_k0, ir29_o0, ir29_r0, z3, z10, z12, z14] at ez9
    simp only [go_sem, ir29, E_9_l1, R_9_l1, ir29_k0, ir29_o0, ir29_r0, fz1, fz2, z3, fz4, z10, fz11, z12, lz12, xz12, fz13, z14, fz15, ez9]
   ·try simp only [go_sem, n1, n2, n3, n4, z3, z10, z12] at z14
    all_goals
    rcases it_some h with ⟨z16, h⟩ | ⟨z16, h⟩
    ·try simp only [go_sem, n1, n2, n3, n4, z3, z10, z12, z14] at z16
     all_goals
     obtain ⟨y_17, z17, h⟩ := bd_some h
     have fz17 := Fs_8 z17
     try simp only [go_sem, z3, z10, z12, z14, z16] at fz17
     obtain rfl := so_some h
     refine ⟨Lz9, fun L hL => ?_⟩
     have ez9 := ez9 L (by omega)
     try simp only [go_sem, E_9_l1, R_9_l1, ir29_k0, ir29_o0, ir29_r0, z3, z10, z12, z14, z16] at ez9
     simp only [go_sem, ir29, E_9_l1, R_9_l1, ir29_k0, ir29_o0, ir29_r0, fz1, fz2, z3, fz4, z10, fz11, z12, lz12, xz12, fz13, z14, z16, fz17, ez9]
    ·try simp only [go_sem, n1, n2, n3, n4, z3, z10, z12, z14] at z16
     all_goals
     obtain rfl := so_some h
     refine ⟨Lz9, fun L hL => ?_⟩
     have ez9 := ez9 L (by omega)
     try simp only [go_sem, E_9_l1, R_9_l1, ir29_k0, ir29_o0, ir29_r0, z3, z10, z12, z14, z16] at ez9
     simp only [go_sem, ir29, E_9_l1, R_9_l1, ir29_k0, ir29_o0, ir29_r0, fz1, fz2, z3, fz4, z10, fz11, z12, lz12, xz12, fz13, z14, z16, ez9]
 ·try simp only [go_sem, n1, n2, n3, n4] at z3
  all_goals
  rcases it_some h with ⟨z18, h⟩ | ⟨z18, h⟩
  ·try simp only [go_sem, n1, n2, n3, n4, z3] at z18
   all_goals
   obtain rfl := so_some h
   refine ⟨0, fun L hL => ?_⟩
   simp only [go_sem, ir29, E_9_l1, R_9_l1, ir29_k0, ir29_o0, ir29_r0, fz1, fz2, z3, z18]
  ·try simp only [go_sem, n1, n2, n3, n4, z3] at z18
   all_goals
   obtain ⟨y_19, z19, h⟩ := bd_some h
   have fz19 := Fs_3 z19
   try simp only [go_sem, z3, z18] at fz19
   obtain ⟨z20, h⟩ := ck_some h
   have lz20 := ix_lt z20
   have xz20 := getD_mapD Observer_av y_1.1 lz20
   try simp only [go_sem] at lz20
   try simp only [go_sem] at xz20
   try simp only [go_sem, n1, n2, n3, n4, z3, z18] at z20
   all_goals
   obtain ⟨y_21, z21, h⟩ := bd_some h
   have fz21 := Fs_3 z21
   try simp only [go_sem, z3, z18, z20] at fz21
   rcases it_some h with ⟨z22, h⟩ | ⟨z22, h⟩
   ·try simp only [go_sem, n1, n2, n3, n4, z3, z18, z20] at z22
    all_goals
    obtain ⟨y_23, z23, h⟩ := bd_some h
    have fz23 := Fs_7 z23
    try simp only [go_sem, z3, z18, z20, z22] at fz23
    obtain rfl := so_some h
    refine ⟨0, fun L hL => ?_⟩
    simp only [go_sem, ir29, E_9_l1, R_9_l1, ir29_k0, ir29_o0, ir29_r0, fz1, fz2, z3, z18, fz19, z20, lz20, xz20, fz21, z22, fz23]
   ·try simp only [go_sem, n1, n2, n3, n4, z3, z18, z20] at z22
    all_goals
    rcases it_some h with ⟨z24, h⟩ | ⟨z24, h⟩
    ·try simp only [go_sem, n1, n2, n3, n4, z3, z18, z20, z22] at z24
     all_goals
     obtain ⟨y_25, z25, h⟩ := bd_some h
     have fz25 := Fs_8 z25
     try simp only [go_sem, z3, z18, z20, z22, z24] at fz25
     obtain rfl := so_some h
     refine ⟨0, fun L hL => ?_⟩
     simp only [go_sem, ir29, E_9_l1, R_9_l1, ir29_k0, ir29_o0, ir29_r0, fz1, fz2, z3, z18, fz19, z20, lz20, xz20, fz21, z22, z24, fz25]
    ·try simp only [go_sem, n1, n2, n3, n4, z3, z18, z20, z22] at z24
     all_goals
     obtain rfl := so_some h
     refine ⟨0, fun L hL => ?_⟩
     simp only [go_sem, ir29, E_9_l1, R_9_l1, ir29_k0, ir29_o0, ir29_r0, fz1, fz2, z3, z18, fz19, z20, lz20, xz20, fz21, z22, z24]


def ir30_v : List Nat := [0, 2]
def ir30 : AFn := ⟨1, 2, .seq (.region false [ VO 1 2 (.mov (.c (.str [])))]) (.seq (.region false [ PM 3 0, PO 4 (.mkSl 1 (.str []) 7 [(0, (.c (.str [97, 98]))), (1, (.c (.str [99, 100, 45, 49]))), (2, (.c (.str [101, 118, 101]))), (3, (.c (.str [107, 105, 109]))), (4, (.c (.str [110, 101, 119]))), (5, (.c (.str []))), (6, (.c (.str [78, 101, 119])))]), PO 5 (.call 60 [(.s 1), (.s 0)]), VS 1 2 0]) (.ret)), [.t 1]⟩
noncomputable def t_10 : List (Nat × Ctr) := [(60, c_7)]
theorem lk_10_60 : look t_10 60 = some c_7 := rfl
noncomputable def c_10 : Ctr := mkN t_10 ir30 [.io]
theorem s_10 : Sound Tryz.prog 30 c_10 := mkN_sound _ (snd_cons s_7 snd_nil) (by kernel_rfl : chkFn Tryz.prog 30 ir30 ir30_v = true)
theorem M_10 : c_10.modes = [.io] := rfl
theorem Fl_10 : c_10.flat = false := rfl
attribute [go_sem] M_10 Fl_10
attribute [go_sem] lk_10_60
theorem Fs_10 {s_ : L00Src} {y_ : (List UInt8) × L00Src} (h : spec_l05Name s_ = some y_) : c_10.F [.mem 3 [L00Src_av s_] 0] = ⟨true, .str y_.1, [.mem 3 [L00Src_av y_.2] 0]⟩ := by
 refine mkN_E ?_
 dsimp only [spec_l05Name] at h
 obtain ⟨y_1, z1, h⟩ := bd_some h
 have fz1 := Fs_7 z1
 try simp only [go_sem] at fz1
 obtain rfl := so_some h
 refine ⟨0, fun L hL => ?_⟩
 simp only [go_sem, ir30, fz1]


def ir5_v : List Nat := [0, 2, 3, 4, 5, 6]
def ir5 : AFn := ⟨1, 6, .seq (.region false [ VO 1 2 (.newnil 2), VO 2 3 (.alloc (.agg [.str [], .int .i64 (0)]))]) (.seq (.region false [ PM 7 0, PO 8 (.call 28 [(.s 0)]), VS 3 4 0]) (.seq (.region false [ PM 9 3, PO 10 (.call 29 [(.s 0)]), VS 4 5 0]) (.seq (.region false [ PM 11 3, PO 12 (.call 30 [(.s 0)]), PO 13 (.build [.str [], .int .i64 (0)] [(0, 1, (.s 0))]), VO 5 6 (.alloc (.agg [.str [], .int .i64 (0)])), ⟨.no, 0, none, .store 2 (.v 5) (.s 0)⟩]) (.seq (.region false [ PM 14 3, PO 15 (.call 31 [(.s 0), (I6 100)]), PO 16 (.bin false .sub (.s 0) (I6 50)), PO 17 (.fldAddr 1 (.v 5)), ⟨.no,
 0, none, .store 1 (.s 0) (.s 1)⟩]) (.seq (.test false [ PM 18 3, PO 19 (.call 32 [(.s 0), (I6 12)])] (.s 0) (.region false [ PM 20 3, PO 21 (.mkSl 1 (.int .i64 (0)) 3 [(0, (.c (.int .i64 (-2001)))), (1, (I6 2000)), (2, (I6 2001))]), PO 22 (.call 33 [(.s 1), (.s 0)]), PO 23 (.fldAddr 1 (.v 5)), ⟨.no, 0, none, .store 1 (.s 0) (.s 1)⟩]) (.skip)) (.seq (.anyo 2 [ SO 0 24 (.mov (.v 4)), SO 1 25 (.load true 2 (.v 5)), VS 1 2 0, ⟨.no, 0, none, .store 2 (.v 2) (.s 1)⟩] [] .skip) (.ret))))))), [.t 1, .cell true 2 2]⟩
noncomputable def t_11 : List (Nat × Ctr) := [(28, c_1), (29, c_9), (30, c_10), (31, c_3), (32, c_5), (33, c_8)]
theorem lk_11_28 : look t_11 28 = some c_1 := rfl
theorem lk_11_29 : look t_11 29 = some c_9 := rfl
theorem lk_11_30 : look t_11 30 = some c_10 := rfl
theorem lk_11_31 : look t_11 31 = some c_3 := rfl
theorem lk_11_32 : look t_11 32 = some c_5 := rfl
theorem lk_11_33 : look t_11 33 = some c_8 := rfl
noncomputable def c_11 : Ctr := mkN t_11 ir5 [.bor]
theorem s_11 : Sound Tryz.prog 5 c_11 := mkN_sound _ (snd_cons s_1 (snd_cons s_9 (snd_cons s_10 (snd_cons s_3 (snd_cons s_5 (snd_cons s_8 snd_nil)))))) (by kernel_rfl : chkFn Tryz.prog 5 ir5 ir5_v = true)
theorem M_11 : c_11.modes = [.bor] := rfl
theorem Fl_11 : c_11.flat = false := rfl
attribute [go_sem] M_11 Fl_11
attribute [go_sem] lk_11_28 lk_11_29 lk_11_30 lk_11_31 lk_11_32 lk_11_33
theorem Fs_11 {code : List UInt8} {y_ : (List Observer) × Observer} (h : spec_DrawAddObserver code = some y_) : c_11.F [.sl 1 (List.map byteAV code)] = ⟨true, .tup [.fresh 2 (List.map Observer_av y_.1), Observer_av y_.2], [.any]⟩ := by
 refine mkN_E ?_
 dsimp only [spec_DrawAddObserver] at h
 obtain ⟨y_1, z1, h⟩ := bd_some h
 have fz1 := Fs_1 z1
 try simp only [go_sem] at fz1
 obtain ⟨y_2, z2, h⟩ := bd_some h
 have fz2 := Fs_9 z2
 try simp only [go_sem] at fz2
 obtain ⟨y_3, z3, h⟩ := bd_some h
 have fz3 := Fs_10 z3
 try simp only [go_sem] at fz3
 obtain ⟨y_4, z4, h⟩ := bd_some h
 have fz4 := Fs_3 z4
 try simp only [go_sem] at fz4
 obtain ⟨y_5, z5, h⟩ := bd_some h
 have fz5 := Fs_5 z5
 try simp only [go_sem] at fz5
 rcases it_some h with ⟨z6, h⟩ | ⟨z6, h⟩
 ·try simp only [go_sem, n1, n2, n3, n4] at z6
  all_goals
  obtain ⟨y_7, z7, h⟩ := bd_some h
  have fz7 := Fs_8 z7
  try simp only [go_sem, z6] at fz7
  obtain rfl := so_some h
  refine ⟨0, fun L hL => ?_⟩
  simp only [go_sem, ir5, fz1, fz2, fz3, fz4, fz5, z6, fz7]
 ·try simp only [go_sem, n1, n2, n3, n4] at z6
  all_goals
  obtain rfl := so_some h
  refine ⟨0, fun L hL => ?_⟩
  simp only [go_sem, ir5, fz1, fz2, fz3, fz4, fz5, z6]


def ir62_b0 : IR := .seq (.region false [ VO 7 17 (.bin false .lss (.v 6) (.v 5))]) (.seq (.cond (.v 7) (.skip) (.exit 0)) (.seq (.block 1 (.seq (.region false [ PM 18 6, VS 2 3 0]) (.seq (.region false [ PM 19 0, PM 20 2, PO 21 (.ixStr (.s 1) (.s 0)), PO 22 (.bin false .geq (.s 0) (.c (.int .u8 (97)))), PO 23 (.mov (.s 0)), ⟨.push, 24, (some ((.s 0), true)), .mov (.v 0)⟩, ⟨.push, 25, (some ((.s 1), true)), .mov (.v 2)⟩, ⟨.push, 26, (some ((.s 2), true)), .ixStr (.s 1) (.s 0)⟩, ⟨.push, 27, (some ((.s 3), true)), .bin false .leq (.s 0) (.c (.int .u8 (122)))⟩, PO 28 (.pick (.s 4) (.s 0) (.c
 (.bool false))), VS 3 4 0]) (.seq (.region false [ PM 29 0, PM 30 2, PO 31 (.ixStr (.s 1) (.s 0)), PO 32 (.bin false .geq (.s 0) (.c (.int .u8 (48)))), PO 33 (.mov (.s 0)), ⟨.push, 34, (some ((.s 0), true)), .mov (.v 0)⟩, ⟨.push, 35, (some ((.s 1), true)), .mov (.v 2)⟩, ⟨.push, 36, (some ((.s 2), true)), .ixStr (.s 1) (.s 0)⟩, ⟨.push, 37, (some ((.s 3), true)), .bin false .leq (.s 0) (.c (.int .u8 (57)))⟩, PO 38 (.pick (.s 4) (.s 0) (.c (.bool false))), PO 39 (.mov (.s 0)), ⟨.push, 40, (some ((.s 0), false)), .mov (.v 0)⟩, ⟨.push, 41, (some ((.s 1), false)), .mov (.v 2)⟩, ⟨.push, 42, (some
 ((.s 2), false)), .ixStr (.s 1) (.s 0)⟩, ⟨.push, 43, (some ((.s 3), false)), .bin false .eql (.s 0) (.c (.int .u8 (45)))⟩, PO 44 (.pick (.s 4) (.c (.bool true)) (.s 0)), VS 4 5 0]) (.test false [ PM 45 3, PO 46 (.un .not (.s 0)), PO 47 (.mov (.s 0)), ⟨.push, 48, (some ((.s 0), true)), .mov (.v 2)⟩, ⟨.push, 49, (some ((.s 1), true)), .bin false .eql (.s 0) (I6 0)⟩, ⟨.push, 50, (some ((.s 2), true)), .mov (.s 0)⟩, ⟨.push, 51, (some ((.s 0), false)), .mov (.v 4)⟩, ⟨.push, 52, (some ((.s 1), false)), .un .not (.s 0)⟩, ⟨.push, 53, (some ((.s 5), true)), .pick (.s 2) (.c (.bool true)) (.s 0)⟩, PO 54
 (.pick (.s 6) (.s 0) (.c (.bool false)))] (.s 0) (.seq (.region false [ VO 1 2 (.mov (.c (.bool false)))]) (.ret)) (.skip)))))) (.region false [ PO 55 (.bin false .add (.v 6) (I6 1)), VS 6 16 0])))
def ir62_k0 : List Bool := [true, false, false, false, false, true, true, false]
def ir62_o0 : List Bool := [false, false, false, false, false, false, false, false]
def ir62_r0 : List Bool := [false, true, false, false, false, false, false, false]
def ir62_v : List Nat := [0, 2, 3, 4, 5, 15, 16, 17]
def ir62 : AFn := ⟨1, 8, .seq (.region false [ VO 1 2 (.mov (.c (.bool false)))]) (.seq (.test false [ PM 6 0, PO 7 (.len true (.s 0)), PO 8 (.bin false .lss (.s 0) (I6 1)), PO 9 (.mov (.s 0)), ⟨.push, 10, (some ((.s 0), false)), .mov (.v 0)⟩, ⟨.push, 11, (some ((.s 1), false)), .len true (.s 0)⟩, ⟨.push, 12, (some ((.s 2), false)), .bin false .gtr (.s 0) (I6 12)⟩, PO 13 (.pick (.s 3) (.c (.bool true)) (.s 0))] (.s 0) (.seq (.region false [ VO 1 2 (.mov (.c (.bool false)))]) (.ret)) (.skip)) (.seq (.seq (.region false [ PM 14 0, VO 5 15 (.len true (.s 0)), VO 6 16 (.mov (I6 0))]) (.block 0
 (.loop ir62_k0 ir62_o0 ir62_r0 ir62_b0))) (.seq (.region false [ VO 1 2 (.mov (.c (.bool true)))]) (.ret)))), [.t 1]⟩
noncomputable def t_12 : List (Nat × Ctr) := []
noncomputable def c_12 : Ctr := mkF t_12 ir62 [.bor]
theorem s_12 : Sound Tryz.prog 62 c_12 := mkF_sound _ rfl snd_nil (by kernel_rfl : chkFn Tryz.prog 62 ir62 ir62_v = true)
theorem M_12 : c_12.modes = [.bor] := rfl
theorem Fl_12 : c_12.flat = true := rfl
attribute [go_sem] M_12 Fl_12
def E_12_l1 (s_ : List UInt8) (t15 : Int) : Int → St
 | t16 => ⟨[.str s_, .any, .any, .any, .any, .int .i64 t15, .int .i64 t16, .any], [], [], true⟩
def R_12_l1 (s_ : List UInt8) (t15 : Int) : (Unit ⊕ Bool) → Res
 | .inl y => (.exit 0, ⟨[.any, .any, .any, .any, .any, .any, .any, .any], [], [], true⟩)
 | .inr y => (.ret, ⟨[.any, .bool y, .any, .any, .any, .any, .any, .any], [], [], true⟩)
theorem impl_IsName_l1_ex {s_ : List UInt8} {t15 : Int} {sgm_ : Int} {rho_ : Unit ⊕ Bool} (h : whileE (impl_IsName_l1 s_ t15) sgm_ = some rho_) : ∃ L0, ∀ L, L0 ≤ L → iter (exec (look t_12) L ir62_b0) ir62_k0 ir62_o0 ir62_r0 L (E_12_l1 s_ t15 sgm_) = R_12_l1 s_ t15 rho_ := by
 refine loop_ex (E := E_12_l1 s_ t15) (R := R_12_l1 s_ t15) (fun y => by first | (intro c; cases c) | (rcases y with y | y <;> (intro c; cases c)) | (rcases y with y | y | y <;> (intro c; cases c))) ?_ h
 clear h
 intro t16 o_ h
 dsimp only [impl_IsName_l1] at h
 rcases it_some h with ⟨z2, h⟩ | ⟨z2, h⟩
 ·try simp only [go_sem, n1, n2, n3, n4] at z2
  all_goals
  obtain ⟨z3, h⟩ := ck_some h
  try simp only [go_sem, n1, n2, n3, n4, z2] at z3
  all_goals
  rcases it_some h with ⟨z4, h⟩ | ⟨z4, h⟩
  ·try simp only [go_sem, n1, n2, n3, n4, z2, z3] at z4
   all_goals
   obtain rfl := so_some h
   refine ⟨0, fun L hL => ?_⟩
   simp only [go_sem, ir62, E_12_l1, R_12_l1, ir62_b0, ir62_k0, ir62_o0, ir62_r0, z2, z3, z4]
  ·try simp only [go_sem, n1, n2, n3, n4, z2, z3] at z4
   all_goals
   obtain rfl := so_some h
   refine ⟨0, fun L hL => ?_⟩
   simp only [go_sem, ir62, E_12_l1, R_12_l1, ir62_b0, ir62_k0, ir62_o0, ir62_r0, z2, z3, z4]
 ·try simp only [go_sem, n1, n2, n3, n4] at z2
  all_goals
  obtain rfl := so_some h
  refine ⟨0, fun L hL => ?_⟩
  simp only [go_sem, ir62, E_12_l1, R_12_l1, ir62_b0, ir62_k0, ir62_o0, ir62_r0, z2]

theorem Fs_12 {s_ : List UInt8} {y_ : Bool} (h : impl_IsName s_ = some y_) : c_12.F [.str s_] = ⟨true, .bool y_, [.any]⟩ := by
 refine mkF_E rfl ?_
 dsimp only [impl_IsName] at h
 rcases it_some h with ⟨z1, h⟩ | ⟨z1, h⟩
 ·try simp only [go_sem, n1, n2, n3, n4] at z1
  all_goals
  obtain rfl := so_some h
  refine ⟨0, fun L hL => ?_⟩
  simp only [go_sem, ir62, E_12_l1, R_12_l1, ir62_k0, ir62_o0, ir62_r0, z1]
 ·try simp only [go_sem, n1, n2, n3, n4] at z1
  all_goals
  obtain ⟨y_5, z5, h⟩ := bd_some h
  obtain ⟨Lz5, ez5⟩ := impl_IsName_l1_ex z5
  rcases y_5 with y_5a | y_5b
  ·dsimp only at h
   obtain rfl := so_some h
   refine ⟨Lz5, fun L hL => ?_⟩
   have ez5 := ez5 L (by omega)
   try simp only [go_sem, E_12_l1, R_12_l1, ir62_k0, ir62_o0, ir62_r0, z1] at ez5
   simp only [go_sem, ir62, E_12_l1, R_12_l1, ir62_k0, ir62_o0, ir62_r0, z1, ez5]
  ·dsimp only at h
   obtain rfl := so_some h
   refine ⟨Lz5, fun L hL => ?_⟩
   have ez5 := ez5 L (by omega)
   try simp only [go_sem, E_12_l1, R_12_l1, ir62_k0, ir62_o0, ir62_r0, z1] at ez5
   simp only [go_sem, ir62, E_12_l1, R_12_l1, ir62_k0, ir62_o0, ir62_r0, z1, ez5]


def ir63_v : List Nat := [0, 1, 2, 6]
def ir63 : AFn := ⟨3, 4, .seq (.region false [ VO 3 6 (.mov (.c (.bool false)))]) (.seq (.region false [ PM 7 0, PM 8 1, PO 9 (.bin false .geq (.s 1) (.s 0)), PO 10 (.mov (.s 0)), ⟨.push, 11, (some ((.s 0), true)), .mov (.v 0)⟩, ⟨.push, 12, (some ((.s 1), true)), .mov (.v 2)⟩, ⟨.push, 13, (some ((.s 2), true)), .bin false .leq (.s 1) (.s 0)⟩, PO 14 (.pick (.s 3) (.s 0) (.c (.bool false))), VS 3 6 0]) (.ret)), [.t 3]⟩
noncomputable def t_13 : List (Nat × Ctr) := []
noncomputable def c_13 : Ctr := mkF t_13 ir63 [.bor, .bor, .bor]
theorem s_13 : Sound Tryz.prog 63 c_13 := mkF_sound _ rfl snd_nil (by kernel_rfl : chkFn Tryz.prog 63 ir63 ir63_v = true)
theorem M_13 : c_13.modes = [.bor, .bor, .bor] := rfl
theorem Fl_13 : c_13.flat = true := rfl
attribute [go_sem] M_13 Fl_13
theorem Fs_13 {n : Int} {low : Int} {high : Int} {y_ : Bool} (h : impl_in n low high = some y_) : c_13.F [.int .i64 n, .int .i64 low, .int .i64 high] = ⟨true, .bool y_, [.any, .any, .any]⟩ := by
 refine mkF_E rfl ?_
 dsimp only [impl_in] at h
 obtain rfl := so_some h
 refine ⟨0, fun L hL => ?_⟩
 simp only [go_sem, ir63]


def ir34_v : List Nat := [0, 1, 2]
def ir34 : AFn := ⟨1, 3, .seq (.region false [ VO 1 1 (.box (.v 0)), VO 2 2 (.mov (.c (.bool false)))]) (.seq (.region false [ PO 3 (.fldAddr 0 (.v 1)), PO 4 (.load false 1 (.s 0)), PO 5 (.call 62 [(.s 0)]), PO 6 (.mov (.s 0)), ⟨.push, 7, (some ((.s 0), true)), .fldAddr 1 (.v 1)⟩, ⟨.push, 8, (some ((.s 1), true)), .load false 1 (.s 0)⟩, ⟨.push, 9, (some ((.s 2), true)), .call 63 [(.s 0), (.c (.int .i64 (-2000))), (I6 2000)]⟩, PO 10 (.pick (.s 3) (.s 0) (.c (.bool false))), VS 2 2 0]) (.ret)), [.t 2]⟩
noncomputable def t_14 : List (Nat × Ctr) := [(62, c_12), (63, c_13)]
theorem lk_14_62 : look t_14 62 = some c_12 := rfl
theorem lk_14_63 : look t_14 63 = some c_13 := rfl
noncomputable def c_14 : Ctr := mkF t_14 ir34 [.bor]
theorem s_14 : Sound Tryz.prog 34 c_14 := mkF_sound _ rfl (snd_cons s_12 (snd_cons s_13 snd_nil)) (by kernel_rfl : chkFn Tryz.prog 34 ir34 ir34_v = true)
theorem M_14 : c_14.modes = [.bor] := rfl
theorem Fl_14 : c_14.flat = true := rfl
attribute [go_sem] M_14 Fl_14
attribute [go_sem] lk_14_62 lk_14_63
theorem Fs_14 {x : Observer} {y_ : Bool} (h : impl_isObserver x = some y_) : c_14.F [Observer_av x] = ⟨true, .bool y_, [.any]⟩ := by
 refine mkF_E rfl ?_
 dsimp only [impl_isObserver] at h
 obtain ⟨y_1, z1, h⟩ := bd_some h
 have fz1 := Fs_12 z1
 try simp only [go_sem] at fz1
 obtain ⟨z2, h⟩ := ck_some h
 rcases or_split z2 with ⟨gz2, z2⟩ | gz2
 ·try simp only [go_sem, n1, n2, n3, n4] at gz2
  all_goals
  obtain ⟨y_2, hz2⟩ := Option.isSome_iff_exists.1 z2
  have fz2 := Fs_13 hz2
  try simp only [go_sem, n1, n2, n3, n4, gz2] at hz2
  all_goals
  try simp only [go_sem, gz2] at fz2
  obtain rfl := so_some h
  refine ⟨0, fun L hL => ?_⟩
  simp only [go_sem, ir34, fz1, gz2, hz2, fz2]
 ·try simp only [go_sem, n1, n2, n3, n4] at gz2
  all_goals
  obtain rfl := so_some h
  refine ⟨0, fun L hL => ?_⟩
  simp only [go_sem, ir34, fz1, gz2]


def ir37_v : List Nat := [0, 1, 2]
def ir37 : AFn := ⟨1, 3, .seq (.region false [ VO 1 1 (.box (.v 0)), VO 2 2 (.mov (.c (.str [])))]) (.seq (.region false [ PO 3 (.fldAddr 0 (.v 1)), PO 4 (.load false 1 (.s 0)), VS 2 2 0]) (.ret)), [.t 2]⟩
noncomputable def t_15 : List (Nat × Ctr) := []
noncomputable def c_15 : Ctr := mkF t_15 ir37 [.bor]
theorem s_15 : Sound Tryz.prog 37 c_15 := mkF_sound _ rfl snd_nil (by kernel_rfl : chkFn Tryz.prog 37 ir37 ir37_v = true)
theorem M_15 : c_15.modes = [.bor] := rfl
theorem Fl_15 : c_15.flat = true := rfl
attribute [go_sem] M_15 Fl_15
theorem Fs_15 {x : Observer} {y_ : (List UInt8)} (h : impl_observerName x = some y_) : c_15.F [Observer_av x] = ⟨true, .str y_, [.any]⟩ := by
 refine mkF_E rfl ?_
 dsimp only [impl_observerName] at h
 obtain rfl := so_some h
 refine ⟨0, fun L hL => ?_⟩
 simp only [go_sem, ir37]


def ir59_b0 : IR := .seq (.region false [ VO 10 18 (.bin false .lss (.v 9) (.v 8))]) (.seq (.cond (.v 10) (.skip) (.exit 0)) (.seq (.block 1 (.seq (.region false [ PM 19 9, PO 20 (.ixAddr 2 (.v 7) (.v 9)), PO 21 (.load true 2 (.s 0)), VO 6 10 (.alloc (.agg [.str [], .int .i64 (0)])), VS 5 9 2, ⟨.no, 0, none, .store 2 (.v 6) (.s 0)⟩]) (.anyo 21 [ SO 0 22 (.mov (.v 2)), SO 1 23 (.load true 2 (.v 6)), SO 2 24 (.pur (.callv (.s 0) [(.s 1)])), SO 3 25 (.un .not (.s 2)), SO 4 26 (.mov (.s 3)), ⟨.slot 5, 27, (some ((.s 4), false)), .mov (.v 5)⟩, ⟨.slot 6, 28, (some ((.s 4), false)), .bin false .gtr
 (.s 5) (I6 0)⟩, ⟨.slot 7, 29, (some ((.s 4), false)), .mov (.s 6)⟩, ⟨.slot 8, 30, (some ((.s 7), true)), .mov (.v 3)⟩, ⟨.slot 9, 31, (some ((.s 7), true)), .mov (.v 0)⟩, ⟨.slot 10, 32, (some ((.s 7), true)), .mov (.v 5)⟩, ⟨.slot 11, 33, (some ((.s 7), true)), .bin false .sub (.s 10) (I6 1)⟩, ⟨.slot 12, 34, (some ((.s 7), true)), .ixAddr 2 (.s 9) (.s 11)⟩, ⟨.slot 13, 35, (some ((.s 7), true)), .load true 2 (.s 12)⟩, ⟨.slot 14, 36, (some ((.s 7), true)), .callv (.s 8) [(.s 13)]⟩, ⟨.slot 15, 37, (some ((.s 7), true)), .mov (.v 3)⟩, ⟨.slot 16, 38, (some ((.s 7), true)), .load true 2 (.v 6)⟩,
 ⟨.slot 17, 39, (some ((.s 7), true)), .callv (.s 15) [(.s 16)]⟩, ⟨.slot 18, 40, (some ((.s 7), true)), .bin false .geq (.s 14) (.s 17)⟩, ⟨.slot 19, 41, (some ((.s 4), false)), .pick (.s 7) (.s 18) (.c (.bool false))⟩, SO 20 42 (.pick (.s 4) (.c (.bool true)) (.s 19))] [] (.cond (.s 20) (.seq (.region false [ VO 4 8 (.mov (.c (.bool false)))]) (.ret)) (.skip))))) (.region false [ PO 43 (.bin false .add (.v 9) (I6 1)), VS 9 17 0])))
def ir59_k0 : List Bool := [true, false, true, true, false, false, false, true, true, true, false]
def ir59_o0 : List Bool := [false, false, false, false, false, false, false, false, false, false, false]
def ir59_r0 : List Bool := [false, false, false, false, true, false, false, false, false, false, false]
def ir59_v : List Nat := [0, 1, 2, 3, 8, 9, 10, 15, 16, 17, 18]
def ir59 : AFn := ⟨4, 11, .seq (.region false [ VO 4 8 (.mov (.c (.bool false)))]) (.seq (.test false [ PM 11 0, PO 12 (.len false (.s 0)), PM 13 1, PO 14 (.bin false .gtr (.s 1) (.s 0))] (.s 0) (.seq (.region false [ VO 4 8 (.mov (.c (.bool false)))]) (.ret)) (.skip)) (.seq (.seq (.region false [ VO 7 15 (.mov (.v 0)), VO 8 16 (.len false (.v 7)), VO 9 17 (.mov (I6 0))]) (.block 0 (.loop ir59_k0 ir59_o0 ir59_r0 ir59_b0))) (.seq (.region false [ VO 4 8 (.mov (.c (.bool true)))]) (.ret)))), [.t 4]⟩
noncomputable def t_16 : List (Nat × Ctr) := [(34, c_14), (37, c_15)]
theorem lk_16_34 : look t_16 34 = some c_14 := rfl
theorem lk_16_37 : look t_16 37 = some c_15 := rfl
noncomputable def c_16 : Ctr := mkF t_16 ir59 [.bor, .bor, .bor, .bor]
theorem s_16 : Sound Tryz.prog 59 c_16 := mkF_sound _ rfl (snd_cons s_14 (snd_cons s_15 snd_nil)) (by kernel_rfl : chkFn Tryz.prog 59 ir59 ir59_v = true)
theorem M_16 : c_16.modes = [.bor, .bor, .bor, .bor] := rfl
theorem Fl_16 : c_16.flat = true := rfl
attribute [go_sem] M_16 Fl_16
attribute [go_sem] lk_16_34 lk_16_37
def E_16_l1 (list : List Observer) (t15 : List Observer) (t16 : Int) : Int → St
 | t17 => ⟨[.sl 2 (List.map Observer_av list), .any, .fn (.func 34) [] [], .fn (.func 37) [] [], .any, .any, .any, .sl 2 (List.map Observer_av t15), .int .i64 t16, .int .i64 t17, .any], [], [], true⟩
def R_16_l1 (list : List Observer) (t15 : List Observer) (t16 : Int) : (Unit ⊕ Bool) → Res
 | .inl y => (.exit 0, ⟨[.any, .any, .any, .any, .any, .any, .any, .any, .any, .any, .any], [], [], true⟩)
 | .inr y => (.ret, ⟨[.any, .any, .any, .any, .bool y, .any, .any, .any, .any, .any, .any], [], [], true⟩)
theorem impl_rising_impl_Observer__impl_isObserver__impl_observerName_l1_ex {list : List Observer} {t15 : List Observer} {t16 : Int} {sgm_ : Int} {rho_ : Unit ⊕ Bool} (h : whileE (impl_rising_impl_Observer__impl_isObserver__impl_observerName_l1 list t15 t16) sgm_ = some rho_) : ∃ L0, ∀ L, L0 ≤ L → iter (exec (look t_16) L ir59_b0) ir59_k0 ir59_o0 ir59_r0 L (E_16_l1 list t15 t16 sgm_) = R_16_l1 list t15 t16 rho_ := by
 refine loop_ex (E := E_16_l1 list t15 t16) (R := R_16_l1 list t15 t16) (fun y => by first | (intro c; cases c) | (rcases y with y | y <;> (intro c; cases c)) | (rcases y with y | y | y <;> (intro c; cases c))) ?_ h
 clear h
 intro t17 o_ h
 dsimp only [impl_rising_impl_Observer__impl_isObserver__impl_observerName_l1] at h
 rcases it_some h with ⟨z2, h⟩ | ⟨z2, h⟩
 ·try simp only [go_sem, n1, n2, n3, n4] at z2
  all_goals
  obtain ⟨z3, h⟩ := ck_some h
  have lz3 := ix_lt z3
  have xz3 := getD_mapD Observer_av t15 lz3
  try simp only [go_sem] at lz3
  try simp only [go_sem] at xz3
  try simp only [go_sem, n1, n2, n3, n4, z2] at z3
  all_goals
  obtain ⟨y_4, z4, h⟩ := bd_some h
  have fz4 := Fs_14 z4
  try simp only [go_sem, z2, z3] at fz4
  obtain ⟨z5, h⟩ := ck_some h
  rcases or_split z5 with ⟨gz5, z5⟩ | gz5
  ·try simp only [go_sem, n1, n2, n3, n4, z2, z3] at gz5
   all_goals
   have lz5 := ix_lt z5
   have xz5 := getD_mapD Observer_av list lz5
   try simp only [go_sem] at lz5
   try simp only [go_sem] at xz5
   try simp only [go_sem, n1, n2, n3, n4, z2, z3, gz5] at z5
   all_goals
   obtain ⟨z6, h⟩ := ck_some h
   rcases or_split z6 with ⟨gz6, z6⟩ | gz6
   ·try simp only [go_sem, n1, n2, n3, n4, z2, z3, gz5, z5] at gz6
    all_goals
    obtain ⟨y_6, hz6⟩ := Option.isSome_iff_exists.1 z6
    have fz6 := Fs_15 hz6
    try simp only [go_sem, n1, n2, n3, n4, z2, z3, gz5, z5, gz6] at hz6
    all_goals
    try simp only [go_sem, z2, z3, gz5, z5, gz6] at fz6
    obtain ⟨z7, h⟩ := ck_some h
    rcases or_split z7 with ⟨gz7, z7⟩ | gz7
    ·try simp only [go_sem, n1, n2, n3, n4, z2, z3, gz5, z5, gz6, hz6] at gz7
     all_goals
     obtain ⟨y_7, hz7⟩ := Option.isSome_iff_exists.1 z7
     have fz7 := Fs_15 hz7
     try simp only [go_sem, n1, n2, n3, n4, z2, z3, gz5, z5, gz6, hz6, gz7] at hz7
     all_goals
     try simp only [go_sem, z2, z3, gz5, z5, gz6, hz6, gz7] at fz7
     rcases it_some h with ⟨z8, h⟩ | ⟨z8, h⟩
     ·try simp only [go_sem, n1, n2, n3, n4, z2, z3, gz5, z5, gz6, hz6, gz7, hz7] at z8
      all_goals
      obtain rfl := so_some h
      refine ⟨0, fun L hL => ?_⟩
      simp only [go_sem, ir59, E_16_l1, R_16_l1, ir59_b0, ir59_k0, ir59_o0, ir59_r0, z2, z3, lz3, xz3, fz4, gz5, z5, lz5, xz5, gz6, hz6, fz6, gz7, hz7, fz7, z8]
     ·try simp only [go_sem, n1, n2, n3, n4, z2, z3, gz5, z5, gz6, hz6, gz7, hz7] at z8
      all_goals
      obtain rfl := so_some h
      refine ⟨0, fun L hL => ?_⟩
      simp only [go_sem, ir59, E_16_l1, R_16_l1, ir59_b0, ir59_k0, ir59_o0, ir59_r0, z2, z3, lz3, xz3, fz4, gz5, z5, lz5, xz5, gz6, hz6, fz6, gz7, hz7, fz7, z8]
    ·rcases and_f gz7 with gz7a | ⟨gz7a, gz7b⟩
     ·try simp only [go_sem, n1, n2, n3, n4, z2, z3, gz5, z5, gz6, hz6] at gz7a
      all_goals
      (simp_all)
     ·have gz7an := no_t gz7a
      have gz7ann := no_f gz7an
      try simp only [go_sem, n1, n2, n3, n4, z2, z3, gz5, z5, gz6, hz6] at gz7ann
      all_goals
      try simp only [go_sem, n1, n2, n3, n4, z2, z3, gz5, z5, gz6, hz6, gz7ann] at gz7b
      all_goals
      rcases it_some h with ⟨z8, h⟩ | ⟨z8, h⟩
      ·try simp only [go_sem, n1, n2, n3, n4, z2, z3, gz5, z5, gz6, hz6, gz7ann, gz7b] at z8
       all_goals
       (simp_all)
      ·try simp only [go_sem, n1, n2, n3, n4, z2, z3, gz5, z5, gz6, hz6, gz7ann, gz7b] at z8
       all_goals
       obtain rfl := so_some h
       refine ⟨0, fun L hL => ?_⟩
       simp only [go_sem, ir59, E_16_l1, R_16_l1, ir59_b0, ir59_k0, ir59_o0, ir59_r0, z2, z3, lz3, xz3, fz4, gz5, z5, lz5, xz5, gz6, hz6, fz6, gz7ann, gz7b, z8]
   ·rcases and_f gz6 with gz6a | ⟨gz6a, gz6b⟩
    ·try simp only [go_sem, n1, n2, n3, n4, z2, z3, gz5, z5] at gz6a
     all_goals
     (simp_all)
    ·have gz6an := no_t gz6a
     have gz6ann := no_f gz6an
     try simp only [go_sem, n1, n2, n3, n4, z2, z3, gz5, z5] at gz6ann
     all_goals
     try simp only [go_sem, n1, n2, n3, n4, z2, z3, gz5, z5, gz6ann] at gz6b
     all_goals
     obtain ⟨z7, h⟩ := ck_some h
     rcases or_split z7 with ⟨gz7, z7⟩ | gz7
     ·try simp only [go_sem, n1, n2, n3, n4, z2, z3, gz5, z5, gz6ann, gz6b] at gz7
      all_goals
      obtain ⟨y_7, hz7⟩ := Option.isSome_iff_exists.1 z7
      have fz7 := Fs_15 hz7
      try simp only [go_sem, n1, n2, n3, n4, z2, z3, gz5, z5, gz6ann, gz6b, gz7] at hz7
      all_goals
      try simp only [go_sem, z2, z3, gz5, z5, gz6ann, gz6b, gz7] at fz7
      rcases it_some h with ⟨z8, h⟩ | ⟨z8, h⟩
      ·try simp only [go_sem, n1, n2, n3, n4, z2, z3, gz5, z5, gz6ann, gz6b, gz7, hz7] at z8
       all_goals
       obtain rfl := so_some h
       refine ⟨0, fun L hL => ?_⟩
       simp only [go_sem, ir59, E_16_l1, R_16_l1, ir59_b0, ir59_k0, ir59_o0, ir59_r0, z2, z3, lz3, xz3, fz4, gz5, z5, lz5, xz5, gz6ann, gz6b, gz7, hz7, fz7, z8]
      ·try simp only [go_sem, n1, n2, n3, n4, z2, z3, gz5, z5, gz6ann, gz6b, gz7, hz7] at z8
       all_goals
       obtain rfl := so_some h
       refine ⟨0, fun L hL => ?_⟩
       simp only [go_sem, ir59, E_16_l1, R_16_l1, ir59_b0, ir59_k0, ir59_o0, ir59_r0, z2, z3, lz3, xz3, fz4, gz5, z5, lz5, xz5, gz6ann, gz6b, gz7, hz7, fz7, z8]
     ·rcases and_f gz7 with gz7a | ⟨gz7a, gz7b⟩
      ·try simp only [go_sem, n1, n2, n3, n4, z2, z3, gz5, z5, gz6ann, gz6b] at gz7a
       all_goals
       (simp_all)
      ·have gz7an := no_t gz7a
       have gz7ann := no_f gz7an
       try simp only [go_sem, n1, n2, n3, n4, z2, z3, gz5, z5, gz6ann, gz6b] at gz7ann
       all_goals
       try simp only [go_sem, n1, n2, n3, n4, z2, z3, gz5, z5, gz6ann, gz6b, gz7ann] at gz7b
       all_goals
       rcases it_some h with ⟨z8, h⟩ | ⟨z8, h⟩
       ·try simp only [go_sem, n1, n2, n3, n4, z2, z3, gz5, z5, gz6ann, gz6b, gz7ann, gz7b] at z8
        all_goals
        (simp_all)
       ·try simp only [go_sem, n1, n2, n3, n4, z2, z3, gz5, z5, gz6ann, gz6b, gz7ann, gz7b] at z8
        all_goals
        obtain rfl := so_some h
        refine ⟨0, fun L hL => ?_⟩
        simp only [go_sem, ir59, E_16_l1, R_16_l1, ir59_b0, ir59_k0, ir59_o0, ir59_r0, z2, z3, lz3, xz3, fz4, gz5, z5, lz5, xz5, gz6ann, gz6b, gz7ann, gz7b, z8]
  ·rcases and_f gz5 with gz5a | ⟨gz5a, gz5b⟩
   ·have gz5an := no_f gz5a
    have gz5ann := no_t gz5an
    try simp only [go_sem, n1, n2, n3, n4, z2, z3] at gz5ann
    all_goals
    obtain ⟨z6, h⟩ := ck_some h
    obtain ⟨z7, h⟩ := ck_some h
    rcases it_some h with ⟨z8, h⟩ | ⟨z8, h⟩
    ·try simp only [go_sem, n1, n2, n3, n4, z2, z3, gz5ann] at z8
     all_goals
     obtain rfl := so_some h
     refine ⟨0, fun L hL => ?_⟩
     simp only [go_sem, ir59, E_16_l1, R_16_l1, ir59_b0, ir59_k0, ir59_o0, ir59_r0, z2, z3, lz3, xz3, fz4, gz5ann, z8]
    ·try simp only [go_sem, n1, n2, n3, n4, z2, z3, gz5ann] at z8
     all_goals
     (simp_all)
   ·have gz5an := no_t gz5a
    have gz5ann := no_f gz5an
    try simp only [go_sem, n1, n2, n3, n4, z2, z3] at gz5ann
    all_goals
    try simp only [go_sem, n1, n2, n3, n4, z2, z3, gz5ann] at gz5b
    all_goals
    obtain ⟨z6, h⟩ := ck_some h
    obtain ⟨z7, h⟩ := ck_some h
    rcases it_some h with ⟨z8, h⟩ | ⟨z8, h⟩
    ·try simp only [go_sem, n1, n2, n3, n4, z2, z3, gz5ann, gz5b] at z8
     all_goals
     (simp_all)
    ·try simp only [go_sem, n1, n2, n3, n4, z2, z3, gz5ann, gz5b] at z8
     all_goals
     obtain rfl := so_some h
     refine ⟨0, fun L hL => ?_⟩
     simp only [go_sem, ir59, E_16_l1, R_16_l1, ir59_b0, ir59_k0, ir59_o0, ir59_r0, z2, z3, lz3, xz3, fz4, gz5ann, gz5b, z8]
 ·try simp only [go_sem, n1, n2, n3, n4] at z2
  all_goals
  obtain rfl := so_some h
  refine ⟨0, fun L hL => ?_⟩
  simp only [go_sem, ir59, E_16_l1, R_16_l1, ir59_b0, ir59_k0, ir59_o0, ir59_r0, z2]

theorem Fs_16 {list : List Observer} {most : Int} {y_ : Bool} (h : impl_rising_impl_Observer__impl_isObserver__impl_observerName list most = some y_) : c_16.F [.sl 2 (List.map Observer_av list), .int .i64 most, .fn (.func 34) [] [], .fn (.func 37) [] []] = ⟨true, .bool y_, [.any, .any, .any, .any]⟩ := by
 refine mkF_E rfl ?_
 dsimp only [impl_rising_impl_Observer__impl_isObserver__impl_observerName] at h
 rcases it_some h with ⟨z1, h⟩ | ⟨z1, h⟩
 ·try simp only [go_sem, n1, n2, n3, n4] at z1
  all_goals
  obtain rfl := so_some h
  refine ⟨0, fun L hL => ?_⟩
  simp only [go_sem, ir59, E_16_l1, R_16_l1, ir59_k0, ir59_o0, ir59_r0, z1]
 ·try simp only [go_sem, n1, n2, n3, n4] at z1
  all_goals
  obtain ⟨y_9, z9, h⟩ := bd_some h
  obtain ⟨Lz9, ez9⟩ := impl_rising_impl_Observer__impl_isObserver__impl_observerName_l1_ex z9
  rcases y_9 with y_9a | y_9b
  ·dsimp only at h
   obtain rfl := so_some h
   refine ⟨Lz9, fun L hL => ?_⟩
   have ez9 := ez9 L (by omega)
   try simp only [go_sem, E_16_l1, R_16_l1, ir59_k0, ir59_o0, ir59_r0, z1] at ez9
   simp only [go_sem, ir59, E_16_l1, R_16_l1, ir59_k0, ir59_o0, ir59_r0, z1, ez9]
  ·dsimp only at h
   obtain rfl := so_some h
   refine ⟨Lz9, fun L hL => ?_⟩
   have ez9 := ez9 L (by omega)
   try simp only [go_sem, E_16_l1, R_16_l1, ir59_k0, ir59_o0, ir59_r0, z1] at ez9
   simp only [go_sem, ir59, E_16_l1, R_16_l1, ir59_k0, ir59_o0, ir59_r0, z1, ez9]


def ir26_v : List Nat := [0, 2]
def ir26 : AFn := ⟨1, 2, .seq (.region false [ VO 1 2 (.mov (.c (.bool false)))]) (.seq (.region false [ PM 3 0, PO 4 (.call 59 [(.s 0), (I6 40), (.c (.fn (.func 34) [] [])), (.c (.fn (.func 37) [] []))]), VS 1 2 0]) (.ret)), [.t 1]⟩
noncomputable def t_17 : List (Nat × Ctr) := [(59, c_16)]
theorem lk_17_59 : look t_17 59 = some c_16 := rfl
noncomputable def c_17 : Ctr := mkF t_17 ir26 [.bor]
theorem s_17 : Sound Tryz.prog 26 c_17 := mkF_sound _ rfl (snd_cons s_16 snd_nil) (by kernel_rfl : chkFn Tryz.prog 26 ir26 ir26_v = true)
theorem M_17 : c_17.modes = [.bor] := rfl
theorem Fl_17 : c_17.flat = true := rfl
attribute [go_sem] M_17 Fl_17
attribute [go_sem] lk_17_59
theorem Fs_17 {list : List Observer} {y_ : Bool} (h : impl_ValidObservers list = some y_) : c_17.F [.sl 2 (List.map Observer_av list)] = ⟨true, .bool y_, [.any]⟩ := by
 refine mkF_E rfl ?_
 dsimp only [impl_ValidObservers] at h
 obtain ⟨y_1, z1, h⟩ := bd_some h
 have fz1 := Fs_16 z1
 try simp only [go_sem] at fz1
 obtain rfl := so_some h
 refine ⟨0, fun L hL => ?_⟩
 simp only [go_sem, ir26, fz1]


def ir65_v : List Nat := [0, 1, 2, 3]
def ir65 : AFn := ⟨2, 4, .seq (.region false [ VO 2 2 (.box (.v 0)), VO 3 3 (.mov (.c (.bool false)))]) (.seq (.region false [ PO 4 (.fldAddr 0 (.v 2)), PO 5 (.load false 1 (.s 0)), PO 6 (.load false 1 (.v 1)), PO 7 (.bin false .eql (.s 1) (.s 0)), VS 3 3 0]) (.ret)), [.t 3]⟩
noncomputable def t_18 : List (Nat × Ctr) := []
noncomputable def c_18 : Ctr := mkF t_18 ir65 [.bor, .bor]
theorem s_18 : Sound Tryz.prog 65 c_18 := mkF_sound _ rfl snd_nil (by kernel_rfl : chkFn Tryz.prog 65 ir65 ir65_v = true)
theorem M_18 : c_18.modes = [.bor, .bor] := rfl
theorem Fl_18 : c_18.flat = true := rfl
attribute [go_sem] M_18 Fl_18
theorem Fs_18 {x : Observer} {t1 : List UInt8} {y_ : Bool} (h : impl_findObserver_c1 x t1 = some y_) : c_18.F [Observer_av x, .ptr 1 [.str t1] 0 0] = ⟨true, .bool y_, [.any, .any]⟩ := by
 refine mkF_E rfl ?_
 dsimp only [impl_findObserver_c1] at h
 obtain rfl := so_some h
 refine ⟨0, fun L hL => ?_⟩
 simp only [go_sem, ir65]


def ir79_b0 : IR := .seq (.region false [ VO 6 9 (.bin false .lss (.v 5) (.v 4))]) (.seq (.cond (.v 6) (.skip) (.exit 0)) (.seq (.block 1 (.seq (.region false [ PM 10 5, VS 3 5 0]) (.test false [ PM 11 1, PM 12 0, PM 13 3, PO 14 (.ixAddr 2 (.s 1) (.s 0)), PO 15 (.load true 2 (.s 0)), PO 16 (.callv (.s 4) [(.s 0)])] (.s 0) (.seq (.region false [ PM 17 3, VS 2 4 0]) (.ret)) (.skip)))) (.region false [ PO 18 (.bin false .add (.v 5) (I6 1)), VS 5 8 0])))
def ir79_k0 : List Bool := [true, true, false, false, true, true, false]
def ir79_o0 : List Bool := [false, false, false, false, false, false, false]
def ir79_r0 : List Bool := [false, false, true, false, false, false, false]
def ir79_v : List Nat := [0, 1, 4, 5, 7, 8, 9]
def ir79 : AFn := ⟨2, 7, .seq (.region false [ VO 2 4 (.mov (I6 0))]) (.seq (.seq (.region false [ PM 6 0, VO 4 7 (.len false (.s 0)), VO 5 8 (.mov (I6 0))]) (.block 0 (.loop ir79_k0 ir79_o0 ir79_r0 ir79_b0))) (.seq (.region false [ VO 2 4 (.mov (.c (.int .i64 (-1))))]) (.ret))), [.t 2]⟩
noncomputable def t_19 : List (Nat × Ctr) := [(65, c_18)]
theorem lk_19_65 : look t_19 65 = some c_18 := rfl
noncomputable def c_19 : Ctr := mkF t_19 ir79 [.bor, .bor]
theorem s_19 : Sound Tryz.prog 79 c_19 := mkF_sound _ rfl (snd_cons s_18 snd_nil) (by kernel_rfl : chkFn Tryz.prog 79 ir79 ir79_v = true)
theorem M_19 : c_19.modes = [.bor, .bor] := rfl
theorem Fl_19 : c_19.flat = true := rfl
attribute [go_sem] M_19 Fl_19
attribute [go_sem] lk_19_65
def E_19_l1 (s_ : List Observer) (c : List UInt8) (t7 : Int) : Int → St
 | t8 => ⟨[.sl 2 (List.map Observer_av s_), .fn (.func 65) [] [.ptr 1 [.str c] 0 0], .any, .any, .int .i64 t7, .int .i64 t8, .any], [], [], true⟩
def R_19_l1 (s_ : List Observer) (c : List UInt8) (t7 : Int) : (Unit ⊕ Int) → Res
 | .inl y => (.exit 0, ⟨[.any, .any, .any, .any, .any, .any, .any], [], [], true⟩)
 | .inr y => (.ret, ⟨[.any, .any, .int .i64 y, .any, .any, .any, .any], [], [], true⟩)
theorem slices_IndexFunc_impl_Observer_impl_Observer__impl_findObserver_c1_l1_ex {s_ : List Observer} {c : List UInt8} {t7 : Int} {sgm_ : Int} {rho_ : Unit ⊕ Int} (h : whileE (slices_IndexFunc_impl_Observer_impl_Observer__impl_findObserver_c1_l1 s_ c t7) sgm_ = some rho_) : ∃ L0, ∀ L, L0 ≤ L → iter (exec (look t_19) L ir79_b0) ir79_k0 ir79_o0 ir79_r0 L (E_19_l1 s_ c t7 sgm_) = R_19_l1 s_ c t7 rho_ := by
 refine loop_ex (E := E_19_l1 s_ c t7) (R := R_19_l1 s_ c t7) (fun y => by first | (intro c; cases c) | (rcases y with y | y <;> (intro c; cases c)) | (rcases y with y | y | y <;> (intro c; cases c))) ?_ h
 clear h
 intro t8 o_ h
 dsimp only [slices_IndexFunc_impl_Observer_impl_Observer__impl_findObserver_c1_l1] at h
 rcases it_some h with ⟨z1, h⟩ | ⟨z1, h⟩
 ·try simp only [go_sem, n1, n2, n3, n4] at z1
  all_goals
  obtain ⟨z2, h⟩ := ck_some h
  have lz2 := ix_lt z2
  have xz2 := getD_mapD Observer_av s_ lz2
  try simp only [go_sem] at lz2
  try simp only [go_sem] at xz2
  try simp only [go_sem, n1, n2, n3, n4, z1] at z2
  all_goals
  obtain ⟨y_3, z3, h⟩ := bd_some h
  have fz3 := Fs_18 z3
  try simp only [go_sem, z1, z2] at fz3
  rcases it_some h with ⟨z4, h⟩ | ⟨z4, h⟩
  ·try simp only [go_sem, n1, n2, n3, n4, z1, z2] at z4
   all_goals
   obtain rfl := so_some h
   refine ⟨0, fun L hL => ?_⟩
   simp only [go_sem, ir79, E_19_l1, R_19_l1, ir79_b0, ir79_k0, ir79_o0, ir79_r0, z1, z2, lz2, xz2, fz3, z4]
  ·try simp only [go_sem, n1, n2, n3, n4, z1, z2] at z4
   all_goals
   obtain rfl := so_some h
   refine ⟨0, fun L hL => ?_⟩
   simp only [go_sem, ir79, E_19_l1, R_19_l1, ir79_b0, ir79_k0, ir79_o0, ir79_r0, z1, z2, lz2, xz2, fz3, z4]
 ·try simp only [go_sem, n1, n2, n3, n4] at z1
  all_goals
  obtain rfl := so_some h
  refine ⟨0, fun L hL => ?_⟩
  simp only [go_sem, ir79, E_19_l1, R_19_l1, ir79_b0, ir79_k0, ir79_o0, ir79_r0, z1]

theorem Fs_19 {s_ : List Observer} {f_c0 : List UInt8} {y_ : Int} (h : slices_IndexFunc_impl_Observer_impl_Observer__impl_findObserver_c1 s_ f_c0 = some y_) : c_19.F [.sl 2 (List.map Observer_av s_), .fn (.func 65) [] [.ptr 1 [.str f_c0] 0 0]] = ⟨true, .int .i64 y_, [.any, .any]⟩ := by
 refine mkF_E rfl ?_
 dsimp only [slices_IndexFunc_impl_Observer_impl_Observer__impl_findObserver_c1] at h
 obtain ⟨y_5, z5, h⟩ := bd_some h
 obtain ⟨Lz5, ez5⟩ := slices_IndexFunc_impl_Observer_impl_Observer__impl_findObserver_c1_l1_ex z5
 rcases y_5 with y_5a | y_5b
 ·dsimp only at h
  obtain rfl := so_some h
  refine ⟨Lz5, fun L hL => ?_⟩
  have ez5 := ez5 L (by omega)
  try simp only [go_sem, E_19_l1, R_19_l1, ir79_k0, ir79_o0, ir79_r0] at ez5
  simp only [go_sem, ir79, E_19_l1, R_19_l1, ir79_k0, ir79_o0, ir79_r0, ez5]
 ·dsimp only at h
  obtain rfl := so_some h
  refine ⟨Lz5, fun L hL => ?_⟩
  have ez5 := ez5 L (by omega)
  try simp only [go_sem, E_19_l1, R_19_l1, ir79_k0, ir79_o0, ir79_r0] at ez5
  simp only [go_sem, ir79, E_19_l1, R_19_l1, ir79_k0, ir79_o0, ir79_r0, ez5]


def ir64_v : List Nat := [0, 1, 4, 5, 6]
def ir64 : AFn := ⟨2, 5, .seq (.region false [ VO 2 4 (.mov (I6 0)), VO 3 5 (.mov (I6 0))]) (.seq (.seq (.region false [ PM 7 0, PM 8 1, PO 9 (.call 79 [(.s 1), (.s 0)]), VS 4 6 0]) (.test false [ PM 10 4, PO 11 (.bin false .geq (.s 0) (I6 0))] (.s 0) (.seq (.region false [ PM 12 4, VS 2 4 0, VO 3 5 (.mov (I6 0))]) (.ret)) (.skip))) (.seq (.region false [ VO 2 4 (.mov (I6 0)), VO 3 5 (.mov (I6 3))]) (.ret))), [.t 2, .t 3]⟩
noncomputable def t_20 : List (Nat × Ctr) := [(79, c_19)]
theorem lk_20_79 : look t_20 79 = some c_19 := rfl
noncomputable def c_20 : Ctr := mkF t_20 ir64 [.bor, .bor]
theorem s_20 : Sound Tryz.prog 64 c_20 := mkF_sound _ rfl (snd_cons s_19 snd_nil) (by kernel_rfl : chkFn Tryz.prog 64 ir64 ir64_v = true)
theorem M_20 : c_20.modes = [.bor, .bor] := rfl
theorem Fl_20 : c_20.flat = true := rfl
attribute [go_sem] M_20 Fl_20
attribute [go_sem] lk_20_79
theorem Fs_20 {list : List Observer} {wanted_c0 : List UInt8} {y_ : Int × Int} (h : impl_indexOf_impl_Observer__impl_findObserver_c1 list wanted_c0 = some y_) : c_20.F [.sl 2 (List.map Observer_av list), .fn (.func 65) [] [.ptr 1 [.str wanted_c0] 0 0]] = ⟨true, .tup [.int .i64 y_.1, .int .i64 y_.2], [.any, .any]⟩ := by
 refine mkF_E rfl ?_
 dsimp only [impl_indexOf_impl_Observer__impl_findObserver_c1] at h
 obtain ⟨y_1, z1, h⟩ := bd_some h
 have fz1 := Fs_19 z1
 try simp only [go_sem] at fz1
 rcases it_some h with ⟨z2, h⟩ | ⟨z2, h⟩
 ·try simp only [go_sem, n1, n2, n3, n4] at z2
  all_goals
  obtain rfl := so_some h
  refine ⟨0, fun L hL => ?_⟩
  simp only [go_sem, ir64, fz1, z2]
 ·try simp only [go_sem, n1, n2, n3, n4] at z2
  all_goals
  obtain rfl := so_some h
  refine ⟨0, fun L hL => ?_⟩
  simp only [go_sem, ir64, fz1, z2]


def ir35_v : List Nat := [0, 1, 3, 4, 5]
def ir35 : AFn := ⟨2, 5, .seq (.region false [ VO 2 3 (.box (.v 1)), VO 3 4 (.mov (I6 0)), VO 4 5 (.mov (I6 0))]) (.seq (.region false [ PM 6 0, PO 7 (.mkFn (.func 65) [] [(.v 2)]), PO 8 (.call 64 [(.s 1), (.s 0)]), PO 9 (.ext (.s 0) 0), PO 10 (.ext (.s 1) 1), VS 3 4 1, VS 4 5 0]) (.ret)), [.t 3, .t 4]⟩
noncomputable def t_21 : List (Nat × Ctr) := [(64, c_20)]
theorem lk_21_64 : look t_21 64 = some c_20 := rfl
noncomputable def c_21 : Ctr := mkF t_21 ir35 [.bor, .bor]
theorem s_21 : Sound Tryz.prog 35 c_21 := mkF_sound _ rfl (snd_cons s_20 snd_nil) (by kernel_rfl : chkFn Tryz.prog 35 ir35 ir35_v = true)
theorem M_21 : c_21.modes = [.bor, .bor] := rfl
theorem Fl_21 : c_21.flat = true := rfl
attribute [go_sem] M_21 Fl_21
attribute [go_sem] lk_21_64
theorem Fs_21 {list : List Observer} {name : List UInt8} {y_ : Int × Int} (h : impl_findObserver list name = some y_) : c_21.F [.sl 2 (List.map Observer_av list), .str name] = ⟨true, .tup [.int .i64 y_.1, .int .i64 y_.2], [.any, .any]⟩ := by
 refine mkF_E rfl ?_
 dsimp only [impl_findObserver] at h
 obtain ⟨y_1, z1, h⟩ := bd_some h
 have fz1 := Fs_20 z1
 try simp only [go_sem] at fz1
 obtain rfl := so_some h
 refine ⟨0, fun L hL => ?_⟩
 simp only [go_sem, ir35, fz1]


def ir45_v : List Nat := [0, 2]
def ir45 : AFn := ⟨1, 2, .seq (.region false [ VO 1 2 (.newnil 2)]) (.seq (.region false [ PO 3 (.mkSl 2 (.agg [.str [], .int .i64 (0)]) 0 []), PM 4 0, PO 5 (.app 2 24 (.agg [.str [], .int .i64 (0)]) (.s 1) (.s 0)), VS 1 2 0]) (.ret)), [.t 1]⟩
noncomputable def t_22 : List (Nat × Ctr) := []
noncomputable def c_22 : Ctr := mkF t_22 ir45 [.bor]
theorem s_22 : Sound Tryz.prog 45 c_22 := mkF_sound _ rfl snd_nil (by kernel_rfl : chkFn Tryz.prog 45 ir45 ir45_v = true)
theorem M_22 : c_22.modes = [.bor] := rfl
theorem Fl_22 : c_22.flat = true := rfl
attribute [go_sem] M_22 Fl_22
theorem Fs_22 {list : List Observer} {y_ : (List Observer)} (h : impl_copyOf_impl_Observer list = some y_) : c_22.F [.sl 2 (List.map Observer_av list)] = ⟨true, .fresh 2 (List.map Observer_av y_), [.any]⟩ := by
 refine mkF_E (by simp only [flatA, flatB, flat1, List.all_cons, List.all_nil, Bool.and_self, flatE_map (f := Observer_av) (fun _ => rfl)]) ?_
 dsimp only [impl_copyOf_impl_Observer] at h
 obtain ⟨z1, h⟩ := ck_some h
 try simp only [go_sem, n1, n2, n3, n4] at z1
 all_goals
 obtain rfl := so_some h
 refine ⟨0, fun L hL => ?_⟩
 simp only [go_sem, ir45, z1]


theorem s_hInsObserver : Sound Tryz.prog 66 c_hInsObserver := hInsObserver_is

def ir36_b0 : IR := .seq (.anyo 16 [ SO 0 8 (.mov (.v 5)), SO 1 9 (.mov (.v 0)), SO 2 10 (.len false (.s 1)), SO 3 11 (.bin false .lss (.s 0) (.s 2)), SO 4 12 (.mov (.s 3)), ⟨.slot 5, 13, (some ((.s 4), true)), .mov (.v 2)⟩, ⟨.slot 6, 14, (some ((.s 4), true)), .mov (.v 0)⟩, ⟨.slot 7, 15, (some ((.s 4), true)), .mov (.v 5)⟩, ⟨.slot 8, 16, (some ((.s 4), true)), .ixAddr 2 (.s 6) (.s 7)⟩, ⟨.slot 9, 17, (some ((.s 4), true)), .load true 2 (.s 8)⟩, ⟨.slot 10, 18, (some ((.s 4), true)), .callv (.s 5) [(.s 9)]⟩, ⟨.slot 11, 19, (some ((.s 4), true)), .mov (.v 2)⟩, ⟨.slot 12, 20, (some ((.s 4), true)),
 .load true 2 (.v 3)⟩, ⟨.slot 13, 21, (some ((.s 4), true)), .callv (.s 11) [(.s 12)]⟩, ⟨.slot 14, 22, (some ((.s 4), true)), .bin false .lss (.s 10) (.s 13)⟩, SO 15 23 (.pick (.s 4) (.s 14) (.c (.bool false)))] [] (.cond (.s 15) (.skip) (.exit 0))) (.block 1 (.region false [ PM 24 5, PO 25 (.bin false .add (.s 0) (I6 1)), VS 5 7 0]))
def ir36_k0 : List Bool := [true, false, true, true, false, true]
def ir36_o0 : List Bool := [true, false, false, true, false, true]
def ir36_r0 : List Bool := [false, false, false, false, true, false]
def ir36_v : List Nat := [0, 1, 2, 4, 6, 7]
def ir36 : AFn := ⟨3, 6, .seq (.region false [ VO 3 4 (.box (.v 1)), VO 4 6 (.newnil 2)]) (.seq (.region false [ VO 5 7 (.mov (I6 0))]) (.seq (.block 0 (.loop ir36_k0 ir36_o0 ir36_r0 ir36_b0)) (.seq (.anyo 6 [ SO 0 26 (.mov (.v 0)), SO 1 27 (.call 45 [(.s 0)]), SO 2 28 (.flat (.mov (.v 5))), SO 3 29 (.load true 2 (.v 3)), SO 4 30 (.mkSl 2 (.agg [.str [], .int .i64 (0)]) 1 [(0, (.s 3))]), SO 5 31 (.call 66 [(.s 1), (.s 2), (.s 4)]), VS 4 6 5] [[2, 0, 1, 3, 4, 5, 6], [2, 0, 3, 1, 4, 5, 6], [2, 0, 3, 4, 1, 5, 6], [2, 3, 0, 1, 4, 5, 6], [2, 3, 0, 4, 1, 5, 6], [2, 3, 4, 0, 1, 5, 6]] .skip)
 (.ret)))), [.t 4]⟩
noncomputable def t_24 : List (Nat × Ctr) := [(37, c_15), (45, c_22), (66, c_hInsObserver)]
theorem lk_24_37 : look t_24 37 = some c_15 := rfl
theorem lk_24_45 : look t_24 45 = some c_22 := rfl
theorem lk_24_66 : look t_24 66 = some c_hInsObserver := rfl
noncomputable def c_24 : Ctr := mkF t_24 ir36 [.bor, .bor, .bor]
theorem s_24 : Sound Tryz.prog 36 c_24 := mkF_sound _ rfl (snd_cons s_15 (snd_cons s_22 (snd_cons s_hInsObserver snd_nil))) (by kernel_rfl : chkFn Tryz.prog 36 ir36 ir36_v = true)
theorem M_24 : c_24.modes = [.bor, .bor, .bor] := rfl
theorem Fl_24 : c_24.flat = true := rfl
attribute [go_sem] M_24 Fl_24
attribute [go_sem] lk_24_37 lk_24_45 lk_24_66
def E_24_l1 (list : List Observer) (x : Observer) : Int → St
 | k => ⟨[.sl 2 (List.map Observer_av list), .any, .fn (.func 37) [] [], .ref 3200000 0 0, .any, .int .i64 k], [], [(3200000, ⟨2, [Observer_av x]⟩)], true⟩
def R_24_l1 (list : List Observer) (x : Observer) (y : Int) : Res := (.exit 0, ⟨[.sl 2 (List.map Observer_av list), .any, .any, .ref 3200000 0 0, .any, .int .i64 y], [], [(3200000, ⟨2, [Observer_av x]⟩)], true⟩)
theorem impl_inserted_impl_Observer__impl_observerName_l1_ex {list : List Observer} {x : Observer} {sgm_ : Int} {rho_ : Int} (h : whileE (impl_inserted_impl_Observer__impl_observerName_l1 list x) sgm_ = some rho_) : ∃ L0, ∀ L, L0 ≤ L → iter (exec (look t_24) L ir36_b0) ir36_k0 ir36_o0 ir36_r0 L (E_24_l1 list x sgm_) = R_24_l1 list x rho_ := by
 refine loop_ex (E := E_24_l1 list x) (R := R_24_l1 list x) (fun y => by first | (intro c; cases c) | (rcases y with y | y <;> (intro c; cases c)) | (rcases y with y | y | y <;> (intro c; cases c))) ?_ h
 clear h
 intro k o_ h
 dsimp only [impl_inserted_impl_Observer__impl_observerName_l1] at h
 obtain ⟨z1, h⟩ := ck_some h
 rcases or_split z1 with ⟨gz1, z1⟩ | gz1
 ·try simp only [go_sem, n1, n2, n3, n4] at gz1
  all_goals
  have lz1 := ix_lt z1
  have xz1 := getD_mapD Observer_av list lz1
  try simp only [go_sem] at lz1
  try simp only [go_sem] at xz1
  try simp only [go_sem, n1, n2, n3, n4, gz1] at z1
  all_goals
  obtain ⟨z2, h⟩ := ck_some h
  rcases or_split z2 with ⟨gz2, z2⟩ | gz2
  ·try simp only [go_sem, n1, n2, n3, n4, gz1, z1] at gz2
   all_goals
   obtain ⟨y_2, hz2⟩ := Option.isSome_iff_exists.1 z2
   have fz2 := Fs_15 hz2
   try simp only [go_sem, n1, n2, n3, n4, gz1, z1, gz2] at hz2
   all_goals
   try simp only [go_sem, gz1, z1, gz2] at fz2
   obtain ⟨z3, h⟩ := ck_some h
   rcases or_split z3 with ⟨gz3, z3⟩ | gz3
   ·try simp only [go_sem, n1, n2, n3, n4, gz1, z1, gz2, hz2] at gz3
    all_goals
    obtain ⟨y_3, hz3⟩ := Option.isSome_iff_exists.1 z3
    have fz3 := Fs_15 hz3
    try simp only [go_sem, n1, n2, n3, n4, gz1, z1, gz2, hz2, gz3] at hz3
    all_goals
    try simp only [go_sem, gz1, z1, gz2, hz2, gz3] at fz3
    rcases it_some h with ⟨z4, h⟩ | ⟨z4, h⟩
    ·try simp only [go_sem, n1, n2, n3, n4, gz1, z1, gz2, hz2, gz3, hz3] at z4
     all_goals
     obtain rfl := so_some h
     refine ⟨0, fun L hL => ?_⟩
     simp only [go_sem, ir36, E_24_l1, R_24_l1, ir36_b0, ir36_k0, ir36_o0, ir36_r0, gz1, z1, lz1, xz1, gz2, hz2, fz2, gz3, hz3, fz3, z4]
    ·try simp only [go_sem, n1, n2, n3, n4, gz1, z1, gz2, hz2, gz3, hz3] at z4
     all_goals
     obtain rfl := so_some h
     refine ⟨0, fun L hL => ?_⟩
     simp only [go_sem, ir36, E_24_l1, R_24_l1, ir36_b0, ir36_k0, ir36_o0, ir36_r0, gz1, z1, lz1, xz1, gz2, hz2, fz2, gz3, hz3, fz3, z4]
   ·try simp only [go_sem, n1, n2, n3, n4, gz1, z1, gz2, hz2] at gz3
    all_goals
    rcases it_some h with ⟨z4, h⟩ | ⟨z4, h⟩
    ·try simp only [go_sem, n1, n2, n3, n4, gz1, z1, gz2, hz2, gz3] at z4
     all_goals
     (simp_all)
    ·try simp only [go_sem, n1, n2, n3, n4, gz1, z1, gz2, hz2, gz3] at z4
     all_goals
     obtain rfl := so_some h
     refine ⟨0, fun L hL => ?_⟩
     simp only [go_sem, ir36, E_24_l1, R_24_l1, ir36_b0, ir36_k0, ir36_o0, ir36_r0, gz1, z1, lz1, xz1, gz2, hz2, fz2, gz3, z4]
  ·try simp only [go_sem, n1, n2, n3, n4, gz1, z1] at gz2
   all_goals
   obtain ⟨z3, h⟩ := ck_some h
   rcases it_some h with ⟨z4, h⟩ | ⟨z4, h⟩
   ·try simp only [go_sem, n1, n2, n3, n4, gz1, z1, gz2] at z4
    all_goals
    (simp_all)
   ·try simp only [go_sem, n1, n2, n3, n4, gz1, z1, gz2] at z4
    all_goals
    obtain rfl := so_some h
    refine ⟨0, fun L hL => ?_⟩
    simp only [go_sem, ir36, E_24_l1, R_24_l1, ir36_b0, ir36_k0, ir36_o0, ir36_r0, gz1, z1, lz1, xz1, gz2, z4]
 ·try simp only [go_sem, n1, n2, n3, n4] at gz1
  all_goals
  obtain ⟨z2, h⟩ := ck_some h
  obtain ⟨z3, h⟩ := ck_some h
  rcases it_some h with ⟨z4, h⟩ | ⟨z4, h⟩
  ·try simp only [go_sem, n1, n2, n3, n4, gz1] at z4
   all_goals
   (simp_all)
  ·try simp only [go_sem, n1, n2, n3, n4, gz1] at z4
   all_goals
   obtain rfl := so_some h
   refine ⟨0, fun L hL => ?_⟩
   simp only [go_sem, ir36, E_24_l1, R_24_l1, ir36_b0, ir36_k0, ir36_o0, ir36_r0, gz1, z4]

theorem Fs_24 {list : List Observer} {x : Observer} {y_ : (List Observer)} (h : impl_inserted_impl_Observer__impl_observerName list x = some y_) : c_24.F [.sl 2 (List.map Observer_av list), Observer_av x, .fn (.func 37) [] []] = ⟨true, .fresh 2 (List.map Observer_av y_), [.any, .any, .any]⟩ := by
 refine mkF_E (by simp only [flatA, flatB, flat1, List.all_cons, List.all_nil, Bool.and_self, flatE_map (f := Observer_av) (fun _ => rfl)]) ?_
 dsimp only [impl_inserted_impl_Observer__impl_observerName] at h
 obtain ⟨y_5, z5, h⟩ := bd_some h
 obtain ⟨Lz5, ez5⟩ := impl_inserted_impl_Observer__impl_observerName_l1_ex z5
 obtain ⟨y_6, z6, h⟩ := bd_some h
 have fz6 := Fs_22 z6
 try simp only [go_sem] at fz6
 obtain ⟨y_7, z7, h⟩ := bd_some h
 have fz7 := (Fs_hInsObserver Observer_av) z7
 try simp only [go_sem] at fz7
 obtain rfl := so_some h
 refine ⟨Lz5, fun L hL => ?_⟩
 have ez5 := ez5 L (by omega)
 try simp only [go_sem, E_24_l1, R_24_l1, ir36_k0, ir36_o0, ir36_r0] at ez5
 simp only [go_sem, ir36, E_24_l1, R_24_l1, ir36_k0, ir36_o0, ir36_r0, fz6, fz7, ez5]


def ir6_v : List Nat := [0, 1, 3, 4, 5, 7]
def ir6 : AFn := ⟨2, 6, .seq (.region false [ VO 2 3 (.box (.v 1)), VO 3 4 (.newnil 2), VO 4 5 (.mov (I6 0))]) (.seq (.block 0 (.test false [ PM 9 0, PO 10 (.call 26 [(.s 0)]), PO 11 (.un .not (.s 0)), PO 8 (.mov (.s 0))] (.s 0) (.seq (.region false [ VO 3 4 (.newnil 2), VO 4 5 (.mov (I6 1))]) (.ret)) (.test false [ PO 13 (.load true 2 (.v 2)), PO 14 (.call 34 [(.s 0)]), PO 15 (.un .not (.s 0)), PO 12 (.mov (.s 0))] (.s 0) (.seq (.region false [ VO 3 4 (.newnil 2), VO 4 5 (.mov (I6 2))]) (.ret)) (.skip)))) (.seq (.seq (.region false [ PM 17 0, PO 18 (.fldAddr 0 (.v 2)), PO 19 (.load false 1 (.s
 0)), PO 20 (.call 35 [(.s 2), (.s 0)]), PO 16 (.mov (.s 0)), PO 21 (.ext (.s 0) 0), PO 22 (.ext (.s 1) 1), PO 6 (.mov (.s 1)), VS 5 7 1]) (.test false [ PM 23 5, PO 24 (.bin false .eql (.s 0) (I6 0))] (.s 0) (.seq (.region false [ VO 3 4 (.newnil 2), VO 4 5 (.mov (I6 4))]) (.ret)) (.skip))) (.seq (.test false [ PM 25 0, PO 26 (.len false (.s 0)), PO 27 (.bin false .eql (.s 0) (I6 40))] (.s 0) (.seq (.region false [ VO 3 4 (.newnil 2), VO 4 5 (.mov (I6 5))]) (.ret)) (.skip)) (.seq (.region false [ PM 28 0, PO 29 (.load true 2 (.v 2)), PO 30 (.call 36 [(.s 1), (.s 0), (.c (.fn (.func 37) []
 []))]), VS 3 4 0, VO 4 5 (.mov (I6 0))]) (.ret))))), [.t 3, .t 4]⟩
noncomputable def t_25 : List (Nat × Ctr) := [(26, c_17), (34, c_14), (35, c_21), (36, c_24)]
theorem lk_25_26 : look t_25 26 = some c_17 := rfl
theorem lk_25_34 : look t_25 34 = some c_14 := rfl
theorem lk_25_35 : look t_25 35 = some c_21 := rfl
theorem lk_25_36 : look t_25 36 = some c_24 := rfl
noncomputable def c_25 : Ctr := mkF t_25 ir6 [.bor, .bor]
theorem s_25 : Sound Tryz.prog 6 c_25 := mkF_sound _ rfl (snd_cons s_17 (snd_cons s_14 (snd_cons s_21 (snd_cons s_24 snd_nil)))) (by kernel_rfl : chkFn Tryz.prog 6 ir6 ir6_v = true)
theorem M_25 : c_25.modes = [.bor, .bor] := rfl
theorem Fl_25 : c_25.flat = true := rfl
attribute [go_sem] M_25 Fl_25
attribute [go_sem] lk_25_26 lk_25_34 lk_25_35 lk_25_36
theorem Fs_25 {list : List Observer} {x : Observer} {y_ : (List Observer) × Int} (h : impl_AddObserver list x = some y_) : c_25.F [.sl 2 (List.map Observer_av list), Observer_av x] = ⟨true, .tup [.fresh 2 (List.map Observer_av y_.1), .int .i64 y_.2], [.any, .any]⟩ := by
 refine mkF_E (by simp only [flatA, flatB, flat1, List.all_cons, List.all_nil, Bool.and_self, flatE_map (f := Observer_av) (fun _ => rfl)]) ?_
 dsimp only [impl_AddObserver] at h
 obtain ⟨y_1, z1, h⟩ := bd_some h
 have fz1 := Fs_17 z1
 try simp only [go_sem] at fz1
 rcases it_some h with ⟨z2, h⟩ | ⟨z2, h⟩
 ·try simp only [go_sem, n1, n2, n3, n4] at z2
  all_goals
  obtain rfl := so_some h
  refine ⟨0, fun L hL => ?_⟩
  simp only [go_sem, ir6, fz1, z2]
 ·try simp only [go_sem, n1, n2, n3, n4] at z2
  all_goals
  obtain ⟨y_3, z3, h⟩ := bd_some h
  have fz3 := Fs_14 z3
  try simp only [go_sem, z2] at fz3
  rcases it_some h with ⟨z4, h⟩ | ⟨z4, h⟩
  ·try simp only [go_sem, n1, n2, n3, n4, z2] at z4
   all_goals
   obtain rfl := so_some h
   refine ⟨0, fun L hL => ?_⟩
   simp only [go_sem, ir6, fz1, z2, fz3, z4]
  ·try simp only [go_sem, n1, n2, n3, n4, z2] at z4
   all_goals
   obtain ⟨y_5, z5, h⟩ := bd_some h
   have fz5 := Fs_21 z5
   try simp only [go_sem, z2, z4] at fz5
   rcases it_some h with ⟨z6, h⟩ | ⟨z6, h⟩
   ·try simp only [go_sem, n1, n2, n3, n4, z2, z4] at z6
    all_goals
    obtain rfl := so_some h
    refine ⟨0, fun L hL => ?_⟩
    simp only [go_sem, ir6, fz1, z2, fz3, z4, fz5, z6]
   ·try simp only [go_sem, n1, n2, n3, n4, z2, z4] at z6
    all_goals
    rcases it_some h with ⟨z7, h⟩ | ⟨z7, h⟩
    ·try simp only [go_sem, n1, n2, n3, n4, z2, z4, z6] at z7
     all_goals
     obtain rfl := so_some h
     refine ⟨0, fun L hL => ?_⟩
     simp only [go_sem, ir6, fz1, z2, fz3, z4, fz5, z6, z7]
    ·try simp only [go_sem, n1, n2, n3, n4, z2, z4, z6] at z7
     all_goals
     obtain ⟨y_8, z8, h⟩ := bd_some h
     have fz8 := Fs_24 z8
     try simp only [go_sem, z2, z4, z6, z7] at fz8
     obtain rfl := so_some h
     refine ⟨0, fun L hL => ?_⟩
     simp only [go_sem, ir6, fz1, z2, fz3, z4, fz5, z6, z7, fz8]


def ir82_v : List Nat := [0, 2]
def ir82 : AFn := ⟨1, 2, .seq (.region false [ VO 1 2 (.mov (.c (.bool false)))]) (.seq (.region false [ PM 3 0, PO 4 (.bin false .geq (.s 0) (.c (.int .u8 (97)))), PO 5 (.mov (.s 0)), ⟨.push, 6, (some ((.s 0), true)), .mov (.v 0)⟩, ⟨.push, 7, (some ((.s 1), true)), .bin false .leq (.s 0) (.c (.int .u8 (122)))⟩, PO 8 (.pick (.s 2) (.s 0) (.c (.bool false))), VS 1 2 0]) (.ret)), [.t 1]⟩
noncomputable def t_26 : List (Nat × Ctr) := []
noncomputable def c_26 : Ctr := mkF t_26 ir82 [.bor]
theorem s_26 : Sound Tryz.prog 82 c_26 := mkF_sound _ rfl snd_nil (by kernel_rfl : chkFn Tryz.prog 82 ir82 ir82_v = true)
theorem M_26 : c_26.modes = [.bor] := rfl
theorem Fl_26 : c_26.flat = true := rfl
attribute [go_sem] M_26 Fl_26
theorem Fs_26 {c : UInt8} {y_ : Bool} (h : spec_l01Small c = some y_) : c_26.F [.int .u8 (c.toNat : Int)] = ⟨true, .bool y_, [.any]⟩ := by
 refine mkF_E rfl ?_
 dsimp only [spec_l01Small] at h
 obtain rfl := so_some h
 refine ⟨0, fun L hL => ?_⟩
 simp only [go_sem, ir82]


def ir77_v : List Nat := [0, 2]
def ir77 : AFn := ⟨1, 2, .seq (.region false [ VO 1 2 (.mov (.c (.bool false)))]) (.seq (.region false [ PM 3 0, PO 4 (.bin false .geq (.s 0) (.c (.int .u8 (48)))), PO 5 (.mov (.s 0)), ⟨.push, 6, (some ((.s 0), true)), .mov (.v 0)⟩, ⟨.push, 7, (some ((.s 1), true)), .bin false .leq (.s 0) (.c (.int .u8 (57)))⟩, PO 8 (.pick (.s 2) (.s 0) (.c (.bool false))), VS 1 2 0]) (.ret)), [.t 1]⟩
noncomputable def t_27 : List (Nat × Ctr) := []
noncomputable def c_27 : Ctr := mkF t_27 ir77 [.bor]
theorem s_27 : Sound Tryz.prog 77 c_27 := mkF_sound _ rfl snd_nil (by kernel_rfl : chkFn Tryz.prog 77 ir77 ir77_v = true)
theorem M_27 : c_27.modes = [.bor] := rfl
theorem Fl_27 : c_27.flat = true := rfl
attribute [go_sem] M_27 Fl_27
theorem Fs_27 {c : UInt8} {y_ : Bool} (h : spec_l01Digit c = some y_) : c_27.F [.int .u8 (c.toNat : Int)] = ⟨true, .bool y_, [.any]⟩ := by
 refine mkF_E rfl ?_
 dsimp only [spec_l01Digit] at h
 obtain rfl := so_some h
 refine ⟨0, fun L hL => ?_⟩
 simp only [go_sem, ir77]


def ir67_b0 : IR := .seq (.test false [ PM 17 2, PM 18 0, PO 19 (.len true (.s 0)), PO 20 (.bin false .lss (.s 2) (.s 0))] (.s 0) (.skip) (.exit 0)) (.seq (.block 1 (.test false [ PM 23 0, PM 24 2, PO 25 (.ixStr (.s 1) (.s 0)), PO 26 (.call 82 [(.s 0)]), PO 27 (.un .not (.s 0)), PO 28 (.mov (.s 0)), ⟨.push, 29, (some ((.s 0), true)), .mov (.v 0)⟩, ⟨.push, 30, (some ((.s 1), true)), .mov (.v 2)⟩, ⟨.push, 31, (some ((.s 2), true)), .ixStr (.s 1) (.s 0)⟩, ⟨.push, 32, (some ((.s 3), true)), .call 77 [(.s 0)]⟩, ⟨.push, 33, (some ((.s 4), true)), .un .not (.s 0)⟩, PO 34 (.pick (.s 5) (.s 0) (.c
 (.bool false))), PO 35 (.mov (.s 0)), ⟨.push, 36, (some ((.s 0), true)), .mov (.v 0)⟩, ⟨.push, 37, (some ((.s 1), true)), .mov (.v 2)⟩, ⟨.push, 38, (some ((.s 2), true)), .ixStr (.s 1) (.s 0)⟩, ⟨.push, 39, (some ((.s 3), true)), .bin false .neq (.s 0) (.c (.int .u8 (45)))⟩, PO 40 (.pick (.s 4) (.s 0) (.c (.bool false)))] (.s 0) (.seq (.region false [ VO 1 2 (.mov (.c (.bool false)))]) (.ret)) (.skip))) (.region false [ PM 21 2, PO 22 (.bin false .add (.s 0) (I6 1)), VS 2 3 0]))
def ir67_k0 : List Bool := [true, false, true]
def ir67_o0 : List Bool := [false, false, false]
def ir67_r0 : List Bool := [false, true, false]
def ir67_v : List Nat := [0, 2, 3]
def ir67 : AFn := ⟨1, 3, .seq (.region false [ VO 1 2 (.mov (.c (.bool false)))]) (.seq (.test false [ PM 4 0, PO 5 (.bin false .eql (.s 0) (.c (.str []))), PO 6 (.mov (.s 0)), ⟨.push, 7, (some ((.s 0), false)), .mov (.v 0)⟩, ⟨.push, 8, (some ((.s 1), false)), .len true (.s 0)⟩, ⟨.push, 9, (some ((.s 2), false)), .bin false .gtr (.s 0) (I6 12)⟩, PO 10 (.pick (.s 3) (.c (.bool true)) (.s 0)), PO 11 (.mov (.s 0)), ⟨.push, 12, (some ((.s 0), false)), .mov (.v 0)⟩, ⟨.push, 13, (some ((.s 1), false)), .ixStr (.s 0) (I6 0)⟩, ⟨.push, 14, (some ((.s 2), false)), .call 82 [(.s 0)]⟩, ⟨.push, 15, (some
 ((.s 3), false)), .un .not (.s 0)⟩, PO 16 (.pick (.s 4) (.c (.bool true)) (.s 0))] (.s 0) (.seq (.region false [ VO 1 2 (.mov (.c (.bool false)))]) (.ret)) (.skip)) (.seq (.seq (.region false [ VO 2 3 (.mov (I6 0))]) (.block 0 (.loop ir67_k0 ir67_o0 ir67_r0 ir67_b0))) (.seq (.region false [ VO 1 2 (.mov (.c (.bool true)))]) (.ret)))), [.t 1]⟩
noncomputable def t_28 : List (Nat × Ctr) := [(82, c_26), (77, c_27)]
theorem lk_28_82 : look t_28 82 = some c_26 := rfl
theorem lk_28_77 : look t_28 77 = some c_27 := rfl
noncomputable def c_28 : Ctr := mkF t_28 ir67 [.bor]
theorem s_28 : Sound Tryz.prog 67 c_28 := mkF_sound _ rfl (snd_cons s_26 (snd_cons s_27 snd_nil)) (by kernel_rfl : chkFn Tryz.prog 67 ir67 ir67_v = true)
theorem M_28 : c_28.modes = [.bor] := rfl
theorem Fl_28 : c_28.flat = true := rfl
attribute [go_sem] M_28 Fl_28
attribute [go_sem] lk_28_82 lk_28_77
def E_28_l1 (s_ : List UInt8) : Int → St
 | i => ⟨[.str s_, .any, .int .i64 i], [], [], true⟩
def R_28_l1 (s_ : List UInt8) : (Unit ⊕ Bool) → Res
 | .inl y => (.exit 0, ⟨[.any, .any, .any], [], [], true⟩)
 | .inr y => (.ret, ⟨[.any, .bool y, .any], [], [], true⟩)
theorem spec_IsName_l1_ex {s_ : List UInt8} {sgm_ : Int} {rho_ : Unit ⊕ Bool} (h : whileE (spec_IsName_l1 s_) sgm_ = some rho_) : ∃ L0, ∀ L, L0 ≤ L → iter (exec (look t_28) L ir67_b0) ir67_k0 ir67_o0 ir67_r0 L (E_28_l1 s_ sgm_) = R_28_l1 s_ rho_ := by
 refine loop_ex (E := E_28_l1 s_) (R := R_28_l1 s_) (fun y => by first | (intro c; cases c) | (rcases y with y | y <;> (intro c; cases c)) | (rcases y with y | y | y <;> (intro c; cases c))) ?_ h
 clear h
 intro i o_ h
 dsimp only [spec_IsName_l1] at h
 rcases it_some h with ⟨z4, h⟩ | ⟨z4, h⟩
 ·try simp only [go_sem, n1, n2, n3, n4] at z4
  all_goals
  obtain ⟨z5, h⟩ := ck_some h
  try simp only [go_sem, n1, n2, n3, n4, z4] at z5
  all_goals
  obtain ⟨y_6, z6, h⟩ := bd_some h
  have fz6 := Fs_26 z6
  try simp only [go_sem, z4, z5] at fz6
  obtain ⟨z7, h⟩ := ck_some h
  rcases or_split z7 with ⟨gz7, z7⟩ | gz7
  ·try simp only [go_sem, n1, n2, n3, n4, z4, z5] at gz7
   all_goals
   obtain ⟨y_7, hz7⟩ := Option.isSome_iff_exists.1 z7
   have fz7 := Fs_27 hz7
   try simp only [go_sem, n1, n2, n3, n4, z4, z5, gz7] at hz7
   all_goals
   try simp only [go_sem, z4, z5, gz7] at fz7
   rcases it_some h with ⟨z8, h⟩ | ⟨z8, h⟩
   ·try simp only [go_sem, n1, n2, n3, n4, z4, z5, gz7, hz7] at z8
    all_goals
    obtain rfl := so_some h
    refine ⟨0, fun L hL => ?_⟩
    simp only [go_sem, ir67, E_28_l1, R_28_l1, ir67_b0, ir67_k0, ir67_o0, ir67_r0, z4, z5, fz6, gz7, hz7, fz7, z8]
   ·try simp only [go_sem, n1, n2, n3, n4, z4, z5, gz7, hz7] at z8
    all_goals
    obtain rfl := so_some h
    refine ⟨0, fun L hL => ?_⟩
    simp only [go_sem, ir67, E_28_l1, R_28_l1, ir67_b0, ir67_k0, ir67_o0, ir67_r0, z4, z5, fz6, gz7, hz7, fz7, z8]
  ·have gz7n := no_f gz7
   try simp only [go_sem, n1, n2, n3, n4, z4, z5] at gz7n
   all_goals
   rcases it_some h with ⟨z8, h⟩ | ⟨z8, h⟩
   ·try simp only [go_sem, n1, n2, n3, n4, z4, z5, gz7n] at z8
    all_goals
    (simp_all)
   ·try simp only [go_sem, n1, n2, n3, n4, z4, z5, gz7n] at z8
    all_goals
    obtain rfl := so_some h
    refine ⟨0, fun L hL => ?_⟩
    simp only [go_sem, ir67, E_28_l1, R_28_l1, ir67_b0, ir67_k0, ir67_o0, ir67_r0, z4, z5, fz6, gz7n, z8]
 ·try simp only [go_sem, n1, n2, n3, n4] at z4
  all_goals
  obtain rfl := so_some h
  refine ⟨0, fun L hL => ?_⟩
  simp only [go_sem, ir67, E_28_l1, R_28_l1, ir67_b0, ir67_k0, ir67_o0, ir67_r0, z4]

theorem Fs_28 {s_ : List UInt8} {y_ : Bool} (h : spec_IsName s_ = some y_) : c_28.F [.str s_] = ⟨true, .bool y_, [.any]⟩ := by
 refine mkF_E rfl ?_
 dsimp only [spec_IsName] at h
 obtain ⟨z1, h⟩ := ck_some h
 rcases or_split z1 with ⟨gz1, z1⟩ | gz1
 ·try simp only [go_sem, n1, n2, n3, n4] at gz1
  all_goals
  try simp only [go_sem, n1, n2, n3, n4, gz1] at z1
  all_goals
  obtain ⟨z2, h⟩ := ck_some h
  rcases or_split z2 with ⟨gz2, z2⟩ | gz2
  ·try simp only [go_sem, n1, n2, n3, n4, gz1, z1] at gz2
   all_goals
   obtain ⟨y_2, hz2⟩ := Option.isSome_iff_exists.1 z2
   have fz2 := Fs_26 hz2
   try simp only [go_sem, n1, n2, n3, n4, gz1, z1, gz2] at hz2
   all_goals
   try simp only [go_sem, gz1, z1, gz2] at fz2
   rcases it_some h with ⟨z3, h⟩ | ⟨z3, h⟩
   ·try simp only [go_sem, n1, n2, n3, n4, gz1, z1, gz2, hz2] at z3
    all_goals
    obtain rfl := so_some h
    refine ⟨0, fun L hL => ?_⟩
    simp only [go_sem, ir67, E_28_l1, R_28_l1, ir67_k0, ir67_o0, ir67_r0, gz1, z1, gz2, hz2, fz2, z3]
   ·try simp only [go_sem, n1, n2, n3, n4, gz1, z1, gz2, hz2] at z3
    all_goals
    obtain ⟨y_9, z9, h⟩ := bd_some h
    obtain ⟨Lz9, ez9⟩ := spec_IsName_l1_ex z9
    rcases y_9 with y_9a | y_9b
    ·dsimp only at h
     obtain rfl := so_some h
     refine ⟨Lz9, fun L hL => ?_⟩
     have ez9 := ez9 L (by omega)
     try simp only [go_sem, E_28_l1, R_28_l1, ir67_k0, ir67_o0, ir67_r0, gz1, z1, gz2, hz2, z3] at ez9
     simp only [go_sem, ir67, E_28_l1, R_28_l1, ir67_k0, ir67_o0, ir67_r0, gz1, z1, gz2, hz2, fz2, z3, ez9]
    ·dsimp only at h
     obtain rfl := so_some h
     refine ⟨Lz9, fun L hL => ?_⟩
     have ez9 := ez9 L (by omega)
     try simp only [go_sem, E_28_l1, R_28_l1, ir67_k0, ir67_o0, ir67_r0, gz1, z1, gz2, hz2, z3] at ez9
     simp only [go_sem, ir67, E_28_l1, R_28_l1, ir67_k0, ir67_o0, ir67_r0, gz1, z1, gz2, hz2, fz2, z3, ez9]
  ·have gz2n := no_f gz2
   rcases or_t gz2n with gz2na | ⟨gz2na, gz2nb⟩
   ·try simp only [go_sem, n1, n2, n3, n4, gz1, z1] at gz2na
    all_goals
    (simp_all)
   ·try simp only [go_sem, n1, n2, n3, n4, gz1, z1] at gz2na
    all_goals
    try simp only [go_sem, n1, n2, n3, n4, gz1, z1, gz2na] at gz2nb
    all_goals
    rcases it_some h with ⟨z3, h⟩ | ⟨z3, h⟩
    ·try simp only [go_sem, n1, n2, n3, n4, gz1, z1, gz2na, gz2nb] at z3
     all_goals
     obtain rfl := so_some h
     refine ⟨0, fun L hL => ?_⟩
     simp only [go_sem, ir67, E_28_l1, R_28_l1, ir67_k0, ir67_o0, ir67_r0, gz1, z1, gz2na, gz2nb, z3]
    ·try simp only [go_sem, n1, n2, n3, n4, gz1, z1, gz2na, gz2nb] at z3
     all_goals
     obtain ⟨y_9, z9, h⟩ := bd_some h
     obtain ⟨Lz9, ez9⟩ := spec_IsName_l1_ex z9
     rcases y_9 with y_9a | y_9b
     ·dsimp only at h
      obtain rfl := so_some h
      refine ⟨Lz9, fun L hL => ?_⟩
      have ez9 := ez9 L (by omega)
      try simp only [go_sem, E_28_l1, R_28_l1, ir67_k0, ir67_o0, ir67_r0, gz1, z1, gz2na, gz2nb, z3] at ez9
      simp only [go_sem, ir67, E_28_l1, R_28_l1, ir67_k0, ir67_o0, ir67_r0, gz1, z1, gz2na, gz2nb, z3, ez9]
     ·dsimp only at h
      obtain rfl := so_some h
      refine ⟨Lz9, fun L hL => ?_⟩
      have ez9 := ez9 L (by omega)
      try simp only [go_sem, E_28_l1, R_28_l1, ir67_k0, ir67_o0, ir67_r0, gz1, z1, gz2na, gz2nb, z3] at ez9
      simp only [go_sem, ir67, E_28_l1, R_28_l1, ir67_k0, ir67_o0, ir67_r0, gz1, z1, gz2na, gz2nb, z3, ez9]
 ·have gz1n := no_f gz1
  rcases or_t gz1n with gz1na | ⟨gz1na, gz1nb⟩
  ·try simp only [go_sem, n1, n2, n3, n4] at gz1na
   all_goals
   obtain ⟨z2, h⟩ := ck_some h
   rcases it_some h with ⟨z3, h⟩ | ⟨z3, h⟩
   ·try simp only [go_sem, n1, n2, n3, n4, gz1na] at z3
    all_goals
    obtain rfl := so_some h
    refine ⟨0, fun L hL => ?_⟩
    simp only [go_sem, ir67, E_28_l1, R_28_l1, ir67_k0, ir67_o0, ir67_r0, gz1na, z3]
   ·try simp only [go_sem, n1, n2, n3, n4, gz1na] at z3
    all_goals
    (simp_all)
  ·try simp only [go_sem, n1, n2, n3, n4] at gz1na
   all_goals
   try simp only [go_sem, n1, n2, n3, n4, gz1na] at gz1nb
   all_goals
   obtain ⟨z2, h⟩ := ck_some h
   rcases it_some h with ⟨z3, h⟩ | ⟨z3, h⟩
   ·try simp only [go_sem, n1, n2, n3, n4, gz1na, gz1nb] at z3
    all_goals
    obtain rfl := so_some h
    refine ⟨0, fun L hL => ?_⟩
    simp only [go_sem, ir67, E_28_l1, R_28_l1, ir67_k0, ir67_o0, ir67_r0, gz1na, gz1nb, z3]
   ·try simp only [go_sem, n1, n2, n3, n4, gz1na, gz1nb] at z3
    all_goals
    (simp_all)


def ir68_v : List Nat := [0, 1, 2, 6]
def ir68 : AFn := ⟨3, 4, .seq (.region false [ VO 3 6 (.mov (.c (.bool false)))]) (.seq (.region false [ PM 7 0, PM 8 1, PO 9 (.bin false .geq (.s 1) (.s 0)), PO 10 (.mov (.s 0)), ⟨.push, 11, (some ((.s 0), true)), .mov (.v 0)⟩, ⟨.push, 12, (some ((.s 1), true)), .mov (.v 2)⟩, ⟨.push, 13, (some ((.s 2), true)), .bin false .leq (.s 1) (.s 0)⟩, PO 14 (.pick (.s 3) (.s 0) (.c (.bool false))), VS 3 6 0]) (.ret)), [.t 3]⟩
noncomputable def t_29 : List (Nat × Ctr) := []
noncomputable def c_29 : Ctr := mkF t_29 ir68 [.bor, .bor, .bor]
theorem s_29 : Sound Tryz.prog 68 c_29 := mkF_sound _ rfl snd_nil (by kernel_rfl : chkFn Tryz.prog 68 ir68 ir68_v = true)
theorem M_29 : c_29.modes = [.bor, .bor, .bor] := rfl
theorem Fl_29 : c_29.flat = true := rfl
attribute [go_sem] M_29 Fl_29
theorem Fs_29 {n : Int} {low : Int} {high : Int} {y_ : Bool} (h : spec_l00In n low high = some y_) : c_29.F [.int .i64 n, .int .i64 low, .int .i64 high] = ⟨true, .bool y_, [.any, .any, .any]⟩ := by
 refine mkF_E rfl ?_
 dsimp only [spec_l00In] at h
 obtain rfl := so_some h
 refine ⟨0, fun L hL => ?_⟩
 simp only [go_sem, ir68]


def ir39_v : List Nat := [0, 2]
def ir39 : AFn := ⟨1, 2, .seq (.region false [ VO 1 2 (.mov (.c (.bool false)))]) (.seq (.region false [ PM 3 0, PO 4 (.nilck (.s 0)), PO 5 (.fldAddr 0 (.s 0)), PO 6 (.load false 1 (.s 0)), PO 7 (.call 67 [(.s 0)]), PO 8 (.mov (.s 0)), ⟨.push, 9, (some ((.s 0), true)), .mov (.v 0)⟩, ⟨.push, 10, (some ((.s 1), true)), .nilck (.s 0)⟩, ⟨.push, 11, (some ((.s 2), true)), .fldAddr 1 (.s 0)⟩, ⟨.push, 12, (some ((.s 3), true)), .load false 1 (.s 0)⟩, ⟨.push, 13, (some ((.s 4), true)), .call 68 [(.s 0), (.c (.int .i64 (-2000))), (I6 2000)]⟩, PO 14 (.pick (.s 5) (.s 0) (.c (.bool false))), VS 1 2 0])
 (.ret)), [.t 1]⟩
noncomputable def t_30 : List (Nat × Ctr) := [(67, c_28), (68, c_29)]
theorem lk_30_67 : look t_30 67 = some c_28 := rfl
theorem lk_30_68 : look t_30 68 = some c_29 := rfl
noncomputable def c_30 : Ctr := mkF t_30 ir39 [.bor]
theorem s_30 : Sound Tryz.prog 39 c_30 := mkF_sound _ rfl (snd_cons s_28 (snd_cons s_29 snd_nil)) (by kernel_rfl : chkFn Tryz.prog 39 ir39 ir39_v = true)
theorem M_30 : c_30.modes = [.bor] := rfl
theorem Fl_30 : c_30.flat = true := rfl
attribute [go_sem] M_30 Fl_30
attribute [go_sem] lk_30_67 lk_30_68
theorem Fs_30 {x : Observer} {y_ : Bool} (h : spec_l05One x = some y_) : c_30.F [.ptr 2 [Observer_av x] 0 0] = ⟨true, .bool y_, [.any]⟩ := by
 refine mkF_E rfl ?_
 dsimp only [spec_l05One] at h
 obtain ⟨y_1, z1, h⟩ := bd_some h
 have fz1 := Fs_28 z1
 try simp only [go_sem] at fz1
 obtain ⟨z2, h⟩ := ck_some h
 rcases or_split z2 with ⟨gz2, z2⟩ | gz2
 ·try simp only [go_sem, n1, n2, n3, n4] at gz2
  all_goals
  obtain ⟨y_2, hz2⟩ := Option.isSome_iff_exists.1 z2
  have fz2 := Fs_29 hz2
  try simp only [go_sem, n1, n2, n3, n4, gz2] at hz2
  all_goals
  try simp only [go_sem, gz2] at fz2
  obtain rfl := so_some h
  refine ⟨0, fun L hL => ?_⟩
  simp only [go_sem, ir39, fz1, gz2, hz2, fz2]
 ·try simp only [go_sem, n1, n2, n3, n4] at gz2
  all_goals
  obtain rfl := so_some h
  refine ⟨0, fun L hL => ?_⟩
  simp only [go_sem, ir39, fz1, gz2]


def ir38_b0 : IR := .seq (.test false [ PM 4 2, PM 5 0, PO 6 (.len false (.s 0)), PO 7 (.bin false .lss (.s 2) (.s 0))] (.s 0) (.skip) (.exit 0)) (.seq (.block 1 (.anyo 23 [ SO 0 10 (.mov (.v 0)), SO 1 11 (.mov (.v 2)), SO 2 12 (.ixAddr 2 (.s 0) (.s 1)), SO 3 13 (.callp 39 [(.s 2)]), SO 4 14 (.un .not (.s 3)), SO 5 15 (.mov (.s 4)), ⟨.slot 6, 16, (some ((.s 5), false)), .mov (.v 2)⟩, ⟨.slot 7, 17, (some ((.s 5), false)), .bin false .gtr (.s 6) (I6 0)⟩, ⟨.slot 8, 18, (some ((.s 5), false)), .mov (.s 7)⟩, ⟨.slot 9, 19, (some ((.s 8), true)), .mov (.v 0)⟩, ⟨.slot 10, 20, (some ((.s 8), true)),
 .mov (.v 2)⟩, ⟨.slot 11, 21, (some ((.s 8), true)), .bin false .sub (.s 10) (I6 1)⟩, ⟨.slot 12, 22, (some ((.s 8), true)), .ixAddr 2 (.s 9) (.s 11)⟩, ⟨.slot 13, 23, (some ((.s 8), true)), .fldAddr 0 (.s 12)⟩, ⟨.slot 14, 24, (some ((.s 8), true)), .load false 1 (.s 13)⟩, ⟨.slot 15, 25, (some ((.s 8), true)), .mov (.v 0)⟩, ⟨.slot 16, 26, (some ((.s 8), true)), .mov (.v 2)⟩, ⟨.slot 17, 27, (some ((.s 8), true)), .ixAddr 2 (.s 15) (.s 16)⟩, ⟨.slot 18, 28, (some ((.s 8), true)), .fldAddr 0 (.s 17)⟩, ⟨.slot 19, 29, (some ((.s 8), true)), .load false 1 (.s 18)⟩, ⟨.slot 20, 30, (some ((.s 8), true)),
 .bin false .geq (.s 14) (.s 19)⟩, ⟨.slot 21, 31, (some ((.s 5), false)), .pick (.s 8) (.s 20) (.c (.bool false))⟩, SO 22 32 (.pick (.s 5) (.c (.bool true)) (.s 21))] [] (.cond (.s 22) (.seq (.region false [ VO 1 2 (.mov (.c (.bool false)))]) (.ret)) (.skip)))) (.region false [ PM 8 2, PO 9 (.bin false .add (.s 0) (I6 1)), VS 2 3 0]))
def ir38_k0 : List Bool := [true, false, true]
def ir38_o0 : List Bool := [true, false, false]
def ir38_r0 : List Bool := [false, true, false]
def ir38_v : List Nat := [0, 2, 3]
def ir38 : AFn := ⟨1, 3, .seq (.region false [ VO 1 2 (.mov (.c (.bool false)))]) (.seq (.seq (.region false [ VO 2 3 (.mov (I6 0))]) (.block 0 (.loop ir38_k0 ir38_o0 ir38_r0 ir38_b0))) (.seq (.region false [ PM 33 0, PO 34 (.len false (.s 0)), PO 35 (.bin false .leq (.s 0) (I6 40)), VS 1 2 0]) (.ret))), [.t 1]⟩
noncomputable def t_31 : List (Nat × Ctr) := [(39, c_30)]
theorem lk_31_39 : look t_31 39 = some c_30 := rfl
noncomputable def c_31 : Ctr := mkF t_31 ir38 [.bor]
theorem s_31 : Sound Tryz.prog 38 c_31 := mkF_sound _ rfl (snd_cons s_30 snd_nil) (by kernel_rfl : chkFn Tryz.prog 38 ir38 ir38_v = true)
theorem M_31 : c_31.modes = [.bor] := rfl
theorem Fl_31 : c_31.flat = true := rfl
attribute [go_sem] M_31 Fl_31
attribute [go_sem] lk_31_39
def E_31_l1 (list : List Observer) : Int → St
 | i => ⟨[.sl 2 (List.map Observer_av list), .any, .int .i64 i], [], [], true⟩
def R_31_l1 (list : List Observer) : (Unit ⊕ Bool) → Res
 | .inl y => (.exit 0, ⟨[.sl 2 (List.map Observer_av list), .any, .any], [], [], true⟩)
 | .inr y => (.ret, ⟨[.any, .bool y, .any], [], [], true⟩)
theorem spec_l05Ok_l1_ex {list : List Observer} {sgm_ : Int} {rho_ : Unit ⊕ Bool} (h : whileE (spec_l05Ok_l1 list) sgm_ = some rho_) : ∃ L0, ∀ L, L0 ≤ L → iter (exec (look t_31) L ir38_b0) ir38_k0 ir38_o0 ir38_r0 L (E_31_l1 list sgm_) = R_31_l1 list rho_ := by
 refine loop_ex (E := E_31_l1 list) (R := R_31_l1 list) (fun y => by first | (intro c; cases c) | (rcases y with y | y <;> (intro c; cases c)) | (rcases y with y | y | y <;> (intro c; cases c))) ?_ h
 clear h
 intro i o_ h
 dsimp only [spec_l05Ok_l1] at h
 rcases it_some h with ⟨z1, h⟩ | ⟨z1, h⟩
 ·try simp only [go_sem, n1, n2, n3, n4] at z1
  all_goals
  obtain ⟨z2, h⟩ := ck_some h
  have lz2 := ix_lt z2
  have xz2 := getD_mapD Observer_av list lz2
  try simp only [go_sem] at lz2
  try simp only [go_sem] at xz2
  try simp only [go_sem, n1, n2, n3, n4, z1] at z2
  all_goals
  obtain ⟨y_3, z3, h⟩ := bd_some h
  have fz3 := Fs_30 z3
  try simp only [go_sem, z1, z2] at fz3
  obtain ⟨z4, h⟩ := ck_some h
  rcases or_split z4 with ⟨gz4, z4⟩ | gz4
  ·try simp only [go_sem, n1, n2, n3, n4, z1, z2] at gz4
   all_goals
   have lz4 := ix_lt z4
   have xz4 := getD_mapD Observer_av list lz4
   try simp only [go_sem] at lz4
   try simp only [go_sem] at xz4
   try simp only [go_sem, n1, n2, n3, n4, z1, z2, gz4] at z4
   all_goals
   rcases it_some h with ⟨z5, h⟩ | ⟨z5, h⟩
   ·try simp only [go_sem, n1, n2, n3, n4, z1, z2, gz4, z4] at z5
    all_goals
    obtain rfl := so_some h
    refine ⟨0, fun L hL => ?_⟩
    simp only [go_sem, ir38, E_31_l1, R_31_l1, ir38_b0, ir38_k0, ir38_o0, ir38_r0, z1, z2, lz2, xz2, fz3, gz4, z4, lz4, xz4, z5]
   ·try simp only [go_sem, n1, n2, n3, n4, z1, z2, gz4, z4] at z5
    all_goals
    obtain rfl := so_some h
    refine ⟨0, fun L hL => ?_⟩
    simp only [go_sem, ir38, E_31_l1, R_31_l1, ir38_b0, ir38_k0, ir38_o0, ir38_r0, z1, z2, lz2, xz2, fz3, gz4, z4, lz4, xz4, z5]
  ·rcases and_f gz4 with gz4a | ⟨gz4a, gz4b⟩
   ·have gz4an := no_f gz4a
    have gz4ann := no_t gz4an
    try simp only [go_sem, n1, n2, n3, n4, z1, z2] at gz4ann
    all_goals
    rcases it_some h with ⟨z5, h⟩ | ⟨z5, h⟩
    ·try simp only [go_sem, n1, n2, n3, n4, z1, z2, gz4ann] at z5
     all_goals
     obtain rfl := so_some h
     refine ⟨0, fun L hL => ?_⟩
     simp only [go_sem, ir38, E_31_l1, R_31_l1, ir38_b0, ir38_k0, ir38_o0, ir38_r0, z1, z2, lz2, xz2, fz3, gz4ann, z5]
    ·try simp only [go_sem, n1, n2, n3, n4, z1, z2, gz4ann] at z5
     all_goals
     (simp_all)
   ·have gz4an := no_t gz4a
    have gz4ann := no_f gz4an
    try simp only [go_sem, n1, n2, n3, n4, z1, z2] at gz4ann
    all_goals
    try simp only [go_sem, n1, n2, n3, n4, z1, z2, gz4ann] at gz4b
    all_goals
    rcases it_some h with ⟨z5, h⟩ | ⟨z5, h⟩
    ·try simp only [go_sem, n1, n2, n3, n4, z1, z2, gz4ann, gz4b] at z5
     all_goals
     (simp_all)
    ·try simp only [go_sem, n1, n2, n3, n4, z1, z2, gz4ann, gz4b] at z5
     all_goals
     obtain rfl := so_some h
     refine ⟨0, fun L hL => ?_⟩
     simp only [go_sem, ir38, E_31_l1, R_31_l1, ir38_b0, ir38_k0, ir38_o0, ir38_r0, z1, z2, lz2, xz2, fz3, gz4ann, gz4b, z5]
 ·try simp only [go_sem, n1, n2, n3, n4] at z1
  all_goals
  obtain rfl := so_some h
  refine ⟨0, fun L hL => ?_⟩
  simp only [go_sem, ir38, E_31_l1, R_31_l1, ir38_b0, ir38_k0, ir38_o0, ir38_r0, z1]

theorem Fs_31 {list : List Observer} {y_ : Bool} (h : spec_l05Ok list = some y_) : c_31.F [.sl 2 (List.map Observer_av list)] = ⟨true, .bool y_, [.any]⟩ := by
 refine mkF_E rfl ?_
 dsimp only [spec_l05Ok] at h
 obtain ⟨y_6, z6, h⟩ := bd_some h
 obtain ⟨Lz6, ez6⟩ := spec_l05Ok_l1_ex z6
 rcases y_6 with y_6a | y_6b
 ·dsimp only at h
  obtain rfl := so_some h
  refine ⟨Lz6, fun L hL => ?_⟩
  have ez6 := ez6 L (by omega)
  try simp only [go_sem, E_31_l1, R_31_l1, ir38_k0, ir38_o0, ir38_r0] at ez6
  simp only [go_sem, ir38, E_31_l1, R_31_l1, ir38_k0, ir38_o0, ir38_r0, ez6]
 ·dsimp only at h
  obtain rfl := so_some h
  refine ⟨Lz6, fun L hL => ?_⟩
  have ez6 := ez6 L (by omega)
  try simp only [go_sem, E_31_l1, R_31_l1, ir38_k0, ir38_o0, ir38_r0] at ez6
  simp only [go_sem, ir38, E_31_l1, R_31_l1, ir38_k0, ir38_o0, ir38_r0, ez6]


def ir40_b0 : IR := .seq (.test false [ PM 6 3, PM 7 0, PO 8 (.len false (.s 0)), PO 9 (.bin false .lss (.s 2) (.s 0))] (.s 0) (.skip) (.exit 0)) (.seq (.block 1 (.test false [ PM 12 0, PM 13 3, PO 14 (.ixAddr 2 (.s 1) (.s 0)), PO 15 (.fldAddr 0 (.s 0)), PO 16 (.load false 1 (.s 0)), PM 17 1, PO 18 (.bin false .eql (.s 1) (.s 0))] (.s 0) (.seq (.region false [ PM 19 3, VS 2 4 0]) (.ret)) (.skip))) (.region false [ PM 10 3, PO 11 (.bin false .add (.s 0) (I6 1)), VS 3 5 0]))
def ir40_k0 : List Bool := [true, true, false, true]
def ir40_o0 : List Bool := [false, false, false, false]
def ir40_r0 : List Bool := [false, false, true, false]
def ir40_v : List Nat := [0, 1, 4, 5]
def ir40 : AFn := ⟨2, 4, .seq (.region false [ VO 2 4 (.mov (I6 0))]) (.seq (.seq (.region false [ VO 3 5 (.mov (I6 0))]) (.block 0 (.loop ir40_k0 ir40_o0 ir40_r0 ir40_b0))) (.seq (.region false [ VO 2 4 (.mov (.c (.int .i64 (-1))))]) (.ret))), [.t 2]⟩
noncomputable def t_32 : List (Nat × Ctr) := []
noncomputable def c_32 : Ctr := mkF t_32 ir40 [.bor, .bor]
theorem s_32 : Sound Tryz.prog 40 c_32 := mkF_sound _ rfl snd_nil (by kernel_rfl : chkFn Tryz.prog 40 ir40 ir40_v = true)
theorem M_32 : c_32.modes = [.bor, .bor] := rfl
theorem Fl_32 : c_32.flat = true := rfl
attribute [go_sem] M_32 Fl_32
def E_32_l1 (list : List Observer) (name : List UInt8) : Int → St
 | i => ⟨[.sl 2 (List.map Observer_av list), .str name, .any, .int .i64 i], [], [], true⟩
def R_32_l1 (list : List Observer) (name : List UInt8) : (Unit ⊕ Int) → Res
 | .inl y => (.exit 0, ⟨[.any, .any, .any, .any], [], [], true⟩)
 | .inr y => (.ret, ⟨[.any, .any, .int .i64 y, .any], [], [], true⟩)
theorem spec_l05Find_l1_ex {list : List Observer} {name : List UInt8} {sgm_ : Int} {rho_ : Unit ⊕ Int} (h : whileE (spec_l05Find_l1 list name) sgm_ = some rho_) : ∃ L0, ∀ L, L0 ≤ L → iter (exec (look t_32) L ir40_b0) ir40_k0 ir40_o0 ir40_r0 L (E_32_l1 list name sgm_) = R_32_l1 list name rho_ := by
 refine loop_ex (E := E_32_l1 list name) (R := R_32_l1 list name) (fun y => by first | (intro c; cases c) | (rcases y with y | y <;> (intro c; cases c)) | (rcases y with y | y | y <;> (intro c; cases c))) ?_ h
 clear h
 intro i o_ h
 dsimp only [spec_l05Find_l1] at h
 rcases it_some h with ⟨z1, h⟩ | ⟨z1, h⟩
 ·try simp only [go_sem, n1, n2, n3, n4] at z1
  all_goals
  obtain ⟨z2, h⟩ := ck_some h
  have lz2 := ix_lt z2
  have xz2 := getD_mapD Observer_av list lz2
  try simp only [go_sem] at lz2
  try simp only [go_sem] at xz2
  try simp only [go_sem, n1, n2, n3, n4, z1] at z2
  all_goals
  rcases it_some h with ⟨z3, h⟩ | ⟨z3, h⟩
  ·try simp only [go_sem, n1, n2, n3, n4, z1, z2] at z3
   all_goals
   obtain rfl := so_some h
   refine ⟨0, fun L hL => ?_⟩
   simp only [go_sem, ir40, E_32_l1, R_32_l1, ir40_b0, ir40_k0, ir40_o0, ir40_r0, z1, z2, lz2, xz2, z3]
  ·try simp only [go_sem, n1, n2, n3, n4, z1, z2] at z3
   all_goals
   obtain rfl := so_some h
   refine ⟨0, fun L hL => ?_⟩
   simp only [go_sem, ir40, E_32_l1, R_32_l1, ir40_b0, ir40_k0, ir40_o0, ir40_r0, z1, z2, lz2, xz2, z3]
 ·try simp only [go_sem, n1, n2, n3, n4] at z1
  all_goals
  obtain rfl := so_some h
  refine ⟨0, fun L hL => ?_⟩
  simp only [go_sem, ir40, E_32_l1, R_32_l1, ir40_b0, ir40_k0, ir40_o0, ir40_r0, z1]

theorem Fs_32 {list : List Observer} {name : List UInt8} {y_ : Int} (h : spec_l05Find list name = some y_) : c_32.F [.sl 2 (List.map Observer_av list), .str name] = ⟨true, .int .i64 y_, [.any, .any]⟩ := by
 refine mkF_E rfl ?_
 dsimp only [spec_l05Find] at h
 obtain ⟨y_4, z4, h⟩ := bd_some h
 obtain ⟨Lz4, ez4⟩ := spec_l05Find_l1_ex z4
 rcases y_4 with y_4a | y_4b
 ·dsimp only at h
  obtain rfl := so_some h
  refine ⟨Lz4, fun L hL => ?_⟩
  have ez4 := ez4 L (by omega)
  try simp only [go_sem, E_32_l1, R_32_l1, ir40_k0, ir40_o0, ir40_r0] at ez4
  simp only [go_sem, ir40, E_32_l1, R_32_l1, ir40_k0, ir40_o0, ir40_r0, ez4]
 ·dsimp only at h
  obtain rfl := so_some h
  refine ⟨Lz4, fun L hL => ?_⟩
  have ez4 := ez4 L (by omega)
  try simp only [go_sem, E_32_l1, R_32_l1, ir40_k0, ir40_o0, ir40_r0] at ez4
  simp only [go_sem, ir40, E_32_l1, R_32_l1, ir40_k0, ir40_o0, ir40_r0, ez4]


def ir7_b0 : IR := .seq (.anyo 13 [ SO 0 23 (.mov (.v 5)), SO 1 24 (.bin false .gtr (.s 0) (I6 0)), SO 2 25 (.mov (.s 1)), ⟨.slot 3, 26, (some ((.s 2), true)), .mov (.v 0)⟩, ⟨.slot 4, 27, (some ((.s 2), true)), .mov (.v 5)⟩, ⟨.slot 5, 28, (some ((.s 2), true)), .bin false .sub (.s 4) (I6 1)⟩, ⟨.slot 6, 29, (some ((.s 2), true)), .ixAddr 2 (.s 3) (.s 5)⟩, ⟨.slot 7, 30, (some ((.s 2), true)), .fldAddr 0 (.s 6)⟩, ⟨.slot 8, 31, (some ((.s 2), true)), .load false 1 (.s 7)⟩, ⟨.slot 9, 32, (some ((.s 2), true)), .fldAddr 0 (.v 2)⟩, ⟨.slot 10, 33, (some ((.s 2), true)), .load false 1 (.s 9)⟩, ⟨.slot
 11, 34, (some ((.s 2), true)), .bin false .gtr (.s 8) (.s 10)⟩, SO 12 35 (.pick (.s 2) (.s 11) (.c (.bool false)))] [] (.cond (.s 12) (.skip) (.exit 0))) (.block 1 (.region false [ PM 36 5, PO 37 (.bin false .sub (.s 0) (I6 1)), VS 5 6 0]))
def ir7_k0 : List Bool := [true, false, true, false, false, true, false]
def ir7_o0 : List Bool := [true, false, true, false, false, true, false]
def ir7_r0 : List Bool := [false, false, false, true, true, false, false]
def ir7_v : List Nat := [0, 1, 3, 4, 5, 6, 7]
def ir7 : AFn := ⟨2, 7, .seq (.region false [ VO 2 3 (.box (.v 1)), VO 3 4 (.newnil 2), VO 4 5 (.mov (I6 0))]) (.seq (.test false [ PM 8 0, PO 9 (.call 38 [(.s 0)]), PO 10 (.un .not (.s 0))] (.s 0) (.seq (.region false [ VO 3 4 (.newnil 2), VO 4 5 (.mov (I6 1))]) (.ret)) (.skip)) (.seq (.test false [ PO 11 (.call 39 [(.v 2)]), PO 12 (.un .not (.s 0))] (.s 0) (.seq (.region false [ VO 3 4 (.newnil 2), VO 4 5 (.mov (I6 2))]) (.ret)) (.skip)) (.seq (.test false [ PM 13 0, PO 14 (.fldAddr 0 (.v 2)), PO 15 (.load false 1 (.s 0)), PO 16 (.call 40 [(.s 2), (.s 0)]), PO 17 (.bin false .geq (.s 0) (I6
 0))] (.s 0) (.seq (.region false [ VO 3 4 (.newnil 2), VO 4 5 (.mov (I6 4))]) (.ret)) (.skip)) (.seq (.test false [ PM 18 0, PO 19 (.len false (.s 0)), PO 20 (.bin false .geq (.s 0) (I6 40))] (.s 0) (.seq (.region false [ VO 3 4 (.newnil 2), VO 4 5 (.mov (I6 5))]) (.ret)) (.skip)) (.seq (.region false [ PM 21 0, PO 22 (.len false (.s 0)), VS 5 6 0]) (.seq (.block 0 (.loop ir7_k0 ir7_o0 ir7_r0 ir7_b0)) (.seq (.region false [ PO 38 (.mkSl 2 (.agg [.str [], .int .i64 (0)]) 0 []), PM 39 0, PM 40 5, PO 41 (.slice 2 (.s 1) none (some (.s 0))), PO 42 (.app 2 24 (.agg [.str [], .int .i64 (0)]) (.s 3)
 (.s 0)), VS 6 7 0]) (.seq (.region false [ PM 43 6, PO 44 (.load true 2 (.v 2)), PO 45 (.mkSl 2 (.agg [.str [], .int .i64 (0)]) 1 [(0, (.s 0))]), PO 46 (.app 2 24 (.agg [.str [], .int .i64 (0)]) (.s 2) (.s 0)), VS 6 7 0]) (.seq (.region false [ PM 47 6, PM 48 0, PM 49 5, PO 50 (.slice 2 (.s 1) (some (.s 0)) none), PO 51 (.app 2 24 (.agg [.str [], .int .i64 (0)]) (.s 3) (.s 0)), VS 3 4 0, VO 4 5 (.mov (I6 0))]) (.ret)))))))))), [.t 3, .t 4]⟩
noncomputable def t_33 : List (Nat × Ctr) := [(38, c_31), (39, c_30), (40, c_32)]
theorem lk_33_38 : look t_33 38 = some c_31 := rfl
theorem lk_33_39 : look t_33 39 = some c_30 := rfl
theorem lk_33_40 : look t_33 40 = some c_32 := rfl
noncomputable def c_33 : Ctr := mkF t_33 ir7 [.bor, .bor]
theorem s_33 : Sound Tryz.prog 7 c_33 := mkF_sound _ rfl (snd_cons s_31 (snd_cons s_30 (snd_cons s_32 snd_nil))) (by kernel_rfl : chkFn Tryz.prog 7 ir7 ir7_v = true)
theorem M_33 : c_33.modes = [.bor, .bor] := rfl
theorem Fl_33 : c_33.flat = true := rfl
attribute [go_sem] M_33 Fl_33
attribute [go_sem] lk_33_38 lk_33_39 lk_33_40
def E_33_l1 (list : List Observer) (x : Observer) : Int → St
 | k => ⟨[.sl 2 (List.map Observer_av list), .any, .ref 3200000 0 0, .any, .any, .int .i64 k, .any], [], [(3200000, ⟨2, [Observer_av x]⟩)], true⟩
def R_33_l1 (list : List Observer) (x : Observer) (y : Int) : Res := (.exit 0, ⟨[.sl 2 (List.map Observer_av list), .any, .ref 3200000 0 0, .any, .any, .int .i64 y, .any], [], [(3200000, ⟨2, [Observer_av x]⟩)], true⟩)
theorem spec_AddObserver_l1_ex {list : List Observer} {x : Observer} {sgm_ : Int} {rho_ : Int} (h : whileE (spec_AddObserver_l1 list x) sgm_ = some rho_) : ∃ L0, ∀ L, L0 ≤ L → iter (exec (look t_33) L ir7_b0) ir7_k0 ir7_o0 ir7_r0 L (E_33_l1 list x sgm_) = R_33_l1 list x rho_ := by
 refine loop_ex (E := E_33_l1 list x) (R := R_33_l1 list x) (fun y => by first | (intro c; cases c) | (rcases y with y | y <;> (intro c; cases c)) | (rcases y with y | y | y <;> (intro c; cases c))) ?_ h
 clear h
 intro k o_ h
 dsimp only [spec_AddObserver_l1] at h
 obtain ⟨z8, h⟩ := ck_some h
 rcases or_split z8 with ⟨gz8, z8⟩ | gz8
 ·try simp only [go_sem, n1, n2, n3, n4] at gz8
  all_goals
  have lz8 := ix_lt z8
  have xz8 := getD_mapD Observer_av list lz8
  try simp only [go_sem] at lz8
  try simp only [go_sem] at xz8
  try simp only [go_sem, n1, n2, n3, n4, gz8] at z8
  all_goals
  rcases it_some h with ⟨z9, h⟩ | ⟨z9, h⟩
  ·try simp only [go_sem, n1, n2, n3, n4, gz8, z8] at z9
   all_goals
   obtain rfl := so_some h
   refine ⟨0, fun L hL => ?_⟩
   simp only [go_sem, ir7, E_33_l1, R_33_l1, ir7_b0, ir7_k0, ir7_o0, ir7_r0, gz8, z8, lz8, xz8, z9]
  ·try simp only [go_sem, n1, n2, n3, n4, gz8, z8] at z9
   all_goals
   obtain rfl := so_some h
   refine ⟨0, fun L hL => ?_⟩
   simp only [go_sem, ir7, E_33_l1, R_33_l1, ir7_b0, ir7_k0, ir7_o0, ir7_r0, gz8, z8, lz8, xz8, z9]
 ·try simp only [go_sem, n1, n2, n3, n4] at gz8
  all_goals
  rcases it_some h with ⟨z9, h⟩ | ⟨z9, h⟩
  ·try simp only [go_sem, n1, n2, n3, n4, gz8] at z9
   all_goals
   (simp_all)
  ·try simp only [go_sem, n1, n2, n3, n4, gz8] at z9
   all_goals
   obtain rfl := so_some h
   refine ⟨0, fun L hL => ?_⟩
   simp only [go_sem, ir7, E_33_l1, R_33_l1, ir7_b0, ir7_k0, ir7_o0, ir7_r0, gz8, z9]

theorem Fs_33 {list : List Observer} {x : Observer} {y_ : (List Observer) × Int} (h : spec_AddObserver list x = some y_) : c_33.F [.sl 2 (List.map Observer_av list), Observer_av x] = ⟨true, .tup [.fresh 2 (List.map Observer_av y_.1), .int .i64 y_.2], [.any, .any]⟩ := by
 refine mkF_E (by simp only [flatA, flatB, flat1, List.all_cons, List.all_nil, Bool.and_self, flatE_map (f := Observer_av) (fun _ => rfl)]) ?_
 dsimp only [spec_AddObserver] at h
 obtain ⟨y_1, z1, h⟩ := bd_some h
 have fz1 := Fs_31 z1
 try simp only [go_sem] at fz1
 rcases it_some h with ⟨z2, h⟩ | ⟨z2, h⟩
 ·try simp only [go_sem, n1, n2, n3, n4] at z2
  all_goals
  obtain rfl := so_some h
  refine ⟨0, fun L hL => ?_⟩
  simp only [go_sem, ir7, E_33_l1, R_33_l1, ir7_k0, ir7_o0, ir7_r0, fz1, z2]
 ·try simp only [go_sem, n1, n2, n3, n4] at z2
  all_goals
  obtain ⟨y_3, z3, h⟩ := bd_some h
  have fz3 := Fs_30 z3
  try simp only [go_sem, z2] at fz3
  rcases it_some h with ⟨z4, h⟩ | ⟨z4, h⟩
  ·try simp only [go_sem, n1, n2, n3, n4, z2] at z4
   all_goals
   obtain rfl := so_some h
   refine ⟨0, fun L hL => ?_⟩
   simp only [go_sem, ir7, E_33_l1, R_33_l1, ir7_k0, ir7_o0, ir7_r0, fz1, z2, fz3, z4]
  ·try simp only [go_sem, n1, n2, n3, n4, z2] at z4
   all_goals
   obtain ⟨y_5, z5, h⟩ := bd_some h
   have fz5 := Fs_32 z5
   try simp only [go_sem, z2, z4] at fz5
   rcases it_some h with ⟨z6, h⟩ | ⟨z6, h⟩
   ·try simp only [go_sem, n1, n2, n3, n4, z2, z4] at z6
    all_goals
    obtain rfl := so_some h
    refine ⟨0, fun L hL => ?_⟩
    simp only [go_sem, ir7, E_33_l1, R_33_l1, ir7_k0, ir7_o0, ir7_r0, fz1, z2, fz3, z4, fz5, z6]
   ·try simp only [go_sem, n1, n2, n3, n4, z2, z4] at z6
    all_goals
    rcases it_some h with ⟨z7, h⟩ | ⟨z7, h⟩
    ·try simp only [go_sem, n1, n2, n3, n4, z2, z4, z6] at z7
     all_goals
     obtain rfl := so_some h
     refine ⟨0, fun L hL => ?_⟩
     simp only [go_sem, ir7, E_33_l1, R_33_l1, ir7_k0, ir7_o0, ir7_r0, fz1, z2, fz3, z4, fz5, z6, z7]
    ·try simp only [go_sem, n1, n2, n3, n4, z2, z4, z6] at z7
     all_goals
     obtain ⟨y_10, z10, h⟩ := bd_some h
     obtain ⟨Lz10, ez10⟩ := spec_AddObserver_l1_ex z10
     obtain ⟨z11, h⟩ := ck_some h
     try simp only [go_sem, n1, n2, n3, n4, z2, z4, z6, z7] at z11
     all_goals
     obtain ⟨z12, h⟩ := ck_some h
     try simp only [go_sem, n1, n2, n3, n4, z2, z4, z6, z7, z11] at z12
     all_goals
     obtain ⟨z13, h⟩ := ck_some h
     try simp only [go_sem, n1, n2, n3, n4, z2, z4, z6, z7, z11, z12] at z13
     all_goals
     obtain ⟨z14, h⟩ := ck_some h
     try simp only [go_sem, n1, n2, n3, n4, z2, z4, z6, z7, z11, z12, z13] at z14
     all_goals
     obtain ⟨z15, h⟩ := ck_some h
     try simp only [go_sem, n1, n2, n3, n4, z2, z4, z6, z7, z11, z12, z13, z14] at z15
     all_goals
     obtain rfl := so_some h
     refine ⟨Lz10, fun L hL => ?_⟩
     have ez10 := ez10 L (by omega)
     try simp only [go_sem, E_33_l1, R_33_l1, ir7_k0, ir7_o0, ir7_r0, z2, z4, z6, z7, z11, z12, z13, z14, z15] at ez10
     simp only [go_sem, ir7, E_33_l1, R_33_l1, ir7_k0, ir7_o0, ir7_r0, fz1, z2, fz3, z4, fz5, z6, z7, z11, z12, z13, z14, z15, ez10]


def ir8_v : List Nat := [0, 2, 3, 4, 5]
def ir8 : AFn := ⟨1, 5, .seq (.region false [ VO 1 2 (.newnil 2), VO 2 3 (.mov (.c (.str [])))]) (.seq (.region false [ PM 6 0, PO 7 (.call 28 [(.s 0)]), VS 3 4 0]) (.seq (.region false [ PM 8 3, PO 9 (.call 29 [(.s 0)]), VS 4 5 0]) (.seq (.region false [ PM 10 4, PM 11 3, PO 12 (.call 30 [(.s 0)]), VS 1 2 2, VS 2 3 0]) (.ret)))), [.t 1, .t 2]⟩
noncomputable def t_34 : List (Nat × Ctr) := [(28, c_1), (29, c_9), (30, c_10)]
theorem lk_34_28 : look t_34 28 = some c_1 := rfl
theorem lk_34_29 : look t_34 29 = some c_9 := rfl
theorem lk_34_30 : look t_34 30 = some c_10 := rfl
noncomputable def c_34 : Ctr := mkF t_34 ir8 [.bor]
theorem s_34 : Sound Tryz.prog 8 c_34 := mkF_sound _ rfl (snd_cons s_1 (snd_cons s_9 (snd_cons s_10 snd_nil))) (by kernel_rfl : chkFn Tryz.prog 8 ir8 ir8_v = true)
theorem M_34 : c_34.modes = [.bor] := rfl
theorem Fl_34 : c_34.flat = true := rfl
attribute [go_sem] M_34 Fl_34
attribute [go_sem] lk_34_28 lk_34_29 lk_34_30
theorem Fs_34 {code : List UInt8} {y_ : (List Observer) × (List UInt8)} (h : spec_DrawObserverNamed code = some y_) : c_34.F [.sl 1 (List.map byteAV code)] = ⟨true, .tup [.fresh 2 (List.map Observer_av y_.1), .str y_.2], [.any]⟩ := by
 refine mkF_E (by simp only [flatA, flatB, flat1, List.all_cons, List.all_nil, Bool.and_self, flatE_map (f := Observer_av) (fun _ => rfl)]) ?_
 dsimp only [spec_DrawObserverNamed] at h
 obtain ⟨y_1, z1, h⟩ := bd_some h
 have fz1 := Fs_1 z1
 try simp only [go_sem] at fz1
 obtain ⟨y_2, z2, h⟩ := bd_some h
 have fz2 := Fs_9 z2
 try simp only [go_sem] at fz2
 obtain ⟨y_3, z3, h⟩ := bd_some h
 have fz3 := Fs_10 z3
 try simp only [go_sem] at fz3
 obtain rfl := so_some h
 refine ⟨0, fun L hL => ?_⟩
 simp only [go_sem, ir8, fz1, fz2, fz3]


def ir9_v : List Nat := [0, 1, 4, 5]
def ir9 : AFn := ⟨2, 4, .seq (.region false [ VO 2 4 (.mov (I6 0)), VO 3 5 (.mov (I6 0))]) (.seq (.test false [ PM 6 0, PO 7 (.call 26 [(.s 0)]), PO 8 (.un .not (.s 0))] (.s 0) (.seq (.region false [ VO 2 4 (.mov (I6 0)), VO 3 5 (.mov (I6 1))]) (.ret)) (.skip)) (.seq (.region false [ PM 9 0, PM 10 1, PO 11 (.call 35 [(.s 1), (.s 0)]), PO 12 (.ext (.s 0) 0), PO 13 (.ext (.s 1) 1), VS 2 4 1, VS 3 5 0]) (.ret))), [.t 2, .t 3]⟩
noncomputable def t_35 : List (Nat × Ctr) := [(26, c_17), (35, c_21)]
theorem lk_35_26 : look t_35 26 = some c_17 := rfl
theorem lk_35_35 : look t_35 35 = some c_21 := rfl
noncomputable def c_35 : Ctr := mkF t_35 ir9 [.bor, .bor]
theorem s_35 : Sound Tryz.prog 9 c_35 := mkF_sound _ rfl (snd_cons s_17 (snd_cons s_21 snd_nil)) (by kernel_rfl : chkFn Tryz.prog 9 ir9 ir9_v = true)
theorem M_35 : c_35.modes = [.bor, .bor] := rfl
theorem Fl_35 : c_35.flat = true := rfl
attribute [go_sem] M_35 Fl_35
attribute [go_sem] lk_35_26 lk_35_35
theorem Fs_35 {list : List Observer} {name : List UInt8} {y_ : Int × Int} (h : impl_ObserverNamed list name = some y_) : c_35.F [.sl 2 (List.map Observer_av list), .str name] = ⟨true, .tup [.int .i64 y_.1, .int .i64 y_.2], [.any, .any]⟩ := by
 refine mkF_E rfl ?_
 dsimp only [impl_ObserverNamed] at h
 obtain ⟨y_1, z1, h⟩ := bd_some h
 have fz1 := Fs_17 z1
 try simp only [go_sem] at fz1
 rcases it_some h with ⟨z2, h⟩ | ⟨z2, h⟩
 ·try simp only [go_sem, n1, n2, n3, n4] at z2
  all_goals
  obtain rfl := so_some h
  refine ⟨0, fun L hL => ?_⟩
  simp only [go_sem, ir9, fz1, z2]
 ·try simp only [go_sem, n1, n2, n3, n4] at z2
  all_goals
  obtain ⟨y_3, z3, h⟩ := bd_some h
  have fz3 := Fs_21 z3
  try simp only [go_sem, z2] at fz3
  obtain rfl := so_some h
  refine ⟨0, fun L hL => ?_⟩
  simp only [go_sem, ir9, fz1, z2, fz3]


def ir10_v : List Nat := [0, 1, 4, 5, 6]
def ir10 : AFn := ⟨2, 5, .seq (.region false [ VO 2 4 (.mov (I6 0)), VO 3 5 (.mov (I6 0))]) (.seq (.test false [ PM 7 0, PO 8 (.call 38 [(.s 0)]), PO 9 (.un .not (.s 0))] (.s 0) (.seq (.region false [ VO 2 4 (.mov (I6 0)), VO 3 5 (.mov (I6 1))]) (.ret)) (.skip)) (.seq (.region false [ PM 10 0, PM 11 1, PO 12 (.call 40 [(.s 1), (.s 0)]), VS 4 6 0]) (.seq (.test false [ PM 13 4, PO 14 (.bin false .lss (.s 0) (I6 0))] (.s 0) (.seq (.region false [ VO 2 4 (.mov (I6 0)), VO 3 5 (.mov (I6 3))]) (.ret)) (.skip)) (.seq (.region false [ PM 15 4, VS 2 4 0, VO 3 5 (.mov (I6 0))]) (.ret))))), [.t 2, .t 3]⟩
noncomputable def t_36 : List (Nat × Ctr) := [(38, c_31), (40, c_32)]
theorem lk_36_38 : look t_36 38 = some c_31 := rfl
theorem lk_36_40 : look t_36 40 = some c_32 := rfl
noncomputable def c_36 : Ctr := mkF t_36 ir10 [.bor, .bor]
theorem s_36 : Sound Tryz.prog 10 c_36 := mkF_sound _ rfl (snd_cons s_31 (snd_cons s_32 snd_nil)) (by kernel_rfl : chkFn Tryz.prog 10 ir10 ir10_v = true)
theorem M_36 : c_36.modes = [.bor, .bor] := rfl
theorem Fl_36 : c_36.flat = true := rfl
attribute [go_sem] M_36 Fl_36
attribute [go_sem] lk_36_38 lk_36_40
theorem Fs_36 {list : List Observer} {name : List UInt8} {y_ : Int × Int} (h : spec_ObserverNamed list name = some y_) : c_36.F [.sl 2 (List.map Observer_av list), .str name] = ⟨true, .tup [.int .i64 y_.1, .int .i64 y_.2], [.any, .any]⟩ := by
 refine mkF_E rfl ?_
 dsimp only [spec_ObserverNamed] at h
 obtain ⟨y_1, z1, h⟩ := bd_some h
 have fz1 := Fs_31 z1
 try simp only [go_sem] at fz1
 rcases it_some h with ⟨z2, h⟩ | ⟨z2, h⟩
 ·try simp only [go_sem, n1, n2, n3, n4] at z2
  all_goals
  obtain rfl := so_some h
  refine ⟨0, fun L hL => ?_⟩
  simp only [go_sem, ir10, fz1, z2]
 ·try simp only [go_sem, n1, n2, n3, n4] at z2
  all_goals
  obtain ⟨y_3, z3, h⟩ := bd_some h
  have fz3 := Fs_32 z3
  try simp only [go_sem, z2] at fz3
  rcases it_some h with ⟨z4, h⟩ | ⟨z4, h⟩
  ·try simp only [go_sem, n1, n2, n3, n4, z2] at z4
   all_goals
   obtain rfl := so_some h
   refine ⟨0, fun L hL => ?_⟩
   simp only [go_sem, ir10, fz1, z2, fz3, z4]
  ·try simp only [go_sem, n1, n2, n3, n4, z2] at z4
   all_goals
   obtain rfl := so_some h
   refine ⟨0, fun L hL => ?_⟩
   simp only [go_sem, ir10, fz1, z2, fz3, z4]


def ir41_v : List Nat := [0, 2]
def ir41 : AFn := ⟨1, 2, .seq (.region false [ VO 1 2 (.mov (I6 0))]) (.seq (.test false [ PM 3 0, PO 4 (.call 32 [(.s 0), (I6 8)])] (.s 0) (.seq (.region false [ PM 5 0, PO 6 (.call 31 [(.s 0), (I6 22001)]), PO 7 (.bin false .add (.s 0) (.c (.int .i64 (-2000)))), VS 1 2 0]) (.ret)) (.skip)) (.seq (.region false [ PM 8 0, PO 9 (.call 31 [(.s 0), (I6 60)]), PO 10 (.bin false .mul (I6 50) (.s 0)), PO 11 (.bin false .add (I6 8000) (.s 0)), VS 1 2 0]) (.ret))), [.t 1]⟩
noncomputable def t_37 : List (Nat × Ctr) := [(32, c_5), (31, c_3)]
theorem lk_37_32 : look t_37 32 = some c_5 := rfl
theorem lk_37_31 : look t_37 31 = some c_3 := rfl
noncomputable def c_37 : Ctr := mkN t_37 ir41 [.io]
theorem s_37 : Sound Tryz.prog 41 c_37 := mkN_sound _ (snd_cons s_5 (snd_cons s_3 snd_nil)) (by kernel_rfl : chkFn Tryz.prog 41 ir41 ir41_v = true)
theorem M_37 : c_37.modes = [.io] := rfl
theorem Fl_37 : c_37.flat = false := rfl
attribute [go_sem] M_37 Fl_37
attribute [go_sem] lk_37_32 lk_37_31
theorem Fs_37 {s_ : L00Src} {y_ : Int × L00Src} (h : spec_l02Draw s_ = some y_) : c_37.F [.mem 3 [L00Src_av s_] 0] = ⟨true, .int .i64 y_.1, [.mem 3 [L00Src_av y_.2] 0]⟩ := by
 refine mkN_E ?_
 dsimp only [spec_l02Draw] at h
 obtain ⟨y_1, z1, h⟩ := bd_some h
 have fz1 := Fs_5 z1
 try simp only [go_sem] at fz1
 rcases it_some h with ⟨z2, h⟩ | ⟨z2, h⟩
 ·try simp only [go_sem, n1, n2, n3, n4] at z2
  all_goals
  obtain ⟨y_3, z3, h⟩ := bd_some h
  have fz3 := Fs_3 z3
  try simp only [go_sem, z2] at fz3
  obtain rfl := so_some h
  refine ⟨0, fun L hL => ?_⟩
  simp only [go_sem, ir41, fz1, z2, fz3]
 ·try simp only [go_sem, n1, n2, n3, n4] at z2
  all_goals
  obtain ⟨y_4, z4, h⟩ := bd_some h
  have fz4 := Fs_3 z4
  try simp only [go_sem, z2] at fz4
  obtain rfl := so_some h
  refine ⟨0, fun L hL => ?_⟩
  simp only [go_sem, ir41, fz1, z2, fz4]


def ir11_v : List Nat := [0, 2, 3, 4, 5, 6, 7]
def ir11 : AFn := ⟨1, 7, .seq (.region false [ VO 1 2 (.newnil 2), VO 2 3 (.mov (.c (.str []))), VO 3 4 (.mov (I6 0))]) (.seq (.region false [ PM 8 0, PO 9 (.call 28 [(.s 0)]), VS 4 5 0]) (.seq (.region false [ PM 10 4, PO 11 (.call 29 [(.s 0)]), VS 5 6 0]) (.seq (.region false [ PM 12 4, PO 13 (.call 30 [(.s 0)]), VS 6 7 0]) (.seq (.test false [ PM 14 4, PO 15 (.call 32 [(.s 0), (I6 6)])] (.s 0) (.seq (.region false [ PM 16 5, PM 17 6, PM 18 4, PO 19 (.mkSl 1 (.int .i64 (0)) 5 [(0, (.c (.int .i64 (-2001)))), (1, (.c (.int .i64 (-2000)))), (2, (I6 20000)), (3, (I6 20001)), (4, (.c (.int .i64
 (-9223372036854775808))))]), PO 20 (.call 33 [(.s 1), (.s 0)]), VS 1 2 4, VS 2 3 3, VS 3 4 0]) (.ret)) (.skip)) (.seq (.region false [ PM 21 5, PM 22 6, PM 23 4, PO 24 (.call 41 [(.s 0)]), VS 1 2 3, VS 2 3 2, VS 3 4 0]) (.ret)))))), [.t 1, .t 2, .t 3]⟩
noncomputable def t_38 : List (Nat × Ctr) := [(28, c_1), (29, c_9), (30, c_10), (32, c_5), (33, c_8), (41, c_37)]
theorem lk_38_28 : look t_38 28 = some c_1 := rfl
theorem lk_38_29 : look t_38 29 = some c_9 := rfl
theorem lk_38_30 : look t_38 30 = some c_10 := rfl
theorem lk_38_32 : look t_38 32 = some c_5 := rfl
theorem lk_38_33 : look t_38 33 = some c_8 := rfl
theorem lk_38_41 : look t_38 41 = some c_37 := rfl
noncomputable def c_38 : Ctr := mkF t_38 ir11 [.bor]
theorem s_38 : Sound Tryz.prog 11 c_38 := mkF_sound _ rfl (snd_cons s_1 (snd_cons s_9 (snd_cons s_10 (snd_cons s_5 (snd_cons s_8 (snd_cons s_37 snd_nil)))))) (by kernel_rfl : chkFn Tryz.prog 11 ir11 ir11_v = true)
theorem M_38 : c_38.modes = [.bor] := rfl
theorem Fl_38 : c_38.flat = true := rfl
attribute [go_sem] M_38 Fl_38
attribute [go_sem] lk_38_28 lk_38_29 lk_38_30 lk_38_32 lk_38_33 lk_38_41
theorem Fs_38 {code : List UInt8} {y_ : (List Observer) × (List UInt8) × Int} (h : spec_DrawCorrectMag code = some y_) : c_38.F [.sl 1 (List.map byteAV code)] = ⟨true, .tup [.fresh 2 (List.map Observer_av y_.1), .str y_.2.1, .int .i64 y_.2.2], [.any]⟩ := by
 refine mkF_E (by simp only [flatA, flatB, flat1, List.all_cons, List.all_nil, Bool.and_self, flatE_map (f := Observer_av) (fun _ => rfl)]) ?_
 dsimp only [spec_DrawCorrectMag] at h
 obtain ⟨y_1, z1, h⟩ := bd_some h
 have fz1 := Fs_1 z1
 try simp only [go_sem] at fz1
 obtain ⟨y_2, z2, h⟩ := bd_some h
 have fz2 := Fs_9 z2
 try simp only [go_sem] at fz2
 obtain ⟨y_3, z3, h⟩ := bd_some h
 have fz3 := Fs_10 z3
 try simp only [go_sem] at fz3
 obtain ⟨y_4, z4, h⟩ := bd_some h
 have fz4 := Fs_5 z4
 try simp only [go_sem] at fz4
 rcases it_some h with ⟨z5, h⟩ | ⟨z5, h⟩
 ·try simp only [go_sem, n1, n2, n3, n4] at z5
  all_goals
  obtain ⟨y_6, z6, h⟩ := bd_some h
  have fz6 := Fs_8 z6
  try simp only [go_sem, z5] at fz6
  obtain rfl := so_some h
  refine ⟨0, fun L hL => ?_⟩
  simp only [go_sem, ir11, fz1, fz2, fz3, fz4, z5, fz6]
 ·try simp only [go_sem, n1, n2, n3, n4] at z5
  all_goals
  obtain ⟨y_7, z7, h⟩ := bd_some h
  have fz7 := Fs_37 z7
  try simp only [go_sem, z5] at fz7
  obtain rfl := so_some h
  refine ⟨0, fun L hL => ?_⟩
  simp only [go_sem, ir11, fz1, fz2, fz3, fz4, z5, fz7]


def ir42_v : List Nat := [0, 2]
def ir42 : AFn := ⟨1, 2, .seq (.region false [ VO 1 2 (.mov (.c (.bool false)))]) (.seq (.region false [ PM 3 0, PO 4 (.call 63 [(.s 0), (.c (.int .i64 (-2000))), (I6 20000)]), VS 1 2 0]) (.ret)), [.t 1]⟩
noncomputable def t_39 : List (Nat × Ctr) := [(63, c_13)]
theorem lk_39_63 : look t_39 63 = some c_13 := rfl
noncomputable def c_39 : Ctr := mkF t_39 ir42 [.bor]
theorem s_39 : Sound Tryz.prog 42 c_39 := mkF_sound _ rfl (snd_cons s_13 snd_nil) (by kernel_rfl : chkFn Tryz.prog 42 ir42 ir42_v = true)
theorem M_39 : c_39.modes = [.bor] := rfl
theorem Fl_39 : c_39.flat = true := rfl
attribute [go_sem] M_39 Fl_39
attribute [go_sem] lk_39_63
theorem Fs_39 {m : Int} {y_ : Bool} (h : impl_ValidMag m = some y_) : c_39.F [.int .i64 m] = ⟨true, .bool y_, [.any]⟩ := by
 refine mkF_E rfl ?_
 dsimp only [impl_ValidMag] at h
 obtain ⟨y_1, z1, h⟩ := bd_some h
 have fz1 := Fs_13 z1
 try simp only [go_sem] at fz1
 obtain rfl := so_some h
 refine ⟨0, fun L hL => ?_⟩
 simp only [go_sem, ir42, fz1]


def ir12_v : List Nat := [0, 1, 2, 6, 7, 8, 9]
def ir12 : AFn := ⟨3, 7, .seq (.region false [ VO 3 6 (.mov (I6 0)), VO 4 7 (.mov (I6 0))]) (.seq (.block 0 (.test false [ PM 11 0, PO 12 (.call 26 [(.s 0)]), PO 13 (.un .not (.s 0)), PO 10 (.mov (.s 0))] (.s 0) (.seq (.region false [ VO 3 6 (.mov (I6 0)), VO 4 7 (.mov (I6 1))]) (.ret)) (.test false [ PM 15 2, PO 16 (.call 42 [(.s 0)]), PO 17 (.un .not (.s 0)), PO 14 (.mov (.s 0))] (.s 0) (.seq (.region false [ VO 3 6 (.mov (I6 0)), VO 4 7 (.mov (I6 2))]) (.ret)) (.skip)))) (.seq (.region false [ PM 19 0, PM 20 1, PO 21 (.call 35 [(.s 1), (.s 0)]), PO 18 (.mov (.s 0)), PO 22 (.ext (.s 0) 0), PO
 23 (.ext (.s 1) 1), VS 5 8 1, VS 6 9 0]) (.seq (.test false [ PM 24 6, PO 25 (.bin false .neq (.s 0) (I6 0))] (.s 0) (.seq (.region false [ PM 26 6, VO 3 6 (.mov (I6 0)), VS 4 7 0]) (.ret)) (.skip)) (.seq (.seq (.region false [ PM 27 2, PM 28 0, PM 29 5, PO 30 (.ixAddr 2 (.s 1) (.s 0)), PO 31 (.fldAddr 1 (.s 0)), PO 32 (.load false 1 (.s 0)), PO 33 (.bin false .add (.s 5) (.s 0)), VS 2 2 0]) (.test false [ PM 34 2, PO 35 (.call 42 [(.s 0)]), PO 36 (.un .not (.s 0))] (.s 0) (.seq (.region false [ VO 3 6 (.mov (I6 0)), VO 4 7 (.mov (I6 5))]) (.ret)) (.skip))) (.seq (.region false [ PM 37 2, VS 3
 6 0, VO 4 7 (.mov (I6 0))]) (.ret)))))), [.t 3, .t 4]⟩
noncomputable def t_40 : List (Nat × Ctr) := [(26, c_17), (42, c_39), (35, c_21)]
theorem lk_40_26 : look t_40 26 = some c_17 := rfl
theorem lk_40_42 : look t_40 42 = some c_39 := rfl
theorem lk_40_35 : look t_40 35 = some c_21 := rfl
noncomputable def c_40 : Ctr := mkF t_40 ir12 [.bor, .bor, .bor]
theorem s_40 : Sound Tryz.prog 12 c_40 := mkF_sound _ rfl (snd_cons s_17 (snd_cons s_39 (snd_cons s_21 snd_nil))) (by kernel_rfl : chkFn Tryz.prog 12 ir12 ir12_v = true)
theorem M_40 : c_40.modes = [.bor, .bor, .bor] := rfl
theorem Fl_40 : c_40.flat = true := rfl
attribute [go_sem] M_40 Fl_40
attribute [go_sem] lk_40_26 lk_40_42 lk_40_35
theorem Fs_40 {list : List Observer} {name : List UInt8} {m : Int} {y_ : Int × Int} (h : impl_CorrectMag list name m = some y_) : c_40.F [.sl 2 (List.map Observer_av list), .str name, .int .i64 m] = ⟨true, .tup [.int .i64 y_.1, .int .i64 y_.2], [.any, .any, .any]⟩ := by
 refine mkF_E rfl ?_
 dsimp only [impl_CorrectMag] at h
 obtain ⟨y_1, z1, h⟩ := bd_some h
 have fz1 := Fs_17 z1
 try simp only [go_sem] at fz1
 rcases it_some h with ⟨z2, h⟩ | ⟨z2, h⟩
 ·try simp only [go_sem, n1, n2, n3, n4] at z2
  all_goals
  obtain rfl := so_some h
  refine ⟨0, fun L hL => ?_⟩
  simp only [go_sem, ir12, fz1, z2]
 ·try simp only [go_sem, n1, n2, n3, n4] at z2
  all_goals
  obtain ⟨y_3, z3, h⟩ := bd_some h
  have fz3 := Fs_39 z3
  try simp only [go_sem, z2] at fz3
  rcases it_some h with ⟨z4, h⟩ | ⟨z4, h⟩
  ·try simp only [go_sem, n1, n2, n3, n4, z2] at z4
   all_goals
   obtain rfl := so_some h
   refine ⟨0, fun L hL => ?_⟩
   simp only [go_sem, ir12, fz1, z2, fz3, z4]
  ·try simp only [go_sem, n1, n2, n3, n4, z2] at z4
   all_goals
   obtain ⟨y_5, z5, h⟩ := bd_some h
   have fz5 := Fs_21 z5
   try simp only [go_sem, z2, z4] at fz5
   rcases it_some h with ⟨z6, h⟩ | ⟨z6, h⟩
   ·try simp only [go_sem, n1, n2, n3, n4, z2, z4] at z6
    all_goals
    obtain rfl := so_some h
    refine ⟨0, fun L hL => ?_⟩
    simp only [go_sem, ir12, fz1, z2, fz3, z4, fz5, z6]
   ·try simp only [go_sem, n1, n2, n3, n4, z2, z4] at z6
    all_goals
    obtain ⟨z7, h⟩ := ck_some h
    have lz7 := ix_lt z7
    have xz7 := getD_mapD Observer_av list lz7
    try simp only [go_sem] at lz7
    try simp only [go_sem] at xz7
    try simp only [go_sem, n1, n2, n3, n4, z2, z4, z6] at z7
    all_goals
    obtain ⟨y_8, z8, h⟩ := bd_some h
    have fz8 := Fs_39 z8
    try simp only [go_sem, z2, z4, z6, z7] at fz8
    rcases it_some h with ⟨z9, h⟩ | ⟨z9, h⟩
    ·try simp only [go_sem, n1, n2, n3, n4, z2, z4, z6, z7] at z9
     all_goals
     obtain rfl := so_some h
     refine ⟨0, fun L hL => ?_⟩
     simp only [go_sem, ir12, fz1, z2, fz3, z4, fz5, z6, z7, lz7, xz7, fz8, z9]
    ·try simp only [go_sem, n1, n2, n3, n4, z2, z4, z6, z7] at z9
     all_goals
     obtain rfl := so_some h
     refine ⟨0, fun L hL => ?_⟩
     simp only [go_sem, ir12, fz1, z2, fz3, z4, fz5, z6, z7, lz7, xz7, fz8, z9]


def ir43_v : List Nat := [0, 2]
def ir43 : AFn := ⟨1, 2, .seq (.region false [ VO 1 2 (.mov (.c (.bool false)))]) (.seq (.region false [ PM 3 0, PO 4 (.call 68 [(.s 0), (.c (.int .i64 (-2000))), (I6 20000)]), VS 1 2 0]) (.ret)), [.t 1]⟩
noncomputable def t_41 : List (Nat × Ctr) := [(68, c_29)]
theorem lk_41_68 : look t_41 68 = some c_29 := rfl
noncomputable def c_41 : Ctr := mkF t_41 ir43 [.bor]
theorem s_41 : Sound Tryz.prog 43 c_41 := mkF_sound _ rfl (snd_cons s_29 snd_nil) (by kernel_rfl : chkFn Tryz.prog 43 ir43 ir43_v = true)
theorem M_41 : c_41.modes = [.bor] := rfl
theorem Fl_41 : c_41.flat = true := rfl
attribute [go_sem] M_41 Fl_41
attribute [go_sem] lk_41_68
theorem Fs_41 {m : Int} {y_ : Bool} (h : spec_l02Mag m = some y_) : c_41.F [.int .i64 m] = ⟨true, .bool y_, [.any]⟩ := by
 refine mkF_E rfl ?_
 dsimp only [spec_l02Mag] at h
 obtain ⟨y_1, z1, h⟩ := bd_some h
 have fz1 := Fs_29 z1
 try simp only [go_sem] at fz1
 obtain rfl := so_some h
 refine ⟨0, fun L hL => ?_⟩
 simp only [go_sem, ir43, fz1]


def ir13_v : List Nat := [0, 1, 2, 6, 7, 8, 9, 10]
def ir13 : AFn := ⟨3, 8, .seq (.region false [ VO 3 6 (.mov (I6 0)), VO 4 7 (.mov (I6 0))]) (.seq (.region false [ PM 12 0, PM 13 1, PO 14 (.call 10 [(.s 1), (.s 0)]), PO 11 (.mov (.s 0)), PO 15 (.ext (.s 0) 0), PO 16 (.ext (.s 1) 1), VS 5 8 1, VS 6 9 0]) (.seq (.test false [ PM 17 6, PO 18 (.bin false .eql (.s 0) (I6 1))] (.s 0) (.seq (.region false [ PM 19 6, VO 3 6 (.mov (I6 0)), VS 4 7 0]) (.ret)) (.skip)) (.seq (.test false [ PM 20 2, PO 21 (.call 43 [(.s 0)]), PO 22 (.un .not (.s 0))] (.s 0) (.seq (.region false [ VO 3 6 (.mov (I6 0)), VO 4 7 (.mov (I6 2))]) (.ret)) (.skip)) (.seq (.test
 false [ PM 23 6, PO 24 (.bin false .neq (.s 0) (I6 0))] (.s 0) (.seq (.region false [ PM 25 6, VO 3 6 (.mov (I6 0)), VS 4 7 0]) (.ret)) (.skip)) (.seq (.region false [ PM 26 2, PM 27 0, PM 28 5, PO 29 (.ixAddr 2 (.s 1) (.s 0)), PO 30 (.fldAddr 1 (.s 0)), PO 31 (.load false 1 (.s 0)), PO 32 (.bin false .add (.s 5) (.s 0)), VS 7 10 0]) (.seq (.test false [ PM 33 7, PO 34 (.call 43 [(.s 0)]), PO 35 (.un .not (.s 0))] (.s 0) (.seq (.region false [ VO 3 6 (.mov (I6 0)), VO 4 7 (.mov (I6 5))]) (.ret)) (.skip)) (.seq (.region false [ PM 36 7, VS 3 6 0, VO 4 7 (.mov (I6 0))]) (.ret)))))))), [.t 3, .t
 4]⟩
noncomputable def t_42 : List (Nat × Ctr) := [(10, c_36), (43, c_41)]
theorem lk_42_10 : look t_42 10 = some c_36 := rfl
theorem lk_42_43 : look t_42 43 = some c_41 := rfl
noncomputable def c_42 : Ctr := mkF t_42 ir13 [.bor, .bor, .bor]
theorem s_42 : Sound Tryz.prog 13 c_42 := mkF_sound _ rfl (snd_cons s_36 (snd_cons s_41 snd_nil)) (by kernel_rfl : chkFn Tryz.prog 13 ir13 ir13_v = true)
theorem M_42 : c_42.modes = [.bor, .bor, .bor] := rfl
theorem Fl_42 : c_42.flat = true := rfl
attribute [go_sem] M_42 Fl_42
attribute [go_sem] lk_42_10 lk_42_43
theorem Fs_42 {list : List Observer} {name : List UInt8} {m : Int} {y_ : Int × Int} (h : spec_CorrectMag list name m = some y_) : c_42.F [.sl 2 (List.map Observer_av list), .str name, .int .i64 m] = ⟨true, .tup [.int .i64 y_.1, .int .i64 y_.2], [.any, .any, .any]⟩ := by
 refine mkF_E rfl ?_
 dsimp only [spec_CorrectMag] at h
 obtain ⟨y_1, z1, h⟩ := bd_some h
 have fz1 := Fs_36 z1
 try simp only [go_sem] at fz1
 rcases it_some h with ⟨z2, h⟩ | ⟨z2, h⟩
 ·try simp only [go_sem, n1, n2, n3, n4] at z2
  all_goals
  obtain rfl := so_some h
  refine ⟨0, fun L hL => ?_⟩
  simp only [go_sem, ir13, fz1, z2]
 ·try simp only [go_sem, n1, n2, n3, n4] at z2
  all_goals
  obtain ⟨y_3, z3, h⟩ := bd_some h
  have fz3 := Fs_41 z3
  try simp only [go_sem, z2] at fz3
  rcases it_some h with ⟨z4, h⟩ | ⟨z4, h⟩
  ·try simp only [go_sem, n1, n2, n3, n4, z2] at z4
   all_goals
   obtain rfl := so_some h
   refine ⟨0, fun L hL => ?_⟩
   simp only [go_sem, ir13, fz1, z2, fz3, z4]
  ·try simp only [go_sem, n1, n2, n3, n4, z2] at z4
   all_goals
   rcases it_some h with ⟨z5, h⟩ | ⟨z5, h⟩
   ·try simp only [go_sem, n1, n2, n3, n4, z2, z4] at z5
    all_goals
    obtain rfl := so_some h
    refine ⟨0, fun L hL => ?_⟩
    simp only [go_sem, ir13, fz1, z2, fz3, z4, z5]
   ·try simp only [go_sem, n1, n2, n3, n4, z2, z4] at z5
    all_goals
    obtain ⟨z6, h⟩ := ck_some h
    have lz6 := ix_lt z6
    have xz6 := getD_mapD Observer_av list lz6
    try simp only [go_sem] at lz6
    try simp only [go_sem] at xz6
    try simp only [go_sem, n1, n2, n3, n4, z2, z4, z5] at z6
    all_goals
    obtain ⟨y_7, z7, h⟩ := bd_some h
    have fz7 := Fs_41 z7
    try simp only [go_sem, z2, z4, z5, z6] at fz7
    rcases it_some h with ⟨z8, h⟩ | ⟨z8, h⟩
    ·try simp only [go_sem, n1, n2, n3, n4, z2, z4, z5, z6] at z8
     all_goals
     obtain rfl := so_some h
     refine ⟨0, fun L hL => ?_⟩
     simp only [go_sem, ir13, fz1, z2, fz3, z4, z5, z6, lz6, xz6, fz7, z8]
    ·try simp only [go_sem, n1, n2, n3, n4, z2, z4, z5, z6] at z8
     all_goals
     obtain rfl := so_some h
     refine ⟨0, fun L hL => ?_⟩
     simp only [go_sem, ir13, fz1, z2, fz3, z4, z5, z6, lz6, xz6, fz7, z8]


def ir14_b0 : IR := .seq (.test false [ PM 13 6, PM 14 4, PO 15 (.len false (.s 0)), PO 16 (.bin false .lss (.s 2) (.s 0))] (.s 0) (.skip) (.exit 0)) (.seq (.block 1 (.region false [ PM 19 5, PM 20 3, PO 21 (.call 31 [(.s 0), (I6 100)]), PO 22 (.bin false .sub (.s 0) (I6 50)), PO 23 (.mkSl 1 (.int .i64 (0)) 1 [(0, (.s 0))]), PO 24 (.app 1 8 (.int .i64 (0)) (.s 4) (.s 0)), VS 5 6 0])) (.region false [ PM 17 6, PO 18 (.bin false .add (.s 0) (I6 1)), VS 6 7 0]))
def ir14_k0 : List Bool := [false, false, false, true, true, true, true]
def ir14_o0 : List Bool := [false, false, false, true, true, true, false]
def ir14_r0 : List Bool := [false, true, true, false, false, false, false]
def ir14_v : List Nat := [0, 2, 3, 4, 5, 6, 7]
def ir14 : AFn := ⟨1, 7, .seq (.region false [ VO 1 2 (.newnil 2), VO 2 3 (.newnil 1)]) (.seq (.region false [ PM 8 0, PO 9 (.call 28 [(.s 0)]), VS 3 4 0]) (.seq (.region false [ PM 10 3, PO 11 (.call 29 [(.s 0)]), VS 4 5 0]) (.seq (.region false [ PO 12 (.mkSl 1 (.int .i64 (0)) 0 []), VS 5 6 0]) (.seq (.seq (.region false [ VO 6 7 (.mov (I6 0))]) (.block 0 (.loop ir14_k0 ir14_o0 ir14_r0 ir14_b0))) (.seq (.test false [ PM 25 3, PO 26 (.call 32 [(.s 0), (I6 12)])] (.s 0) (.region false [ PM 27 5, PO 28 (.mkSl 1 (.int .i64 (0)) 1 [(0, (I6 1))]), PO 29 (.app 1 8 (.int .i64 (0)) (.s 1) (.s 0)), VS
 5 6 0]) (.skip)) (.seq (.test false [ PM 30 5, PO 31 (.len false (.s 0)), PO 32 (.bin false .gtr (.s 0) (I6 0)), PO 33 (.mov (.s 0)), ⟨.push, 34, (some ((.s 0), true)), .mov (.v 3)⟩, ⟨.push, 35, (some ((.s 1), true)), .callw 32 [(.s 0), (I6 8)]⟩, PO 36 (.pick (.s 2) (.s 0) (.c (.bool false)))] (.s 0) (.region false [ PM 37 5, PM 38 3, PO 39 (.mkSl 1 (.int .i64 (0)) 4 [(0, (.c (.int .i64 (-2001)))), (1, (.c (.int .i64 (-2000)))), (2, (I6 2000)), (3, (I6 2001))]), PO 40 (.call 33 [(.s 1), (.s 0)]), PO 41 (.ixAddr 1 (.s 3) (I6 0)), ⟨.no, 0, none, .store 1 (.s 0) (.s 1)⟩]) (.skip)) (.seq (.region
 false [ PM 42 4, PM 43 5, VS 1 2 1, VS 2 3 0]) (.ret)))))))), [.t 1, .t 2]⟩
noncomputable def t_43 : List (Nat × Ctr) := [(28, c_1), (29, c_9), (31, c_3), (32, c_5), (33, c_8)]
theorem lk_43_28 : look t_43 28 = some c_1 := rfl
theorem lk_43_29 : look t_43 29 = some c_9 := rfl
theorem lk_43_31 : look t_43 31 = some c_3 := rfl
theorem lk_43_32 : look t_43 32 = some c_5 := rfl
theorem lk_43_33 : look t_43 33 = some c_8 := rfl
noncomputable def c_43 : Ctr := mkF t_43 ir14 [.bor]
theorem s_43 : Sound Tryz.prog 14 c_43 := mkF_sound _ rfl (snd_cons s_1 (snd_cons s_9 (snd_cons s_3 (snd_cons s_5 (snd_cons s_8 snd_nil))))) (by kernel_rfl : chkFn Tryz.prog 14 ir14 ir14_v = true)
theorem M_43 : c_43.modes = [.bor] := rfl
theorem Fl_43 : c_43.flat = true := rfl
attribute [go_sem] M_43 Fl_43
attribute [go_sem] lk_43_28 lk_43_29 lk_43_31 lk_43_32 lk_43_33
def E_43_l1 (list : List Observer) : (L00Src × (List Int) × Int) → St
 | (s_, shifts, i) => ⟨[.any, .any, .any, .ref 3200000 0 0, .own 3200032, .own 3200064, .int .i64 i], [], [(3200000, ⟨3, [L00Src_av s_]⟩), (3200032, ⟨2, List.map Observer_av list⟩), (3200064, ⟨1, List.map (AV.int .i64) shifts⟩)], true⟩
def R_43_l1 (list : List Observer) (y : L00Src × (List Int)) : Res := (.exit 0, ⟨[.any, .any, .any, .ref 3200000 0 0, .own 3200032, .own 3200064, .any], [], [(3200000, ⟨3, [L00Src_av y.1]⟩), (3200032, ⟨2, List.map Observer_av list⟩), (3200064, ⟨1, List.map (AV.int .i64) y.2⟩)], true⟩)
theorem spec_DrawApplyShifts_l1_ex {list : List Observer} {sgm_ : L00Src × (List Int) × Int} {rho_ : L00Src × (List Int)} (h : whileE (spec_DrawApplyShifts_l1 list) sgm_ = some rho_) : ∃ L0, ∀ L, L0 ≤ L → iter (exec (look t_43) L ir14_b0) ir14_k0 ir14_o0 ir14_r0 L (E_43_l1 list sgm_) = R_43_l1 list rho_ := by
 refine loop_ex (E := E_43_l1 list) (R := R_43_l1 list) (fun y => by first | (intro c; cases c) | (rcases y with y | y <;> (intro c; cases c)) | (rcases y with y | y | y <;> (intro c; cases c))) ?_ h
 clear h
 rintro ⟨s_, shifts, i⟩ o_ h
 dsimp only [spec_DrawApplyShifts_l1] at h
 rcases it_some h with ⟨z3, h⟩ | ⟨z3, h⟩
 ·try simp only [go_sem, n1, n2, n3, n4] at z3
  all_goals
  obtain ⟨y_4, z4, h⟩ := bd_some h
  have fz4 := Fs_3 z4
  try simp only [go_sem, z3] at fz4
  obtain ⟨z5, h⟩ := ck_some h
  try simp only [go_sem, n1, n2, n3, n4, z3] at z5
  all_goals
  obtain rfl := so_some h
  refine ⟨0, fun L hL => ?_⟩
  simp only [go_sem, ir14, E_43_l1, R_43_l1, ir14_b0, ir14_k0, ir14_o0, ir14_r0, z3, fz4, z5]
 ·try simp only [go_sem, n1, n2, n3, n4] at z3
  all_goals
  obtain rfl := so_some h
  refine ⟨0, fun L hL => ?_⟩
  simp only [go_sem, ir14, E_43_l1, R_43_l1, ir14_b0, ir14_k0, ir14_o0, ir14_r0, z3]

theorem Fs_43 {code : List UInt8} {y_ : (List Observer) × (List Int)} (h : spec_DrawApplyShifts code = some y_) : c_43.F [.sl 1 (List.map byteAV code)] = ⟨true, .tup [.fresh 2 (List.map Observer_av y_.1), .fresh 1 (List.map (AV.int .i64) y_.2)], [.any]⟩ := by
 refine mkF_E (by simp only [flatA, flatB, flat1, List.all_cons, List.all_nil, Bool.and_self, flatE_map (f := Observer_av) (fun _ => rfl), flatE_map (f := (AV.int .i64)) (fun _ => rfl)]) ?_
 dsimp only [spec_DrawApplyShifts] at h
 obtain ⟨y_1, z1, h⟩ := bd_some h
 have fz1 := Fs_1 z1
 try simp only [go_sem] at fz1
 obtain ⟨y_2, z2, h⟩ := bd_some h
 have fz2 := Fs_9 z2
 try simp only [go_sem] at fz2
 obtain ⟨y_6, z6, h⟩ := bd_some h
 obtain ⟨Lz6, ez6⟩ := spec_DrawApplyShifts_l1_ex z6
 obtain ⟨y_7, z7, h⟩ := bd_some h
 have fz7 := Fs_5 z7
 try simp only [go_sem] at fz7
 rcases it_some h with ⟨z8, h⟩ | ⟨z8, h⟩
 ·try simp only [go_sem, n1, n2, n3, n4] at z8
  all_goals
  obtain ⟨z9, h⟩ := ck_some h
  try simp only [go_sem, n1, n2, n3, n4, z8] at z9
  all_goals
  rcases it_some h with ⟨z10, h⟩ | ⟨z10, h⟩
  ·try simp only [go_sem, n1, n2, n3, n4, z8, z9] at z10
   all_goals
   obtain ⟨y_11, z11, h⟩ := bd_some h
   have fz11 := Fs_5 z11
   try simp only [go_sem, z8, z9, z10] at fz11
   rcases it_some h with ⟨z12, h⟩ | ⟨z12, h⟩
   ·try simp only [go_sem, n1, n2, n3, n4, z8, z9, z10] at z12
    all_goals
    obtain ⟨y_13, z13, h⟩ := bd_some h
    have fz13 := Fs_8 z13
    try simp only [go_sem, z8, z9, z10, z12] at fz13
    obtain ⟨z14, h⟩ := ck_some h
    have lz14 := ix_lt z14
    have xz14 := getD_mapD (AV.int .i64) (y_6.2 ++ ([1] : List Int)) lz14
    try simp only [go_sem] at lz14
    try simp only [go_sem] at xz14
    try simp only [go_sem, n1, n2, n3, n4, z8, z9, z10, z12] at z14
    all_goals
    obtain rfl := so_some h
    refine ⟨Lz6, fun L hL => ?_⟩
    have ez6 := ez6 L (by omega)
    try simp only [go_sem, E_43_l1, R_43_l1, ir14_k0, ir14_o0, ir14_r0, z8, z9, z10, z12, z14] at ez6
    simp only [go_sem, ir14, E_43_l1, R_43_l1, ir14_k0, ir14_o0, ir14_r0, fz1, fz2, fz7, z8, z9, z10, fz11, z12, fz13, z14, lz14, xz14, ez6]
   ·try simp only [go_sem, n1, n2, n3, n4, z8, z9, z10] at z12
    all_goals
    obtain rfl := so_some h
    refine ⟨Lz6, fun L hL => ?_⟩
    have ez6 := ez6 L (by omega)
    try simp only [go_sem, E_43_l1, R_43_l1, ir14_k0, ir14_o0, ir14_r0, z8, z9, z10, z12] at ez6
    simp only [go_sem, ir14, E_43_l1, R_43_l1, ir14_k0, ir14_o0, ir14_r0, fz1, fz2, fz7, z8, z9, z10, fz11, z12, ez6]
  ·try simp only [go_sem, n1, n2, n3, n4, z8, z9] at z10
   all_goals
   obtain rfl := so_some h
   refine ⟨Lz6, fun L hL => ?_⟩
   have ez6 := ez6 L (by omega)
   try simp only [go_sem, E_43_l1, R_43_l1, ir14_k0, ir14_o0, ir14_r0, z8, z9, z10] at ez6
   simp only [go_sem, ir14, E_43_l1, R_43_l1, ir14_k0, ir14_o0, ir14_r0, fz1, fz2, fz7, z8, z9, z10, ez6]
 ·try simp only [go_sem, n1, n2, n3, n4] at z8
  all_goals
  rcases it_some h with ⟨z15, h⟩ | ⟨z15, h⟩
  ·try simp only [go_sem, n1, n2, n3, n4, z8] at z15
   all_goals
   obtain ⟨y_16, z16, h⟩ := bd_some h
   have fz16 := Fs_5 z16
   try simp only [go_sem, z8, z15] at fz16
   rcases it_some h with ⟨z17, h⟩ | ⟨z17, h⟩
   ·try simp only [go_sem, n1, n2, n3, n4, z8, z15] at z17
    all_goals
    obtain ⟨y_18, z18, h⟩ := bd_some h
    have fz18 := Fs_8 z18
    try simp only [go_sem, z8, z15, z17] at fz18
    obtain ⟨z19, h⟩ := ck_some h
    have lz19 := ix_lt z19
    have xz19 := getD_mapD (AV.int .i64) y_6.2 lz19
    try simp only [go_sem] at lz19
    try simp only [go_sem] at xz19
    try simp only [go_sem, n1, n2, n3, n4, z8, z15, z17] at z19
    all_goals
    obtain rfl := so_some h
    refine ⟨Lz6, fun L hL => ?_⟩
    have ez6 := ez6 L (by omega)
    try simp only [go_sem, E_43_l1, R_43_l1, ir14_k0, ir14_o0, ir14_r0, z8, z15, z17, z19] at ez6
    simp only [go_sem, ir14, E_43_l1, R_43_l1, ir14_k0, ir14_o0, ir14_r0, fz1, fz2, fz7, z8, z15, fz16, z17, fz18, z19, lz19, xz19, ez6]
   ·try simp only [go_sem, n1, n2, n3, n4, z8, z15] at z17
    all_goals
    obtain rfl := so_some h
    refine ⟨Lz6, fun L hL => ?_⟩
    have ez6 := ez6 L (by omega)
    try simp only [go_sem, E_43_l1, R_43_l1, ir14_k0, ir14_o0, ir14_r0, z8, z15, z17] at ez6
    simp only [go_sem, ir14, E_43_l1, R_43_l1, ir14_k0, ir14_o0, ir14_r0, fz1, fz2, fz7, z8, z15, fz16, z17, ez6]
  ·try simp only [go_sem, n1, n2, n3, n4, z8] at z15
   all_goals
   obtain rfl := so_some h
   refine ⟨Lz6, fun L hL => ?_⟩
   have ez6 := ez6 L (by omega)
   try simp only [go_sem, E_43_l1, R_43_l1, ir14_k0, ir14_o0, ir14_r0, z8, z15] at ez6
   simp only [go_sem, ir14, E_43_l1, R_43_l1, ir14_k0, ir14_o0, ir14_r0, fz1, fz2, fz7, z8, z15, ez6]


def ir70_v : List Nat := [0, 1, 2, 4]
def ir70 : AFn := ⟨3, 4, .seq (.region false [ VO 3 4 (.mov (.c (.bool false)))]) (.seq (.region false [ PM 5 0, PO 6 (.load false 1 (.v 1)), PO 7 (.load false 1 (.v 2)), PO 8 (.call 63 [(.s 2), (.s 1), (.s 0)]), PO 9 (.un .not (.s 0)), VS 3 4 0]) (.ret)), [.t 3]⟩
noncomputable def t_44 : List (Nat × Ctr) := [(63, c_13)]
theorem lk_44_63 : look t_44 63 = some c_13 := rfl
noncomputable def c_44 : Ctr := mkF t_44 ir70 [.bor, .bor, .bor]
theorem s_44 : Sound Tryz.prog 70 c_44 := mkF_sound _ rfl (snd_cons s_13 snd_nil) (by kernel_rfl : chkFn Tryz.prog 70 ir70 ir70_v = true)
theorem M_44 : c_44.modes = [.bor, .bor, .bor] := rfl
theorem Fl_44 : c_44.flat = true := rfl
attribute [go_sem] M_44 Fl_44
attribute [go_sem] lk_44_63
theorem Fs_44 {n : Int} {t1 : Int} {t2 : Int} {y_ : Bool} (h : impl_allIn_c1 n t1 t2 = some y_) : c_44.F [.int .i64 n, .ptr 1 [.int .i64 t1] 0 0, .ptr 1 [.int .i64 t2] 0 0] = ⟨true, .bool y_, [.any, .any, .any]⟩ := by
 refine mkF_E rfl ?_
 dsimp only [impl_allIn_c1] at h
 obtain ⟨y_1, z1, h⟩ := bd_some h
 have fz1 := Fs_13 z1
 try simp only [go_sem] at fz1
 obtain rfl := so_some h
 refine ⟨0, fun L hL => ?_⟩
 simp only [go_sem, ir70, fz1]


def ir83_b0 : IR := .seq (.region false [ VO 6 9 (.bin false .lss (.v 5) (.v 4))]) (.seq (.cond (.v 6) (.skip) (.exit 0)) (.seq (.block 1 (.seq (.region false [ PM 10 5, VS 3 5 0]) (.test false [ PM 11 1, PM 12 0, PM 13 3, PO 14 (.ixAddr 1 (.s 1) (.s 0)), PO 15 (.load false 1 (.s 0)), PO 16 (.callv (.s 4) [(.s 0)])] (.s 0) (.seq (.region false [ PM 17 3, VS 2 4 0]) (.ret)) (.skip)))) (.region false [ PO 18 (.bin false .add (.v 5) (I6 1)), VS 5 8 0])))
def ir83_k0 : List Bool := [true, true, false, false, true, true, false]
def ir83_o0 : List Bool := [false, false, false, false, false, false, false]
def ir83_r0 : List Bool := [false, false, true, false, false, false, false]
def ir83_v : List Nat := [0, 1, 4, 5, 7, 8, 9]
def ir83 : AFn := ⟨2, 7, .seq (.region false [ VO 2 4 (.mov (I6 0))]) (.seq (.seq (.region false [ PM 6 0, VO 4 7 (.len false (.s 0)), VO 5 8 (.mov (I6 0))]) (.block 0 (.loop ir83_k0 ir83_o0 ir83_r0 ir83_b0))) (.seq (.region false [ VO 2 4 (.mov (.c (.int .i64 (-1))))]) (.ret))), [.t 2]⟩
noncomputable def t_45 : List (Nat × Ctr) := [(70, c_44)]
theorem lk_45_70 : look t_45 70 = some c_44 := rfl
noncomputable def c_45 : Ctr := mkF t_45 ir83 [.bor, .bor]
theorem s_45 : Sound Tryz.prog 83 c_45 := mkF_sound _ rfl (snd_cons s_44 snd_nil) (by kernel_rfl : chkFn Tryz.prog 83 ir83 ir83_v = true)
theorem M_45 : c_45.modes = [.bor, .bor] := rfl
theorem Fl_45 : c_45.flat = true := rfl
attribute [go_sem] M_45 Fl_45
attribute [go_sem] lk_45_70
def E_45_l1 (s_ : List Int) (c : Int) (c2 : Int) (t7 : Int) : Int → St
 | t8 => ⟨[.sl 1 (List.map (AV.int .i64) s_), .fn (.func 70) [] [.ptr 1 [.int .i64 c] 0 0, .ptr 1 [.int .i64 c2] 0 0], .any, .any, .int .i64 t7, .int .i64 t8, .any], [], [], true⟩
def R_45_l1 (s_ : List Int) (c : Int) (c2 : Int) (t7 : Int) : (Unit ⊕ Int) → Res
 | .inl y => (.exit 0, ⟨[.any, .any, .any, .any, .any, .any, .any], [], [], true⟩)
 | .inr y => (.ret, ⟨[.any, .any, .int .i64 y, .any, .any, .any, .any], [], [], true⟩)
theorem slices_IndexFunc_int64_int64__impl_allIn_c1_l1_ex {s_ : List Int} {c : Int} {c2 : Int} {t7 : Int} {sgm_ : Int} {rho_ : Unit ⊕ Int} (h : whileE (slices_IndexFunc_int64_int64__impl_allIn_c1_l1 s_ c c2 t7) sgm_ = some rho_) : ∃ L0, ∀ L, L0 ≤ L → iter (exec (look t_45) L ir83_b0) ir83_k0 ir83_o0 ir83_r0 L (E_45_l1 s_ c c2 t7 sgm_) = R_45_l1 s_ c c2 t7 rho_ := by
 refine loop_ex (E := E_45_l1 s_ c c2 t7) (R := R_45_l1 s_ c c2 t7) (fun y => by first | (intro c; cases c) | (rcases y with y | y <;> (intro c; cases c)) | (rcases y with y | y | y <;> (intro c; cases c))) ?_ h
 clear h
 intro t8 o_ h
 dsimp only [slices_IndexFunc_int64_int64__impl_allIn_c1_l1] at h
 rcases it_some h with ⟨z1, h⟩ | ⟨z1, h⟩
 ·try simp only [go_sem, n1, n2, n3, n4] at z1
  all_goals
  obtain ⟨z2, h⟩ := ck_some h
  have lz2 := ix_lt z2
  have xz2 := getD_mapD (AV.int .i64) s_ lz2
  try simp only [go_sem] at lz2
  try simp only [go_sem] at xz2
  try simp only [go_sem, n1, n2, n3, n4, z1] at z2
  all_goals
  obtain ⟨y_3, z3, h⟩ := bd_some h
  have fz3 := Fs_44 z3
  try simp only [go_sem, z1, z2] at fz3
  rcases it_some h with ⟨z4, h⟩ | ⟨z4, h⟩
  ·try simp only [go_sem, n1, n2, n3, n4, z1, z2] at z4
   all_goals
   obtain rfl := so_some h
   refine ⟨0, fun L hL => ?_⟩
   simp only [go_sem, ir83, E_45_l1, R_45_l1, ir83_b0, ir83_k0, ir83_o0, ir83_r0, z1, z2, lz2, xz2, fz3, z4]
  ·try simp only [go_sem, n1, n2, n3, n4, z1, z2] at z4
   all_goals
   obtain rfl := so_some h
   refine ⟨0, fun L hL => ?_⟩
   simp only [go_sem, ir83, E_45_l1, R_45_l1, ir83_b0, ir83_k0, ir83_o0, ir83_r0, z1, z2, lz2, xz2, fz3, z4]
 ·try simp only [go_sem, n1, n2, n3, n4] at z1
  all_goals
  obtain rfl := so_some h
  refine ⟨0, fun L hL => ?_⟩
  simp only [go_sem, ir83, E_45_l1, R_45_l1, ir83_b0, ir83_k0, ir83_o0, ir83_r0, z1]

theorem Fs_45 {s_ : List Int} {f_c0 : Int} {f_c1 : Int} {y_ : Int} (h : slices_IndexFunc_int64_int64__impl_allIn_c1 s_ f_c0 f_c1 = some y_) : c_45.F [.sl 1 (List.map (AV.int .i64) s_), .fn (.func 70) [] [.ptr 1 [.int .i64 f_c0] 0 0, .ptr 1 [.int .i64 f_c1] 0 0]] = ⟨true, .int .i64 y_, [.any, .any]⟩ := by
 refine mkF_E rfl ?_
 dsimp only [slices_IndexFunc_int64_int64__impl_allIn_c1] at h
 obtain ⟨y_5, z5, h⟩ := bd_some h
 obtain ⟨Lz5, ez5⟩ := slices_IndexFunc_int64_int64__impl_allIn_c1_l1_ex z5
 rcases y_5 with y_5a | y_5b
 ·dsimp only at h
  obtain rfl := so_some h
  refine ⟨Lz5, fun L hL => ?_⟩
  have ez5 := ez5 L (by omega)
  try simp only [go_sem, E_45_l1, R_45_l1, ir83_k0, ir83_o0, ir83_r0] at ez5
  simp only [go_sem, ir83, E_45_l1, R_45_l1, ir83_k0, ir83_o0, ir83_r0, ez5]
 ·dsimp only at h
  obtain rfl := so_some h
  refine ⟨Lz5, fun L hL => ?_⟩
  have ez5 := ez5 L (by omega)
  try simp only [go_sem, E_45_l1, R_45_l1, ir83_k0, ir83_o0, ir83_r0] at ez5
  simp only [go_sem, ir83, E_45_l1, R_45_l1, ir83_k0, ir83_o0, ir83_r0, ez5]


def ir69_v : List Nat := [0, 1, 4]
def ir69 : AFn := ⟨2, 3, .seq (.region false [ VO 2 4 (.mov (.c (.bool false)))]) (.seq (.region false [ PM 5 0, PM 6 1, PO 7 (.call 83 [(.s 1), (.s 0)]), PO 8 (.bin false .geq (.s 0) (I6 0)), VS 2 4 0]) (.ret)), [.t 2]⟩
noncomputable def t_46 : List (Nat × Ctr) := [(83, c_45)]
theorem lk_46_83 : look t_46 83 = some c_45 := rfl
noncomputable def c_46 : Ctr := mkF t_46 ir69 [.bor, .bor]
theorem s_46 : Sound Tryz.prog 69 c_46 := mkF_sound _ rfl (snd_cons s_45 snd_nil) (by kernel_rfl : chkFn Tryz.prog 69 ir69 ir69_v = true)
theorem M_46 : c_46.modes = [.bor, .bor] := rfl
theorem Fl_46 : c_46.flat = true := rfl
attribute [go_sem] M_46 Fl_46
attribute [go_sem] lk_46_83
theorem Fs_46 {s_ : List Int} {f_c0 : Int} {f_c1 : Int} {y_ : Bool} (h : slices_ContainsFunc_int64_int64__impl_allIn_c1 s_ f_c0 f_c1 = some y_) : c_46.F [.sl 1 (List.map (AV.int .i64) s_), .fn (.func 70) [] [.ptr 1 [.int .i64 f_c0] 0 0, .ptr 1 [.int .i64 f_c1] 0 0]] = ⟨true, .bool y_, [.any, .any]⟩ := by
 refine mkF_E rfl ?_
 dsimp only [slices_ContainsFunc_int64_int64__impl_allIn_c1] at h
 obtain ⟨y_1, z1, h⟩ := bd_some h
 have fz1 := Fs_45 z1
 try simp only [go_sem] at fz1
 obtain rfl := so_some h
 refine ⟨0, fun L hL => ?_⟩
 simp only [go_sem, ir69, fz1]


def ir44_v : List Nat := [0, 1, 2, 4, 5, 6]
def ir44 : AFn := ⟨3, 6, .seq (.region false [ VO 3 4 (.box (.v 1)), VO 4 5 (.box (.v 2)), VO 5 6 (.mov (.c (.bool false)))]) (.seq (.region false [ PM 7 0, PO 8 (.mkFn (.func 70) [] [(.v 3), (.v 4)]), PO 9 (.call 69 [(.s 1), (.s 0)]), PO 10 (.un .not (.s 0)), VS 5 6 0]) (.ret)), [.t 5]⟩
noncomputable def t_47 : List (Nat × Ctr) := [(69, c_46)]
theorem lk_47_69 : look t_47 69 = some c_46 := rfl
noncomputable def c_47 : Ctr := mkF t_47 ir44 [.bor, .bor, .bor]
theorem s_47 : Sound Tryz.prog 44 c_47 := mkF_sound _ rfl (snd_cons s_46 snd_nil) (by kernel_rfl : chkFn Tryz.prog 44 ir44 ir44_v = true)
theorem M_47 : c_47.modes = [.bor, .bor, .bor] := rfl
theorem Fl_47 : c_47.flat = true := rfl
attribute [go_sem] M_47 Fl_47
attribute [go_sem] lk_47_69
theorem Fs_47 {list : List Int} {low : Int} {high : Int} {y_ : Bool} (h : impl_allIn list low high = some y_) : c_47.F [.sl 1 (List.map (AV.int .i64) list), .int .i64 low, .int .i64 high] = ⟨true, .bool y_, [.any, .any, .any]⟩ := by
 refine mkF_E rfl ?_
 dsimp only [impl_allIn] at h
 obtain ⟨y_1, z1, h⟩ := bd_some h
 have fz1 := Fs_46 z1
 try simp only [go_sem] at fz1
 obtain rfl := so_some h
 refine ⟨0, fun L hL => ?_⟩
 simp only [go_sem, ir44, fz1]


def ir15_b0 : IR := .seq (.region false [ VO 10 29 (.bin false .lss (.v 9) (.v 8))]) (.seq (.cond (.v 10) (.skip) (.exit 1)) (.seq (.block 2 (.seq (.region false [ PM 30 9, PO 31 (.ixAddr 1 (.v 7) (.v 9)), PO 32 (.load false 1 (.s 0)), VS 5 7 2, VS 6 8 0]) (.region false [ PM 33 4, PM 34 5, PM 35 6, PO 36 (.ixAddr 2 (.s 2) (.s 1)), PO 37 (.fldAddr 1 (.s 0)), ⟨.no, 0, none, .store 1 (.s 0) (.s 2)⟩]))) (.region false [ PO 38 (.bin false .add (.v 9) (I6 1)), VS 9 28 0])))
def ir15_k0 : List Bool := [false, false, false, false, true, false, false, true, true, true, false]
def ir15_o0 : List Bool := [false, false, false, false, true, false, false, false, false, false, false]
def ir15_r0 : List Bool := [false, false, true, true, false, false, false, false, false, false, false]
def ir15_v : List Nat := [0, 1, 4, 5, 6, 7, 8, 26, 27, 28, 29]
def ir15 : AFn := ⟨2, 11, .seq (.region false [ VO 2 4 (.newnil 2), VO 3 5 (.mov (I6 0))]) (.seq (.block 0 (.test false [ PM 10 0, PO 11 (.call 26 [(.s 0)]), PO 12 (.un .not (.s 0)), PO 9 (.mov (.s 0))] (.s 0) (.seq (.region false [ VO 2 4 (.newnil 2), VO 3 5 (.mov (I6 1))]) (.ret)) (.test false [ PM 14 1, PO 15 (.len false (.s 0)), PM 16 0, PO 17 (.len false (.s 0)), PO 18 (.bin false .neq (.s 2) (.s 0)), PO 19 (.mov (.s 0)), ⟨.push, 20, (some ((.s 0), false)), .mov (.v 1)⟩, ⟨.push, 21, (some ((.s 1), false)), .call 44 [(.s 0), (.c (.int .i64 (-2000))), (I6 2000)]⟩, ⟨.push, 22, (some ((.s 2),
 false)), .un .not (.s 0)⟩, PO 23 (.pick (.s 3) (.c (.bool true)) (.s 0)), PO 13 (.mov (.s 0))] (.s 0) (.seq (.region false [ VO 2 4 (.newnil 2), VO 3 5 (.mov (I6 2))]) (.ret)) (.skip)))) (.seq (.region false [ PM 24 0, PO 25 (.call 45 [(.s 0)]), VS 4 6 0]) (.seq (.seq (.region false [ VO 7 26 (.mov (.v 1)), VO 8 27 (.len false (.v 7)), VO 9 28 (.mov (I6 0))]) (.block 1 (.loop ir15_k0 ir15_o0 ir15_r0 ir15_b0))) (.seq (.region false [ PM 39 4, VS 2 4 0, VO 3 5 (.mov (I6 0))]) (.ret))))), [.t 2, .t 3]⟩
noncomputable def t_48 : List (Nat × Ctr) := [(26, c_17), (44, c_47), (45, c_22)]
theorem lk_48_26 : look t_48 26 = some c_17 := rfl
theorem lk_48_44 : look t_48 44 = some c_47 := rfl
theorem lk_48_45 : look t_48 45 = some c_22 := rfl
noncomputable def c_48 : Ctr := mkF t_48 ir15 [.bor, .bor]
theorem s_48 : Sound Tryz.prog 15 c_48 := mkF_sound _ rfl (snd_cons s_17 (snd_cons s_47 (snd_cons s_22 snd_nil))) (by kernel_rfl : chkFn Tryz.prog 15 ir15 ir15_v = true)
theorem M_48 : c_48.modes = [.bor, .bor] := rfl
theorem Fl_48 : c_48.flat = true := rfl
attribute [go_sem] M_48 Fl_48
attribute [go_sem] lk_48_26 lk_48_44 lk_48_45
def E_48_l1 (t26 : List Int) (t27 : Int) : ((List Observer) × Int) → St
 | (out, t28) => ⟨[.any, .any, .any, .any, .own 3200000, .any, .any, .sl 1 (List.map (AV.int .i64) t26), .int .i64 t27, .int .i64 t28, .any], [], [(3200000, ⟨2, List.map Observer_av out⟩)], true⟩
def R_48_l1 (t26 : List Int) (t27 : Int) (y : (List Observer)) : Res := (.exit 1, ⟨[.any, .any, .any, .any, .own 3200000, .any, .any, .any, .any, .any, .any], [], [(3200000, ⟨2, List.map Observer_av y⟩)], true⟩)
theorem impl_ApplyShifts_l1_ex {t26 : List Int} {t27 : Int} {sgm_ : (List Observer) × Int} {rho_ : (List Observer)} (h : whileE (impl_ApplyShifts_l1 t26 t27) sgm_ = some rho_) : ∃ L0, ∀ L, L0 ≤ L → iter (exec (look t_48) L ir15_b0) ir15_k0 ir15_o0 ir15_r0 L (E_48_l1 t26 t27 sgm_) = R_48_l1 t26 t27 rho_ := by
 refine loop_ex (E := E_48_l1 t26 t27) (R := R_48_l1 t26 t27) (fun y => by first | (intro c; cases c) | (rcases y with y | y <;> (intro c; cases c)) | (rcases y with y | y | y <;> (intro c; cases c))) ?_ h
 clear h
 rintro ⟨out, t28⟩ o_ h
 dsimp only [impl_ApplyShifts_l1] at h
 rcases it_some h with ⟨z6, h⟩ | ⟨z6, h⟩
 ·try simp only [go_sem, n1, n2, n3, n4] at z6
  all_goals
  obtain ⟨z7, h⟩ := ck_some h
  have lz7 := ix_lt z7
  have xz7 := getD_mapD (AV.int .i64) t26 lz7
  try simp only [go_sem] at lz7
  try simp only [go_sem] at xz7
  try simp only [go_sem, n1, n2, n3, n4, z6] at z7
  all_goals
  obtain ⟨z8, h⟩ := ck_some h
  have lz8 := ix_lt z8
  have xz8 := getD_mapD Observer_av out lz8
  try simp only [go_sem] at lz8
  try simp only [go_sem] at xz8
  try simp only [go_sem, n1, n2, n3, n4, z6, z7] at z8
  all_goals
  obtain rfl := so_some h
  refine ⟨0, fun L hL => ?_⟩
  simp only [go_sem, ir15, E_48_l1, R_48_l1, ir15_b0, ir15_k0, ir15_o0, ir15_r0, z6, z7, lz7, xz7, z8, lz8, xz8]
 ·try simp only [go_sem, n1, n2, n3, n4] at z6
  all_goals
  obtain rfl := so_some h
  refine ⟨0, fun L hL => ?_⟩
  simp only [go_sem, ir15, E_48_l1, R_48_l1, ir15_b0, ir15_k0, ir15_o0, ir15_r0, z6]

theorem Fs_48 {list : List Observer} {shifts : List Int} {y_ : (List Observer) × Int} (h : impl_ApplyShifts list shifts = some y_) : c_48.F [.sl 2 (List.map Observer_av list), .sl 1 (List.map (AV.int .i64) shifts)] = ⟨true, .tup [.fresh 2 (List.map Observer_av y_.1), .int .i64 y_.2], [.any, .any]⟩ := by
 refine mkF_E (by simp only [flatA, flatB, flat1, List.all_cons, List.all_nil, Bool.and_self, flatE_map (f := Observer_av) (fun _ => rfl)]) ?_
 dsimp only [impl_ApplyShifts] at h
 obtain ⟨y_1, z1, h⟩ := bd_some h
 have fz1 := Fs_17 z1
 try simp only [go_sem] at fz1
 rcases it_some h with ⟨z2, h⟩ | ⟨z2, h⟩
 ·try simp only [go_sem, n1, n2, n3, n4] at z2
  all_goals
  obtain rfl := so_some h
  refine ⟨0, fun L hL => ?_⟩
  simp only [go_sem, ir15, E_48_l1, R_48_l1, ir15_k0, ir15_o0, ir15_r0, fz1, z2]
 ·try simp only [go_sem, n1, n2, n3, n4] at z2
  all_goals
  obtain ⟨z3, h⟩ := ck_some h
  rcases or_split z3 with ⟨gz3, z3⟩ | gz3
  ·try simp only [go_sem, n1, n2, n3, n4, z2] at gz3
   all_goals
   obtain ⟨y_3, hz3⟩ := Option.isSome_iff_exists.1 z3
   have fz3 := Fs_47 hz3
   try simp only [go_sem, n1, n2, n3, n4, z2, gz3] at hz3
   all_goals
   try simp only [go_sem, z2, gz3] at fz3
   rcases it_some h with ⟨z4, h⟩ | ⟨z4, h⟩
   ·try simp only [go_sem, n1, n2, n3, n4, z2, gz3, hz3] at z4
    all_goals
    obtain rfl := so_some h
    refine ⟨0, fun L hL => ?_⟩
    simp only [go_sem, ir15, E_48_l1, R_48_l1, ir15_k0, ir15_o0, ir15_r0, fz1, z2, gz3, hz3, fz3, z4]
   ·try simp only [go_sem, n1, n2, n3, n4, z2, gz3, hz3] at z4
    all_goals
    obtain ⟨y_5, z5, h⟩ := bd_some h
    have fz5 := Fs_22 z5
    try simp only [go_sem, z2, gz3, hz3, z4] at fz5
    obtain ⟨y_9, z9, h⟩ := bd_some h
    obtain ⟨Lz9, ez9⟩ := impl_ApplyShifts_l1_ex z9
    obtain rfl := so_some h
    refine ⟨Lz9, fun L hL => ?_⟩
    have ez9 := ez9 L (by omega)
    try simp only [go_sem, E_48_l1, R_48_l1, ir15_k0, ir15_o0, ir15_r0, z2, gz3, hz3, z4] at ez9
    simp only [go_sem, ir15, E_48_l1, R_48_l1, ir15_k0, ir15_o0, ir15_r0, fz1, z2, gz3, hz3, fz3, z4, fz5, ez9]
  ·have gz3n := no_f gz3
   have gz3nn := no_t gz3n
   try simp only [go_sem, n1, n2, n3, n4, z2] at gz3nn
   all_goals
   rcases it_some h with ⟨z4, h⟩ | ⟨z4, h⟩
   ·try simp only [go_sem, n1, n2, n3, n4, z2, gz3nn] at z4
    all_goals
    obtain rfl := so_some h
    refine ⟨0, fun L hL => ?_⟩
    simp only [go_sem, ir15, E_48_l1, R_48_l1, ir15_k0, ir15_o0, ir15_r0, fz1, z2, gz3nn, z4]
   ·try simp only [go_sem, n1, n2, n3, n4, z2, gz3nn] at z4
    all_goals
    (simp_all)


def ir46_b0 : IR := .seq (.test false [ PM 6 3, PM 7 0, PO 8 (.len false (.s 0)), PO 9 (.bin false .lss (.s 2) (.s 0))] (.s 0) (.skip) (.exit 0)) (.seq (.block 1 (.test false [ PM 12 0, PM 13 3, PO 14 (.ixAddr 1 (.s 1) (.s 0)), PO 15 (.load false 1 (.s 0)), PM 16 1, PO 17 (.un .neg (.s 0)), PM 18 1, PO 19 (.call 68 [(.s 3), (.s 1), (.s 0)]), PO 20 (.un .not (.s 0))] (.s 0) (.seq (.region false [ VO 2 4 (.mov (.c (.bool false)))]) (.ret)) (.skip))) (.region false [ PM 10 3, PO 11 (.bin false .add (.s 0) (I6 1)), VS 3 5 0]))
def ir46_k0 : List Bool := [true, true, false, true]
def ir46_o0 : List Bool := [false, false, false, false]
def ir46_r0 : List Bool := [false, false, true, false]
def ir46_v : List Nat := [0, 1, 4, 5]
def ir46 : AFn := ⟨2, 4, .seq (.region false [ VO 2 4 (.mov (.c (.bool false)))]) (.seq (.seq (.region false [ VO 3 5 (.mov (I6 0))]) (.block 0 (.loop ir46_k0 ir46_o0 ir46_r0 ir46_b0))) (.seq (.region false [ VO 2 4 (.mov (.c (.bool true)))]) (.ret))), [.t 2]⟩
noncomputable def t_49 : List (Nat × Ctr) := [(68, c_29)]
theorem lk_49_68 : look t_49 68 = some c_29 := rfl
noncomputable def c_49 : Ctr := mkF t_49 ir46 [.bor, .bor]
theorem s_49 : Sound Tryz.prog 46 c_49 := mkF_sound _ rfl (snd_cons s_29 snd_nil) (by kernel_rfl : chkFn Tryz.prog 46 ir46 ir46_v = true)
theorem M_49 : c_49.modes = [.bor, .bor] := rfl
theorem Fl_49 : c_49.flat = true := rfl
attribute [go_sem] M_49 Fl_49
attribute [go_sem] lk_49_68
def E_49_l1 (shifts : List Int) (most : Int) : Int → St
 | i => ⟨[.sl 1 (List.map (AV.int .i64) shifts), .int .i64 most, .any, .int .i64 i], [], [], true⟩
def R_49_l1 (shifts : List Int) (most : Int) : (Unit ⊕ Bool) → Res
 | .inl y => (.exit 0, ⟨[.any, .any, .any, .any], [], [], true⟩)
 | .inr y => (.ret, ⟨[.any, .any, .bool y, .any], [], [], true⟩)
theorem spec_l05Shifts_l1_ex {shifts : List Int} {most : Int} {sgm_ : Int} {rho_ : Unit ⊕ Bool} (h : whileE (spec_l05Shifts_l1 shifts most) sgm_ = some rho_) : ∃ L0, ∀ L, L0 ≤ L → iter (exec (look t_49) L ir46_b0) ir46_k0 ir46_o0 ir46_r0 L (E_49_l1 shifts most sgm_) = R_49_l1 shifts most rho_ := by
 refine loop_ex (E := E_49_l1 shifts most) (R := R_49_l1 shifts most) (fun y => by first | (intro c; cases c) | (rcases y with y | y <;> (intro c; cases c)) | (rcases y with y | y | y <;> (intro c; cases c))) ?_ h
 clear h
 intro i o_ h
 dsimp only [spec_l05Shifts_l1] at h
 rcases it_some h with ⟨z1, h⟩ | ⟨z1, h⟩
 ·try simp only [go_sem, n1, n2, n3, n4] at z1
  all_goals
  obtain ⟨z2, h⟩ := ck_some h
  have lz2 := ix_lt z2
  have xz2 := getD_mapD (AV.int .i64) shifts lz2
  try simp only [go_sem] at lz2
  try simp only [go_sem] at xz2
  try simp only [go_sem, n1, n2, n3, n4, z1] at z2
  all_goals
  obtain ⟨y_3, z3, h⟩ := bd_some h
  have fz3 := Fs_29 z3
  try simp only [go_sem, z1, z2] at fz3
  rcases it_some h with ⟨z4, h⟩ | ⟨z4, h⟩
  ·try simp only [go_sem, n1, n2, n3, n4, z1, z2] at z4
   all_goals
   obtain rfl := so_some h
   refine ⟨0, fun L hL => ?_⟩
   simp only [go_sem, ir46, E_49_l1, R_49_l1, ir46_b0, ir46_k0, ir46_o0, ir46_r0, z1, z2, lz2, xz2, fz3, z4]
  ·try simp only [go_sem, n1, n2, n3, n4, z1, z2] at z4
   all_goals
   obtain rfl := so_some h
   refine ⟨0, fun L hL => ?_⟩
   simp only [go_sem, ir46, E_49_l1, R_49_l1, ir46_b0, ir46_k0, ir46_o0, ir46_r0, z1, z2, lz2, xz2, fz3, z4]
 ·try simp only [go_sem, n1, n2, n3, n4] at z1
  all_goals
  obtain rfl := so_some h
  refine ⟨0, fun L hL => ?_⟩
  simp only [go_sem, ir46, E_49_l1, R_49_l1, ir46_b0, ir46_k0, ir46_o0, ir46_r0, z1]

theorem Fs_49 {shifts : List Int} {most : Int} {y_ : Bool} (h : spec_l05Shifts shifts most = some y_) : c_49.F [.sl 1 (List.map (AV.int .i64) shifts), .int .i64 most] = ⟨true, .bool y_, [.any, .any]⟩ := by
 refine mkF_E rfl ?_
 dsimp only [spec_l05Shifts] at h
 obtain ⟨y_5, z5, h⟩ := bd_some h
 obtain ⟨Lz5, ez5⟩ := spec_l05Shifts_l1_ex z5
 rcases y_5 with y_5a | y_5b
 ·dsimp only at h
  obtain rfl := so_some h
  refine ⟨Lz5, fun L hL => ?_⟩
  have ez5 := ez5 L (by omega)
  try simp only [go_sem, E_49_l1, R_49_l1, ir46_k0, ir46_o0, ir46_r0] at ez5
  simp only [go_sem, ir46, E_49_l1, R_49_l1, ir46_k0, ir46_o0, ir46_r0, ez5]
 ·dsimp only at h
  obtain rfl := so_some h
  refine ⟨Lz5, fun L hL => ?_⟩
  have ez5 := ez5 L (by omega)
  try simp only [go_sem, E_49_l1, R_49_l1, ir46_k0, ir46_o0, ir46_r0] at ez5
  simp only [go_sem, ir46, E_49_l1, R_49_l1, ir46_k0, ir46_o0, ir46_r0, ez5]


def ir16_b0 : IR := .seq (.test false [ PM 22 5, PM 23 0, PO 24 (.len false (.s 0)), PO 25 (.bin false .lss (.s 2) (.s 0))] (.s 0) (.skip) (.exit 0)) (.seq (.block 1 (.anyo 13 [ SO 0 28 (.mov (.v 4)), SO 1 29 (.mov (.v 0)), SO 2 30 (.mov (.v 5)), SO 3 31 (.ixAddr 2 (.s 1) (.s 2)), SO 4 32 (.fldAddr 0 (.s 3)), SO 5 33 (.load false 1 (.s 4)), SO 6 34 (.mov (.v 1)), SO 7 35 (.mov (.v 5)), SO 8 36 (.ixAddr 1 (.s 6) (.s 7)), SO 9 37 (.load false 1 (.s 8)), SO 10 38 (.pur (.build [.str [], .int .i64 (0)] [(0, 1, (.s 5)), (1, 1, (.s 9))])), SO 11 39 (.pur (.mkSl 2 (.agg [.str [], .int .i64 (0)]) 1
 [(0, (.s 10))])), SO 12 40 (.app 2 24 (.agg [.str [], .int .i64 (0)]) (.s 0) (.s 11)), VS 4 6 12] [] .skip)) (.region false [ PM 26 5, PO 27 (.bin false .add (.s 0) (I6 1)), VS 5 7 0]))
def ir16_k0 : List Bool := [true, true, false, false, true, true]
def ir16_o0 : List Bool := [false, false, false, false, true, false]
def ir16_r0 : List Bool := [false, false, true, true, false, false]
def ir16_v : List Nat := [0, 1, 4, 5, 6, 7]
def ir16 : AFn := ⟨2, 6, .seq (.region false [ VO 2 4 (.newnil 2), VO 3 5 (.mov (I6 0))]) (.seq (.test false [ PM 8 0, PO 9 (.call 38 [(.s 0)]), PO 10 (.un .not (.s 0))] (.s 0) (.seq (.region false [ VO 2 4 (.newnil 2), VO 3 5 (.mov (I6 1))]) (.ret)) (.skip)) (.seq (.test false [ PM 11 1, PO 12 (.len false (.s 0)), PM 13 0, PO 14 (.len false (.s 0)), PO 15 (.bin false .neq (.s 2) (.s 0)), PO 16 (.mov (.s 0)), ⟨.push, 17, (some ((.s 0), false)), .mov (.v 1)⟩, ⟨.push, 18, (some ((.s 1), false)), .call 46 [(.s 0), (I6 2000)]⟩, ⟨.push, 19, (some ((.s 2), false)), .un .not (.s 0)⟩, PO 20 (.pick (.s
 3) (.c (.bool true)) (.s 0))] (.s 0) (.seq (.region false [ VO 2 4 (.newnil 2), VO 3 5 (.mov (I6 2))]) (.ret)) (.skip)) (.seq (.region false [ PO 21 (.mkSl 2 (.agg [.str [], .int .i64 (0)]) 0 []), VS 4 6 0]) (.seq (.seq (.region false [ VO 5 7 (.mov (I6 0))]) (.block 0 (.loop ir16_k0 ir16_o0 ir16_r0 ir16_b0))) (.seq (.region false [ PM 41 4, VS 2 4 0, VO 3 5 (.mov (I6 0))]) (.ret)))))), [.t 2, .t 3]⟩
noncomputable def t_50 : List (Nat × Ctr) := [(38, c_31), (46, c_49)]
theorem lk_50_38 : look t_50 38 = some c_31 := rfl
theorem lk_50_46 : look t_50 46 = some c_49 := rfl
noncomputable def c_50 : Ctr := mkF t_50 ir16 [.bor, .bor]
theorem s_50 : Sound Tryz.prog 16 c_50 := mkF_sound _ rfl (snd_cons s_31 (snd_cons s_49 snd_nil)) (by kernel_rfl : chkFn Tryz.prog 16 ir16 ir16_v = true)
theorem M_50 : c_50.modes = [.bor, .bor] := rfl
theorem Fl_50 : c_50.flat = true := rfl
attribute [go_sem] M_50 Fl_50
attribute [go_sem] lk_50_38 lk_50_46
def E_50_l1 (list : List Observer) (shifts : List Int) : ((List Observer) × Int) → St
 | (out, i) => ⟨[.sl 2 (List.map Observer_av list), .sl 1 (List.map (AV.int .i64) shifts), .any, .any, .own 3200000, .int .i64 i], [], [(3200000, ⟨2, List.map Observer_av out⟩)], true⟩
def R_50_l1 (list : List Observer) (shifts : List Int) (y : (List Observer)) : Res := (.exit 0, ⟨[.any, .any, .any, .any, .own 3200000, .any], [], [(3200000, ⟨2, List.map Observer_av y⟩)], true⟩)
theorem spec_ApplyShifts_l1_ex {list : List Observer} {shifts : List Int} {sgm_ : (List Observer) × Int} {rho_ : (List Observer)} (h : whileE (spec_ApplyShifts_l1 list shifts) sgm_ = some rho_) : ∃ L0, ∀ L, L0 ≤ L → iter (exec (look t_50) L ir16_b0) ir16_k0 ir16_o0 ir16_r0 L (E_50_l1 list shifts sgm_) = R_50_l1 list shifts rho_ := by
 refine loop_ex (E := E_50_l1 list shifts) (R := R_50_l1 list shifts) (fun y => by first | (intro c; cases c) | (rcases y with y | y <;> (intro c; cases c)) | (rcases y with y | y | y <;> (intro c; cases c))) ?_ h
 clear h
 rintro ⟨out, i⟩ o_ h
 dsimp only [spec_ApplyShifts_l1] at h
 rcases it_some h with ⟨z5, h⟩ | ⟨z5, h⟩
 ·try simp only [go_sem, n1, n2, n3, n4] at z5
  all_goals
  obtain ⟨z6, h⟩ := ck_some h
  have lz6 := ix_lt z6
  have xz6 := getD_mapD Observer_av list lz6
  try simp only [go_sem] at lz6
  try simp only [go_sem] at xz6
  try simp only [go_sem, n1, n2, n3, n4, z5] at z6
  all_goals
  obtain ⟨z7, h⟩ := ck_some h
  have lz7 := ix_lt z7
  have xz7 := getD_mapD (AV.int .i64) shifts lz7
  try simp only [go_sem] at lz7
  try simp only [go_sem] at xz7
  try simp only [go_sem, n1, n2, n3, n4, z5, z6] at z7
  all_goals
  obtain ⟨z8, h⟩ := ck_some h
  try simp only [go_sem, n1, n2, n3, n4, z5, z6, z7] at z8
  all_goals
  obtain rfl := so_some h
  refine ⟨0, fun L hL => ?_⟩
  simp only [go_sem, ir16, E_50_l1, R_50_l1, ir16_b0, ir16_k0, ir16_o0, ir16_r0, z5, z6, lz6, xz6, z7, lz7, xz7, z8]
 ·try simp only [go_sem, n1, n2, n3, n4] at z5
  all_goals
  obtain rfl := so_some h
  refine ⟨0, fun L hL => ?_⟩
  simp only [go_sem, ir16, E_50_l1, R_50_l1, ir16_b0, ir16_k0, ir16_o0, ir16_r0, z5]

theorem Fs_50 {list : List Observer} {shifts : List Int} {y_ : (List Observer) × Int} (h : spec_ApplyShifts list shifts = some y_) : c_50.F [.sl 2 (List.map Observer_av list), .sl 1 (List.map (AV.int .i64) shifts)] = ⟨true, .tup [.fresh 2 (List.map Observer_av y_.1), .int .i64 y_.2], [.any, .any]⟩ := by
 refine mkF_E (by simp only [flatA, flatB, flat1, List.all_cons, List.all_nil, Bool.and_self, flatE_map (f := Observer_av) (fun _ => rfl)]) ?_
 dsimp only [spec_ApplyShifts] at h
 obtain ⟨y_1, z1, h⟩ := bd_some h
 have fz1 := Fs_31 z1
 try simp only [go_sem] at fz1
 rcases it_some h with ⟨z2, h⟩ | ⟨z2, h⟩
 ·try simp only [go_sem, n1, n2, n3, n4] at z2
  all_goals
  obtain rfl := so_some h
  refine ⟨0, fun L hL => ?_⟩
  simp only [go_sem, ir16, E_50_l1, R_50_l1, ir16_k0, ir16_o0, ir16_r0, fz1, z2]
 ·try simp only [go_sem, n1, n2, n3, n4] at z2
  all_goals
  obtain ⟨z3, h⟩ := ck_some h
  rcases or_split z3 with ⟨gz3, z3⟩ | gz3
  ·try simp only [go_sem, n1, n2, n3, n4, z2] at gz3
   all_goals
   obtain ⟨y_3, hz3⟩ := Option.isSome_iff_exists.1 z3
   have fz3 := Fs_49 hz3
   try simp only [go_sem, n1, n2, n3, n4, z2, gz3] at hz3
   all_goals
   try simp only [go_sem, z2, gz3] at fz3
   rcases it_some h with ⟨z4, h⟩ | ⟨z4, h⟩
   ·try simp only [go_sem, n1, n2, n3, n4, z2, gz3, hz3] at z4
    all_goals
    obtain rfl := so_some h
    refine ⟨0, fun L hL => ?_⟩
    simp only [go_sem, ir16, E_50_l1, R_50_l1, ir16_k0, ir16_o0, ir16_r0, fz1, z2, gz3, hz3, fz3, z4]
   ·try simp only [go_sem, n1, n2, n3, n4, z2, gz3, hz3] at z4
    all_goals
    obtain ⟨y_9, z9, h⟩ := bd_some h
    obtain ⟨Lz9, ez9⟩ := spec_ApplyShifts_l1_ex z9
    obtain rfl := so_some h
    refine ⟨Lz9, fun L hL => ?_⟩
    have ez9 := ez9 L (by omega)
    try simp only [go_sem, E_50_l1, R_50_l1, ir16_k0, ir16_o0, ir16_r0, z2, gz3, hz3, z4] at ez9
    simp only [go_sem, ir16, E_50_l1, R_50_l1, ir16_k0, ir16_o0, ir16_r0, fz1, z2, gz3, hz3, fz3, z4, ez9]
  ·have gz3n := no_f gz3
   have gz3nn := no_t gz3n
   try simp only [go_sem, n1, n2, n3, n4, z2] at gz3nn
   all_goals
   rcases it_some h with ⟨z4, h⟩ | ⟨z4, h⟩
   ·try simp only [go_sem, n1, n2, n3, n4, z2, gz3nn] at z4
    all_goals
    obtain rfl := so_some h
    refine ⟨0, fun L hL => ?_⟩
    simp only [go_sem, ir16, E_50_l1, R_50_l1, ir16_k0, ir16_o0, ir16_r0, fz1, z2, gz3nn, z4]
   ·try simp only [go_sem, n1, n2, n3, n4, z2, gz3nn] at z4
    all_goals
    (simp_all)


def ir47_v : List Nat := [0, 2, 3]
def ir47 : AFn := ⟨1, 3, .seq (.region false [ VO 1 2 (.alloc (.agg [.str [], .int .i64 (0)]))]) (.seq (.region false [ PM 4 0, PO 5 (.call 29 [(.s 0)]), VS 2 3 0]) (.seq (.test false [ PM 6 2, PO 7 (.len false (.s 0)), PO 8 (.bin false .eql (.s 0) (I6 0))] (.s 0) (.seq (.region false [ PO 9 (.build [.str [], .int .i64 (0)] [(0, 1, (.c (.str [120])))]), ⟨.no, 0, none, .store 2 (.v 1) (.s 0)⟩]) (.ret)) (.skip)) (.seq (.region false [ PM 10 2, PM 11 0, PM 12 2, PO 13 (.len false (.s 0)), PO 14 (.call 31 [(.s 2), (.s 0)]), PO 15 (.ixAddr 2 (.s 4) (.s 0)), PO 16 (.load true 2 (.s 0)), ⟨.no, 0,
 none, .store 2 (.v 1) (.s 0)⟩]) (.ret)))), [.cell true 2 1]⟩
noncomputable def t_51 : List (Nat × Ctr) := [(29, c_9), (31, c_3)]
theorem lk_51_29 : look t_51 29 = some c_9 := rfl
theorem lk_51_31 : look t_51 31 = some c_3 := rfl
noncomputable def c_51 : Ctr := mkN t_51 ir47 [.io]
theorem s_51 : Sound Tryz.prog 47 c_51 := mkN_sound _ (snd_cons s_9 (snd_cons s_3 snd_nil)) (by kernel_rfl : chkFn Tryz.prog 47 ir47 ir47_v = true)
theorem M_51 : c_51.modes = [.io] := rfl
theorem Fl_51 : c_51.flat = false := rfl
attribute [go_sem] M_51 Fl_51
attribute [go_sem] lk_51_29 lk_51_31
theorem Fs_51 {s_ : L00Src} {y_ : Observer × L00Src} (h : spec_l05Other s_ = some y_) : c_51.F [.mem 3 [L00Src_av s_] 0] = ⟨true, Observer_av y_.1, [.mem 3 [L00Src_av y_.2] 0]⟩ := by
 refine mkN_E ?_
 dsimp only [spec_l05Other] at h
 obtain ⟨y_1, z1, h⟩ := bd_some h
 have fz1 := Fs_9 z1
 try simp only [go_sem] at fz1
 rcases it_some h with ⟨z2, h⟩ | ⟨z2, h⟩
 ·try simp only [go_sem, n1, n2, n3, n4] at z2
  all_goals
  obtain rfl := so_some h
  refine ⟨0, fun L hL => ?_⟩
  simp only [go_sem, ir47, fz1, z2]
 ·try simp only [go_sem, n1, n2, n3, n4] at z2
  all_goals
  obtain ⟨y_3, z3, h⟩ := bd_some h
  have fz3 := Fs_3 z3
  try simp only [go_sem, z2] at fz3
  obtain ⟨z4, h⟩ := ck_some h
  have lz4 := ix_lt z4
  have xz4 := getD_mapD Observer_av y_1.1 lz4
  try simp only [go_sem] at lz4
  try simp only [go_sem] at xz4
  try simp only [go_sem, n1, n2, n3, n4, z2] at z4
  all_goals
  obtain rfl := so_some h
  refine ⟨0, fun L hL => ?_⟩
  simp only [go_sem, ir47, fz1, z2, fz3, z4, lz4, xz4]


def ir17_v : List Nat := [0, 2]
def ir17 : AFn := ⟨1, 2, .seq (.region false [ VO 1 2 (.alloc (.agg [.str [], .int .i64 (0)]))]) (.seq (.region false [ PM 3 0, PO 4 (.call 28 [(.s 0)]), PO 5 (.call 47 [(.s 0)]), ⟨.no, 0, none, .store 2 (.v 1) (.s 0)⟩]) (.ret)), [.cell true 2 1]⟩
noncomputable def t_52 : List (Nat × Ctr) := [(28, c_1), (47, c_51)]
theorem lk_52_28 : look t_52 28 = some c_1 := rfl
theorem lk_52_47 : look t_52 47 = some c_51 := rfl
noncomputable def c_52 : Ctr := mkN t_52 ir17 [.bor]
theorem s_52 : Sound Tryz.prog 17 c_52 := mkN_sound _ (snd_cons s_1 (snd_cons s_51 snd_nil)) (by kernel_rfl : chkFn Tryz.prog 17 ir17 ir17_v = true)
theorem M_52 : c_52.modes = [.bor] := rfl
theorem Fl_52 : c_52.flat = false := rfl
attribute [go_sem] M_52 Fl_52
attribute [go_sem] lk_52_28 lk_52_47
theorem Fs_52 {code : List UInt8} {y_ : Observer} (h : spec_DrawObserverText code = some y_) : c_52.F [.sl 1 (List.map byteAV code)] = ⟨true, Observer_av y_, [.any]⟩ := by
 refine mkN_E ?_
 dsimp only [spec_DrawObserverText] at h
 obtain ⟨y_1, z1, h⟩ := bd_some h
 have fz1 := Fs_1 z1
 try simp only [go_sem] at fz1
 obtain ⟨y_2, z2, h⟩ := bd_some h
 have fz2 := Fs_51 z2
 try simp only [go_sem] at fz2
 obtain rfl := so_some h
 refine ⟨0, fun L hL => ?_⟩
 simp only [go_sem, ir17, fz1, fz2]


def ir49_v : List Nat := [0, 2]
def ir49 : AFn := ⟨1, 2, .seq (.region false [ VO 1 2 (.mov (I6 0))]) (.seq (.test false [ PM 3 0, PO 4 (.bin false .lss (.s 0) (I6 0))] (.s 0) (.seq (.region false [ PM 5 0, PO 6 (.un .neg (.s 0)), VS 1 2 0]) (.ret)) (.skip)) (.seq (.region false [ PM 7 0, VS 1 2 0]) (.ret))), [.t 1]⟩
noncomputable def t_53 : List (Nat × Ctr) := []
noncomputable def c_53 : Ctr := mkF t_53 ir49 [.bor]
theorem s_53 : Sound Tryz.prog 49 c_53 := mkF_sound _ rfl snd_nil (by kernel_rfl : chkFn Tryz.prog 49 ir49 ir49_v = true)
theorem M_53 : c_53.modes = [.bor] := rfl
theorem Fl_53 : c_53.flat = true := rfl
attribute [go_sem] M_53 Fl_53
theorem Fs_53 {n : Int} {y_ : Int} (h : impl_abs n = some y_) : c_53.F [.int .i64 n] = ⟨true, .int .i64 y_, [.any]⟩ := by
 refine mkF_E rfl ?_
 dsimp only [impl_abs] at h
 rcases it_some h with ⟨z1, h⟩ | ⟨z1, h⟩
 ·try simp only [go_sem, n1, n2, n3, n4] at z1
  all_goals
  obtain rfl := so_some h
  refine ⟨0, fun L hL => ?_⟩
  simp only [go_sem, ir49, z1]
 ·try simp only [go_sem, n1, n2, n3, n4] at z1
  all_goals
  obtain rfl := so_some h
  refine ⟨0, fun L hL => ?_⟩
  simp only [go_sem, ir49, z1]


theorem s_hFmt : Sound Tryz.prog 84 c_hFmt := hFmt_is

def ir71_v : List Nat := [0, 1, 4]
def ir71 : AFn := ⟨2, 3, .seq (.region false [ VO 2 4 (.mov (.c (.str [])))]) (.seq (.region false [ PM 5 0, PM 6 1, PO 7 (.call 84 [(.s 1), (.s 0)]), VS 2 4 0]) (.ret)), [.t 2]⟩
noncomputable def t_55 : List (Nat × Ctr) := [(84, c_hFmt)]
theorem lk_55_84 : look t_55 84 = some c_hFmt := rfl
noncomputable def c_55 : Ctr := mkF t_55 ir71 [.bor, .bor]
theorem s_55 : Sound Tryz.prog 71 c_55 := mkF_sound _ rfl (snd_cons s_hFmt snd_nil) (by kernel_rfl : chkFn Tryz.prog 71 ir71 ir71_v = true)
theorem M_55 : c_55.modes = [.bor, .bor] := rfl
theorem Fl_55 : c_55.flat = true := rfl
attribute [go_sem] M_55 Fl_55
attribute [go_sem] lk_55_84
theorem Fs_55 {i : Int} {base : Int} {y_ : (List UInt8)} (h : strconv_FormatInt i base = some y_) : c_55.F [.int .i64 i, .int .i64 base] = ⟨true, .str y_, [.any, .any]⟩ := by
 refine mkF_E rfl ?_
 dsimp only [strconv_FormatInt] at h
 obtain ⟨y_1, z1, h⟩ := bd_some h
 have fz1 := Fs_hFmt z1
 try simp only [go_sem] at fz1
 obtain rfl := so_some h
 refine ⟨0, fun L hL => ?_⟩
 simp only [go_sem, ir71, fz1]


def ir48_v : List Nat := [0, 2]
def ir48 : AFn := ⟨1, 2, .seq (.region false [ VO 1 2 (.mov (.c (.str [])))]) (.seq (.region false [ PM 3 0, PO 4 (.call 71 [(.s 0), (I6 10)]), VS 1 2 0]) (.ret)), [.t 1]⟩
noncomputable def t_56 : List (Nat × Ctr) := [(71, c_55)]
theorem lk_56_71 : look t_56 71 = some c_55 := rfl
noncomputable def c_56 : Ctr := mkF t_56 ir48 [.bor]
theorem s_56 : Sound Tryz.prog 48 c_56 := mkF_sound _ rfl (snd_cons s_55 snd_nil) (by kernel_rfl : chkFn Tryz.prog 48 ir48 ir48_v = true)
theorem M_56 : c_56.modes = [.bor] := rfl
theorem Fl_56 : c_56.flat = true := rfl
attribute [go_sem] M_56 Fl_56
attribute [go_sem] lk_56_71
theorem Fs_56 {n : Int} {y_ : (List UInt8)} (h : impl_Decimal n = some y_) : c_56.F [.int .i64 n] = ⟨true, .str y_, [.any]⟩ := by
 refine mkF_E rfl ?_
 dsimp only [impl_Decimal] at h
 obtain ⟨y_1, z1, h⟩ := bd_some h
 have fz1 := Fs_55 z1
 try simp only [go_sem] at fz1
 obtain rfl := so_some h
 refine ⟨0, fun L hL => ?_⟩
 simp only [go_sem, ir48, fz1]


def ir18_v : List Nat := [0, 1, 2, 3]
def ir18 : AFn := ⟨1, 4, .seq (.region false [ VO 1 1 (.box (.v 0)), VO 2 2 (.mov (.c (.str [])))]) (.seq (.test false [ PO 4 (.load true 2 (.v 1)), PO 5 (.call 34 [(.s 0)]), PO 6 (.un .not (.s 0))] (.s 0) (.seq (.region false [ VO 2 2 (.mov (.c (.str [])))]) (.ret)) (.skip)) (.seq (.region false [ VO 3 3 (.mov (.c (.str [32, 43])))]) (.seq (.test false [ PO 7 (.fldAddr 1 (.v 1)), PO 8 (.load false 1 (.s 0)), PO 9 (.bin false .lss (.s 0) (I6 0))] (.s 0) (.region false [ VO 3 3 (.mov (.c (.str [32, 45])))]) (.skip)) (.seq (.anyo 9 [ SO 0 10 (.fldAddr 0 (.v 1)), SO 1 11 (.load false 1 (.s 0)), SO
 2 12 (.mov (.v 3)), SO 3 13 (.bin false .add (.s 1) (.s 2)), SO 4 14 (.fldAddr 1 (.v 1)), SO 5 15 (.load false 1 (.s 4)), SO 6 16 (.callp 49 [(.s 5)]), SO 7 17 (.callp 48 [(.s 6)]), SO 8 18 (.bin false .add (.s 3) (.s 7)), VS 2 2 8] [] .skip) (.ret))))), [.t 2]⟩
noncomputable def t_57 : List (Nat × Ctr) := [(34, c_14), (49, c_53), (48, c_56)]
theorem lk_57_34 : look t_57 34 = some c_14 := rfl
theorem lk_57_49 : look t_57 49 = some c_53 := rfl
theorem lk_57_48 : look t_57 48 = some c_56 := rfl
noncomputable def c_57 : Ctr := mkF t_57 ir18 [.bor]
theorem s_57 : Sound Tryz.prog 18 c_57 := mkF_sound _ rfl (snd_cons s_14 (snd_cons s_53 (snd_cons s_56 snd_nil))) (by kernel_rfl : chkFn Tryz.prog 18 ir18 ir18_v = true)
theorem M_57 : c_57.modes = [.bor] := rfl
theorem Fl_57 : c_57.flat = true := rfl
attribute [go_sem] M_57 Fl_57
attribute [go_sem] lk_57_34 lk_57_49 lk_57_48
theorem Fs_57 {x : Observer} {y_ : (List UInt8)} (h : impl_ObserverText x = some y_) : c_57.F [Observer_av x] = ⟨true, .str y_, [.any]⟩ := by
 refine mkF_E rfl ?_
 dsimp only [impl_ObserverText] at h
 obtain ⟨y_1, z1, h⟩ := bd_some h
 have fz1 := Fs_14 z1
 try simp only [go_sem] at fz1
 rcases it_some h with ⟨z2, h⟩ | ⟨z2, h⟩
 ·try simp only [go_sem, n1, n2, n3, n4] at z2
  all_goals
  obtain rfl := so_some h
  refine ⟨0, fun L hL => ?_⟩
  simp only [go_sem, ir18, fz1, z2]
 ·try simp only [go_sem, n1, n2, n3, n4] at z2
  all_goals
  rcases it_some h with ⟨z3, h⟩ | ⟨z3, h⟩
  ·try simp only [go_sem, n1, n2, n3, n4, z2] at z3
   all_goals
   obtain ⟨z4, h⟩ := ck_some h
   try simp only [go_sem, n1, n2, n3, n4, z2, z3] at z4
   all_goals
   obtain ⟨y_5, z5, h⟩ := bd_some h
   have fz5 := Fs_53 z5
   try simp only [go_sem, z2, z3, z4] at fz5
   obtain ⟨y_6, z6, h⟩ := bd_some h
   have fz6 := Fs_56 z6
   try simp only [go_sem, z2, z3, z4] at fz6
   obtain ⟨z7, h⟩ := ck_some h
   try simp only [go_sem, n1, n2, n3, n4, z2, z3, z4] at z7
   all_goals
   obtain rfl := so_some h
   refine ⟨0, fun L hL => ?_⟩
   simp only [go_sem, ir18, fz1, z2, z3, z4, fz5, fz6, z7]
  ·try simp only [go_sem, n1, n2, n3, n4, z2] at z3
   all_goals
   obtain ⟨z8, h⟩ := ck_some h
   try simp only [go_sem, n1, n2, n3, n4, z2, z3] at z8
   all_goals
   obtain ⟨y_9, z9, h⟩ := bd_some h
   have fz9 := Fs_53 z9
   try simp only [go_sem, z2, z3, z8] at fz9
   obtain ⟨y_10, z10, h⟩ := bd_some h
   have fz10 := Fs_56 z10
   try simp only [go_sem, z2, z3, z8] at fz10
   obtain ⟨z11, h⟩ := ck_some h
   try simp only [go_sem, n1, n2, n3, n4, z2, z3, z8] at z11
   all_goals
   obtain rfl := so_some h
   refine ⟨0, fun L hL => ?_⟩
   simp only [go_sem, ir18, fz1, z2, z3, z8, fz9, fz10, z11]


theorem s_hCut : Sound Tryz.prog 50 c_hCut := hCut_is

def ir86_v : List Nat := [0, 1, 4]
def ir86 : AFn := ⟨2, 3, .seq (.region false [ VO 2 4 (.mov (.c (.bool false)))]) (.seq (.region false [ PM 5 0, PO 6 (.len true (.s 0)), PM 7 1, PO 8 (.len true (.s 0)), PO 9 (.bin false .geq (.s 2) (.s 0)), PO 10 (.mov (.s 0)), ⟨.push, 11, (some ((.s 0), true)), .mov (.v 0)⟩, ⟨.push, 12, (some ((.s 1), true)), .mov (.v 1)⟩, ⟨.push, 13, (some ((.s 2), true)), .len true (.s 0)⟩, ⟨.push, 14, (some ((.s 3), true)), .slice 0 (.s 2) none (some (.s 0))⟩, ⟨.push, 15, (some ((.s 4), true)), .mov (.v 1)⟩, ⟨.push, 16, (some ((.s 5), true)), .bin false .eql (.s 1) (.s 0)⟩, PO 17 (.pick (.s 6) (.s 0) (.c
 (.bool false))), VS 2 4 0]) (.ret)), [.t 2]⟩
noncomputable def t_59 : List (Nat × Ctr) := []
noncomputable def c_59 : Ctr := mkF t_59 ir86 [.bor, .bor]
theorem s_59 : Sound Tryz.prog 86 c_59 := mkF_sound _ rfl snd_nil (by kernel_rfl : chkFn Tryz.prog 86 ir86 ir86_v = true)
theorem M_59 : c_59.modes = [.bor, .bor] := rfl
theorem Fl_59 : c_59.flat = true := rfl
attribute [go_sem] M_59 Fl_59
theorem Fs_59 {s_ : List UInt8} {prefix_ : List UInt8} {y_ : Bool} (h : internal_stringslite_HasPrefix s_ prefix_ = some y_) : c_59.F [.str s_, .str prefix_] = ⟨true, .bool y_, [.any, .any]⟩ := by
 refine mkF_E rfl ?_
 dsimp only [internal_stringslite_HasPrefix] at h
 obtain ⟨z1, h⟩ := ck_some h
 rcases or_split z1 with ⟨gz1, z1⟩ | gz1
 ·try simp only [go_sem, n1, n2, n3, n4] at gz1
  all_goals
  try simp only [go_sem, n1, n2, n3, n4, gz1] at z1
  all_goals
  obtain rfl := so_some h
  refine ⟨0, fun L hL => ?_⟩
  simp only [go_sem, ir86, gz1, z1]
 ·try simp only [go_sem, n1, n2, n3, n4] at gz1
  all_goals
  obtain rfl := so_some h
  refine ⟨0, fun L hL => ?_⟩
  simp only [go_sem, ir86, gz1]


def ir73_v : List Nat := [0, 1, 4, 5]
def ir73 : AFn := ⟨2, 4, .seq (.region false [ VO 2 4 (.mov (.c (.str []))), VO 3 5 (.mov (.c (.bool false)))]) (.seq (.test false [ PM 6 0, PM 7 1, PO 8 (.call 86 [(.s 1), (.s 0)]), PO 9 (.un .not (.s 0))] (.s 0) (.seq (.region false [ PM 10 0, VS 2 4 0, VO 3 5 (.mov (.c (.bool false)))]) (.ret)) (.skip)) (.seq (.region false [ PM 11 0, PM 12 1, PO 13 (.len true (.s 0)), PO 14 (.slice 0 (.s 2) (some (.s 0)) none), VS 2 4 0, VO 3 5 (.mov (.c (.bool true)))]) (.ret))), [.t 2, .t 3]⟩
noncomputable def t_60 : List (Nat × Ctr) := [(86, c_59)]
theorem lk_60_86 : look t_60 86 = some c_59 := rfl
noncomputable def c_60 : Ctr := mkF t_60 ir73 [.bor, .bor]
theorem s_60 : Sound Tryz.prog 73 c_60 := mkF_sound _ rfl (snd_cons s_59 snd_nil) (by kernel_rfl : chkFn Tryz.prog 73 ir73 ir73_v = true)
theorem M_60 : c_60.modes = [.bor, .bor] := rfl
theorem Fl_60 : c_60.flat = true := rfl
attribute [go_sem] M_60 Fl_60
attribute [go_sem] lk_60_86
theorem Fs_60 {s_ : List UInt8} {prefix_ : List UInt8} {y_ : (List UInt8) × Bool} (h : internal_stringslite_CutPrefix s_ prefix_ = some y_) : c_60.F [.str s_, .str prefix_] = ⟨true, .tup [.str y_.1, .bool y_.2], [.any, .any]⟩ := by
 refine mkF_E rfl ?_
 dsimp only [internal_stringslite_CutPrefix] at h
 obtain ⟨y_1, z1, h⟩ := bd_some h
 have fz1 := Fs_59 z1
 try simp only [go_sem] at fz1
 rcases it_some h with ⟨z2, h⟩ | ⟨z2, h⟩
 ·try simp only [go_sem, n1, n2, n3, n4] at z2
  all_goals
  obtain rfl := so_some h
  refine ⟨0, fun L hL => ?_⟩
  simp only [go_sem, ir73, fz1, z2]
 ·try simp only [go_sem, n1, n2, n3, n4] at z2
  all_goals
  obtain ⟨z3, h⟩ := ck_some h
  try simp only [go_sem, n1, n2, n3, n4, z2] at z3
  all_goals
  obtain rfl := so_some h
  refine ⟨0, fun L hL => ?_⟩
  simp only [go_sem, ir73, fz1, z2, z3]


def ir51_v : List Nat := [0, 1, 4, 5]
def ir51 : AFn := ⟨2, 4, .seq (.region false [ VO 2 4 (.mov (.c (.str []))), VO 3 5 (.mov (.c (.bool false)))]) (.seq (.region false [ PM 6 0, PM 7 1, PO 8 (.call 73 [(.s 1), (.s 0)]), PO 9 (.ext (.s 0) 0), PO 10 (.ext (.s 1) 1), VS 2 4 1, VS 3 5 0]) (.ret)), [.t 2, .t 3]⟩
noncomputable def t_61 : List (Nat × Ctr) := [(73, c_60)]
theorem lk_61_73 : look t_61 73 = some c_60 := rfl
noncomputable def c_61 : Ctr := mkF t_61 ir51 [.bor, .bor]
theorem s_61 : Sound Tryz.prog 51 c_61 := mkF_sound _ rfl (snd_cons s_60 snd_nil) (by kernel_rfl : chkFn Tryz.prog 51 ir51 ir51_v = true)
theorem M_61 : c_61.modes = [.bor, .bor] := rfl
theorem Fl_61 : c_61.flat = true := rfl
attribute [go_sem] M_61 Fl_61
attribute [go_sem] lk_61_73
theorem Fs_61 {s_ : List UInt8} {prefix_ : List UInt8} {y_ : (List UInt8) × Bool} (h : strings_CutPrefix s_ prefix_ = some y_) : c_61.F [.str s_, .str prefix_] = ⟨true, .tup [.str y_.1, .bool y_.2], [.any, .any]⟩ := by
 refine mkF_E rfl ?_
 dsimp only [strings_CutPrefix] at h
 obtain ⟨y_1, z1, h⟩ := bd_some h
 have fz1 := Fs_60 z1
 try simp only [go_sem] at fz1
 obtain rfl := so_some h
 refine ⟨0, fun L hL => ?_⟩
 simp only [go_sem, ir51, fz1]


theorem s_hRdDec : Sound Tryz.prog 52 c_hRdDec := hRdDec_is

def ir19_v : List Nat := [0, 2, 3, 4, 5, 7, 8, 9, 10, 11]
def ir19 : AFn := ⟨1, 10, .seq (.region false [ VO 1 2 (.alloc (.agg [.str [], .int .i64 (0)])), VO 2 3 (.mov (.c (.bool false)))]) (.seq (.region false [ PM 13 0, PO 14 (.call 50 [(.s 0), (.c (.str [32]))]), PO 12 (.mov (.s 0)), PO 15 (.ext (.s 0) 0), PO 16 (.ext (.s 1) 1), PO 17 (.ext (.s 2) 2), VS 3 4 2, VS 4 5 1, PO 6 (.mov (.s 0))]) (.seq (.region false [ PM 19 4, PO 20 (.call 51 [(.s 0), (.c (.str [45]))]), PO 18 (.mov (.s 0)), PO 21 (.ext (.s 0) 0), PO 22 (.ext (.s 1) 1), VS 5 7 1, VS 6 8 0]) (.seq (.test false [ PM 23 6, PO 24 (.un .not (.s 0))] (.s 0) (.region false [ PM 26 4, PO 27
 (.call 51 [(.s 0), (.c (.str [43]))]), PO 25 (.mov (.s 0)), PO 28 (.ext (.s 0) 0), PO 29 (.ext (.s 1) 1), VS 5 7 1]) (.skip)) (.seq (.region false [ PM 31 5, PO 32 (.call 52 [(.s 0)]), PO 30 (.mov (.s 0)), PO 33 (.ext (.s 0) 0), PO 34 (.ext (.s 1) 1), VS 7 9 1, VS 8 10 0]) (.seq (.test false [ PM 35 6] (.s 0) (.region false [ PM 36 7, PO 37 (.un .neg (.s 0)), VS 7 9 0]) (.skip)) (.seq (.region false [ PM 38 3, PM 39 7, PO 40 (.build [.str [], .int .i64 (0)] [(0, 1, (.s 1)), (1, 1, (.s 0))]), VO 9 11 (.alloc (.agg [.str [], .int .i64 (0)])), ⟨.no, 0, none, .store 2 (.v 9) (.s 0)⟩]) (.seq (.test
 false [ PM 41 8, PO 42 (.un .not (.s 0)), PO 43 (.mov (.s 0)), ⟨.push, 44, (some ((.s 0), false)), .load true 2 (.v 9)⟩, ⟨.push, 45, (some ((.s 1), false)), .call 18 [(.s 0)]⟩, ⟨.push, 46, (some ((.s 2), false)), .mov (.v 0)⟩, ⟨.push, 47, (some ((.s 3), false)), .bin false .neq (.s 1) (.s 0)⟩, PO 48 (.pick (.s 4) (.c (.bool true)) (.s 0))] (.s 0) (.seq (.region false [ PO 49 (.build [.str [], .int .i64 (0)] []), ⟨.no, 0, none, .store 2 (.v 1) (.s 0)⟩, VO 2 3 (.mov (.c (.bool false)))]) (.ret)) (.skip)) (.seq (.region false [ PO 50 (.load true 2 (.v 9)), ⟨.no, 0, none, .store 2 (.v 1) (.s 0)⟩,
 VO 2 3 (.mov (.c (.bool true)))]) (.ret))))))))), [.cell true 2 1, .t 2]⟩
noncomputable def t_63 : List (Nat × Ctr) := [(50, c_hCut), (51, c_61), (52, c_hRdDec), (18, c_57)]
theorem lk_63_50 : look t_63 50 = some c_hCut := rfl
theorem lk_63_51 : look t_63 51 = some c_61 := rfl
theorem lk_63_52 : look t_63 52 = some c_hRdDec := rfl
theorem lk_63_18 : look t_63 18 = some c_57 := rfl
noncomputable def c_63 : Ctr := mkN t_63 ir19 [.bor]
theorem s_63 : Sound Tryz.prog 19 c_63 := mkN_sound _ (snd_cons s_hCut (snd_cons s_61 (snd_cons s_hRdDec (snd_cons s_57 snd_nil)))) (by kernel_rfl : chkFn Tryz.prog 19 ir19 ir19_v = true)
theorem M_63 : c_63.modes = [.bor] := rfl
theorem Fl_63 : c_63.flat = false := rfl
attribute [go_sem] M_63 Fl_63
attribute [go_sem] lk_63_50 lk_63_51 lk_63_52 lk_63_18
theorem Fs_63 {s_ : List UInt8} {y_ : Observer × Bool} (h : impl_ReadObserver s_ = some y_) : c_63.F [.str s_] = ⟨true, .tup [Observer_av y_.1, .bool y_.2], [.any]⟩ := by
 refine mkN_E ?_
 dsimp only [impl_ReadObserver] at h
 obtain ⟨y_1, z1, h⟩ := bd_some h
 have fz1 := Fs_hCut z1
 try simp only [go_sem] at fz1
 obtain ⟨y_2, z2, h⟩ := bd_some h
 have fz2 := Fs_61 z2
 try simp only [go_sem] at fz2
 rcases it_some h with ⟨z3, h⟩ | ⟨z3, h⟩
 ·try simp only [go_sem, n1, n2, n3, n4] at z3
  all_goals
  obtain ⟨y_4, z4, h⟩ := bd_some h
  have fz4 := Fs_61 z4
  try simp only [go_sem, z3] at fz4
  obtain ⟨y_5, z5, h⟩ := bd_some h
  have fz5 := Fs_hRdDec z5
  try simp only [go_sem, z3] at fz5
  rcases it_some h with ⟨z6, h⟩ | ⟨z6, h⟩
  ·try simp only [go_sem, n1, n2, n3, n4, z3] at z6
   all_goals
   (simp_all)
  ·try simp only [go_sem, n1, n2, n3, n4, z3] at z6
   all_goals
   obtain ⟨z9, h⟩ := ck_some h
   rcases or_split z9 with ⟨gz9, z9⟩ | gz9
   ·try simp only [go_sem, n1, n2, n3, n4, z3, z6] at gz9
    all_goals
    obtain ⟨y_9, hz9⟩ := Option.isSome_iff_exists.1 z9
    have fz9 := Fs_57 hz9
    try simp only [go_sem, n1, n2, n3, n4, z3, z6, gz9] at hz9
    all_goals
    try simp only [go_sem, z3, z6, gz9] at fz9
    rcases it_some h with ⟨z10, h⟩ | ⟨z10, h⟩
    ·try simp only [go_sem, n1, n2, n3, n4, z3, z6, gz9, hz9] at z10
     all_goals
     obtain rfl := so_some h
     refine ⟨0, fun L hL => ?_⟩
     simp only [go_sem, ir19, fz1, fz2, z3, fz4, fz5, z6, gz9, hz9, fz9, z10]
    ·try simp only [go_sem, n1, n2, n3, n4, z3, z6, gz9, hz9] at z10
     all_goals
     obtain rfl := so_some h
     refine ⟨0, fun L hL => ?_⟩
     simp only [go_sem, ir19, fz1, fz2, z3, fz4, fz5, z6, gz9, hz9, fz9, z10]
   ·have gz9n := no_f gz9
    have gz9nn := no_t gz9n
    try simp only [go_sem, n1, n2, n3, n4, z3, z6] at gz9nn
    all_goals
    rcases it_some h with ⟨z10, h⟩ | ⟨z10, h⟩
    ·try simp only [go_sem, n1, n2, n3, n4, z3, z6, gz9nn] at z10
     all_goals
     obtain rfl := so_some h
     refine ⟨0, fun L hL => ?_⟩
     simp only [go_sem, ir19, fz1, fz2, z3, fz4, fz5, z6, gz9nn, z10]
    ·try simp only [go_sem, n1, n2, n3, n4, z3, z6, gz9nn] at z10
     all_goals
     (simp_all)
 ·try simp only [go_sem, n1, n2, n3, n4] at z3
  all_goals
  obtain ⟨y_11, z11, h⟩ := bd_some h
  have fz11 := Fs_hRdDec z11
  try simp only [go_sem, z3] at fz11
  rcases it_some h with ⟨z12, h⟩ | ⟨z12, h⟩
  ·try simp only [go_sem, n1, n2, n3, n4, z3] at z12
   all_goals
   obtain ⟨z13, h⟩ := ck_some h
   rcases or_split z13 with ⟨gz13, z13⟩ | gz13
   ·try simp only [go_sem, n1, n2, n3, n4, z3, z12] at gz13
    all_goals
    obtain ⟨y_13, hz13⟩ := Option.isSome_iff_exists.1 z13
    have fz13 := Fs_57 hz13
    try simp only [go_sem, n1, n2, n3, n4, z3, z12, gz13] at hz13
    all_goals
    try simp only [go_sem, z3, z12, gz13] at fz13
    rcases it_some h with ⟨z14, h⟩ | ⟨z14, h⟩
    ·try simp only [go_sem, n1, n2, n3, n4, z3, z12, gz13, hz13] at z14
     all_goals
     obtain rfl := so_some h
     refine ⟨0, fun L hL => ?_⟩
     simp only [go_sem, ir19, fz1, fz2, z3, fz11, z12, gz13, hz13, fz13, z14]
    ·try simp only [go_sem, n1, n2, n3, n4, z3, z12, gz13, hz13] at z14
     all_goals
     obtain rfl := so_some h
     refine ⟨0, fun L hL => ?_⟩
     simp only [go_sem, ir19, fz1, fz2, z3, fz11, z12, gz13, hz13, fz13, z14]
   ·have gz13n := no_f gz13
    have gz13nn := no_t gz13n
    try simp only [go_sem, n1, n2, n3, n4, z3, z12] at gz13nn
    all_goals
    rcases it_some h with ⟨z14, h⟩ | ⟨z14, h⟩
    ·try simp only [go_sem, n1, n2, n3, n4, z3, z12, gz13nn] at z14
     all_goals
     obtain rfl := so_some h
     refine ⟨0, fun L hL => ?_⟩
     simp only [go_sem, ir19, fz1, fz2, z3, fz11, z12, gz13nn, z14]
    ·try simp only [go_sem, n1, n2, n3, n4, z3, z12, gz13nn] at z14
     all_goals
     (simp_all)
  ·try simp only [go_sem, n1, n2, n3, n4, z3] at z12
   all_goals
   (simp_all)


def ir76_b0 : IR := .seq (.test false [ PM 8 3, PO 9 (.bin false .neq (.s 0) (I6 0))] (.s 0) (.skip) (.exit 0)) (.seq (.block 1 (.seq (.region false [ PM 12 3, PO 13 (.bin false .rem (.s 0) (I6 10)), VS 4 5 0]) (.seq (.test false [ PM 14 4, PO 15 (.bin false .lss (.s 0) (I6 0))] (.s 0) (.region false [ PM 16 4, PO 17 (.un .neg (.s 0)), VS 4 5 0]) (.skip)) (.region false [ PM 18 4, PO 19 (.bin false .add (I6 48) (.s 0)), PO 20 (.conv .u8 (.s 0)), PO 21 (.mkSl 1 (.int .u8 (0)) 1 [(0, (.s 0))]), PM 22 2, PO 23 (.app 1 1 (.int .u8 (0)) (.s 1) (.s 0)), VS 2 3 0])))) (.region false [ PM 10 3, PO 11
 (.bin false .quo (.s 0) (I6 10)), VS 3 4 0]))
def ir76_k0 : List Bool := [true, false, true, true, false]
def ir76_o0 : List Bool := [true, false, true, false, false]
def ir76_r0 : List Bool := [false, true, false, false, false]
def ir76_v : List Nat := [0, 2, 3, 4, 5]
def ir76 : AFn := ⟨1, 5, .seq (.region false [ VO 1 2 (.mov (.c (.str [])))]) (.seq (.region false [ PO 6 (.mkSl 1 (.int .u8 (0)) 0 []), VS 2 3 0]) (.seq (.seq (.region false [ PM 7 0, VS 3 4 0]) (.block 0 (.loop ir76_k0 ir76_o0 ir76_r0 ir76_b0))) (.seq (.test false [ PM 24 2, PO 25 (.len false (.s 0)), PO 26 (.bin false .eql (.s 0) (I6 0))] (.s 0) (.seq (.region false [ VO 1 2 (.mov (.c (.str [48])))]) (.ret)) (.skip)) (.seq (.test false [ PM 27 0, PO 28 (.bin false .lss (.s 0) (I6 0))] (.s 0) (.seq (.region false [ PM 29 2, PO 30 (.b2s (.s 0)), PO 31 (.bin false .add (.c (.str [45])) (.s 0)),
 VS 1 2 0]) (.ret)) (.skip)) (.seq (.region false [ PM 32 2, PO 33 (.b2s (.s 0)), VS 1 2 0]) (.ret)))))), [.t 1]⟩
noncomputable def t_64 : List (Nat × Ctr) := []
noncomputable def c_64 : Ctr := mkF t_64 ir76 [.bor]
theorem s_64 : Sound Tryz.prog 76 c_64 := mkF_sound _ rfl snd_nil (by kernel_rfl : chkFn Tryz.prog 76 ir76 ir76_v = true)
theorem M_64 : c_64.modes = [.bor] := rfl
theorem Fl_64 : c_64.flat = true := rfl
attribute [go_sem] M_64 Fl_64
def E_64_l1 (n : Int) : ((List UInt8) × Int) → St
 | (out, k) => ⟨[.int .i64 n, .any, .own 3200000, .int .i64 k, .any], [], [(3200000, ⟨1, List.map byteAV out⟩)], true⟩
def R_64_l1 (n : Int) (y : (List UInt8)) : Res := (.exit 0, ⟨[.int .i64 n, .any, .own 3200000, .any, .any], [], [(3200000, ⟨1, List.map byteAV y⟩)], true⟩)
theorem spec_l01Dec_l1_ex {n : Int} {sgm_ : (List UInt8) × Int} {rho_ : (List UInt8)} (h : whileE (spec_l01Dec_l1 n) sgm_ = some rho_) : ∃ L0, ∀ L, L0 ≤ L → iter (exec (look t_64) L ir76_b0) ir76_k0 ir76_o0 ir76_r0 L (E_64_l1 n sgm_) = R_64_l1 n rho_ := by
 refine loop_ex (E := E_64_l1 n) (R := R_64_l1 n) (fun y => by first | (intro c; cases c) | (rcases y with y | y <;> (intro c; cases c)) | (rcases y with y | y | y <;> (intro c; cases c))) ?_ h
 clear h
 rintro ⟨out, k⟩ o_ h
 dsimp only [spec_l01Dec_l1] at h
 rcases it_some h with ⟨z1, h⟩ | ⟨z1, h⟩
 ·try simp only [go_sem, n1, n2, n3, n4] at z1
  all_goals
  obtain ⟨z2, h⟩ := ck_some h
  try simp only [go_sem, n1, n2, n3, n4, z1] at z2
  all_goals
  rcases it_some h with ⟨z3, h⟩ | ⟨z3, h⟩
  ·try simp only [go_sem, n1, n2, n3, n4, z1, z2] at z3
   all_goals
   obtain ⟨z4, h⟩ := ck_some h
   try simp only [go_sem, n1, n2, n3, n4, z1, z2, z3] at z4
   all_goals
   obtain rfl := so_some h
   refine ⟨0, fun L hL => ?_⟩
   simp only [go_sem, ir76, E_64_l1, R_64_l1, ir76_b0, ir76_k0, ir76_o0, ir76_r0, z1, z2, z3, z4]
  ·try simp only [go_sem, n1, n2, n3, n4, z1, z2] at z3
   all_goals
   obtain ⟨z5, h⟩ := ck_some h
   try simp only [go_sem, n1, n2, n3, n4, z1, z2, z3] at z5
   all_goals
   obtain rfl := so_some h
   refine ⟨0, fun L hL => ?_⟩
   simp only [go_sem, ir76, E_64_l1, R_64_l1, ir76_b0, ir76_k0, ir76_o0, ir76_r0, z1, z2, z3, z5]
 ·try simp only [go_sem, n1, n2, n3, n4] at z1
  all_goals
  obtain rfl := so_some h
  refine ⟨0, fun L hL => ?_⟩
  simp only [go_sem, ir76, E_64_l1, R_64_l1, ir76_b0, ir76_k0, ir76_o0, ir76_r0, z1]

theorem Fs_64 {n : Int} {y_ : (List UInt8)} (h : spec_l01Dec n = some y_) : c_64.F [.int .i64 n] = ⟨true, .str y_, [.any]⟩ := by
 refine mkF_E rfl ?_
 dsimp only [spec_l01Dec] at h
 obtain ⟨y_6, z6, h⟩ := bd_some h
 obtain ⟨Lz6, ez6⟩ := spec_l01Dec_l1_ex z6
 rcases it_some h with ⟨z7, h⟩ | ⟨z7, h⟩
 ·try simp only [go_sem, n1, n2, n3, n4] at z7
  all_goals
  obtain rfl := so_some h
  refine ⟨Lz6, fun L hL => ?_⟩
  have ez6 := ez6 L (by omega)
  try simp only [go_sem, E_64_l1, R_64_l1, ir76_k0, ir76_o0, ir76_r0, z7] at ez6
  simp only [go_sem, ir76, E_64_l1, R_64_l1, ir76_k0, ir76_o0, ir76_r0, z7, ez6]
 ·try simp only [go_sem, n1, n2, n3, n4] at z7
  all_goals
  rcases it_some h with ⟨z8, h⟩ | ⟨z8, h⟩
  ·try simp only [go_sem, n1, n2, n3, n4, z7] at z8
   all_goals
   obtain ⟨z9, h⟩ := ck_some h
   try simp only [go_sem, n1, n2, n3, n4, z7, z8] at z9
   all_goals
   obtain rfl := so_some h
   refine ⟨Lz6, fun L hL => ?_⟩
   have ez6 := ez6 L (by omega)
   try simp only [go_sem, E_64_l1, R_64_l1, ir76_k0, ir76_o0, ir76_r0, z7, z8, z9] at ez6
   simp only [go_sem, ir76, E_64_l1, R_64_l1, ir76_k0, ir76_o0, ir76_r0, z7, z8, z9, ez6]
  ·try simp only [go_sem, n1, n2, n3, n4, z7] at z8
   all_goals
   obtain rfl := so_some h
   refine ⟨Lz6, fun L hL => ?_⟩
   have ez6 := ez6 L (by omega)
   try simp only [go_sem, E_64_l1, R_64_l1, ir76_k0, ir76_o0, ir76_r0, z7, z8] at ez6
   simp only [go_sem, ir76, E_64_l1, R_64_l1, ir76_k0, ir76_o0, ir76_r0, z7, z8, ez6]


def ir53_v : List Nat := [0, 2]
def ir53 : AFn := ⟨1, 2, .seq (.region false [ VO 1 2 (.mov (.c (.str [])))]) (.seq (.test false [ PM 3 0, PO 4 (.nilck (.s 0)), PO 5 (.fldAddr 1 (.s 0)), PO 6 (.load false 1 (.s 0)), PO 7 (.bin false .lss (.s 0) (I6 0))] (.s 0) (.seq (.anyo 11 [ SO 0 8 (.mov (.v 0)), SO 1 9 (.nilck (.s 0)), SO 2 10 (.fldAddr 0 (.s 1)), SO 3 11 (.load false 1 (.s 2)), SO 4 12 (.bin false .add (.s 3) (.c (.str [32]))), SO 5 13 (.mov (.v 0)), SO 6 14 (.nilck (.s 5)), SO 7 15 (.fldAddr 1 (.s 6)), SO 8 16 (.load false 1 (.s 7)), SO 9 17 (.callp 76 [(.s 8)]), SO 10 18 (.bin false .add (.s 4) (.s 9)), VS 1 2 10] []
 .skip) (.ret)) (.skip)) (.seq (.anyo 11 [ SO 0 19 (.mov (.v 0)), SO 1 20 (.nilck (.s 0)), SO 2 21 (.fldAddr 0 (.s 1)), SO 3 22 (.load false 1 (.s 2)), SO 4 23 (.bin false .add (.s 3) (.c (.str [32, 43]))), SO 5 24 (.mov (.v 0)), SO 6 25 (.nilck (.s 5)), SO 7 26 (.fldAddr 1 (.s 6)), SO 8 27 (.load false 1 (.s 7)), SO 9 28 (.callp 76 [(.s 8)]), SO 10 29 (.bin false .add (.s 4) (.s 9)), VS 1 2 10] [] .skip) (.ret))), [.t 1]⟩
noncomputable def t_65 : List (Nat × Ctr) := [(76, c_64)]
theorem lk_65_76 : look t_65 76 = some c_64 := rfl
noncomputable def c_65 : Ctr := mkF t_65 ir53 [.bor]
theorem s_65 : Sound Tryz.prog 53 c_65 := mkF_sound _ rfl (snd_cons s_64 snd_nil) (by kernel_rfl : chkFn Tryz.prog 53 ir53 ir53_v = true)
theorem M_65 : c_65.modes = [.bor] := rfl
theorem Fl_65 : c_65.flat = true := rfl
attribute [go_sem] M_65 Fl_65
attribute [go_sem] lk_65_76
theorem Fs_65 {x : Observer} {y_ : (List UInt8)} (h : spec_l05Text x = some y_) : c_65.F [.ptr 2 [Observer_av x] 0 0] = ⟨true, .str y_, [.any]⟩ := by
 refine mkF_E rfl ?_
 dsimp only [spec_l05Text] at h
 rcases it_some h with ⟨z1, h⟩ | ⟨z1, h⟩
 ·try simp only [go_sem, n1, n2, n3, n4] at z1
  all_goals
  obtain ⟨z2, h⟩ := ck_some h
  try simp only [go_sem, n1, n2, n3, n4, z1] at z2
  all_goals
  obtain ⟨y_3, z3, h⟩ := bd_some h
  have fz3 := Fs_64 z3
  try simp only [go_sem, z1, z2] at fz3
  obtain ⟨z4, h⟩ := ck_some h
  try simp only [go_sem, n1, n2, n3, n4, z1, z2] at z4
  all_goals
  obtain rfl := so_some h
  refine ⟨0, fun L hL => ?_⟩
  simp only [go_sem, ir53, z1, z2, fz3, z4]
 ·try simp only [go_sem, n1, n2, n3, n4] at z1
  all_goals
  obtain ⟨z5, h⟩ := ck_some h
  try simp only [go_sem, n1, n2, n3, n4, z1] at z5
  all_goals
  obtain ⟨y_6, z6, h⟩ := bd_some h
  have fz6 := Fs_64 z6
  try simp only [go_sem, z1, z5] at fz6
  obtain ⟨z7, h⟩ := ck_some h
  try simp only [go_sem, n1, n2, n3, n4, z1, z5] at z7
  all_goals
  obtain rfl := so_some h
  refine ⟨0, fun L hL => ?_⟩
  simp only [go_sem, ir53, z1, z5, fz6, z7]


def ir54_v : List Nat := [0, 1, 4, 5, 6, 8]
def ir54 : AFn := ⟨2, 6, .seq (.region false [ VO 2 4 (.mov (.c (.str [])))]) (.seq (.seq (.region false [ PM 7 0, VO 5 8 (.call 31 [(.s 0), (I6 5)])]) (.block 0 (.test false [ PO 10 (.bin false .eql (.v 5) (I6 0)), PO 9 (.mov (.s 0))] (.s 0) (.seq (.region false [ PM 11 0, PM 12 1, PO 13 (.len true (.s 0)), PO 14 (.bin false .add (.s 0) (I6 1)), PO 15 (.call 31 [(.s 3), (.s 0)]), VS 3 5 0]) (.anyo 11 [ SO 0 16 (.flat (.mov (.v 1))), SO 1 17 (.flat (.mov (.v 3))), SO 2 18 (.flat (.pur (.slice 0 (.s 0) none (some (.s 1))))), SO 3 19 (.mov (.v 0)), SO 4 20 (.pur (.mkSl 1 (.str []) 7 [(0, (.c
 (.str [32]))), (1, (.c (.str [48]))), (2, (.c (.str [45]))), (3, (.c (.str [120]))), (4, (.c (.str [49]))), (5, (.c (.str [57]))), (6, (.c (.str [46])))])), SO 5 21 (.call 60 [(.s 3), (.s 4)]), SO 6 22 (.flat (.bin false .add (.s 2) (.s 5))), SO 7 23 (.flat (.mov (.v 1))), SO 8 24 (.flat (.mov (.v 3))), SO 9 25 (.flat (.pur (.slice 0 (.s 7) (some (.s 8)) none))), SO 10 26 (.flat (.bin false .add (.s 6) (.s 9))), VO 1 1 (.flat (.mov (.s 10)))] [] .skip)) (.test false [ PO 28 (.bin false .eql (.v 5) (I6 1)), PO 27 (.mov (.s 0))] (.s 0) (.test false [ PM 29 1, PO 30 (.bin false .neq (.s 0) (.c
 (.str [])))] (.s 0) (.seq (.region false [ PM 31 0, PM 32 1, PO 33 (.len true (.s 0)), PO 34 (.call 31 [(.s 2), (.s 0)]), VS 4 6 0]) (.anyo 8 [ SO 0 35 (.mov (.v 1)), SO 1 36 (.mov (.v 4)), SO 2 37 (.pur (.slice 0 (.s 0) none (some (.s 1)))), SO 3 38 (.mov (.v 1)), SO 4 39 (.mov (.v 4)), SO 5 40 (.bin false .add (.s 4) (I6 1)), SO 6 41 (.pur (.slice 0 (.s 3) (some (.s 5)) none)), SO 7 42 (.bin false .add (.s 2) (.s 6)), VS 1 1 7] [] .skip)) (.skip)) (.skip))))) (.seq (.region false [ PM 43 1, VS 2 4 0]) (.ret))), [.t 2]⟩
noncomputable def t_66 : List (Nat × Ctr) := [(31, c_3), (60, c_7)]
theorem lk_66_31 : look t_66 31 = some c_3 := rfl
theorem lk_66_60 : look t_66 60 = some c_7 := rfl
noncomputable def c_66 : Ctr := mkN t_66 ir54 [.io, .bor]
theorem s_66 : Sound Tryz.prog 54 c_66 := mkN_sound _ (snd_cons s_3 (snd_cons s_7 snd_nil)) (by kernel_rfl : chkFn Tryz.prog 54 ir54 ir54_v = true)
theorem M_66 : c_66.modes = [.io, .bor] := rfl
theorem Fl_66 : c_66.flat = false := rfl
attribute [go_sem] M_66 Fl_66
attribute [go_sem] lk_66_31 lk_66_60
theorem Fs_66 {s_ : L00Src} {t : List UInt8} {y_ : (List UInt8) × L00Src} (h : spec_l01Spoil s_ t = some y_) : c_66.F [.mem 3 [L00Src_av s_] 0, .str t] = ⟨true, .str y_.1, [.mem 3 [L00Src_av y_.2] 0, .any]⟩ := by
 refine mkN_E ?_
 dsimp only [spec_l01Spoil] at h
 obtain ⟨y_1, z1, h⟩ := bd_some h
 have fz1 := Fs_3 z1
 try simp only [go_sem] at fz1
 rcases it_some h with ⟨z2, h⟩ | ⟨z2, h⟩
 ·try simp only [go_sem, n1, n2, n3, n4] at z2
  all_goals
  obtain ⟨y_3, z3, h⟩ := bd_some h
  have fz3 := Fs_3 z3
  try simp only [go_sem, z2] at fz3
  obtain ⟨z4, h⟩ := ck_some h
  try simp only [go_sem, n1, n2, n3, n4, z2] at z4
  all_goals
  obtain ⟨y_5, z5, h⟩ := bd_some h
  have fz5 := Fs_7 z5
  try simp only [go_sem, z2, z4] at fz5
  obtain ⟨z6, h⟩ := ck_some h
  try simp only [go_sem, n1, n2, n3, n4, z2, z4] at z6
  all_goals
  obtain ⟨z7, h⟩ := ck_some h
  try simp only [go_sem, n1, n2, n3, n4, z2, z4, z6] at z7
  all_goals
  obtain ⟨z8, h⟩ := ck_some h
  try simp only [go_sem, n1, n2, n3, n4, z2, z4, z6, z7] at z8
  all_goals
  obtain rfl := so_some h
  refine ⟨0, fun L hL => ?_⟩
  simp only [go_sem, ir54, fz1, z2, fz3, z4, fz5, z6, z7, z8]
 ·try simp only [go_sem, n1, n2, n3, n4] at z2
  all_goals
  rcases it_some h with ⟨z9, h⟩ | ⟨z9, h⟩
  ·try simp only [go_sem, n1, n2, n3, n4, z2] at z9
   all_goals
   rcases it_some h with ⟨z10, h⟩ | ⟨z10, h⟩
   ·try simp only [go_sem, n1, n2, n3, n4, z2, z9] at z10
    all_goals
    obtain ⟨y_11, z11, h⟩ := bd_some h
    have fz11 := Fs_3 z11
    try simp only [go_sem, z2, z9, z10] at fz11
    obtain ⟨z12, h⟩ := ck_some h
    try simp only [go_sem, n1, n2, n3, n4, z2, z9, z10] at z12
    all_goals
    obtain ⟨z13, h⟩ := ck_some h
    try simp only [go_sem, n1, n2, n3, n4, z2, z9, z10, z12] at z13
    all_goals
    obtain ⟨z14, h⟩ := ck_some h
    try simp only [go_sem, n1, n2, n3, n4, z2, z9, z10, z12, z13] at z14
    all_goals
    obtain rfl := so_some h
    refine ⟨0, fun L hL => ?_⟩
    simp only [go_sem, ir54, fz1, z2, z9, z10, fz11, z12, z13, z14]
   ·try simp only [go_sem, n1, n2, n3, n4, z2, z9] at z10
    all_goals
    obtain rfl := so_some h
    refine ⟨0, fun L hL => ?_⟩
    simp only [go_sem, ir54, fz1, z2, z9, z10]
  ·try simp only [go_sem, n1, n2, n3, n4, z2] at z9
   all_goals
   obtain rfl := so_some h
   refine ⟨0, fun L hL => ?_⟩
   simp only [go_sem, ir54, fz1, z2, z9]


def ir20_v : List Nat := [0, 2, 3, 4, 5]
def ir20 : AFn := ⟨1, 5, .seq (.region false [ VO 1 2 (.mov (.c (.str [])))]) (.seq (.region false [ PM 6 0, PO 7 (.call 28 [(.s 0)]), VS 2 3 0]) (.seq (.region false [ PM 8 2, PO 9 (.call 47 [(.s 0)]), VO 3 4 (.alloc (.agg [.str [], .int .i64 (0)])), ⟨.no, 0, none, .store 2 (.v 3) (.s 0)⟩]) (.seq (.region false [ PO 10 (.call 53 [(.v 3)]), VS 4 5 0]) (.seq (.test false [ PM 11 2, PO 12 (.call 32 [(.s 0), (I6 3)])] (.s 0) (.seq (.region false [ PM 13 2, PM 14 4, PO 15 (.call 54 [(.s 1), (.s 0)]), VS 1 2 0]) (.ret)) (.skip)) (.seq (.region false [ PM 16 4, VS 1 2 0]) (.ret)))))), [.t 1]⟩
noncomputable def t_67 : List (Nat × Ctr) := [(28, c_1), (47, c_51), (53, c_65), (32, c_5), (54, c_66)]
theorem lk_67_28 : look t_67 28 = some c_1 := rfl
theorem lk_67_47 : look t_67 47 = some c_51 := rfl
theorem lk_67_53 : look t_67 53 = some c_65 := rfl
theorem lk_67_32 : look t_67 32 = some c_5 := rfl
theorem lk_67_54 : look t_67 54 = some c_66 := rfl
noncomputable def c_67 : Ctr := mkF t_67 ir20 [.bor]
theorem s_67 : Sound Tryz.prog 20 c_67 := mkF_sound _ rfl (snd_cons s_1 (snd_cons s_51 (snd_cons s_65 (snd_cons s_5 (snd_cons s_66 snd_nil))))) (by kernel_rfl : chkFn Tryz.prog 20 ir20 ir20_v = true)
theorem M_67 : c_67.modes = [.bor] := rfl
theorem Fl_67 : c_67.flat = true := rfl
attribute [go_sem] M_67 Fl_67
attribute [go_sem] lk_67_28 lk_67_47 lk_67_53 lk_67_32 lk_67_54
theorem Fs_67 {code : List UInt8} {y_ : (List UInt8)} (h : spec_DrawReadObserver code = some y_) : c_67.F [.sl 1 (List.map byteAV code)] = ⟨true, .str y_, [.any]⟩ := by
 refine mkF_E rfl ?_
 dsimp only [spec_DrawReadObserver] at h
 obtain ⟨y_1, z1, h⟩ := bd_some h
 have fz1 := Fs_1 z1
 try simp only [go_sem] at fz1
 obtain ⟨y_2, z2, h⟩ := bd_some h
 have fz2 := Fs_51 z2
 try simp only [go_sem] at fz2
 obtain ⟨y_3, z3, h⟩ := bd_some h
 have fz3 := Fs_65 z3
 try simp only [go_sem] at fz3
 obtain ⟨y_4, z4, h⟩ := bd_some h
 have fz4 := Fs_5 z4
 try simp only [go_sem] at fz4
 rcases it_some h with ⟨z5, h⟩ | ⟨z5, h⟩
 ·try simp only [go_sem, n1, n2, n3, n4] at z5
  all_goals
  obtain ⟨y_6, z6, h⟩ := bd_some h
  have fz6 := Fs_66 z6
  try simp only [go_sem, z5] at fz6
  obtain rfl := so_some h
  refine ⟨0, fun L hL => ?_⟩
  simp only [go_sem, ir20, fz1, fz2, fz3, fz4, z5, fz6]
 ·try simp only [go_sem, n1, n2, n3, n4] at z5
  all_goals
  obtain rfl := so_some h
  refine ⟨0, fun L hL => ?_⟩
  simp only [go_sem, ir20, fz1, fz2, fz3, fz4, z5]


def ir55_b0 : IR := .seq (.test false [ PM 9 5, PM 10 0, PO 11 (.len true (.s 0)), PO 12 (.bin false .lss (.s 2) (.s 0))] (.s 0) (.skip) (.exit 0)) (.seq (.block 1 (.test false [ PM 15 0, PM 16 5, PO 17 (.ixStr (.s 1) (.s 0)), PM 18 1, PO 19 (.bin false .eql (.s 1) (.s 0))] (.s 0) (.seq (.region false [ PM 20 3, PM 21 0, PM 22 4, PM 23 5, PO 24 (.slice 0 (.s 2) (some (.s 1)) (some (.s 0))), PO 25 (.mkSl 1 (.str []) 1 [(0, (.s 0))]), PO 26 (.app 1 16 (.str []) (.s 5) (.s 0)), VS 3 5 0]) (.region false [ PM 27 5, PO 28 (.bin false .add (.s 0) (I6 1)), VS 4 6 0])) (.skip))) (.region false [ PM 13
 5, PO 14 (.bin false .add (.s 0) (I6 1)), VS 5 7 0]))
def ir55_k0 : List Bool := [true, true, false, true, true, true]
def ir55_o0 : List Bool := [true, false, false, true, true, false]
def ir55_r0 : List Bool := [false, false, true, false, false, false]
def ir55_v : List Nat := [0, 1, 4, 5, 6, 7]
def ir55 : AFn := ⟨2, 6, .seq (.region false [ VO 2 4 (.newnil 1)]) (.seq (.region false [ PO 8 (.mkSl 1 (.str []) 0 []), VS 3 5 0]) (.seq (.region false [ VO 4 6 (.mov (I6 0))]) (.seq (.seq (.region false [ VO 5 7 (.mov (I6 0))]) (.block 0 (.loop ir55_k0 ir55_o0 ir55_r0 ir55_b0))) (.seq (.region false [ PM 29 3, PM 30 0, PM 31 4, PO 32 (.slice 0 (.s 1) (some (.s 0)) none), PO 33 (.mkSl 1 (.str []) 1 [(0, (.s 0))]), PO 34 (.app 1 16 (.str []) (.s 4) (.s 0)), VS 2 4 0]) (.ret))))), [.t 2]⟩
noncomputable def t_68 : List (Nat × Ctr) := []
noncomputable def c_68 : Ctr := mkF t_68 ir55 [.bor, .bor]
theorem s_68 : Sound Tryz.prog 55 c_68 := mkF_sound _ rfl snd_nil (by kernel_rfl : chkFn Tryz.prog 55 ir55 ir55_v = true)
theorem M_68 : c_68.modes = [.bor, .bor] := rfl
theorem Fl_68 : c_68.flat = true := rfl
attribute [go_sem] M_68 Fl_68
def E_68_l1 (s_ : List UInt8) (by_ : UInt8) : ((List (List UInt8)) × Int × Int) → St
 | (out, from_, i) => ⟨[.str s_, .int .u8 (by_.toNat : Int), .any, .own 3200000, .int .i64 from_, .int .i64 i], [], [(3200000, ⟨1, List.map AV.str out⟩)], true⟩
def R_68_l1 (s_ : List UInt8) (by_ : UInt8) (y : (List (List UInt8)) × Int) : Res := (.exit 0, ⟨[.str s_, .any, .any, .own 3200000, .int .i64 y.2, .any], [], [(3200000, ⟨1, List.map AV.str y.1⟩)], true⟩)
theorem spec_l01Split_l1_ex {s_ : List UInt8} {by_ : UInt8} {sgm_ : (List (List UInt8)) × Int × Int} {rho_ : (List (List UInt8)) × Int} (h : whileE (spec_l01Split_l1 s_ by_) sgm_ = some rho_) : ∃ L0, ∀ L, L0 ≤ L → iter (exec (look t_68) L ir55_b0) ir55_k0 ir55_o0 ir55_r0 L (E_68_l1 s_ by_ sgm_) = R_68_l1 s_ by_ rho_ := by
 refine loop_ex (E := E_68_l1 s_ by_) (R := R_68_l1 s_ by_) (fun y => by first | (intro c; cases c) | (rcases y with y | y <;> (intro c; cases c)) | (rcases y with y | y | y <;> (intro c; cases c))) ?_ h
 clear h
 rintro ⟨out, from_, i⟩ o_ h
 dsimp only [spec_l01Split_l1] at h
 rcases it_some h with ⟨z1, h⟩ | ⟨z1, h⟩
 ·try simp only [go_sem, n1, n2, n3, n4] at z1
  all_goals
  obtain ⟨z2, h⟩ := ck_some h
  try simp only [go_sem, n1, n2, n3, n4, z1] at z2
  all_goals
  rcases it_some h with ⟨z3, h⟩ | ⟨z3, h⟩
  ·try simp only [go_sem, n1, n2, n3, n4, z1, z2] at z3
   all_goals
   obtain ⟨z4, h⟩ := ck_some h
   try simp only [go_sem, n1, n2, n3, n4, z1, z2, z3] at z4
   all_goals
   obtain ⟨z5, h⟩ := ck_some h
   try simp only [go_sem, n1, n2, n3, n4, z1, z2, z3, z4] at z5
   all_goals
   obtain rfl := so_some h
   refine ⟨0, fun L hL => ?_⟩
   simp only [go_sem, ir55, E_68_l1, R_68_l1, ir55_b0, ir55_k0, ir55_o0, ir55_r0, z1, z2, z3, z4, z5]
  ·try simp only [go_sem, n1, n2, n3, n4, z1, z2] at z3
   all_goals
   obtain rfl := so_some h
   refine ⟨0, fun L hL => ?_⟩
   simp only [go_sem, ir55, E_68_l1, R_68_l1, ir55_b0, ir55_k0, ir55_o0, ir55_r0, z1, z2, z3]
 ·try simp only [go_sem, n1, n2, n3, n4] at z1
  all_goals
  obtain rfl := so_some h
  refine ⟨0, fun L hL => ?_⟩
  simp only [go_sem, ir55, E_68_l1, R_68_l1, ir55_b0, ir55_k0, ir55_o0, ir55_r0, z1]

theorem Fs_68 {s_ : List UInt8} {by_ : UInt8} {y_ : (List (List UInt8))} (h : spec_l01Split s_ by_ = some y_) : c_68.F [.str s_, .int .u8 (by_.toNat : Int)] = ⟨true, .fresh 1 (List.map AV.str y_), [.any, .any]⟩ := by
 refine mkF_E (by simp only [flatA, flatB, flat1, List.all_cons, List.all_nil, Bool.and_self, flatE_map (f := AV.str) (fun _ => rfl)]) ?_
 dsimp only [spec_l01Split] at h
 obtain ⟨y_6, z6, h⟩ := bd_some h
 obtain ⟨Lz6, ez6⟩ := spec_l01Split_l1_ex z6
 obtain ⟨z7, h⟩ := ck_some h
 try simp only [go_sem, n1, n2, n3, n4] at z7
 all_goals
 obtain ⟨z8, h⟩ := ck_some h
 try simp only [go_sem, n1, n2, n3, n4, z7] at z8
 all_goals
 obtain rfl := so_some h
 refine ⟨Lz6, fun L hL => ?_⟩
 have ez6 := ez6 L (by omega)
 try simp only [go_sem, E_68_l1, R_68_l1, ir55_k0, ir55_o0, ir55_r0, z7, z8] at ez6
 simp only [go_sem, ir55, E_68_l1, R_68_l1, ir55_k0, ir55_o0, ir55_r0, z7, z8, ez6]


def ir56_b0 : IR := .seq (.test false [ PM 25 5, PM 26 3, PO 27 (.len true (.s 0)), PO 28 (.bin false .lss (.s 2) (.s 0))] (.s 0) (.skip) (.exit 0)) (.seq (.block 1 (.seq (.test false [ PM 31 3, PM 32 5, PO 33 (.ixStr (.s 1) (.s 0)), PO 34 (.call 77 [(.s 0)]), PO 35 (.un .not (.s 0))] (.s 0) (.seq (.region false [ VO 1 2 (.mov (I6 0)), VO 2 3 (.mov (.c (.bool false)))]) (.ret)) (.skip)) (.region false [ PM 36 4, PO 37 (.bin false .mul (I6 10) (.s 0)), PM 38 3, PM 39 5, PO 40 (.ixStr (.s 1) (.s 0)), PO 41 (.bin false .sub (.s 0) (.c (.int .u8 (48)))), PO 42 (.conv .i64 (.s 0)), PO 43 (.bin false
 .add (.s 5) (.s 0)), VS 4 5 0]))) (.region false [ PM 29 5, PO 30 (.bin false .add (.s 0) (I6 1)), VS 5 6 0]))
def ir56_k0 : List Bool := [true, false, false, true, true, true]
def ir56_o0 : List Bool := [true, false, false, true, true, false]
def ir56_r0 : List Bool := [false, true, true, false, false, false]
def ir56_v : List Nat := [0, 2, 3, 4, 5, 6]
def ir56 : AFn := ⟨1, 6, .seq (.region false [ VO 1 2 (.mov (I6 0)), VO 2 3 (.mov (.c (.bool false)))]) (.seq (.region false [ PM 7 0, VS 3 4 0]) (.seq (.test false [ PM 8 3, PO 9 (.bin false .neq (.s 0) (.c (.str []))), PO 10 (.mov (.s 0)), ⟨.push, 11, (some ((.s 0), true)), .mov (.v 3)⟩, ⟨.push, 12, (some ((.s 1), true)), .ixStr (.s 0) (I6 0)⟩, ⟨.push, 13, (some ((.s 2), true)), .bin false .eql (.s 0) (.c (.int .u8 (45)))⟩, PO 14 (.pick (.s 3) (.s 0) (.c (.bool false)))] (.s 0) (.region false [ PM 15 3, PO 16 (.slice 0 (.s 0) (some (I6 1)) none), VS 3 4 0]) (.skip)) (.seq (.test false [ PM 17
 3, PO 18 (.len true (.s 0)), PO 19 (.bin false .lss (.s 0) (I6 1)), PO 20 (.mov (.s 0)), ⟨.push, 21, (some ((.s 0), false)), .mov (.v 3)⟩, ⟨.push, 22, (some ((.s 1), false)), .len true (.s 0)⟩, ⟨.push, 23, (some ((.s 2), false)), .bin false .gtr (.s 0) (I6 18)⟩, PO 24 (.pick (.s 3) (.c (.bool true)) (.s 0))] (.s 0) (.seq (.region false [ VO 1 2 (.mov (I6 0)), VO 2 3 (.mov (.c (.bool false)))]) (.ret)) (.skip)) (.seq (.region false [ VO 4 5 (.mov (I6 0))]) (.seq (.seq (.region false [ VO 5 6 (.mov (I6 0))]) (.block 0 (.loop ir56_k0 ir56_o0 ir56_r0 ir56_b0))) (.seq (.test false [ PM 44 3, PO 45
 (.len true (.s 0)), PM 46 0, PO 47 (.len true (.s 0)), PO 48 (.bin false .lss (.s 2) (.s 0))] (.s 0) (.region false [ PM 49 4, PO 50 (.un .neg (.s 0)), VS 4 5 0]) (.skip)) (.seq (.test false [ PM 51 4, PO 52 (.call 76 [(.s 0)]), PM 53 0, PO 54 (.bin false .neq (.s 1) (.s 0))] (.s 0) (.seq (.region false [ VO 1 2 (.mov (I6 0)), VO 2 3 (.mov (.c (.bool false)))]) (.ret)) (.skip)) (.seq (.region false [ PM 55 4, VS 1 2 0, VO 2 3 (.mov (.c (.bool true)))]) (.ret))))))))), [.t 1, .t 2]⟩
noncomputable def t_69 : List (Nat × Ctr) := [(77, c_27), (76, c_64)]
theorem lk_69_77 : look t_69 77 = some c_27 := rfl
theorem lk_69_76 : look t_69 76 = some c_64 := rfl
noncomputable def c_69 : Ctr := mkF t_69 ir56 [.bor]
theorem s_69 : Sound Tryz.prog 56 c_69 := mkF_sound _ rfl (snd_cons s_27 (snd_cons s_64 snd_nil)) (by kernel_rfl : chkFn Tryz.prog 56 ir56 ir56_v = true)
theorem M_69 : c_69.modes = [.bor] := rfl
theorem Fl_69 : c_69.flat = true := rfl
attribute [go_sem] M_69 Fl_69
attribute [go_sem] lk_69_77 lk_69_76
def E_69_l1 (s_ : List UInt8) (t : List UInt8) : (Int × Int) → St
 | (n, i) => ⟨[.str s_, .any, .any, .str t, .int .i64 n, .int .i64 i], [], [], true⟩
def R_69_l1 (s_ : List UInt8) (t : List UInt8) : (Int ⊕ (Int × Bool)) → Res
 | .inl y => (.exit 0, ⟨[.str s_, .any, .any, .str t, .int .i64 y, .any], [], [], true⟩)
 | .inr y => (.ret, ⟨[.any, .int .i64 y.1, .bool y.2, .any, .any, .any], [], [], true⟩)
theorem spec_l01Number_l1_ex {s_ : List UInt8} {t : List UInt8} {sgm_ : Int × Int} {rho_ : Int ⊕ (Int × Bool)} (h : whileE (spec_l01Number_l1 s_ t) sgm_ = some rho_) : ∃ L0, ∀ L, L0 ≤ L → iter (exec (look t_69) L ir56_b0) ir56_k0 ir56_o0 ir56_r0 L (E_69_l1 s_ t sgm_) = R_69_l1 s_ t rho_ := by
 refine loop_ex (E := E_69_l1 s_ t) (R := R_69_l1 s_ t) (fun y => by first | (intro c; cases c) | (rcases y with y | y <;> (intro c; cases c)) | (rcases y with y | y | y <;> (intro c; cases c))) ?_ h
 clear h
 rintro ⟨n, i⟩ o_ h
 dsimp only [spec_l01Number_l1] at h
 rcases it_some h with ⟨z5, h⟩ | ⟨z5, h⟩
 ·try simp only [go_sem, n1, n2, n3, n4] at z5
  all_goals
  obtain ⟨z6, h⟩ := ck_some h
  try simp only [go_sem, n1, n2, n3, n4, z5] at z6
  all_goals
  obtain ⟨y_7, z7, h⟩ := bd_some h
  have fz7 := Fs_27 z7
  try simp only [go_sem, z5, z6] at fz7
  rcases it_some h with ⟨z8, h⟩ | ⟨z8, h⟩
  ·try simp only [go_sem, n1, n2, n3, n4, z5, z6] at z8
   all_goals
   obtain rfl := so_some h
   refine ⟨0, fun L hL => ?_⟩
   simp only [go_sem, ir56, E_69_l1, R_69_l1, ir56_b0, ir56_k0, ir56_o0, ir56_r0, z5, z6, fz7, z8]
  ·try simp only [go_sem, n1, n2, n3, n4, z5, z6] at z8
   all_goals
   obtain rfl := so_some h
   refine ⟨0, fun L hL => ?_⟩
   simp only [go_sem, ir56, E_69_l1, R_69_l1, ir56_b0, ir56_k0, ir56_o0, ir56_r0, z5, z6, fz7, z8]
 ·try simp only [go_sem, n1, n2, n3, n4] at z5
  all_goals
  obtain rfl := so_some h
  refine ⟨0, fun L hL => ?_⟩
  simp only [go_sem, ir56, E_69_l1, R_69_l1, ir56_b0, ir56_k0, ir56_o0, ir56_r0, z5]

def E_69_l2 (s_ : List UInt8) (t : List UInt8) : (Int × Int) → St
 | (n, i) => ⟨[.str s_, .any, .any, .str t, .int .i64 n, .int .i64 i], [], [], true⟩
def R_69_l2 (s_ : List UInt8) (t : List UInt8) : (Int ⊕ (Int × Bool)) → Res
 | .inl y => (.exit 0, ⟨[.str s_, .any, .any, .str t, .int .i64 y, .any], [], [], true⟩)
 | .inr y => (.ret, ⟨[.any, .int .i64 y.1, .bool y.2, .any, .any, .any], [], [], true⟩)
theorem spec_l01Number_l2_ex {s_ : List UInt8} {t : List UInt8} {sgm_ : Int × Int} {rho_ : Int ⊕ (Int × Bool)} (h : whileE (spec_l01Number_l2 s_ t) sgm_ = some rho_) : ∃ L0, ∀ L, L0 ≤ L → iter (exec (look t_69) L ir56_b0) ir56_k0 ir56_o0 ir56_r0 L (E_69_l2 s_ t sgm_) = R_69_l2 s_ t rho_ := by
 refine loop_ex (E := E_69_l2 s_ t) (R := R_69_l2 s_ t) (fun y => by first | (intro c; cases c) | (rcases y with y | y <;> (intro c; cases c)) | (rcases y with y | y | y <;> (intro c; cases c))) ?_ h
 clear h
 rintro ⟨n, i⟩ o_ h
 dsimp only [spec_l01Number_l2] at h
 rcases it_some h with ⟨z16, h⟩ | ⟨z16, h⟩
 ·try simp only [go_sem, n1, n2, n3, n4] at z16
  all_goals
  obtain ⟨z17, h⟩ := ck_some h
  try simp only [go_sem, n1, n2, n3, n4, z16] at z17
  all_goals
  obtain ⟨y_18, z18, h⟩ := bd_some h
  have fz18 := Fs_27 z18
  try simp only [go_sem, z16, z17] at fz18
  rcases it_some h with ⟨z19, h⟩ | ⟨z19, h⟩
  ·try simp only [go_sem, n1, n2, n3, n4, z16, z17] at z19
   all_goals
   obtain rfl := so_some h
   refine ⟨0, fun L hL => ?_⟩
   simp only [go_sem, ir56, E_69_l2, R_69_l2, ir56_b0, ir56_k0, ir56_o0, ir56_r0, E_69_l1, R_69_l1, ir56_k0, ir56_o0, ir56_r0, z16, z17, fz18, z19]
  ·try simp only [go_sem, n1, n2, n3, n4, z16, z17] at z19
   all_goals
   obtain rfl := so_some h
   refine ⟨0, fun L hL => ?_⟩
   simp only [go_sem, ir56, E_69_l2, R_69_l2, ir56_b0, ir56_k0, ir56_o0, ir56_r0, E_69_l1, R_69_l1, ir56_k0, ir56_o0, ir56_r0, z16, z17, fz18, z19]
 ·try simp only [go_sem, n1, n2, n3, n4] at z16
  all_goals
  obtain rfl := so_some h
  refine ⟨0, fun L hL => ?_⟩
  simp only [go_sem, ir56, E_69_l2, R_69_l2, ir56_b0, ir56_k0, ir56_o0, ir56_r0, E_69_l1, R_69_l1, ir56_k0, ir56_o0, ir56_r0, z16]

theorem Fs_69 {s_ : List UInt8} {y_ : Int × Bool} (h : spec_l01Number s_ = some y_) : c_69.F [.str s_] = ⟨true, .tup [.int .i64 y_.1, .bool y_.2], [.any]⟩ := by
 refine mkF_E rfl ?_
 dsimp only [spec_l01Number] at h
 obtain ⟨z1, h⟩ := ck_some h
 rcases or_split z1 with ⟨gz1, z1⟩ | gz1
 ·try simp only [go_sem, n1, n2, n3, n4] at gz1
  all_goals
  try simp only [go_sem, n1, n2, n3, n4, gz1] at z1
  all_goals
  rcases it_some h with ⟨z2, h⟩ | ⟨z2, h⟩
  ·try simp only [go_sem, n1, n2, n3, n4, gz1, z1] at z2
   all_goals
   obtain ⟨z3, h⟩ := ck_some h
   try simp only [go_sem, n1, n2, n3, n4, gz1, z1, z2] at z3
   all_goals
   rcases it_some h with ⟨z4, h⟩ | ⟨z4, h⟩
   ·try simp only [go_sem, n1, n2, n3, n4, gz1, z1, z2, z3] at z4
    all_goals
    obtain rfl := so_some h
    refine ⟨0, fun L hL => ?_⟩
    simp only [go_sem, ir56, E_69_l1, R_69_l1, ir56_k0, ir56_o0, ir56_r0, E_69_l2, R_69_l2, ir56_k0, ir56_o0, ir56_r0, gz1, z1, z2, z3, z4]
   ·try simp only [go_sem, n1, n2, n3, n4, gz1, z1, z2, z3] at z4
    all_goals
    obtain ⟨y_9, z9, h⟩ := bd_some h
    obtain ⟨Lz9, ez9⟩ := spec_l01Number_l1_ex z9
    rcases y_9 with y_9a | y_9b
    ·dsimp only at h
     rcases it_some h with ⟨z10, h⟩ | ⟨z10, h⟩
     ·try simp only [go_sem, n1, n2, n3, n4, gz1, z1, z2, z3, z4] at z10
      all_goals
      obtain ⟨y_11, z11, h⟩ := bd_some h
      have fz11 := Fs_64 z11
      try simp only [go_sem, gz1, z1, z2, z3, z4, z10] at fz11
      rcases it_some h with ⟨z12, h⟩ | ⟨z12, h⟩
      ·try simp only [go_sem, n1, n2, n3, n4, gz1, z1, z2, z3, z4, z10] at z12
       all_goals
       obtain rfl := so_some h
       refine ⟨Lz9, fun L hL => ?_⟩
       have ez9 := ez9 L (by omega)
       try simp only [go_sem, E_69_l1, R_69_l1, ir56_k0, ir56_o0, ir56_r0, E_69_l2, R_69_l2, ir56_k0, ir56_o0, ir56_r0, gz1, z1, z2, z3, z4, z10, z12] at ez9
       simp only [go_sem, ir56, E_69_l1, R_69_l1, ir56_k0, ir56_o0, ir56_r0, E_69_l2, R_69_l2, ir56_k0, ir56_o0, ir56_r0, gz1, z1, z2, z3, z4, z10, fz11, z12, ez9]
      ·try simp only [go_sem, n1, n2, n3, n4, gz1, z1, z2, z3, z4, z10] at z12
       all_goals
       obtain rfl := so_some h
       refine ⟨Lz9, fun L hL => ?_⟩
       have ez9 := ez9 L (by omega)
       try simp only [go_sem, E_69_l1, R_69_l1, ir56_k0, ir56_o0, ir56_r0, E_69_l2, R_69_l2, ir56_k0, ir56_o0, ir56_r0, gz1, z1, z2, z3, z4, z10, z12] at ez9
       simp only [go_sem, ir56, E_69_l1, R_69_l1, ir56_k0, ir56_o0, ir56_r0, E_69_l2, R_69_l2, ir56_k0, ir56_o0, ir56_r0, gz1, z1, z2, z3, z4, z10, fz11, z12, ez9]
     ·try simp only [go_sem, n1, n2, n3, n4, gz1, z1, z2, z3, z4] at z10
      all_goals
      obtain ⟨y_13, z13, h⟩ := bd_some h
      have fz13 := Fs_64 z13
      try simp only [go_sem, gz1, z1, z2, z3, z4, z10] at fz13
      rcases it_some h with ⟨z14, h⟩ | ⟨z14, h⟩
      ·try simp only [go_sem, n1, n2, n3, n4, gz1, z1, z2, z3, z4, z10] at z14
       all_goals
       obtain rfl := so_some h
       refine ⟨Lz9, fun L hL => ?_⟩
       have ez9 := ez9 L (by omega)
       try simp only [go_sem, E_69_l1, R_69_l1, ir56_k0, ir56_o0, ir56_r0, E_69_l2, R_69_l2, ir56_k0, ir56_o0, ir56_r0, gz1, z1, z2, z3, z4, z10, z14] at ez9
       simp only [go_sem, ir56, E_69_l1, R_69_l1, ir56_k0, ir56_o0, ir56_r0, E_69_l2, R_69_l2, ir56_k0, ir56_o0, ir56_r0, gz1, z1, z2, z3, z4, z10, fz13, z14, ez9]
      ·try simp only [go_sem, n1, n2, n3, n4, gz1, z1, z2, z3, z4, z10] at z14
       all_goals
       obtain rfl := so_some h
       refine ⟨Lz9, fun L hL => ?_⟩
       have ez9 := ez9 L (by omega)
       try simp only [go_sem, E_69_l1, R_69_l1, ir56_k0, ir56_o0, ir56_r0, E_69_l2, R_69_l2, ir56_k0, ir56_o0, ir56_r0, gz1, z1, z2, z3, z4, z10, z14] at ez9
       simp only [go_sem, ir56, E_69_l1, R_69_l1, ir56_k0, ir56_o0, ir56_r0, E_69_l2, R_69_l2, ir56_k0, ir56_o0, ir56_r0, gz1, z1, z2, z3, z4, z10, fz13, z14, ez9]
    ·dsimp only at h
     obtain rfl := so_some h
     refine ⟨Lz9, fun L hL => ?_⟩
     have ez9 := ez9 L (by omega)
     try simp only [go_sem, E_69_l1, R_69_l1, ir56_k0, ir56_o0, ir56_r0, E_69_l2, R_69_l2, ir56_k0, ir56_o0, ir56_r0, gz1, z1, z2, z3, z4] at ez9
     simp only [go_sem, ir56, E_69_l1, R_69_l1, ir56_k0, ir56_o0, ir56_r0, E_69_l2, R_69_l2, ir56_k0, ir56_o0, ir56_r0, gz1, z1, z2, z3, z4, ez9]
  ·try simp only [go_sem, n1, n2, n3, n4, gz1, z1] at z2
   all_goals
   rcases it_some h with ⟨z15, h⟩ | ⟨z15, h⟩
   ·try simp only [go_sem, n1, n2, n3, n4, gz1, z1, z2] at z15
    all_goals
    obtain rfl := so_some h
    refine ⟨0, fun L hL => ?_⟩
    simp only [go_sem, ir56, E_69_l1, R_69_l1, ir56_k0, ir56_o0, ir56_r0, E_69_l2, R_69_l2, ir56_k0, ir56_o0, ir56_r0, gz1, z1, z2, z15]
   ·try simp only [go_sem, n1, n2, n3, n4, gz1, z1, z2] at z15
    all_goals
    obtain ⟨y_20, z20, h⟩ := bd_some h
    obtain ⟨Lz20, ez20⟩ := spec_l01Number_l2_ex z20
    rcases y_20 with y_20a | y_20b
    ·dsimp only at h
     rcases it_some h with ⟨z21, h⟩ | ⟨z21, h⟩
     ·try simp only [go_sem, n1, n2, n3, n4, gz1, z1, z2, z15] at z21
      all_goals
      obtain ⟨y_22, z22, h⟩ := bd_some h
      have fz22 := Fs_64 z22
      try simp only [go_sem, gz1, z1, z2, z15, z21] at fz22
      rcases it_some h with ⟨z23, h⟩ | ⟨z23, h⟩
      ·try simp only [go_sem, n1, n2, n3, n4, gz1, z1, z2, z15, z21] at z23
       all_goals
       obtain rfl := so_some h
       refine ⟨Lz20, fun L hL => ?_⟩
       have ez20 := ez20 L (by omega)
       try simp only [go_sem, E_69_l1, R_69_l1, ir56_k0, ir56_o0, ir56_r0, E_69_l2, R_69_l2, ir56_k0, ir56_o0, ir56_r0, gz1, z1, z2, z15, z21, z23] at ez20
       simp only [go_sem, ir56, E_69_l1, R_69_l1, ir56_k0, ir56_o0, ir56_r0, E_69_l2, R_69_l2, ir56_k0, ir56_o0, ir56_r0, gz1, z1, z2, z15, z21, fz22, z23, ez20]
      ·try simp only [go_sem, n1, n2, n3, n4, gz1, z1, z2, z15, z21] at z23
       all_goals
       obtain rfl := so_some h
       refine ⟨Lz20, fun L hL => ?_⟩
       have ez20 := ez20 L (by omega)
       try simp only [go_sem, E_69_l1, R_69_l1, ir56_k0, ir56_o0, ir56_r0, E_69_l2, R_69_l2, ir56_k0, ir56_o0, ir56_r0, gz1, z1, z2, z15, z21, z23] at ez20
       simp only [go_sem, ir56, E_69_l1, R_69_l1, ir56_k0, ir56_o0, ir56_r0, E_69_l2, R_69_l2, ir56_k0, ir56_o0, ir56_r0, gz1, z1, z2, z15, z21, fz22, z23, ez20]
     ·try simp only [go_sem, n1, n2, n3, n4, gz1, z1, z2, z15] at z21
      all_goals
      obtain ⟨y_24, z24, h⟩ := bd_some h
      have fz24 := Fs_64 z24
      try simp only [go_sem, gz1, z1, z2, z15, z21] at fz24
      rcases it_some h with ⟨z25, h⟩ | ⟨z25, h⟩
      ·try simp only [go_sem, n1, n2, n3, n4, gz1, z1, z2, z15, z21] at z25
       all_goals
       obtain rfl := so_some h
       refine ⟨Lz20, fun L hL => ?_⟩
       have ez20 := ez20 L (by omega)
       try simp only [go_sem, E_69_l1, R_69_l1, ir56_k0, ir56_o0, ir56_r0, E_69_l2, R_69_l2, ir56_k0, ir56_o0, ir56_r0, gz1, z1, z2, z15, z21, z25] at ez20
       simp only [go_sem, ir56, E_69_l1, R_69_l1, ir56_k0, ir56_o0, ir56_r0, E_69_l2, R_69_l2, ir56_k0, ir56_o0, ir56_r0, gz1, z1, z2, z15, z21, fz24, z25, ez20]
      ·try simp only [go_sem, n1, n2, n3, n4, gz1, z1, z2, z15, z21] at z25
       all_goals
       obtain rfl := so_some h
       refine ⟨Lz20, fun L hL => ?_⟩
       have ez20 := ez20 L (by omega)
       try simp only [go_sem, E_69_l1, R_69_l1, ir56_k0, ir56_o0, ir56_r0, E_69_l2, R_69_l2, ir56_k0, ir56_o0, ir56_r0, gz1, z1, z2, z15, z21, z25] at ez20
       simp only [go_sem, ir56, E_69_l1, R_69_l1, ir56_k0, ir56_o0, ir56_r0, E_69_l2, R_69_l2, ir56_k0, ir56_o0, ir56_r0, gz1, z1, z2, z15, z21, fz24, z25, ez20]
    ·dsimp only at h
     obtain rfl := so_some h
     refine ⟨Lz20, fun L hL => ?_⟩
     have ez20 := ez20 L (by omega)
     try simp only [go_sem, E_69_l1, R_69_l1, ir56_k0, ir56_o0, ir56_r0, E_69_l2, R_69_l2, ir56_k0, ir56_o0, ir56_r0, gz1, z1, z2, z15] at ez20
     simp only [go_sem, ir56, E_69_l1, R_69_l1, ir56_k0, ir56_o0, ir56_r0, E_69_l2, R_69_l2, ir56_k0, ir56_o0, ir56_r0, gz1, z1, z2, z15, ez20]
 ·have gz1n := no_f gz1
  try simp only [go_sem, n1, n2, n3, n4] at gz1n
  all_goals
  rcases it_some h with ⟨z2, h⟩ | ⟨z2, h⟩
  ·try simp only [go_sem, n1, n2, n3, n4, gz1n] at z2
   all_goals
   (simp_all)
  ·try simp only [go_sem, n1, n2, n3, n4, gz1n] at z2
   all_goals
   rcases it_some h with ⟨z15, h⟩ | ⟨z15, h⟩
   ·try simp only [go_sem, n1, n2, n3, n4, gz1n, z2] at z15
    all_goals
    obtain rfl := so_some h
    refine ⟨0, fun L hL => ?_⟩
    simp only [go_sem, ir56, E_69_l1, R_69_l1, ir56_k0, ir56_o0, ir56_r0, E_69_l2, R_69_l2, ir56_k0, ir56_o0, ir56_r0, gz1n, z2, z15]
   ·try simp only [go_sem, n1, n2, n3, n4, gz1n, z2] at z15
    all_goals
    obtain ⟨y_20, z20, h⟩ := bd_some h
    obtain ⟨Lz20, ez20⟩ := spec_l01Number_l2_ex z20
    rcases y_20 with y_20a | y_20b
    ·dsimp only at h
     rcases it_some h with ⟨z21, h⟩ | ⟨z21, h⟩
     ·try simp only [go_sem, n1, n2, n3, n4, gz1n, z2, z15] at z21
      all_goals
      obtain ⟨y_22, z22, h⟩ := bd_some h
      have fz22 := Fs_64 z22
      try simp only [go_sem, gz1n, z2, z15, z21] at fz22
      rcases it_some h with ⟨z23, h⟩ | ⟨z23, h⟩
      ·try simp only [go_sem, n1, n2, n3, n4, gz1n, z2, z15, z21] at z23
       all_goals
       obtain rfl := so_some h
       refine ⟨Lz20, fun L hL => ?_⟩
       have ez20 := ez20 L (by omega)
       try simp only [go_sem, E_69_l1, R_69_l1, ir56_k0, ir56_o0, ir56_r0, E_69_l2, R_69_l2, ir56_k0, ir56_o0, ir56_r0, gz1n, z2, z15, z21, z23] at ez20
       simp only [go_sem, ir56, E_69_l1, R_69_l1, ir56_k0, ir56_o0, ir56_r0, E_69_l2, R_69_l2, ir56_k0, ir56_o0, ir56_r0, gz1n, z2, z15, z21, fz22, z23, ez20]
      ·try simp only [go_sem, n1, n2, n3, n4, gz1n, z2, z15, z21] at z23
       all_goals
       obtain rfl := so_some h
       refine ⟨Lz20, fun L hL => ?_⟩
       have ez20 := ez20 L (by omega)
       try simp only [go_sem, E_69_l1, R_69_l1, ir56_k0, ir56_o0, ir56_r0, E_69_l2, R_69_l2, ir56_k0, ir56_o0, ir56_r0, gz1n, z2, z15, z21, z23] at ez20
       simp only [go_sem, ir56, E_69_l1, R_69_l1, ir56_k0, ir56_o0, ir56_r0, E_69_l2, R_69_l2, ir56_k0, ir56_o0, ir56_r0, gz1n, z2, z15, z21, fz22, z23, ez20]
     ·try simp only [go_sem, n1, n2, n3, n4, gz1n, z2, z15] at z21
      all_goals
      obtain ⟨y_24, z24, h⟩ := bd_some h
      have fz24 := Fs_64 z24
      try simp only [go_sem, gz1n, z2, z15, z21] at fz24
      rcases it_some h with ⟨z25, h⟩ | ⟨z25, h⟩
      ·try simp only [go_sem, n1, n2, n3, n4, gz1n, z2, z15, z21] at z25
       all_goals
       obtain rfl := so_some h
       refine ⟨Lz20, fun L hL => ?_⟩
       have ez20 := ez20 L (by omega)
       try simp only [go_sem, E_69_l1, R_69_l1, ir56_k0, ir56_o0, ir56_r0, E_69_l2, R_69_l2, ir56_k0, ir56_o0, ir56_r0, gz1n, z2, z15, z21, z25] at ez20
       simp only [go_sem, ir56, E_69_l1, R_69_l1, ir56_k0, ir56_o0, ir56_r0, E_69_l2, R_69_l2, ir56_k0, ir56_o0, ir56_r0, gz1n, z2, z15, z21, fz24, z25, ez20]
      ·try simp only [go_sem, n1, n2, n3, n4, gz1n, z2, z15, z21] at z25
       all_goals
       obtain rfl := so_some h
       refine ⟨Lz20, fun L hL => ?_⟩
       have ez20 := ez20 L (by omega)
       try simp only [go_sem, E_69_l1, R_69_l1, ir56_k0, ir56_o0, ir56_r0, E_69_l2, R_69_l2, ir56_k0, ir56_o0, ir56_r0, gz1n, z2, z15, z21, z25] at ez20
       simp only [go_sem, ir56, E_69_l1, R_69_l1, ir56_k0, ir56_o0, ir56_r0, E_69_l2, R_69_l2, ir56_k0, ir56_o0, ir56_r0, gz1n, z2, z15, z21, fz24, z25, ez20]
    ·dsimp only at h
     obtain rfl := so_some h
     refine ⟨Lz20, fun L hL => ?_⟩
     have ez20 := ez20 L (by omega)
     try simp only [go_sem, E_69_l1, R_69_l1, ir56_k0, ir56_o0, ir56_r0, E_69_l2, R_69_l2, ir56_k0, ir56_o0, ir56_r0, gz1n, z2, z15] at ez20
     simp only [go_sem, ir56, E_69_l1, R_69_l1, ir56_k0, ir56_o0, ir56_r0, E_69_l2, R_69_l2, ir56_k0, ir56_o0, ir56_r0, gz1n, z2, z15, ez20]


def ir21_v : List Nat := [0, 2, 3, 4, 5, 6, 7, 8]
def ir21 : AFn := ⟨1, 8, .seq (.region false [ VO 1 2 (.alloc (.agg [.str [], .int .i64 (0)])), VO 2 3 (.mov (.c (.bool false)))]) (.seq (.region false [ PM 9 0, PO 10 (.call 55 [(.s 0), (.c (.int .u8 (32)))]), VS 3 4 0]) (.seq (.test false [ PM 11 3, PO 12 (.len false (.s 0)), PO 13 (.bin false .neq (.s 0) (I6 2)), PO 14 (.mov (.s 0)), ⟨.push, 15, (some ((.s 0), false)), .mov (.v 3)⟩, ⟨.push, 16, (some ((.s 1), false)), .ixAddr 1 (.s 0) (I6 1)⟩, ⟨.push, 17, (some ((.s 2), false)), .load false 1 (.s 0)⟩, ⟨.push, 18, (some ((.s 3), false)), .len true (.s 0)⟩, ⟨.push, 19, (some ((.s 4), false)),
 .bin false .lss (.s 0) (I6 2)⟩, PO 20 (.pick (.s 5) (.c (.bool true)) (.s 0))] (.s 0) (.seq (.region false [ PO 21 (.build [.str [], .int .i64 (0)] []), ⟨.no, 0, none, .store 2 (.v 1) (.s 0)⟩, VO 2 3 (.mov (.c (.bool false)))]) (.ret)) (.skip)) (.seq (.region false [ PM 22 3, PO 23 (.ixAddr 1 (.s 0) (I6 1)), PO 24 (.load false 1 (.s 0)), VS 4 5 0]) (.seq (.test false [ PM 25 4, PO 26 (.ixStr (.s 0) (I6 0)), PO 27 (.bin false .eql (.s 0) (.c (.int .u8 (43))))] (.s 0) (.region false [ PM 28 4, PO 29 (.slice 0 (.s 0) (some (I6 1)) none), VS 4 5 0]) (.test false [ PM 30 4, PO 31 (.ixStr (.s 0) (I6
 0)), PO 32 (.bin false .neq (.s 0) (.c (.int .u8 (45))))] (.s 0) (.seq (.region false [ PO 33 (.build [.str [], .int .i64 (0)] []), ⟨.no, 0, none, .store 2 (.v 1) (.s 0)⟩, VO 2 3 (.mov (.c (.bool false)))]) (.ret)) (.skip))) (.seq (.region false [ PM 35 4, PO 36 (.call 56 [(.s 0)]), PO 34 (.mov (.s 0)), PO 37 (.ext (.s 0) 0), PO 38 (.ext (.s 1) 1), VS 5 6 1, VS 6 7 0]) (.seq (.region false [ PM 39 3, PO 40 (.ixAddr 1 (.s 0) (I6 0)), PO 41 (.load false 1 (.s 0)), PM 42 5, PO 43 (.build [.str [], .int .i64 (0)] [(0, 1, (.s 1)), (1, 1, (.s 0))]), VO 7 8 (.alloc (.agg [.str [], .int .i64 (0)])),
 ⟨.no, 0, none, .store 2 (.v 7) (.s 0)⟩]) (.seq (.test false [ PM 44 6, PO 45 (.un .not (.s 0)), PO 46 (.mov (.s 0)), ⟨.push, 47, (some ((.s 0), false)), .mov (.v 3)⟩, ⟨.push, 48, (some ((.s 1), false)), .ixAddr 1 (.s 0) (I6 1)⟩, ⟨.push, 49, (some ((.s 2), false)), .load false 1 (.s 0)⟩, ⟨.push, 50, (some ((.s 3), false)), .ixStr (.s 0) (I6 0)⟩, ⟨.push, 51, (some ((.s 4), false)), .bin false .eql (.s 0) (.c (.int .u8 (43)))⟩, ⟨.push, 52, (some ((.s 5), false)), .mov (.s 0)⟩, ⟨.push, 53, (some ((.s 0), true)), .mov (.v 5)⟩, ⟨.push, 54, (some ((.s 1), true)), .bin false .lss (.s 0) (I6 0)⟩,
 ⟨.push, 55, (some ((.s 8), false)), .pick (.s 2) (.s 0) (.c (.bool false))⟩, PO 56 (.pick (.s 9) (.c (.bool true)) (.s 0)), PO 57 (.mov (.s 0)), ⟨.push, 58, (some ((.s 0), false)), .call 39 [(.v 7)]⟩, ⟨.push, 59, (some ((.s 1), false)), .un .not (.s 0)⟩, PO 60 (.pick (.s 2) (.c (.bool true)) (.s 0))] (.s 0) (.seq (.region false [ PO 61 (.build [.str [], .int .i64 (0)] []), ⟨.no, 0, none, .store 2 (.v 1) (.s 0)⟩, VO 2 3 (.mov (.c (.bool false)))]) (.ret)) (.skip)) (.seq (.region false [ PO 62 (.load true 2 (.v 7)), ⟨.no, 0, none, .store 2 (.v 1) (.s 0)⟩, VO 2 3 (.mov (.c (.bool true)))])
 (.ret))))))))), [.cell true 2 1, .t 2]⟩
noncomputable def t_70 : List (Nat × Ctr) := [(55, c_68), (56, c_69), (39, c_30)]
theorem lk_70_55 : look t_70 55 = some c_68 := rfl
theorem lk_70_56 : look t_70 56 = some c_69 := rfl
theorem lk_70_39 : look t_70 39 = some c_30 := rfl
noncomputable def c_70 : Ctr := mkN t_70 ir21 [.bor]
theorem s_70 : Sound Tryz.prog 21 c_70 := mkN_sound _ (snd_cons s_68 (snd_cons s_69 (snd_cons s_30 snd_nil))) (by kernel_rfl : chkFn Tryz.prog 21 ir21 ir21_v = true)
theorem M_70 : c_70.modes = [.bor] := rfl
theorem Fl_70 : c_70.flat = false := rfl
attribute [go_sem] M_70 Fl_70
attribute [go_sem] lk_70_55 lk_70_56 lk_70_39
theorem Fs_70 {s_ : List UInt8} {y_ : Observer × Bool} (h : spec_ReadObserver s_ = some y_) : c_70.F [.str s_] = ⟨true, .tup [Observer_av y_.1, .bool y_.2], [.any]⟩ := by
 refine mkN_E ?_
 dsimp only [spec_ReadObserver] at h
 obtain ⟨y_1, z1, h⟩ := bd_some h
 have fz1 := Fs_68 z1
 try simp only [go_sem] at fz1
 obtain ⟨z2, h⟩ := ck_some h
 rcases or_split z2 with ⟨gz2, z2⟩ | gz2
 ·try simp only [go_sem, n1, n2, n3, n4] at gz2
  all_goals
  have lz2 := ix_lt z2
  have xz2 := getD_mapD AV.str y_1 lz2
  try simp only [go_sem] at lz2
  try simp only [go_sem] at xz2
  try simp only [go_sem, n1, n2, n3, n4, gz2] at z2
  all_goals
  rcases it_some h with ⟨z3, h⟩ | ⟨z3, h⟩
  ·try simp only [go_sem, n1, n2, n3, n4, gz2, z2] at z3
   all_goals
   obtain rfl := so_some h
   refine ⟨0, fun L hL => ?_⟩
   simp only [go_sem, ir21, fz1, gz2, z2, lz2, xz2, z3]
  ·try simp only [go_sem, n1, n2, n3, n4, gz2, z2] at z3
   all_goals
   obtain ⟨z4, h⟩ := ck_some h
   have lz4 := ix_lt z4
   have xz4 := getD_mapD AV.str y_1 lz4
   try simp only [go_sem] at lz4
   try simp only [go_sem] at xz4
   try simp only [go_sem, n1, n2, n3, n4, gz2, z2, z3] at z4
   all_goals
   obtain ⟨z5, h⟩ := ck_some h
   try simp only [go_sem, n1, n2, n3, n4, gz2, z2, z3, z4] at z5
   all_goals
   rcases it_some h with ⟨z6, h⟩ | ⟨z6, h⟩
   ·try simp only [go_sem, n1, n2, n3, n4, gz2, z2, z3, z4, z5] at z6
    all_goals
    obtain ⟨z7, h⟩ := ck_some h
    try simp only [go_sem, n1, n2, n3, n4, gz2, z2, z3, z4, z5, z6] at z7
    all_goals
    obtain ⟨y_8, z8, h⟩ := bd_some h
    have fz8 := Fs_69 z8
    try simp only [go_sem, gz2, z2, z3, z4, z5, z6, z7] at fz8
    obtain ⟨z9, h⟩ := ck_some h
    have lz9 := ix_lt z9
    have xz9 := getD_mapD AV.str y_1 lz9
    try simp only [go_sem] at lz9
    try simp only [go_sem] at xz9
    try simp only [go_sem, n1, n2, n3, n4, gz2, z2, z3, z4, z5, z6, z7] at z9
    all_goals
    obtain ⟨z10, h⟩ := ck_some h
    rcases or_split z10 with ⟨gz10, z10⟩ | gz10
    ·try simp only [go_sem, n1, n2, n3, n4, gz2, z2, z3, z4, z5, z6, z7, z9] at gz10
     all_goals
     obtain ⟨y_10, hz10⟩ := Option.isSome_iff_exists.1 z10
     have fz10 := Fs_30 hz10
     try simp only [go_sem, n1, n2, n3, n4, gz2, z2, z3, z4, z5, z6, z7, z9, gz10] at hz10
     all_goals
     try simp only [go_sem, gz2, z2, z3, z4, z5, z6, z7, z9, gz10] at fz10
     rcases it_some h with ⟨z11, h⟩ | ⟨z11, h⟩
     ·try simp only [go_sem, n1, n2, n3, n4, gz2, z2, z3, z4, z5, z6, z7, z9, gz10, hz10] at z11
      all_goals
      obtain rfl := so_some h
      refine ⟨0, fun L hL => ?_⟩
      simp only [go_sem, ir21, fz1, gz2, z2, lz2, xz2, z3, z4, lz4, xz4, z5, z6, z7, fz8, z9, lz9, xz9, gz10, hz10, fz10, z11]
     ·try simp only [go_sem, n1, n2, n3, n4, gz2, z2, z3, z4, z5, z6, z7, z9, gz10, hz10] at z11
      all_goals
      obtain rfl := so_some h
      refine ⟨0, fun L hL => ?_⟩
      simp only [go_sem, ir21, fz1, gz2, z2, lz2, xz2, z3, z4, lz4, xz4, z5, z6, z7, fz8, z9, lz9, xz9, gz10, hz10, fz10, z11]
    ·have gz10n := no_f gz10
     rcases or_t gz10n with gz10na | ⟨gz10na, gz10nb⟩
     ·have gz10nan := no_t gz10na
      try simp only [go_sem, n1, n2, n3, n4, gz2, z2, z3, z4, z5, z6, z7, z9] at gz10nan
      all_goals
      rcases it_some h with ⟨z11, h⟩ | ⟨z11, h⟩
      ·try simp only [go_sem, n1, n2, n3, n4, gz2, z2, z3, z4, z5, z6, z7, z9, gz10nan] at z11
       all_goals
       obtain rfl := so_some h
       refine ⟨0, fun L hL => ?_⟩
       simp only [go_sem, ir21, fz1, gz2, z2, lz2, xz2, z3, z4, lz4, xz4, z5, z6, z7, fz8, z9, lz9, xz9, gz10nan, z11]
      ·try simp only [go_sem, n1, n2, n3, n4, gz2, z2, z3, z4, z5, z6, z7, z9, gz10nan] at z11
       all_goals
       (simp_all)
     ·have gz10nan := no_f gz10na
      obtain ⟨gz10nba, gz10nbb⟩ := and_t gz10nb
      try simp only [go_sem, n1, n2, n3, n4, gz2, z2, z3, z4, z5, z6, z7, z9] at gz10nan
      all_goals
      try simp only [go_sem, n1, n2, n3, n4, gz2, z2, z3, z4, z5, z6, z7, z9, gz10nan] at gz10nba
      all_goals
      try simp only [go_sem, n1, n2, n3, n4, gz2, z2, z3, z4, z5, z6, z7, z9, gz10nan, gz10nba] at gz10nbb
      all_goals
      rcases it_some h with ⟨z11, h⟩ | ⟨z11, h⟩
      ·try simp only [go_sem, n1, n2, n3, n4, gz2, z2, z3, z4, z5, z6, z7, z9, gz10nan, gz10nba, gz10nbb] at z11
       all_goals
       obtain rfl := so_some h
       refine ⟨0, fun L hL => ?_⟩
       simp only [go_sem, ir21, fz1, gz2, z2, lz2, xz2, z3, z4, lz4, xz4, z5, z6, z7, fz8, z9, lz9, xz9, gz10nan, gz10nba, gz10nbb, z11]
      ·try simp only [go_sem, n1, n2, n3, n4, gz2, z2, z3, z4, z5, z6, z7, z9, gz10nan, gz10nba, gz10nbb] at z11
       all_goals
       (simp_all)
   ·try simp only [go_sem, n1, n2, n3, n4, gz2, z2, z3, z4, z5] at z6
    all_goals
    rcases it_some h with ⟨z12, h⟩ | ⟨z12, h⟩
    ·try simp only [go_sem, n1, n2, n3, n4, gz2, z2, z3, z4, z5, z6] at z12
     all_goals
     obtain rfl := so_some h
     refine ⟨0, fun L hL => ?_⟩
     simp only [go_sem, ir21, fz1, gz2, z2, lz2, xz2, z3, z4, lz4, xz4, z5, z6, z12]
    ·try simp only [go_sem, n1, n2, n3, n4, gz2, z2, z3, z4, z5, z6] at z12
     all_goals
     obtain ⟨y_13, z13, h⟩ := bd_some h
     have fz13 := Fs_69 z13
     try simp only [go_sem, gz2, z2, z3, z4, z5, z6, z12] at fz13
     obtain ⟨z14, h⟩ := ck_some h
     have lz14 := ix_lt z14
     have xz14 := getD_mapD AV.str y_1 lz14
     try simp only [go_sem] at lz14
     try simp only [go_sem] at xz14
     try simp only [go_sem, n1, n2, n3, n4, gz2, z2, z3, z4, z5, z6, z12] at z14
     all_goals
     obtain ⟨z15, h⟩ := ck_some h
     rcases or_split z15 with ⟨gz15, z15⟩ | gz15
     ·try simp only [go_sem, n1, n2, n3, n4, gz2, z2, z3, z4, z5, z6, z12, z14] at gz15
      all_goals
      obtain ⟨y_15, hz15⟩ := Option.isSome_iff_exists.1 z15
      have fz15 := Fs_30 hz15
      try simp only [go_sem, n1, n2, n3, n4, gz2, z2, z3, z4, z5, z6, z12, z14, gz15] at hz15
      all_goals
      try simp only [go_sem, gz2, z2, z3, z4, z5, z6, z12, z14, gz15] at fz15
      rcases it_some h with ⟨z16, h⟩ | ⟨z16, h⟩
      ·try simp only [go_sem, n1, n2, n3, n4, gz2, z2, z3, z4, z5, z6, z12, z14, gz15, hz15] at z16
       all_goals
       obtain rfl := so_some h
       refine ⟨0, fun L hL => ?_⟩
       simp only [go_sem, ir21, fz1, gz2, z2, lz2, xz2, z3, z4, lz4, xz4, z5, z6, z12, fz13, z14, lz14, xz14, gz15, hz15, fz15, z16]
      ·try simp only [go_sem, n1, n2, n3, n4, gz2, z2, z3, z4, z5, z6, z12, z14, gz15, hz15] at z16
       all_goals
       obtain rfl := so_some h
       refine ⟨0, fun L hL => ?_⟩
       simp only [go_sem, ir21, fz1, gz2, z2, lz2, xz2, z3, z4, lz4, xz4, z5, z6, z12, fz13, z14, lz14, xz14, gz15, hz15, fz15, z16]
     ·have gz15n := no_f gz15
      rcases or_t gz15n with gz15na | ⟨gz15na, gz15nb⟩
      ·have gz15nan := no_t gz15na
       try simp only [go_sem, n1, n2, n3, n4, gz2, z2, z3, z4, z5, z6, z12, z14] at gz15nan
       all_goals
       rcases it_some h with ⟨z16, h⟩ | ⟨z16, h⟩
       ·try simp only [go_sem, n1, n2, n3, n4, gz2, z2, z3, z4, z5, z6, z12, z14, gz15nan] at z16
        all_goals
        obtain rfl := so_some h
        refine ⟨0, fun L hL => ?_⟩
        simp only [go_sem, ir21, fz1, gz2, z2, lz2, xz2, z3, z4, lz4, xz4, z5, z6, z12, fz13, z14, lz14, xz14, gz15nan, z16]
       ·try simp only [go_sem, n1, n2, n3, n4, gz2, z2, z3, z4, z5, z6, z12, z14, gz15nan] at z16
        all_goals
        (simp_all)
      ·have gz15nan := no_f gz15na
       obtain ⟨gz15nba, gz15nbb⟩ := and_t gz15nb
       try simp only [go_sem, n1, n2, n3, n4, gz2, z2, z3, z4, z5, z6, z12, z14] at gz15nan
       all_goals
       try simp only [go_sem, n1, n2, n3, n4, gz2, z2, z3, z4, z5, z6, z12, z14, gz15nan] at gz15nba
       all_goals
       try simp only [go_sem, n1, n2, n3, n4, gz2, z2, z3, z4, z5, z6, z12, z14, gz15nan, gz15nba] at gz15nbb
       all_goals
       rcases it_some h with ⟨z16, h⟩ | ⟨z16, h⟩
       ·try simp only [go_sem, n1, n2, n3, n4, gz2, z2, z3, z4, z5, z6, z12, z14, gz15nan, gz15nba, gz15nbb] at z16
        all_goals
        obtain rfl := so_some h
        refine ⟨0, fun L hL => ?_⟩
        simp only [go_sem, ir21, fz1, gz2, z2, lz2, xz2, z3, z4, lz4, xz4, z5, z6, z12, fz13, z14, lz14, xz14, gz15nan, gz15nba, gz15nbb, z16]
       ·try simp only [go_sem, n1, n2, n3, n4, gz2, z2, z3, z4, z5, z6, z12, z14, gz15nan, gz15nba, gz15nbb] at z16
        all_goals
        (simp_all)
 ·have gz2n := no_f gz2
  have gz2nn := no_t gz2n
  try simp only [go_sem, n1, n2, n3, n4] at gz2nn
  all_goals
  rcases it_some h with ⟨z3, h⟩ | ⟨z3, h⟩
  ·try simp only [go_sem, n1, n2, n3, n4, gz2nn] at z3
   all_goals
   obtain rfl := so_some h
   refine ⟨0, fun L hL => ?_⟩
   simp only [go_sem, ir21, fz1, gz2nn, z3]
  ·try simp only [go_sem, n1, n2, n3, n4, gz2nn] at z3
   all_goals
   (simp_all)


def ir22_v : List Nat := [0, 2, 3, 4, 5, 6]
def ir22 : AFn := ⟨1, 6, .seq (.region false [ VO 1 2 (.newnil 2), VO 2 3 (.newnil 2)]) (.seq (.region false [ PM 7 0, PO 8 (.call 28 [(.s 0)]), VS 3 4 0]) (.seq (.region false [ PM 9 3, PO 10 (.call 57 [(.s 0)]), VS 4 5 0]) (.seq (.region false [ PO 11 (.mkSl 2 (.agg [.str [], .int .i64 (0)]) 0 []), PM 12 4, PO 13 (.app 2 24 (.agg [.str [], .int .i64 (0)]) (.s 1) (.s 0)), VS 5 6 0]) (.seq (.test false [ PM 14 5, PO 15 (.len false (.s 0)), PO 16 (.bin false .gtr (.s 0) (I6 0)), PO 17 (.mov (.s 0)), ⟨.push, 18, (some ((.s 0), true)), .mov (.v 3)⟩, ⟨.push, 19, (some ((.s 1), true)), .callw 32
 [(.s 0), (I6 2)]⟩, PO 20 (.pick (.s 2) (.s 0) (.c (.bool false)))] (.s 0) (.anyo 9 [ SO 0 21 (.mov (.v 5)), SO 1 22 (.ixAddr 2 (.s 0) (I6 0)), SO 2 23 (.fldAddr 1 (.s 1)), SO 3 24 (.load false 1 (.s 2)), SO 4 25 (.mov (.v 3)), SO 5 26 (.call 31 [(.s 4), (I6 2)]), SO 6 27 (.flat (.bin false .add (.s 3) (.s 5))), SO 7 28 (.ixAddr 2 (.s 0) (I6 0)), SO 8 29 (.fldAddr 1 (.s 7)), ⟨.no, 0, none, .store 1 (.s 8) (.s 6)⟩] [[4, 0, 1, 2, 3, 5, 6, 7, 8, 9], [4, 0, 1, 2, 5, 3, 6, 7, 8, 9], [4, 0, 1, 5, 2, 3, 6, 7, 8, 9], [4, 0, 5, 1, 2, 3, 6, 7, 8, 9], [4, 5, 0, 1, 2, 3, 6, 7, 8, 9]] .skip) (.skip)) (.seq
 (.test false [ PM 30 3, PO 31 (.call 32 [(.s 0), (I6 5)])] (.s 0) (.region false [ PM 32 5, PO 33 (.build [.str [], .int .i64 (0)] []), PO 34 (.mkSl 2 (.agg [.str [], .int .i64 (0)]) 1 [(0, (.s 0))]), PO 35 (.app 2 24 (.agg [.str [], .int .i64 (0)]) (.s 2) (.s 0)), VS 5 6 0]) (.skip)) (.seq (.region false [ PM 36 4, PM 37 5, VS 1 2 1, VS 2 3 0]) (.ret))))))), [.t 1, .t 2]⟩
noncomputable def t_71 : List (Nat × Ctr) := [(28, c_1), (57, c_6), (32, c_5), (31, c_3)]
theorem lk_71_28 : look t_71 28 = some c_1 := rfl
theorem lk_71_57 : look t_71 57 = some c_6 := rfl
theorem lk_71_32 : look t_71 32 = some c_5 := rfl
theorem lk_71_31 : look t_71 31 = some c_3 := rfl
noncomputable def c_71 : Ctr := mkF t_71 ir22 [.bor]
theorem s_71 : Sound Tryz.prog 22 c_71 := mkF_sound _ rfl (snd_cons s_1 (snd_cons s_6 (snd_cons s_5 (snd_cons s_3 snd_nil)))) (by kernel_rfl : chkFn Tryz.prog 22 ir22 ir22_v = true)
theorem M_71 : c_71.modes = [.bor] := rfl
theorem Fl_71 : c_71.flat = true := rfl
attribute [go_sem] M_71 Fl_71
attribute [go_sem] lk_71_28 lk_71_57 lk_71_32 lk_71_31
theorem Fs_71 {code : List UInt8} {y_ : (List Observer) × (List Observer)} (h : spec_DrawSameObservers code = some y_) : c_71.F [.sl 1 (List.map byteAV code)] = ⟨true, .tup [.fresh 2 (List.map Observer_av y_.1), .fresh 2 (List.map Observer_av y_.2)], [.any]⟩ := by
 refine mkF_E (by simp only [flatA, flatB, flat1, List.all_cons, List.all_nil, Bool.and_self, flatE_map (f := Observer_av) (fun _ => rfl), flatE_map (f := Observer_av) (fun _ => rfl)]) ?_
 dsimp only [spec_DrawSameObservers] at h
 obtain ⟨y_1, z1, h⟩ := bd_some h
 have fz1 := Fs_1 z1
 try simp only [go_sem] at fz1
 obtain ⟨y_2, z2, h⟩ := bd_some h
 have fz2 := Fs_6 z2
 try simp only [go_sem] at fz2
 obtain ⟨z3, h⟩ := ck_some h
 try simp only [go_sem, n1, n2, n3, n4] at z3
 all_goals
 rcases it_some h with ⟨z4, h⟩ | ⟨z4, h⟩
 ·try simp only [go_sem, n1, n2, n3, n4, z3] at z4
  all_goals
  obtain ⟨y_5, z5, h⟩ := bd_some h
  have fz5 := Fs_5 z5
  try simp only [go_sem, z3, z4] at fz5
  rcases it_some h with ⟨z6, h⟩ | ⟨z6, h⟩
  ·try simp only [go_sem, n1, n2, n3, n4, z3, z4] at z6
   all_goals
   obtain ⟨z7, h⟩ := ck_some h
   have lz7 := ix_lt z7
   have xz7 := getD_mapD Observer_av (([] : List Observer) ++ y_2.1) lz7
   try simp only [go_sem] at lz7
   try simp only [go_sem] at xz7
   try simp only [go_sem, n1, n2, n3, n4, z3, z4, z6] at z7
   all_goals
   obtain ⟨y_8, z8, h⟩ := bd_some h
   have fz8 := Fs_3 z8
   try simp only [go_sem, z3, z4, z6, z7] at fz8
   obtain ⟨y_9, z9, h⟩ := bd_some h
   have fz9 := Fs_5 z9
   try simp only [go_sem, z3, z4, z6, z7] at fz9
   rcases it_some h with ⟨z10, h⟩ | ⟨z10, h⟩
   ·try simp only [go_sem, n1, n2, n3, n4, z3, z4, z6, z7] at z10
    all_goals
    obtain ⟨z11, h⟩ := ck_some h
    try simp only [go_sem, n1, n2, n3, n4, z3, z4, z6, z7, z10] at z11
    all_goals
    obtain rfl := so_some h
    refine ⟨0, fun L hL => ?_⟩
    simp only [go_sem, ir22, fz1, fz2, z3, z4, fz5, z6, z7, lz7, xz7, fz8, fz9, z10, z11]
   ·try simp only [go_sem, n1, n2, n3, n4, z3, z4, z6, z7] at z10
    all_goals
    obtain rfl := so_some h
    refine ⟨0, fun L hL => ?_⟩
    simp only [go_sem, ir22, fz1, fz2, z3, z4, fz5, z6, z7, lz7, xz7, fz8, fz9, z10]
  ·try simp only [go_sem, n1, n2, n3, n4, z3, z4] at z6
   all_goals
   obtain ⟨y_12, z12, h⟩ := bd_some h
   have fz12 := Fs_5 z12
   try simp only [go_sem, z3, z4, z6] at fz12
   rcases it_some h with ⟨z13, h⟩ | ⟨z13, h⟩
   ·try simp only [go_sem, n1, n2, n3, n4, z3, z4, z6] at z13
    all_goals
    obtain ⟨z14, h⟩ := ck_some h
    try simp only [go_sem, n1, n2, n3, n4, z3, z4, z6, z13] at z14
    all_goals
    obtain rfl := so_some h
    refine ⟨0, fun L hL => ?_⟩
    simp only [go_sem, ir22, fz1, fz2, z3, z4, fz5, z6, fz12, z13, z14]
   ·try simp only [go_sem, n1, n2, n3, n4, z3, z4, z6] at z13
    all_goals
    obtain rfl := so_some h
    refine ⟨0, fun L hL => ?_⟩
    simp only [go_sem, ir22, fz1, fz2, z3, z4, fz5, z6, fz12, z13]
 ·try simp only [go_sem, n1, n2, n3, n4, z3] at z4
  all_goals
  obtain ⟨y_15, z15, h⟩ := bd_some h
  have fz15 := Fs_5 z15
  try simp only [go_sem, z3, z4] at fz15
  rcases it_some h with ⟨z16, h⟩ | ⟨z16, h⟩
  ·try simp only [go_sem, n1, n2, n3, n4, z3, z4] at z16
   all_goals
   obtain ⟨z17, h⟩ := ck_some h
   try simp only [go_sem, n1, n2, n3, n4, z3, z4, z16] at z17
   all_goals
   obtain rfl := so_some h
   refine ⟨0, fun L hL => ?_⟩
   simp only [go_sem, ir22, fz1, fz2, z3, z4, fz15, z16, z17]
  ·try simp only [go_sem, n1, n2, n3, n4, z3, z4] at z16
   all_goals
   obtain rfl := so_some h
   refine ⟨0, fun L hL => ?_⟩
   simp only [go_sem, ir22, fz1, fz2, z3, z4, fz15, z16]


def ir23_b0 : IR := .seq (.test false [ PM 11 3, PM 12 0, PO 13 (.len false (.s 0)), PO 14 (.bin false .lss (.s 2) (.s 0))] (.s 0) (.skip) (.exit 0)) (.seq (.block 1 (.anyo 9 [ SO 0 17 (.mov (.v 0)), SO 1 18 (.mov (.v 3)), SO 2 19 (.ixAddr 2 (.s 0) (.s 1)), SO 3 20 (.load true 2 (.s 2)), SO 4 21 (.mov (.v 1)), SO 5 22 (.mov (.v 3)), SO 6 23 (.ixAddr 2 (.s 4) (.s 5)), SO 7 24 (.load true 2 (.s 6)), SO 8 25 (.eqA true [2, 1] (.s 3) (.s 7))] [] (.cond (.s 8) (.seq (.region false [ VO 2 4 (.mov (.c (.bool false)))]) (.ret)) (.skip)))) (.region false [ PM 15 3, PO 16 (.bin false .add (.s 0) (I6 1)),
 VS 3 5 0]))
def ir23_k0 : List Bool := [true, true, false, true]
def ir23_o0 : List Bool := [false, false, false, false]
def ir23_r0 : List Bool := [false, false, true, false]
def ir23_v : List Nat := [0, 1, 4, 5]
def ir23 : AFn := ⟨2, 4, .seq (.region false [ VO 2 4 (.mov (.c (.bool false)))]) (.seq (.test false [ PM 6 0, PO 7 (.len false (.s 0)), PM 8 1, PO 9 (.len false (.s 0)), PO 10 (.bin false .neq (.s 2) (.s 0))] (.s 0) (.seq (.region false [ VO 2 4 (.mov (.c (.bool false)))]) (.ret)) (.skip)) (.seq (.seq (.region false [ VO 3 5 (.mov (I6 0))]) (.block 0 (.loop ir23_k0 ir23_o0 ir23_r0 ir23_b0))) (.seq (.region false [ VO 2 4 (.mov (.c (.bool true)))]) (.ret)))), [.t 2]⟩
noncomputable def t_72 : List (Nat × Ctr) := []
noncomputable def c_72 : Ctr := mkF t_72 ir23 [.bor, .bor]
theorem s_72 : Sound Tryz.prog 23 c_72 := mkF_sound _ rfl snd_nil (by kernel_rfl : chkFn Tryz.prog 23 ir23 ir23_v = true)
theorem M_72 : c_72.modes = [.bor, .bor] := rfl
theorem Fl_72 : c_72.flat = true := rfl
attribute [go_sem] M_72 Fl_72
def E_72_l1 (a : List Observer) (b : List Observer) : Int → St
 | i => ⟨[.sl 2 (List.map Observer_av a), .sl 2 (List.map Observer_av b), .any, .int .i64 i], [], [], true⟩
def R_72_l1 (a : List Observer) (b : List Observer) : (Unit ⊕ Bool) → Res
 | .inl y => (.exit 0, ⟨[.any, .any, .any, .any], [], [], true⟩)
 | .inr y => (.ret, ⟨[.any, .any, .bool y, .any], [], [], true⟩)
theorem spec_SameObservers_l1_ex {a : List Observer} {b : List Observer} {sgm_ : Int} {rho_ : Unit ⊕ Bool} (h : whileE (spec_SameObservers_l1 a b) sgm_ = some rho_) : ∃ L0, ∀ L, L0 ≤ L → iter (exec (look t_72) L ir23_b0) ir23_k0 ir23_o0 ir23_r0 L (E_72_l1 a b sgm_) = R_72_l1 a b rho_ := by
 refine loop_ex (E := E_72_l1 a b) (R := R_72_l1 a b) (fun y => by first | (intro c; cases c) | (rcases y with y | y <;> (intro c; cases c)) | (rcases y with y | y | y <;> (intro c; cases c))) ?_ h
 clear h
 intro i o_ h
 dsimp only [spec_SameObservers_l1] at h
 rcases it_some h with ⟨z2, h⟩ | ⟨z2, h⟩
 ·try simp only [go_sem, n1, n2, n3, n4] at z2
  all_goals
  obtain ⟨z3, h⟩ := ck_some h
  have lz3 := ix_lt z3
  have xz3 := getD_mapD Observer_av a lz3
  try simp only [go_sem] at lz3
  try simp only [go_sem] at xz3
  try simp only [go_sem, n1, n2, n3, n4, z2] at z3
  all_goals
  obtain ⟨z4, h⟩ := ck_some h
  have lz4 := ix_lt z4
  have xz4 := getD_mapD Observer_av b lz4
  try simp only [go_sem] at lz4
  try simp only [go_sem] at xz4
  try simp only [go_sem, n1, n2, n3, n4, z2, z3] at z4
  all_goals
  rcases it_some h with ⟨z5, h⟩ | ⟨z5, h⟩
  ·try simp only [go_sem, n1, n2, n3, n4, z2, z3, z4] at z5
   all_goals
   obtain rfl := so_some h
   refine ⟨0, fun L hL => ?_⟩
   simp only [go_sem, ir23, E_72_l1, R_72_l1, ir23_b0, ir23_k0, ir23_o0, ir23_r0, z2, z3, lz3, xz3, z4, lz4, xz4, z5]
  ·try simp only [go_sem, n1, n2, n3, n4, z2, z3, z4] at z5
   all_goals
   obtain rfl := so_some h
   refine ⟨0, fun L hL => ?_⟩
   simp only [go_sem, ir23, E_72_l1, R_72_l1, ir23_b0, ir23_k0, ir23_o0, ir23_r0, z2, z3, lz3, xz3, z4, lz4, xz4, z5]
 ·try simp only [go_sem, n1, n2, n3, n4] at z2
  all_goals
  obtain rfl := so_some h
  refine ⟨0, fun L hL => ?_⟩
  simp only [go_sem, ir23, E_72_l1, R_72_l1, ir23_b0, ir23_k0, ir23_o0, ir23_r0, z2]

theorem Fs_72 {a : List Observer} {b : List Observer} {y_ : Bool} (h : spec_SameObservers a b = some y_) : c_72.F [.sl 2 (List.map Observer_av a), .sl 2 (List.map Observer_av b)] = ⟨true, .bool y_, [.any, .any]⟩ := by
 refine mkF_E rfl ?_
 dsimp only [spec_SameObservers] at h
 rcases it_some h with ⟨z1, h⟩ | ⟨z1, h⟩
 ·try simp only [go_sem, n1, n2, n3, n4] at z1
  all_goals
  obtain rfl := so_some h
  refine ⟨0, fun L hL => ?_⟩
  simp only [go_sem, ir23, E_72_l1, R_72_l1, ir23_k0, ir23_o0, ir23_r0, z1]
 ·try simp only [go_sem, n1, n2, n3, n4] at z1
  all_goals
  obtain ⟨y_6, z6, h⟩ := bd_some h
  obtain ⟨Lz6, ez6⟩ := spec_SameObservers_l1_ex z6
  rcases y_6 with y_6a | y_6b
  ·dsimp only at h
   obtain rfl := so_some h
   refine ⟨Lz6, fun L hL => ?_⟩
   have ez6 := ez6 L (by omega)
   try simp only [go_sem, E_72_l1, R_72_l1, ir23_k0, ir23_o0, ir23_r0, z1] at ez6
   simp only [go_sem, ir23, E_72_l1, R_72_l1, ir23_k0, ir23_o0, ir23_r0, z1, ez6]
  ·dsimp only at h
   obtain rfl := so_some h
   refine ⟨Lz6, fun L hL => ?_⟩
   have ez6 := ez6 L (by omega)
   try simp only [go_sem, E_72_l1, R_72_l1, ir23_k0, ir23_o0, ir23_r0, z1] at ez6
   simp only [go_sem, ir23, E_72_l1, R_72_l1, ir23_k0, ir23_o0, ir23_r0, z1, ez6]


def ir24_v : List Nat := [0, 1, 2]
def ir24 : AFn := ⟨1, 3, .seq (.region false [ VO 1 1 (.box (.v 0)), VO 2 2 (.mov (.c (.str [])))]) (.seq (.test false [ PO 3 (.call 39 [(.v 1)]), PO 4 (.un .not (.s 0))] (.s 0) (.seq (.region false [ VO 2 2 (.mov (.c (.str [])))]) (.ret)) (.skip)) (.seq (.region false [ PO 5 (.call 53 [(.v 1)]), VS 2 2 0]) (.ret))), [.t 2]⟩
noncomputable def t_73 : List (Nat × Ctr) := [(39, c_30), (53, c_65)]
theorem lk_73_39 : look t_73 39 = some c_30 := rfl
theorem lk_73_53 : look t_73 53 = some c_65 := rfl
noncomputable def c_73 : Ctr := mkF t_73 ir24 [.bor]
theorem s_73 : Sound Tryz.prog 24 c_73 := mkF_sound _ rfl (snd_cons s_30 (snd_cons s_65 snd_nil)) (by kernel_rfl : chkFn Tryz.prog 24 ir24 ir24_v = true)
theorem M_73 : c_73.modes = [.bor] := rfl
theorem Fl_73 : c_73.flat = true := rfl
attribute [go_sem] M_73 Fl_73
attribute [go_sem] lk_73_39 lk_73_53
theorem Fs_73 {x : Observer} {y_ : (List UInt8)} (h : spec_ObserverText x = some y_) : c_73.F [Observer_av x] = ⟨true, .str y_, [.any]⟩ := by
 refine mkF_E rfl ?_
 dsimp only [spec_ObserverText] at h
 obtain ⟨y_1, z1, h⟩ := bd_some h
 have fz1 := Fs_30 z1
 try simp only [go_sem] at fz1
 rcases it_some h with ⟨z2, h⟩ | ⟨z2, h⟩
 ·try simp only [go_sem, n1, n2, n3, n4] at z2
  all_goals
  obtain rfl := so_some h
  refine ⟨0, fun L hL => ?_⟩
  simp only [go_sem, ir24, fz1, z2]
 ·try simp only [go_sem, n1, n2, n3, n4] at z2
  all_goals
  obtain ⟨y_3, z3, h⟩ := bd_some h
  have fz3 := Fs_65 z3
  try simp only [go_sem, z2] at fz3
  obtain rfl := so_some h
  refine ⟨0, fun L hL => ?_⟩
  simp only [go_sem, ir24, fz1, z2, fz3]


def ir58_b0 : IR := .seq (.region false [ VO 6 14 (.bin false .lss (.v 5) (.v 4))]) (.seq (.cond (.v 6) (.skip) (.exit 0)) (.seq (.block 1 (.seq (.region false [ PM 15 5, VS 3 5 0]) (.anyo 9 [ SO 0 16 (.mov (.v 0)), SO 1 17 (.mov (.v 3)), SO 2 18 (.ixAddr 2 (.s 0) (.s 1)), SO 3 19 (.load true 2 (.s 2)), SO 4 20 (.mov (.v 1)), SO 5 21 (.mov (.v 3)), SO 6 22 (.ixAddr 2 (.s 4) (.s 5)), SO 7 23 (.load true 2 (.s 6)), SO 8 24 (.eqA true [2, 1] (.s 3) (.s 7))] [] (.cond (.s 8) (.seq (.region false [ VO 2 4 (.mov (.c (.bool false)))]) (.ret)) (.skip))))) (.region false [ PO 25 (.bin false .add (.v 5)
 (I6 1)), VS 5 13 0])))
def ir58_k0 : List Bool := [true, true, false, false, true, true, false]
def ir58_o0 : List Bool := [false, false, false, false, false, false, false]
def ir58_r0 : List Bool := [false, false, true, false, false, false, false]
def ir58_v : List Nat := [0, 1, 4, 5, 12, 13, 14]
def ir58 : AFn := ⟨2, 7, .seq (.region false [ VO 2 4 (.mov (.c (.bool false)))]) (.seq (.test false [ PM 6 0, PO 7 (.len false (.s 0)), PM 8 1, PO 9 (.len false (.s 0)), PO 10 (.bin false .neq (.s 2) (.s 0))] (.s 0) (.seq (.region false [ VO 2 4 (.mov (.c (.bool false)))]) (.ret)) (.skip)) (.seq (.seq (.region false [ PM 11 0, VO 4 12 (.len false (.s 0)), VO 5 13 (.mov (I6 0))]) (.block 0 (.loop ir58_k0 ir58_o0 ir58_r0 ir58_b0))) (.seq (.region false [ VO 2 4 (.mov (.c (.bool true)))]) (.ret)))), [.t 2]⟩
noncomputable def t_74 : List (Nat × Ctr) := []
noncomputable def c_74 : Ctr := mkF t_74 ir58 [.bor, .bor]
theorem s_74 : Sound Tryz.prog 58 c_74 := mkF_sound _ rfl snd_nil (by kernel_rfl : chkFn Tryz.prog 58 ir58 ir58_v = true)
theorem M_74 : c_74.modes = [.bor, .bor] := rfl
theorem Fl_74 : c_74.flat = true := rfl
attribute [go_sem] M_74 Fl_74
def E_74_l1 (s1 : List Observer) (s2 : List Observer) (t12 : Int) : Int → St
 | t13 => ⟨[.sl 2 (List.map Observer_av s1), .sl 2 (List.map Observer_av s2), .any, .any, .int .i64 t12, .int .i64 t13, .any], [], [], true⟩
def R_74_l1 (s1 : List Observer) (s2 : List Observer) (t12 : Int) : (Unit ⊕ Bool) → Res
 | .inl y => (.exit 0, ⟨[.any, .any, .any, .any, .any, .any, .any], [], [], true⟩)
 | .inr y => (.ret, ⟨[.any, .any, .bool y, .any, .any, .any, .any], [], [], true⟩)
theorem slices_Equal_impl_Observer_impl_Observer_l1_ex {s1 : List Observer} {s2 : List Observer} {t12 : Int} {sgm_ : Int} {rho_ : Unit ⊕ Bool} (h : whileE (slices_Equal_impl_Observer_impl_Observer_l1 s1 s2 t12) sgm_ = some rho_) : ∃ L0, ∀ L, L0 ≤ L → iter (exec (look t_74) L ir58_b0) ir58_k0 ir58_o0 ir58_r0 L (E_74_l1 s1 s2 t12 sgm_) = R_74_l1 s1 s2 t12 rho_ := by
 refine loop_ex (E := E_74_l1 s1 s2 t12) (R := R_74_l1 s1 s2 t12) (fun y => by first | (intro c; cases c) | (rcases y with y | y <;> (intro c; cases c)) | (rcases y with y | y | y <;> (intro c; cases c))) ?_ h
 clear h
 intro t13 o_ h
 dsimp only [slices_Equal_impl_Observer_impl_Observer_l1] at h
 rcases it_some h with ⟨z2, h⟩ | ⟨z2, h⟩
 ·try simp only [go_sem, n1, n2, n3, n4] at z2
  all_goals
  obtain ⟨z3, h⟩ := ck_some h
  have lz3 := ix_lt z3
  have xz3 := getD_mapD Observer_av s1 lz3
  try simp only [go_sem] at lz3
  try simp only [go_sem] at xz3
  try simp only [go_sem, n1, n2, n3, n4, z2] at z3
  all_goals
  obtain ⟨z4, h⟩ := ck_some h
  have lz4 := ix_lt z4
  have xz4 := getD_mapD Observer_av s2 lz4
  try simp only [go_sem] at lz4
  try simp only [go_sem] at xz4
  try simp only [go_sem, n1, n2, n3, n4, z2, z3] at z4
  all_goals
  rcases it_some h with ⟨z5, h⟩ | ⟨z5, h⟩
  ·try simp only [go_sem, n1, n2, n3, n4, z2, z3, z4] at z5
   all_goals
   obtain rfl := so_some h
   refine ⟨0, fun L hL => ?_⟩
   simp only [go_sem, ir58, E_74_l1, R_74_l1, ir58_b0, ir58_k0, ir58_o0, ir58_r0, z2, z3, lz3, xz3, z4, lz4, xz4, z5]
  ·try simp only [go_sem, n1, n2, n3, n4, z2, z3, z4] at z5
   all_goals
   obtain rfl := so_some h
   refine ⟨0, fun L hL => ?_⟩
   simp only [go_sem, ir58, E_74_l1, R_74_l1, ir58_b0, ir58_k0, ir58_o0, ir58_r0, z2, z3, lz3, xz3, z4, lz4, xz4, z5]
 ·try simp only [go_sem, n1, n2, n3, n4] at z2
  all_goals
  obtain rfl := so_some h
  refine ⟨0, fun L hL => ?_⟩
  simp only [go_sem, ir58, E_74_l1, R_74_l1, ir58_b0, ir58_k0, ir58_o0, ir58_r0, z2]

theorem Fs_74 {s1 : List Observer} {s2 : List Observer} {y_ : Bool} (h : slices_Equal_impl_Observer_impl_Observer s1 s2 = some y_) : c_74.F [.sl 2 (List.map Observer_av s1), .sl 2 (List.map Observer_av s2)] = ⟨true, .bool y_, [.any, .any]⟩ := by
 refine mkF_E rfl ?_
 dsimp only [slices_Equal_impl_Observer_impl_Observer] at h
 rcases it_some h with ⟨z1, h⟩ | ⟨z1, h⟩
 ·try simp only [go_sem, n1, n2, n3, n4] at z1
  all_goals
  obtain rfl := so_some h
  refine ⟨0, fun L hL => ?_⟩
  simp only [go_sem, ir58, E_74_l1, R_74_l1, ir58_k0, ir58_o0, ir58_r0, z1]
 ·try simp only [go_sem, n1, n2, n3, n4] at z1
  all_goals
  obtain ⟨y_6, z6, h⟩ := bd_some h
  obtain ⟨Lz6, ez6⟩ := slices_Equal_impl_Observer_impl_Observer_l1_ex z6
  rcases y_6 with y_6a | y_6b
  ·dsimp only at h
   obtain rfl := so_some h
   refine ⟨Lz6, fun L hL => ?_⟩
   have ez6 := ez6 L (by omega)
   try simp only [go_sem, E_74_l1, R_74_l1, ir58_k0, ir58_o0, ir58_r0, z1] at ez6
   simp only [go_sem, ir58, E_74_l1, R_74_l1, ir58_k0, ir58_o0, ir58_r0, z1, ez6]
  ·dsimp only at h
   obtain rfl := so_some h
   refine ⟨Lz6, fun L hL => ?_⟩
   have ez6 := ez6 L (by omega)
   try simp only [go_sem, E_74_l1, R_74_l1, ir58_k0, ir58_o0, ir58_r0, z1] at ez6
   simp only [go_sem, ir58, E_74_l1, R_74_l1, ir58_k0, ir58_o0, ir58_r0, z1, ez6]


def ir25_v : List Nat := [0, 1, 4]
def ir25 : AFn := ⟨2, 3, .seq (.region false [ VO 2 4 (.mov (.c (.bool false)))]) (.seq (.region false [ PM 5 0, PM 6 1, PO 7 (.call 58 [(.s 1), (.s 0)]), VS 2 4 0]) (.ret)), [.t 2]⟩
noncomputable def t_75 : List (Nat × Ctr) := [(58, c_74)]
theorem lk_75_58 : look t_75 58 = some c_74 := rfl
noncomputable def c_75 : Ctr := mkF t_75 ir25 [.bor, .bor]
theorem s_75 : Sound Tryz.prog 25 c_75 := mkF_sound _ rfl (snd_cons s_74 snd_nil) (by kernel_rfl : chkFn Tryz.prog 25 ir25 ir25_v = true)
theorem M_75 : c_75.modes = [.bor, .bor] := rfl
theorem Fl_75 : c_75.flat = true := rfl
attribute [go_sem] M_75 Fl_75
attribute [go_sem] lk_75_58
theorem Fs_75 {a : List Observer} {b : List Observer} {y_ : Bool} (h : impl_SameObservers a b = some y_) : c_75.F [.sl 2 (List.map Observer_av a), .sl 2 (List.map Observer_av b)] = ⟨true, .bool y_, [.any, .any]⟩ := by
 refine mkF_E rfl ?_
 dsimp only [impl_SameObservers] at h
 obtain ⟨y_1, z1, h⟩ := bd_some h
 have fz1 := Fs_74 z1
 try simp only [go_sem] at fz1
 obtain rfl := so_some h
 refine ⟨0, fun L hL => ?_⟩
 simp only [go_sem, ir25, fz1]


def ir27_v : List Nat := [0, 2]
def ir27 : AFn := ⟨1, 2, .seq (.region false [ VO 1 2 (.mov (.c (.bool false)))]) (.seq (.region false [ PM 3 0, PO 4 (.call 38 [(.s 0)]), VS 1 2 0]) (.ret)), [.t 1]⟩
noncomputable def t_76 : List (Nat × Ctr) := [(38, c_31)]
theorem lk_76_38 : look t_76 38 = some c_31 := rfl
noncomputable def c_76 : Ctr := mkF t_76 ir27 [.bor]
theorem s_76 : Sound Tryz.prog 27 c_76 := mkF_sound _ rfl (snd_cons s_31 snd_nil) (by kernel_rfl : chkFn Tryz.prog 27 ir27 ir27_v = true)
theorem M_76 : c_76.modes = [.bor] := rfl
theorem Fl_76 : c_76.flat = true := rfl
attribute [go_sem] M_76 Fl_76
attribute [go_sem] lk_76_38
theorem Fs_76 {list : List Observer} {y_ : Bool} (h : spec_ValidObservers list = some y_) : c_76.F [.sl 2 (List.map Observer_av list)] = ⟨true, .bool y_, [.any]⟩ := by
 refine mkF_E rfl ?_
 dsimp only [spec_ValidObservers] at h
 obtain ⟨y_1, z1, h⟩ := bd_some h
 have fz1 := Fs_31 z1
 try simp only [go_sem] at fz1
 obtain rfl := so_some h
 refine ⟨0, fun L hL => ?_⟩
 simp only [go_sem, ir27, fz1]


end Go.Proofs.YtegelahoakkaaaaGreatDoor
