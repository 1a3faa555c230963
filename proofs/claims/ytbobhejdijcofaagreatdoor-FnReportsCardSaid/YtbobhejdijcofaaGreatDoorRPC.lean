/- Codes and contracts of the functions that RP reaches, and that their typed forms say what they do. No condition. -/
import Derived.Test.YtbobhejdijcofaaGreatDoorRPT
import Derived.Test.YtbobhejdijcofaaGreatDoorEngSF
import Derived.Test.YtbobhejdijcofaaGreatDoorEngSG
import Derived.Test.YtbobhejdijcofaaGreatDoorEngSMM
import Derived.Test.YtbobhejdijcofaaGreatDoorEngSMP
import Derived.Test.YtbobhejdijcofaaGreatDoorRows
import Derived.WalkKit
namespace Go.Proofs.YtbobhejdijcofaaGreatDoor
open Go Go.RowKit
set_option linter.unusedVariables false
set_option linter.unusedSimpArgs false
set_option maxRecDepth 10000

def ir14_b0 : IR := .seq (.test false [ PM 11 3, PM 12 0, PO 13 (.len false (.s 0)), PO 14 (.bin false .lss (.s 2) (.s 0))] (.s 0) (.skip) (.exit 0)) (.seq (.block 1 (.anyo 9 [ SO 0 17 (.mov (.v 0)), SO 1 18 (.mov (.v 3)), SO 2 19 (.ixAddr 1 (.s 0) (.s 1)), SO 3 20 (.load false 1 (.s 2)), SO 4 21 (.mov (.v 1)), SO 5 22 (.mov (.v 3)), SO 6 23 (.ixAddr 1 (.s 4) (.s 5)), SO 7 24 (.load false 1 (.s 6)), SO 8 25 (.bin false .neq (.s 3) (.s 7))] [] (.cond (.s 8) (.seq (.region false [ VO 2 4 (.mov (.c (.bool false)))]) (.ret)) (.skip)))) (.region false [ PM 15 3, PO 16 (.bin false .add (.s 0) (I6
 1)), VS 3 5 0]))
def ir14_k0 : List Bool := [true, true, false, true]
def ir14_o0 : List Bool := [false, false, false, false]
def ir14_r0 : List Bool := [false, false, true, false]
def ir14_v : List Nat := [0, 1, 4, 5]
def ir14 : AFn := ⟨2, 4, .seq (.region false [ VO 2 4 (.mov (.c (.bool false)))]) (.seq (.test false [ PM 6 0, PO 7 (.len false (.s 0)), PM 8 1, PO 9 (.len false (.s 0)), PO 10 (.bin false .neq (.s 2) (.s 0))] (.s 0) (.seq (.region false [ VO 2 4 (.mov (.c (.bool false)))]) (.ret)) (.skip)) (.seq (.seq (.region false [ VO 3 5 (.mov (I6 0))]) (.block 0 (.loop ir14_k0 ir14_o0 ir14_r0 ir14_b0))) (.seq (.region false [ VO 2 4 (.mov (.c (.bool true)))]) (.ret)))), [.t 2]⟩
noncomputable def t_0 : List (Nat × Ctr) := []
noncomputable def c_0 : Ctr := mkF t_0 ir14 [.bor, .bor]
theorem s_0 : Sound Tryz.prog 14 c_0 := mkF_sound _ rfl snd_nil (by kernel_rfl : chkFn Tryz.prog 14 ir14 ir14_v = true)
theorem M_0 : c_0.modes = [.bor, .bor] := rfl
theorem Fl_0 : c_0.flat = true := rfl
attribute [go_sem] M_0 Fl_0
def E_0_l1 (a : List (List UInt8)) (b : List (List UInt8)) : Int → St
 | i => ⟨[.sl 1 (List.map AV.str a), .sl 1 (List.map AV.str b), .any, .int .i64 i], [], [], true⟩
def R_0_l1 (a : List (List UInt8)) (b : List (List UInt8)) : (Unit ⊕ Bool) → Res
 | .inl y => (.exit 0, ⟨[.any, .any, .any, .any], [], [], true⟩)
 | .inr y => (.ret, ⟨[.any, .any, .bool y, .any], [], [], true⟩)
theorem laws_f6texts_l1_ex {a : List (List UInt8)} {b : List (List UInt8)} {sgm_ : Int} {rho_ : Unit ⊕ Bool} (h : whileE (laws_f6texts_l1 a b) sgm_ = some rho_) : ∃ L0, ∀ L, L0 ≤ L → iter (exec (look t_0) L ir14_b0) ir14_k0 ir14_o0 ir14_r0 L (E_0_l1 a b sgm_) = R_0_l1 a b rho_ := by
 refine loop_ex (E := E_0_l1 a b) (R := R_0_l1 a b) (fun y => by first | (intro c; cases c) | (rcases y with y | y <;> (intro c; cases c)) | (rcases y with y | y | y <;> (intro c; cases c))) ?_ h
 clear h
 intro i o_ h
 dsimp only [laws_f6texts_l1] at h
 rcases it_some h with ⟨z2, h⟩ | ⟨z2, h⟩
 ·try simp only [go_sem, n1, n2, n3, n4] at z2
  all_goals
  obtain ⟨z3, h⟩ := ck_some h
  have lz3 := ix_lt z3
  have xz3 := getD_mapD AV.str a lz3
  try simp only [go_sem] at lz3
  try simp only [go_sem] at xz3
  try simp only [go_sem, n1, n2, n3, n4, z2] at z3
  all_goals
  obtain ⟨z4, h⟩ := ck_some h
  have lz4 := ix_lt z4
  have xz4 := getD_mapD AV.str b lz4
  try simp only [go_sem] at lz4
  try simp only [go_sem] at xz4
  try simp only [go_sem, n1, n2, n3, n4, z2, z3] at z4
  all_goals
  rcases it_some h with ⟨z5, h⟩ | ⟨z5, h⟩
  ·try simp only [go_sem, n1, n2, n3, n4, z2, z3, z4] at z5
   all_goals
   obtain rfl := so_some h
   refine ⟨0, fun L hL => ?_⟩
   simp only [go_sem, ir14, E_0_l1, R_0_l1, ir14_b0, ir14_k0, ir14_o0, ir14_r0, z2, z3, lz3, xz3, z4, lz4, xz4, z5]
  ·try simp only [go_sem, n1, n2, n3, n4, z2, z3, z4] at z5
   all_goals
   obtain rfl := so_some h
   refine ⟨0, fun L hL => ?_⟩
   simp only [go_sem, ir14, E_0_l1, R_0_l1, ir14_b0, ir14_k0, ir14_o0, ir14_r0, z2, z3, lz3, xz3, z4, lz4, xz4, z5]
 ·try simp only [go_sem, n1, n2, n3, n4] at z2
  all_goals
  obtain rfl := so_some h
  refine ⟨0, fun L hL => ?_⟩
  simp only [go_sem, ir14, E_0_l1, R_0_l1, ir14_b0, ir14_k0, ir14_o0, ir14_r0, z2]

theorem Fs_0 {a : List (List UInt8)} {b : List (List UInt8)} {y_ : Bool} (h : laws_f6texts a b = some y_) : c_0.F [.sl 1 (List.map AV.str a), .sl 1 (List.map AV.str b)] = ⟨true, .bool y_, [.any, .any]⟩ := by
 refine mkF_E rfl ?_
 dsimp only [laws_f6texts] at h
 rcases it_some h with ⟨z1, h⟩ | ⟨z1, h⟩
 ·try simp only [go_sem, n1, n2, n3, n4] at z1
  all_goals
  obtain rfl := so_some h
  refine ⟨0, fun L hL => ?_⟩
  simp only [go_sem, ir14, E_0_l1, R_0_l1, ir14_k0, ir14_o0, ir14_r0, z1]
 ·try simp only [go_sem, n1, n2, n3, n4] at z1
  all_goals
  obtain ⟨y_6, z6, h⟩ := bd_some h
  obtain ⟨Lz6, ez6⟩ := laws_f6texts_l1_ex z6
  rcases y_6 with y_6a | y_6b
  ·dsimp only at h
   obtain rfl := so_some h
   refine ⟨Lz6, fun L hL => ?_⟩
   have ez6 := ez6 L (by omega)
   try simp only [go_sem, E_0_l1, R_0_l1, ir14_k0, ir14_o0, ir14_r0, z1] at ez6
   simp only [go_sem, ir14, E_0_l1, R_0_l1, ir14_k0, ir14_o0, ir14_r0, z1, ez6]
  ·dsimp only at h
   obtain rfl := so_some h
   refine ⟨Lz6, fun L hL => ?_⟩
   have ez6 := ez6 L (by omega)
   try simp only [go_sem, E_0_l1, R_0_l1, ir14_k0, ir14_o0, ir14_r0, z1] at ez6
   simp only [go_sem, ir14, E_0_l1, R_0_l1, ir14_k0, ir14_o0, ir14_r0, z1, ez6]


def ir4_v : List Nat := [0, 2]
def ir4 : AFn := ⟨1, 2, .seq (.region false [ VO 1 2 (.mov (.c (.bool false)))]) (.seq (.region false [ PM 3 0, PO 4 (.len false (.s 0)), PO 5 (.bin false .gtr (.s 0) (I6 4096)), VS 1 2 0]) (.ret)), [.t 1]⟩
noncomputable def t_1 : List (Nat × Ctr) := []
noncomputable def c_1 : Ctr := mkF t_1 ir4 [.bor]
theorem s_1 : Sound Tryz.prog 4 c_1 := mkF_sound _ rfl snd_nil (by kernel_rfl : chkFn Tryz.prog 4 ir4 ir4_v = true)
theorem M_1 : c_1.modes = [.bor] := rfl
theorem Fl_1 : c_1.flat = true := rfl
attribute [go_sem] M_1 Fl_1
theorem Fs_1 {code : List UInt8} {y_ : Bool} (h : laws_f6big code = some y_) : c_1.F [.sl 1 (List.map byteAV code)] = ⟨true, .bool y_, [.any]⟩ := by
 refine mkF_E rfl ?_
 dsimp only [laws_f6big] at h
 obtain rfl := so_some h
 refine ⟨0, fun L hL => ?_⟩
 simp only [go_sem, ir4]


def ir17_v : List Nat := [0, 2]
def ir17 : AFn := ⟨1, 2, .seq (.region false [ VO 1 2 (.mov (.c (.cv (.pointer none))))]) (.seq (.region false [ PM 3 0, PO 4 (.build [.sl 1 [], .int .i64 (0), .int .u64 (0)] [(0, 1, (.s 0))]), PO 5 (.box (.s 0)), VS 1 2 0]) (.ret)), [.t 1]⟩
noncomputable def t_2 : List (Nat × Ctr) := []
noncomputable def c_2 : Ctr := mkN t_2 ir17 [.bor]
theorem s_2 : Sound Tryz.prog 17 c_2 := mkN_sound _ snd_nil (by kernel_rfl : chkFn Tryz.prog 17 ir17 ir17_v = true)
theorem M_2 : c_2.modes = [.bor] := rfl
theorem Fl_2 : c_2.flat = false := rfl
attribute [go_sem] M_2 Fl_2
theorem Fs_2 {code : List UInt8} {y_ : L00Src} (h : spec_l00From code = some y_) : c_2.F [.sl 1 (List.map byteAV code)] = ⟨true, .mem 3 [L00Src_av y_] 0, [.any]⟩ := by
 refine mkN_E ?_
 dsimp only [spec_l00From] at h
 obtain rfl := so_some h
 refine ⟨0, fun L hL => ?_⟩
 simp only [go_sem, ir17]


def ir61_v : List Nat := [0, 2, 3]
def ir61 : AFn := ⟨1, 3, .seq (.region false [ VO 1 2 (.mov (I6 0))]) (.seq (.region false [ VO 2 3 (.mov (I6 0))]) (.seq (.anyo 10 [ SO 0 4 (.mov (.v 0)), SO 1 5 (.nilck (.s 0)), SO 2 6 (.fldAddr 1 (.s 1)), SO 3 7 (.load false 1 (.s 2)), SO 4 8 (.mov (.v 0)), SO 5 9 (.nilck (.s 4)), SO 6 10 (.fldAddr 0 (.s 5)), SO 7 11 (.load false 1 (.s 6)), SO 8 12 (.len false (.s 7)), SO 9 13 (.bin false .lss (.s 3) (.s 8))] [] (.cond (.s 9) (.anyo 11 [ SO 0 14 (.mov (.v 0)), SO 1 15 (.nilck (.s 0)), SO 2 16 (.fldAddr 0 (.s 1)), SO 3 17 (.load false 1 (.s 2)), SO 4 18 (.mov (.v 0)), SO 5 19 (.nilck (.s 4)),
 SO 6 20 (.fldAddr 1 (.s 5)), SO 7 21 (.load false 1 (.s 6)), SO 8 22 (.ixAddr 1 (.s 3) (.s 7)), SO 9 23 (.load false 1 (.s 8)), SO 10 24 (.conv .i64 (.s 9)), VS 2 3 10] [] .skip) (.skip))) (.seq (.region false [ PM 25 0, PO 26 (.nilck (.s 0)), PO 27 (.fldAddr 1 (.s 0)), PO 28 (.load false 1 (.s 0)), PO 29 (.bin false .add (.s 0) (I6 1)), PO 30 (.nilck (.s 4)), PO 31 (.fldAddr 1 (.s 0)), ⟨.no, 0, none, .store 1 (.s 0) (.s 2)⟩]) (.seq (.region false [ PM 32 0, PM 33 0, PO 34 (.nilck (.s 0)), PO 35 (.fldAddr 2 (.s 0)), PO 36 (.load false 1 (.s 0)), PO 37 (.bin false .mul (.s 0) (.c (.int .u64
 (6364136223846793005)))), PM 38 2, PO 39 (.conv .u64 (.s 0)), PO 40 (.bin false .add (.s 2) (.s 0)), PO 41 (.bin false .add (.s 0) (.c (.int .u64 (1442695040888963407)))), PO 42 (.nilck (.s 9)), PO 43 (.fldAddr 2 (.s 0)), ⟨.no, 0, none, .store 1 (.s 0) (.s 2)⟩]) (.seq (.anyo 10 [ SO 0 44 (.mov (.v 0)), SO 1 45 (.nilck (.s 0)), SO 2 46 (.fldAddr 1 (.s 1)), SO 3 47 (.load false 1 (.s 2)), SO 4 48 (.mov (.v 0)), SO 5 49 (.nilck (.s 4)), SO 6 50 (.fldAddr 0 (.s 5)), SO 7 51 (.load false 1 (.s 6)), SO 8 52 (.len false (.s 7)), SO 9 53 (.bin false .leq (.s 3) (.s 8))] [] (.cond (.s 9) (.seq (.region
 false [ PM 54 2, VS 1 2 0]) (.ret)) (.skip))) (.seq (.region false [ PM 55 0, PO 56 (.nilck (.s 0)), PO 57 (.fldAddr 2 (.s 0)), PO 58 (.load false 1 (.s 0)), PO 59 (.bin false .shr (.s 0) (.c (.int .u64 (40)))), PO 60 (.bin false .and (.s 0) (.c (.int .u64 (255)))), PO 61 (.conv .i64 (.s 0)), VS 1 2 0]) (.ret))))))), [.t 1]⟩
noncomputable def t_3 : List (Nat × Ctr) := []
noncomputable def c_3 : Ctr := mkN t_3 ir61 [.io]
theorem s_3 : Sound Tryz.prog 61 c_3 := mkN_sound _ snd_nil (by kernel_rfl : chkFn Tryz.prog 61 ir61 ir61_v = true)
theorem M_3 : c_3.modes = [.io] := rfl
theorem Fl_3 : c_3.flat = false := rfl
attribute [go_sem] M_3 Fl_3
theorem Fs_3 {s_ : L00Src} {y_ : Int × L00Src} (h : spec_l00Src_next s_ = some y_) : c_3.F [.mem 3 [L00Src_av s_] 0] = ⟨true, .int .i64 y_.1, [.mem 3 [L00Src_av y_.2] 0]⟩ := by
 refine mkN_E ?_
 dsimp only [spec_l00Src_next] at h
 rcases it_some h with ⟨z1, h⟩ | ⟨z1, h⟩
 ·try simp only [go_sem, n1, n2, n3, n4] at z1
  all_goals
  obtain ⟨z2, h⟩ := ck_some h
  have lz2 := ix_lt z2
  have xz2 := getD_mapD byteAV s_.code_ lz2
  try simp only [go_sem] at lz2
  try simp only [go_sem] at xz2
  try simp only [go_sem, n1, n2, n3, n4, z1] at z2
  all_goals
  rcases it_some h with ⟨z3, h⟩ | ⟨z3, h⟩
  ·try simp only [go_sem, n1, n2, n3, n4, z1, z2] at z3
   all_goals
   obtain rfl := so_some h
   refine ⟨0, fun L hL => ?_⟩
   simp only [go_sem, ir61, z1, z2, lz2, xz2, z3]
  ·try simp only [go_sem, n1, n2, n3, n4, z1, z2] at z3
   all_goals
   obtain ⟨z4, h⟩ := ck_some h
   try simp only [go_sem, n1, n2, n3, n4, z1, z2, z3] at z4
   all_goals
   obtain rfl := so_some h
   refine ⟨0, fun L hL => ?_⟩
   simp only [go_sem, ir61, z1, z2, lz2, xz2, z3, z4]
 ·try simp only [go_sem, n1, n2, n3, n4] at z1
  all_goals
  rcases it_some h with ⟨z5, h⟩ | ⟨z5, h⟩
  ·try simp only [go_sem, n1, n2, n3, n4, z1] at z5
   all_goals
   obtain rfl := so_some h
   refine ⟨0, fun L hL => ?_⟩
   simp only [go_sem, ir61, z1, z5]
  ·try simp only [go_sem, n1, n2, n3, n4, z1] at z5
   all_goals
   obtain ⟨z6, h⟩ := ck_some h
   try simp only [go_sem, n1, n2, n3, n4, z1, z5] at z6
   all_goals
   obtain rfl := so_some h
   refine ⟨0, fun L hL => ?_⟩
   simp only [go_sem, ir61, z1, z5, z6]


def ir27_v : List Nat := [0, 1, 4, 5]
def ir27 : AFn := ⟨2, 4, .seq (.region false [ VO 2 4 (.mov (I6 0))]) (.seq (.test false [ PM 6 1, PO 7 (.bin false .leq (.s 0) (I6 1))] (.s 0) (.seq (.region false [ VO 2 4 (.mov (I6 0))]) (.ret)) (.skip)) (.seq (.region false [ PM 8 0, PO 9 (.call 61 [(.s 0)]), VS 3 5 0]) (.seq (.test false [ PM 10 1, PO 11 (.bin false .gtr (.s 0) (I6 200))] (.s 0) (.region false [ PM 12 3, PO 13 (.bin false .mul (.s 0) (I6 256)), PM 14 0, PO 15 (.call 61 [(.s 0)]), PO 16 (.bin false .add (.s 2) (.s 0)), VS 3 5 0]) (.skip)) (.seq (.region false [ PM 17 3, PM 18 1, PO 19 (.bin false .rem (.s 1) (.s 0)), VS 2 4
 0]) (.ret))))), [.t 2]⟩
noncomputable def t_4 : List (Nat × Ctr) := [(61, c_3)]
theorem lk_4_61 : look t_4 61 = some c_3 := rfl
noncomputable def c_4 : Ctr := mkN t_4 ir27 [.io, .bor]
theorem s_4 : Sound Tryz.prog 27 c_4 := mkN_sound _ (snd_cons s_3 snd_nil) (by kernel_rfl : chkFn Tryz.prog 27 ir27 ir27_v = true)
theorem M_4 : c_4.modes = [.io, .bor] := rfl
theorem Fl_4 : c_4.flat = false := rfl
attribute [go_sem] M_4 Fl_4
attribute [go_sem] lk_4_61
theorem Fs_4 {s_ : L00Src} {n : Int} {y_ : Int × L00Src} (h : spec_l00Src_pick s_ n = some y_) : c_4.F [.mem 3 [L00Src_av s_] 0, .int .i64 n] = ⟨true, .int .i64 y_.1, [.mem 3 [L00Src_av y_.2] 0, .any]⟩ := by
 refine mkN_E ?_
 dsimp only [spec_l00Src_pick] at h
 rcases it_some h with ⟨z1, h⟩ | ⟨z1, h⟩
 ·try simp only [go_sem, n1, n2, n3, n4] at z1
  all_goals
  obtain rfl := so_some h
  refine ⟨0, fun L hL => ?_⟩
  simp only [go_sem, ir27, z1]
 ·try simp only [go_sem, n1, n2, n3, n4] at z1
  all_goals
  obtain ⟨y_2, z2, h⟩ := bd_some h
  have fz2 := Fs_3 z2
  try simp only [go_sem, z1] at fz2
  rcases it_some h with ⟨z3, h⟩ | ⟨z3, h⟩
  ·try simp only [go_sem, n1, n2, n3, n4, z1] at z3
   all_goals
   obtain ⟨y_4, z4, h⟩ := bd_some h
   have fz4 := Fs_3 z4
   try simp only [go_sem, z1, z3] at fz4
   obtain ⟨z5, h⟩ := ck_some h
   try simp only [go_sem, n1, n2, n3, n4, z1, z3] at z5
   all_goals
   obtain rfl := so_some h
   refine ⟨0, fun L hL => ?_⟩
   simp only [go_sem, ir27, z1, fz2, z3, fz4, z5]
  ·try simp only [go_sem, n1, n2, n3, n4, z1] at z3
   all_goals
   obtain ⟨z6, h⟩ := ck_some h
   try simp only [go_sem, n1, n2, n3, n4, z1, z3] at z6
   all_goals
   obtain rfl := so_some h
   refine ⟨0, fun L hL => ?_⟩
   simp only [go_sem, ir27, z1, fz2, z3, z6]


def ir28_v : List Nat := [0, 1, 4]
def ir28 : AFn := ⟨2, 3, .seq (.region false [ VO 2 4 (.mov (.c (.bool false)))]) (.seq (.region false [ PM 5 0, PM 6 1, PO 7 (.call 27 [(.s 1), (.s 0)]), PO 8 (.bin false .eql (.s 0) (I6 0)), VS 2 4 0]) (.ret)), [.t 2]⟩
noncomputable def t_5 : List (Nat × Ctr) := [(27, c_4)]
theorem lk_5_27 : look t_5 27 = some c_4 := rfl
noncomputable def c_5 : Ctr := mkN t_5 ir28 [.io, .bor]
theorem s_5 : Sound Tryz.prog 28 c_5 := mkN_sound _ (snd_cons s_4 snd_nil) (by kernel_rfl : chkFn Tryz.prog 28 ir28 ir28_v = true)
theorem M_5 : c_5.modes = [.io, .bor] := rfl
theorem Fl_5 : c_5.flat = false := rfl
attribute [go_sem] M_5 Fl_5
attribute [go_sem] lk_5_27
theorem Fs_5 {s_ : L00Src} {n : Int} {y_ : Bool × L00Src} (h : spec_l00Src_one s_ n = some y_) : c_5.F [.mem 3 [L00Src_av s_] 0, .int .i64 n] = ⟨true, .bool y_.1, [.mem 3 [L00Src_av y_.2] 0, .any]⟩ := by
 refine mkN_E ?_
 dsimp only [spec_l00Src_one] at h
 obtain ⟨y_1, z1, h⟩ := bd_some h
 have fz1 := Fs_4 z1
 try simp only [go_sem] at fz1
 obtain rfl := so_some h
 refine ⟨0, fun L hL => ?_⟩
 simp only [go_sem, ir28, fz1]


def ir54_v : List Nat := [0, 1, 4]
def ir54 : AFn := ⟨2, 3, .seq (.region false [ VO 2 4 (.mov (.c (.str [])))]) (.seq (.region false [ PM 5 1, PM 6 0, PM 7 1, PO 8 (.len false (.s 0)), PO 9 (.call 27 [(.s 2), (.s 0)]), PO 10 (.ixAddr 1 (.s 4) (.s 0)), PO 11 (.load false 1 (.s 0)), VS 2 4 0]) (.ret)), [.t 2]⟩
noncomputable def t_6 : List (Nat × Ctr) := [(27, c_4)]
theorem lk_6_27 : look t_6 27 = some c_4 := rfl
noncomputable def c_6 : Ctr := mkN t_6 ir54 [.io, .bor]
theorem s_6 : Sound Tryz.prog 54 c_6 := mkN_sound _ (snd_cons s_4 snd_nil) (by kernel_rfl : chkFn Tryz.prog 54 ir54 ir54_v = true)
theorem M_6 : c_6.modes = [.io, .bor] := rfl
theorem Fl_6 : c_6.flat = false := rfl
attribute [go_sem] M_6 Fl_6
attribute [go_sem] lk_6_27
theorem Fs_6 {s_ : L00Src} {list : List (List UInt8)} {y_ : (List UInt8) × L00Src} (h : spec_l00Src_text s_ list = some y_) : c_6.F [.mem 3 [L00Src_av s_] 0, .sl 1 (List.map AV.str list)] = ⟨true, .str y_.1, [.mem 3 [L00Src_av y_.2] 0, .any]⟩ := by
 refine mkN_E ?_
 dsimp only [spec_l00Src_text] at h
 obtain ⟨y_1, z1, h⟩ := bd_some h
 have fz1 := Fs_4 z1
 try simp only [go_sem] at fz1
 obtain ⟨z2, h⟩ := ck_some h
 have lz2 := ix_lt z2
 have xz2 := getD_mapD AV.str list lz2
 try simp only [go_sem] at lz2
 try simp only [go_sem] at xz2
 try simp only [go_sem, n1, n2, n3, n4] at z2
 all_goals
 obtain rfl := so_some h
 refine ⟨0, fun L hL => ?_⟩
 simp only [go_sem, ir54, fz1, z2, lz2, xz2]


def ir77_v : List Nat := [0, 2, 3]
def ir77 : AFn := ⟨1, 3, .seq (.region false [ VO 1 2 (.alloc (.agg [.int .i64 (0), .str [], .str [], .int .i64 (0), .bool false]))]) (.seq (.region false [ PM 4 0, PO 5 (.call 27 [(.s 0), (I6 30)]), PO 6 (.bin false .mul (I6 1000) (.s 0)), PO 7 (.build [.int .i64 (0), .str [], .str [], .int .i64 (0), .bool false] [(0, 1, (.s 0))]), VO 2 3 (.alloc (.agg [.int .i64 (0), .str [], .str [], .int .i64 (0), .bool false])), ⟨.no, 0, none, .store 5 (.v 2) (.s 0)⟩]) (.seq (.test false [ PM 8 0, PO 9 (.call 28 [(.s 0), (I6 2)])] (.s 0) (.anyo 6 [ SO 0 10 (.fldAddr 0 (.v 2)), SO 1 11 (.load false 1 (.s
 0)), SO 2 12 (.mov (.v 0)), SO 3 13 (.call 27 [(.s 2), (I6 3000)]), SO 4 14 (.bin false .add (.s 1) (.s 3)), SO 5 15 (.fldAddr 0 (.v 2)), ⟨.no, 0, none, .store 1 (.s 5) (.s 4)⟩] [[2, 0, 1, 3, 4, 5, 6], [2, 0, 3, 1, 4, 5, 6], [2, 3, 0, 1, 4, 5, 6]] .skip) (.skip)) (.seq (.region false [ PM 16 0, PO 17 (.mkSl 1 (.str []) 3 [(0, (.c (.str [109, 105, 114, 97]))), (1, (.c (.str [114, 114, 45, 108, 121, 114]))), (2, (.c (.str [115, 115, 45, 99, 121, 103])))]), PO 18 (.call 54 [(.s 1), (.s 0)]), PO 19 (.fldAddr 1 (.v 2)), ⟨.no, 0, none, .store 1 (.s 0) (.s 1)⟩]) (.seq (.region false [ PM 20 0, PO 21
 (.mkSl 1 (.str []) 3 [(0, (.c (.str [97, 98]))), (1, (.c (.str [99, 100]))), (2, (.c (.str [101])))]), PO 22 (.call 54 [(.s 1), (.s 0)]), PO 23 (.fldAddr 2 (.v 2)), ⟨.no, 0, none, .store 1 (.s 0) (.s 1)⟩]) (.seq (.region false [ PM 24 0, PO 25 (.call 27 [(.s 0), (I6 60)]), PO 26 (.bin false .mul (I6 50) (.s 0)), PO 27 (.bin false .add (I6 8000) (.s 0)), PO 28 (.fldAddr 3 (.v 2)), ⟨.no, 0, none, .store 1 (.s 0) (.s 1)⟩]) (.seq (.region false [ PM 29 0, PO 30 (.call 28 [(.s 0), (I6 5)]), PO 31 (.fldAddr 4 (.v 2)), ⟨.no, 0, none, .store 1 (.s 0) (.s 1)⟩]) (.seq (.region false [ PO 32 (.load true
 5 (.v 2)), ⟨.no, 0, none, .store 5 (.v 1) (.s 0)⟩]) (.ret)))))))), [.cell true 5 1]⟩
noncomputable def t_7 : List (Nat × Ctr) := [(27, c_4), (28, c_5), (54, c_6)]
theorem lk_7_27 : look t_7 27 = some c_4 := rfl
theorem lk_7_28 : look t_7 28 = some c_5 := rfl
theorem lk_7_54 : look t_7 54 = some c_6 := rfl
noncomputable def c_7 : Ctr := mkN t_7 ir77 [.io]
theorem s_7 : Sound Tryz.prog 77 c_7 := mkN_sound _ (snd_cons s_4 (snd_cons s_5 (snd_cons s_6 snd_nil))) (by kernel_rfl : chkFn Tryz.prog 77 ir77 ir77_v = true)
theorem M_7 : c_7.modes = [.io] := rfl
theorem Fl_7 : c_7.flat = false := rfl
attribute [go_sem] M_7 Fl_7
attribute [go_sem] lk_7_27 lk_7_28 lk_7_54
theorem Fs_7 {s_ : L00Src} {y_ : Estimate × L00Src} (h : spec_l06New s_ = some y_) : c_7.F [.mem 3 [L00Src_av s_] 0] = ⟨true, Estimate_av y_.1, [.mem 3 [L00Src_av y_.2] 0]⟩ := by
 refine mkN_E ?_
 dsimp only [spec_l06New] at h
 obtain ⟨y_1, z1, h⟩ := bd_some h
 have fz1 := Fs_4 z1
 try simp only [go_sem] at fz1
 obtain ⟨y_2, z2, h⟩ := bd_some h
 have fz2 := Fs_5 z2
 try simp only [go_sem] at fz2
 rcases it_some h with ⟨z3, h⟩ | ⟨z3, h⟩
 ·try simp only [go_sem, n1, n2, n3, n4] at z3
  all_goals
  obtain ⟨y_4, z4, h⟩ := bd_some h
  have fz4 := Fs_4 z4
  try simp only [go_sem, z3] at fz4
  obtain ⟨y_5, z5, h⟩ := bd_some h
  have fz5 := Fs_6 z5
  try simp only [go_sem, z3] at fz5
  obtain ⟨y_6, z6, h⟩ := bd_some h
  have fz6 := Fs_6 z6
  try simp only [go_sem, z3] at fz6
  obtain ⟨y_7, z7, h⟩ := bd_some h
  have fz7 := Fs_4 z7
  try simp only [go_sem, z3] at fz7
  obtain ⟨y_8, z8, h⟩ := bd_some h
  have fz8 := Fs_5 z8
  try simp only [go_sem, z3] at fz8
  obtain rfl := so_some h
  refine ⟨0, fun L hL => ?_⟩
  simp only [go_sem, ir77, fz1, fz2, z3, fz4, fz5, fz6, fz7, fz8]
 ·try simp only [go_sem, n1, n2, n3, n4] at z3
  all_goals
  obtain ⟨y_9, z9, h⟩ := bd_some h
  have fz9 := Fs_6 z9
  try simp only [go_sem, z3] at fz9
  obtain ⟨y_10, z10, h⟩ := bd_some h
  have fz10 := Fs_6 z10
  try simp only [go_sem, z3] at fz10
  obtain ⟨y_11, z11, h⟩ := bd_some h
  have fz11 := Fs_4 z11
  try simp only [go_sem, z3] at fz11
  obtain ⟨y_12, z12, h⟩ := bd_some h
  have fz12 := Fs_5 z12
  try simp only [go_sem, z3] at fz12
  obtain rfl := so_some h
  refine ⟨0, fun L hL => ?_⟩
  simp only [go_sem, ir77, fz1, fz2, z3, fz9, fz10, fz11, fz12]


def ir50_v : List Nat := [0, 1, 4]
def ir50 : AFn := ⟨2, 3, .seq (.region false [ VO 2 4 (.mov (.c (.bool false)))]) (.seq (.anyo 9 [ SO 0 5 (.mov (.v 0)), SO 1 6 (.nilck (.s 0)), SO 2 7 (.fldAddr 0 (.s 1)), SO 3 8 (.load false 1 (.s 2)), SO 4 9 (.mov (.v 1)), SO 5 10 (.nilck (.s 4)), SO 6 11 (.fldAddr 0 (.s 5)), SO 7 12 (.load false 1 (.s 6)), SO 8 13 (.bin false .neq (.s 3) (.s 7))] [] (.cond (.s 8) (.seq (.anyo 9 [ SO 0 14 (.mov (.v 0)), SO 1 15 (.nilck (.s 0)), SO 2 16 (.fldAddr 0 (.s 1)), SO 3 17 (.load false 1 (.s 2)), SO 4 18 (.mov (.v 1)), SO 5 19 (.nilck (.s 4)), SO 6 20 (.fldAddr 0 (.s 5)), SO 7 21 (.load false 1 (.s
 6)), SO 8 22 (.bin false .lss (.s 3) (.s 7)), VS 2 4 8] [] .skip) (.ret)) (.skip))) (.seq (.anyo 9 [ SO 0 23 (.mov (.v 0)), SO 1 24 (.nilck (.s 0)), SO 2 25 (.fldAddr 1 (.s 1)), SO 3 26 (.load false 1 (.s 2)), SO 4 27 (.mov (.v 1)), SO 5 28 (.nilck (.s 4)), SO 6 29 (.fldAddr 1 (.s 5)), SO 7 30 (.load false 1 (.s 6)), SO 8 31 (.bin false .neq (.s 3) (.s 7))] [] (.cond (.s 8) (.seq (.anyo 9 [ SO 0 32 (.mov (.v 0)), SO 1 33 (.nilck (.s 0)), SO 2 34 (.fldAddr 1 (.s 1)), SO 3 35 (.load false 1 (.s 2)), SO 4 36 (.mov (.v 1)), SO 5 37 (.nilck (.s 4)), SO 6 38 (.fldAddr 1 (.s 5)), SO 7 39 (.load false
 1 (.s 6)), SO 8 40 (.bin false .lss (.s 3) (.s 7)), VS 2 4 8] [] .skip) (.ret)) (.skip))) (.seq (.anyo 9 [ SO 0 41 (.mov (.v 0)), SO 1 42 (.nilck (.s 0)), SO 2 43 (.fldAddr 2 (.s 1)), SO 3 44 (.load false 1 (.s 2)), SO 4 45 (.mov (.v 1)), SO 5 46 (.nilck (.s 4)), SO 6 47 (.fldAddr 2 (.s 5)), SO 7 48 (.load false 1 (.s 6)), SO 8 49 (.bin false .lss (.s 3) (.s 7)), VS 2 4 8] [] .skip) (.ret)))), [.t 2]⟩
noncomputable def t_8 : List (Nat × Ctr) := []
noncomputable def c_8 : Ctr := mkF t_8 ir50 [.bor, .bor]
theorem s_8 : Sound Tryz.prog 50 c_8 := mkF_sound _ rfl snd_nil (by kernel_rfl : chkFn Tryz.prog 50 ir50 ir50_v = true)
theorem M_8 : c_8.modes = [.bor, .bor] := rfl
theorem Fl_8 : c_8.flat = true := rfl
attribute [go_sem] M_8 Fl_8
theorem Fs_8 {a : Estimate} {b : Estimate} {y_ : Bool} (h : spec_l06Before a b = some y_) : c_8.F [.ptr 5 [Estimate_av a] 0 0, .ptr 5 [Estimate_av b] 0 0] = ⟨true, .bool y_, [.any, .any]⟩ := by
 refine mkF_E rfl ?_
 dsimp only [spec_l06Before] at h
 rcases it_some h with ⟨z1, h⟩ | ⟨z1, h⟩
 ·try simp only [go_sem, n1, n2, n3, n4] at z1
  all_goals
  obtain rfl := so_some h
  refine ⟨0, fun L hL => ?_⟩
  simp only [go_sem, ir50, z1]
 ·try simp only [go_sem, n1, n2, n3, n4] at z1
  all_goals
  rcases it_some h with ⟨z2, h⟩ | ⟨z2, h⟩
  ·try simp only [go_sem, n1, n2, n3, n4, z1] at z2
   all_goals
   obtain rfl := so_some h
   refine ⟨0, fun L hL => ?_⟩
   simp only [go_sem, ir50, z1, z2]
  ·try simp only [go_sem, n1, n2, n3, n4, z1] at z2
   all_goals
   obtain rfl := so_some h
   refine ⟨0, fun L hL => ?_⟩
   simp only [go_sem, ir50, z1, z2]


def ir78_b0 : IR := .seq (.test false [ PM 6 3, PM 7 0, PO 8 (.len false (.s 0)), PO 9 (.bin false .lss (.s 2) (.s 0))] (.s 0) (.skip) (.exit 0)) (.seq (.block 1 (.test false [ PM 12 0, PM 13 3, PO 14 (.ixAddr 5 (.s 1) (.s 0)), PM 15 1, PO 16 (.call 50 [(.s 1), (.s 0)]), PO 17 (.un .not (.s 0)), PO 18 (.mov (.s 0)), ⟨.push, 19, (some ((.s 0), true)), .mov (.v 1)⟩, ⟨.push, 20, (some ((.s 1), true)), .mov (.v 0)⟩, ⟨.push, 21, (some ((.s 2), true)), .mov (.v 3)⟩, ⟨.push, 22, (some ((.s 3), true)), .ixAddr 5 (.s 1) (.s 0)⟩, ⟨.push, 23, (some ((.s 4), true)), .call 50 [(.s 3), (.s 0)]⟩, ⟨.push, 24,
 (some ((.s 5), true)), .un .not (.s 0)⟩, PO 25 (.pick (.s 6) (.s 0) (.c (.bool false)))] (.s 0) (.seq (.region false [ PM 26 3, VS 2 4 0]) (.ret)) (.skip))) (.region false [ PM 10 3, PO 11 (.bin false .add (.s 0) (I6 1)), VS 3 5 0]))
def ir78_k0 : List Bool := [true, true, false, true]
def ir78_o0 : List Bool := [false, false, false, false]
def ir78_r0 : List Bool := [false, false, true, false]
def ir78_v : List Nat := [0, 1, 4, 5]
def ir78 : AFn := ⟨2, 4, .seq (.region false [ VO 2 4 (.mov (I6 0))]) (.seq (.seq (.region false [ VO 3 5 (.mov (I6 0))]) (.block 0 (.loop ir78_k0 ir78_o0 ir78_r0 ir78_b0))) (.seq (.region false [ VO 2 4 (.mov (.c (.int .i64 (-1))))]) (.ret))), [.t 2]⟩
noncomputable def t_9 : List (Nat × Ctr) := [(50, c_8)]
theorem lk_9_50 : look t_9 50 = some c_8 := rfl
noncomputable def c_9 : Ctr := mkF t_9 ir78 [.bor, .bor]
theorem s_9 : Sound Tryz.prog 78 c_9 := mkF_sound _ rfl (snd_cons s_8 snd_nil) (by kernel_rfl : chkFn Tryz.prog 78 ir78 ir78_v = true)
theorem M_9 : c_9.modes = [.bor, .bor] := rfl
theorem Fl_9 : c_9.flat = true := rfl
attribute [go_sem] M_9 Fl_9
attribute [go_sem] lk_9_50
def E_9_l1 (list : List Estimate) (e_ : Estimate) : Int → St
 | i => ⟨[.sl 5 (List.map Estimate_av list), .ptr 5 [Estimate_av e_] 0 0, .any, .int .i64 i], [], [], true⟩
def R_9_l1 (list : List Estimate) (e_ : Estimate) : (Unit ⊕ Int) → Res
 | .inl y => (.exit 0, ⟨[.any, .any, .any, .any], [], [], true⟩)
 | .inr y => (.ret, ⟨[.any, .any, .int .i64 y, .any], [], [], true⟩)
theorem spec_l06Find_l1_ex {list : List Estimate} {e_ : Estimate} {sgm_ : Int} {rho_ : Unit ⊕ Int} (h : whileE (spec_l06Find_l1 list e_) sgm_ = some rho_) : ∃ L0, ∀ L, L0 ≤ L → iter (exec (look t_9) L ir78_b0) ir78_k0 ir78_o0 ir78_r0 L (E_9_l1 list e_ sgm_) = R_9_l1 list e_ rho_ := by
 refine loop_ex (E := E_9_l1 list e_) (R := R_9_l1 list e_) (fun y => by first | (intro c; cases c) | (rcases y with y | y <;> (intro c; cases c)) | (rcases y with y | y | y <;> (intro c; cases c))) ?_ h
 clear h
 intro i o_ h
 dsimp only [spec_l06Find_l1] at h
 rcases it_some h with ⟨z1, h⟩ | ⟨z1, h⟩
 ·try simp only [go_sem, n1, n2, n3, n4] at z1
  all_goals
  obtain ⟨z2, h⟩ := ck_some h
  have lz2 := ix_lt z2
  have xz2 := getD_mapD Estimate_av list lz2
  try simp only [go_sem] at lz2
  try simp only [go_sem] at xz2
  try simp only [go_sem, n1, n2, n3, n4, z1] at z2
  all_goals
  obtain ⟨y_3, z3, h⟩ := bd_some h
  have fz3 := Fs_8 z3
  try simp only [go_sem, z1, z2] at fz3
  obtain ⟨z4, h⟩ := ck_some h
  rcases or_split z4 with ⟨gz4, z4⟩ | gz4
  ·try simp only [go_sem, n1, n2, n3, n4, z1, z2] at gz4
   all_goals
   obtain ⟨y_4, hz4⟩ := Option.isSome_iff_exists.1 z4
   have fz4 := Fs_8 hz4
   try simp only [go_sem, n1, n2, n3, n4, z1, z2, gz4] at hz4
   all_goals
   try simp only [go_sem, z1, z2, gz4] at fz4
   rcases it_some h with ⟨z5, h⟩ | ⟨z5, h⟩
   ·try simp only [go_sem, n1, n2, n3, n4, z1, z2, gz4, hz4] at z5
    all_goals
    obtain rfl := so_some h
    refine ⟨0, fun L hL => ?_⟩
    simp only [go_sem, ir78, E_9_l1, R_9_l1, ir78_b0, ir78_k0, ir78_o0, ir78_r0, z1, z2, lz2, xz2, fz3, gz4, hz4, fz4, z5]
   ·try simp only [go_sem, n1, n2, n3, n4, z1, z2, gz4, hz4] at z5
    all_goals
    obtain rfl := so_some h
    refine ⟨0, fun L hL => ?_⟩
    simp only [go_sem, ir78, E_9_l1, R_9_l1, ir78_b0, ir78_k0, ir78_o0, ir78_r0, z1, z2, lz2, xz2, fz3, gz4, hz4, fz4, z5]
  ·have gz4n := no_f gz4
   try simp only [go_sem, n1, n2, n3, n4, z1, z2] at gz4n
   all_goals
   rcases it_some h with ⟨z5, h⟩ | ⟨z5, h⟩
   ·try simp only [go_sem, n1, n2, n3, n4, z1, z2, gz4n] at z5
    all_goals
    (simp_all)
   ·try simp only [go_sem, n1, n2, n3, n4, z1, z2, gz4n] at z5
    all_goals
    obtain rfl := so_some h
    refine ⟨0, fun L hL => ?_⟩
    simp only [go_sem, ir78, E_9_l1, R_9_l1, ir78_b0, ir78_k0, ir78_o0, ir78_r0, z1, z2, lz2, xz2, fz3, gz4n, z5]
 ·try simp only [go_sem, n1, n2, n3, n4] at z1
  all_goals
  obtain rfl := so_some h
  refine ⟨0, fun L hL => ?_⟩
  simp only [go_sem, ir78, E_9_l1, R_9_l1, ir78_b0, ir78_k0, ir78_o0, ir78_r0, z1]

theorem Fs_9 {list : List Estimate} {e_ : Estimate} {y_ : Int} (h : spec_l06Find list e_ = some y_) : c_9.F [.sl 5 (List.map Estimate_av list), .ptr 5 [Estimate_av e_] 0 0] = ⟨true, .int .i64 y_, [.any, .any]⟩ := by
 refine mkF_E rfl ?_
 dsimp only [spec_l06Find] at h
 obtain ⟨y_6, z6, h⟩ := bd_some h
 obtain ⟨Lz6, ez6⟩ := spec_l06Find_l1_ex z6
 rcases y_6 with y_6a | y_6b
 ·dsimp only at h
  obtain rfl := so_some h
  refine ⟨Lz6, fun L hL => ?_⟩
  have ez6 := ez6 L (by omega)
  try simp only [go_sem, E_9_l1, R_9_l1, ir78_k0, ir78_o0, ir78_r0] at ez6
  simp only [go_sem, ir78, E_9_l1, R_9_l1, ir78_k0, ir78_o0, ir78_r0, ez6]
 ·dsimp only at h
  obtain rfl := so_some h
  refine ⟨Lz6, fun L hL => ?_⟩
  have ez6 := ez6 L (by omega)
  try simp only [go_sem, E_9_l1, R_9_l1, ir78_k0, ir78_o0, ir78_r0] at ez6
  simp only [go_sem, ir78, E_9_l1, R_9_l1, ir78_k0, ir78_o0, ir78_r0, ez6]


def ir79_b0 : IR := .seq (.test false [ PM 9 4, PO 10 (.bin false .gtr (.s 0) (I6 0)), PO 11 (.mov (.s 0)), ⟨.push, 12, (some ((.s 0), true)), .mov (.v 0)⟩, ⟨.push, 13, (some ((.s 1), true)), .mov (.v 4)⟩, ⟨.push, 14, (some ((.s 2), true)), .bin false .sub (.s 0) (I6 1)⟩, ⟨.push, 15, (some ((.s 3), true)), .ixAddr 5 (.s 2) (.s 0)⟩, ⟨.push, 16, (some ((.s 4), true)), .call 50 [(.v 2), (.s 0)]⟩, PO 17 (.pick (.s 5) (.s 0) (.c (.bool false)))] (.s 0) (.skip) (.exit 0)) (.block 1 (.region false [ PM 18 4, PO 19 (.bin false .sub (.s 0) (I6 1)), VS 4 5 0]))
def ir79_k0 : List Bool := [true, false, true, false, true, false]
def ir79_o0 : List Bool := [true, false, true, false, true, false]
def ir79_r0 : List Bool := [false, false, false, true, false, false]
def ir79_v : List Nat := [0, 1, 3, 4, 5, 6]
def ir79 : AFn := ⟨2, 6, .seq (.region false [ VO 2 3 (.box (.v 1)), VO 3 4 (.newnil 5)]) (.seq (.region false [ PM 7 0, PO 8 (.len false (.s 0)), VS 4 5 0]) (.seq (.block 0 (.loop ir79_k0 ir79_o0 ir79_r0 ir79_b0)) (.seq (.region false [ PO 20 (.mkSl 5 (.agg [.int .i64 (0), .str [], .str [], .int .i64 (0), .bool false]) 0 []), PM 21 0, PM 22 4, PO 23 (.slice 5 (.s 1) none (some (.s 0))), PO 24 (.app 5 56 (.agg [.int .i64 (0), .str [], .str [], .int .i64 (0), .bool false]) (.s 3) (.s 0)), VS 5 6 0]) (.seq (.region false [ PM 25 5, PO 26 (.load true 5 (.v 2)), PO 27 (.mkSl 5 (.agg [.int .i64 (0),
 .str [], .str [], .int .i64 (0), .bool false]) 1 [(0, (.s 0))]), PO 28 (.app 5 56 (.agg [.int .i64 (0), .str [], .str [], .int .i64 (0), .bool false]) (.s 2) (.s 0)), VS 5 6 0]) (.seq (.region false [ PM 29 5, PM 30 0, PM 31 4, PO 32 (.slice 5 (.s 1) (some (.s 0)) none), PO 33 (.app 5 56 (.agg [.int .i64 (0), .str [], .str [], .int .i64 (0), .bool false]) (.s 3) (.s 0)), VS 3 4 0]) (.ret)))))), [.t 3]⟩
noncomputable def t_10 : List (Nat × Ctr) := [(50, c_8)]
theorem lk_10_50 : look t_10 50 = some c_8 := rfl
noncomputable def c_10 : Ctr := mkF t_10 ir79 [.bor, .bor]
theorem s_10 : Sound Tryz.prog 79 c_10 := mkF_sound _ rfl (snd_cons s_8 snd_nil) (by kernel_rfl : chkFn Tryz.prog 79 ir79 ir79_v = true)
theorem M_10 : c_10.modes = [.bor, .bor] := rfl
theorem Fl_10 : c_10.flat = true := rfl
attribute [go_sem] M_10 Fl_10
attribute [go_sem] lk_10_50
def E_10_l1 (list : List Estimate) (e_ : Estimate) : Int → St
 | k => ⟨[.sl 5 (List.map Estimate_av list), .any, .ref 3200000 0 0, .any, .int .i64 k, .any], [], [(3200000, ⟨5, [Estimate_av e_]⟩)], true⟩
def R_10_l1 (list : List Estimate) (e_ : Estimate) (y : Int) : Res := (.exit 0, ⟨[.sl 5 (List.map Estimate_av list), .any, .ref 3200000 0 0, .any, .int .i64 y, .any], [], [(3200000, ⟨5, [Estimate_av e_]⟩)], true⟩)
theorem spec_l06Put_l1_ex {list : List Estimate} {e_ : Estimate} {sgm_ : Int} {rho_ : Int} (h : whileE (spec_l06Put_l1 list e_) sgm_ = some rho_) : ∃ L0, ∀ L, L0 ≤ L → iter (exec (look t_10) L ir79_b0) ir79_k0 ir79_o0 ir79_r0 L (E_10_l1 list e_ sgm_) = R_10_l1 list e_ rho_ := by
 refine loop_ex (E := E_10_l1 list e_) (R := R_10_l1 list e_) (fun y => by first | (intro c; cases c) | (rcases y with y | y <;> (intro c; cases c)) | (rcases y with y | y | y <;> (intro c; cases c))) ?_ h
 clear h
 intro k o_ h
 dsimp only [spec_l06Put_l1] at h
 obtain ⟨z1, h⟩ := ck_some h
 rcases or_split z1 with ⟨gz1, z1⟩ | gz1
 ·try simp only [go_sem, n1, n2, n3, n4] at gz1
  all_goals
  have lz1 := ix_lt z1
  have xz1 := getD_mapD Estimate_av list lz1
  try simp only [go_sem] at lz1
  try simp only [go_sem] at xz1
  try simp only [go_sem, n1, n2, n3, n4, gz1] at z1
  all_goals
  obtain ⟨z2, h⟩ := ck_some h
  rcases or_split z2 with ⟨gz2, z2⟩ | gz2
  ·try simp only [go_sem, n1, n2, n3, n4, gz1, z1] at gz2
   all_goals
   obtain ⟨y_2, hz2⟩ := Option.isSome_iff_exists.1 z2
   have fz2 := Fs_8 hz2
   try simp only [go_sem, n1, n2, n3, n4, gz1, z1, gz2] at hz2
   all_goals
   try simp only [go_sem, gz1, z1, gz2] at fz2
   rcases it_some h with ⟨z3, h⟩ | ⟨z3, h⟩
   ·try simp only [go_sem, n1, n2, n3, n4, gz1, z1, gz2, hz2] at z3
    all_goals
    obtain rfl := so_some h
    refine ⟨0, fun L hL => ?_⟩
    simp only [go_sem, ir79, E_10_l1, R_10_l1, ir79_b0, ir79_k0, ir79_o0, ir79_r0, gz1, z1, lz1, xz1, gz2, hz2, fz2, z3]
   ·try simp only [go_sem, n1, n2, n3, n4, gz1, z1, gz2, hz2] at z3
    all_goals
    obtain rfl := so_some h
    refine ⟨0, fun L hL => ?_⟩
    simp only [go_sem, ir79, E_10_l1, R_10_l1, ir79_b0, ir79_k0, ir79_o0, ir79_r0, gz1, z1, lz1, xz1, gz2, hz2, fz2, z3]
  ·try simp only [go_sem, n1, n2, n3, n4, gz1, z1] at gz2
   all_goals
   rcases it_some h with ⟨z3, h⟩ | ⟨z3, h⟩
   ·try simp only [go_sem, n1, n2, n3, n4, gz1, z1, gz2] at z3
    all_goals
    (simp_all)
   ·try simp only [go_sem, n1, n2, n3, n4, gz1, z1, gz2] at z3
    all_goals
    obtain rfl := so_some h
    refine ⟨0, fun L hL => ?_⟩
    simp only [go_sem, ir79, E_10_l1, R_10_l1, ir79_b0, ir79_k0, ir79_o0, ir79_r0, gz1, z1, lz1, xz1, gz2, z3]
 ·try simp only [go_sem, n1, n2, n3, n4] at gz1
  all_goals
  obtain ⟨z2, h⟩ := ck_some h
  rcases it_some h with ⟨z3, h⟩ | ⟨z3, h⟩
  ·try simp only [go_sem, n1, n2, n3, n4, gz1] at z3
   all_goals
   (simp_all)
  ·try simp only [go_sem, n1, n2, n3, n4, gz1] at z3
   all_goals
   obtain rfl := so_some h
   refine ⟨0, fun L hL => ?_⟩
   simp only [go_sem, ir79, E_10_l1, R_10_l1, ir79_b0, ir79_k0, ir79_o0, ir79_r0, gz1, z3]

theorem Fs_10 {list : List Estimate} {e_ : Estimate} {y_ : (List Estimate)} (h : spec_l06Put list e_ = some y_) : c_10.F [.sl 5 (List.map Estimate_av list), Estimate_av e_] = ⟨true, .fresh 5 (List.map Estimate_av y_), [.any, .any]⟩ := by
 refine mkF_E (by simp only [flatA, flatB, flat1, List.all_cons, List.all_nil, Bool.and_self, flatE_map (f := Estimate_av) (fun _ => rfl)]) ?_
 dsimp only [spec_l06Put] at h
 obtain ⟨y_4, z4, h⟩ := bd_some h
 obtain ⟨Lz4, ez4⟩ := spec_l06Put_l1_ex z4
 obtain ⟨z5, h⟩ := ck_some h
 try simp only [go_sem, n1, n2, n3, n4] at z5
 all_goals
 obtain ⟨z6, h⟩ := ck_some h
 try simp only [go_sem, n1, n2, n3, n4, z5] at z6
 all_goals
 obtain ⟨z7, h⟩ := ck_some h
 try simp only [go_sem, n1, n2, n3, n4, z5, z6] at z7
 all_goals
 obtain ⟨z8, h⟩ := ck_some h
 try simp only [go_sem, n1, n2, n3, n4, z5, z6, z7] at z8
 all_goals
 obtain ⟨z9, h⟩ := ck_some h
 try simp only [go_sem, n1, n2, n3, n4, z5, z6, z7, z8] at z9
 all_goals
 obtain rfl := so_some h
 refine ⟨Lz4, fun L hL => ?_⟩
 have ez4 := ez4 L (by omega)
 try simp only [go_sem, E_10_l1, R_10_l1, ir79_k0, ir79_o0, ir79_r0, z5, z6, z7, z8, z9] at ez4
 simp only [go_sem, ir79, E_10_l1, R_10_l1, ir79_k0, ir79_o0, ir79_r0, z5, z6, z7, z8, z9, ez4]


def ir42_b0 : IR := .seq (.test false [ PM 13 4, PO 14 (.bin false .gtr (.s 0) (I6 0))] (.s 0) (.skip) (.exit 0)) (.seq (.block 1 (.seq (.region false [ PM 17 0, PO 18 (.call 77 [(.s 0)]), VO 5 7 (.alloc (.agg [.int .i64 (0), .str [], .str [], .int .i64 (0), .bool false])), ⟨.no, 0, none, .store 5 (.v 5) (.s 0)⟩]) (.test false [ PM 19 3, PO 20 (.call 78 [(.s 0), (.v 5)]), PO 21 (.bin false .lss (.s 0) (I6 0))] (.s 0) (.region false [ PM 22 3, PO 23 (.load true 5 (.v 5)), PO 24 (.call 79 [(.s 1), (.s 0)]), VS 3 5 0]) (.skip)))) (.region false [ PM 15 4, PO 16 (.bin false .sub (.s 0) (I6 1)), VS
 4 6 0]))
def ir42_k0 : List Bool := [true, false, false, true, true, false]
def ir42_o0 : List Bool := [true, false, false, true, false, false]
def ir42_r0 : List Bool := [true, false, true, false, false, false]
def ir42_v : List Nat := [0, 1, 4, 5, 6, 7]
def ir42 : AFn := ⟨2, 6, .seq (.region false [ VO 2 4 (.newnil 5)]) (.seq (.region false [ PO 8 (.mkSl 5 (.agg [.int .i64 (0), .str [], .str [], .int .i64 (0), .bool false]) 0 []), VS 3 5 0]) (.seq (.seq (.region false [ PM 9 0, PM 10 1, PO 11 (.bin false .add (.s 0) (I6 1)), PO 12 (.call 27 [(.s 2), (.s 0)]), VS 4 6 0]) (.block 0 (.loop ir42_k0 ir42_o0 ir42_r0 ir42_b0))) (.seq (.region false [ PM 25 3, VS 2 4 0]) (.ret)))), [.t 2]⟩
noncomputable def t_11 : List (Nat × Ctr) := [(27, c_4), (77, c_7), (78, c_9), (79, c_10)]
theorem lk_11_27 : look t_11 27 = some c_4 := rfl
theorem lk_11_77 : look t_11 77 = some c_7 := rfl
theorem lk_11_78 : look t_11 78 = some c_9 := rfl
theorem lk_11_79 : look t_11 79 = some c_10 := rfl
noncomputable def c_11 : Ctr := mkN t_11 ir42 [.io, .bor]
theorem s_11 : Sound Tryz.prog 42 c_11 := mkN_sound _ (snd_cons s_4 (snd_cons s_7 (snd_cons s_9 (snd_cons s_10 snd_nil)))) (by kernel_rfl : chkFn Tryz.prog 42 ir42 ir42_v = true)
theorem M_11 : c_11.modes = [.io, .bor] := rfl
theorem Fl_11 : c_11.flat = false := rfl
attribute [go_sem] M_11 Fl_11
attribute [go_sem] lk_11_27 lk_11_77 lk_11_78 lk_11_79
def E_11_l1  : (L00Src × (List Estimate) × Int) → St
 | (s_, out, k) => ⟨[.ref 31 0 0, .any, .any, .own 3200032, .int .i64 k, .any], [], [(31, ⟨3, [L00Src_av s_]⟩), (3200032, ⟨5, List.map Estimate_av out⟩)], true⟩
def R_11_l1  (y : L00Src × (List Estimate)) : Res := (.exit 0, ⟨[.ref 31 0 0, .any, .any, .own 3200032, .any, .any], [], [(31, ⟨3, [L00Src_av y.1]⟩), (3200032, ⟨5, List.map Estimate_av y.2⟩)], true⟩)
theorem spec_l06Draw_l1_ex  {sgm_ : L00Src × (List Estimate) × Int} {rho_ : L00Src × (List Estimate)} (h : whileE (spec_l06Draw_l1) sgm_ = some rho_) : ∃ L0, ∀ L, L0 ≤ L → iter (exec (look t_11) L ir42_b0) ir42_k0 ir42_o0 ir42_r0 L (E_11_l1 sgm_) = R_11_l1 rho_ := by
 refine loop_ex (E := E_11_l1) (R := R_11_l1) (fun y => by first | (intro c; cases c) | (rcases y with y | y <;> (intro c; cases c)) | (rcases y with y | y | y <;> (intro c; cases c))) ?_ h
 clear h
 rintro ⟨s_, out, k⟩ o_ h
 dsimp only [spec_l06Draw_l1] at h
 rcases it_some h with ⟨z2, h⟩ | ⟨z2, h⟩
 ·try simp only [go_sem, n1, n2, n3, n4] at z2
  all_goals
  obtain ⟨y_3, z3, h⟩ := bd_some h
  have fz3 := Fs_7 z3
  try simp only [go_sem, z2] at fz3
  obtain ⟨y_4, z4, h⟩ := bd_some h
  have fz4 := Fs_9 z4
  try simp only [go_sem, z2] at fz4
  rcases it_some h with ⟨z5, h⟩ | ⟨z5, h⟩
  ·try simp only [go_sem, n1, n2, n3, n4, z2] at z5
   all_goals
   obtain ⟨y_6, z6, h⟩ := bd_some h
   have fz6 := Fs_10 z6
   try simp only [go_sem, z2, z5] at fz6
   obtain rfl := so_some h
   refine ⟨0, fun L hL => ?_⟩
   simp only [go_sem, ir42, E_11_l1, R_11_l1, ir42_b0, ir42_k0, ir42_o0, ir42_r0, z2, fz3, fz4, z5, fz6]
  ·try simp only [go_sem, n1, n2, n3, n4, z2] at z5
   all_goals
   obtain rfl := so_some h
   refine ⟨0, fun L hL => ?_⟩
   simp only [go_sem, ir42, E_11_l1, R_11_l1, ir42_b0, ir42_k0, ir42_o0, ir42_r0, z2, fz3, fz4, z5]
 ·try simp only [go_sem, n1, n2, n3, n4] at z2
  all_goals
  obtain rfl := so_some h
  refine ⟨0, fun L hL => ?_⟩
  simp only [go_sem, ir42, E_11_l1, R_11_l1, ir42_b0, ir42_k0, ir42_o0, ir42_r0, z2]

theorem Fs_11 {s_ : L00Src} {most : Int} {y_ : (List Estimate) × L00Src} (h : spec_l06Draw s_ most = some y_) : c_11.F [.mem 3 [L00Src_av s_] 0, .int .i64 most] = ⟨true, .fresh 5 (List.map Estimate_av y_.1), [.mem 3 [L00Src_av y_.2] 0, .any]⟩ := by
 refine mkN_E ?_
 dsimp only [spec_l06Draw] at h
 obtain ⟨y_1, z1, h⟩ := bd_some h
 have fz1 := Fs_4 z1
 try simp only [go_sem] at fz1
 obtain ⟨y_7, z7, h⟩ := bd_some h
 obtain ⟨Lz7, ez7⟩ := spec_l06Draw_l1_ex z7
 obtain rfl := so_some h
 refine ⟨Lz7, fun L hL => ?_⟩
 have ez7 := ez7 L (by omega)
 try simp only [go_sem, E_11_l1, R_11_l1, ir42_k0, ir42_o0, ir42_r0] at ez7
 simp only [go_sem, ir42, E_11_l1, R_11_l1, ir42_k0, ir42_o0, ir42_r0, fz1, ez7]


def ir29_v : List Nat := [0, 1, 4]
def ir29 : AFn := ⟨2, 3, .seq (.region false [ VO 2 4 (.mov (I6 0))]) (.seq (.region false [ PM 5 1, PM 6 0, PM 7 1, PO 8 (.len false (.s 0)), PO 9 (.call 27 [(.s 2), (.s 0)]), PO 10 (.ixAddr 1 (.s 4) (.s 0)), PO 11 (.load false 1 (.s 0)), VS 2 4 0]) (.ret)), [.t 2]⟩
noncomputable def t_12 : List (Nat × Ctr) := [(27, c_4)]
theorem lk_12_27 : look t_12 27 = some c_4 := rfl
noncomputable def c_12 : Ctr := mkN t_12 ir29 [.io, .bor]
theorem s_12 : Sound Tryz.prog 29 c_12 := mkN_sound _ (snd_cons s_4 snd_nil) (by kernel_rfl : chkFn Tryz.prog 29 ir29 ir29_v = true)
theorem M_12 : c_12.modes = [.io, .bor] := rfl
theorem Fl_12 : c_12.flat = false := rfl
attribute [go_sem] M_12 Fl_12
attribute [go_sem] lk_12_27
theorem Fs_12 {s_ : L00Src} {list : List Int} {y_ : Int × L00Src} (h : spec_l00Src_among s_ list = some y_) : c_12.F [.mem 3 [L00Src_av s_] 0, .sl 1 (List.map (AV.int .i64) list)] = ⟨true, .int .i64 y_.1, [.mem 3 [L00Src_av y_.2] 0, .any]⟩ := by
 refine mkN_E ?_
 dsimp only [spec_l00Src_among] at h
 obtain ⟨y_1, z1, h⟩ := bd_some h
 have fz1 := Fs_4 z1
 try simp only [go_sem] at fz1
 obtain ⟨z2, h⟩ := ck_some h
 have lz2 := ix_lt z2
 have xz2 := getD_mapD (AV.int .i64) list lz2
 try simp only [go_sem] at lz2
 try simp only [go_sem] at xz2
 try simp only [go_sem, n1, n2, n3, n4] at z2
 all_goals
 obtain rfl := so_some h
 refine ⟨0, fun L hL => ?_⟩
 simp only [go_sem, ir29, fz1, z2, lz2, xz2]


def ir87_v : List Nat := [0, 2]
def ir87 : AFn := ⟨1, 2, .seq (.region false [ VO 1 2 (.mov (I6 0))]) (.seq (.test false [ PM 3 0, PO 4 (.call 28 [(.s 0), (I6 8)])] (.s 0) (.seq (.region false [ PM 5 0, PO 6 (.call 27 [(.s 0), (I6 22001)]), PO 7 (.bin false .add (.s 0) (.c (.int .i64 (-2000)))), VS 1 2 0]) (.ret)) (.skip)) (.seq (.region false [ PM 8 0, PO 9 (.call 27 [(.s 0), (I6 60)]), PO 10 (.bin false .mul (I6 50) (.s 0)), PO 11 (.bin false .add (I6 8000) (.s 0)), VS 1 2 0]) (.ret))), [.t 1]⟩
noncomputable def t_13 : List (Nat × Ctr) := [(28, c_5), (27, c_4)]
theorem lk_13_28 : look t_13 28 = some c_5 := rfl
theorem lk_13_27 : look t_13 27 = some c_4 := rfl
noncomputable def c_13 : Ctr := mkN t_13 ir87 [.io]
theorem s_13 : Sound Tryz.prog 87 c_13 := mkN_sound _ (snd_cons s_5 (snd_cons s_4 snd_nil)) (by kernel_rfl : chkFn Tryz.prog 87 ir87 ir87_v = true)
theorem M_13 : c_13.modes = [.io] := rfl
theorem Fl_13 : c_13.flat = false := rfl
attribute [go_sem] M_13 Fl_13
attribute [go_sem] lk_13_28 lk_13_27
theorem Fs_13 {s_ : L00Src} {y_ : Int × L00Src} (h : spec_l02Draw s_ = some y_) : c_13.F [.mem 3 [L00Src_av s_] 0] = ⟨true, .int .i64 y_.1, [.mem 3 [L00Src_av y_.2] 0]⟩ := by
 refine mkN_E ?_
 dsimp only [spec_l02Draw] at h
 obtain ⟨y_1, z1, h⟩ := bd_some h
 have fz1 := Fs_5 z1
 try simp only [go_sem] at fz1
 rcases it_some h with ⟨z2, h⟩ | ⟨z2, h⟩
 ·try simp only [go_sem, n1, n2, n3, n4] at z2
  all_goals
  obtain ⟨y_3, z3, h⟩ := bd_some h
  have fz3 := Fs_4 z3
  try simp only [go_sem, z2] at fz3
  obtain rfl := so_some h
  refine ⟨0, fun L hL => ?_⟩
  simp only [go_sem, ir87, fz1, z2, fz3]
 ·try simp only [go_sem, n1, n2, n3, n4] at z2
  all_goals
  obtain ⟨y_4, z4, h⟩ := bd_some h
  have fz4 := Fs_4 z4
  try simp only [go_sem, z2] at fz4
  obtain rfl := so_some h
  refine ⟨0, fun L hL => ?_⟩
  simp only [go_sem, ir87, fz1, z2, fz4]


def ir60_v : List Nat := [0, 2]
def ir60 : AFn := ⟨1, 2, .seq (.region false [ VO 1 2 (.mov (I6 0))]) (.seq (.test false [ PM 3 0, PO 4 (.call 28 [(.s 0), (I6 14)])] (.s 0) (.seq (.region false [ PM 5 0, PO 6 (.mkSl 1 (.int .i64 (0)) 6 [(0, (.c (.int .i64 (-2001)))), (1, (.c (.int .i64 (-2000)))), (2, (I6 20000)), (3, (I6 20001)), (4, (.c (.int .i64 (-9223372036854775808)))), (5, (I6 9223372036854775807))]), PO 7 (.call 29 [(.s 1), (.s 0)]), VS 1 2 0]) (.ret)) (.skip)) (.seq (.region false [ PM 8 0, PO 9 (.call 87 [(.s 0)]), VS 1 2 0]) (.ret))), [.t 1]⟩
noncomputable def t_14 : List (Nat × Ctr) := [(28, c_5), (29, c_12), (87, c_13)]
theorem lk_14_28 : look t_14 28 = some c_5 := rfl
theorem lk_14_29 : look t_14 29 = some c_12 := rfl
theorem lk_14_87 : look t_14 87 = some c_13 := rfl
noncomputable def c_14 : Ctr := mkN t_14 ir60 [.io]
theorem s_14 : Sound Tryz.prog 60 c_14 := mkN_sound _ (snd_cons s_5 (snd_cons s_12 (snd_cons s_13 snd_nil))) (by kernel_rfl : chkFn Tryz.prog 60 ir60 ir60_v = true)
theorem M_14 : c_14.modes = [.io] := rfl
theorem Fl_14 : c_14.flat = false := rfl
attribute [go_sem] M_14 Fl_14
attribute [go_sem] lk_14_28 lk_14_29 lk_14_87
theorem Fs_14 {s_ : L00Src} {y_ : Int × L00Src} (h : spec_l02Bent s_ = some y_) : c_14.F [.mem 3 [L00Src_av s_] 0] = ⟨true, .int .i64 y_.1, [.mem 3 [L00Src_av y_.2] 0]⟩ := by
 refine mkN_E ?_
 dsimp only [spec_l02Bent] at h
 obtain ⟨y_1, z1, h⟩ := bd_some h
 have fz1 := Fs_5 z1
 try simp only [go_sem] at fz1
 rcases it_some h with ⟨z2, h⟩ | ⟨z2, h⟩
 ·try simp only [go_sem, n1, n2, n3, n4] at z2
  all_goals
  obtain ⟨y_3, z3, h⟩ := bd_some h
  have fz3 := Fs_12 z3
  try simp only [go_sem, z2] at fz3
  obtain rfl := so_some h
  refine ⟨0, fun L hL => ?_⟩
  simp only [go_sem, ir60, fz1, z2, fz3]
 ·try simp only [go_sem, n1, n2, n3, n4] at z2
  all_goals
  obtain ⟨y_4, z4, h⟩ := bd_some h
  have fz4 := Fs_13 z4
  try simp only [go_sem, z2] at fz4
  obtain rfl := so_some h
  refine ⟨0, fun L hL => ?_⟩
  simp only [go_sem, ir60, fz1, z2, fz4]


def ir43_v : List Nat := [0, 2, 3, 7]
def ir43 : AFn := ⟨1, 4, .seq (.region false [ VO 1 2 (.alloc (.agg [.int .i64 (0), .str [], .str [], .int .i64 (0), .bool false]))]) (.seq (.region false [ PM 4 0, PO 5 (.call 77 [(.s 0)]), VO 2 3 (.alloc (.agg [.int .i64 (0), .str [], .str [], .int .i64 (0), .bool false])), ⟨.no, 0, none, .store 5 (.v 2) (.s 0)⟩]) (.seq (.seq (.region false [ PM 6 0, VO 3 7 (.call 27 [(.s 0), (I6 24)])]) (.block 0 (.test false [ PO 9 (.bin false .eql (.v 3) (I6 0)), PO 8 (.mov (.s 0))] (.s 0) (.region false [ PM 10 0, PO 11 (.mkSl 1 (.int .i64 (0)) 4 [(0, (.c (.int .i64 (-1)))), (1, (I6 0)), (2, (I6
 10000000)), (3, (I6 10000001))]), PO 12 (.call 29 [(.s 1), (.s 0)]), PO 13 (.fldAddr 0 (.v 2)), ⟨.no, 0, none, .store 1 (.s 0) (.s 1)⟩]) (.test false [ PO 15 (.bin false .eql (.v 3) (I6 1)), PO 14 (.mov (.s 0))] (.s 0) (.region false [ PM 16 0, PO 17 (.mkSl 1 (.str []) 3 [(0, (.c (.str []))), (1, (.c (.str [77, 105, 114, 97]))), (2, (.c (.str [97, 32, 98])))]), PO 18 (.call 54 [(.s 1), (.s 0)]), PO 19 (.fldAddr 1 (.v 2)), ⟨.no, 0, none, .store 1 (.s 0) (.s 1)⟩]) (.test false [ PO 21 (.bin false .eql (.v 3) (I6 2)), PO 20 (.mov (.s 0))] (.s 0) (.region false [ PM 22 0, PO 23 (.mkSl 1 (.str [])
 2 [(0, (.c (.str []))), (1, (.c (.str [65, 66])))]), PO 24 (.call 54 [(.s 1), (.s 0)]), PO 25 (.fldAddr 2 (.v 2)), ⟨.no, 0, none, .store 1 (.s 0) (.s 1)⟩]) (.test false [ PO 27 (.bin false .eql (.v 3) (I6 3)), PO 26 (.mov (.s 0))] (.s 0) (.region false [ PM 28 0, PO 29 (.call 60 [(.s 0)]), PO 30 (.fldAddr 3 (.v 2)), ⟨.no, 0, none, .store 1 (.s 0) (.s 1)⟩]) (.skip))))))) (.seq (.region false [ PO 31 (.load true 5 (.v 2)), ⟨.no, 0, none, .store 5 (.v 1) (.s 0)⟩]) (.ret)))), [.cell true 5 1]⟩
noncomputable def t_15 : List (Nat × Ctr) := [(77, c_7), (27, c_4), (29, c_12), (54, c_6), (60, c_14)]
theorem lk_15_77 : look t_15 77 = some c_7 := rfl
theorem lk_15_27 : look t_15 27 = some c_4 := rfl
theorem lk_15_29 : look t_15 29 = some c_12 := rfl
theorem lk_15_54 : look t_15 54 = some c_6 := rfl
theorem lk_15_60 : look t_15 60 = some c_14 := rfl
noncomputable def c_15 : Ctr := mkN t_15 ir43 [.io]
theorem s_15 : Sound Tryz.prog 43 c_15 := mkN_sound _ (snd_cons s_7 (snd_cons s_4 (snd_cons s_12 (snd_cons s_6 (snd_cons s_14 snd_nil))))) (by kernel_rfl : chkFn Tryz.prog 43 ir43 ir43_v = true)
theorem M_15 : c_15.modes = [.io] := rfl
theorem Fl_15 : c_15.flat = false := rfl
attribute [go_sem] M_15 Fl_15
attribute [go_sem] lk_15_77 lk_15_27 lk_15_29 lk_15_54 lk_15_60
theorem Fs_15 {s_ : L00Src} {y_ : Estimate × L00Src} (h : spec_l06BentOne s_ = some y_) : c_15.F [.mem 3 [L00Src_av s_] 0] = ⟨true, Estimate_av y_.1, [.mem 3 [L00Src_av y_.2] 0]⟩ := by
 refine mkN_E ?_
 dsimp only [spec_l06BentOne] at h
 obtain ⟨y_1, z1, h⟩ := bd_some h
 have fz1 := Fs_7 z1
 try simp only [go_sem] at fz1
 obtain ⟨y_2, z2, h⟩ := bd_some h
 have fz2 := Fs_4 z2
 try simp only [go_sem] at fz2
 rcases it_some h with ⟨z3, h⟩ | ⟨z3, h⟩
 ·try simp only [go_sem, n1, n2, n3, n4] at z3
  all_goals
  obtain ⟨y_4, z4, h⟩ := bd_some h
  have fz4 := Fs_12 z4
  try simp only [go_sem, z3] at fz4
  obtain rfl := so_some h
  refine ⟨0, fun L hL => ?_⟩
  simp only [go_sem, ir43, fz1, fz2, z3, fz4]
 ·try simp only [go_sem, n1, n2, n3, n4] at z3
  all_goals
  rcases it_some h with ⟨z5, h⟩ | ⟨z5, h⟩
  ·try simp only [go_sem, n1, n2, n3, n4, z3] at z5
   all_goals
   obtain ⟨y_6, z6, h⟩ := bd_some h
   have fz6 := Fs_6 z6
   try simp only [go_sem, z3, z5] at fz6
   obtain rfl := so_some h
   refine ⟨0, fun L hL => ?_⟩
   simp only [go_sem, ir43, fz1, fz2, z3, z5, fz6]
  ·try simp only [go_sem, n1, n2, n3, n4, z3] at z5
   all_goals
   rcases it_some h with ⟨z7, h⟩ | ⟨z7, h⟩
   ·try simp only [go_sem, n1, n2, n3, n4, z3, z5] at z7
    all_goals
    obtain ⟨y_8, z8, h⟩ := bd_some h
    have fz8 := Fs_6 z8
    try simp only [go_sem, z3, z5, z7] at fz8
    obtain rfl := so_some h
    refine ⟨0, fun L hL => ?_⟩
    simp only [go_sem, ir43, fz1, fz2, z3, z5, z7, fz8]
   ·try simp only [go_sem, n1, n2, n3, n4, z3, z5] at z7
    all_goals
    rcases it_some h with ⟨z9, h⟩ | ⟨z9, h⟩
    ·try simp only [go_sem, n1, n2, n3, n4, z3, z5, z7] at z9
     all_goals
     obtain ⟨y_10, z10, h⟩ := bd_some h
     have fz10 := Fs_14 z10
     try simp only [go_sem, z3, z5, z7, z9] at fz10
     obtain rfl := so_some h
     refine ⟨0, fun L hL => ?_⟩
     simp only [go_sem, ir43, fz1, fz2, z3, z5, z7, z9, fz10]
    ·try simp only [go_sem, n1, n2, n3, n4, z3, z5, z7] at z9
     all_goals
     obtain rfl := so_some h
     refine ⟨0, fun L hL => ?_⟩
     simp only [go_sem, ir43, fz1, fz2, z3, z5, z7, z9]


def ir16_b0 : IR := .seq (.test false [ PM 22 3, PO 23 (.bin false .gtr (.s 0) (I6 0))] (.s 0) (.skip) (.exit 1)) (.seq (.block 2 (.region false [ PM 26 2, PM 27 2, PO 28 (.len false (.s 0)), PO 29 (.build [.int .i64 (0), .str [], .str [], .int .i64 (0), .bool false] [(0, 1, (.s 0)), (1, 1, (.c (.str [109, 105, 114, 97]))), (2, 1, (.c (.str [97, 98]))), (3, 1, (I6 9000))]), PO 30 (.mkSl 5 (.agg [.int .i64 (0), .str [], .str [], .int .i64 (0), .bool false]) 1 [(0, (.s 0))]), PO 31 (.app 5 56 (.agg [.int .i64 (0), .str [], .str [], .int .i64 (0), .bool false]) (.s 4) (.s 0)), VS 2 3 0])) (.region
 false [ PM 24 3, PO 25 (.bin false .sub (.s 0) (I6 1)), VS 3 4 0]))
def ir16_k0 : List Bool := [true, false, true, true, false]
def ir16_o0 : List Bool := [true, false, true, false, false]
def ir16_r0 : List Bool := [true, true, false, false, false]
def ir16_v : List Nat := [0, 2, 3, 4, 8]
def ir16 : AFn := ⟨1, 5, .seq (.region false [ VO 1 2 (.newnil 5)]) (.seq (.region false [ PM 5 0, PO 6 (.call 42 [(.s 0), (I6 10)]), VS 2 3 0]) (.seq (.seq (.region false [ PM 7 0, VO 4 8 (.call 27 [(.s 0), (I6 20)])]) (.block 0 (.test false [ PO 10 (.bin false .eql (.v 4) (I6 0)), PO 9 (.mov (.s 0))] (.s 0) (.region false [ PM 11 2, PM 12 0, PO 13 (.call 43 [(.s 0)]), PO 14 (.mkSl 5 (.agg [.int .i64 (0), .str [], .str [], .int .i64 (0), .bool false]) 1 [(0, (.s 0))]), PO 15 (.app 5 56 (.agg [.int .i64 (0), .str [], .str [], .int .i64 (0), .bool false]) (.s 3) (.s 0)), VS 2 3 0]) (.test false
 [ PO 17 (.bin false .eql (.v 4) (I6 1)), PO 16 (.mov (.s 0))] (.s 0) (.seq (.region false [ PO 18 (.mkSl 5 (.agg [.int .i64 (0), .str [], .str [], .int .i64 (0), .bool false]) 0 []), VS 2 3 0]) (.seq (.region false [ PM 19 0, PO 20 (.call 27 [(.s 0), (I6 2)]), PO 21 (.bin false .add (I6 100) (.s 0)), VS 3 4 0]) (.block 1 (.loop ir16_k0 ir16_o0 ir16_r0 ir16_b0)))) (.test false [ PO 33 (.bin false .eql (.v 4) (I6 2)), PO 32 (.mov (.s 0))] (.s 0) (.test false [ PM 34 2, PO 35 (.len false (.s 0)), PO 36 (.bin false .gtr (.s 0) (I6 0))] (.s 0) (.region false [ PM 37 2, PM 38 0, PM 39 2, PO 40 (.len
 false (.s 0)), PO 41 (.call 27 [(.s 2), (.s 0)]), PM 42 0, PO 43 (.call 43 [(.s 0)]), PO 44 (.ixAddr 5 (.s 6) (.s 2)), ⟨.no, 0, none, .store 5 (.s 0) (.s 1)⟩]) (.skip)) (.skip)))))) (.seq (.region false [ PM 45 2, VS 1 2 0]) (.ret)))), [.t 1]⟩
noncomputable def t_16 : List (Nat × Ctr) := [(42, c_11), (27, c_4), (43, c_15)]
theorem lk_16_42 : look t_16 42 = some c_11 := rfl
theorem lk_16_27 : look t_16 27 = some c_4 := rfl
theorem lk_16_43 : look t_16 43 = some c_15 := rfl
noncomputable def c_16 : Ctr := mkN t_16 ir16 [.io]
theorem s_16 : Sound Tryz.prog 16 c_16 := mkN_sound _ (snd_cons s_11 (snd_cons s_4 (snd_cons s_15 snd_nil))) (by kernel_rfl : chkFn Tryz.prog 16 ir16 ir16_v = true)
theorem M_16 : c_16.modes = [.io] := rfl
theorem Fl_16 : c_16.flat = false := rfl
attribute [go_sem] M_16 Fl_16
attribute [go_sem] lk_16_42 lk_16_27 lk_16_43
def E_16_l1 (s_ : L00Src) : ((List Estimate) × Int) → St
 | (list, k) => ⟨[.ref 31 0 0, .any, .own 3200032, .int .i64 k, .any], [], [(31, ⟨3, [L00Src_av s_]⟩), (3200032, ⟨5, List.map Estimate_av list⟩)], true⟩
def R_16_l1 (s_ : L00Src) (y : (List Estimate)) : Res := (.exit 1, ⟨[.ref 31 0 0, .any, .own 3200032, .any, .any], [], [(31, ⟨3, [L00Src_av s_]⟩), (3200032, ⟨5, List.map Estimate_av y⟩)], true⟩)
theorem spec_l06Bent_l1_ex {s_ : L00Src} {sgm_ : (List Estimate) × Int} {rho_ : (List Estimate)} (h : whileE (spec_l06Bent_l1 s_) sgm_ = some rho_) : ∃ L0, ∀ L, L0 ≤ L → iter (exec (look t_16) L ir16_b0) ir16_k0 ir16_o0 ir16_r0 L (E_16_l1 s_ sgm_) = R_16_l1 s_ rho_ := by
 refine loop_ex (E := E_16_l1 s_) (R := R_16_l1 s_) (fun y => by first | (intro c; cases c) | (rcases y with y | y <;> (intro c; cases c)) | (rcases y with y | y | y <;> (intro c; cases c))) ?_ h
 clear h
 rintro ⟨list, k⟩ o_ h
 dsimp only [spec_l06Bent_l1] at h
 rcases it_some h with ⟨z8, h⟩ | ⟨z8, h⟩
 ·try simp only [go_sem, n1, n2, n3, n4] at z8
  all_goals
  obtain ⟨z9, h⟩ := ck_some h
  try simp only [go_sem, n1, n2, n3, n4, z8] at z9
  all_goals
  obtain rfl := so_some h
  refine ⟨0, fun L hL => ?_⟩
  simp only [go_sem, ir16, E_16_l1, R_16_l1, ir16_b0, ir16_k0, ir16_o0, ir16_r0, z8, z9]
 ·try simp only [go_sem, n1, n2, n3, n4] at z8
  all_goals
  obtain rfl := so_some h
  refine ⟨0, fun L hL => ?_⟩
  simp only [go_sem, ir16, E_16_l1, R_16_l1, ir16_b0, ir16_k0, ir16_o0, ir16_r0, z8]

theorem Fs_16 {s_ : L00Src} {y_ : (List Estimate) × L00Src} (h : spec_l06Bent s_ = some y_) : c_16.F [.mem 3 [L00Src_av s_] 0] = ⟨true, .fresh 5 (List.map Estimate_av y_.1), [.mem 3 [L00Src_av y_.2] 0]⟩ := by
 refine mkN_E ?_
 dsimp only [spec_l06Bent] at h
 obtain ⟨y_1, z1, h⟩ := bd_some h
 have fz1 := Fs_11 z1
 try simp only [go_sem] at fz1
 obtain ⟨y_2, z2, h⟩ := bd_some h
 have fz2 := Fs_4 z2
 try simp only [go_sem] at fz2
 rcases it_some h with ⟨z3, h⟩ | ⟨z3, h⟩
 ·try simp only [go_sem, n1, n2, n3, n4] at z3
  all_goals
  obtain ⟨y_4, z4, h⟩ := bd_some h
  have fz4 := Fs_15 z4
  try simp only [go_sem, z3] at fz4
  obtain ⟨z5, h⟩ := ck_some h
  try simp only [go_sem, n1, n2, n3, n4, z3] at z5
  all_goals
  obtain rfl := so_some h
  refine ⟨0, fun L hL => ?_⟩
  simp only [go_sem, ir16, E_16_l1, R_16_l1, ir16_k0, ir16_o0, ir16_r0, fz1, fz2, z3, fz4, z5]
 ·try simp only [go_sem, n1, n2, n3, n4] at z3
  all_goals
  rcases it_some h with ⟨z6, h⟩ | ⟨z6, h⟩
  ·try simp only [go_sem, n1, n2, n3, n4, z3] at z6
   all_goals
   obtain ⟨y_7, z7, h⟩ := bd_some h
   have fz7 := Fs_4 z7
   try simp only [go_sem, z3, z6] at fz7
   obtain ⟨y_10, z10, h⟩ := bd_some h
   obtain ⟨Lz10, ez10⟩ := spec_l06Bent_l1_ex z10
   obtain rfl := so_some h
   refine ⟨Lz10, fun L hL => ?_⟩
   have ez10 := ez10 L (by omega)
   try simp only [go_sem, E_16_l1, R_16_l1, ir16_k0, ir16_o0, ir16_r0, z3, z6] at ez10
   simp only [go_sem, ir16, E_16_l1, R_16_l1, ir16_k0, ir16_o0, ir16_r0, fz1, fz2, z3, z6, fz7, ez10]
  ·try simp only [go_sem, n1, n2, n3, n4, z3] at z6
   all_goals
   rcases it_some h with ⟨z11, h⟩ | ⟨z11, h⟩
   ·try simp only [go_sem, n1, n2, n3, n4, z3, z6] at z11
    all_goals
    rcases it_some h with ⟨z12, h⟩ | ⟨z12, h⟩
    ·try simp only [go_sem, n1, n2, n3, n4, z3, z6, z11] at z12
     all_goals
     obtain ⟨y_13, z13, h⟩ := bd_some h
     have fz13 := Fs_4 z13
     try simp only [go_sem, z3, z6, z11, z12] at fz13
     obtain ⟨y_14, z14, h⟩ := bd_some h
     have fz14 := Fs_15 z14
     try simp only [go_sem, z3, z6, z11, z12] at fz14
     obtain ⟨z15, h⟩ := ck_some h
     have lz15 := ix_lt z15
     have xz15 := getD_mapD Estimate_av y_1.1 lz15
     try simp only [go_sem] at lz15
     try simp only [go_sem] at xz15
     try simp only [go_sem, n1, n2, n3, n4, z3, z6, z11, z12] at z15
     all_goals
     obtain rfl := so_some h
     refine ⟨0, fun L hL => ?_⟩
     simp only [go_sem, ir16, E_16_l1, R_16_l1, ir16_k0, ir16_o0, ir16_r0, fz1, fz2, z3, z6, z11, z12, fz13, fz14, z15, lz15, xz15]
    ·try simp only [go_sem, n1, n2, n3, n4, z3, z6, z11] at z12
     all_goals
     obtain rfl := so_some h
     refine ⟨0, fun L hL => ?_⟩
     simp only [go_sem, ir16, E_16_l1, R_16_l1, ir16_k0, ir16_o0, ir16_r0, fz1, fz2, z3, z6, z11, z12]
   ·try simp only [go_sem, n1, n2, n3, n4, z3, z6] at z11
    all_goals
    obtain rfl := so_some h
    refine ⟨0, fun L hL => ?_⟩
    simp only [go_sem, ir16, E_16_l1, R_16_l1, ir16_k0, ir16_o0, ir16_r0, fz1, fz2, z3, z6, z11]


def ir5_v : List Nat := [0, 2]
def ir5 : AFn := ⟨1, 2, .seq (.region false [ VO 1 2 (.newnil 5)]) (.seq (.region false [ PM 3 0, PO 4 (.call 17 [(.s 0)]), PO 5 (.call 16 [(.s 0)]), VS 1 2 0]) (.ret)), [.t 1]⟩
noncomputable def t_17 : List (Nat × Ctr) := [(17, c_2), (16, c_16)]
theorem lk_17_17 : look t_17 17 = some c_2 := rfl
theorem lk_17_16 : look t_17 16 = some c_16 := rfl
noncomputable def c_17 : Ctr := mkF t_17 ir5 [.bor]
theorem s_17 : Sound Tryz.prog 5 c_17 := mkF_sound _ rfl (snd_cons s_2 (snd_cons s_16 snd_nil)) (by kernel_rfl : chkFn Tryz.prog 5 ir5 ir5_v = true)
theorem M_17 : c_17.modes = [.bor] := rfl
theorem Fl_17 : c_17.flat = true := rfl
attribute [go_sem] M_17 Fl_17
attribute [go_sem] lk_17_17 lk_17_16
theorem Fs_17 {code : List UInt8} {y_ : (List Estimate)} (h : spec_DrawReportRows code = some y_) : c_17.F [.sl 1 (List.map byteAV code)] = ⟨true, .fresh 5 (List.map Estimate_av y_), [.any]⟩ := by
 refine mkF_E (by simp only [flatA, flatB, flat1, List.all_cons, List.all_nil, Bool.and_self, flatE_map (f := Estimate_av) (fun _ => rfl)]) ?_
 dsimp only [spec_DrawReportRows] at h
 obtain ⟨y_1, z1, h⟩ := bd_some h
 have fz1 := Fs_2 z1
 try simp only [go_sem] at fz1
 obtain ⟨y_2, z2, h⟩ := bd_some h
 have fz2 := Fs_16 z2
 try simp only [go_sem] at fz2
 obtain rfl := so_some h
 refine ⟨0, fun L hL => ?_⟩
 simp only [go_sem, ir5, fz1, fz2]


def ir31_v : List Nat := [0, 1, 2, 6]
def ir31 : AFn := ⟨3, 4, .seq (.region false [ VO 3 6 (.mov (.c (.bool false)))]) (.seq (.region false [ PM 7 0, PM 8 1, PO 9 (.bin false .geq (.s 1) (.s 0)), PO 10 (.mov (.s 0)), ⟨.push, 11, (some ((.s 0), true)), .mov (.v 0)⟩, ⟨.push, 12, (some ((.s 1), true)), .mov (.v 2)⟩, ⟨.push, 13, (some ((.s 2), true)), .bin false .leq (.s 1) (.s 0)⟩, PO 14 (.pick (.s 3) (.s 0) (.c (.bool false))), VS 3 6 0]) (.ret)), [.t 3]⟩
noncomputable def t_18 : List (Nat × Ctr) := []
noncomputable def c_18 : Ctr := mkF t_18 ir31 [.bor, .bor, .bor]
theorem s_18 : Sound Tryz.prog 31 c_18 := mkF_sound _ rfl snd_nil (by kernel_rfl : chkFn Tryz.prog 31 ir31 ir31_v = true)
theorem M_18 : c_18.modes = [.bor, .bor, .bor] := rfl
theorem Fl_18 : c_18.flat = true := rfl
attribute [go_sem] M_18 Fl_18
theorem Fs_18 {n : Int} {low : Int} {high : Int} {y_ : Bool} (h : impl_in n low high = some y_) : c_18.F [.int .i64 n, .int .i64 low, .int .i64 high] = ⟨true, .bool y_, [.any, .any, .any]⟩ := by
 refine mkF_E rfl ?_
 dsimp only [impl_in] at h
 obtain rfl := so_some h
 refine ⟨0, fun L hL => ?_⟩
 simp only [go_sem, ir31]


def ir62_v : List Nat := [0, 2]
def ir62 : AFn := ⟨1, 2, .seq (.region false [ VO 1 2 (.mov (.c (.bool false)))]) (.seq (.region false [ PM 3 0, PO 4 (.call 31 [(.s 0), (I6 0), (I6 10000000)]), VS 1 2 0]) (.ret)), [.t 1]⟩
noncomputable def t_19 : List (Nat × Ctr) := [(31, c_18)]
theorem lk_19_31 : look t_19 31 = some c_18 := rfl
noncomputable def c_19 : Ctr := mkF t_19 ir62 [.bor]
theorem s_19 : Sound Tryz.prog 62 c_19 := mkF_sound _ rfl (snd_cons s_18 snd_nil) (by kernel_rfl : chkFn Tryz.prog 62 ir62 ir62_v = true)
theorem M_19 : c_19.modes = [.bor] := rfl
theorem Fl_19 : c_19.flat = true := rfl
attribute [go_sem] M_19 Fl_19
attribute [go_sem] lk_19_31
theorem Fs_19 {t : Int} {y_ : Bool} (h : impl_ValidTime t = some y_) : c_19.F [.int .i64 t] = ⟨true, .bool y_, [.any]⟩ := by
 refine mkF_E rfl ?_
 dsimp only [impl_ValidTime] at h
 obtain ⟨y_1, z1, h⟩ := bd_some h
 have fz1 := Fs_18 z1
 try simp only [go_sem] at fz1
 obtain rfl := so_some h
 refine ⟨0, fun L hL => ?_⟩
 simp only [go_sem, ir62, fz1]


def ir24_b0 : IR := .seq (.region false [ VO 7 17 (.bin false .lss (.v 6) (.v 5))]) (.seq (.cond (.v 7) (.skip) (.exit 0)) (.seq (.block 1 (.seq (.region false [ PM 18 6, VS 2 3 0]) (.seq (.region false [ PM 19 0, PM 20 2, PO 21 (.ixStr (.s 1) (.s 0)), PO 22 (.bin false .geq (.s 0) (.c (.int .u8 (97)))), PO 23 (.mov (.s 0)), ⟨.push, 24, (some ((.s 0), true)), .mov (.v 0)⟩, ⟨.push, 25, (some ((.s 1), true)), .mov (.v 2)⟩, ⟨.push, 26, (some ((.s 2), true)), .ixStr (.s 1) (.s 0)⟩, ⟨.push, 27, (some ((.s 3), true)), .bin false .leq (.s 0) (.c (.int .u8 (122)))⟩, PO 28 (.pick (.s 4) (.s 0) (.c
 (.bool false))), VS 3 4 0]) (.seq (.region false [ PM 29 0, PM 30 2, PO 31 (.ixStr (.s 1) (.s 0)), PO 32 (.bin false .geq (.s 0) (.c (.int .u8 (48)))), PO 33 (.mov (.s 0)), ⟨.push, 34, (some ((.s 0), true)), .mov (.v 0)⟩, ⟨.push, 35, (some ((.s 1), true)), .mov (.v 2)⟩, ⟨.push, 36, (some ((.s 2), true)), .ixStr (.s 1) (.s 0)⟩, ⟨.push, 37, (some ((.s 3), true)), .bin false .leq (.s 0) (.c (.int .u8 (57)))⟩, PO 38 (.pick (.s 4) (.s 0) (.c (.bool false))), PO 39 (.mov (.s 0)), ⟨.push, 40, (some ((.s 0), false)), .mov (.v 0)⟩, ⟨.push, 41, (some ((.s 1), false)), .mov (.v 2)⟩, ⟨.push, 42, (some
 ((.s 2), false)), .ixStr (.s 1) (.s 0)⟩, ⟨.push, 43, (some ((.s 3), false)), .bin false .eql (.s 0) (.c (.int .u8 (45)))⟩, PO 44 (.pick (.s 4) (.c (.bool true)) (.s 0)), VS 4 5 0]) (.test false [ PM 45 3, PO 46 (.un .not (.s 0)), PO 47 (.mov (.s 0)), ⟨.push, 48, (some ((.s 0), true)), .mov (.v 2)⟩, ⟨.push, 49, (some ((.s 1), true)), .bin false .eql (.s 0) (I6 0)⟩, ⟨.push, 50, (some ((.s 2), true)), .mov (.s 0)⟩, ⟨.push, 51, (some ((.s 0), false)), .mov (.v 4)⟩, ⟨.push, 52, (some ((.s 1), false)), .un .not (.s 0)⟩, ⟨.push, 53, (some ((.s 5), true)), .pick (.s 2) (.c (.bool true)) (.s 0)⟩, PO 54
 (.pick (.s 6) (.s 0) (.c (.bool false)))] (.s 0) (.seq (.region false [ VO 1 2 (.mov (.c (.bool false)))]) (.ret)) (.skip)))))) (.region false [ PO 55 (.bin false .add (.v 6) (I6 1)), VS 6 16 0])))
def ir24_k0 : List Bool := [true, false, false, false, false, true, true, false]
def ir24_o0 : List Bool := [false, false, false, false, false, false, false, false]
def ir24_r0 : List Bool := [false, true, false, false, false, false, false, false]
def ir24_v : List Nat := [0, 2, 3, 4, 5, 15, 16, 17]
def ir24 : AFn := ⟨1, 8, .seq (.region false [ VO 1 2 (.mov (.c (.bool false)))]) (.seq (.test false [ PM 6 0, PO 7 (.len true (.s 0)), PO 8 (.bin false .lss (.s 0) (I6 1)), PO 9 (.mov (.s 0)), ⟨.push, 10, (some ((.s 0), false)), .mov (.v 0)⟩, ⟨.push, 11, (some ((.s 1), false)), .len true (.s 0)⟩, ⟨.push, 12, (some ((.s 2), false)), .bin false .gtr (.s 0) (I6 12)⟩, PO 13 (.pick (.s 3) (.c (.bool true)) (.s 0))] (.s 0) (.seq (.region false [ VO 1 2 (.mov (.c (.bool false)))]) (.ret)) (.skip)) (.seq (.seq (.region false [ PM 14 0, VO 5 15 (.len true (.s 0)), VO 6 16 (.mov (I6 0))]) (.block 0
 (.loop ir24_k0 ir24_o0 ir24_r0 ir24_b0))) (.seq (.region false [ VO 1 2 (.mov (.c (.bool true)))]) (.ret)))), [.t 1]⟩
noncomputable def t_20 : List (Nat × Ctr) := []
noncomputable def c_20 : Ctr := mkF t_20 ir24 [.bor]
theorem s_20 : Sound Tryz.prog 24 c_20 := mkF_sound _ rfl snd_nil (by kernel_rfl : chkFn Tryz.prog 24 ir24 ir24_v = true)
theorem M_20 : c_20.modes = [.bor] := rfl
theorem Fl_20 : c_20.flat = true := rfl
attribute [go_sem] M_20 Fl_20
def E_20_l1 (s_ : List UInt8) (t15 : Int) : Int → St
 | t16 => ⟨[.str s_, .any, .any, .any, .any, .int .i64 t15, .int .i64 t16, .any], [], [], true⟩
def R_20_l1 (s_ : List UInt8) (t15 : Int) : (Unit ⊕ Bool) → Res
 | .inl y => (.exit 0, ⟨[.any, .any, .any, .any, .any, .any, .any, .any], [], [], true⟩)
 | .inr y => (.ret, ⟨[.any, .bool y, .any, .any, .any, .any, .any, .any], [], [], true⟩)
theorem impl_IsName_l1_ex {s_ : List UInt8} {t15 : Int} {sgm_ : Int} {rho_ : Unit ⊕ Bool} (h : whileE (impl_IsName_l1 s_ t15) sgm_ = some rho_) : ∃ L0, ∀ L, L0 ≤ L → iter (exec (look t_20) L ir24_b0) ir24_k0 ir24_o0 ir24_r0 L (E_20_l1 s_ t15 sgm_) = R_20_l1 s_ t15 rho_ := by
 refine loop_ex (E := E_20_l1 s_ t15) (R := R_20_l1 s_ t15) (fun y => by first | (intro c; cases c) | (rcases y with y | y <;> (intro c; cases c)) | (rcases y with y | y | y <;> (intro c; cases c))) ?_ h
 clear h
 intro t16 o_ h
 dsimp only [impl_IsName_l1] at h
 rcases it_some h with ⟨z2, h⟩ | ⟨z2, h⟩
 ·try simp only [go_sem, n1, n2, n3, n4] at z2
  all_goals
  obtain ⟨z3, h⟩ := ck_some h
  try simp only [go_sem, n1, n2, n3, n4, z2] at z3
  all_goals
  rcases it_some h with ⟨z4, h⟩ | ⟨z4, h⟩
  ·try simp only [go_sem, n1, n2, n3, n4, z2, z3] at z4
   all_goals
   obtain rfl := so_some h
   refine ⟨0, fun L hL => ?_⟩
   simp only [go_sem, ir24, E_20_l1, R_20_l1, ir24_b0, ir24_k0, ir24_o0, ir24_r0, z2, z3, z4]
  ·try simp only [go_sem, n1, n2, n3, n4, z2, z3] at z4
   all_goals
   obtain rfl := so_some h
   refine ⟨0, fun L hL => ?_⟩
   simp only [go_sem, ir24, E_20_l1, R_20_l1, ir24_b0, ir24_k0, ir24_o0, ir24_r0, z2, z3, z4]
 ·try simp only [go_sem, n1, n2, n3, n4] at z2
  all_goals
  obtain rfl := so_some h
  refine ⟨0, fun L hL => ?_⟩
  simp only [go_sem, ir24, E_20_l1, R_20_l1, ir24_b0, ir24_k0, ir24_o0, ir24_r0, z2]

theorem Fs_20 {s_ : List UInt8} {y_ : Bool} (h : impl_IsName s_ = some y_) : c_20.F [.str s_] = ⟨true, .bool y_, [.any]⟩ := by
 refine mkF_E rfl ?_
 dsimp only [impl_IsName] at h
 rcases it_some h with ⟨z1, h⟩ | ⟨z1, h⟩
 ·try simp only [go_sem, n1, n2, n3, n4] at z1
  all_goals
  obtain rfl := so_some h
  refine ⟨0, fun L hL => ?_⟩
  simp only [go_sem, ir24, E_20_l1, R_20_l1, ir24_k0, ir24_o0, ir24_r0, z1]
 ·try simp only [go_sem, n1, n2, n3, n4] at z1
  all_goals
  obtain ⟨y_5, z5, h⟩ := bd_some h
  obtain ⟨Lz5, ez5⟩ := impl_IsName_l1_ex z5
  rcases y_5 with y_5a | y_5b
  ·dsimp only at h
   obtain rfl := so_some h
   refine ⟨Lz5, fun L hL => ?_⟩
   have ez5 := ez5 L (by omega)
   try simp only [go_sem, E_20_l1, R_20_l1, ir24_k0, ir24_o0, ir24_r0, z1] at ez5
   simp only [go_sem, ir24, E_20_l1, R_20_l1, ir24_k0, ir24_o0, ir24_r0, z1, ez5]
  ·dsimp only at h
   obtain rfl := so_some h
   refine ⟨Lz5, fun L hL => ?_⟩
   have ez5 := ez5 L (by omega)
   try simp only [go_sem, E_20_l1, R_20_l1, ir24_k0, ir24_o0, ir24_r0, z1] at ez5
   simp only [go_sem, ir24, E_20_l1, R_20_l1, ir24_k0, ir24_o0, ir24_r0, z1, ez5]


def ir63_v : List Nat := [0, 2]
def ir63 : AFn := ⟨1, 2, .seq (.region false [ VO 1 2 (.mov (.c (.bool false)))]) (.seq (.region false [ PM 3 0, PO 4 (.call 31 [(.s 0), (.c (.int .i64 (-2000))), (I6 20000)]), VS 1 2 0]) (.ret)), [.t 1]⟩
noncomputable def t_21 : List (Nat × Ctr) := [(31, c_18)]
theorem lk_21_31 : look t_21 31 = some c_18 := rfl
noncomputable def c_21 : Ctr := mkF t_21 ir63 [.bor]
theorem s_21 : Sound Tryz.prog 63 c_21 := mkF_sound _ rfl (snd_cons s_18 snd_nil) (by kernel_rfl : chkFn Tryz.prog 63 ir63 ir63_v = true)
theorem M_21 : c_21.modes = [.bor] := rfl
theorem Fl_21 : c_21.flat = true := rfl
attribute [go_sem] M_21 Fl_21
attribute [go_sem] lk_21_31
theorem Fs_21 {m : Int} {y_ : Bool} (h : impl_ValidMag m = some y_) : c_21.F [.int .i64 m] = ⟨true, .bool y_, [.any]⟩ := by
 refine mkF_E rfl ?_
 dsimp only [impl_ValidMag] at h
 obtain ⟨y_1, z1, h⟩ := bd_some h
 have fz1 := Fs_18 z1
 try simp only [go_sem] at fz1
 obtain rfl := so_some h
 refine ⟨0, fun L hL => ?_⟩
 simp only [go_sem, ir63, fz1]


def ir55_v : List Nat := [0, 1, 2]
def ir55 : AFn := ⟨1, 3, .seq (.region false [ VO 1 1 (.box (.v 0)), VO 2 2 (.mov (.c (.bool false)))]) (.seq (.region false [ PO 3 (.fldAddr 0 (.v 1)), PO 4 (.load false 1 (.s 0)), PO 5 (.call 62 [(.s 0)]), PO 6 (.mov (.s 0)), ⟨.push, 7, (some ((.s 0), true)), .fldAddr 1 (.v 1)⟩, ⟨.push, 8, (some ((.s 1), true)), .load false 1 (.s 0)⟩, ⟨.push, 9, (some ((.s 2), true)), .call 24 [(.s 0)]⟩, PO 10 (.pick (.s 3) (.s 0) (.c (.bool false))), PO 11 (.mov (.s 0)), ⟨.push, 12, (some ((.s 0), true)), .fldAddr 2 (.v 1)⟩, ⟨.push, 13, (some ((.s 1), true)), .load false 1 (.s 0)⟩, ⟨.push, 14, (some ((.s 2),
 true)), .call 24 [(.s 0)]⟩, PO 15 (.pick (.s 3) (.s 0) (.c (.bool false))), PO 16 (.mov (.s 0)), ⟨.push, 17, (some ((.s 0), true)), .fldAddr 3 (.v 1)⟩, ⟨.push, 18, (some ((.s 1), true)), .load false 1 (.s 0)⟩, ⟨.push, 19, (some ((.s 2), true)), .call 63 [(.s 0)]⟩, PO 20 (.pick (.s 3) (.s 0) (.c (.bool false))), VS 2 2 0]) (.ret)), [.t 2]⟩
noncomputable def t_22 : List (Nat × Ctr) := [(62, c_19), (24, c_20), (63, c_21)]
theorem lk_22_62 : look t_22 62 = some c_19 := rfl
theorem lk_22_24 : look t_22 24 = some c_20 := rfl
theorem lk_22_63 : look t_22 63 = some c_21 := rfl
noncomputable def c_22 : Ctr := mkF t_22 ir55 [.bor]
theorem s_22 : Sound Tryz.prog 55 c_22 := mkF_sound _ rfl (snd_cons s_19 (snd_cons s_20 (snd_cons s_21 snd_nil))) (by kernel_rfl : chkFn Tryz.prog 55 ir55 ir55_v = true)
theorem M_22 : c_22.modes = [.bor] := rfl
theorem Fl_22 : c_22.flat = true := rfl
attribute [go_sem] M_22 Fl_22
attribute [go_sem] lk_22_62 lk_22_24 lk_22_63
theorem Fs_22 {e_ : Estimate} {y_ : Bool} (h : impl_isEstimate e_ = some y_) : c_22.F [Estimate_av e_] = ⟨true, .bool y_, [.any]⟩ := by
 refine mkF_E rfl ?_
 dsimp only [impl_isEstimate] at h
 obtain ⟨y_1, z1, h⟩ := bd_some h
 have fz1 := Fs_19 z1
 try simp only [go_sem] at fz1
 obtain ⟨z2, h⟩ := ck_some h
 rcases or_split z2 with ⟨gz2, z2⟩ | gz2
 ·try simp only [go_sem, n1, n2, n3, n4] at gz2
  all_goals
  obtain ⟨y_2, hz2⟩ := Option.isSome_iff_exists.1 z2
  have fz2 := Fs_20 hz2
  try simp only [go_sem, n1, n2, n3, n4, gz2] at hz2
  all_goals
  try simp only [go_sem, gz2] at fz2
  obtain ⟨z3, h⟩ := ck_some h
  rcases or_split z3 with ⟨gz3, z3⟩ | gz3
  ·try simp only [go_sem, n1, n2, n3, n4, gz2, hz2] at gz3
   all_goals
   obtain ⟨y_3, hz3⟩ := Option.isSome_iff_exists.1 z3
   have fz3 := Fs_20 hz3
   try simp only [go_sem, n1, n2, n3, n4, gz2, hz2, gz3] at hz3
   all_goals
   try simp only [go_sem, gz2, hz2, gz3] at fz3
   obtain ⟨z4, h⟩ := ck_some h
   rcases or_split z4 with ⟨gz4, z4⟩ | gz4
   ·try simp only [go_sem, n1, n2, n3, n4, gz2, hz2, gz3, hz3] at gz4
    all_goals
    obtain ⟨y_4, hz4⟩ := Option.isSome_iff_exists.1 z4
    have fz4 := Fs_21 hz4
    try simp only [go_sem, n1, n2, n3, n4, gz2, hz2, gz3, hz3, gz4] at hz4
    all_goals
    try simp only [go_sem, gz2, hz2, gz3, hz3, gz4] at fz4
    obtain rfl := so_some h
    refine ⟨0, fun L hL => ?_⟩
    simp only [go_sem, ir55, fz1, gz2, hz2, fz2, gz3, hz3, fz3, gz4, hz4, fz4]
   ·rcases and_f gz4 with gz4a | ⟨gz4a, gz4b⟩
    ·try simp only [go_sem, n1, n2, n3, n4, gz2, hz2, gz3, hz3] at gz4a
     all_goals
     (simp_all)
    ·obtain ⟨gz4aa, gz4ab⟩ := and_t gz4a
     try simp only [go_sem, n1, n2, n3, n4, gz2, hz2, gz3, hz3] at gz4aa
     all_goals
     try simp only [go_sem, n1, n2, n3, n4, gz2, hz2, gz3, hz3, gz4aa] at gz4ab
     all_goals
     try simp only [go_sem, n1, n2, n3, n4, gz2, hz2, gz3, hz3, gz4aa, gz4ab] at gz4b
     all_goals
     obtain rfl := so_some h
     refine ⟨0, fun L hL => ?_⟩
     simp only [go_sem, ir55, fz1, gz2, hz2, fz2, gz3, hz3, fz3, gz4aa, gz4ab, gz4b]
  ·rcases and_f gz3 with gz3a | ⟨gz3a, gz3b⟩
   ·try simp only [go_sem, n1, n2, n3, n4, gz2, hz2] at gz3a
    all_goals
    (simp_all)
   ·try simp only [go_sem, n1, n2, n3, n4, gz2, hz2] at gz3a
    all_goals
    try simp only [go_sem, n1, n2, n3, n4, gz2, hz2, gz3a] at gz3b
    all_goals
    obtain ⟨z4, h⟩ := ck_some h
    obtain rfl := so_some h
    refine ⟨0, fun L hL => ?_⟩
    simp only [go_sem, ir55, fz1, gz2, hz2, fz2, gz3a, gz3b]
 ·try simp only [go_sem, n1, n2, n3, n4] at gz2
  all_goals
  obtain ⟨z3, h⟩ := ck_some h
  obtain ⟨z4, h⟩ := ck_some h
  obtain rfl := so_some h
  refine ⟨0, fun L hL => ?_⟩
  simp only [go_sem, ir55, fz1, gz2]


def ir97_v : List Nat := [0, 2]
def ir97 : AFn := ⟨1, 2, .seq (.region false [ VO 1 2 (.mov (.c (.bool false)))]) (.seq (.region false [ PM 3 0, PM 4 0, PO 5 (.bin false .neq (.s 1) (.s 0)), VS 1 2 0]) (.ret)), [.t 1]⟩
noncomputable def t_23 : List (Nat × Ctr) := []
noncomputable def c_23 : Ctr := mkF t_23 ir97 [.bor]
theorem s_23 : Sound Tryz.prog 97 c_23 := mkF_sound _ rfl snd_nil (by kernel_rfl : chkFn Tryz.prog 97 ir97 ir97_v = true)
theorem M_23 : c_23.modes = [.bor] := rfl
theorem Fl_23 : c_23.flat = true := rfl
attribute [go_sem] M_23 Fl_23
theorem Fs_23 {x : Int} {y_ : Bool} (h : cmp_isNaN_int64 x = some y_) : c_23.F [.int .i64 x] = ⟨true, .bool y_, [.any]⟩ := by
 refine mkF_E rfl ?_
 dsimp only [cmp_isNaN_int64] at h
 obtain rfl := so_some h
 refine ⟨0, fun L hL => ?_⟩
 simp only [go_sem, ir97]


def ir85_v : List Nat := [0, 1, 4, 5, 6]
def ir85 : AFn := ⟨2, 5, .seq (.region false [ VO 2 4 (.mov (I6 0))]) (.seq (.region false [ PM 7 0, PO 8 (.call 97 [(.s 0)]), VS 3 5 0]) (.seq (.region false [ PM 9 1, PO 10 (.call 97 [(.s 0)]), VS 4 6 0]) (.seq (.test false [ PM 11 3] (.s 0) (.seq (.test false [ PM 12 4] (.s 0) (.seq (.region false [ VO 2 4 (.mov (I6 0))]) (.ret)) (.skip)) (.seq (.region false [ VO 2 4 (.mov (.c (.int .i64 (-1))))]) (.ret))) (.skip)) (.seq (.test false [ PM 13 4] (.s 0) (.seq (.region false [ VO 2 4 (.mov (I6 1))]) (.ret)) (.skip)) (.seq (.test false [ PM 14 0, PM 15 1, PO 16 (.bin false .lss (.s 1) (.s 0))]
 (.s 0) (.seq (.region false [ VO 2 4 (.mov (.c (.int .i64 (-1))))]) (.ret)) (.skip)) (.seq (.test false [ PM 17 0, PM 18 1, PO 19 (.bin false .gtr (.s 1) (.s 0))] (.s 0) (.seq (.region false [ VO 2 4 (.mov (I6 1))]) (.ret)) (.skip)) (.seq (.region false [ VO 2 4 (.mov (I6 0))]) (.ret)))))))), [.t 2]⟩
noncomputable def t_24 : List (Nat × Ctr) := [(97, c_23)]
theorem lk_24_97 : look t_24 97 = some c_23 := rfl
noncomputable def c_24 : Ctr := mkF t_24 ir85 [.bor, .bor]
theorem s_24 : Sound Tryz.prog 85 c_24 := mkF_sound _ rfl (snd_cons s_23 snd_nil) (by kernel_rfl : chkFn Tryz.prog 85 ir85 ir85_v = true)
theorem M_24 : c_24.modes = [.bor, .bor] := rfl
theorem Fl_24 : c_24.flat = true := rfl
attribute [go_sem] M_24 Fl_24
attribute [go_sem] lk_24_97
theorem Fs_24 {x : Int} {y : Int} {y_ : Int} (h : cmp_Compare_int64 x y = some y_) : c_24.F [.int .i64 x, .int .i64 y] = ⟨true, .int .i64 y_, [.any, .any]⟩ := by
 refine mkF_E rfl ?_
 dsimp only [cmp_Compare_int64] at h
 obtain ⟨y_1, z1, h⟩ := bd_some h
 have fz1 := Fs_23 z1
 try simp only [go_sem] at fz1
 obtain ⟨y_2, z2, h⟩ := bd_some h
 have fz2 := Fs_23 z2
 try simp only [go_sem] at fz2
 rcases it_some h with ⟨z3, h⟩ | ⟨z3, h⟩
 ·try simp only [go_sem, n1, n2, n3, n4] at z3
  all_goals
  rcases it_some h with ⟨z4, h⟩ | ⟨z4, h⟩
  ·try simp only [go_sem, n1, n2, n3, n4, z3] at z4
   all_goals
   obtain rfl := so_some h
   refine ⟨0, fun L hL => ?_⟩
   simp only [go_sem, ir85, fz1, fz2, z3, z4]
  ·try simp only [go_sem, n1, n2, n3, n4, z3] at z4
   all_goals
   obtain rfl := so_some h
   refine ⟨0, fun L hL => ?_⟩
   simp only [go_sem, ir85, fz1, fz2, z3, z4]
 ·try simp only [go_sem, n1, n2, n3, n4] at z3
  all_goals
  rcases it_some h with ⟨z5, h⟩ | ⟨z5, h⟩
  ·try simp only [go_sem, n1, n2, n3, n4, z3] at z5
   all_goals
   obtain rfl := so_some h
   refine ⟨0, fun L hL => ?_⟩
   simp only [go_sem, ir85, fz1, fz2, z3, z5]
  ·try simp only [go_sem, n1, n2, n3, n4, z3] at z5
   all_goals
   rcases it_some h with ⟨z6, h⟩ | ⟨z6, h⟩
   ·try simp only [go_sem, n1, n2, n3, n4, z3, z5] at z6
    all_goals
    obtain rfl := so_some h
    refine ⟨0, fun L hL => ?_⟩
    simp only [go_sem, ir85, fz1, fz2, z3, z5, z6]
   ·try simp only [go_sem, n1, n2, n3, n4, z3, z5] at z6
    all_goals
    rcases it_some h with ⟨z7, h⟩ | ⟨z7, h⟩
    ·try simp only [go_sem, n1, n2, n3, n4, z3, z5, z6] at z7
     all_goals
     obtain rfl := so_some h
     refine ⟨0, fun L hL => ?_⟩
     simp only [go_sem, ir85, fz1, fz2, z3, z5, z6, z7]
    ·try simp only [go_sem, n1, n2, n3, n4, z3, z5, z6] at z7
     all_goals
     obtain rfl := so_some h
     refine ⟨0, fun L hL => ?_⟩
     simp only [go_sem, ir85, fz1, fz2, z3, z5, z6, z7]


theorem s_hCmp : Sound Tryz.prog 117 c_hCmp := hCmp_sound Tryz.func117 (by kernel_rfl) (by kernel_rfl) (by kernel_rfl) (by kernel_rfl)

def ir98_v : List Nat := [0, 1, 4]
def ir98 : AFn := ⟨2, 3, .seq (.region false [ VO 2 4 (.mov (I6 0))]) (.seq (.region false [ PM 5 0, PM 6 1, PO 7 (.call 117 [(.s 1), (.s 0)]), VS 2 4 0]) (.ret)), [.t 2]⟩
noncomputable def t_26 : List (Nat × Ctr) := [(117, c_hCmp)]
theorem lk_26_117 : look t_26 117 = some c_hCmp := rfl
noncomputable def c_26 : Ctr := mkF t_26 ir98 [.bor, .bor]
theorem s_26 : Sound Tryz.prog 98 c_26 := mkF_sound _ rfl (snd_cons s_hCmp snd_nil) (by kernel_rfl : chkFn Tryz.prog 98 ir98 ir98_v = true)
theorem M_26 : c_26.modes = [.bor, .bor] := rfl
theorem Fl_26 : c_26.flat = true := rfl
attribute [go_sem] M_26 Fl_26
attribute [go_sem] lk_26_117
theorem Fs_26 {a : List UInt8} {b : List UInt8} {y_ : Int} (h : internal_bytealg_CompareString a b = some y_) : c_26.F [.str a, .str b] = ⟨true, .int .i64 y_, [.any, .any]⟩ := by
 refine mkF_E rfl ?_
 dsimp only [internal_bytealg_CompareString] at h
 obtain ⟨y_1, z1, h⟩ := bd_some h
 have fz1 := Fs_hCmp z1
 try simp only [go_sem] at fz1
 obtain rfl := so_some h
 refine ⟨0, fun L hL => ?_⟩
 simp only [go_sem, ir98, fz1]


def ir86_v : List Nat := [0, 1, 4]
def ir86 : AFn := ⟨2, 3, .seq (.region false [ VO 2 4 (.mov (I6 0))]) (.seq (.region false [ PM 5 0, PM 6 1, PO 7 (.call 98 [(.s 1), (.s 0)]), VS 2 4 0]) (.ret)), [.t 2]⟩
noncomputable def t_27 : List (Nat × Ctr) := [(98, c_26)]
theorem lk_27_98 : look t_27 98 = some c_26 := rfl
noncomputable def c_27 : Ctr := mkF t_27 ir86 [.bor, .bor]
theorem s_27 : Sound Tryz.prog 86 c_27 := mkF_sound _ rfl (snd_cons s_26 snd_nil) (by kernel_rfl : chkFn Tryz.prog 86 ir86 ir86_v = true)
theorem M_27 : c_27.modes = [.bor, .bor] := rfl
theorem Fl_27 : c_27.flat = true := rfl
attribute [go_sem] M_27 Fl_27
attribute [go_sem] lk_27_98
theorem Fs_27 {a : List UInt8} {b : List UInt8} {y_ : Int} (h : strings_Compare a b = some y_) : c_27.F [.str a, .str b] = ⟨true, .int .i64 y_, [.any, .any]⟩ := by
 refine mkF_E rfl ?_
 dsimp only [strings_Compare] at h
 obtain ⟨y_1, z1, h⟩ := bd_some h
 have fz1 := Fs_26 z1
 try simp only [go_sem] at fz1
 obtain rfl := so_some h
 refine ⟨0, fun L hL => ?_⟩
 simp only [go_sem, ir86, fz1]


def ir84_b0 : IR := .seq (.region false [ VO 7 9 (.bin false .lss (.v 6) (.v 5))]) (.seq (.cond (.v 7) (.skip) (.exit 0)) (.seq (.block 1 (.seq (.region false [ PO 10 (.ixAddr 1 (.v 4) (.v 6)), PO 11 (.load false 1 (.s 0)), VS 3 5 0]) (.test false [ PM 12 3, PM 13 2, PO 14 (.bin false .neq (.s 1) (.s 0))] (.s 0) (.seq (.region false [ PM 15 3, VS 1 2 0]) (.ret)) (.skip)))) (.region false [ PO 16 (.bin false .add (.v 6) (I6 1)), VS 6 8 0])))
def ir84_k0 : List Bool := [false, false, true, false, true, true, true, false]
def ir84_o0 : List Bool := [false, false, true, false, false, false, false, false]
def ir84_r0 : List Bool := [false, true, false, false, false, false, false, false]
def ir84_v : List Nat := [0, 2, 3, 5, 6, 7, 8, 9]
def ir84 : AFn := ⟨1, 8, .seq (.region false [ VO 1 2 (.mov (I6 0))]) (.seq (.region false [ VO 2 3 (.mov (I6 0))]) (.seq (.seq (.region false [ VO 4 6 (.mov (.v 0)), VO 5 7 (.len false (.v 4)), VO 6 8 (.mov (I6 0))]) (.block 0 (.loop ir84_k0 ir84_o0 ir84_r0 ir84_b0))) (.seq (.region false [ PM 17 2, VS 1 2 0]) (.ret)))), [.t 1]⟩
noncomputable def t_28 : List (Nat × Ctr) := []
noncomputable def c_28 : Ctr := mkF t_28 ir84 [.bor]
theorem s_28 : Sound Tryz.prog 84 c_28 := mkF_sound _ rfl snd_nil (by kernel_rfl : chkFn Tryz.prog 84 ir84 ir84_v = true)
theorem M_28 : c_28.modes = [.bor] := rfl
theorem Fl_28 : c_28.flat = true := rfl
attribute [go_sem] M_28 Fl_28
def E_28_l1 (zero : Int) (t6 : List Int) (t7 : Int) : Int → St
 | t8 => ⟨[.any, .any, .int .i64 zero, .any, .sl 1 (List.map (AV.int .i64) t6), .int .i64 t7, .int .i64 t8, .any], [], [], true⟩
def R_28_l1 (zero : Int) (t6 : List Int) (t7 : Int) : (Unit ⊕ Int) → Res
 | .inl y => (.exit 0, ⟨[.any, .any, .int .i64 zero, .any, .any, .any, .any, .any], [], [], true⟩)
 | .inr y => (.ret, ⟨[.any, .int .i64 y, .any, .any, .any, .any, .any, .any], [], [], true⟩)
theorem cmp_Or_int_l1_ex {zero : Int} {t6 : List Int} {t7 : Int} {sgm_ : Int} {rho_ : Unit ⊕ Int} (h : whileE (cmp_Or_int_l1 zero t6 t7) sgm_ = some rho_) : ∃ L0, ∀ L, L0 ≤ L → iter (exec (look t_28) L ir84_b0) ir84_k0 ir84_o0 ir84_r0 L (E_28_l1 zero t6 t7 sgm_) = R_28_l1 zero t6 t7 rho_ := by
 refine loop_ex (E := E_28_l1 zero t6 t7) (R := R_28_l1 zero t6 t7) (fun y => by first | (intro c; cases c) | (rcases y with y | y <;> (intro c; cases c)) | (rcases y with y | y | y <;> (intro c; cases c))) ?_ h
 clear h
 intro t8 o_ h
 dsimp only [cmp_Or_int_l1] at h
 rcases it_some h with ⟨z1, h⟩ | ⟨z1, h⟩
 ·try simp only [go_sem, n1, n2, n3, n4] at z1
  all_goals
  obtain ⟨z2, h⟩ := ck_some h
  have lz2 := ix_lt z2
  have xz2 := getD_mapD (AV.int .i64) t6 lz2
  try simp only [go_sem] at lz2
  try simp only [go_sem] at xz2
  try simp only [go_sem, n1, n2, n3, n4, z1] at z2
  all_goals
  rcases it_some h with ⟨z3, h⟩ | ⟨z3, h⟩
  ·try simp only [go_sem, n1, n2, n3, n4, z1, z2] at z3
   all_goals
   obtain rfl := so_some h
   refine ⟨0, fun L hL => ?_⟩
   simp only [go_sem, ir84, E_28_l1, R_28_l1, ir84_b0, ir84_k0, ir84_o0, ir84_r0, z1, z2, lz2, xz2, z3]
  ·try simp only [go_sem, n1, n2, n3, n4, z1, z2] at z3
   all_goals
   obtain rfl := so_some h
   refine ⟨0, fun L hL => ?_⟩
   simp only [go_sem, ir84, E_28_l1, R_28_l1, ir84_b0, ir84_k0, ir84_o0, ir84_r0, z1, z2, lz2, xz2, z3]
 ·try simp only [go_sem, n1, n2, n3, n4] at z1
  all_goals
  obtain rfl := so_some h
  refine ⟨0, fun L hL => ?_⟩
  simp only [go_sem, ir84, E_28_l1, R_28_l1, ir84_b0, ir84_k0, ir84_o0, ir84_r0, z1]

theorem Fs_28 {vals : List Int} {y_ : Int} (h : cmp_Or_int vals = some y_) : c_28.F [.sl 1 (List.map (AV.int .i64) vals)] = ⟨true, .int .i64 y_, [.any]⟩ := by
 refine mkF_E rfl ?_
 dsimp only [cmp_Or_int] at h
 obtain ⟨y_4, z4, h⟩ := bd_some h
 obtain ⟨Lz4, ez4⟩ := cmp_Or_int_l1_ex z4
 rcases y_4 with y_4a | y_4b
 ·dsimp only at h
  obtain rfl := so_some h
  refine ⟨Lz4, fun L hL => ?_⟩
  have ez4 := ez4 L (by omega)
  try simp only [go_sem, E_28_l1, R_28_l1, ir84_k0, ir84_o0, ir84_r0] at ez4
  simp only [go_sem, ir84, E_28_l1, R_28_l1, ir84_k0, ir84_o0, ir84_r0, ez4]
 ·dsimp only at h
  obtain rfl := so_some h
  refine ⟨Lz4, fun L hL => ?_⟩
  have ez4 := ez4 L (by omega)
  try simp only [go_sem, E_28_l1, R_28_l1, ir84_k0, ir84_o0, ir84_r0] at ez4
  simp only [go_sem, ir84, E_28_l1, R_28_l1, ir84_k0, ir84_o0, ir84_r0, ez4]


def ir56_v : List Nat := [0, 1, 2, 3, 4]
def ir56 : AFn := ⟨2, 5, .seq (.region false [ VO 2 2 (.box (.v 0)), VO 3 3 (.box (.v 1)), VO 4 4 (.mov (I6 0))]) (.seq (.anyo 17 [ SO 0 5 (.fldAddr 0 (.v 2)), SO 1 6 (.load false 1 (.s 0)), SO 2 7 (.fldAddr 0 (.v 3)), SO 3 8 (.load false 1 (.s 2)), SO 4 9 (.callp 85 [(.s 1), (.s 3)]), SO 5 10 (.fldAddr 1 (.v 2)), SO 6 11 (.load false 1 (.s 5)), SO 7 12 (.fldAddr 1 (.v 3)), SO 8 13 (.load false 1 (.s 7)), SO 9 14 (.callp 86 [(.s 6), (.s 8)]), SO 10 15 (.fldAddr 2 (.v 2)), SO 11 16 (.load false 1 (.s 10)), SO 12 17 (.fldAddr 2 (.v 3)), SO 13 18 (.load false 1 (.s 12)), SO 14 19 (.callp 86 [(.s
 11), (.s 13)]), SO 15 20 (.pur (.mkSl 1 (.int .i64 (0)) 3 [(0, (.s 4)), (1, (.s 9)), (2, (.s 14))])), SO 16 21 (.callp 84 [(.s 15)]), VS 4 4 16] [] .skip) (.ret)), [.t 4]⟩
noncomputable def t_29 : List (Nat × Ctr) := [(85, c_24), (86, c_27), (84, c_28)]
theorem lk_29_85 : look t_29 85 = some c_24 := rfl
theorem lk_29_86 : look t_29 86 = some c_27 := rfl
theorem lk_29_84 : look t_29 84 = some c_28 := rfl
noncomputable def c_29 : Ctr := mkF t_29 ir56 [.bor, .bor]
theorem s_29 : Sound Tryz.prog 56 c_29 := mkF_sound _ rfl (snd_cons s_24 (snd_cons s_27 (snd_cons s_28 snd_nil))) (by kernel_rfl : chkFn Tryz.prog 56 ir56 ir56_v = true)
theorem M_29 : c_29.modes = [.bor, .bor] := rfl
theorem Fl_29 : c_29.flat = true := rfl
attribute [go_sem] M_29 Fl_29
attribute [go_sem] lk_29_85 lk_29_86 lk_29_84
theorem Fs_29 {a : Estimate} {b : Estimate} {y_ : Int} (h : impl_compareEstimates a b = some y_) : c_29.F [Estimate_av a, Estimate_av b] = ⟨true, .int .i64 y_, [.any, .any]⟩ := by
 refine mkF_E rfl ?_
 dsimp only [impl_compareEstimates] at h
 obtain ⟨y_1, z1, h⟩ := bd_some h
 have fz1 := Fs_24 z1
 try simp only [go_sem] at fz1
 obtain ⟨y_2, z2, h⟩ := bd_some h
 have fz2 := Fs_27 z2
 try simp only [go_sem] at fz2
 obtain ⟨y_3, z3, h⟩ := bd_some h
 have fz3 := Fs_27 z3
 try simp only [go_sem] at fz3
 obtain ⟨y_4, z4, h⟩ := bd_some h
 have fz4 := Fs_28 z4
 try simp only [go_sem] at fz4
 obtain rfl := so_some h
 refine ⟨0, fun L hL => ?_⟩
 simp only [go_sem, ir56, fz1, fz2, fz3, fz4]


def ir23_b0 : IR := .seq (.region false [ VO 7 11 (.bin false .lss (.v 6) (.v 5))]) (.seq (.cond (.v 7) (.skip) (.exit 0)) (.seq (.block 1 (.seq (.region false [ PM 12 6, PO 13 (.ixAddr 5 (.v 4) (.v 6)), PO 14 (.load true 5 (.s 0)), VO 3 4 (.alloc (.agg [.int .i64 (0), .str [], .str [], .int .i64 (0), .bool false])), VS 2 3 2, ⟨.no, 0, none, .store 5 (.v 3) (.s 0)⟩]) (.anyo 17 [ SO 0 15 (.load true 5 (.v 3)), SO 1 16 (.callp 55 [(.s 0)]), SO 2 17 (.un .not (.s 1)), SO 3 18 (.mov (.s 2)), ⟨.slot 4, 19, (some ((.s 3), false)), .mov (.v 2)⟩, ⟨.slot 5, 20, (some ((.s 3), false)), .bin false .gtr
 (.s 4) (I6 0)⟩, ⟨.slot 6, 21, (some ((.s 3), false)), .mov (.s 5)⟩, ⟨.slot 7, 22, (some ((.s 6), true)), .mov (.v 0)⟩, ⟨.slot 8, 23, (some ((.s 6), true)), .mov (.v 2)⟩, ⟨.slot 9, 24, (some ((.s 6), true)), .bin false .sub (.s 8) (I6 1)⟩, ⟨.slot 10, 25, (some ((.s 6), true)), .ixAddr 5 (.s 7) (.s 9)⟩, ⟨.slot 11, 26, (some ((.s 6), true)), .load true 5 (.s 10)⟩, ⟨.slot 12, 27, (some ((.s 6), true)), .load true 5 (.v 3)⟩, ⟨.slot 13, 28, (some ((.s 6), true)), .call 56 [(.s 11), (.s 12)]⟩, ⟨.slot 14, 29, (some ((.s 6), true)), .bin false .geq (.s 13) (I6 0)⟩, ⟨.slot 15, 30, (some ((.s 3),
 false)), .pick (.s 6) (.s 14) (.c (.bool false))⟩, SO 16 31 (.pick (.s 3) (.c (.bool true)) (.s 15))] [] (.cond (.s 16) (.seq (.region false [ VO 1 2 (.mov (.c (.bool false)))]) (.ret)) (.skip))))) (.region false [ PO 32 (.bin false .add (.v 6) (I6 1)), VS 6 10 0])))
def ir23_k0 : List Bool := [true, false, false, false, true, true, true, false]
def ir23_o0 : List Bool := [false, false, false, false, false, false, false, false]
def ir23_r0 : List Bool := [false, true, false, false, false, false, false, false]
def ir23_v : List Nat := [0, 2, 3, 4, 8, 9, 10, 11]
def ir23 : AFn := ⟨1, 8, .seq (.region false [ VO 1 2 (.mov (.c (.bool false)))]) (.seq (.test false [ PM 5 0, PO 6 (.len false (.s 0)), PO 7 (.bin false .gtr (.s 0) (I6 100))] (.s 0) (.seq (.region false [ VO 1 2 (.mov (.c (.bool false)))]) (.ret)) (.skip)) (.seq (.seq (.region false [ VO 4 8 (.mov (.v 0)), VO 5 9 (.len false (.v 4)), VO 6 10 (.mov (I6 0))]) (.block 0 (.loop ir23_k0 ir23_o0 ir23_r0 ir23_b0))) (.seq (.region false [ VO 1 2 (.mov (.c (.bool true)))]) (.ret)))), [.t 1]⟩
noncomputable def t_30 : List (Nat × Ctr) := [(55, c_22), (56, c_29)]
theorem lk_30_55 : look t_30 55 = some c_22 := rfl
theorem lk_30_56 : look t_30 56 = some c_29 := rfl
noncomputable def c_30 : Ctr := mkF t_30 ir23 [.bor]
theorem s_30 : Sound Tryz.prog 23 c_30 := mkF_sound _ rfl (snd_cons s_22 (snd_cons s_29 snd_nil)) (by kernel_rfl : chkFn Tryz.prog 23 ir23 ir23_v = true)
theorem M_30 : c_30.modes = [.bor] := rfl
theorem Fl_30 : c_30.flat = true := rfl
attribute [go_sem] M_30 Fl_30
attribute [go_sem] lk_30_55 lk_30_56
def E_30_l1 (list : List Estimate) (t8 : List Estimate) (t9 : Int) : Int → St
 | t10 => ⟨[.sl 5 (List.map Estimate_av list), .any, .any, .any, .sl 5 (List.map Estimate_av t8), .int .i64 t9, .int .i64 t10, .any], [], [], true⟩
def R_30_l1 (list : List Estimate) (t8 : List Estimate) (t9 : Int) : (Unit ⊕ Bool) → Res
 | .inl y => (.exit 0, ⟨[.any, .any, .any, .any, .any, .any, .any, .any], [], [], true⟩)
 | .inr y => (.ret, ⟨[.any, .bool y, .any, .any, .any, .any, .any, .any], [], [], true⟩)
theorem impl_ValidEstimates_l1_ex {list : List Estimate} {t8 : List Estimate} {t9 : Int} {sgm_ : Int} {rho_ : Unit ⊕ Bool} (h : whileE (impl_ValidEstimates_l1 list t8 t9) sgm_ = some rho_) : ∃ L0, ∀ L, L0 ≤ L → iter (exec (look t_30) L ir23_b0) ir23_k0 ir23_o0 ir23_r0 L (E_30_l1 list t8 t9 sgm_) = R_30_l1 list t8 t9 rho_ := by
 refine loop_ex (E := E_30_l1 list t8 t9) (R := R_30_l1 list t8 t9) (fun y => by first | (intro c; cases c) | (rcases y with y | y <;> (intro c; cases c)) | (rcases y with y | y | y <;> (intro c; cases c))) ?_ h
 clear h
 intro t10 o_ h
 dsimp only [impl_ValidEstimates_l1] at h
 rcases it_some h with ⟨z2, h⟩ | ⟨z2, h⟩
 ·try simp only [go_sem, n1, n2, n3, n4] at z2
  all_goals
  obtain ⟨z3, h⟩ := ck_some h
  have lz3 := ix_lt z3
  have xz3 := getD_mapD Estimate_av t8 lz3
  try simp only [go_sem] at lz3
  try simp only [go_sem] at xz3
  try simp only [go_sem, n1, n2, n3, n4, z2] at z3
  all_goals
  obtain ⟨y_4, z4, h⟩ := bd_some h
  have fz4 := Fs_22 z4
  try simp only [go_sem, z2, z3] at fz4
  obtain ⟨z5, h⟩ := ck_some h
  rcases or_split z5 with ⟨gz5, z5⟩ | gz5
  ·try simp only [go_sem, n1, n2, n3, n4, z2, z3] at gz5
   all_goals
   have lz5 := ix_lt z5
   have xz5 := getD_mapD Estimate_av list lz5
   try simp only [go_sem] at lz5
   try simp only [go_sem] at xz5
   try simp only [go_sem, n1, n2, n3, n4, z2, z3, gz5] at z5
   all_goals
   obtain ⟨z6, h⟩ := ck_some h
   rcases or_split z6 with ⟨gz6, z6⟩ | gz6
   ·try simp only [go_sem, n1, n2, n3, n4, z2, z3, gz5, z5] at gz6
    all_goals
    obtain ⟨y_6, hz6⟩ := Option.isSome_iff_exists.1 z6
    have fz6 := Fs_29 hz6
    try simp only [go_sem, n1, n2, n3, n4, z2, z3, gz5, z5, gz6] at hz6
    all_goals
    try simp only [go_sem, z2, z3, gz5, z5, gz6] at fz6
    rcases it_some h with ⟨z7, h⟩ | ⟨z7, h⟩
    ·try simp only [go_sem, n1, n2, n3, n4, z2, z3, gz5, z5, gz6, hz6] at z7
     all_goals
     obtain rfl := so_some h
     refine ⟨0, fun L hL => ?_⟩
     simp only [go_sem, ir23, E_30_l1, R_30_l1, ir23_b0, ir23_k0, ir23_o0, ir23_r0, z2, z3, lz3, xz3, fz4, gz5, z5, lz5, xz5, gz6, hz6, fz6, z7]
    ·try simp only [go_sem, n1, n2, n3, n4, z2, z3, gz5, z5, gz6, hz6] at z7
     all_goals
     obtain rfl := so_some h
     refine ⟨0, fun L hL => ?_⟩
     simp only [go_sem, ir23, E_30_l1, R_30_l1, ir23_b0, ir23_k0, ir23_o0, ir23_r0, z2, z3, lz3, xz3, fz4, gz5, z5, lz5, xz5, gz6, hz6, fz6, z7]
   ·rcases and_f gz6 with gz6a | ⟨gz6a, gz6b⟩
    ·try simp only [go_sem, n1, n2, n3, n4, z2, z3, gz5, z5] at gz6a
     all_goals
     (simp_all)
    ·have gz6an := no_t gz6a
     have gz6ann := no_f gz6an
     try simp only [go_sem, n1, n2, n3, n4, z2, z3, gz5, z5] at gz6ann
     all_goals
     try simp only [go_sem, n1, n2, n3, n4, z2, z3, gz5, z5, gz6ann] at gz6b
     all_goals
     rcases it_some h with ⟨z7, h⟩ | ⟨z7, h⟩
     ·try simp only [go_sem, n1, n2, n3, n4, z2, z3, gz5, z5, gz6ann, gz6b] at z7
      all_goals
      (simp_all)
     ·try simp only [go_sem, n1, n2, n3, n4, z2, z3, gz5, z5, gz6ann, gz6b] at z7
      all_goals
      obtain rfl := so_some h
      refine ⟨0, fun L hL => ?_⟩
      simp only [go_sem, ir23, E_30_l1, R_30_l1, ir23_b0, ir23_k0, ir23_o0, ir23_r0, z2, z3, lz3, xz3, fz4, gz5, z5, lz5, xz5, gz6ann, gz6b, z7]
  ·rcases and_f gz5 with gz5a | ⟨gz5a, gz5b⟩
   ·have gz5an := no_f gz5a
    have gz5ann := no_t gz5an
    try simp only [go_sem, n1, n2, n3, n4, z2, z3] at gz5ann
    all_goals
    obtain ⟨z6, h⟩ := ck_some h
    rcases it_some h with ⟨z7, h⟩ | ⟨z7, h⟩
    ·try simp only [go_sem, n1, n2, n3, n4, z2, z3, gz5ann] at z7
     all_goals
     obtain rfl := so_some h
     refine ⟨0, fun L hL => ?_⟩
     simp only [go_sem, ir23, E_30_l1, R_30_l1, ir23_b0, ir23_k0, ir23_o0, ir23_r0, z2, z3, lz3, xz3, fz4, gz5ann, z7]
    ·try simp only [go_sem, n1, n2, n3, n4, z2, z3, gz5ann] at z7
     all_goals
     (simp_all)
   ·have gz5an := no_t gz5a
    have gz5ann := no_f gz5an
    try simp only [go_sem, n1, n2, n3, n4, z2, z3] at gz5ann
    all_goals
    try simp only [go_sem, n1, n2, n3, n4, z2, z3, gz5ann] at gz5b
    all_goals
    obtain ⟨z6, h⟩ := ck_some h
    rcases it_some h with ⟨z7, h⟩ | ⟨z7, h⟩
    ·try simp only [go_sem, n1, n2, n3, n4, z2, z3, gz5ann, gz5b] at z7
     all_goals
     (simp_all)
    ·try simp only [go_sem, n1, n2, n3, n4, z2, z3, gz5ann, gz5b] at z7
     all_goals
     obtain rfl := so_some h
     refine ⟨0, fun L hL => ?_⟩
     simp only [go_sem, ir23, E_30_l1, R_30_l1, ir23_b0, ir23_k0, ir23_o0, ir23_r0, z2, z3, lz3, xz3, fz4, gz5ann, gz5b, z7]
 ·try simp only [go_sem, n1, n2, n3, n4] at z2
  all_goals
  obtain rfl := so_some h
  refine ⟨0, fun L hL => ?_⟩
  simp only [go_sem, ir23, E_30_l1, R_30_l1, ir23_b0, ir23_k0, ir23_o0, ir23_r0, z2]

theorem Fs_30 {list : List Estimate} {y_ : Bool} (h : impl_ValidEstimates list = some y_) : c_30.F [.sl 5 (List.map Estimate_av list)] = ⟨true, .bool y_, [.any]⟩ := by
 refine mkF_E rfl ?_
 dsimp only [impl_ValidEstimates] at h
 rcases it_some h with ⟨z1, h⟩ | ⟨z1, h⟩
 ·try simp only [go_sem, n1, n2, n3, n4] at z1
  all_goals
  obtain rfl := so_some h
  refine ⟨0, fun L hL => ?_⟩
  simp only [go_sem, ir23, E_30_l1, R_30_l1, ir23_k0, ir23_o0, ir23_r0, z1]
 ·try simp only [go_sem, n1, n2, n3, n4] at z1
  all_goals
  obtain ⟨y_8, z8, h⟩ := bd_some h
  obtain ⟨Lz8, ez8⟩ := impl_ValidEstimates_l1_ex z8
  rcases y_8 with y_8a | y_8b
  ·dsimp only at h
   obtain rfl := so_some h
   refine ⟨Lz8, fun L hL => ?_⟩
   have ez8 := ez8 L (by omega)
   try simp only [go_sem, E_30_l1, R_30_l1, ir23_k0, ir23_o0, ir23_r0, z1] at ez8
   simp only [go_sem, ir23, E_30_l1, R_30_l1, ir23_k0, ir23_o0, ir23_r0, z1, ez8]
  ·dsimp only at h
   obtain rfl := so_some h
   refine ⟨Lz8, fun L hL => ?_⟩
   have ez8 := ez8 L (by omega)
   try simp only [go_sem, E_30_l1, R_30_l1, ir23_k0, ir23_o0, ir23_r0, z1] at ez8
   simp only [go_sem, ir23, E_30_l1, R_30_l1, ir23_k0, ir23_o0, ir23_r0, z1, ez8]


def ir41_v : List Nat := [0, 1, 2]
def ir41 : AFn := ⟨1, 3, .seq (.region false [ VO 1 1 (.box (.v 0)), VO 2 2 (.mov (.c (.str [])))]) (.seq (.region false [ PO 3 (.fldAddr 1 (.v 1)), PO 4 (.load false 1 (.s 0)), VS 2 2 0]) (.ret)), [.t 2]⟩
noncomputable def t_31 : List (Nat × Ctr) := []
noncomputable def c_31 : Ctr := mkF t_31 ir41 [.bor]
theorem s_31 : Sound Tryz.prog 41 c_31 := mkF_sound _ rfl snd_nil (by kernel_rfl : chkFn Tryz.prog 41 ir41 ir41_v = true)
theorem M_31 : c_31.modes = [.bor] := rfl
theorem Fl_31 : c_31.flat = true := rfl
attribute [go_sem] M_31 Fl_31
theorem Fs_31 {e_ : Estimate} {y_ : (List UInt8)} (h : impl_starOf e_ = some y_) : c_31.F [Estimate_av e_] = ⟨true, .str y_, [.any]⟩ := by
 refine mkF_E rfl ?_
 dsimp only [impl_starOf] at h
 obtain rfl := so_some h
 refine ⟨0, fun L hL => ?_⟩
 simp only [go_sem, ir41]


theorem s_hSort : Sound Tryz.prog 75 c_hSort := hSort_is

theorem s_hCompact : Sound Tryz.prog 76 c_hCompact := hCompact_is

def ir40_b0 : IR := .seq (.region false [ VO 8 12 (.bin false .lss (.v 7) (.v 6))]) (.seq (.cond (.v 8) (.skip) (.exit 0)) (.seq (.block 1 (.seq (.region false [ PO 13 (.ixAddr 5 (.v 5) (.v 7)), PO 14 (.load true 5 (.s 0)), VO 4 7 (.alloc (.agg [.int .i64 (0), .str [], .str [], .int .i64 (0), .bool false])), ⟨.no, 0, none, .store 5 (.v 4) (.s 0)⟩]) (.region false [ PM 15 3, PM 16 1, PO 17 (.load true 5 (.v 4)), PO 18 (.callv (.s 1) [(.s 0)]), PO 19 (.mkSl 1 (.str []) 1 [(0, (.s 0))]), PO 20 (.app 1 16 (.str []) (.s 4) (.s 0)), VS 3 5 0]))) (.region false [ PO 21 (.bin false .add (.v 7) (I6 1)),
 VS 7 11 0])))
def ir40_k0 : List Bool := [false, true, false, true, false, true, true, true, false]
def ir40_o0 : List Bool := [false, false, false, true, false, false, false, false, false]
def ir40_r0 : List Bool := [false, false, true, false, false, false, false, false, false]
def ir40_v : List Nat := [0, 1, 4, 5, 7, 9, 10, 11, 12]
def ir40 : AFn := ⟨2, 9, .seq (.region false [ VO 2 4 (.newnil 1)]) (.seq (.region false [ PO 8 (.mkSl 1 (.str []) 0 []), VS 3 5 0]) (.seq (.seq (.region false [ VO 5 9 (.mov (.v 0)), VO 6 10 (.len false (.v 5)), VO 7 11 (.mov (I6 0))]) (.block 0 (.loop ir40_k0 ir40_o0 ir40_r0 ir40_b0))) (.seq (.region false [ PM 22 3, PO 23 (.call 75 [(.s 0)])]) (.seq (.region false [ PM 24 3, PO 25 (.call 76 [(.s 0)]), VS 2 4 0]) (.ret))))), [.t 2]⟩
noncomputable def t_34 : List (Nat × Ctr) := [(41, c_31), (75, c_hSort), (76, c_hCompact)]
theorem lk_34_41 : look t_34 41 = some c_31 := rfl
theorem lk_34_75 : look t_34 75 = some c_hSort := rfl
theorem lk_34_76 : look t_34 76 = some c_hCompact := rfl
noncomputable def c_34 : Ctr := mkF t_34 ir40 [.bor, .bor]
theorem s_34 : Sound Tryz.prog 40 c_34 := mkF_sound _ rfl (snd_cons s_31 (snd_cons s_hSort (snd_cons s_hCompact snd_nil))) (by kernel_rfl : chkFn Tryz.prog 40 ir40 ir40_v = true)
theorem M_34 : c_34.modes = [.bor, .bor] := rfl
theorem Fl_34 : c_34.flat = true := rfl
attribute [go_sem] M_34 Fl_34
attribute [go_sem] lk_34_41 lk_34_75 lk_34_76
def E_34_l1 (t9 : List Estimate) (t10 : Int) : ((List (List UInt8)) × Int) → St
 | (out, t11) => ⟨[.any, .fn (.func 41) [] [], .any, .own 3200000, .any, .sl 5 (List.map Estimate_av t9), .int .i64 t10, .int .i64 t11, .any], [], [(3200000, ⟨1, List.map AV.str out⟩)], true⟩
def R_34_l1 (t9 : List Estimate) (t10 : Int) (y : (List (List UInt8))) : Res := (.exit 0, ⟨[.any, .any, .any, .own 3200000, .any, .any, .any, .any, .any], [], [(3200000, ⟨1, List.map AV.str y⟩)], true⟩)
theorem impl_namesOf__impl_starOf_l1_ex {t9 : List Estimate} {t10 : Int} {sgm_ : (List (List UInt8)) × Int} {rho_ : (List (List UInt8))} (h : whileE (impl_namesOf__impl_starOf_l1 t9 t10) sgm_ = some rho_) : ∃ L0, ∀ L, L0 ≤ L → iter (exec (look t_34) L ir40_b0) ir40_k0 ir40_o0 ir40_r0 L (E_34_l1 t9 t10 sgm_) = R_34_l1 t9 t10 rho_ := by
 refine loop_ex (E := E_34_l1 t9 t10) (R := R_34_l1 t9 t10) (fun y => by first | (intro c; cases c) | (rcases y with y | y <;> (intro c; cases c)) | (rcases y with y | y | y <;> (intro c; cases c))) ?_ h
 clear h
 rintro ⟨out, t11⟩ o_ h
 dsimp only [impl_namesOf__impl_starOf_l1] at h
 rcases it_some h with ⟨z1, h⟩ | ⟨z1, h⟩
 ·try simp only [go_sem, n1, n2, n3, n4] at z1
  all_goals
  obtain ⟨z2, h⟩ := ck_some h
  have lz2 := ix_lt z2
  have xz2 := getD_mapD Estimate_av t9 lz2
  try simp only [go_sem] at lz2
  try simp only [go_sem] at xz2
  try simp only [go_sem, n1, n2, n3, n4, z1] at z2
  all_goals
  obtain ⟨y_3, z3, h⟩ := bd_some h
  have fz3 := Fs_31 z3
  try simp only [go_sem, z1, z2] at fz3
  obtain ⟨z4, h⟩ := ck_some h
  try simp only [go_sem, n1, n2, n3, n4, z1, z2] at z4
  all_goals
  obtain rfl := so_some h
  refine ⟨0, fun L hL => ?_⟩
  simp only [go_sem, ir40, E_34_l1, R_34_l1, ir40_b0, ir40_k0, ir40_o0, ir40_r0, z1, z2, lz2, xz2, fz3, z4]
 ·try simp only [go_sem, n1, n2, n3, n4] at z1
  all_goals
  obtain rfl := so_some h
  refine ⟨0, fun L hL => ?_⟩
  simp only [go_sem, ir40, E_34_l1, R_34_l1, ir40_b0, ir40_k0, ir40_o0, ir40_r0, z1]

theorem Fs_34 {list : List Estimate} {y_ : (List (List UInt8))} (h : impl_namesOf__impl_starOf list = some y_) : c_34.F [.sl 5 (List.map Estimate_av list), .fn (.func 41) [] []] = ⟨true, .fresh 1 (List.map AV.str y_), [.any, .any]⟩ := by
 refine mkF_E (by simp only [flatA, flatB, flat1, List.all_cons, List.all_nil, Bool.and_self, flatE_map (f := AV.str) (fun _ => rfl)]) ?_
 dsimp only [impl_namesOf__impl_starOf] at h
 obtain ⟨y_5, z5, h⟩ := bd_some h
 obtain ⟨Lz5, ez5⟩ := impl_namesOf__impl_starOf_l1_ex z5
 obtain ⟨y_6, z6, h⟩ := bd_some h
 have fz6 := Fs_hSort z6
 try simp only [go_sem] at fz6
 obtain ⟨y_7, z7, h⟩ := bd_some h
 have fz7 := Fs_hCompact z7
 try simp only [go_sem] at fz7
 obtain rfl := so_some h
 refine ⟨Lz5, fun L hL => ?_⟩
 have ez5 := ez5 L (by omega)
 try simp only [go_sem, E_34_l1, R_34_l1, ir40_k0, ir40_o0, ir40_r0] at ez5
 simp only [go_sem, ir40, E_34_l1, R_34_l1, ir40_k0, ir40_o0, ir40_r0, fz6, fz7, ez5]


def ir15_v : List Nat := [0, 2, 3]
def ir15 : AFn := ⟨1, 3, .seq (.region false [ VO 1 2 (.newnil 1), VO 2 3 (.mov (I6 0))]) (.seq (.test false [ PM 4 0, PO 5 (.call 23 [(.s 0)]), PO 6 (.un .not (.s 0))] (.s 0) (.seq (.region false [ VO 1 2 (.newnil 1), VO 2 3 (.mov (I6 1))]) (.ret)) (.skip)) (.seq (.region false [ PM 7 0, PO 8 (.call 40 [(.s 0), (.c (.fn (.func 41) [] []))]), VS 1 2 0, VO 2 3 (.mov (I6 0))]) (.ret))), [.t 1, .t 2]⟩
noncomputable def t_35 : List (Nat × Ctr) := [(23, c_30), (40, c_34)]
theorem lk_35_23 : look t_35 23 = some c_30 := rfl
theorem lk_35_40 : look t_35 40 = some c_34 := rfl
noncomputable def c_35 : Ctr := mkF t_35 ir15 [.bor]
theorem s_35 : Sound Tryz.prog 15 c_35 := mkF_sound _ rfl (snd_cons s_30 (snd_cons s_34 snd_nil)) (by kernel_rfl : chkFn Tryz.prog 15 ir15 ir15_v = true)
theorem M_35 : c_35.modes = [.bor] := rfl
theorem Fl_35 : c_35.flat = true := rfl
attribute [go_sem] M_35 Fl_35
attribute [go_sem] lk_35_23 lk_35_40
theorem Fs_35 {list : List Estimate} {y_ : (List (List UInt8)) × Int} (h : impl_StarsIn list = some y_) : c_35.F [.sl 5 (List.map Estimate_av list)] = ⟨true, .tup [.fresh 1 (List.map AV.str y_.1), .int .i64 y_.2], [.any]⟩ := by
 refine mkF_E (by simp only [flatA, flatB, flat1, List.all_cons, List.all_nil, Bool.and_self, flatE_map (f := AV.str) (fun _ => rfl)]) ?_
 dsimp only [impl_StarsIn] at h
 obtain ⟨y_1, z1, h⟩ := bd_some h
 have fz1 := Fs_30 z1
 try simp only [go_sem] at fz1
 rcases it_some h with ⟨z2, h⟩ | ⟨z2, h⟩
 ·try simp only [go_sem, n1, n2, n3, n4] at z2
  all_goals
  obtain rfl := so_some h
  refine ⟨0, fun L hL => ?_⟩
  simp only [go_sem, ir15, fz1, z2]
 ·try simp only [go_sem, n1, n2, n3, n4] at z2
  all_goals
  obtain ⟨y_3, z3, h⟩ := bd_some h
  have fz3 := Fs_34 z3
  try simp only [go_sem, z2] at fz3
  obtain rfl := so_some h
  refine ⟨0, fun L hL => ?_⟩
  simp only [go_sem, ir15, fz1, z2, fz3]


def ir47_v : List Nat := [0, 2]
def ir47 : AFn := ⟨1, 2, .seq (.region false [ VO 1 2 (.mov (I6 0))]) (.seq (.region false [ PM 3 0, PO 4 (.len false (.s 0)), VS 1 2 0]) (.ret)), [.t 1]⟩
noncomputable def t_36 : List (Nat × Ctr) := []
noncomputable def c_36 : Ctr := mkF t_36 ir47 [.bor]
theorem s_36 : Sound Tryz.prog 47 c_36 := mkF_sound _ rfl snd_nil (by kernel_rfl : chkFn Tryz.prog 47 ir47 ir47_v = true)
theorem M_36 : c_36.modes = [.bor] := rfl
theorem Fl_36 : c_36.flat = true := rfl
attribute [go_sem] M_36 Fl_36
theorem Fs_36 {list : List Estimate} {y_ : Int} (h : impl_count_impl_Estimate list = some y_) : c_36.F [.sl 5 (List.map Estimate_av list)] = ⟨true, .int .i64 y_, [.any]⟩ := by
 refine mkF_E rfl ?_
 dsimp only [impl_count_impl_Estimate] at h
 obtain rfl := so_some h
 refine ⟨0, fun L hL => ?_⟩
 simp only [go_sem, ir47]


theorem s_hFmt : Sound Tryz.prog 96 c_hFmt := hFmt_is

def ir80_v : List Nat := [0, 1, 4]
def ir80 : AFn := ⟨2, 3, .seq (.region false [ VO 2 4 (.mov (.c (.str [])))]) (.seq (.region false [ PM 5 0, PM 6 1, PO 7 (.call 96 [(.s 1), (.s 0)]), VS 2 4 0]) (.ret)), [.t 2]⟩
noncomputable def t_38 : List (Nat × Ctr) := [(96, c_hFmt)]
theorem lk_38_96 : look t_38 96 = some c_hFmt := rfl
noncomputable def c_38 : Ctr := mkF t_38 ir80 [.bor, .bor]
theorem s_38 : Sound Tryz.prog 80 c_38 := mkF_sound _ rfl (snd_cons s_hFmt snd_nil) (by kernel_rfl : chkFn Tryz.prog 80 ir80 ir80_v = true)
theorem M_38 : c_38.modes = [.bor, .bor] := rfl
theorem Fl_38 : c_38.flat = true := rfl
attribute [go_sem] M_38 Fl_38
attribute [go_sem] lk_38_96
theorem Fs_38 {i : Int} {base : Int} {y_ : (List UInt8)} (h : strconv_FormatInt i base = some y_) : c_38.F [.int .i64 i, .int .i64 base] = ⟨true, .str y_, [.any, .any]⟩ := by
 refine mkF_E rfl ?_
 dsimp only [strconv_FormatInt] at h
 obtain ⟨y_1, z1, h⟩ := bd_some h
 have fz1 := Fs_hFmt z1
 try simp only [go_sem] at fz1
 obtain rfl := so_some h
 refine ⟨0, fun L hL => ?_⟩
 simp only [go_sem, ir80, fz1]


def ir46_v : List Nat := [0, 2]
def ir46 : AFn := ⟨1, 2, .seq (.region false [ VO 1 2 (.mov (.c (.str [])))]) (.seq (.region false [ PM 3 0, PO 4 (.call 80 [(.s 0), (I6 10)]), VS 1 2 0]) (.ret)), [.t 1]⟩
noncomputable def t_39 : List (Nat × Ctr) := [(80, c_38)]
theorem lk_39_80 : look t_39 80 = some c_38 := rfl
noncomputable def c_39 : Ctr := mkF t_39 ir46 [.bor]
theorem s_39 : Sound Tryz.prog 46 c_39 := mkF_sound _ rfl (snd_cons s_38 snd_nil) (by kernel_rfl : chkFn Tryz.prog 46 ir46 ir46_v = true)
theorem M_39 : c_39.modes = [.bor] := rfl
theorem Fl_39 : c_39.flat = true := rfl
attribute [go_sem] M_39 Fl_39
attribute [go_sem] lk_39_80
theorem Fs_39 {n : Int} {y_ : (List UInt8)} (h : impl_Decimal n = some y_) : c_39.F [.int .i64 n] = ⟨true, .str y_, [.any]⟩ := by
 refine mkF_E rfl ?_
 dsimp only [impl_Decimal] at h
 obtain ⟨y_1, z1, h⟩ := bd_some h
 have fz1 := Fs_38 z1
 try simp only [go_sem] at fz1
 obtain rfl := so_some h
 refine ⟨0, fun L hL => ?_⟩
 simp only [go_sem, ir46, fz1]


def ir81_v : List Nat := [0, 2]
def ir81 : AFn := ⟨1, 2, .seq (.region false [ VO 1 2 (.mov (I6 0))]) (.seq (.test false [ PM 3 0, PO 4 (.bin false .lss (.s 0) (I6 0))] (.s 0) (.seq (.region false [ PM 5 0, PO 6 (.un .neg (.s 0)), VS 1 2 0]) (.ret)) (.skip)) (.seq (.region false [ PM 7 0, VS 1 2 0]) (.ret))), [.t 1]⟩
noncomputable def t_40 : List (Nat × Ctr) := []
noncomputable def c_40 : Ctr := mkF t_40 ir81 [.bor]
theorem s_40 : Sound Tryz.prog 81 c_40 := mkF_sound _ rfl snd_nil (by kernel_rfl : chkFn Tryz.prog 81 ir81 ir81_v = true)
theorem M_40 : c_40.modes = [.bor] := rfl
theorem Fl_40 : c_40.flat = true := rfl
attribute [go_sem] M_40 Fl_40
theorem Fs_40 {n : Int} {y_ : Int} (h : impl_abs n = some y_) : c_40.F [.int .i64 n] = ⟨true, .int .i64 y_, [.any]⟩ := by
 refine mkF_E rfl ?_
 dsimp only [impl_abs] at h
 rcases it_some h with ⟨z1, h⟩ | ⟨z1, h⟩
 ·try simp only [go_sem, n1, n2, n3, n4] at z1
  all_goals
  obtain rfl := so_some h
  refine ⟨0, fun L hL => ?_⟩
  simp only [go_sem, ir81, z1]
 ·try simp only [go_sem, n1, n2, n3, n4] at z1
  all_goals
  obtain rfl := so_some h
  refine ⟨0, fun L hL => ?_⟩
  simp only [go_sem, ir81, z1]


def ir82_b0 : IR := .seq (.test false [ PM 8 3, PO 9 (.len true (.s 0)), PM 10 1, PO 11 (.bin false .lss (.s 1) (.s 0))] (.s 0) (.skip) (.exit 0)) (.block 1 (.region false [ PM 12 3, PO 13 (.bin false .add (.c (.str [48])) (.s 0)), VS 3 5 0]))
def ir82_k0 : List Bool := [false, true, false, true]
def ir82_o0 : List Bool := [false, false, false, true]
def ir82_r0 : List Bool := [false, false, true, false]
def ir82_v : List Nat := [0, 1, 4, 5]
def ir82 : AFn := ⟨2, 4, .seq (.region false [ VO 2 4 (.mov (.c (.str [])))]) (.seq (.region false [ PM 6 0, PO 7 (.call 46 [(.s 0)]), VS 3 5 0]) (.seq (.block 0 (.loop ir82_k0 ir82_o0 ir82_r0 ir82_b0)) (.seq (.region false [ PM 14 3, VS 2 4 0]) (.ret)))), [.t 2]⟩
noncomputable def t_41 : List (Nat × Ctr) := [(46, c_39)]
theorem lk_41_46 : look t_41 46 = some c_39 := rfl
noncomputable def c_41 : Ctr := mkF t_41 ir82 [.bor, .bor]
theorem s_41 : Sound Tryz.prog 82 c_41 := mkF_sound _ rfl (snd_cons s_39 snd_nil) (by kernel_rfl : chkFn Tryz.prog 82 ir82 ir82_v = true)
theorem M_41 : c_41.modes = [.bor, .bor] := rfl
theorem Fl_41 : c_41.flat = true := rfl
attribute [go_sem] M_41 Fl_41
attribute [go_sem] lk_41_46
def E_41_l1 (digits : Int) : (List UInt8) → St
 | s_ => ⟨[.any, .int .i64 digits, .any, .str s_], [], [], true⟩
def R_41_l1 (digits : Int) (y : (List UInt8)) : Res := (.exit 0, ⟨[.any, .any, .any, .str y], [], [], true⟩)
theorem impl_padded_l1_ex {digits : Int} {sgm_ : (List UInt8)} {rho_ : (List UInt8)} (h : whileE (impl_padded_l1 digits) sgm_ = some rho_) : ∃ L0, ∀ L, L0 ≤ L → iter (exec (look t_41) L ir82_b0) ir82_k0 ir82_o0 ir82_r0 L (E_41_l1 digits sgm_) = R_41_l1 digits rho_ := by
 refine loop_ex (E := E_41_l1 digits) (R := R_41_l1 digits) (fun y => by first | (intro c; cases c) | (rcases y with y | y <;> (intro c; cases c)) | (rcases y with y | y | y <;> (intro c; cases c))) ?_ h
 clear h
 intro s_ o_ h
 dsimp only [impl_padded_l1] at h
 rcases it_some h with ⟨z2, h⟩ | ⟨z2, h⟩
 ·try simp only [go_sem, n1, n2, n3, n4] at z2
  all_goals
  obtain ⟨z3, h⟩ := ck_some h
  try simp only [go_sem, n1, n2, n3, n4, z2] at z3
  all_goals
  obtain rfl := so_some h
  refine ⟨0, fun L hL => ?_⟩
  simp only [go_sem, ir82, E_41_l1, R_41_l1, ir82_b0, ir82_k0, ir82_o0, ir82_r0, z2, z3]
 ·try simp only [go_sem, n1, n2, n3, n4] at z2
  all_goals
  obtain rfl := so_some h
  refine ⟨0, fun L hL => ?_⟩
  simp only [go_sem, ir82, E_41_l1, R_41_l1, ir82_b0, ir82_k0, ir82_o0, ir82_r0, z2]

theorem Fs_41 {n : Int} {digits : Int} {y_ : (List UInt8)} (h : impl_padded n digits = some y_) : c_41.F [.int .i64 n, .int .i64 digits] = ⟨true, .str y_, [.any, .any]⟩ := by
 refine mkF_E rfl ?_
 dsimp only [impl_padded] at h
 obtain ⟨y_1, z1, h⟩ := bd_some h
 have fz1 := Fs_39 z1
 try simp only [go_sem] at fz1
 obtain ⟨y_4, z4, h⟩ := bd_some h
 obtain ⟨Lz4, ez4⟩ := impl_padded_l1_ex z4
 obtain rfl := so_some h
 refine ⟨Lz4, fun L hL => ?_⟩
 have ez4 := ez4 L (by omega)
 try simp only [go_sem, E_41_l1, R_41_l1, ir82_k0, ir82_o0, ir82_r0] at ez4
 simp only [go_sem, ir82, E_41_l1, R_41_l1, ir82_k0, ir82_o0, ir82_r0, fz1, ez4]


def ir48_v : List Nat := [0, 2, 3]
def ir48 : AFn := ⟨1, 3, .seq (.region false [ VO 1 2 (.mov (.c (.str [])))]) (.seq (.test false [ PM 4 0, PO 5 (.call 63 [(.s 0)]), PO 6 (.un .not (.s 0))] (.s 0) (.seq (.region false [ VO 1 2 (.mov (.c (.str [])))]) (.ret)) (.skip)) (.seq (.region false [ VO 2 3 (.mov (.c (.str [])))]) (.seq (.test false [ PM 7 0, PO 8 (.bin false .lss (.s 0) (I6 0))] (.s 0) (.region false [ VO 2 3 (.mov (.c (.str [45])))]) (.skip)) (.seq (.region false [ PM 9 2, PM 10 0, PO 11 (.call 81 [(.s 0)]), PO 12 (.bin false .quo (.s 0) (I6 1000)), PO 13 (.call 46 [(.s 0)]), PO 14 (.bin false .add (.s 4) (.s 0)), PO
 15 (.bin false .add (.s 0) (.c (.str [46]))), PM 16 0, PO 17 (.call 81 [(.s 0)]), PO 18 (.bin false .rem (.s 0) (I6 1000)), PO 19 (.call 82 [(.s 0), (I6 3)]), PO 20 (.bin false .add (.s 4) (.s 0)), VS 1 2 0]) (.ret))))), [.t 1]⟩
noncomputable def t_42 : List (Nat × Ctr) := [(63, c_21), (81, c_40), (46, c_39), (82, c_41)]
theorem lk_42_63 : look t_42 63 = some c_21 := rfl
theorem lk_42_81 : look t_42 81 = some c_40 := rfl
theorem lk_42_46 : look t_42 46 = some c_39 := rfl
theorem lk_42_82 : look t_42 82 = some c_41 := rfl
noncomputable def c_42 : Ctr := mkF t_42 ir48 [.bor]
theorem s_42 : Sound Tryz.prog 48 c_42 := mkF_sound _ rfl (snd_cons s_21 (snd_cons s_40 (snd_cons s_39 (snd_cons s_41 snd_nil)))) (by kernel_rfl : chkFn Tryz.prog 48 ir48 ir48_v = true)
theorem M_42 : c_42.modes = [.bor] := rfl
theorem Fl_42 : c_42.flat = true := rfl
attribute [go_sem] M_42 Fl_42
attribute [go_sem] lk_42_63 lk_42_81 lk_42_46 lk_42_82
theorem Fs_42 {m : Int} {y_ : (List UInt8)} (h : impl_MagText m = some y_) : c_42.F [.int .i64 m] = ⟨true, .str y_, [.any]⟩ := by
 refine mkF_E rfl ?_
 dsimp only [impl_MagText] at h
 obtain ⟨y_1, z1, h⟩ := bd_some h
 have fz1 := Fs_21 z1
 try simp only [go_sem] at fz1
 rcases it_some h with ⟨z2, h⟩ | ⟨z2, h⟩
 ·try simp only [go_sem, n1, n2, n3, n4] at z2
  all_goals
  obtain rfl := so_some h
  refine ⟨0, fun L hL => ?_⟩
  simp only [go_sem, ir48, fz1, z2]
 ·try simp only [go_sem, n1, n2, n3, n4] at z2
  all_goals
  rcases it_some h with ⟨z3, h⟩ | ⟨z3, h⟩
  ·try simp only [go_sem, n1, n2, n3, n4, z2] at z3
   all_goals
   obtain ⟨y_4, z4, h⟩ := bd_some h
   have fz4 := Fs_40 z4
   try simp only [go_sem, z2, z3] at fz4
   obtain ⟨z5, h⟩ := ck_some h
   try simp only [go_sem, n1, n2, n3, n4, z2, z3] at z5
   all_goals
   obtain ⟨y_6, z6, h⟩ := bd_some h
   have fz6 := Fs_39 z6
   try simp only [go_sem, z2, z3, z5] at fz6
   obtain ⟨z7, h⟩ := ck_some h
   try simp only [go_sem, n1, n2, n3, n4, z2, z3, z5] at z7
   all_goals
   obtain ⟨z8, h⟩ := ck_some h
   try simp only [go_sem, n1, n2, n3, n4, z2, z3, z5, z7] at z8
   all_goals
   obtain ⟨y_9, z9, h⟩ := bd_some h
   have fz9 := Fs_41 z9
   try simp only [go_sem, z2, z3, z5, z7, z8] at fz9
   obtain ⟨z10, h⟩ := ck_some h
   try simp only [go_sem, n1, n2, n3, n4, z2, z3, z5, z7, z8] at z10
   all_goals
   obtain rfl := so_some h
   refine ⟨0, fun L hL => ?_⟩
   simp only [go_sem, ir48, fz1, z2, z3, fz4, z5, fz6, z7, z8, fz9, z10]
  ·try simp only [go_sem, n1, n2, n3, n4, z2] at z3
   all_goals
   obtain ⟨y_11, z11, h⟩ := bd_some h
   have fz11 := Fs_40 z11
   try simp only [go_sem, z2, z3] at fz11
   obtain ⟨z12, h⟩ := ck_some h
   try simp only [go_sem, n1, n2, n3, n4, z2, z3] at z12
   all_goals
   obtain ⟨y_13, z13, h⟩ := bd_some h
   have fz13 := Fs_39 z13
   try simp only [go_sem, z2, z3, z12] at fz13
   obtain ⟨z14, h⟩ := ck_some h
   try simp only [go_sem, n1, n2, n3, n4, z2, z3, z12] at z14
   all_goals
   obtain ⟨z15, h⟩ := ck_some h
   try simp only [go_sem, n1, n2, n3, n4, z2, z3, z12, z14] at z15
   all_goals
   obtain ⟨y_16, z16, h⟩ := bd_some h
   have fz16 := Fs_41 z16
   try simp only [go_sem, z2, z3, z12, z14, z15] at fz16
   obtain ⟨z17, h⟩ := ck_some h
   try simp only [go_sem, n1, n2, n3, n4, z2, z3, z12, z14, z15] at z17
   all_goals
   obtain rfl := so_some h
   refine ⟨0, fun L hL => ?_⟩
   simp only [go_sem, ir48, fz1, z2, z3, fz11, z12, fz13, z14, z15, fz16, z17]


def ir45_v : List Nat := [0, 1, 2, 3]
def ir45 : AFn := ⟨2, 4, .seq (.region false [ VO 2 2 (.box (.v 0)), VO 3 3 (.mov (.c (.bool false)))]) (.seq (.region false [ PO 4 (.fldAddr 1 (.v 2)), PO 5 (.load false 1 (.s 0)), PO 6 (.load false 1 (.v 1)), PO 7 (.bin false .eql (.s 1) (.s 0)), VS 3 3 0]) (.ret)), [.t 3]⟩
noncomputable def t_43 : List (Nat × Ctr) := []
noncomputable def c_43 : Ctr := mkF t_43 ir45 [.bor, .bor]
theorem s_43 : Sound Tryz.prog 45 c_43 := mkF_sound _ rfl snd_nil (by kernel_rfl : chkFn Tryz.prog 45 ir45 ir45_v = true)
theorem M_43 : c_43.modes = [.bor, .bor] := rfl
theorem Fl_43 : c_43.flat = true := rfl
attribute [go_sem] M_43 Fl_43
theorem Fs_43 {e_ : Estimate} {t1 : List UInt8} {y_ : Bool} (h : impl_starRow_c1 e_ t1 = some y_) : c_43.F [Estimate_av e_, .ptr 1 [.str t1] 0 0] = ⟨true, .bool y_, [.any, .any]⟩ := by
 refine mkF_E rfl ?_
 dsimp only [impl_starRow_c1] at h
 obtain rfl := so_some h
 refine ⟨0, fun L hL => ?_⟩
 simp only [go_sem, ir45]


def ir44_b0 : IR := .seq (.region false [ VO 8 12 (.bin false .lss (.v 7) (.v 6))]) (.seq (.cond (.v 8) (.skip) (.exit 0)) (.seq (.block 1 (.seq (.region false [ PO 13 (.ixAddr 5 (.v 5) (.v 7)), PO 14 (.load true 5 (.s 0)), VO 4 7 (.alloc (.agg [.int .i64 (0), .str [], .str [], .int .i64 (0), .bool false])), ⟨.no, 0, none, .store 5 (.v 4) (.s 0)⟩]) (.test false [ PM 15 1, PO 16 (.load true 5 (.v 4)), PO 17 (.callv (.s 1) [(.s 0)])] (.s 0) (.region false [ PM 18 3, PO 19 (.load true 5 (.v 4)), PO 20 (.mkSl 5 (.agg [.int .i64 (0), .str [], .str [], .int .i64 (0), .bool false]) 1 [(0, (.s 0))]),
 PO 21 (.app 5 56 (.agg [.int .i64 (0), .str [], .str [], .int .i64 (0), .bool false]) (.s 2) (.s 0)), VS 3 5 0]) (.skip)))) (.region false [ PO 22 (.bin false .add (.v 7) (I6 1)), VS 7 11 0])))
def ir44_k0 : List Bool := [false, true, false, true, false, true, true, true, false]
def ir44_o0 : List Bool := [false, false, false, true, false, false, false, false, false]
def ir44_r0 : List Bool := [false, false, true, false, false, false, false, false, false]
def ir44_v : List Nat := [0, 1, 4, 5, 7, 9, 10, 11, 12]
def ir44 : AFn := ⟨2, 9, .seq (.region false [ VO 2 4 (.newnil 5)]) (.seq (.region false [ PO 8 (.mkSl 5 (.agg [.int .i64 (0), .str [], .str [], .int .i64 (0), .bool false]) 0 []), VS 3 5 0]) (.seq (.seq (.region false [ VO 5 9 (.mov (.v 0)), VO 6 10 (.len false (.v 5)), VO 7 11 (.mov (I6 0))]) (.block 0 (.loop ir44_k0 ir44_o0 ir44_r0 ir44_b0))) (.seq (.region false [ PM 23 3, VS 2 4 0]) (.ret)))), [.t 2]⟩
noncomputable def t_44 : List (Nat × Ctr) := [(45, c_43)]
theorem lk_44_45 : look t_44 45 = some c_43 := rfl
noncomputable def c_44 : Ctr := mkF t_44 ir44 [.bor, .bor]
theorem s_44 : Sound Tryz.prog 44 c_44 := mkF_sound _ rfl (snd_cons s_43 snd_nil) (by kernel_rfl : chkFn Tryz.prog 44 ir44 ir44_v = true)
theorem M_44 : c_44.modes = [.bor, .bor] := rfl
theorem Fl_44 : c_44.flat = true := rfl
attribute [go_sem] M_44 Fl_44
attribute [go_sem] lk_44_45
def E_44_l1 (c : List UInt8) (t9 : List Estimate) (t10 : Int) : ((List Estimate) × Int) → St
 | (out, t11) => ⟨[.any, .fn (.func 45) [] [.ptr 1 [.str c] 0 0], .any, .own 3200000, .any, .sl 5 (List.map Estimate_av t9), .int .i64 t10, .int .i64 t11, .any], [], [(3200000, ⟨5, List.map Estimate_av out⟩)], true⟩
def R_44_l1 (c : List UInt8) (t9 : List Estimate) (t10 : Int) (y : (List Estimate)) : Res := (.exit 0, ⟨[.any, .any, .any, .own 3200000, .any, .any, .any, .any, .any], [], [(3200000, ⟨5, List.map Estimate_av y⟩)], true⟩)
theorem impl_chosen_impl_Estimate__impl_starRow_c1_l1_ex {c : List UInt8} {t9 : List Estimate} {t10 : Int} {sgm_ : (List Estimate) × Int} {rho_ : (List Estimate)} (h : whileE (impl_chosen_impl_Estimate__impl_starRow_c1_l1 c t9 t10) sgm_ = some rho_) : ∃ L0, ∀ L, L0 ≤ L → iter (exec (look t_44) L ir44_b0) ir44_k0 ir44_o0 ir44_r0 L (E_44_l1 c t9 t10 sgm_) = R_44_l1 c t9 t10 rho_ := by
 refine loop_ex (E := E_44_l1 c t9 t10) (R := R_44_l1 c t9 t10) (fun y => by first | (intro c; cases c) | (rcases y with y | y <;> (intro c; cases c)) | (rcases y with y | y | y <;> (intro c; cases c))) ?_ h
 clear h
 rintro ⟨out, t11⟩ o_ h
 dsimp only [impl_chosen_impl_Estimate__impl_starRow_c1_l1] at h
 rcases it_some h with ⟨z1, h⟩ | ⟨z1, h⟩
 ·try simp only [go_sem, n1, n2, n3, n4] at z1
  all_goals
  obtain ⟨z2, h⟩ := ck_some h
  have lz2 := ix_lt z2
  have xz2 := getD_mapD Estimate_av t9 lz2
  try simp only [go_sem] at lz2
  try simp only [go_sem] at xz2
  try simp only [go_sem, n1, n2, n3, n4, z1] at z2
  all_goals
  obtain ⟨y_3, z3, h⟩ := bd_some h
  have fz3 := Fs_43 z3
  try simp only [go_sem, z1, z2] at fz3
  rcases it_some h with ⟨z4, h⟩ | ⟨z4, h⟩
  ·try simp only [go_sem, n1, n2, n3, n4, z1, z2] at z4
   all_goals
   obtain ⟨z5, h⟩ := ck_some h
   try simp only [go_sem, n1, n2, n3, n4, z1, z2, z4] at z5
   all_goals
   obtain rfl := so_some h
   refine ⟨0, fun L hL => ?_⟩
   simp only [go_sem, ir44, E_44_l1, R_44_l1, ir44_b0, ir44_k0, ir44_o0, ir44_r0, z1, z2, lz2, xz2, fz3, z4, z5]
  ·try simp only [go_sem, n1, n2, n3, n4, z1, z2] at z4
   all_goals
   obtain rfl := so_some h
   refine ⟨0, fun L hL => ?_⟩
   simp only [go_sem, ir44, E_44_l1, R_44_l1, ir44_b0, ir44_k0, ir44_o0, ir44_r0, z1, z2, lz2, xz2, fz3, z4]
 ·try simp only [go_sem, n1, n2, n3, n4] at z1
  all_goals
  obtain rfl := so_some h
  refine ⟨0, fun L hL => ?_⟩
  simp only [go_sem, ir44, E_44_l1, R_44_l1, ir44_b0, ir44_k0, ir44_o0, ir44_r0, z1]

theorem Fs_44 {list : List Estimate} {wanted_c0 : List UInt8} {y_ : (List Estimate)} (h : impl_chosen_impl_Estimate__impl_starRow_c1 list wanted_c0 = some y_) : c_44.F [.sl 5 (List.map Estimate_av list), .fn (.func 45) [] [.ptr 1 [.str wanted_c0] 0 0]] = ⟨true, .fresh 5 (List.map Estimate_av y_), [.any, .any]⟩ := by
 refine mkF_E (by simp only [flatA, flatB, flat1, List.all_cons, List.all_nil, Bool.and_self, flatE_map (f := Estimate_av) (fun _ => rfl)]) ?_
 dsimp only [impl_chosen_impl_Estimate__impl_starRow_c1] at h
 obtain ⟨y_6, z6, h⟩ := bd_some h
 obtain ⟨Lz6, ez6⟩ := impl_chosen_impl_Estimate__impl_starRow_c1_l1_ex z6
 obtain rfl := so_some h
 refine ⟨Lz6, fun L hL => ?_⟩
 have ez6 := ez6 L (by omega)
 try simp only [go_sem, E_44_l1, R_44_l1, ir44_k0, ir44_o0, ir44_r0] at ez6
 simp only [go_sem, ir44, E_44_l1, R_44_l1, ir44_k0, ir44_o0, ir44_r0, ez6]


def ir119_v : List Nat := [0, 1, 2, 4]
def ir119 : AFn := ⟨3, 4, .seq (.region false [ VO 3 4 (.mov (.c (.bool false)))]) (.seq (.region false [ PM 5 0, PO 6 (.load false 1 (.v 1)), PO 7 (.load false 1 (.v 2)), PO 8 (.call 31 [(.s 2), (.s 1), (.s 0)]), PO 9 (.un .not (.s 0)), VS 3 4 0]) (.ret)), [.t 3]⟩
noncomputable def t_45 : List (Nat × Ctr) := [(31, c_18)]
theorem lk_45_31 : look t_45 31 = some c_18 := rfl
noncomputable def c_45 : Ctr := mkF t_45 ir119 [.bor, .bor, .bor]
theorem s_45 : Sound Tryz.prog 119 c_45 := mkF_sound _ rfl (snd_cons s_18 snd_nil) (by kernel_rfl : chkFn Tryz.prog 119 ir119 ir119_v = true)
theorem M_45 : c_45.modes = [.bor, .bor, .bor] := rfl
theorem Fl_45 : c_45.flat = true := rfl
attribute [go_sem] M_45 Fl_45
attribute [go_sem] lk_45_31
theorem Fs_45 {n : Int} {t1 : Int} {t2 : Int} {y_ : Bool} (h : impl_allIn_c1 n t1 t2 = some y_) : c_45.F [.int .i64 n, .ptr 1 [.int .i64 t1] 0 0, .ptr 1 [.int .i64 t2] 0 0] = ⟨true, .bool y_, [.any, .any, .any]⟩ := by
 refine mkF_E rfl ?_
 dsimp only [impl_allIn_c1] at h
 obtain ⟨y_1, z1, h⟩ := bd_some h
 have fz1 := Fs_18 z1
 try simp only [go_sem] at fz1
 obtain rfl := so_some h
 refine ⟨0, fun L hL => ?_⟩
 simp only [go_sem, ir119, fz1]


def ir130_b0 : IR := .seq (.region false [ VO 6 9 (.bin false .lss (.v 5) (.v 4))]) (.seq (.cond (.v 6) (.skip) (.exit 0)) (.seq (.block 1 (.seq (.region false [ PM 10 5, VS 3 5 0]) (.test false [ PM 11 1, PM 12 0, PM 13 3, PO 14 (.ixAddr 1 (.s 1) (.s 0)), PO 15 (.load false 1 (.s 0)), PO 16 (.callv (.s 4) [(.s 0)])] (.s 0) (.seq (.region false [ PM 17 3, VS 2 4 0]) (.ret)) (.skip)))) (.region false [ PO 18 (.bin false .add (.v 5) (I6 1)), VS 5 8 0])))
def ir130_k0 : List Bool := [true, true, false, false, true, true, false]
def ir130_o0 : List Bool := [false, false, false, false, false, false, false]
def ir130_r0 : List Bool := [false, false, true, false, false, false, false]
def ir130_v : List Nat := [0, 1, 4, 5, 7, 8, 9]
def ir130 : AFn := ⟨2, 7, .seq (.region false [ VO 2 4 (.mov (I6 0))]) (.seq (.seq (.region false [ PM 6 0, VO 4 7 (.len false (.s 0)), VO 5 8 (.mov (I6 0))]) (.block 0 (.loop ir130_k0 ir130_o0 ir130_r0 ir130_b0))) (.seq (.region false [ VO 2 4 (.mov (.c (.int .i64 (-1))))]) (.ret))), [.t 2]⟩
noncomputable def t_46 : List (Nat × Ctr) := [(119, c_45)]
theorem lk_46_119 : look t_46 119 = some c_45 := rfl
noncomputable def c_46 : Ctr := mkF t_46 ir130 [.bor, .bor]
theorem s_46 : Sound Tryz.prog 130 c_46 := mkF_sound _ rfl (snd_cons s_45 snd_nil) (by kernel_rfl : chkFn Tryz.prog 130 ir130 ir130_v = true)
theorem M_46 : c_46.modes = [.bor, .bor] := rfl
theorem Fl_46 : c_46.flat = true := rfl
attribute [go_sem] M_46 Fl_46
attribute [go_sem] lk_46_119
def E_46_l1 (s_ : List Int) (c : Int) (c2 : Int) (t7 : Int) : Int → St
 | t8 => ⟨[.sl 1 (List.map (AV.int .i64) s_), .fn (.func 119) [] [.ptr 1 [.int .i64 c] 0 0, .ptr 1 [.int .i64 c2] 0 0], .any, .any, .int .i64 t7, .int .i64 t8, .any], [], [], true⟩
def R_46_l1 (s_ : List Int) (c : Int) (c2 : Int) (t7 : Int) : (Unit ⊕ Int) → Res
 | .inl y => (.exit 0, ⟨[.any, .any, .any, .any, .any, .any, .any], [], [], true⟩)
 | .inr y => (.ret, ⟨[.any, .any, .int .i64 y, .any, .any, .any, .any], [], [], true⟩)
theorem slices_IndexFunc_int64_int64__impl_allIn_c1_l1_ex {s_ : List Int} {c : Int} {c2 : Int} {t7 : Int} {sgm_ : Int} {rho_ : Unit ⊕ Int} (h : whileE (slices_IndexFunc_int64_int64__impl_allIn_c1_l1 s_ c c2 t7) sgm_ = some rho_) : ∃ L0, ∀ L, L0 ≤ L → iter (exec (look t_46) L ir130_b0) ir130_k0 ir130_o0 ir130_r0 L (E_46_l1 s_ c c2 t7 sgm_) = R_46_l1 s_ c c2 t7 rho_ := by
 refine loop_ex (E := E_46_l1 s_ c c2 t7) (R := R_46_l1 s_ c c2 t7) (fun y => by first | (intro c; cases c) | (rcases y with y | y <;> (intro c; cases c)) | (rcases y with y | y | y <;> (intro c; cases c))) ?_ h
 clear h
 intro t8 o_ h
 dsimp only [slices_IndexFunc_int64_int64__impl_allIn_c1_l1] at h
 rcases it_some h with ⟨z1, h⟩ | ⟨z1, h⟩
 ·try simp only [go_sem, n1, n2, n3, n4] at z1
  all_goals
  obtain ⟨z2, h⟩ := ck_some h
  have lz2 := ix_lt z2
  have xz2 := getD_mapD (AV.int .i64) s_ lz2
  try simp only [go_sem] at lz2
  try simp only [go_sem] at xz2
  try simp only [go_sem, n1, n2, n3, n4, z1] at z2
  all_goals
  obtain ⟨y_3, z3, h⟩ := bd_some h
  have fz3 := Fs_45 z3
  try simp only [go_sem, z1, z2] at fz3
  rcases it_some h with ⟨z4, h⟩ | ⟨z4, h⟩
  ·try simp only [go_sem, n1, n2, n3, n4, z1, z2] at z4
   all_goals
   obtain rfl := so_some h
   refine ⟨0, fun L hL => ?_⟩
   simp only [go_sem, ir130, E_46_l1, R_46_l1, ir130_b0, ir130_k0, ir130_o0, ir130_r0, z1, z2, lz2, xz2, fz3, z4]
  ·try simp only [go_sem, n1, n2, n3, n4, z1, z2] at z4
   all_goals
   obtain rfl := so_some h
   refine ⟨0, fun L hL => ?_⟩
   simp only [go_sem, ir130, E_46_l1, R_46_l1, ir130_b0, ir130_k0, ir130_o0, ir130_r0, z1, z2, lz2, xz2, fz3, z4]
 ·try simp only [go_sem, n1, n2, n3, n4] at z1
  all_goals
  obtain rfl := so_some h
  refine ⟨0, fun L hL => ?_⟩
  simp only [go_sem, ir130, E_46_l1, R_46_l1, ir130_b0, ir130_k0, ir130_o0, ir130_r0, z1]

theorem Fs_46 {s_ : List Int} {f_c0 : Int} {f_c1 : Int} {y_ : Int} (h : slices_IndexFunc_int64_int64__impl_allIn_c1 s_ f_c0 f_c1 = some y_) : c_46.F [.sl 1 (List.map (AV.int .i64) s_), .fn (.func 119) [] [.ptr 1 [.int .i64 f_c0] 0 0, .ptr 1 [.int .i64 f_c1] 0 0]] = ⟨true, .int .i64 y_, [.any, .any]⟩ := by
 refine mkF_E rfl ?_
 dsimp only [slices_IndexFunc_int64_int64__impl_allIn_c1] at h
 obtain ⟨y_5, z5, h⟩ := bd_some h
 obtain ⟨Lz5, ez5⟩ := slices_IndexFunc_int64_int64__impl_allIn_c1_l1_ex z5
 rcases y_5 with y_5a | y_5b
 ·dsimp only at h
  obtain rfl := so_some h
  refine ⟨Lz5, fun L hL => ?_⟩
  have ez5 := ez5 L (by omega)
  try simp only [go_sem, E_46_l1, R_46_l1, ir130_k0, ir130_o0, ir130_r0] at ez5
  simp only [go_sem, ir130, E_46_l1, R_46_l1, ir130_k0, ir130_o0, ir130_r0, ez5]
 ·dsimp only at h
  obtain rfl := so_some h
  refine ⟨Lz5, fun L hL => ?_⟩
  have ez5 := ez5 L (by omega)
  try simp only [go_sem, E_46_l1, R_46_l1, ir130_k0, ir130_o0, ir130_r0] at ez5
  simp only [go_sem, ir130, E_46_l1, R_46_l1, ir130_k0, ir130_o0, ir130_r0, ez5]


def ir118_v : List Nat := [0, 1, 4]
def ir118 : AFn := ⟨2, 3, .seq (.region false [ VO 2 4 (.mov (.c (.bool false)))]) (.seq (.region false [ PM 5 0, PM 6 1, PO 7 (.call 130 [(.s 1), (.s 0)]), PO 8 (.bin false .geq (.s 0) (I6 0)), VS 2 4 0]) (.ret)), [.t 2]⟩
noncomputable def t_47 : List (Nat × Ctr) := [(130, c_46)]
theorem lk_47_130 : look t_47 130 = some c_46 := rfl
noncomputable def c_47 : Ctr := mkF t_47 ir118 [.bor, .bor]
theorem s_47 : Sound Tryz.prog 118 c_47 := mkF_sound _ rfl (snd_cons s_46 snd_nil) (by kernel_rfl : chkFn Tryz.prog 118 ir118 ir118_v = true)
theorem M_47 : c_47.modes = [.bor, .bor] := rfl
theorem Fl_47 : c_47.flat = true := rfl
attribute [go_sem] M_47 Fl_47
attribute [go_sem] lk_47_130
theorem Fs_47 {s_ : List Int} {f_c0 : Int} {f_c1 : Int} {y_ : Bool} (h : slices_ContainsFunc_int64_int64__impl_allIn_c1 s_ f_c0 f_c1 = some y_) : c_47.F [.sl 1 (List.map (AV.int .i64) s_), .fn (.func 119) [] [.ptr 1 [.int .i64 f_c0] 0 0, .ptr 1 [.int .i64 f_c1] 0 0]] = ⟨true, .bool y_, [.any, .any]⟩ := by
 refine mkF_E rfl ?_
 dsimp only [slices_ContainsFunc_int64_int64__impl_allIn_c1] at h
 obtain ⟨y_1, z1, h⟩ := bd_some h
 have fz1 := Fs_46 z1
 try simp only [go_sem] at fz1
 obtain rfl := so_some h
 refine ⟨0, fun L hL => ?_⟩
 simp only [go_sem, ir118, fz1]


def ir101_v : List Nat := [0, 1, 2, 4, 5, 6]
def ir101 : AFn := ⟨3, 6, .seq (.region false [ VO 3 4 (.box (.v 1)), VO 4 5 (.box (.v 2)), VO 5 6 (.mov (.c (.bool false)))]) (.seq (.region false [ PM 7 0, PO 8 (.mkFn (.func 119) [] [(.v 3), (.v 4)]), PO 9 (.call 118 [(.s 1), (.s 0)]), PO 10 (.un .not (.s 0)), VS 5 6 0]) (.ret)), [.t 5]⟩
noncomputable def t_48 : List (Nat × Ctr) := [(118, c_47)]
theorem lk_48_118 : look t_48 118 = some c_47 := rfl
noncomputable def c_48 : Ctr := mkF t_48 ir101 [.bor, .bor, .bor]
theorem s_48 : Sound Tryz.prog 101 c_48 := mkF_sound _ rfl (snd_cons s_47 snd_nil) (by kernel_rfl : chkFn Tryz.prog 101 ir101 ir101_v = true)
theorem M_48 : c_48.modes = [.bor, .bor, .bor] := rfl
theorem Fl_48 : c_48.flat = true := rfl
attribute [go_sem] M_48 Fl_48
attribute [go_sem] lk_48_118
theorem Fs_48 {list : List Int} {low : Int} {high : Int} {y_ : Bool} (h : impl_allIn list low high = some y_) : c_48.F [.sl 1 (List.map (AV.int .i64) list), .int .i64 low, .int .i64 high] = ⟨true, .bool y_, [.any, .any, .any]⟩ := by
 refine mkF_E rfl ?_
 dsimp only [impl_allIn] at h
 obtain ⟨y_1, z1, h⟩ := bd_some h
 have fz1 := Fs_47 z1
 try simp only [go_sem] at fz1
 obtain rfl := so_some h
 refine ⟨0, fun L hL => ?_⟩
 simp only [go_sem, ir101, fz1]


def ir93_v : List Nat := [0, 2]
def ir93 : AFn := ⟨1, 2, .seq (.region false [ VO 1 2 (.mov (.c (.bool false)))]) (.seq (.region false [ PM 3 0, PO 4 (.len false (.s 0)), PO 5 (.bin false .leq (.s 0) (I6 100)), PO 6 (.mov (.s 0)), ⟨.push, 7, (some ((.s 0), true)), .mov (.v 0)⟩, ⟨.push, 8, (some ((.s 1), true)), .call 101 [(.s 0), (.c (.int .i64 (-2000))), (I6 20000)]⟩, PO 9 (.pick (.s 2) (.s 0) (.c (.bool false))), VS 1 2 0]) (.ret)), [.t 1]⟩
noncomputable def t_49 : List (Nat × Ctr) := [(101, c_48)]
theorem lk_49_101 : look t_49 101 = some c_48 := rfl
noncomputable def c_49 : Ctr := mkF t_49 ir93 [.bor]
theorem s_49 : Sound Tryz.prog 93 c_49 := mkF_sound _ rfl (snd_cons s_48 snd_nil) (by kernel_rfl : chkFn Tryz.prog 93 ir93 ir93_v = true)
theorem M_49 : c_49.modes = [.bor] := rfl
theorem Fl_49 : c_49.flat = true := rfl
attribute [go_sem] M_49 Fl_49
attribute [go_sem] lk_49_101
theorem Fs_49 {list : List Int} {y_ : Bool} (h : impl_areMags list = some y_) : c_49.F [.sl 1 (List.map (AV.int .i64) list)] = ⟨true, .bool y_, [.any]⟩ := by
 refine mkF_E rfl ?_
 dsimp only [impl_areMags] at h
 obtain ⟨z1, h⟩ := ck_some h
 rcases or_split z1 with ⟨gz1, z1⟩ | gz1
 ·try simp only [go_sem, n1, n2, n3, n4] at gz1
  all_goals
  obtain ⟨y_1, hz1⟩ := Option.isSome_iff_exists.1 z1
  have fz1 := Fs_48 hz1
  try simp only [go_sem, n1, n2, n3, n4, gz1] at hz1
  all_goals
  try simp only [go_sem, gz1] at fz1
  obtain rfl := so_some h
  refine ⟨0, fun L hL => ?_⟩
  simp only [go_sem, ir93, gz1, hz1, fz1]
 ·try simp only [go_sem, n1, n2, n3, n4] at gz1
  all_goals
  obtain rfl := so_some h
  refine ⟨0, fun L hL => ?_⟩
  simp only [go_sem, ir93, gz1]


def ir70_v : List Nat := [0, 2]
def ir70 : AFn := ⟨1, 2, .seq (.region false [ VO 1 2 (.mov (I6 0))]) (.seq (.block 0 (.test false [ PM 4 0, PO 5 (.call 93 [(.s 0)]), PO 6 (.un .not (.s 0)), PO 3 (.mov (.s 0))] (.s 0) (.seq (.region false [ VO 1 2 (.mov (I6 2))]) (.ret)) (.test false [ PM 8 0, PO 9 (.len false (.s 0)), PO 10 (.bin false .eql (.s 0) (I6 0)), PO 7 (.mov (.s 0))] (.s 0) (.seq (.region false [ VO 1 2 (.mov (I6 3))]) (.ret)) (.skip)))) (.seq (.region false [ VO 1 2 (.mov (I6 0))]) (.ret))), [.t 1]⟩
noncomputable def t_50 : List (Nat × Ctr) := [(93, c_49)]
theorem lk_50_93 : look t_50 93 = some c_49 := rfl
noncomputable def c_50 : Ctr := mkF t_50 ir70 [.bor]
theorem s_50 : Sound Tryz.prog 70 c_50 := mkF_sound _ rfl (snd_cons s_49 snd_nil) (by kernel_rfl : chkFn Tryz.prog 70 ir70 ir70_v = true)
theorem M_50 : c_50.modes = [.bor] := rfl
theorem Fl_50 : c_50.flat = true := rfl
attribute [go_sem] M_50 Fl_50
attribute [go_sem] lk_50_93
theorem Fs_50 {list : List Int} {y_ : Int} (h : impl_someMags list = some y_) : c_50.F [.sl 1 (List.map (AV.int .i64) list)] = ⟨true, .int .i64 y_, [.any]⟩ := by
 refine mkF_E rfl ?_
 dsimp only [impl_someMags] at h
 obtain ⟨y_1, z1, h⟩ := bd_some h
 have fz1 := Fs_49 z1
 try simp only [go_sem] at fz1
 rcases it_some h with ⟨z2, h⟩ | ⟨z2, h⟩
 ·try simp only [go_sem, n1, n2, n3, n4] at z2
  all_goals
  obtain rfl := so_some h
  refine ⟨0, fun L hL => ?_⟩
  simp only [go_sem, ir70, fz1, z2]
 ·try simp only [go_sem, n1, n2, n3, n4] at z2
  all_goals
  rcases it_some h with ⟨z3, h⟩ | ⟨z3, h⟩
  ·try simp only [go_sem, n1, n2, n3, n4, z2] at z3
   all_goals
   obtain rfl := so_some h
   refine ⟨0, fun L hL => ?_⟩
   simp only [go_sem, ir70, fz1, z2, z3]
  ·try simp only [go_sem, n1, n2, n3, n4, z2] at z3
   all_goals
   obtain rfl := so_some h
   refine ⟨0, fun L hL => ?_⟩
   simp only [go_sem, ir70, fz1, z2, z3]


theorem s_hMinI : Sound Tryz.prog 71 c_hMinI := hMinI_is

theorem s_hMaxI : Sound Tryz.prog 72 c_hMaxI := hMaxI_is

def ir33_v : List Nat := [0, 2, 3, 4, 5]
def ir33 : AFn := ⟨1, 5, .seq (.region false [ VO 1 2 (.mov (I6 0)), VO 2 3 (.mov (I6 0)), VO 3 4 (.mov (I6 0))]) (.seq (.seq (.region false [ PM 6 0, PO 7 (.call 70 [(.s 0)]), VS 4 5 0]) (.test false [ PM 8 4, PO 9 (.bin false .neq (.s 0) (I6 0))] (.s 0) (.seq (.region false [ PM 10 4, VO 1 2 (.mov (I6 0)), VO 2 3 (.mov (I6 0)), VS 3 4 0]) (.ret)) (.skip))) (.seq (.region false [ PM 11 0, PO 12 (.call 71 [(.s 0)]), PM 13 0, PO 14 (.call 72 [(.s 0)]), VS 1 2 2, VS 2 3 0, VO 3 4 (.mov (I6 0))]) (.ret))), [.t 1, .t 2, .t 3]⟩
noncomputable def t_53 : List (Nat × Ctr) := [(70, c_50), (71, c_hMinI), (72, c_hMaxI)]
theorem lk_53_70 : look t_53 70 = some c_50 := rfl
theorem lk_53_71 : look t_53 71 = some c_hMinI := rfl
theorem lk_53_72 : look t_53 72 = some c_hMaxI := rfl
noncomputable def c_53 : Ctr := mkF t_53 ir33 [.bor]
theorem s_53 : Sound Tryz.prog 33 c_53 := mkF_sound _ rfl (snd_cons s_50 (snd_cons s_hMinI (snd_cons s_hMaxI snd_nil))) (by kernel_rfl : chkFn Tryz.prog 33 ir33 ir33_v = true)
theorem M_53 : c_53.modes = [.bor] := rfl
theorem Fl_53 : c_53.flat = true := rfl
attribute [go_sem] M_53 Fl_53
attribute [go_sem] lk_53_70 lk_53_71 lk_53_72
theorem Fs_53 {list : List Int} {y_ : Int × Int × Int} (h : impl_RangeOfMags list = some y_) : c_53.F [.sl 1 (List.map (AV.int .i64) list)] = ⟨true, .tup [.int .i64 y_.1, .int .i64 y_.2.1, .int .i64 y_.2.2], [.any]⟩ := by
 refine mkF_E rfl ?_
 dsimp only [impl_RangeOfMags] at h
 obtain ⟨y_1, z1, h⟩ := bd_some h
 have fz1 := Fs_50 z1
 try simp only [go_sem] at fz1
 rcases it_some h with ⟨z2, h⟩ | ⟨z2, h⟩
 ·try simp only [go_sem, n1, n2, n3, n4] at z2
  all_goals
  obtain rfl := so_some h
  refine ⟨0, fun L hL => ?_⟩
  simp only [go_sem, ir33, fz1, z2]
 ·try simp only [go_sem, n1, n2, n3, n4] at z2
  all_goals
  obtain ⟨y_3, z3, h⟩ := bd_some h
  have fz3 := Fs_hMinI z3
  try simp only [go_sem, z2] at fz3
  obtain ⟨y_4, z4, h⟩ := bd_some h
  have fz4 := Fs_hMaxI z4
  try simp only [go_sem, z2] at fz4
  obtain rfl := so_some h
  refine ⟨0, fun L hL => ?_⟩
  simp only [go_sem, ir33, fz1, z2, fz3, fz4]


def ir18_b0 : IR := .seq (.region false [ VO 13 19 (.bin false .lss (.v 12) (.v 11))]) (.seq (.cond (.v 13) (.skip) (.exit 0)) (.seq (.block 1 (.seq (.region false [ PO 20 (.ixAddr 5 (.v 10) (.v 12)), PO 21 (.load true 5 (.s 0)), VO 6 8 (.alloc (.agg [.int .i64 (0), .str [], .str [], .int .i64 (0), .bool false])), ⟨.no, 0, none, .store 5 (.v 6) (.s 0)⟩]) (.test false [ PO 22 (.fldAddr 4 (.v 6)), PO 23 (.load false 1 (.s 0)), PO 24 (.un .not (.s 0))] (.s 0) (.region false [ PM 25 5, PO 26 (.fldAddr 3 (.v 6)), PO 27 (.load false 1 (.s 0)), PO 28 (.mkSl 1 (.int .i64 (0)) 1 [(0, (.s 0))]), PO 29
 (.app 1 8 (.int .i64 (0)) (.s 3) (.s 0)), VS 5 6 0]) (.skip)))) (.region false [ PO 30 (.bin false .add (.v 12) (I6 1)), VS 12 18 0])))
def ir18_k0 : List Bool := [false, false, true, false, true, true, false, false, false, false, true, true, true, false]
def ir18_o0 : List Bool := [false, false, true, false, true, true, false, false, false, false, false, false, false, false]
def ir18_r0 : List Bool := [false, false, false, true, false, false, false, false, false, false, false, false, false, false]
def ir18_v : List Nat := [0, 1, 3, 4, 5, 6, 8, 9, 10, 11, 16, 17, 18, 19]
def ir18 : AFn := ⟨2, 14, .seq (.region false [ VO 2 3 (.box (.v 1)), VO 3 4 (.newnil 1)]) (.seq (.region false [ PM 12 0, PO 13 (.mkFn (.func 45) [] [(.v 2)]), PO 14 (.call 44 [(.s 1), (.s 0)]), VS 4 5 0]) (.seq (.region false [ PO 15 (.mkSl 1 (.int .i64 (0)) 0 []), VS 5 6 0]) (.seq (.seq (.region false [ VO 10 16 (.mov (.v 4)), VO 11 17 (.len false (.v 10)), VO 12 18 (.mov (I6 0))]) (.block 0 (.loop ir18_k0 ir18_o0 ir18_r0 ir18_b0))) (.seq (.region false [ PM 32 5, PO 33 (.call 33 [(.s 0)]), PO 31 (.mov (.s 0)), PO 34 (.ext (.s 0) 0), PO 35 (.ext (.s 1) 1), PO 36 (.ext (.s 2) 2), VS 7 9 2, VS
 8 10 1, VS 9 11 0]) (.seq (.test false [ PM 37 9, PO 38 (.bin false .neq (.s 0) (I6 0))] (.s 0) (.seq (.anyo 5 [ SO 0 39 (.load false 1 (.v 2)), SO 1 40 (.mov (.v 4)), SO 2 41 (.callp 47 [(.s 1)]), SO 3 42 (.callp 46 [(.s 2)]), SO 4 43 (.pur (.mkSl 1 (.str []) 4 [(0, (.s 0)), (1, (.s 3)), (2, (.c (.str [45]))), (3, (.c (.str [45])))])), VS 3 4 4] [] .skip) (.ret)) (.skip)) (.seq (.anyo 9 [ SO 0 44 (.load false 1 (.v 2)), SO 1 45 (.mov (.v 4)), SO 2 46 (.callp 47 [(.s 1)]), SO 3 47 (.callp 46 [(.s 2)]), SO 4 48 (.mov (.v 7)), SO 5 49 (.callp 48 [(.s 4)]), SO 6 50 (.mov (.v 8)), SO 7 51 (.callp
 48 [(.s 6)]), SO 8 52 (.pur (.mkSl 1 (.str []) 4 [(0, (.s 0)), (1, (.s 3)), (2, (.s 5)), (3, (.s 7))])), VS 3 4 8] [] .skip) (.ret))))))), [.t 3]⟩
noncomputable def t_54 : List (Nat × Ctr) := [(44, c_44), (33, c_53), (47, c_36), (46, c_39), (48, c_42)]
theorem lk_54_44 : look t_54 44 = some c_44 := rfl
theorem lk_54_33 : look t_54 33 = some c_53 := rfl
theorem lk_54_47 : look t_54 47 = some c_36 := rfl
theorem lk_54_46 : look t_54 46 = some c_39 := rfl
theorem lk_54_48 : look t_54 48 = some c_42 := rfl
noncomputable def c_54 : Ctr := mkN t_54 ir18 [.bor, .bor]
theorem s_54 : Sound Tryz.prog 18 c_54 := mkN_sound _ (snd_cons s_44 (snd_cons s_53 (snd_cons s_36 (snd_cons s_39 (snd_cons s_42 snd_nil))))) (by kernel_rfl : chkFn Tryz.prog 18 ir18 ir18_v = true)
theorem M_54 : c_54.modes = [.bor, .bor] := rfl
theorem Fl_54 : c_54.flat = false := rfl
attribute [go_sem] M_54 Fl_54
attribute [go_sem] lk_54_44 lk_54_33 lk_54_47 lk_54_46 lk_54_48
def E_54_l1 (star : List UInt8) (own : List Estimate) (t17 : Int) : ((List Int) × Int) → St
 | (mags, t18) => ⟨[.any, .any, .ref 3200000 0 0, .any, .own 3200032, .own 3200064, .any, .any, .any, .any, .own 3200032, .int .i64 t17, .int .i64 t18, .any], [], [(3200000, ⟨1, [.str star]⟩), (3200032, ⟨5, List.map Estimate_av own⟩), (3200064, ⟨1, List.map (AV.int .i64) mags⟩)], true⟩
def R_54_l1 (star : List UInt8) (own : List Estimate) (t17 : Int) (y : (List Int)) : Res := (.exit 0, ⟨[.any, .any, .ref 3200000 0 0, .any, .own 3200032, .own 3200064, .any, .any, .any, .any, .any, .any, .any, .any], [], [(3200000, ⟨1, [.str star]⟩), (3200032, ⟨5, List.map Estimate_av own⟩), (3200064, ⟨1, List.map (AV.int .i64) y⟩)], true⟩)
theorem impl_starRow_l1_ex {star : List UInt8} {own : List Estimate} {t17 : Int} {sgm_ : (List Int) × Int} {rho_ : (List Int)} (h : whileE (impl_starRow_l1 star own t17) sgm_ = some rho_) : ∃ L0, ∀ L, L0 ≤ L → iter (exec (look t_54) L ir18_b0) ir18_k0 ir18_o0 ir18_r0 L (E_54_l1 star own t17 sgm_) = R_54_l1 star own t17 rho_ := by
 refine loop_ex (E := E_54_l1 star own t17) (R := R_54_l1 star own t17) (fun y => by first | (intro c; cases c) | (rcases y with y | y <;> (intro c; cases c)) | (rcases y with y | y | y <;> (intro c; cases c))) ?_ h
 clear h
 rintro ⟨mags, t18⟩ o_ h
 dsimp only [impl_starRow_l1] at h
 rcases it_some h with ⟨z2, h⟩ | ⟨z2, h⟩
 ·try simp only [go_sem, n1, n2, n3, n4] at z2
  all_goals
  obtain ⟨z3, h⟩ := ck_some h
  have lz3 := ix_lt z3
  have xz3 := getD_mapD Estimate_av own lz3
  try simp only [go_sem] at lz3
  try simp only [go_sem] at xz3
  try simp only [go_sem, n1, n2, n3, n4, z2] at z3
  all_goals
  rcases it_some h with ⟨z4, h⟩ | ⟨z4, h⟩
  ·try simp only [go_sem, n1, n2, n3, n4, z2, z3] at z4
   all_goals
   obtain ⟨z5, h⟩ := ck_some h
   try simp only [go_sem, n1, n2, n3, n4, z2, z3, z4] at z5
   all_goals
   obtain rfl := so_some h
   refine ⟨0, fun L hL => ?_⟩
   simp only [go_sem, ir18, E_54_l1, R_54_l1, ir18_b0, ir18_k0, ir18_o0, ir18_r0, z2, z3, lz3, xz3, z4, z5]
  ·try simp only [go_sem, n1, n2, n3, n4, z2, z3] at z4
   all_goals
   obtain rfl := so_some h
   refine ⟨0, fun L hL => ?_⟩
   simp only [go_sem, ir18, E_54_l1, R_54_l1, ir18_b0, ir18_k0, ir18_o0, ir18_r0, z2, z3, lz3, xz3, z4]
 ·try simp only [go_sem, n1, n2, n3, n4] at z2
  all_goals
  obtain rfl := so_some h
  refine ⟨0, fun L hL => ?_⟩
  simp only [go_sem, ir18, E_54_l1, R_54_l1, ir18_b0, ir18_k0, ir18_o0, ir18_r0, z2]

theorem Fs_54 {list : List Estimate} {star : List UInt8} {y_ : (List (List UInt8))} (h : impl_starRow list star = some y_) : c_54.F [.sl 5 (List.map Estimate_av list), .str star] = ⟨true, .sl 1 (List.map AV.str y_), [.any, .any]⟩ := by
 refine mkN_E ?_
 dsimp only [impl_starRow] at h
 obtain ⟨y_1, z1, h⟩ := bd_some h
 have fz1 := Fs_44 z1
 try simp only [go_sem] at fz1
 obtain ⟨y_6, z6, h⟩ := bd_some h
 obtain ⟨Lz6, ez6⟩ := impl_starRow_l1_ex z6
 obtain ⟨y_7, z7, h⟩ := bd_some h
 have fz7 := Fs_53 z7
 try simp only [go_sem] at fz7
 rcases it_some h with ⟨z8, h⟩ | ⟨z8, h⟩
 ·try simp only [go_sem, n1, n2, n3, n4] at z8
  all_goals
  obtain ⟨y_9, z9, h⟩ := bd_some h
  have fz9 := Fs_36 z9
  try simp only [go_sem, z8] at fz9
  obtain ⟨y_10, z10, h⟩ := bd_some h
  have fz10 := Fs_39 z10
  try simp only [go_sem, z8] at fz10
  obtain rfl := so_some h
  refine ⟨Lz6, fun L hL => ?_⟩
  have ez6 := ez6 L (by omega)
  try simp only [go_sem, E_54_l1, R_54_l1, ir18_k0, ir18_o0, ir18_r0, z8] at ez6
  simp only [go_sem, ir18, E_54_l1, R_54_l1, ir18_k0, ir18_o0, ir18_r0, fz1, fz7, z8, fz9, fz10, ez6]
 ·try simp only [go_sem, n1, n2, n3, n4] at z8
  all_goals
  obtain ⟨y_11, z11, h⟩ := bd_some h
  have fz11 := Fs_36 z11
  try simp only [go_sem, z8] at fz11
  obtain ⟨y_12, z12, h⟩ := bd_some h
  have fz12 := Fs_39 z12
  try simp only [go_sem, z8] at fz12
  obtain ⟨y_13, z13, h⟩ := bd_some h
  have fz13 := Fs_42 z13
  try simp only [go_sem, z8] at fz13
  obtain ⟨y_14, z14, h⟩ := bd_some h
  have fz14 := Fs_42 z14
  try simp only [go_sem, z8] at fz14
  obtain rfl := so_some h
  refine ⟨Lz6, fun L hL => ?_⟩
  have ez6 := ez6 L (by omega)
  try simp only [go_sem, E_54_l1, R_54_l1, ir18_k0, ir18_o0, ir18_r0, z8] at ez6
  simp only [go_sem, ir18, E_54_l1, R_54_l1, ir18_k0, ir18_o0, ir18_r0, fz1, fz7, z8, fz11, fz12, fz13, fz14, ez6]


def ir6_b0 : IR := .seq (.region false [ VO 10 21 (.bin false .lss (.v 9) (.v 8))]) (.seq (.cond (.v 10) (.skip) (.exit 0)) (.seq (.block 1 (.seq (.region false [ PO 22 (.ixAddr 1 (.v 7) (.v 9)), PO 23 (.load false 1 (.s 0)), VS 6 8 0]) (.region false [ PM 24 5, PM 25 0, PM 26 6, PO 27 (.call 18 [(.s 1), (.s 0)]), PO 28 (.mkSl 1 (.sl 1 []) 1 [(0, (.s 0))]), PO 29 (.app 1 24 (.sl 1 []) (.s 4) (.s 0)), VS 5 6 0]))) (.region false [ PO 30 (.bin false .add (.v 9) (I6 1)), VS 9 20 0])))
def ir6_k0 : List Bool := [true, false, false, false, false, true, false, true, true, true, false]
def ir6_o0 : List Bool := [false, false, false, false, false, true, false, false, false, false, false]
def ir6_r0 : List Bool := [false, true, true, false, false, false, false, false, false, false, false]
def ir6_v : List Nat := [0, 2, 3, 4, 5, 6, 8, 18, 19, 20, 21]
def ir6 : AFn := ⟨1, 11, .seq (.region false [ VO 1 2 (.newnil 1), VO 2 3 (.mov (I6 0))]) (.seq (.region false [ PM 10 0, PO 11 (.call 15 [(.s 0)]), PO 9 (.mov (.s 0)), PO 12 (.ext (.s 0) 0), PO 13 (.ext (.s 1) 1), VS 3 4 1, VS 4 5 0]) (.seq (.test false [ PM 14 4, PO 15 (.bin false .neq (.s 0) (I6 0))] (.s 0) (.seq (.region false [ PM 16 4, VO 1 2 (.newnil 1), VS 2 3 0]) (.ret)) (.skip)) (.seq (.region false [ PO 17 (.mkSl 1 (.sl 1 []) 0 []), VS 5 6 0]) (.seq (.seq (.region false [ VO 7 18 (.mov (.v 3)), VO 8 19 (.len false (.v 7)), VO 9 20 (.mov (I6 0))]) (.block 0 (.loop ir6_k0 ir6_o0 ir6_r0
 ir6_b0))) (.seq (.region false [ PM 31 5, VS 1 2 0, VO 2 3 (.mov (I6 0))]) (.ret)))))), [.t 1, .t 2]⟩
noncomputable def t_55 : List (Nat × Ctr) := [(15, c_35), (18, c_54)]
theorem lk_55_15 : look t_55 15 = some c_35 := rfl
theorem lk_55_18 : look t_55 18 = some c_54 := rfl
noncomputable def c_55 : Ctr := mkN t_55 ir6 [.bor]
theorem s_55 : Sound Tryz.prog 6 c_55 := mkN_sound _ (snd_cons s_35 (snd_cons s_54 snd_nil)) (by kernel_rfl : chkFn Tryz.prog 6 ir6 ir6_v = true)
theorem M_55 : c_55.modes = [.bor] := rfl
theorem Fl_55 : c_55.flat = false := rfl
attribute [go_sem] M_55 Fl_55
attribute [go_sem] lk_55_15 lk_55_18
def E_55_l1 (list : List Estimate) (t18 : List (List UInt8)) (t19 : Int) : ((List (List (List UInt8))) × Int) → St
 | (rows, t20) => ⟨[.sl 5 (List.map Estimate_av list), .any, .any, .any, .any, .own 3200000, .any, .own 3200032, .int .i64 t19, .int .i64 t20, .any], [], [(3200000, ⟨1, List.map (slE 1 AV.str) rows⟩), (3200032, ⟨1, List.map AV.str t18⟩)], true⟩
def R_55_l1 (list : List Estimate) (t18 : List (List UInt8)) (t19 : Int) (y : (List (List (List UInt8)))) : Res := (.exit 0, ⟨[.any, .any, .any, .any, .any, .own 3200000, .any, .any, .any, .any, .any], [], [(3200000, ⟨1, List.map (slE 1 AV.str) y⟩)], true⟩)
theorem impl_ReportRows_l1_ex {list : List Estimate} {t18 : List (List UInt8)} {t19 : Int} {sgm_ : (List (List (List UInt8))) × Int} {rho_ : (List (List (List UInt8)))} (h : whileE (impl_ReportRows_l1 list t18 t19) sgm_ = some rho_) : ∃ L0, ∀ L, L0 ≤ L → iter (exec (look t_55) L ir6_b0) ir6_k0 ir6_o0 ir6_r0 L (E_55_l1 list t18 t19 sgm_) = R_55_l1 list t18 t19 rho_ := by
 refine loop_ex (E := E_55_l1 list t18 t19) (R := R_55_l1 list t18 t19) (fun y => by first | (intro c; cases c) | (rcases y with y | y <;> (intro c; cases c)) | (rcases y with y | y | y <;> (intro c; cases c))) ?_ h
 clear h
 rintro ⟨rows, t20⟩ o_ h
 dsimp only [impl_ReportRows_l1] at h
 rcases it_some h with ⟨z3, h⟩ | ⟨z3, h⟩
 ·try simp only [go_sem, n1, n2, n3, n4] at z3
  all_goals
  obtain ⟨z4, h⟩ := ck_some h
  have lz4 := ix_lt z4
  have xz4 := getD_mapD AV.str t18 lz4
  try simp only [go_sem] at lz4
  try simp only [go_sem] at xz4
  try simp only [go_sem, n1, n2, n3, n4, z3] at z4
  all_goals
  obtain ⟨y_5, z5, h⟩ := bd_some h
  have fz5 := Fs_54 z5
  try simp only [go_sem, z3, z4] at fz5
  obtain ⟨z6, h⟩ := ck_some h
  try simp only [go_sem, n1, n2, n3, n4, z3, z4] at z6
  all_goals
  obtain rfl := so_some h
  refine ⟨0, fun L hL => ?_⟩
  simp only [go_sem, ir6, E_55_l1, R_55_l1, ir6_b0, ir6_k0, ir6_o0, ir6_r0, z3, z4, lz4, xz4, fz5, z6]
 ·try simp only [go_sem, n1, n2, n3, n4] at z3
  all_goals
  obtain rfl := so_some h
  refine ⟨0, fun L hL => ?_⟩
  simp only [go_sem, ir6, E_55_l1, R_55_l1, ir6_b0, ir6_k0, ir6_o0, ir6_r0, z3]

theorem Fs_55 {list : List Estimate} {y_ : (List (List (List UInt8))) × Int} (h : impl_ReportRows list = some y_) : c_55.F [.sl 5 (List.map Estimate_av list)] = ⟨true, .tup [.fresh 1 (List.map (slE 1 AV.str) y_.1), .int .i64 y_.2], [.any]⟩ := by
 refine mkN_E ?_
 dsimp only [impl_ReportRows] at h
 obtain ⟨y_1, z1, h⟩ := bd_some h
 have fz1 := Fs_35 z1
 try simp only [go_sem] at fz1
 rcases it_some h with ⟨z2, h⟩ | ⟨z2, h⟩
 ·try simp only [go_sem, n1, n2, n3, n4] at z2
  all_goals
  obtain rfl := so_some h
  refine ⟨0, fun L hL => ?_⟩
  simp only [go_sem, ir6, E_55_l1, R_55_l1, ir6_k0, ir6_o0, ir6_r0, fz1, z2]
 ·try simp only [go_sem, n1, n2, n3, n4] at z2
  all_goals
  obtain ⟨y_7, z7, h⟩ := bd_some h
  obtain ⟨Lz7, ez7⟩ := impl_ReportRows_l1_ex z7
  obtain rfl := so_some h
  refine ⟨Lz7, fun L hL => ?_⟩
  have ez7 := ez7 L (by omega)
  try simp only [go_sem, E_55_l1, R_55_l1, ir6_k0, ir6_o0, ir6_r0, z2] at ez7
  simp only [go_sem, ir6, E_55_l1, R_55_l1, ir6_k0, ir6_o0, ir6_r0, fz1, z2, ez7]


def ir36_v : List Nat := [0, 1, 2, 6]
def ir36 : AFn := ⟨3, 4, .seq (.region false [ VO 3 6 (.mov (.c (.bool false)))]) (.seq (.region false [ PM 7 0, PM 8 1, PO 9 (.bin false .geq (.s 1) (.s 0)), PO 10 (.mov (.s 0)), ⟨.push, 11, (some ((.s 0), true)), .mov (.v 0)⟩, ⟨.push, 12, (some ((.s 1), true)), .mov (.v 2)⟩, ⟨.push, 13, (some ((.s 2), true)), .bin false .leq (.s 1) (.s 0)⟩, PO 14 (.pick (.s 3) (.s 0) (.c (.bool false))), VS 3 6 0]) (.ret)), [.t 3]⟩
noncomputable def t_56 : List (Nat × Ctr) := []
noncomputable def c_56 : Ctr := mkF t_56 ir36 [.bor, .bor, .bor]
theorem s_56 : Sound Tryz.prog 36 c_56 := mkF_sound _ rfl snd_nil (by kernel_rfl : chkFn Tryz.prog 36 ir36 ir36_v = true)
theorem M_56 : c_56.modes = [.bor, .bor, .bor] := rfl
theorem Fl_56 : c_56.flat = true := rfl
attribute [go_sem] M_56 Fl_56
theorem Fs_56 {n : Int} {low : Int} {high : Int} {y_ : Bool} (h : spec_l00In n low high = some y_) : c_56.F [.int .i64 n, .int .i64 low, .int .i64 high] = ⟨true, .bool y_, [.any, .any, .any]⟩ := by
 refine mkF_E rfl ?_
 dsimp only [spec_l00In] at h
 obtain rfl := so_some h
 refine ⟨0, fun L hL => ?_⟩
 simp only [go_sem, ir36]


def ir73_v : List Nat := [0, 2]
def ir73 : AFn := ⟨1, 2, .seq (.region false [ VO 1 2 (.mov (.c (.bool false)))]) (.seq (.region false [ PM 3 0, PO 4 (.call 36 [(.s 0), (I6 0), (I6 10000000)]), VS 1 2 0]) (.ret)), [.t 1]⟩
noncomputable def t_57 : List (Nat × Ctr) := [(36, c_56)]
theorem lk_57_36 : look t_57 36 = some c_56 := rfl
noncomputable def c_57 : Ctr := mkF t_57 ir73 [.bor]
theorem s_57 : Sound Tryz.prog 73 c_57 := mkF_sound _ rfl (snd_cons s_56 snd_nil) (by kernel_rfl : chkFn Tryz.prog 73 ir73 ir73_v = true)
theorem M_57 : c_57.modes = [.bor] := rfl
theorem Fl_57 : c_57.flat = true := rfl
attribute [go_sem] M_57 Fl_57
attribute [go_sem] lk_57_36
theorem Fs_57 {n : Int} {y_ : Bool} (h : spec_l06Time n = some y_) : c_57.F [.int .i64 n] = ⟨true, .bool y_, [.any]⟩ := by
 refine mkF_E rfl ?_
 dsimp only [spec_l06Time] at h
 obtain ⟨y_1, z1, h⟩ := bd_some h
 have fz1 := Fs_56 z1
 try simp only [go_sem] at fz1
 obtain rfl := so_some h
 refine ⟨0, fun L hL => ?_⟩
 simp only [go_sem, ir73, fz1]


def ir57_v : List Nat := [0, 2]
def ir57 : AFn := ⟨1, 2, .seq (.region false [ VO 1 2 (.mov (.c (.bool false)))]) (.seq (.region false [ PM 3 0, PO 4 (.bin false .geq (.s 0) (.c (.int .u8 (97)))), PO 5 (.mov (.s 0)), ⟨.push, 6, (some ((.s 0), true)), .mov (.v 0)⟩, ⟨.push, 7, (some ((.s 1), true)), .bin false .leq (.s 0) (.c (.int .u8 (122)))⟩, PO 8 (.pick (.s 2) (.s 0) (.c (.bool false))), VS 1 2 0]) (.ret)), [.t 1]⟩
noncomputable def t_58 : List (Nat × Ctr) := []
noncomputable def c_58 : Ctr := mkF t_58 ir57 [.bor]
theorem s_58 : Sound Tryz.prog 57 c_58 := mkF_sound _ rfl snd_nil (by kernel_rfl : chkFn Tryz.prog 57 ir57 ir57_v = true)
theorem M_58 : c_58.modes = [.bor] := rfl
theorem Fl_58 : c_58.flat = true := rfl
attribute [go_sem] M_58 Fl_58
theorem Fs_58 {c : UInt8} {y_ : Bool} (h : spec_l01Small c = some y_) : c_58.F [.int .u8 (c.toNat : Int)] = ⟨true, .bool y_, [.any]⟩ := by
 refine mkF_E rfl ?_
 dsimp only [spec_l01Small] at h
 obtain rfl := so_some h
 refine ⟨0, fun L hL => ?_⟩
 simp only [go_sem, ir57]


def ir58_v : List Nat := [0, 2]
def ir58 : AFn := ⟨1, 2, .seq (.region false [ VO 1 2 (.mov (.c (.bool false)))]) (.seq (.region false [ PM 3 0, PO 4 (.bin false .geq (.s 0) (.c (.int .u8 (48)))), PO 5 (.mov (.s 0)), ⟨.push, 6, (some ((.s 0), true)), .mov (.v 0)⟩, ⟨.push, 7, (some ((.s 1), true)), .bin false .leq (.s 0) (.c (.int .u8 (57)))⟩, PO 8 (.pick (.s 2) (.s 0) (.c (.bool false))), VS 1 2 0]) (.ret)), [.t 1]⟩
noncomputable def t_59 : List (Nat × Ctr) := []
noncomputable def c_59 : Ctr := mkF t_59 ir58 [.bor]
theorem s_59 : Sound Tryz.prog 58 c_59 := mkF_sound _ rfl snd_nil (by kernel_rfl : chkFn Tryz.prog 58 ir58 ir58_v = true)
theorem M_59 : c_59.modes = [.bor] := rfl
theorem Fl_59 : c_59.flat = true := rfl
attribute [go_sem] M_59 Fl_59
theorem Fs_59 {c : UInt8} {y_ : Bool} (h : spec_l01Digit c = some y_) : c_59.F [.int .u8 (c.toNat : Int)] = ⟨true, .bool y_, [.any]⟩ := by
 refine mkF_E rfl ?_
 dsimp only [spec_l01Digit] at h
 obtain rfl := so_some h
 refine ⟨0, fun L hL => ?_⟩
 simp only [go_sem, ir58]


def ir25_b0 : IR := .seq (.test false [ PM 17 2, PM 18 0, PO 19 (.len true (.s 0)), PO 20 (.bin false .lss (.s 2) (.s 0))] (.s 0) (.skip) (.exit 0)) (.seq (.block 1 (.test false [ PM 23 0, PM 24 2, PO 25 (.ixStr (.s 1) (.s 0)), PO 26 (.call 57 [(.s 0)]), PO 27 (.un .not (.s 0)), PO 28 (.mov (.s 0)), ⟨.push, 29, (some ((.s 0), true)), .mov (.v 0)⟩, ⟨.push, 30, (some ((.s 1), true)), .mov (.v 2)⟩, ⟨.push, 31, (some ((.s 2), true)), .ixStr (.s 1) (.s 0)⟩, ⟨.push, 32, (some ((.s 3), true)), .call 58 [(.s 0)]⟩, ⟨.push, 33, (some ((.s 4), true)), .un .not (.s 0)⟩, PO 34 (.pick (.s 5) (.s 0) (.c
 (.bool false))), PO 35 (.mov (.s 0)), ⟨.push, 36, (some ((.s 0), true)), .mov (.v 0)⟩, ⟨.push, 37, (some ((.s 1), true)), .mov (.v 2)⟩, ⟨.push, 38, (some ((.s 2), true)), .ixStr (.s 1) (.s 0)⟩, ⟨.push, 39, (some ((.s 3), true)), .bin false .neq (.s 0) (.c (.int .u8 (45)))⟩, PO 40 (.pick (.s 4) (.s 0) (.c (.bool false)))] (.s 0) (.seq (.region false [ VO 1 2 (.mov (.c (.bool false)))]) (.ret)) (.skip))) (.region false [ PM 21 2, PO 22 (.bin false .add (.s 0) (I6 1)), VS 2 3 0]))
def ir25_k0 : List Bool := [true, false, true]
def ir25_o0 : List Bool := [false, false, false]
def ir25_r0 : List Bool := [false, true, false]
def ir25_v : List Nat := [0, 2, 3]
def ir25 : AFn := ⟨1, 3, .seq (.region false [ VO 1 2 (.mov (.c (.bool false)))]) (.seq (.test false [ PM 4 0, PO 5 (.bin false .eql (.s 0) (.c (.str []))), PO 6 (.mov (.s 0)), ⟨.push, 7, (some ((.s 0), false)), .mov (.v 0)⟩, ⟨.push, 8, (some ((.s 1), false)), .len true (.s 0)⟩, ⟨.push, 9, (some ((.s 2), false)), .bin false .gtr (.s 0) (I6 12)⟩, PO 10 (.pick (.s 3) (.c (.bool true)) (.s 0)), PO 11 (.mov (.s 0)), ⟨.push, 12, (some ((.s 0), false)), .mov (.v 0)⟩, ⟨.push, 13, (some ((.s 1), false)), .ixStr (.s 0) (I6 0)⟩, ⟨.push, 14, (some ((.s 2), false)), .call 57 [(.s 0)]⟩, ⟨.push, 15, (some
 ((.s 3), false)), .un .not (.s 0)⟩, PO 16 (.pick (.s 4) (.c (.bool true)) (.s 0))] (.s 0) (.seq (.region false [ VO 1 2 (.mov (.c (.bool false)))]) (.ret)) (.skip)) (.seq (.seq (.region false [ VO 2 3 (.mov (I6 0))]) (.block 0 (.loop ir25_k0 ir25_o0 ir25_r0 ir25_b0))) (.seq (.region false [ VO 1 2 (.mov (.c (.bool true)))]) (.ret)))), [.t 1]⟩
noncomputable def t_60 : List (Nat × Ctr) := [(57, c_58), (58, c_59)]
theorem lk_60_57 : look t_60 57 = some c_58 := rfl
theorem lk_60_58 : look t_60 58 = some c_59 := rfl
noncomputable def c_60 : Ctr := mkF t_60 ir25 [.bor]
theorem s_60 : Sound Tryz.prog 25 c_60 := mkF_sound _ rfl (snd_cons s_58 (snd_cons s_59 snd_nil)) (by kernel_rfl : chkFn Tryz.prog 25 ir25 ir25_v = true)
theorem M_60 : c_60.modes = [.bor] := rfl
theorem Fl_60 : c_60.flat = true := rfl
attribute [go_sem] M_60 Fl_60
attribute [go_sem] lk_60_57 lk_60_58
def E_60_l1 (s_ : List UInt8) : Int → St
 | i => ⟨[.str s_, .any, .int .i64 i], [], [], true⟩
def R_60_l1 (s_ : List UInt8) : (Unit ⊕ Bool) → Res
 | .inl y => (.exit 0, ⟨[.any, .any, .any], [], [], true⟩)
 | .inr y => (.ret, ⟨[.any, .bool y, .any], [], [], true⟩)
theorem spec_IsName_l1_ex {s_ : List UInt8} {sgm_ : Int} {rho_ : Unit ⊕ Bool} (h : whileE (spec_IsName_l1 s_) sgm_ = some rho_) : ∃ L0, ∀ L, L0 ≤ L → iter (exec (look t_60) L ir25_b0) ir25_k0 ir25_o0 ir25_r0 L (E_60_l1 s_ sgm_) = R_60_l1 s_ rho_ := by
 refine loop_ex (E := E_60_l1 s_) (R := R_60_l1 s_) (fun y => by first | (intro c; cases c) | (rcases y with y | y <;> (intro c; cases c)) | (rcases y with y | y | y <;> (intro c; cases c))) ?_ h
 clear h
 intro i o_ h
 dsimp only [spec_IsName_l1] at h
 rcases it_some h with ⟨z4, h⟩ | ⟨z4, h⟩
 ·try simp only [go_sem, n1, n2, n3, n4] at z4
  all_goals
  obtain ⟨z5, h⟩ := ck_some h
  try simp only [go_sem, n1, n2, n3, n4, z4] at z5
  all_goals
  obtain ⟨y_6, z6, h⟩ := bd_some h
  have fz6 := Fs_58 z6
  try simp only [go_sem, z4, z5] at fz6
  obtain ⟨z7, h⟩ := ck_some h
  rcases or_split z7 with ⟨gz7, z7⟩ | gz7
  ·try simp only [go_sem, n1, n2, n3, n4, z4, z5] at gz7
   all_goals
   obtain ⟨y_7, hz7⟩ := Option.isSome_iff_exists.1 z7
   have fz7 := Fs_59 hz7
   try simp only [go_sem, n1, n2, n3, n4, z4, z5, gz7] at hz7
   all_goals
   try simp only [go_sem, z4, z5, gz7] at fz7
   rcases it_some h with ⟨z8, h⟩ | ⟨z8, h⟩
   ·try simp only [go_sem, n1, n2, n3, n4, z4, z5, gz7, hz7] at z8
    all_goals
    obtain rfl := so_some h
    refine ⟨0, fun L hL => ?_⟩
    simp only [go_sem, ir25, E_60_l1, R_60_l1, ir25_b0, ir25_k0, ir25_o0, ir25_r0, z4, z5, fz6, gz7, hz7, fz7, z8]
   ·try simp only [go_sem, n1, n2, n3, n4, z4, z5, gz7, hz7] at z8
    all_goals
    obtain rfl := so_some h
    refine ⟨0, fun L hL => ?_⟩
    simp only [go_sem, ir25, E_60_l1, R_60_l1, ir25_b0, ir25_k0, ir25_o0, ir25_r0, z4, z5, fz6, gz7, hz7, fz7, z8]
  ·have gz7n := no_f gz7
   try simp only [go_sem, n1, n2, n3, n4, z4, z5] at gz7n
   all_goals
   rcases it_some h with ⟨z8, h⟩ | ⟨z8, h⟩
   ·try simp only [go_sem, n1, n2, n3, n4, z4, z5, gz7n] at z8
    all_goals
    (simp_all)
   ·try simp only [go_sem, n1, n2, n3, n4, z4, z5, gz7n] at z8
    all_goals
    obtain rfl := so_some h
    refine ⟨0, fun L hL => ?_⟩
    simp only [go_sem, ir25, E_60_l1, R_60_l1, ir25_b0, ir25_k0, ir25_o0, ir25_r0, z4, z5, fz6, gz7n, z8]
 ·try simp only [go_sem, n1, n2, n3, n4] at z4
  all_goals
  obtain rfl := so_some h
  refine ⟨0, fun L hL => ?_⟩
  simp only [go_sem, ir25, E_60_l1, R_60_l1, ir25_b0, ir25_k0, ir25_o0, ir25_r0, z4]

theorem Fs_60 {s_ : List UInt8} {y_ : Bool} (h : spec_IsName s_ = some y_) : c_60.F [.str s_] = ⟨true, .bool y_, [.any]⟩ := by
 refine mkF_E rfl ?_
 dsimp only [spec_IsName] at h
 obtain ⟨z1, h⟩ := ck_some h
 rcases or_split z1 with ⟨gz1, z1⟩ | gz1
 ·try simp only [go_sem, n1, n2, n3, n4] at gz1
  all_goals
  try simp only [go_sem, n1, n2, n3, n4, gz1] at z1
  all_goals
  obtain ⟨z2, h⟩ := ck_some h
  rcases or_split z2 with ⟨gz2, z2⟩ | gz2
  ·try simp only [go_sem, n1, n2, n3, n4, gz1, z1] at gz2
   all_goals
   obtain ⟨y_2, hz2⟩ := Option.isSome_iff_exists.1 z2
   have fz2 := Fs_58 hz2
   try simp only [go_sem, n1, n2, n3, n4, gz1, z1, gz2] at hz2
   all_goals
   try simp only [go_sem, gz1, z1, gz2] at fz2
   rcases it_some h with ⟨z3, h⟩ | ⟨z3, h⟩
   ·try simp only [go_sem, n1, n2, n3, n4, gz1, z1, gz2, hz2] at z3
    all_goals
    obtain rfl := so_some h
    refine ⟨0, fun L hL => ?_⟩
    simp only [go_sem, ir25, E_60_l1, R_60_l1, ir25_k0, ir25_o0, ir25_r0, gz1, z1, gz2, hz2, fz2, z3]
   ·try simp only [go_sem, n1, n2, n3, n4, gz1, z1, gz2, hz2] at z3
    all_goals
    obtain ⟨y_9, z9, h⟩ := bd_some h
    obtain ⟨Lz9, ez9⟩ := spec_IsName_l1_ex z9
    rcases y_9 with y_9a | y_9b
    ·dsimp only at h
     obtain rfl := so_some h
     refine ⟨Lz9, fun L hL => ?_⟩
     have ez9 := ez9 L (by omega)
     try simp only [go_sem, E_60_l1, R_60_l1, ir25_k0, ir25_o0, ir25_r0, gz1, z1, gz2, hz2, z3] at ez9
     simp only [go_sem, ir25, E_60_l1, R_60_l1, ir25_k0, ir25_o0, ir25_r0, gz1, z1, gz2, hz2, fz2, z3, ez9]
    ·dsimp only at h
     obtain rfl := so_some h
     refine ⟨Lz9, fun L hL => ?_⟩
     have ez9 := ez9 L (by omega)
     try simp only [go_sem, E_60_l1, R_60_l1, ir25_k0, ir25_o0, ir25_r0, gz1, z1, gz2, hz2, z3] at ez9
     simp only [go_sem, ir25, E_60_l1, R_60_l1, ir25_k0, ir25_o0, ir25_r0, gz1, z1, gz2, hz2, fz2, z3, ez9]
  ·have gz2n := no_f gz2
   rcases or_t gz2n with gz2na | ⟨gz2na, gz2nb⟩
   ·try simp only [go_sem, n1, n2, n3, n4, gz1, z1] at gz2na
    all_goals
    (simp_all)
   ·try simp only [go_sem, n1, n2, n3, n4, gz1, z1] at gz2na
    all_goals
    try simp only [go_sem, n1, n2, n3, n4, gz1, z1, gz2na] at gz2nb
    all_goals
    rcases it_some h with ⟨z3, h⟩ | ⟨z3, h⟩
    ·try simp only [go_sem, n1, n2, n3, n4, gz1, z1, gz2na, gz2nb] at z3
     all_goals
     obtain rfl := so_some h
     refine ⟨0, fun L hL => ?_⟩
     simp only [go_sem, ir25, E_60_l1, R_60_l1, ir25_k0, ir25_o0, ir25_r0, gz1, z1, gz2na, gz2nb, z3]
    ·try simp only [go_sem, n1, n2, n3, n4, gz1, z1, gz2na, gz2nb] at z3
     all_goals
     obtain ⟨y_9, z9, h⟩ := bd_some h
     obtain ⟨Lz9, ez9⟩ := spec_IsName_l1_ex z9
     rcases y_9 with y_9a | y_9b
     ·dsimp only at h
      obtain rfl := so_some h
      refine ⟨Lz9, fun L hL => ?_⟩
      have ez9 := ez9 L (by omega)
      try simp only [go_sem, E_60_l1, R_60_l1, ir25_k0, ir25_o0, ir25_r0, gz1, z1, gz2na, gz2nb, z3] at ez9
      simp only [go_sem, ir25, E_60_l1, R_60_l1, ir25_k0, ir25_o0, ir25_r0, gz1, z1, gz2na, gz2nb, z3, ez9]
     ·dsimp only at h
      obtain rfl := so_some h
      refine ⟨Lz9, fun L hL => ?_⟩
      have ez9 := ez9 L (by omega)
      try simp only [go_sem, E_60_l1, R_60_l1, ir25_k0, ir25_o0, ir25_r0, gz1, z1, gz2na, gz2nb, z3] at ez9
      simp only [go_sem, ir25, E_60_l1, R_60_l1, ir25_k0, ir25_o0, ir25_r0, gz1, z1, gz2na, gz2nb, z3, ez9]
 ·have gz1n := no_f gz1
  rcases or_t gz1n with gz1na | ⟨gz1na, gz1nb⟩
  ·try simp only [go_sem, n1, n2, n3, n4] at gz1na
   all_goals
   obtain ⟨z2, h⟩ := ck_some h
   rcases it_some h with ⟨z3, h⟩ | ⟨z3, h⟩
   ·try simp only [go_sem, n1, n2, n3, n4, gz1na] at z3
    all_goals
    obtain rfl := so_some h
    refine ⟨0, fun L hL => ?_⟩
    simp only [go_sem, ir25, E_60_l1, R_60_l1, ir25_k0, ir25_o0, ir25_r0, gz1na, z3]
   ·try simp only [go_sem, n1, n2, n3, n4, gz1na] at z3
    all_goals
    (simp_all)
  ·try simp only [go_sem, n1, n2, n3, n4] at gz1na
   all_goals
   try simp only [go_sem, n1, n2, n3, n4, gz1na] at gz1nb
   all_goals
   obtain ⟨z2, h⟩ := ck_some h
   rcases it_some h with ⟨z3, h⟩ | ⟨z3, h⟩
   ·try simp only [go_sem, n1, n2, n3, n4, gz1na, gz1nb] at z3
    all_goals
    obtain rfl := so_some h
    refine ⟨0, fun L hL => ?_⟩
    simp only [go_sem, ir25, E_60_l1, R_60_l1, ir25_k0, ir25_o0, ir25_r0, gz1na, gz1nb, z3]
   ·try simp only [go_sem, n1, n2, n3, n4, gz1na, gz1nb] at z3
    all_goals
    (simp_all)


def ir74_v : List Nat := [0, 2]
def ir74 : AFn := ⟨1, 2, .seq (.region false [ VO 1 2 (.mov (.c (.bool false)))]) (.seq (.region false [ PM 3 0, PO 4 (.call 36 [(.s 0), (.c (.int .i64 (-2000))), (I6 20000)]), VS 1 2 0]) (.ret)), [.t 1]⟩
noncomputable def t_61 : List (Nat × Ctr) := [(36, c_56)]
theorem lk_61_36 : look t_61 36 = some c_56 := rfl
noncomputable def c_61 : Ctr := mkF t_61 ir74 [.bor]
theorem s_61 : Sound Tryz.prog 74 c_61 := mkF_sound _ rfl (snd_cons s_56 snd_nil) (by kernel_rfl : chkFn Tryz.prog 74 ir74 ir74_v = true)
theorem M_61 : c_61.modes = [.bor] := rfl
theorem Fl_61 : c_61.flat = true := rfl
attribute [go_sem] M_61 Fl_61
attribute [go_sem] lk_61_36
theorem Fs_61 {m : Int} {y_ : Bool} (h : spec_l02Mag m = some y_) : c_61.F [.int .i64 m] = ⟨true, .bool y_, [.any]⟩ := by
 refine mkF_E rfl ?_
 dsimp only [spec_l02Mag] at h
 obtain ⟨y_1, z1, h⟩ := bd_some h
 have fz1 := Fs_56 z1
 try simp only [go_sem] at fz1
 obtain rfl := so_some h
 refine ⟨0, fun L hL => ?_⟩
 simp only [go_sem, ir74, fz1]


def ir49_v : List Nat := [0, 2]
def ir49 : AFn := ⟨1, 2, .seq (.region false [ VO 1 2 (.mov (.c (.bool false)))]) (.seq (.region false [ PM 3 0, PO 4 (.nilck (.s 0)), PO 5 (.fldAddr 0 (.s 0)), PO 6 (.load false 1 (.s 0)), PO 7 (.call 73 [(.s 0)]), PO 8 (.mov (.s 0)), ⟨.push, 9, (some ((.s 0), true)), .mov (.v 0)⟩, ⟨.push, 10, (some ((.s 1), true)), .nilck (.s 0)⟩, ⟨.push, 11, (some ((.s 2), true)), .fldAddr 1 (.s 0)⟩, ⟨.push, 12, (some ((.s 3), true)), .load false 1 (.s 0)⟩, ⟨.push, 13, (some ((.s 4), true)), .call 25 [(.s 0)]⟩, PO 14 (.pick (.s 5) (.s 0) (.c (.bool false))), PO 15 (.mov (.s 0)), ⟨.push, 16, (some ((.s 0),
 true)), .mov (.v 0)⟩, ⟨.push, 17, (some ((.s 1), true)), .nilck (.s 0)⟩, ⟨.push, 18, (some ((.s 2), true)), .fldAddr 2 (.s 0)⟩, ⟨.push, 19, (some ((.s 3), true)), .load false 1 (.s 0)⟩, ⟨.push, 20, (some ((.s 4), true)), .call 25 [(.s 0)]⟩, PO 21 (.pick (.s 5) (.s 0) (.c (.bool false))), PO 22 (.mov (.s 0)), ⟨.push, 23, (some ((.s 0), true)), .mov (.v 0)⟩, ⟨.push, 24, (some ((.s 1), true)), .nilck (.s 0)⟩, ⟨.push, 25, (some ((.s 2), true)), .fldAddr 3 (.s 0)⟩, ⟨.push, 26, (some ((.s 3), true)), .load false 1 (.s 0)⟩, ⟨.push, 27, (some ((.s 4), true)), .call 74 [(.s 0)]⟩, PO 28 (.pick (.s 5)
 (.s 0) (.c (.bool false))), VS 1 2 0]) (.ret)), [.t 1]⟩
noncomputable def t_62 : List (Nat × Ctr) := [(73, c_57), (25, c_60), (74, c_61)]
theorem lk_62_73 : look t_62 73 = some c_57 := rfl
theorem lk_62_25 : look t_62 25 = some c_60 := rfl
theorem lk_62_74 : look t_62 74 = some c_61 := rfl
noncomputable def c_62 : Ctr := mkF t_62 ir49 [.bor]
theorem s_62 : Sound Tryz.prog 49 c_62 := mkF_sound _ rfl (snd_cons s_57 (snd_cons s_60 (snd_cons s_61 snd_nil))) (by kernel_rfl : chkFn Tryz.prog 49 ir49 ir49_v = true)
theorem M_62 : c_62.modes = [.bor] := rfl
theorem Fl_62 : c_62.flat = true := rfl
attribute [go_sem] M_62 Fl_62
attribute [go_sem] lk_62_73 lk_62_25 lk_62_74
theorem Fs_62 {e_ : Estimate} {y_ : Bool} (h : spec_l06One e_ = some y_) : c_62.F [.ptr 5 [Estimate_av e_] 0 0] = ⟨true, .bool y_, [.any]⟩ := by
 refine mkF_E rfl ?_
 dsimp only [spec_l06One] at h
 obtain ⟨y_1, z1, h⟩ := bd_some h
 have fz1 := Fs_57 z1
 try simp only [go_sem] at fz1
 obtain ⟨z2, h⟩ := ck_some h
 rcases or_split z2 with ⟨gz2, z2⟩ | gz2
 ·try simp only [go_sem, n1, n2, n3, n4] at gz2
  all_goals
  obtain ⟨y_2, hz2⟩ := Option.isSome_iff_exists.1 z2
  have fz2 := Fs_60 hz2
  try simp only [go_sem, n1, n2, n3, n4, gz2] at hz2
  all_goals
  try simp only [go_sem, gz2] at fz2
  obtain ⟨z3, h⟩ := ck_some h
  rcases or_split z3 with ⟨gz3, z3⟩ | gz3
  ·try simp only [go_sem, n1, n2, n3, n4, gz2, hz2] at gz3
   all_goals
   obtain ⟨y_3, hz3⟩ := Option.isSome_iff_exists.1 z3
   have fz3 := Fs_60 hz3
   try simp only [go_sem, n1, n2, n3, n4, gz2, hz2, gz3] at hz3
   all_goals
   try simp only [go_sem, gz2, hz2, gz3] at fz3
   obtain ⟨z4, h⟩ := ck_some h
   rcases or_split z4 with ⟨gz4, z4⟩ | gz4
   ·try simp only [go_sem, n1, n2, n3, n4, gz2, hz2, gz3, hz3] at gz4
    all_goals
    obtain ⟨y_4, hz4⟩ := Option.isSome_iff_exists.1 z4
    have fz4 := Fs_61 hz4
    try simp only [go_sem, n1, n2, n3, n4, gz2, hz2, gz3, hz3, gz4] at hz4
    all_goals
    try simp only [go_sem, gz2, hz2, gz3, hz3, gz4] at fz4
    obtain rfl := so_some h
    refine ⟨0, fun L hL => ?_⟩
    simp only [go_sem, ir49, fz1, gz2, hz2, fz2, gz3, hz3, fz3, gz4, hz4, fz4]
   ·rcases and_f gz4 with gz4a | ⟨gz4a, gz4b⟩
    ·try simp only [go_sem, n1, n2, n3, n4, gz2, hz2, gz3, hz3] at gz4a
     all_goals
     (simp_all)
    ·obtain ⟨gz4aa, gz4ab⟩ := and_t gz4a
     try simp only [go_sem, n1, n2, n3, n4, gz2, hz2, gz3, hz3] at gz4aa
     all_goals
     try simp only [go_sem, n1, n2, n3, n4, gz2, hz2, gz3, hz3, gz4aa] at gz4ab
     all_goals
     try simp only [go_sem, n1, n2, n3, n4, gz2, hz2, gz3, hz3, gz4aa, gz4ab] at gz4b
     all_goals
     obtain rfl := so_some h
     refine ⟨0, fun L hL => ?_⟩
     simp only [go_sem, ir49, fz1, gz2, hz2, fz2, gz3, hz3, fz3, gz4aa, gz4ab, gz4b]
  ·rcases and_f gz3 with gz3a | ⟨gz3a, gz3b⟩
   ·try simp only [go_sem, n1, n2, n3, n4, gz2, hz2] at gz3a
    all_goals
    (simp_all)
   ·try simp only [go_sem, n1, n2, n3, n4, gz2, hz2] at gz3a
    all_goals
    try simp only [go_sem, n1, n2, n3, n4, gz2, hz2, gz3a] at gz3b
    all_goals
    obtain ⟨z4, h⟩ := ck_some h
    obtain rfl := so_some h
    refine ⟨0, fun L hL => ?_⟩
    simp only [go_sem, ir49, fz1, gz2, hz2, fz2, gz3a, gz3b]
 ·try simp only [go_sem, n1, n2, n3, n4] at gz2
  all_goals
  obtain ⟨z3, h⟩ := ck_some h
  obtain ⟨z4, h⟩ := ck_some h
  obtain rfl := so_some h
  refine ⟨0, fun L hL => ?_⟩
  simp only [go_sem, ir49, fz1, gz2]


def ir19_b0 : IR := .seq (.test false [ PM 4 2, PM 5 0, PO 6 (.len false (.s 0)), PO 7 (.bin false .lss (.s 2) (.s 0))] (.s 0) (.skip) (.exit 0)) (.seq (.block 1 (.anyo 20 [ SO 0 10 (.mov (.v 0)), SO 1 11 (.mov (.v 2)), SO 2 12 (.ixAddr 5 (.s 0) (.s 1)), SO 3 13 (.callp 49 [(.s 2)]), SO 4 14 (.un .not (.s 3)), SO 5 15 (.mov (.s 4)), ⟨.slot 6, 16, (some ((.s 5), false)), .mov (.v 2)⟩, ⟨.slot 7, 17, (some ((.s 5), false)), .bin false .gtr (.s 6) (I6 0)⟩, ⟨.slot 8, 18, (some ((.s 5), false)), .mov (.s 7)⟩, ⟨.slot 9, 19, (some ((.s 8), true)), .mov (.v 0)⟩, ⟨.slot 10, 20, (some ((.s 8), true)),
 .mov (.v 2)⟩, ⟨.slot 11, 21, (some ((.s 8), true)), .bin false .sub (.s 10) (I6 1)⟩, ⟨.slot 12, 22, (some ((.s 8), true)), .ixAddr 5 (.s 9) (.s 11)⟩, ⟨.slot 13, 23, (some ((.s 8), true)), .mov (.v 0)⟩, ⟨.slot 14, 24, (some ((.s 8), true)), .mov (.v 2)⟩, ⟨.slot 15, 25, (some ((.s 8), true)), .ixAddr 5 (.s 13) (.s 14)⟩, ⟨.slot 16, 26, (some ((.s 8), true)), .call 50 [(.s 12), (.s 15)]⟩, ⟨.slot 17, 27, (some ((.s 8), true)), .un .not (.s 16)⟩, ⟨.slot 18, 28, (some ((.s 5), false)), .pick (.s 8) (.s 17) (.c (.bool false))⟩, SO 19 29 (.pick (.s 5) (.c (.bool true)) (.s 18))] [] (.cond (.s 19) (.seq
 (.region false [ VO 1 2 (.mov (.c (.bool false)))]) (.ret)) (.skip)))) (.region false [ PM 8 2, PO 9 (.bin false .add (.s 0) (I6 1)), VS 2 3 0]))
def ir19_k0 : List Bool := [true, false, true]
def ir19_o0 : List Bool := [true, false, false]
def ir19_r0 : List Bool := [false, true, false]
def ir19_v : List Nat := [0, 2, 3]
def ir19 : AFn := ⟨1, 3, .seq (.region false [ VO 1 2 (.mov (.c (.bool false)))]) (.seq (.seq (.region false [ VO 2 3 (.mov (I6 0))]) (.block 0 (.loop ir19_k0 ir19_o0 ir19_r0 ir19_b0))) (.seq (.region false [ PM 30 0, PO 31 (.len false (.s 0)), PO 32 (.bin false .leq (.s 0) (I6 100)), VS 1 2 0]) (.ret))), [.t 1]⟩
noncomputable def t_63 : List (Nat × Ctr) := [(49, c_62), (50, c_8)]
theorem lk_63_49 : look t_63 49 = some c_62 := rfl
theorem lk_63_50 : look t_63 50 = some c_8 := rfl
noncomputable def c_63 : Ctr := mkF t_63 ir19 [.bor]
theorem s_63 : Sound Tryz.prog 19 c_63 := mkF_sound _ rfl (snd_cons s_62 (snd_cons s_8 snd_nil)) (by kernel_rfl : chkFn Tryz.prog 19 ir19 ir19_v = true)
theorem M_63 : c_63.modes = [.bor] := rfl
theorem Fl_63 : c_63.flat = true := rfl
attribute [go_sem] M_63 Fl_63
attribute [go_sem] lk_63_49 lk_63_50
def E_63_l1 (list : List Estimate) : Int → St
 | i => ⟨[.sl 5 (List.map Estimate_av list), .any, .int .i64 i], [], [], true⟩
def R_63_l1 (list : List Estimate) : (Unit ⊕ Bool) → Res
 | .inl y => (.exit 0, ⟨[.sl 5 (List.map Estimate_av list), .any, .any], [], [], true⟩)
 | .inr y => (.ret, ⟨[.any, .bool y, .any], [], [], true⟩)
theorem spec_l06Ok_l1_ex {list : List Estimate} {sgm_ : Int} {rho_ : Unit ⊕ Bool} (h : whileE (spec_l06Ok_l1 list) sgm_ = some rho_) : ∃ L0, ∀ L, L0 ≤ L → iter (exec (look t_63) L ir19_b0) ir19_k0 ir19_o0 ir19_r0 L (E_63_l1 list sgm_) = R_63_l1 list rho_ := by
 refine loop_ex (E := E_63_l1 list) (R := R_63_l1 list) (fun y => by first | (intro c; cases c) | (rcases y with y | y <;> (intro c; cases c)) | (rcases y with y | y | y <;> (intro c; cases c))) ?_ h
 clear h
 intro i o_ h
 dsimp only [spec_l06Ok_l1] at h
 rcases it_some h with ⟨z1, h⟩ | ⟨z1, h⟩
 ·try simp only [go_sem, n1, n2, n3, n4] at z1
  all_goals
  obtain ⟨z2, h⟩ := ck_some h
  have lz2 := ix_lt z2
  have xz2 := getD_mapD Estimate_av list lz2
  try simp only [go_sem] at lz2
  try simp only [go_sem] at xz2
  try simp only [go_sem, n1, n2, n3, n4, z1] at z2
  all_goals
  obtain ⟨y_3, z3, h⟩ := bd_some h
  have fz3 := Fs_62 z3
  try simp only [go_sem, z1, z2] at fz3
  obtain ⟨z4, h⟩ := ck_some h
  rcases or_split z4 with ⟨gz4, z4⟩ | gz4
  ·try simp only [go_sem, n1, n2, n3, n4, z1, z2] at gz4
   all_goals
   have lz4 := ix_lt z4
   have xz4 := getD_mapD Estimate_av list lz4
   try simp only [go_sem] at lz4
   try simp only [go_sem] at xz4
   try simp only [go_sem, n1, n2, n3, n4, z1, z2, gz4] at z4
   all_goals
   obtain ⟨z5, h⟩ := ck_some h
   rcases or_split z5 with ⟨gz5, z5⟩ | gz5
   ·try simp only [go_sem, n1, n2, n3, n4, z1, z2, gz4, z4] at gz5
    all_goals
    obtain ⟨y_5, hz5⟩ := Option.isSome_iff_exists.1 z5
    have fz5 := Fs_8 hz5
    try simp only [go_sem, n1, n2, n3, n4, z1, z2, gz4, z4, gz5] at hz5
    all_goals
    try simp only [go_sem, z1, z2, gz4, z4, gz5] at fz5
    rcases it_some h with ⟨z6, h⟩ | ⟨z6, h⟩
    ·try simp only [go_sem, n1, n2, n3, n4, z1, z2, gz4, z4, gz5, hz5] at z6
     all_goals
     obtain rfl := so_some h
     refine ⟨0, fun L hL => ?_⟩
     simp only [go_sem, ir19, E_63_l1, R_63_l1, ir19_b0, ir19_k0, ir19_o0, ir19_r0, z1, z2, lz2, xz2, fz3, gz4, z4, lz4, xz4, gz5, hz5, fz5, z6]
    ·try simp only [go_sem, n1, n2, n3, n4, z1, z2, gz4, z4, gz5, hz5] at z6
     all_goals
     obtain rfl := so_some h
     refine ⟨0, fun L hL => ?_⟩
     simp only [go_sem, ir19, E_63_l1, R_63_l1, ir19_b0, ir19_k0, ir19_o0, ir19_r0, z1, z2, lz2, xz2, fz3, gz4, z4, lz4, xz4, gz5, hz5, fz5, z6]
   ·rcases and_f gz5 with gz5a | ⟨gz5a, gz5b⟩
    ·try simp only [go_sem, n1, n2, n3, n4, z1, z2, gz4, z4] at gz5a
     all_goals
     (simp_all)
    ·have gz5an := no_t gz5a
     have gz5ann := no_f gz5an
     try simp only [go_sem, n1, n2, n3, n4, z1, z2, gz4, z4] at gz5ann
     all_goals
     try simp only [go_sem, n1, n2, n3, n4, z1, z2, gz4, z4, gz5ann] at gz5b
     all_goals
     rcases it_some h with ⟨z6, h⟩ | ⟨z6, h⟩
     ·try simp only [go_sem, n1, n2, n3, n4, z1, z2, gz4, z4, gz5ann, gz5b] at z6
      all_goals
      (simp_all)
     ·try simp only [go_sem, n1, n2, n3, n4, z1, z2, gz4, z4, gz5ann, gz5b] at z6
      all_goals
      obtain rfl := so_some h
      refine ⟨0, fun L hL => ?_⟩
      simp only [go_sem, ir19, E_63_l1, R_63_l1, ir19_b0, ir19_k0, ir19_o0, ir19_r0, z1, z2, lz2, xz2, fz3, gz4, z4, lz4, xz4, gz5ann, gz5b, z6]
  ·rcases and_f gz4 with gz4a | ⟨gz4a, gz4b⟩
   ·have gz4an := no_f gz4a
    have gz4ann := no_t gz4an
    try simp only [go_sem, n1, n2, n3, n4, z1, z2] at gz4ann
    all_goals
    obtain ⟨z5, h⟩ := ck_some h
    rcases it_some h with ⟨z6, h⟩ | ⟨z6, h⟩
    ·try simp only [go_sem, n1, n2, n3, n4, z1, z2, gz4ann] at z6
     all_goals
     obtain rfl := so_some h
     refine ⟨0, fun L hL => ?_⟩
     simp only [go_sem, ir19, E_63_l1, R_63_l1, ir19_b0, ir19_k0, ir19_o0, ir19_r0, z1, z2, lz2, xz2, fz3, gz4ann, z6]
    ·try simp only [go_sem, n1, n2, n3, n4, z1, z2, gz4ann] at z6
     all_goals
     (simp_all)
   ·have gz4an := no_t gz4a
    have gz4ann := no_f gz4an
    try simp only [go_sem, n1, n2, n3, n4, z1, z2] at gz4ann
    all_goals
    try simp only [go_sem, n1, n2, n3, n4, z1, z2, gz4ann] at gz4b
    all_goals
    obtain ⟨z5, h⟩ := ck_some h
    rcases it_some h with ⟨z6, h⟩ | ⟨z6, h⟩
    ·try simp only [go_sem, n1, n2, n3, n4, z1, z2, gz4ann, gz4b] at z6
     all_goals
     (simp_all)
    ·try simp only [go_sem, n1, n2, n3, n4, z1, z2, gz4ann, gz4b] at z6
     all_goals
     obtain rfl := so_some h
     refine ⟨0, fun L hL => ?_⟩
     simp only [go_sem, ir19, E_63_l1, R_63_l1, ir19_b0, ir19_k0, ir19_o0, ir19_r0, z1, z2, lz2, xz2, fz3, gz4ann, gz4b, z6]
 ·try simp only [go_sem, n1, n2, n3, n4] at z1
  all_goals
  obtain rfl := so_some h
  refine ⟨0, fun L hL => ?_⟩
  simp only [go_sem, ir19, E_63_l1, R_63_l1, ir19_b0, ir19_k0, ir19_o0, ir19_r0, z1]

theorem Fs_63 {list : List Estimate} {y_ : Bool} (h : spec_l06Ok list = some y_) : c_63.F [.sl 5 (List.map Estimate_av list)] = ⟨true, .bool y_, [.any]⟩ := by
 refine mkF_E rfl ?_
 dsimp only [spec_l06Ok] at h
 obtain ⟨y_7, z7, h⟩ := bd_some h
 obtain ⟨Lz7, ez7⟩ := spec_l06Ok_l1_ex z7
 rcases y_7 with y_7a | y_7b
 ·dsimp only at h
  obtain rfl := so_some h
  refine ⟨Lz7, fun L hL => ?_⟩
  have ez7 := ez7 L (by omega)
  try simp only [go_sem, E_63_l1, R_63_l1, ir19_k0, ir19_o0, ir19_r0] at ez7
  simp only [go_sem, ir19, E_63_l1, R_63_l1, ir19_k0, ir19_o0, ir19_r0, ez7]
 ·dsimp only at h
  obtain rfl := so_some h
  refine ⟨Lz7, fun L hL => ?_⟩
  have ez7 := ez7 L (by omega)
  try simp only [go_sem, E_63_l1, R_63_l1, ir19_k0, ir19_o0, ir19_r0] at ez7
  simp only [go_sem, ir19, E_63_l1, R_63_l1, ir19_k0, ir19_o0, ir19_r0, ez7]


def ir51_b0 : IR := .seq (.test false [ PM 9 3, PO 10 (.bin false .gtr (.s 0) (I6 0)), PO 11 (.mov (.s 0)), ⟨.push, 12, (some ((.s 0), true)), .mov (.v 0)⟩, ⟨.push, 13, (some ((.s 1), true)), .mov (.v 3)⟩, ⟨.push, 14, (some ((.s 2), true)), .bin false .sub (.s 0) (I6 1)⟩, ⟨.push, 15, (some ((.s 3), true)), .ixAddr 1 (.s 2) (.s 0)⟩, ⟨.push, 16, (some ((.s 4), true)), .load false 1 (.s 0)⟩, ⟨.push, 17, (some ((.s 5), true)), .mov (.v 1)⟩, ⟨.push, 18, (some ((.s 6), true)), .bin false .gtr (.s 1) (.s 0)⟩, PO 19 (.pick (.s 7) (.s 0) (.c (.bool false)))] (.s 0) (.skip) (.exit 0)) (.block 1 (.region
 false [ PM 20 3, PO 21 (.bin false .sub (.s 0) (I6 1)), VS 3 5 0]))
def ir51_k0 : List Bool := [true, true, false, true, false]
def ir51_o0 : List Bool := [true, true, false, true, false]
def ir51_r0 : List Bool := [false, false, true, false, false]
def ir51_v : List Nat := [0, 1, 4, 5, 6]
def ir51 : AFn := ⟨2, 5, .seq (.region false [ VO 2 4 (.newnil 1)]) (.seq (.region false [ PM 7 0, PO 8 (.len false (.s 0)), VS 3 5 0]) (.seq (.block 0 (.loop ir51_k0 ir51_o0 ir51_r0 ir51_b0)) (.seq (.test false [ PM 22 3, PO 23 (.bin false .gtr (.s 0) (I6 0)), PO 24 (.mov (.s 0)), ⟨.push, 25, (some ((.s 0), true)), .mov (.v 0)⟩, ⟨.push, 26, (some ((.s 1), true)), .mov (.v 3)⟩, ⟨.push, 27, (some ((.s 2), true)), .bin false .sub (.s 0) (I6 1)⟩, ⟨.push, 28, (some ((.s 3), true)), .ixAddr 1 (.s 2) (.s 0)⟩, ⟨.push, 29, (some ((.s 4), true)), .load false 1 (.s 0)⟩, ⟨.push, 30, (some ((.s 5), true)),
 .mov (.v 1)⟩, ⟨.push, 31, (some ((.s 6), true)), .bin false .eql (.s 1) (.s 0)⟩, PO 32 (.pick (.s 7) (.s 0) (.c (.bool false)))] (.s 0) (.seq (.region false [ PM 33 0, VS 2 4 0]) (.ret)) (.skip)) (.seq (.region false [ PO 34 (.mkSl 1 (.str []) 0 []), PM 35 0, PM 36 3, PO 37 (.slice 1 (.s 1) none (some (.s 0))), PO 38 (.app 1 16 (.str []) (.s 3) (.s 0)), VS 4 6 0]) (.seq (.region false [ PM 39 4, PM 40 1, PO 41 (.mkSl 1 (.str []) 1 [(0, (.s 0))]), PO 42 (.app 1 16 (.str []) (.s 2) (.s 0)), VS 4 6 0]) (.seq (.region false [ PM 43 4, PM 44 0, PM 45 3, PO 46 (.slice 1 (.s 1) (some (.s 0)) none),
 PO 47 (.app 1 16 (.str []) (.s 3) (.s 0)), VS 2 4 0]) (.ret))))))), [.t 2]⟩
noncomputable def t_64 : List (Nat × Ctr) := []
noncomputable def c_64 : Ctr := mkZ t_64 ir51 [.bor, .bor]
theorem s_64 : Sound Tryz.prog 51 c_64 := mkZ_sound _ snd_nil (by kernel_rfl : chkFn Tryz.prog 51 ir51 ir51_v = true)
theorem M_64 : c_64.modes = [.bor, .bor] := rfl
theorem Fl_64 : c_64.flat = false := rfl
attribute [go_sem] M_64 Fl_64
def E_64_l1 (list : List (List UInt8)) (name : List UInt8) : Int → St
 | k => ⟨[.sl 1 (List.map AV.str list), .str name, .any, .int .i64 k, .any], [], [], true⟩
def R_64_l1 (list : List (List UInt8)) (name : List UInt8) (y : Int) : Res := (.exit 0, ⟨[.sl 1 (List.map AV.str list), .str name, .any, .int .i64 y, .any], [], [], true⟩)
theorem spec_l06PutName_l1_ex {list : List (List UInt8)} {name : List UInt8} {sgm_ : Int} {rho_ : Int} (h : whileE (spec_l06PutName_l1 list name) sgm_ = some rho_) : ∃ L0, ∀ L, L0 ≤ L → iter (exec (look t_64) L ir51_b0) ir51_k0 ir51_o0 ir51_r0 L (E_64_l1 list name sgm_) = R_64_l1 list name rho_ := by
 refine loop_ex (E := E_64_l1 list name) (R := R_64_l1 list name) (fun y => by first | (intro c; cases c) | (rcases y with y | y <;> (intro c; cases c)) | (rcases y with y | y | y <;> (intro c; cases c))) ?_ h
 clear h
 intro k o_ h
 dsimp only [spec_l06PutName_l1] at h
 obtain ⟨z1, h⟩ := ck_some h
 rcases or_split z1 with ⟨gz1, z1⟩ | gz1
 ·try simp only [go_sem, n1, n2, n3, n4] at gz1
  all_goals
  have lz1 := ix_lt z1
  have xz1 := getD_mapD AV.str list lz1
  try simp only [go_sem] at lz1
  try simp only [go_sem] at xz1
  try simp only [go_sem, n1, n2, n3, n4, gz1] at z1
  all_goals
  rcases it_some h with ⟨z2, h⟩ | ⟨z2, h⟩
  ·try simp only [go_sem, n1, n2, n3, n4, gz1, z1] at z2
   all_goals
   obtain rfl := so_some h
   refine ⟨0, fun L hL => ?_⟩
   simp only [go_sem, ir51, E_64_l1, R_64_l1, ir51_b0, ir51_k0, ir51_o0, ir51_r0, gz1, z1, lz1, xz1, z2]
  ·try simp only [go_sem, n1, n2, n3, n4, gz1, z1] at z2
   all_goals
   obtain rfl := so_some h
   refine ⟨0, fun L hL => ?_⟩
   simp only [go_sem, ir51, E_64_l1, R_64_l1, ir51_b0, ir51_k0, ir51_o0, ir51_r0, gz1, z1, lz1, xz1, z2]
 ·try simp only [go_sem, n1, n2, n3, n4] at gz1
  all_goals
  rcases it_some h with ⟨z2, h⟩ | ⟨z2, h⟩
  ·try simp only [go_sem, n1, n2, n3, n4, gz1] at z2
   all_goals
   (simp_all)
  ·try simp only [go_sem, n1, n2, n3, n4, gz1] at z2
   all_goals
   obtain rfl := so_some h
   refine ⟨0, fun L hL => ?_⟩
   simp only [go_sem, ir51, E_64_l1, R_64_l1, ir51_b0, ir51_k0, ir51_o0, ir51_r0, gz1, z2]

theorem Fs_64 {list : List (List UInt8)} {name : List UInt8} {y_ : (List (List UInt8))} (h : spec_l06PutName list name = some y_) : c_64.F [.sl 1 (List.map AV.str list), .str name] = ⟨true, .sl 1 (List.map AV.str y_), [.any, .any]⟩ := by
 refine mkZ_E ?_
 dsimp only [spec_l06PutName] at h
 obtain ⟨y_3, z3, h⟩ := bd_some h
 obtain ⟨Lz3, ez3⟩ := spec_l06PutName_l1_ex z3
 obtain ⟨z4, h⟩ := ck_some h
 rcases or_split z4 with ⟨gz4, z4⟩ | gz4
 ·try simp only [go_sem, n1, n2, n3, n4] at gz4
  all_goals
  have lz4 := ix_lt z4
  have xz4 := getD_mapD AV.str list lz4
  try simp only [go_sem] at lz4
  try simp only [go_sem] at xz4
  try simp only [go_sem, n1, n2, n3, n4, gz4] at z4
  all_goals
  rcases it_some h with ⟨z5, h⟩ | ⟨z5, h⟩
  ·try simp only [go_sem, n1, n2, n3, n4, gz4, z4] at z5
   all_goals
   obtain rfl := so_some h
   refine ⟨Lz3, fun L hL => ?_⟩
   have ez3 := ez3 L (by omega)
   try simp only [go_sem, E_64_l1, R_64_l1, ir51_k0, ir51_o0, ir51_r0, gz4, z4, z5] at ez3
   simp only [go_sem, ir51, E_64_l1, R_64_l1, ir51_k0, ir51_o0, ir51_r0, gz4, z4, lz4, xz4, z5, ez3]
  ·try simp only [go_sem, n1, n2, n3, n4, gz4, z4] at z5
   all_goals
   obtain ⟨z6, h⟩ := ck_some h
   try simp only [go_sem, n1, n2, n3, n4, gz4, z4, z5] at z6
   all_goals
   obtain ⟨z7, h⟩ := ck_some h
   try simp only [go_sem, n1, n2, n3, n4, gz4, z4, z5, z6] at z7
   all_goals
   obtain ⟨z8, h⟩ := ck_some h
   try simp only [go_sem, n1, n2, n3, n4, gz4, z4, z5, z6, z7] at z8
   all_goals
   obtain ⟨z9, h⟩ := ck_some h
   try simp only [go_sem, n1, n2, n3, n4, gz4, z4, z5, z6, z7, z8] at z9
   all_goals
   obtain ⟨z10, h⟩ := ck_some h
   try simp only [go_sem, n1, n2, n3, n4, gz4, z4, z5, z6, z7, z8, z9] at z10
   all_goals
   obtain rfl := so_some h
   refine ⟨Lz3, fun L hL => ?_⟩
   have ez3 := ez3 L (by omega)
   try simp only [go_sem, E_64_l1, R_64_l1, ir51_k0, ir51_o0, ir51_r0, gz4, z4, z5, z6, z7, z8, z9, z10] at ez3
   simp only [go_sem, ir51, E_64_l1, R_64_l1, ir51_k0, ir51_o0, ir51_r0, gz4, z4, lz4, xz4, z5, z6, z7, z8, z9, z10, ez3]
 ·try simp only [go_sem, n1, n2, n3, n4] at gz4
  all_goals
  rcases it_some h with ⟨z5, h⟩ | ⟨z5, h⟩
  ·try simp only [go_sem, n1, n2, n3, n4, gz4] at z5
   all_goals
   (simp_all)
  ·try simp only [go_sem, n1, n2, n3, n4, gz4] at z5
   all_goals
   obtain ⟨z6, h⟩ := ck_some h
   try simp only [go_sem, n1, n2, n3, n4, gz4, z5] at z6
   all_goals
   obtain ⟨z7, h⟩ := ck_some h
   try simp only [go_sem, n1, n2, n3, n4, gz4, z5, z6] at z7
   all_goals
   obtain ⟨z8, h⟩ := ck_some h
   try simp only [go_sem, n1, n2, n3, n4, gz4, z5, z6, z7] at z8
   all_goals
   obtain ⟨z9, h⟩ := ck_some h
   try simp only [go_sem, n1, n2, n3, n4, gz4, z5, z6, z7, z8] at z9
   all_goals
   obtain ⟨z10, h⟩ := ck_some h
   try simp only [go_sem, n1, n2, n3, n4, gz4, z5, z6, z7, z8, z9] at z10
   all_goals
   obtain rfl := so_some h
   refine ⟨Lz3, fun L hL => ?_⟩
   have ez3 := ez3 L (by omega)
   try simp only [go_sem, E_64_l1, R_64_l1, ir51_k0, ir51_o0, ir51_r0, gz4, z5, z6, z7, z8, z9, z10] at ez3
   simp only [go_sem, ir51, E_64_l1, R_64_l1, ir51_k0, ir51_o0, ir51_r0, gz4, z5, z6, z7, z8, z9, z10, ez3]


def ir20_b0 : IR := .seq (.test false [ PM 10 4, PM 11 0, PO 12 (.len false (.s 0)), PO 13 (.bin false .lss (.s 2) (.s 0))] (.s 0) (.skip) (.exit 0)) (.seq (.block 1 (.region false [ PM 16 3, PM 17 0, PM 18 4, PO 19 (.ixAddr 5 (.s 1) (.s 0)), PO 20 (.fldAddr 1 (.s 0)), PO 21 (.load false 1 (.s 0)), PO 22 (.call 51 [(.s 5), (.s 0)]), VS 3 4 0])) (.region false [ PM 14 4, PO 15 (.bin false .add (.s 0) (I6 1)), VS 4 5 0]))
def ir20_k0 : List Bool := [true, false, false, true, true]
def ir20_o0 : List Bool := [false, false, false, true, false]
def ir20_r0 : List Bool := [false, true, true, false, false]
def ir20_v : List Nat := [0, 2, 3, 4, 5]
def ir20 : AFn := ⟨1, 5, .seq (.region false [ VO 1 2 (.newnil 1), VO 2 3 (.mov (I6 0))]) (.seq (.test false [ PM 6 0, PO 7 (.call 19 [(.s 0)]), PO 8 (.un .not (.s 0))] (.s 0) (.seq (.region false [ VO 1 2 (.newnil 1), VO 2 3 (.mov (I6 1))]) (.ret)) (.skip)) (.seq (.region false [ PO 9 (.pur (.mkSl 1 (.str []) 0 [])), VS 3 4 0]) (.seq (.seq (.region false [ VO 4 5 (.mov (I6 0))]) (.block 0 (.loop ir20_k0 ir20_o0 ir20_r0 ir20_b0))) (.seq (.region false [ PM 23 3, VS 1 2 0, VO 2 3 (.mov (I6 0))]) (.ret))))), [.t 1, .t 2]⟩
noncomputable def t_65 : List (Nat × Ctr) := [(19, c_63), (51, c_64)]
theorem lk_65_19 : look t_65 19 = some c_63 := rfl
theorem lk_65_51 : look t_65 51 = some c_64 := rfl
noncomputable def c_65 : Ctr := mkZ t_65 ir20 [.bor]
theorem s_65 : Sound Tryz.prog 20 c_65 := mkZ_sound _ (snd_cons s_63 (snd_cons s_64 snd_nil)) (by kernel_rfl : chkFn Tryz.prog 20 ir20 ir20_v = true)
theorem M_65 : c_65.modes = [.bor] := rfl
theorem Fl_65 : c_65.flat = false := rfl
attribute [go_sem] M_65 Fl_65
attribute [go_sem] lk_65_19 lk_65_51
def E_65_l1 (list : List Estimate) : ((List (List UInt8)) × Int) → St
 | (out, i) => ⟨[.sl 5 (List.map Estimate_av list), .any, .any, .sl 1 (List.map AV.str out), .int .i64 i], [], [], true⟩
def R_65_l1 (list : List Estimate) (y : (List (List UInt8))) : Res := (.exit 0, ⟨[.any, .any, .any, .sl 1 (List.map AV.str y), .any], [], [], true⟩)
theorem spec_StarsIn_l1_ex {list : List Estimate} {sgm_ : (List (List UInt8)) × Int} {rho_ : (List (List UInt8))} (h : whileE (spec_StarsIn_l1 list) sgm_ = some rho_) : ∃ L0, ∀ L, L0 ≤ L → iter (exec (look t_65) L ir20_b0) ir20_k0 ir20_o0 ir20_r0 L (E_65_l1 list sgm_) = R_65_l1 list rho_ := by
 refine loop_ex (E := E_65_l1 list) (R := R_65_l1 list) (fun y => by first | (intro c; cases c) | (rcases y with y | y <;> (intro c; cases c)) | (rcases y with y | y | y <;> (intro c; cases c))) ?_ h
 clear h
 rintro ⟨out, i⟩ o_ h
 dsimp only [spec_StarsIn_l1] at h
 rcases it_some h with ⟨z3, h⟩ | ⟨z3, h⟩
 ·try simp only [go_sem, n1, n2, n3, n4] at z3
  all_goals
  obtain ⟨z4, h⟩ := ck_some h
  have lz4 := ix_lt z4
  have xz4 := getD_mapD Estimate_av list lz4
  try simp only [go_sem] at lz4
  try simp only [go_sem] at xz4
  try simp only [go_sem, n1, n2, n3, n4, z3] at z4
  all_goals
  obtain ⟨y_5, z5, h⟩ := bd_some h
  have fz5 := Fs_64 z5
  try simp only [go_sem, z3, z4] at fz5
  obtain rfl := so_some h
  refine ⟨0, fun L hL => ?_⟩
  simp only [go_sem, ir20, E_65_l1, R_65_l1, ir20_b0, ir20_k0, ir20_o0, ir20_r0, z3, z4, lz4, xz4, fz5]
 ·try simp only [go_sem, n1, n2, n3, n4] at z3
  all_goals
  obtain rfl := so_some h
  refine ⟨0, fun L hL => ?_⟩
  simp only [go_sem, ir20, E_65_l1, R_65_l1, ir20_b0, ir20_k0, ir20_o0, ir20_r0, z3]

theorem Fs_65 {list : List Estimate} {y_ : (List (List UInt8)) × Int} (h : spec_StarsIn list = some y_) : c_65.F [.sl 5 (List.map Estimate_av list)] = ⟨true, .tup [.sl 1 (List.map AV.str y_.1), .int .i64 y_.2], [.any]⟩ := by
 refine mkZ_E ?_
 dsimp only [spec_StarsIn] at h
 obtain ⟨y_1, z1, h⟩ := bd_some h
 have fz1 := Fs_63 z1
 try simp only [go_sem] at fz1
 rcases it_some h with ⟨z2, h⟩ | ⟨z2, h⟩
 ·try simp only [go_sem, n1, n2, n3, n4] at z2
  all_goals
  obtain rfl := so_some h
  refine ⟨0, fun L hL => ?_⟩
  simp only [go_sem, ir20, E_65_l1, R_65_l1, ir20_k0, ir20_o0, ir20_r0, fz1, z2]
 ·try simp only [go_sem, n1, n2, n3, n4] at z2
  all_goals
  obtain ⟨y_6, z6, h⟩ := bd_some h
  obtain ⟨Lz6, ez6⟩ := spec_StarsIn_l1_ex z6
  obtain rfl := so_some h
  refine ⟨Lz6, fun L hL => ?_⟩
  have ez6 := ez6 L (by omega)
  try simp only [go_sem, E_65_l1, R_65_l1, ir20_k0, ir20_o0, ir20_r0, z2] at ez6
  simp only [go_sem, ir20, E_65_l1, R_65_l1, ir20_k0, ir20_o0, ir20_r0, fz1, z2, ez6]


def ir52_b0 : IR := .seq (.test false [ PM 8 3, PO 9 (.bin false .neq (.s 0) (I6 0))] (.s 0) (.skip) (.exit 0)) (.seq (.block 1 (.seq (.region false [ PM 12 3, PO 13 (.bin false .rem (.s 0) (I6 10)), VS 4 5 0]) (.seq (.test false [ PM 14 4, PO 15 (.bin false .lss (.s 0) (I6 0))] (.s 0) (.region false [ PM 16 4, PO 17 (.un .neg (.s 0)), VS 4 5 0]) (.skip)) (.region false [ PM 18 4, PO 19 (.bin false .add (I6 48) (.s 0)), PO 20 (.conv .u8 (.s 0)), PO 21 (.mkSl 1 (.int .u8 (0)) 1 [(0, (.s 0))]), PM 22 2, PO 23 (.app 1 1 (.int .u8 (0)) (.s 1) (.s 0)), VS 2 3 0])))) (.region false [ PM 10 3, PO 11
 (.bin false .quo (.s 0) (I6 10)), VS 3 4 0]))
def ir52_k0 : List Bool := [true, false, true, true, false]
def ir52_o0 : List Bool := [true, false, true, false, false]
def ir52_r0 : List Bool := [false, true, false, false, false]
def ir52_v : List Nat := [0, 2, 3, 4, 5]
def ir52 : AFn := ⟨1, 5, .seq (.region false [ VO 1 2 (.mov (.c (.str [])))]) (.seq (.region false [ PO 6 (.mkSl 1 (.int .u8 (0)) 0 []), VS 2 3 0]) (.seq (.seq (.region false [ PM 7 0, VS 3 4 0]) (.block 0 (.loop ir52_k0 ir52_o0 ir52_r0 ir52_b0))) (.seq (.test false [ PM 24 2, PO 25 (.len false (.s 0)), PO 26 (.bin false .eql (.s 0) (I6 0))] (.s 0) (.seq (.region false [ VO 1 2 (.mov (.c (.str [48])))]) (.ret)) (.skip)) (.seq (.test false [ PM 27 0, PO 28 (.bin false .lss (.s 0) (I6 0))] (.s 0) (.seq (.region false [ PM 29 2, PO 30 (.b2s (.s 0)), PO 31 (.bin false .add (.c (.str [45])) (.s 0)),
 VS 1 2 0]) (.ret)) (.skip)) (.seq (.region false [ PM 32 2, PO 33 (.b2s (.s 0)), VS 1 2 0]) (.ret)))))), [.t 1]⟩
noncomputable def t_66 : List (Nat × Ctr) := []
noncomputable def c_66 : Ctr := mkF t_66 ir52 [.bor]
theorem s_66 : Sound Tryz.prog 52 c_66 := mkF_sound _ rfl snd_nil (by kernel_rfl : chkFn Tryz.prog 52 ir52 ir52_v = true)
theorem M_66 : c_66.modes = [.bor] := rfl
theorem Fl_66 : c_66.flat = true := rfl
attribute [go_sem] M_66 Fl_66
def E_66_l1 (n : Int) : ((List UInt8) × Int) → St
 | (out, k) => ⟨[.int .i64 n, .any, .own 3200000, .int .i64 k, .any], [], [(3200000, ⟨1, List.map byteAV out⟩)], true⟩
def R_66_l1 (n : Int) (y : (List UInt8)) : Res := (.exit 0, ⟨[.int .i64 n, .any, .own 3200000, .any, .any], [], [(3200000, ⟨1, List.map byteAV y⟩)], true⟩)
theorem spec_l01Dec_l1_ex {n : Int} {sgm_ : (List UInt8) × Int} {rho_ : (List UInt8)} (h : whileE (spec_l01Dec_l1 n) sgm_ = some rho_) : ∃ L0, ∀ L, L0 ≤ L → iter (exec (look t_66) L ir52_b0) ir52_k0 ir52_o0 ir52_r0 L (E_66_l1 n sgm_) = R_66_l1 n rho_ := by
 refine loop_ex (E := E_66_l1 n) (R := R_66_l1 n) (fun y => by first | (intro c; cases c) | (rcases y with y | y <;> (intro c; cases c)) | (rcases y with y | y | y <;> (intro c; cases c))) ?_ h
 clear h
 rintro ⟨out, k⟩ o_ h
 dsimp only [spec_l01Dec_l1] at h
 rcases it_some h with ⟨z1, h⟩ | ⟨z1, h⟩
 ·try simp only [go_sem, n1, n2, n3, n4] at z1
  all_goals
  obtain ⟨z2, h⟩ := ck_some h
  try simp only [go_sem, n1, n2, n3, n4, z1] at z2
  all_goals
  rcases it_some h with ⟨z3, h⟩ | ⟨z3, h⟩
  ·try simp only [go_sem, n1, n2, n3, n4, z1, z2] at z3
   all_goals
   obtain ⟨z4, h⟩ := ck_some h
   try simp only [go_sem, n1, n2, n3, n4, z1, z2, z3] at z4
   all_goals
   obtain rfl := so_some h
   refine ⟨0, fun L hL => ?_⟩
   simp only [go_sem, ir52, E_66_l1, R_66_l1, ir52_b0, ir52_k0, ir52_o0, ir52_r0, z1, z2, z3, z4]
  ·try simp only [go_sem, n1, n2, n3, n4, z1, z2] at z3
   all_goals
   obtain ⟨z5, h⟩ := ck_some h
   try simp only [go_sem, n1, n2, n3, n4, z1, z2, z3] at z5
   all_goals
   obtain rfl := so_some h
   refine ⟨0, fun L hL => ?_⟩
   simp only [go_sem, ir52, E_66_l1, R_66_l1, ir52_b0, ir52_k0, ir52_o0, ir52_r0, z1, z2, z3, z5]
 ·try simp only [go_sem, n1, n2, n3, n4] at z1
  all_goals
  obtain rfl := so_some h
  refine ⟨0, fun L hL => ?_⟩
  simp only [go_sem, ir52, E_66_l1, R_66_l1, ir52_b0, ir52_k0, ir52_o0, ir52_r0, z1]

theorem Fs_66 {n : Int} {y_ : (List UInt8)} (h : spec_l01Dec n = some y_) : c_66.F [.int .i64 n] = ⟨true, .str y_, [.any]⟩ := by
 refine mkF_E rfl ?_
 dsimp only [spec_l01Dec] at h
 obtain ⟨y_6, z6, h⟩ := bd_some h
 obtain ⟨Lz6, ez6⟩ := spec_l01Dec_l1_ex z6
 rcases it_some h with ⟨z7, h⟩ | ⟨z7, h⟩
 ·try simp only [go_sem, n1, n2, n3, n4] at z7
  all_goals
  obtain rfl := so_some h
  refine ⟨Lz6, fun L hL => ?_⟩
  have ez6 := ez6 L (by omega)
  try simp only [go_sem, E_66_l1, R_66_l1, ir52_k0, ir52_o0, ir52_r0, z7] at ez6
  simp only [go_sem, ir52, E_66_l1, R_66_l1, ir52_k0, ir52_o0, ir52_r0, z7, ez6]
 ·try simp only [go_sem, n1, n2, n3, n4] at z7
  all_goals
  rcases it_some h with ⟨z8, h⟩ | ⟨z8, h⟩
  ·try simp only [go_sem, n1, n2, n3, n4, z7] at z8
   all_goals
   obtain ⟨z9, h⟩ := ck_some h
   try simp only [go_sem, n1, n2, n3, n4, z7, z8] at z9
   all_goals
   obtain rfl := so_some h
   refine ⟨Lz6, fun L hL => ?_⟩
   have ez6 := ez6 L (by omega)
   try simp only [go_sem, E_66_l1, R_66_l1, ir52_k0, ir52_o0, ir52_r0, z7, z8, z9] at ez6
   simp only [go_sem, ir52, E_66_l1, R_66_l1, ir52_k0, ir52_o0, ir52_r0, z7, z8, z9, ez6]
  ·try simp only [go_sem, n1, n2, n3, n4, z7] at z8
   all_goals
   obtain rfl := so_some h
   refine ⟨Lz6, fun L hL => ?_⟩
   have ez6 := ez6 L (by omega)
   try simp only [go_sem, E_66_l1, R_66_l1, ir52_k0, ir52_o0, ir52_r0, z7, z8] at ez6
   simp only [go_sem, ir52, E_66_l1, R_66_l1, ir52_k0, ir52_o0, ir52_r0, z7, z8, ez6]


def ir38_v : List Nat := [0, 1, 4]
def ir38 : AFn := ⟨2, 3, .seq (.region false [ VO 2 4 (.mov (I6 0))]) (.seq (.test false [ PM 5 0, PM 6 1, PO 7 (.bin false .lss (.s 1) (.s 0))] (.s 0) (.seq (.region false [ PM 8 0, VS 2 4 0]) (.ret)) (.skip)) (.seq (.region false [ PM 9 1, VS 2 4 0]) (.ret))), [.t 2]⟩
noncomputable def t_67 : List (Nat × Ctr) := []
noncomputable def c_67 : Ctr := mkF t_67 ir38 [.bor, .bor]
theorem s_67 : Sound Tryz.prog 38 c_67 := mkF_sound _ rfl snd_nil (by kernel_rfl : chkFn Tryz.prog 38 ir38 ir38_v = true)
theorem M_67 : c_67.modes = [.bor, .bor] := rfl
theorem Fl_67 : c_67.flat = true := rfl
attribute [go_sem] M_67 Fl_67
theorem Fs_67 {a : Int} {b : Int} {y_ : Int} (h : spec_l00Min a b = some y_) : c_67.F [.int .i64 a, .int .i64 b] = ⟨true, .int .i64 y_, [.any, .any]⟩ := by
 refine mkF_E rfl ?_
 dsimp only [spec_l00Min] at h
 rcases it_some h with ⟨z1, h⟩ | ⟨z1, h⟩
 ·try simp only [go_sem, n1, n2, n3, n4] at z1
  all_goals
  obtain rfl := so_some h
  refine ⟨0, fun L hL => ?_⟩
  simp only [go_sem, ir38, z1]
 ·try simp only [go_sem, n1, n2, n3, n4] at z1
  all_goals
  obtain rfl := so_some h
  refine ⟨0, fun L hL => ?_⟩
  simp only [go_sem, ir38, z1]


def ir39_v : List Nat := [0, 1, 4]
def ir39 : AFn := ⟨2, 3, .seq (.region false [ VO 2 4 (.mov (I6 0))]) (.seq (.test false [ PM 5 0, PM 6 1, PO 7 (.bin false .gtr (.s 1) (.s 0))] (.s 0) (.seq (.region false [ PM 8 0, VS 2 4 0]) (.ret)) (.skip)) (.seq (.region false [ PM 9 1, VS 2 4 0]) (.ret))), [.t 2]⟩
noncomputable def t_68 : List (Nat × Ctr) := []
noncomputable def c_68 : Ctr := mkF t_68 ir39 [.bor, .bor]
theorem s_68 : Sound Tryz.prog 39 c_68 := mkF_sound _ rfl snd_nil (by kernel_rfl : chkFn Tryz.prog 39 ir39 ir39_v = true)
theorem M_68 : c_68.modes = [.bor, .bor] := rfl
theorem Fl_68 : c_68.flat = true := rfl
attribute [go_sem] M_68 Fl_68
theorem Fs_68 {a : Int} {b : Int} {y_ : Int} (h : spec_l00Max a b = some y_) : c_68.F [.int .i64 a, .int .i64 b] = ⟨true, .int .i64 y_, [.any, .any]⟩ := by
 refine mkF_E rfl ?_
 dsimp only [spec_l00Max] at h
 rcases it_some h with ⟨z1, h⟩ | ⟨z1, h⟩
 ·try simp only [go_sem, n1, n2, n3, n4] at z1
  all_goals
  obtain rfl := so_some h
  refine ⟨0, fun L hL => ?_⟩
  simp only [go_sem, ir39, z1]
 ·try simp only [go_sem, n1, n2, n3, n4] at z1
  all_goals
  obtain rfl := so_some h
  refine ⟨0, fun L hL => ?_⟩
  simp only [go_sem, ir39, z1]


def ir83_v : List Nat := [0, 2]
def ir83 : AFn := ⟨1, 2, .seq (.region false [ VO 1 2 (.mov (.c (.str [])))]) (.seq (.region false [ PM 3 0, PO 4 (.bin false .quo (.s 0) (I6 100)), PO 5 (.call 52 [(.s 0)]), PM 6 0, PO 7 (.bin false .quo (.s 0) (I6 10)), PO 8 (.bin false .rem (.s 0) (I6 10)), PO 9 (.call 52 [(.s 0)]), PO 10 (.bin false .add (.s 4) (.s 0)), PM 11 0, PO 12 (.bin false .rem (.s 0) (I6 10)), PO 13 (.call 52 [(.s 0)]), PO 14 (.bin false .add (.s 3) (.s 0)), VS 1 2 0]) (.ret)), [.t 1]⟩
noncomputable def t_69 : List (Nat × Ctr) := [(52, c_66)]
theorem lk_69_52 : look t_69 52 = some c_66 := rfl
noncomputable def c_69 : Ctr := mkF t_69 ir83 [.bor]
theorem s_69 : Sound Tryz.prog 83 c_69 := mkF_sound _ rfl (snd_cons s_66 snd_nil) (by kernel_rfl : chkFn Tryz.prog 83 ir83 ir83_v = true)
theorem M_69 : c_69.modes = [.bor] := rfl
theorem Fl_69 : c_69.flat = true := rfl
attribute [go_sem] M_69 Fl_69
attribute [go_sem] lk_69_52
theorem Fs_69 {n : Int} {y_ : (List UInt8)} (h : spec_l02Three n = some y_) : c_69.F [.int .i64 n] = ⟨true, .str y_, [.any]⟩ := by
 refine mkF_E rfl ?_
 dsimp only [spec_l02Three] at h
 obtain ⟨z1, h⟩ := ck_some h
 try simp only [go_sem, n1, n2, n3, n4] at z1
 all_goals
 obtain ⟨y_2, z2, h⟩ := bd_some h
 have fz2 := Fs_66 z2
 try simp only [go_sem, z1] at fz2
 obtain ⟨z3, h⟩ := ck_some h
 try simp only [go_sem, n1, n2, n3, n4, z1] at z3
 all_goals
 obtain ⟨y_4, z4, h⟩ := bd_some h
 have fz4 := Fs_66 z4
 try simp only [go_sem, z1, z3] at fz4
 obtain ⟨z5, h⟩ := ck_some h
 try simp only [go_sem, n1, n2, n3, n4, z1, z3] at z5
 all_goals
 obtain ⟨y_6, z6, h⟩ := bd_some h
 have fz6 := Fs_66 z6
 try simp only [go_sem, z1, z3, z5] at fz6
 obtain ⟨z7, h⟩ := ck_some h
 try simp only [go_sem, n1, n2, n3, n4, z1, z3, z5] at z7
 all_goals
 obtain rfl := so_some h
 refine ⟨0, fun L hL => ?_⟩
 simp only [go_sem, ir83, z1, fz2, z3, fz4, z5, fz6, z7]


def ir53_v : List Nat := [0, 2, 3]
def ir53 : AFn := ⟨1, 3, .seq (.region false [ VO 1 2 (.mov (.c (.str [])))]) (.seq (.region false [ VO 2 3 (.mov (.c (.str [])))]) (.seq (.test false [ PM 4 0, PO 5 (.bin false .lss (.s 0) (I6 0))] (.s 0) (.seq (.region false [ VO 2 3 (.mov (.c (.str [45])))]) (.region false [ PM 6 0, PO 7 (.un .neg (.s 0)), VS 0 0 0])) (.skip)) (.seq (.region false [ PM 8 2, PM 9 0, PO 10 (.bin false .quo (.s 0) (I6 1000)), PO 11 (.call 52 [(.s 0)]), PO 12 (.bin false .add (.s 3) (.s 0)), PO 13 (.bin false .add (.s 0) (.c (.str [46]))), PM 14 0, PO 15 (.bin false .rem (.s 0) (I6 1000)), PO 16 (.call 83 [(.s
 0)]), PO 17 (.bin false .add (.s 3) (.s 0)), VS 1 2 0]) (.ret)))), [.t 1]⟩
noncomputable def t_70 : List (Nat × Ctr) := [(52, c_66), (83, c_69)]
theorem lk_70_52 : look t_70 52 = some c_66 := rfl
theorem lk_70_83 : look t_70 83 = some c_69 := rfl
noncomputable def c_70 : Ctr := mkF t_70 ir53 [.bor]
theorem s_70 : Sound Tryz.prog 53 c_70 := mkF_sound _ rfl (snd_cons s_66 (snd_cons s_69 snd_nil)) (by kernel_rfl : chkFn Tryz.prog 53 ir53 ir53_v = true)
theorem M_70 : c_70.modes = [.bor] := rfl
theorem Fl_70 : c_70.flat = true := rfl
attribute [go_sem] M_70 Fl_70
attribute [go_sem] lk_70_52 lk_70_83
theorem Fs_70 {m : Int} {y_ : (List UInt8)} (h : spec_l02Text m = some y_) : c_70.F [.int .i64 m] = ⟨true, .str y_, [.any]⟩ := by
 refine mkF_E rfl ?_
 dsimp only [spec_l02Text] at h
 rcases it_some h with ⟨z1, h⟩ | ⟨z1, h⟩
 ·try simp only [go_sem, n1, n2, n3, n4] at z1
  all_goals
  obtain ⟨z2, h⟩ := ck_some h
  try simp only [go_sem, n1, n2, n3, n4, z1] at z2
  all_goals
  obtain ⟨y_3, z3, h⟩ := bd_some h
  have fz3 := Fs_66 z3
  try simp only [go_sem, z1, z2] at fz3
  obtain ⟨z4, h⟩ := ck_some h
  try simp only [go_sem, n1, n2, n3, n4, z1, z2] at z4
  all_goals
  obtain ⟨z5, h⟩ := ck_some h
  try simp only [go_sem, n1, n2, n3, n4, z1, z2, z4] at z5
  all_goals
  obtain ⟨y_6, z6, h⟩ := bd_some h
  have fz6 := Fs_69 z6
  try simp only [go_sem, z1, z2, z4, z5] at fz6
  obtain ⟨z7, h⟩ := ck_some h
  try simp only [go_sem, n1, n2, n3, n4, z1, z2, z4, z5] at z7
  all_goals
  obtain rfl := so_some h
  refine ⟨0, fun L hL => ?_⟩
  simp only [go_sem, ir53, z1, z2, fz3, z4, z5, fz6, z7]
 ·try simp only [go_sem, n1, n2, n3, n4] at z1
  all_goals
  obtain ⟨z8, h⟩ := ck_some h
  try simp only [go_sem, n1, n2, n3, n4, z1] at z8
  all_goals
  obtain ⟨y_9, z9, h⟩ := bd_some h
  have fz9 := Fs_66 z9
  try simp only [go_sem, z1, z8] at fz9
  obtain ⟨z10, h⟩ := ck_some h
  try simp only [go_sem, n1, n2, n3, n4, z1, z8] at z10
  all_goals
  obtain ⟨z11, h⟩ := ck_some h
  try simp only [go_sem, n1, n2, n3, n4, z1, z8, z10] at z11
  all_goals
  obtain ⟨y_12, z12, h⟩ := bd_some h
  have fz12 := Fs_69 z12
  try simp only [go_sem, z1, z8, z10, z11] at fz12
  obtain ⟨z13, h⟩ := ck_some h
  try simp only [go_sem, n1, n2, n3, n4, z1, z8, z10, z11] at z13
  all_goals
  obtain rfl := so_some h
  refine ⟨0, fun L hL => ?_⟩
  simp only [go_sem, ir53, z1, z8, fz9, z10, z11, fz12, z13]


def ir21_b0 : IR := .seq (.test false [ PM 12 5, PM 13 0, PO 14 (.len false (.s 0)), PO 15 (.bin false .lss (.s 2) (.s 0))] (.s 0) (.skip) (.exit 0)) (.seq (.block 1 (.test false [ PM 18 0, PM 19 5, PO 20 (.ixAddr 5 (.s 1) (.s 0)), PO 21 (.fldAddr 1 (.s 0)), PO 22 (.load false 1 (.s 0)), PM 23 1, PO 24 (.bin false .eql (.s 1) (.s 0))] (.s 0) (.seq (.region false [ PM 25 3, PO 26 (.bin false .add (.s 0) (I6 1)), VS 3 5 0]) (.test false [ PM 27 0, PM 28 5, PO 29 (.ixAddr 5 (.s 1) (.s 0)), PO 30 (.fldAddr 4 (.s 0)), PO 31 (.load false 1 (.s 0)), PO 32 (.un .not (.s 0))] (.s 0) (.region false [ PM
 33 4, PM 34 0, PM 35 5, PO 36 (.ixAddr 5 (.s 1) (.s 0)), PO 37 (.fldAddr 3 (.s 0)), PO 38 (.load false 1 (.s 0)), PO 39 (.mkSl 1 (.int .i64 (0)) 1 [(0, (.s 0))]), PO 40 (.app 1 8 (.int .i64 (0)) (.s 6) (.s 0)), VS 4 6 0]) (.skip))) (.skip))) (.region false [ PM 16 5, PO 17 (.bin false .add (.s 0) (I6 1)), VS 5 7 0]))
def ir21_k0 : List Bool := [true, true, false, true, true, true, false, false, false]
def ir21_o0 : List Bool := [false, true, false, true, true, false, false, false, false]
def ir21_r0 : List Bool := [false, false, true, false, false, false, false, false, false]
def ir21_b1 : IR := .seq (.test false [ PM 54 8, PM 55 4, PO 56 (.len false (.s 0)), PO 57 (.bin false .lss (.s 2) (.s 0))] (.s 0) (.skip) (.exit 2)) (.seq (.block 3 (.seq (.region false [ PM 60 6, PM 61 4, PM 62 8, PO 63 (.ixAddr 1 (.s 1) (.s 0)), PO 64 (.load false 1 (.s 0)), PO 65 (.call 38 [(.s 4), (.s 0)]), VS 6 8 0]) (.region false [ PM 66 7, PM 67 4, PM 68 8, PO 69 (.ixAddr 1 (.s 1) (.s 0)), PO 70 (.load false 1 (.s 0)), PO 71 (.call 39 [(.s 4), (.s 0)]), VS 7 9 0]))) (.region false [ PM 58 8, PO 59 (.bin false .add (.s 0) (I6 1)), VS 8 10 0]))
def ir21_k1 : List Bool := [false, true, false, true, true, false, true, true, true]
def ir21_o1 : List Bool := [false, true, false, true, false, false, true, true, false]
def ir21_r1 : List Bool := [false, false, true, false, false, false, false, false, false]
def ir21_v : List Nat := [0, 1, 4, 5, 6, 7, 8, 9, 10]
def ir21 : AFn := ⟨2, 9, .seq (.region false [ VO 2 4 (.newnil 1)]) (.seq (.region false [ VO 3 5 (.mov (I6 0))]) (.seq (.region false [ PO 11 (.mkSl 1 (.int .i64 (0)) 0 []), VS 4 6 0]) (.seq (.seq (.region false [ VO 5 7 (.mov (I6 0))]) (.block 0 (.loop ir21_k0 ir21_o0 ir21_r0 ir21_b0))) (.seq (.test false [ PM 41 4, PO 42 (.len false (.s 0)), PO 43 (.bin false .eql (.s 0) (I6 0))] (.s 0) (.seq (.region false [ PM 44 1, PM 45 3, PO 46 (.call 52 [(.s 0)]), PO 47 (.mkSl 1 (.str []) 4 [(0, (.s 2)), (1, (.s 0)), (2, (.c (.str [45]))), (3, (.c (.str [45])))]), VS 2 4 0]) (.ret)) (.skip)) (.seq
 (.region false [ PM 48 4, PO 49 (.ixAddr 1 (.s 0) (I6 0)), PO 50 (.load false 1 (.s 0)), VS 6 8 0]) (.seq (.region false [ PM 51 4, PO 52 (.ixAddr 1 (.s 0) (I6 0)), PO 53 (.load false 1 (.s 0)), VS 7 9 0]) (.seq (.seq (.region false [ VO 8 10 (.mov (I6 1))]) (.block 2 (.loop ir21_k1 ir21_o1 ir21_r1 ir21_b1))) (.seq (.region false [ PM 72 1, PM 73 3, PO 74 (.call 52 [(.s 0)]), PM 75 6, PO 76 (.call 53 [(.s 0)]), PM 77 7, PO 78 (.call 53 [(.s 0)]), PO 79 (.mkSl 1 (.str []) 4 [(0, (.s 6)), (1, (.s 4)), (2, (.s 2)), (3, (.s 0))]), VS 2 4 0]) (.ret))))))))), [.t 2]⟩
noncomputable def t_71 : List (Nat × Ctr) := [(52, c_66), (38, c_67), (39, c_68), (53, c_70)]
theorem lk_71_52 : look t_71 52 = some c_66 := rfl
theorem lk_71_38 : look t_71 38 = some c_67 := rfl
theorem lk_71_39 : look t_71 39 = some c_68 := rfl
theorem lk_71_53 : look t_71 53 = some c_70 := rfl
noncomputable def c_71 : Ctr := mkF t_71 ir21 [.bor, .bor]
theorem s_71 : Sound Tryz.prog 21 c_71 := mkF_sound _ rfl (snd_cons s_66 (snd_cons s_67 (snd_cons s_68 (snd_cons s_70 snd_nil)))) (by kernel_rfl : chkFn Tryz.prog 21 ir21 ir21_v = true)
theorem M_71 : c_71.modes = [.bor, .bor] := rfl
theorem Fl_71 : c_71.flat = true := rfl
attribute [go_sem] M_71 Fl_71
attribute [go_sem] lk_71_52 lk_71_38 lk_71_39 lk_71_53
def E_71_l1 (list : List Estimate) (star : List UInt8) : (Int × (List Int) × Int) → St
 | (count, mags, i) => ⟨[.sl 5 (List.map Estimate_av list), .str star, .any, .int .i64 count, .own 3200000, .int .i64 i, .any, .any, .any], [], [(3200000, ⟨1, List.map (AV.int .i64) mags⟩)], true⟩
def R_71_l1 (list : List Estimate) (star : List UInt8) (y : Int × (List Int)) : Res := (.exit 0, ⟨[.any, .str star, .any, .int .i64 y.1, .own 3200000, .any, .any, .any, .any], [], [(3200000, ⟨1, List.map (AV.int .i64) y.2⟩)], true⟩)
set_option maxHeartbeats 64000000 in
theorem spec_l24Star_l1_ex {list : List Estimate} {star : List UInt8} {sgm_ : Int × (List Int) × Int} {rho_ : Int × (List Int)} (h : whileE (spec_l24Star_l1 list star) sgm_ = some rho_) : ∃ L0, ∀ L, L0 ≤ L → iter (exec (look t_71) L ir21_b0) ir21_k0 ir21_o0 ir21_r0 L (E_71_l1 list star sgm_) = R_71_l1 list star rho_ := by
 refine loop_ex (E := E_71_l1 list star) (R := R_71_l1 list star) (fun y => by first | (intro c; cases c) | (rcases y with y | y <;> (intro c; cases c)) | (rcases y with y | y | y <;> (intro c; cases c))) ?_ h
 clear h
 rintro ⟨count, mags, i⟩ o_ h
 dsimp only [spec_l24Star_l1] at h
 rcases it_some h with ⟨z1, h⟩ | ⟨z1, h⟩
 ·try simp only [go_sem, n1, n2, n3, n4] at z1
  all_goals
  obtain ⟨z2, h⟩ := ck_some h
  have lz2 := ix_lt z2
  have xz2 := getD_mapD Estimate_av list lz2
  try simp only [go_sem] at lz2
  try simp only [go_sem] at xz2
  try simp only [go_sem, n1, n2, n3, n4, z1] at z2
  all_goals
  rcases it_some h with ⟨z3, h⟩ | ⟨z3, h⟩
  ·try simp only [go_sem, n1, n2, n3, n4, z1, z2] at z3
   all_goals
   rcases it_some h with ⟨z4, h⟩ | ⟨z4, h⟩
   ·try simp only [go_sem, n1, n2, n3, n4, z1, z2, z3] at z4
    all_goals
    obtain ⟨z5, h⟩ := ck_some h
    try simp only [go_sem, n1, n2, n3, n4, z1, z2, z3, z4] at z5
    all_goals
    obtain rfl := so_some h
    refine ⟨0, fun L hL => ?_⟩
    simp only [go_sem, ir21, E_71_l1, R_71_l1, ir21_b0, ir21_k0, ir21_o0, ir21_r0, z1, z2, lz2, xz2, z3, z4, z5]
   ·try simp only [go_sem, n1, n2, n3, n4, z1, z2, z3] at z4
    all_goals
    obtain rfl := so_some h
    refine ⟨0, fun L hL => ?_⟩
    simp only [go_sem, ir21, E_71_l1, R_71_l1, ir21_b0, ir21_k0, ir21_o0, ir21_r0, z1, z2, lz2, xz2, z3, z4]
  ·try simp only [go_sem, n1, n2, n3, n4, z1, z2] at z3
   all_goals
   obtain rfl := so_some h
   refine ⟨0, fun L hL => ?_⟩
   simp only [go_sem, ir21, E_71_l1, R_71_l1, ir21_b0, ir21_k0, ir21_o0, ir21_r0, z1, z2, lz2, xz2, z3]
 ·try simp only [go_sem, n1, n2, n3, n4] at z1
  all_goals
  obtain rfl := so_some h
  refine ⟨0, fun L hL => ?_⟩
  simp only [go_sem, ir21, E_71_l1, R_71_l1, ir21_b0, ir21_k0, ir21_o0, ir21_r0, z1]

def E_71_l2 (star : List UInt8) (count : Int) (mags : List Int) : (Int × Int × Int) → St
 | (least, most, i) => ⟨[.any, .str star, .any, .int .i64 count, .own 3200000, .any, .int .i64 least, .int .i64 most, .int .i64 i], [], [(3200000, ⟨1, List.map (AV.int .i64) mags⟩)], true⟩
def R_71_l2 (star : List UInt8) (count : Int) (mags : List Int) (y : Int × Int) : Res := (.exit 2, ⟨[.any, .str star, .any, .int .i64 count, .any, .any, .int .i64 y.1, .int .i64 y.2, .any], [], [], true⟩)
set_option maxHeartbeats 64000000 in
theorem spec_l24Star_l2_ex {star : List UInt8} {count : Int} {mags : List Int} {sgm_ : Int × Int × Int} {rho_ : Int × Int} (h : whileE (spec_l24Star_l2 star count mags) sgm_ = some rho_) : ∃ L0, ∀ L, L0 ≤ L → iter (exec (look t_71) L ir21_b1) ir21_k1 ir21_o1 ir21_r1 L (E_71_l2 star count mags sgm_) = R_71_l2 star count mags rho_ := by
 refine loop_ex (E := E_71_l2 star count mags) (R := R_71_l2 star count mags) (fun y => by first | (intro c; cases c) | (rcases y with y | y <;> (intro c; cases c)) | (rcases y with y | y | y <;> (intro c; cases c))) ?_ h
 clear h
 rintro ⟨least, most, i⟩ o_ h
 dsimp only [spec_l24Star_l2] at h
 rcases it_some h with ⟨z10, h⟩ | ⟨z10, h⟩
 ·try simp only [go_sem, n1, n2, n3, n4] at z10
  all_goals
  obtain ⟨z11, h⟩ := ck_some h
  have lz11 := ix_lt z11
  have xz11 := getD_mapD (AV.int .i64) mags lz11
  try simp only [go_sem] at lz11
  try simp only [go_sem] at xz11
  try simp only [go_sem, n1, n2, n3, n4, z10] at z11
  all_goals
  obtain ⟨y_12, z12, h⟩ := bd_some h
  have fz12 := Fs_67 z12
  try simp only [go_sem, z10, z11] at fz12
  obtain ⟨y_13, z13, h⟩ := bd_some h
  have fz13 := Fs_68 z13
  try simp only [go_sem, z10, z11] at fz13
  obtain rfl := so_some h
  refine ⟨0, fun L hL => ?_⟩
  simp only [go_sem, ir21, E_71_l2, R_71_l2, ir21_b1, ir21_k1, ir21_o1, ir21_r1, E_71_l1, R_71_l1, ir21_k0, ir21_o0, ir21_r0, z10, z11, lz11, xz11, fz12, fz13]
 ·try simp only [go_sem, n1, n2, n3, n4] at z10
  all_goals
  obtain rfl := so_some h
  refine ⟨0, fun L hL => ?_⟩
  simp only [go_sem, ir21, E_71_l2, R_71_l2, ir21_b1, ir21_k1, ir21_o1, ir21_r1, E_71_l1, R_71_l1, ir21_k0, ir21_o0, ir21_r0, z10]

set_option maxHeartbeats 64000000 in
theorem Fs_71 {list : List Estimate} {star : List UInt8} {y_ : (List (List UInt8))} (h : spec_l24Star list star = some y_) : c_71.F [.sl 5 (List.map Estimate_av list), .str star] = ⟨true, .fresh 1 (List.map AV.str y_), [.any, .any]⟩ := by
 refine mkF_E (by simp only [flatA, flatB, flat1, List.all_cons, List.all_nil, Bool.and_self, flatE_map (f := AV.str) (fun _ => rfl)]) ?_
 dsimp only [spec_l24Star] at h
 obtain ⟨y_6, z6, h⟩ := bd_some h
 obtain ⟨Lz6, ez6⟩ := spec_l24Star_l1_ex z6
 rcases it_some h with ⟨z7, h⟩ | ⟨z7, h⟩
 ·try simp only [go_sem, n1, n2, n3, n4] at z7
  all_goals
  obtain ⟨y_8, z8, h⟩ := bd_some h
  have fz8 := Fs_66 z8
  try simp only [go_sem, z7] at fz8
  obtain rfl := so_some h
  refine ⟨Lz6, fun L hL => ?_⟩
  have ez6 := ez6 L (by omega)
  try simp only [go_sem, E_71_l1, R_71_l1, ir21_k0, ir21_o0, ir21_r0, E_71_l2, R_71_l2, ir21_k1, ir21_o1, ir21_r1, z7] at ez6
  simp only [go_sem, ir21, E_71_l1, R_71_l1, ir21_k0, ir21_o0, ir21_r0, E_71_l2, R_71_l2, ir21_k1, ir21_o1, ir21_r1, z7, fz8, ez6]
 ·try simp only [go_sem, n1, n2, n3, n4] at z7
  all_goals
  obtain ⟨z9, h⟩ := ck_some h
  have lz9 := ix_lt z9
  have xz9 := getD_mapD (AV.int .i64) y_6.2 lz9
  try simp only [go_sem] at lz9
  try simp only [go_sem] at xz9
  try simp only [go_sem, n1, n2, n3, n4, z7] at z9
  all_goals
  obtain ⟨y_14, z14, h⟩ := bd_some h
  obtain ⟨Lz14, ez14⟩ := spec_l24Star_l2_ex z14
  obtain ⟨y_15, z15, h⟩ := bd_some h
  have fz15 := Fs_66 z15
  try simp only [go_sem, z7, z9] at fz15
  obtain ⟨y_16, z16, h⟩ := bd_some h
  have fz16 := Fs_70 z16
  try simp only [go_sem, z7, z9] at fz16
  obtain ⟨y_17, z17, h⟩ := bd_some h
  have fz17 := Fs_70 z17
  try simp only [go_sem, z7, z9] at fz17
  obtain rfl := so_some h
  refine ⟨Lz6 + Lz14, fun L hL => ?_⟩
  have ez6 := ez6 L (by omega)
  have ez14 := ez14 L (by omega)
  try simp only [go_sem, E_71_l1, R_71_l1, ir21_k0, ir21_o0, ir21_r0, E_71_l2, R_71_l2, ir21_k1, ir21_o1, ir21_r1, z7, z9] at ez6
  try simp only [go_sem, E_71_l1, R_71_l1, ir21_k0, ir21_o0, ir21_r0, E_71_l2, R_71_l2, ir21_k1, ir21_o1, ir21_r1, z7, z9] at ez14
  simp only [go_sem, ir21, E_71_l1, R_71_l1, ir21_k0, ir21_o0, ir21_r0, E_71_l2, R_71_l2, ir21_k1, ir21_o1, ir21_r1, z7, z9, lz9, xz9, fz15, fz16, fz17, ez6, ez14]


def ir7_b0 : IR := .seq (.test false [ PM 20 6, PM 21 3, PO 22 (.len false (.s 0)), PO 23 (.bin false .lss (.s 2) (.s 0))] (.s 0) (.skip) (.exit 0)) (.seq (.block 1 (.region false [ PM 26 5, PM 27 0, PM 28 3, PM 29 6, PO 30 (.ixAddr 1 (.s 1) (.s 0)), PO 31 (.load false 1 (.s 0)), PO 32 (.call 21 [(.s 4), (.s 0)]), PO 33 (.mkSl 1 (.sl 1 []) 1 [(0, (.s 0))]), PO 34 (.app 1 24 (.sl 1 []) (.s 7) (.s 0)), VS 5 6 0])) (.region false [ PM 24 6, PO 25 (.bin false .add (.s 0) (I6 1)), VS 6 7 0]))
def ir7_k0 : List Bool := [true, false, false, true, false, true, true]
def ir7_o0 : List Bool := [false, false, false, false, false, true, false]
def ir7_r0 : List Bool := [false, true, true, false, false, false, false]
def ir7_v : List Nat := [0, 2, 3, 4, 5, 6, 7]
def ir7 : AFn := ⟨1, 7, .seq (.region false [ VO 1 2 (.newnil 1), VO 2 3 (.mov (I6 0))]) (.seq (.test false [ PM 8 0, PO 9 (.call 19 [(.s 0)]), PO 10 (.un .not (.s 0))] (.s 0) (.seq (.region false [ VO 1 2 (.newnil 1), VO 2 3 (.mov (I6 1))]) (.ret)) (.skip)) (.seq (.region false [ PM 12 0, PO 13 (.call 20 [(.s 0)]), PO 11 (.mov (.s 0)), PO 14 (.ext (.s 0) 0), PO 15 (.ext (.s 1) 1), VS 3 4 1, VS 4 5 0]) (.seq (.test false [ PM 16 4, PO 17 (.bin false .neq (.s 0) (I6 0))] (.s 0) (.seq (.region false [ PM 18 4, VO 1 2 (.newnil 1), VS 2 3 0]) (.ret)) (.skip)) (.seq (.region false [ PO 19 (.mkSl 1
 (.sl 1 []) 0 []), VS 5 6 0]) (.seq (.seq (.region false [ VO 6 7 (.mov (I6 0))]) (.block 0 (.loop ir7_k0 ir7_o0 ir7_r0 ir7_b0))) (.seq (.region false [ PM 35 5, VS 1 2 0, VO 2 3 (.mov (I6 0))]) (.ret))))))), [.t 1, .t 2]⟩
noncomputable def t_72 : List (Nat × Ctr) := [(19, c_63), (20, c_65), (21, c_71)]
theorem lk_72_19 : look t_72 19 = some c_63 := rfl
theorem lk_72_20 : look t_72 20 = some c_65 := rfl
theorem lk_72_21 : look t_72 21 = some c_71 := rfl
noncomputable def c_72 : Ctr := mkN t_72 ir7 [.bor]
theorem s_72 : Sound Tryz.prog 7 c_72 := mkN_sound _ (snd_cons s_63 (snd_cons s_65 (snd_cons s_71 snd_nil))) (by kernel_rfl : chkFn Tryz.prog 7 ir7 ir7_v = true)
theorem M_72 : c_72.modes = [.bor] := rfl
theorem Fl_72 : c_72.flat = false := rfl
attribute [go_sem] M_72 Fl_72
attribute [go_sem] lk_72_19 lk_72_20 lk_72_21
def E_72_l1 (list : List Estimate) (stars : List (List UInt8)) : ((List (List (List UInt8))) × Int) → St
 | (out, i) => ⟨[.sl 5 (List.map Estimate_av list), .any, .any, .sl 1 (List.map AV.str stars), .any, .own 3200000, .int .i64 i], [], [(3200000, ⟨1, List.map (slE 1 AV.str) out⟩)], true⟩
def R_72_l1 (list : List Estimate) (stars : List (List UInt8)) (y : (List (List (List UInt8)))) : Res := (.exit 0, ⟨[.any, .any, .any, .any, .any, .own 3200000, .any], [], [(3200000, ⟨1, List.map (slE 1 AV.str) y⟩)], true⟩)
theorem spec_ReportRows_l1_ex {list : List Estimate} {stars : List (List UInt8)} {sgm_ : (List (List (List UInt8))) × Int} {rho_ : (List (List (List UInt8)))} (h : whileE (spec_ReportRows_l1 list stars) sgm_ = some rho_) : ∃ L0, ∀ L, L0 ≤ L → iter (exec (look t_72) L ir7_b0) ir7_k0 ir7_o0 ir7_r0 L (E_72_l1 list stars sgm_) = R_72_l1 list stars rho_ := by
 refine loop_ex (E := E_72_l1 list stars) (R := R_72_l1 list stars) (fun y => by first | (intro c; cases c) | (rcases y with y | y <;> (intro c; cases c)) | (rcases y with y | y | y <;> (intro c; cases c))) ?_ h
 clear h
 rintro ⟨out, i⟩ o_ h
 dsimp only [spec_ReportRows_l1] at h
 rcases it_some h with ⟨z5, h⟩ | ⟨z5, h⟩
 ·try simp only [go_sem, n1, n2, n3, n4] at z5
  all_goals
  obtain ⟨z6, h⟩ := ck_some h
  have lz6 := ix_lt z6
  have xz6 := getD_mapD AV.str stars lz6
  try simp only [go_sem] at lz6
  try simp only [go_sem] at xz6
  try simp only [go_sem, n1, n2, n3, n4, z5] at z6
  all_goals
  obtain ⟨y_7, z7, h⟩ := bd_some h
  have fz7 := Fs_71 z7
  try simp only [go_sem, z5, z6] at fz7
  obtain ⟨z8, h⟩ := ck_some h
  try simp only [go_sem, n1, n2, n3, n4, z5, z6] at z8
  all_goals
  obtain rfl := so_some h
  refine ⟨0, fun L hL => ?_⟩
  simp only [go_sem, ir7, E_72_l1, R_72_l1, ir7_b0, ir7_k0, ir7_o0, ir7_r0, z5, z6, lz6, xz6, fz7, z8]
 ·try simp only [go_sem, n1, n2, n3, n4] at z5
  all_goals
  obtain rfl := so_some h
  refine ⟨0, fun L hL => ?_⟩
  simp only [go_sem, ir7, E_72_l1, R_72_l1, ir7_b0, ir7_k0, ir7_o0, ir7_r0, z5]

theorem Fs_72 {list : List Estimate} {y_ : (List (List (List UInt8))) × Int} (h : spec_ReportRows list = some y_) : c_72.F [.sl 5 (List.map Estimate_av list)] = ⟨true, .tup [.fresh 1 (List.map (slE 1 AV.str) y_.1), .int .i64 y_.2], [.any]⟩ := by
 refine mkN_E ?_
 dsimp only [spec_ReportRows] at h
 obtain ⟨y_1, z1, h⟩ := bd_some h
 have fz1 := Fs_63 z1
 try simp only [go_sem] at fz1
 rcases it_some h with ⟨z2, h⟩ | ⟨z2, h⟩
 ·try simp only [go_sem, n1, n2, n3, n4] at z2
  all_goals
  obtain rfl := so_some h
  refine ⟨0, fun L hL => ?_⟩
  simp only [go_sem, ir7, E_72_l1, R_72_l1, ir7_k0, ir7_o0, ir7_r0, fz1, z2]
 ·try simp only [go_sem, n1, n2, n3, n4] at z2
  all_goals
  obtain ⟨y_3, z3, h⟩ := bd_some h
  have fz3 := Fs_65 z3
  try simp only [go_sem, z2] at fz3
  rcases it_some h with ⟨z4, h⟩ | ⟨z4, h⟩
  ·try simp only [go_sem, n1, n2, n3, n4, z2] at z4
   all_goals
   obtain rfl := so_some h
   refine ⟨0, fun L hL => ?_⟩
   simp only [go_sem, ir7, E_72_l1, R_72_l1, ir7_k0, ir7_o0, ir7_r0, fz1, z2, fz3, z4]
  ·try simp only [go_sem, n1, n2, n3, n4, z2] at z4
   all_goals
   obtain ⟨y_9, z9, h⟩ := bd_some h
   obtain ⟨Lz9, ez9⟩ := spec_ReportRows_l1_ex z9
   obtain rfl := so_some h
   refine ⟨Lz9, fun L hL => ?_⟩
   have ez9 := ez9 L (by omega)
   try simp only [go_sem, E_72_l1, R_72_l1, ir7_k0, ir7_o0, ir7_r0, z2, z4] at ez9
   simp only [go_sem, ir7, E_72_l1, R_72_l1, ir7_k0, ir7_o0, ir7_r0, fz1, z2, fz3, z4, ez9]


def ir22_v : List Nat := [0, 2]
def ir22 : AFn := ⟨1, 2, .seq (.region false [ VO 1 2 (.mov (.c (.str [])))]) (.seq (.region false [ PM 3 0, PO 4 (.mkSl 1 (.str []) 7 [(0, (.c (.str [109, 105, 114, 97]))), (1, (.c (.str [114, 114, 45, 108, 121, 114]))), (2, (.c (.str [115, 115, 45, 99, 121, 103]))), (3, (.c (.str [110, 111, 110, 101]))), (4, (.c (.str []))), (5, (.c (.str [97, 98]))), (6, (.c (.str [99, 100])))]), PO 5 (.call 54 [(.s 1), (.s 0)]), VS 1 2 0]) (.ret)), [.t 1]⟩
noncomputable def t_73 : List (Nat × Ctr) := [(54, c_6)]
theorem lk_73_54 : look t_73 54 = some c_6 := rfl
noncomputable def c_73 : Ctr := mkN t_73 ir22 [.io]
theorem s_73 : Sound Tryz.prog 22 c_73 := mkN_sound _ (snd_cons s_6 snd_nil) (by kernel_rfl : chkFn Tryz.prog 22 ir22 ir22_v = true)
theorem M_73 : c_73.modes = [.io] := rfl
theorem Fl_73 : c_73.flat = false := rfl
attribute [go_sem] M_73 Fl_73
attribute [go_sem] lk_73_54
theorem Fs_73 {s_ : L00Src} {y_ : (List UInt8) × L00Src} (h : spec_l06Name s_ = some y_) : c_73.F [.mem 3 [L00Src_av s_] 0] = ⟨true, .str y_.1, [.mem 3 [L00Src_av y_.2] 0]⟩ := by
 refine mkN_E ?_
 dsimp only [spec_l06Name] at h
 obtain ⟨y_1, z1, h⟩ := bd_some h
 have fz1 := Fs_6 z1
 try simp only [go_sem] at fz1
 obtain rfl := so_some h
 refine ⟨0, fun L hL => ?_⟩
 simp only [go_sem, ir22, fz1]


def ir8_v : List Nat := [0, 2, 3, 4, 5]
def ir8 : AFn := ⟨1, 5, .seq (.region false [ VO 1 2 (.newnil 5), VO 2 3 (.mov (.c (.str [])))]) (.seq (.region false [ PM 6 0, PO 7 (.call 17 [(.s 0)]), VS 3 4 0]) (.seq (.region false [ PM 8 3, PO 9 (.call 16 [(.s 0)]), VS 4 5 0]) (.seq (.region false [ PM 10 4, PM 11 3, PO 12 (.call 22 [(.s 0)]), VS 1 2 2, VS 2 3 0]) (.ret)))), [.t 1, .t 2]⟩
noncomputable def t_74 : List (Nat × Ctr) := [(17, c_2), (16, c_16), (22, c_73)]
theorem lk_74_17 : look t_74 17 = some c_2 := rfl
theorem lk_74_16 : look t_74 16 = some c_16 := rfl
theorem lk_74_22 : look t_74 22 = some c_73 := rfl
noncomputable def c_74 : Ctr := mkF t_74 ir8 [.bor]
theorem s_74 : Sound Tryz.prog 8 c_74 := mkF_sound _ rfl (snd_cons s_2 (snd_cons s_16 (snd_cons s_73 snd_nil))) (by kernel_rfl : chkFn Tryz.prog 8 ir8 ir8_v = true)
theorem M_74 : c_74.modes = [.bor] := rfl
theorem Fl_74 : c_74.flat = true := rfl
attribute [go_sem] M_74 Fl_74
attribute [go_sem] lk_74_17 lk_74_16 lk_74_22
theorem Fs_74 {code : List UInt8} {y_ : (List Estimate) × (List UInt8)} (h : spec_DrawStarRow code = some y_) : c_74.F [.sl 1 (List.map byteAV code)] = ⟨true, .tup [.fresh 5 (List.map Estimate_av y_.1), .str y_.2], [.any]⟩ := by
 refine mkF_E (by simp only [flatA, flatB, flat1, List.all_cons, List.all_nil, Bool.and_self, flatE_map (f := Estimate_av) (fun _ => rfl)]) ?_
 dsimp only [spec_DrawStarRow] at h
 obtain ⟨y_1, z1, h⟩ := bd_some h
 have fz1 := Fs_2 z1
 try simp only [go_sem] at fz1
 obtain ⟨y_2, z2, h⟩ := bd_some h
 have fz2 := Fs_16 z2
 try simp only [go_sem] at fz2
 obtain ⟨y_3, z3, h⟩ := bd_some h
 have fz3 := Fs_73 z3
 try simp only [go_sem] at fz3
 obtain rfl := so_some h
 refine ⟨0, fun L hL => ?_⟩
 simp only [go_sem, ir8, fz1, fz2, fz3]


def ir9_v : List Nat := [0, 1, 4, 5]
def ir9 : AFn := ⟨2, 4, .seq (.region false [ VO 2 4 (.newnil 1), VO 3 5 (.mov (I6 0))]) (.seq (.block 0 (.test false [ PM 7 0, PO 8 (.call 23 [(.s 0)]), PO 9 (.un .not (.s 0)), PO 6 (.mov (.s 0))] (.s 0) (.seq (.region false [ VO 2 4 (.newnil 1), VO 3 5 (.mov (I6 1))]) (.ret)) (.test false [ PM 11 1, PO 12 (.call 24 [(.s 0)]), PO 13 (.un .not (.s 0)), PO 10 (.mov (.s 0))] (.s 0) (.seq (.region false [ VO 2 4 (.newnil 1), VO 3 5 (.mov (I6 2))]) (.ret)) (.skip)))) (.seq (.region false [ PM 14 0, PM 15 1, PO 16 (.call 18 [(.s 1), (.s 0)]), VS 2 4 0, VO 3 5 (.mov (I6 0))]) (.ret))), [.t 2, .t 3]⟩
noncomputable def t_75 : List (Nat × Ctr) := [(23, c_30), (24, c_20), (18, c_54)]
theorem lk_75_23 : look t_75 23 = some c_30 := rfl
theorem lk_75_24 : look t_75 24 = some c_20 := rfl
theorem lk_75_18 : look t_75 18 = some c_54 := rfl
noncomputable def c_75 : Ctr := mkZ t_75 ir9 [.bor, .bor]
theorem s_75 : Sound Tryz.prog 9 c_75 := mkZ_sound _ (snd_cons s_30 (snd_cons s_20 (snd_cons s_54 snd_nil))) (by kernel_rfl : chkFn Tryz.prog 9 ir9 ir9_v = true)
theorem M_75 : c_75.modes = [.bor, .bor] := rfl
theorem Fl_75 : c_75.flat = false := rfl
attribute [go_sem] M_75 Fl_75
attribute [go_sem] lk_75_23 lk_75_24 lk_75_18
theorem Fs_75 {list : List Estimate} {star : List UInt8} {y_ : (List (List UInt8)) × Int} (h : impl_StarRow list star = some y_) : c_75.F [.sl 5 (List.map Estimate_av list), .str star] = ⟨true, .tup [.sl 1 (List.map AV.str y_.1), .int .i64 y_.2], [.any, .any]⟩ := by
 refine mkZ_E ?_
 dsimp only [impl_StarRow] at h
 obtain ⟨y_1, z1, h⟩ := bd_some h
 have fz1 := Fs_30 z1
 try simp only [go_sem] at fz1
 rcases it_some h with ⟨z2, h⟩ | ⟨z2, h⟩
 ·try simp only [go_sem, n1, n2, n3, n4] at z2
  all_goals
  obtain rfl := so_some h
  refine ⟨0, fun L hL => ?_⟩
  simp only [go_sem, ir9, fz1, z2]
 ·try simp only [go_sem, n1, n2, n3, n4] at z2
  all_goals
  obtain ⟨y_3, z3, h⟩ := bd_some h
  have fz3 := Fs_20 z3
  try simp only [go_sem, z2] at fz3
  rcases it_some h with ⟨z4, h⟩ | ⟨z4, h⟩
  ·try simp only [go_sem, n1, n2, n3, n4, z2] at z4
   all_goals
   obtain rfl := so_some h
   refine ⟨0, fun L hL => ?_⟩
   simp only [go_sem, ir9, fz1, z2, fz3, z4]
  ·try simp only [go_sem, n1, n2, n3, n4, z2] at z4
   all_goals
   obtain ⟨y_5, z5, h⟩ := bd_some h
   have fz5 := Fs_54 z5
   try simp only [go_sem, z2, z4] at fz5
   obtain rfl := so_some h
   refine ⟨0, fun L hL => ?_⟩
   simp only [go_sem, ir9, fz1, z2, fz3, z4, fz5]


def ir10_v : List Nat := [0, 1, 4, 5]
def ir10 : AFn := ⟨2, 4, .seq (.region false [ VO 2 4 (.newnil 1), VO 3 5 (.mov (I6 0))]) (.seq (.test false [ PM 6 0, PO 7 (.call 19 [(.s 0)]), PO 8 (.un .not (.s 0))] (.s 0) (.seq (.region false [ VO 2 4 (.newnil 1), VO 3 5 (.mov (I6 1))]) (.ret)) (.skip)) (.seq (.test false [ PM 9 1, PO 10 (.call 25 [(.s 0)]), PO 11 (.un .not (.s 0))] (.s 0) (.seq (.region false [ VO 2 4 (.newnil 1), VO 3 5 (.mov (I6 2))]) (.ret)) (.skip)) (.seq (.region false [ PM 12 0, PM 13 1, PO 14 (.call 21 [(.s 1), (.s 0)]), VS 2 4 0, VO 3 5 (.mov (I6 0))]) (.ret)))), [.t 2, .t 3]⟩
noncomputable def t_76 : List (Nat × Ctr) := [(19, c_63), (25, c_60), (21, c_71)]
theorem lk_76_19 : look t_76 19 = some c_63 := rfl
theorem lk_76_25 : look t_76 25 = some c_60 := rfl
theorem lk_76_21 : look t_76 21 = some c_71 := rfl
noncomputable def c_76 : Ctr := mkF t_76 ir10 [.bor, .bor]
theorem s_76 : Sound Tryz.prog 10 c_76 := mkF_sound _ rfl (snd_cons s_63 (snd_cons s_60 (snd_cons s_71 snd_nil))) (by kernel_rfl : chkFn Tryz.prog 10 ir10 ir10_v = true)
theorem M_76 : c_76.modes = [.bor, .bor] := rfl
theorem Fl_76 : c_76.flat = true := rfl
attribute [go_sem] M_76 Fl_76
attribute [go_sem] lk_76_19 lk_76_25 lk_76_21
theorem Fs_76 {list : List Estimate} {star : List UInt8} {y_ : (List (List UInt8)) × Int} (h : spec_StarRow list star = some y_) : c_76.F [.sl 5 (List.map Estimate_av list), .str star] = ⟨true, .tup [.fresh 1 (List.map AV.str y_.1), .int .i64 y_.2], [.any, .any]⟩ := by
 refine mkF_E (by simp only [flatA, flatB, flat1, List.all_cons, List.all_nil, Bool.and_self, flatE_map (f := AV.str) (fun _ => rfl)]) ?_
 dsimp only [spec_StarRow] at h
 obtain ⟨y_1, z1, h⟩ := bd_some h
 have fz1 := Fs_63 z1
 try simp only [go_sem] at fz1
 rcases it_some h with ⟨z2, h⟩ | ⟨z2, h⟩
 ·try simp only [go_sem, n1, n2, n3, n4] at z2
  all_goals
  obtain rfl := so_some h
  refine ⟨0, fun L hL => ?_⟩
  simp only [go_sem, ir10, fz1, z2]
 ·try simp only [go_sem, n1, n2, n3, n4] at z2
  all_goals
  obtain ⟨y_3, z3, h⟩ := bd_some h
  have fz3 := Fs_60 z3
  try simp only [go_sem, z2] at fz3
  rcases it_some h with ⟨z4, h⟩ | ⟨z4, h⟩
  ·try simp only [go_sem, n1, n2, n3, n4, z2] at z4
   all_goals
   obtain rfl := so_some h
   refine ⟨0, fun L hL => ?_⟩
   simp only [go_sem, ir10, fz1, z2, fz3, z4]
  ·try simp only [go_sem, n1, n2, n3, n4, z2] at z4
   all_goals
   obtain ⟨y_5, z5, h⟩ := bd_some h
   have fz5 := Fs_71 z5
   try simp only [go_sem, z2, z4] at fz5
   obtain rfl := so_some h
   refine ⟨0, fun L hL => ?_⟩
   simp only [go_sem, ir10, fz1, z2, fz3, z4, fz5]


def ir59_b0 : IR := .seq (.test false [ PM 16 5, PO 17 (.bin false .gtr (.s 0) (I6 0))] (.s 0) (.skip) (.exit 0)) (.seq (.block 1 (.seq (.region false [ PM 20 3, PM 21 4, PM 22 0, PO 23 (.call 27 [(.s 0), (I6 100)]), PO 24 (.bin false .mul (I6 20) (.s 0)), PO 25 (.bin false .add (I6 8000) (.s 0)), PO 26 (.build [.int .i64 (0), .int .i64 (0)] [(0, 1, (.s 4)), (1, 1, (.s 0))]), PO 27 (.mkSl 2 (.agg [.int .i64 (0), .int .i64 (0)]) 1 [(0, (.s 0))]), PO 28 (.app 2 16 (.agg [.int .i64 (0), .int .i64 (0)]) (.s 7) (.s 0)), VS 3 5 0]) (.region false [ PM 29 4, PM 30 0, PO 31 (.call 27 [(.s 0), (I6
 40)]), PO 32 (.bin false .add (I6 1) (.s 0)), PO 33 (.bin false .mul (I6 100) (.s 0)), PO 34 (.bin false .add (.s 4) (.s 0)), VS 4 6 0]))) (.region false [ PM 18 5, PO 19 (.bin false .sub (.s 0) (I6 1)), VS 5 7 0]))
def ir59_k0 : List Bool := [true, false, false, true, true, true]
def ir59_o0 : List Bool := [true, false, false, true, false, false]
def ir59_r0 : List Bool := [true, false, true, false, false, false]
def ir59_v : List Nat := [0, 1, 4, 5, 6, 7]
def ir59 : AFn := ⟨2, 6, .seq (.region false [ VO 2 4 (.newnil 2)]) (.seq (.region false [ PO 8 (.mkSl 2 (.agg [.int .i64 (0), .int .i64 (0)]) 0 []), VS 3 5 0]) (.seq (.region false [ PM 9 0, PO 10 (.call 27 [(.s 0), (I6 9)]), PO 11 (.bin false .mul (I6 1000) (.s 0)), VS 4 6 0]) (.seq (.seq (.region false [ PM 12 0, PM 13 1, PO 14 (.bin false .add (.s 0) (I6 1)), PO 15 (.call 27 [(.s 2), (.s 0)]), VS 5 7 0]) (.block 0 (.loop ir59_k0 ir59_o0 ir59_r0 ir59_b0))) (.seq (.region false [ PM 35 3, VS 2 4 0]) (.ret))))), [.t 2]⟩
noncomputable def t_77 : List (Nat × Ctr) := [(27, c_4)]
theorem lk_77_27 : look t_77 27 = some c_4 := rfl
noncomputable def c_77 : Ctr := mkN t_77 ir59 [.io, .bor]
theorem s_77 : Sound Tryz.prog 59 c_77 := mkN_sound _ (snd_cons s_4 snd_nil) (by kernel_rfl : chkFn Tryz.prog 59 ir59 ir59_v = true)
theorem M_77 : c_77.modes = [.io, .bor] := rfl
theorem Fl_77 : c_77.flat = false := rfl
attribute [go_sem] M_77 Fl_77
attribute [go_sem] lk_77_27
def E_77_l1  : (L00Src × (List Point) × Int × Int) → St
 | (s_, out, at_, k) => ⟨[.ref 31 0 0, .any, .any, .own 3200032, .int .i64 at_, .int .i64 k], [], [(31, ⟨3, [L00Src_av s_]⟩), (3200032, ⟨2, List.map Point_av out⟩)], true⟩
def R_77_l1  (y : L00Src × (List Point)) : Res := (.exit 0, ⟨[.ref 31 0 0, .any, .any, .own 3200032, .any, .any], [], [(31, ⟨3, [L00Src_av y.1]⟩), (3200032, ⟨2, List.map Point_av y.2⟩)], true⟩)
theorem spec_l08Draw_l1_ex  {sgm_ : L00Src × (List Point) × Int × Int} {rho_ : L00Src × (List Point)} (h : whileE (spec_l08Draw_l1) sgm_ = some rho_) : ∃ L0, ∀ L, L0 ≤ L → iter (exec (look t_77) L ir59_b0) ir59_k0 ir59_o0 ir59_r0 L (E_77_l1 sgm_) = R_77_l1 rho_ := by
 refine loop_ex (E := E_77_l1) (R := R_77_l1) (fun y => by first | (intro c; cases c) | (rcases y with y | y <;> (intro c; cases c)) | (rcases y with y | y | y <;> (intro c; cases c))) ?_ h
 clear h
 rintro ⟨s_, out, at_, k⟩ o_ h
 dsimp only [spec_l08Draw_l1] at h
 rcases it_some h with ⟨z3, h⟩ | ⟨z3, h⟩
 ·try simp only [go_sem, n1, n2, n3, n4] at z3
  all_goals
  obtain ⟨y_4, z4, h⟩ := bd_some h
  have fz4 := Fs_4 z4
  try simp only [go_sem, z3] at fz4
  obtain ⟨z5, h⟩ := ck_some h
  try simp only [go_sem, n1, n2, n3, n4, z3] at z5
  all_goals
  obtain ⟨y_6, z6, h⟩ := bd_some h
  have fz6 := Fs_4 z6
  try simp only [go_sem, z3, z5] at fz6
  obtain rfl := so_some h
  refine ⟨0, fun L hL => ?_⟩
  simp only [go_sem, ir59, E_77_l1, R_77_l1, ir59_b0, ir59_k0, ir59_o0, ir59_r0, z3, fz4, z5, fz6]
 ·try simp only [go_sem, n1, n2, n3, n4] at z3
  all_goals
  obtain rfl := so_some h
  refine ⟨0, fun L hL => ?_⟩
  simp only [go_sem, ir59, E_77_l1, R_77_l1, ir59_b0, ir59_k0, ir59_o0, ir59_r0, z3]

theorem Fs_77 {s_ : L00Src} {most : Int} {y_ : (List Point) × L00Src} (h : spec_l08Draw s_ most = some y_) : c_77.F [.mem 3 [L00Src_av s_] 0, .int .i64 most] = ⟨true, .fresh 2 (List.map Point_av y_.1), [.mem 3 [L00Src_av y_.2] 0, .any]⟩ := by
 refine mkN_E ?_
 dsimp only [spec_l08Draw] at h
 obtain ⟨y_1, z1, h⟩ := bd_some h
 have fz1 := Fs_4 z1
 try simp only [go_sem] at fz1
 obtain ⟨y_2, z2, h⟩ := bd_some h
 have fz2 := Fs_4 z2
 try simp only [go_sem] at fz2
 obtain ⟨y_7, z7, h⟩ := bd_some h
 obtain ⟨Lz7, ez7⟩ := spec_l08Draw_l1_ex z7
 obtain rfl := so_some h
 refine ⟨Lz7, fun L hL => ?_⟩
 have ez7 := ez7 L (by omega)
 try simp only [go_sem, E_77_l1, R_77_l1, ir59_k0, ir59_o0, ir59_r0] at ez7
 simp only [go_sem, ir59, E_77_l1, R_77_l1, ir59_k0, ir59_o0, ir59_r0, fz1, fz2, ez7]


def ir26_b0 : IR := .seq (.test false [ PM 38 3, PO 39 (.bin false .gtr (.s 0) (I6 0))] (.s 0) (.skip) (.exit 1)) (.seq (.block 2 (.region false [ PM 42 2, PM 43 2, PO 44 (.len false (.s 0)), PO 45 (.bin false .mul (I6 10) (.s 0)), PM 46 3, PO 47 (.bin false .add (I6 9000) (.s 0)), PO 48 (.build [.int .i64 (0), .int .i64 (0)] [(0, 1, (.s 2)), (1, 1, (.s 0))]), PO 49 (.mkSl 2 (.agg [.int .i64 (0), .int .i64 (0)]) 1 [(0, (.s 0))]), PO 50 (.app 2 16 (.agg [.int .i64 (0), .int .i64 (0)]) (.s 7) (.s 0)), VS 2 3 0])) (.region false [ PM 40 3, PO 41 (.bin false .sub (.s 0) (I6 1)), VS 3 4 0]))
def ir26_k0 : List Bool := [true, false, true, true, false]
def ir26_o0 : List Bool := [true, false, true, false, false]
def ir26_r0 : List Bool := [true, true, false, false, false]
def ir26_v : List Nat := [0, 2, 3, 4, 8]
def ir26 : AFn := ⟨1, 5, .seq (.region false [ VO 1 2 (.newnil 2)]) (.seq (.region false [ PM 5 0, PO 6 (.call 59 [(.s 0), (I6 12)]), VS 2 3 0]) (.seq (.seq (.region false [ PM 7 0, VO 4 8 (.call 27 [(.s 0), (I6 20)])]) (.block 0 (.test false [ PO 10 (.bin false .eql (.v 4) (I6 0)), PO 9 (.mov (.s 0))] (.s 0) (.region false [ PM 11 2, PM 12 0, PO 13 (.mkSl 1 (.int .i64 (0)) 4 [(0, (.c (.int .i64 (-1)))), (1, (I6 0)), (2, (I6 10000000)), (3, (I6 10000001))]), PO 14 (.call 29 [(.s 1), (.s 0)]), PO 15 (.build [.int .i64 (0), .int .i64 (0)] [(0, 1, (.s 0)), (1, 1, (I6 9000))]), PO 16 (.mkSl 2 (.agg
 [.int .i64 (0), .int .i64 (0)]) 1 [(0, (.s 0))]), PO 17 (.app 2 16 (.agg [.int .i64 (0), .int .i64 (0)]) (.s 5) (.s 0)), VS 2 3 0]) (.test false [ PO 19 (.bin false .eql (.v 4) (I6 1)), PO 18 (.mov (.s 0))] (.s 0) (.test false [ PM 20 2, PO 21 (.len false (.s 0)), PO 22 (.bin false .gtr (.s 0) (I6 0))] (.s 0) (.region false [ PM 23 2, PM 24 0, PM 25 2, PO 26 (.len false (.s 0)), PO 27 (.call 27 [(.s 2), (.s 0)]), PM 28 0, PO 29 (.call 60 [(.s 0)]), PO 30 (.ixAddr 2 (.s 6) (.s 2)), PO 31 (.fldAddr 1 (.s 0)), ⟨.no, 0, none, .store 1 (.s 0) (.s 2)⟩]) (.skip)) (.test false [ PO 33 (.bin false .eql
 (.v 4) (I6 2)), PO 32 (.mov (.s 0))] (.s 0) (.seq (.region false [ PO 34 (.mkSl 2 (.agg [.int .i64 (0), .int .i64 (0)]) 0 []), VS 2 3 0]) (.seq (.region false [ PM 35 0, PO 36 (.call 27 [(.s 0), (I6 2)]), PO 37 (.bin false .add (I6 100) (.s 0)), VS 3 4 0]) (.block 1 (.loop ir26_k0 ir26_o0 ir26_r0 ir26_b0)))) (.skip)))))) (.seq (.region false [ PM 51 2, VS 1 2 0]) (.ret)))), [.t 1]⟩
noncomputable def t_78 : List (Nat × Ctr) := [(59, c_77), (27, c_4), (29, c_12), (60, c_14)]
theorem lk_78_59 : look t_78 59 = some c_77 := rfl
theorem lk_78_27 : look t_78 27 = some c_4 := rfl
theorem lk_78_29 : look t_78 29 = some c_12 := rfl
theorem lk_78_60 : look t_78 60 = some c_14 := rfl
noncomputable def c_78 : Ctr := mkN t_78 ir26 [.io]
theorem s_78 : Sound Tryz.prog 26 c_78 := mkN_sound _ (snd_cons s_77 (snd_cons s_4 (snd_cons s_12 (snd_cons s_14 snd_nil)))) (by kernel_rfl : chkFn Tryz.prog 26 ir26 ir26_v = true)
theorem M_78 : c_78.modes = [.io] := rfl
theorem Fl_78 : c_78.flat = false := rfl
attribute [go_sem] M_78 Fl_78
attribute [go_sem] lk_78_59 lk_78_27 lk_78_29 lk_78_60
def E_78_l1 (s_ : L00Src) : ((List Point) × Int) → St
 | (curve, k) => ⟨[.ref 31 0 0, .any, .own 3200032, .int .i64 k, .any], [], [(31, ⟨3, [L00Src_av s_]⟩), (3200032, ⟨2, List.map Point_av curve⟩)], true⟩
def R_78_l1 (s_ : L00Src) (y : (List Point)) : Res := (.exit 1, ⟨[.ref 31 0 0, .any, .own 3200032, .any, .any], [], [(31, ⟨3, [L00Src_av s_]⟩), (3200032, ⟨2, List.map Point_av y⟩)], true⟩)
theorem spec_l08Bent_l1_ex {s_ : L00Src} {sgm_ : (List Point) × Int} {rho_ : (List Point)} (h : whileE (spec_l08Bent_l1 s_) sgm_ = some rho_) : ∃ L0, ∀ L, L0 ≤ L → iter (exec (look t_78) L ir26_b0) ir26_k0 ir26_o0 ir26_r0 L (E_78_l1 s_ sgm_) = R_78_l1 s_ rho_ := by
 refine loop_ex (E := E_78_l1 s_) (R := R_78_l1 s_) (fun y => by first | (intro c; cases c) | (rcases y with y | y <;> (intro c; cases c)) | (rcases y with y | y | y <;> (intro c; cases c))) ?_ h
 clear h
 rintro ⟨curve, k⟩ o_ h
 dsimp only [spec_l08Bent_l1] at h
 rcases it_some h with ⟨z13, h⟩ | ⟨z13, h⟩
 ·try simp only [go_sem, n1, n2, n3, n4] at z13
  all_goals
  obtain ⟨z14, h⟩ := ck_some h
  try simp only [go_sem, n1, n2, n3, n4, z13] at z14
  all_goals
  obtain rfl := so_some h
  refine ⟨0, fun L hL => ?_⟩
  simp only [go_sem, ir26, E_78_l1, R_78_l1, ir26_b0, ir26_k0, ir26_o0, ir26_r0, z13, z14]
 ·try simp only [go_sem, n1, n2, n3, n4] at z13
  all_goals
  obtain rfl := so_some h
  refine ⟨0, fun L hL => ?_⟩
  simp only [go_sem, ir26, E_78_l1, R_78_l1, ir26_b0, ir26_k0, ir26_o0, ir26_r0, z13]

theorem Fs_78 {s_ : L00Src} {y_ : (List Point) × L00Src} (h : spec_l08Bent s_ = some y_) : c_78.F [.mem 3 [L00Src_av s_] 0] = ⟨true, .fresh 2 (List.map Point_av y_.1), [.mem 3 [L00Src_av y_.2] 0]⟩ := by
 refine mkN_E ?_
 dsimp only [spec_l08Bent] at h
 obtain ⟨y_1, z1, h⟩ := bd_some h
 have fz1 := Fs_77 z1
 try simp only [go_sem] at fz1
 obtain ⟨y_2, z2, h⟩ := bd_some h
 have fz2 := Fs_4 z2
 try simp only [go_sem] at fz2
 rcases it_some h with ⟨z3, h⟩ | ⟨z3, h⟩
 ·try simp only [go_sem, n1, n2, n3, n4] at z3
  all_goals
  obtain ⟨y_4, z4, h⟩ := bd_some h
  have fz4 := Fs_12 z4
  try simp only [go_sem, z3] at fz4
  obtain ⟨z5, h⟩ := ck_some h
  try simp only [go_sem, n1, n2, n3, n4, z3] at z5
  all_goals
  obtain rfl := so_some h
  refine ⟨0, fun L hL => ?_⟩
  simp only [go_sem, ir26, E_78_l1, R_78_l1, ir26_k0, ir26_o0, ir26_r0, fz1, fz2, z3, fz4, z5]
 ·try simp only [go_sem, n1, n2, n3, n4] at z3
  all_goals
  rcases it_some h with ⟨z6, h⟩ | ⟨z6, h⟩
  ·try simp only [go_sem, n1, n2, n3, n4, z3] at z6
   all_goals
   rcases it_some h with ⟨z7, h⟩ | ⟨z7, h⟩
   ·try simp only [go_sem, n1, n2, n3, n4, z3, z6] at z7
    all_goals
    obtain ⟨y_8, z8, h⟩ := bd_some h
    have fz8 := Fs_4 z8
    try simp only [go_sem, z3, z6, z7] at fz8
    obtain ⟨y_9, z9, h⟩ := bd_some h
    have fz9 := Fs_14 z9
    try simp only [go_sem, z3, z6, z7] at fz9
    obtain ⟨z10, h⟩ := ck_some h
    have lz10 := ix_lt z10
    have xz10 := getD_mapD Point_av y_1.1 lz10
    try simp only [go_sem] at lz10
    try simp only [go_sem] at xz10
    try simp only [go_sem, n1, n2, n3, n4, z3, z6, z7] at z10
    all_goals
    obtain rfl := so_some h
    refine ⟨0, fun L hL => ?_⟩
    simp only [go_sem, ir26, E_78_l1, R_78_l1, ir26_k0, ir26_o0, ir26_r0, fz1, fz2, z3, z6, z7, fz8, fz9, z10, lz10, xz10]
   ·try simp only [go_sem, n1, n2, n3, n4, z3, z6] at z7
    all_goals
    obtain rfl := so_some h
    refine ⟨0, fun L hL => ?_⟩
    simp only [go_sem, ir26, E_78_l1, R_78_l1, ir26_k0, ir26_o0, ir26_r0, fz1, fz2, z3, z6, z7]
  ·try simp only [go_sem, n1, n2, n3, n4, z3] at z6
   all_goals
   rcases it_some h with ⟨z11, h⟩ | ⟨z11, h⟩
   ·try simp only [go_sem, n1, n2, n3, n4, z3, z6] at z11
    all_goals
    obtain ⟨y_12, z12, h⟩ := bd_some h
    have fz12 := Fs_4 z12
    try simp only [go_sem, z3, z6, z11] at fz12
    obtain ⟨y_15, z15, h⟩ := bd_some h
    obtain ⟨Lz15, ez15⟩ := spec_l08Bent_l1_ex z15
    obtain rfl := so_some h
    refine ⟨Lz15, fun L hL => ?_⟩
    have ez15 := ez15 L (by omega)
    try simp only [go_sem, E_78_l1, R_78_l1, ir26_k0, ir26_o0, ir26_r0, z3, z6, z11] at ez15
    simp only [go_sem, ir26, E_78_l1, R_78_l1, ir26_k0, ir26_o0, ir26_r0, fz1, fz2, z3, z6, z11, fz12, ez15]
   ·try simp only [go_sem, n1, n2, n3, n4, z3, z6] at z11
    all_goals
    obtain rfl := so_some h
    refine ⟨0, fun L hL => ?_⟩
    simp only [go_sem, ir26, E_78_l1, R_78_l1, ir26_k0, ir26_o0, ir26_r0, fz1, fz2, z3, z6, z11]


def ir11_v : List Nat := [0, 2, 3, 4, 5, 6, 7]
def ir11 : AFn := ⟨1, 7, .seq (.region false [ VO 1 2 (.newnil 2), VO 2 3 (.mov (I6 0)), VO 3 4 (.mov (I6 0))]) (.seq (.region false [ PM 8 0, PO 9 (.call 17 [(.s 0)]), VS 4 5 0]) (.seq (.region false [ PM 10 4, PO 11 (.call 26 [(.s 0)]), VS 5 6 0]) (.seq (.region false [ PM 12 4, PO 13 (.call 27 [(.s 0), (I6 30)]), PO 14 (.bin false .add (I6 1) (.s 0)), VS 6 7 0]) (.seq (.test false [ PM 15 4, PO 16 (.call 28 [(.s 0), (I6 10)])] (.s 0) (.region false [ PM 17 4, PO 18 (.mkSl 1 (.int .i64 (0)) 5 [(0, (.c (.int .i64 (-1)))), (1, (I6 0)), (2, (I6 1)), (3, (I6 80)), (4, (I6 81))]), PO 19 (.call 29
 [(.s 1), (.s 0)]), VS 6 7 0]) (.skip)) (.seq (.test false [ PM 20 4, PO 21 (.call 28 [(.s 0), (I6 10)])] (.s 0) (.seq (.region false [ PM 22 5, PM 23 6, PM 24 4, PO 25 (.mkSl 1 (.int .i64 (0)) 5 [(0, (.c (.int .i64 (-1)))), (1, (I6 0)), (2, (I6 1)), (3, (I6 60)), (4, (I6 61))]), PO 26 (.call 29 [(.s 1), (.s 0)]), VS 1 2 4, VS 2 3 3, VS 3 4 0]) (.ret)) (.skip)) (.seq (.region false [ PM 27 5, PM 28 6, PM 29 4, PO 30 (.call 27 [(.s 0), (I6 9)]), PO 31 (.bin false .add (I6 1) (.s 0)), VS 1 2 4, VS 2 3 3, VS 3 4 0]) (.ret))))))), [.t 1, .t 2, .t 3]⟩
noncomputable def t_79 : List (Nat × Ctr) := [(17, c_2), (26, c_78), (27, c_4), (28, c_5), (29, c_12)]
theorem lk_79_17 : look t_79 17 = some c_2 := rfl
theorem lk_79_26 : look t_79 26 = some c_78 := rfl
theorem lk_79_27 : look t_79 27 = some c_4 := rfl
theorem lk_79_28 : look t_79 28 = some c_5 := rfl
theorem lk_79_29 : look t_79 29 = some c_12 := rfl
noncomputable def c_79 : Ctr := mkF t_79 ir11 [.bor]
theorem s_79 : Sound Tryz.prog 11 c_79 := mkF_sound _ rfl (snd_cons s_2 (snd_cons s_78 (snd_cons s_4 (snd_cons s_5 (snd_cons s_12 snd_nil))))) (by kernel_rfl : chkFn Tryz.prog 11 ir11 ir11_v = true)
theorem M_79 : c_79.modes = [.bor] := rfl
theorem Fl_79 : c_79.flat = true := rfl
attribute [go_sem] M_79 Fl_79
attribute [go_sem] lk_79_17 lk_79_26 lk_79_27 lk_79_28 lk_79_29
theorem Fs_79 {code : List UInt8} {y_ : (List Point) × Int × Int} (h : spec_DrawPlotLines code = some y_) : c_79.F [.sl 1 (List.map byteAV code)] = ⟨true, .tup [.fresh 2 (List.map Point_av y_.1), .int .i64 y_.2.1, .int .i64 y_.2.2], [.any]⟩ := by
 refine mkF_E (by simp only [flatA, flatB, flat1, List.all_cons, List.all_nil, Bool.and_self, flatE_map (f := Point_av) (fun _ => rfl)]) ?_
 dsimp only [spec_DrawPlotLines] at h
 obtain ⟨y_1, z1, h⟩ := bd_some h
 have fz1 := Fs_2 z1
 try simp only [go_sem] at fz1
 obtain ⟨y_2, z2, h⟩ := bd_some h
 have fz2 := Fs_78 z2
 try simp only [go_sem] at fz2
 obtain ⟨y_3, z3, h⟩ := bd_some h
 have fz3 := Fs_4 z3
 try simp only [go_sem] at fz3
 obtain ⟨y_4, z4, h⟩ := bd_some h
 have fz4 := Fs_5 z4
 try simp only [go_sem] at fz4
 rcases it_some h with ⟨z5, h⟩ | ⟨z5, h⟩
 ·try simp only [go_sem, n1, n2, n3, n4] at z5
  all_goals
  obtain ⟨y_6, z6, h⟩ := bd_some h
  have fz6 := Fs_12 z6
  try simp only [go_sem, z5] at fz6
  obtain ⟨y_7, z7, h⟩ := bd_some h
  have fz7 := Fs_5 z7
  try simp only [go_sem, z5] at fz7
  rcases it_some h with ⟨z8, h⟩ | ⟨z8, h⟩
  ·try simp only [go_sem, n1, n2, n3, n4, z5] at z8
   all_goals
   obtain ⟨y_9, z9, h⟩ := bd_some h
   have fz9 := Fs_12 z9
   try simp only [go_sem, z5, z8] at fz9
   obtain rfl := so_some h
   refine ⟨0, fun L hL => ?_⟩
   simp only [go_sem, ir11, fz1, fz2, fz3, fz4, z5, fz6, fz7, z8, fz9]
  ·try simp only [go_sem, n1, n2, n3, n4, z5] at z8
   all_goals
   obtain ⟨y_10, z10, h⟩ := bd_some h
   have fz10 := Fs_4 z10
   try simp only [go_sem, z5, z8] at fz10
   obtain rfl := so_some h
   refine ⟨0, fun L hL => ?_⟩
   simp only [go_sem, ir11, fz1, fz2, fz3, fz4, z5, fz6, fz7, z8, fz10]
 ·try simp only [go_sem, n1, n2, n3, n4] at z5
  all_goals
  obtain ⟨y_11, z11, h⟩ := bd_some h
  have fz11 := Fs_5 z11
  try simp only [go_sem, z5] at fz11
  rcases it_some h with ⟨z12, h⟩ | ⟨z12, h⟩
  ·try simp only [go_sem, n1, n2, n3, n4, z5] at z12
   all_goals
   obtain ⟨y_13, z13, h⟩ := bd_some h
   have fz13 := Fs_12 z13
   try simp only [go_sem, z5, z12] at fz13
   obtain rfl := so_some h
   refine ⟨0, fun L hL => ?_⟩
   simp only [go_sem, ir11, fz1, fz2, fz3, fz4, z5, fz11, z12, fz13]
  ·try simp only [go_sem, n1, n2, n3, n4, z5] at z12
   all_goals
   obtain ⟨y_14, z14, h⟩ := bd_some h
   have fz14 := Fs_4 z14
   try simp only [go_sem, z5, z12] at fz14
   obtain rfl := so_some h
   refine ⟨0, fun L hL => ?_⟩
   simp only [go_sem, ir11, fz1, fz2, fz3, fz4, z5, fz11, z12, fz14]


def ir30_b0 : IR := .seq (.region false [ VO 7 11 (.bin false .lss (.v 6) (.v 5))]) (.seq (.cond (.v 7) (.skip) (.exit 0)) (.seq (.block 1 (.seq (.region false [ PM 12 6, PO 13 (.ixAddr 2 (.v 4) (.v 6)), PO 14 (.load true 2 (.s 0)), VO 3 4 (.alloc (.agg [.int .i64 (0), .int .i64 (0)])), VS 2 3 2, ⟨.no, 0, none, .store 2 (.v 3) (.s 0)⟩]) (.anyo 25 [ SO 0 15 (.fldAddr 0 (.v 3)), SO 1 16 (.load false 1 (.s 0)), SO 2 17 (.callp 62 [(.s 1)]), SO 3 18 (.un .not (.s 2)), SO 4 19 (.mov (.s 3)), ⟨.slot 5, 20, (some ((.s 4), false)), .fldAddr 1 (.v 3)⟩, ⟨.slot 6, 21, (some ((.s 4), false)), .load false 1
 (.s 5)⟩, ⟨.slot 7, 22, (some ((.s 4), false)), .call 63 [(.s 6)]⟩, ⟨.slot 8, 23, (some ((.s 4), false)), .un .not (.s 7)⟩, SO 9 24 (.pick (.s 4) (.c (.bool true)) (.s 8)), SO 10 25 (.mov (.s 9)), ⟨.slot 11, 26, (some ((.s 10), false)), .mov (.v 2)⟩, ⟨.slot 12, 27, (some ((.s 10), false)), .bin false .gtr (.s 11) (I6 0)⟩, ⟨.slot 13, 28, (some ((.s 10), false)), .mov (.s 12)⟩, ⟨.slot 14, 29, (some ((.s 13), true)), .mov (.v 0)⟩, ⟨.slot 15, 30, (some ((.s 13), true)), .mov (.v 2)⟩, ⟨.slot 16, 31, (some ((.s 13), true)), .bin false .sub (.s 15) (I6 1)⟩, ⟨.slot 17, 32, (some ((.s 13), true)),
 .ixAddr 2 (.s 14) (.s 16)⟩, ⟨.slot 18, 33, (some ((.s 13), true)), .fldAddr 0 (.s 17)⟩, ⟨.slot 19, 34, (some ((.s 13), true)), .load false 1 (.s 18)⟩, ⟨.slot 20, 35, (some ((.s 13), true)), .fldAddr 0 (.v 3)⟩, ⟨.slot 21, 36, (some ((.s 13), true)), .load false 1 (.s 20)⟩, ⟨.slot 22, 37, (some ((.s 13), true)), .bin false .geq (.s 19) (.s 21)⟩, ⟨.slot 23, 38, (some ((.s 10), false)), .pick (.s 13) (.s 22) (.c (.bool false))⟩, SO 24 39 (.pick (.s 10) (.c (.bool true)) (.s 23))] [] (.cond (.s 24) (.seq (.region false [ VO 1 2 (.mov (.c (.bool false)))]) (.ret)) (.skip))))) (.region false [ PO 40
 (.bin false .add (.v 6) (I6 1)), VS 6 10 0])))
def ir30_k0 : List Bool := [true, false, false, false, true, true, true, false]
def ir30_o0 : List Bool := [false, false, false, false, false, false, false, false]
def ir30_r0 : List Bool := [false, true, false, false, false, false, false, false]
def ir30_v : List Nat := [0, 2, 3, 4, 8, 9, 10, 11]
def ir30 : AFn := ⟨1, 8, .seq (.region false [ VO 1 2 (.mov (.c (.bool false)))]) (.seq (.test false [ PM 5 0, PO 6 (.len false (.s 0)), PO 7 (.bin false .gtr (.s 0) (I6 100))] (.s 0) (.seq (.region false [ VO 1 2 (.mov (.c (.bool false)))]) (.ret)) (.skip)) (.seq (.seq (.region false [ VO 4 8 (.mov (.v 0)), VO 5 9 (.len false (.v 4)), VO 6 10 (.mov (I6 0))]) (.block 0 (.loop ir30_k0 ir30_o0 ir30_r0 ir30_b0))) (.seq (.region false [ VO 1 2 (.mov (.c (.bool true)))]) (.ret)))), [.t 1]⟩
noncomputable def t_80 : List (Nat × Ctr) := [(62, c_19), (63, c_21)]
theorem lk_80_62 : look t_80 62 = some c_19 := rfl
theorem lk_80_63 : look t_80 63 = some c_21 := rfl
noncomputable def c_80 : Ctr := mkF t_80 ir30 [.bor]
theorem s_80 : Sound Tryz.prog 30 c_80 := mkF_sound _ rfl (snd_cons s_19 (snd_cons s_21 snd_nil)) (by kernel_rfl : chkFn Tryz.prog 30 ir30 ir30_v = true)
theorem M_80 : c_80.modes = [.bor] := rfl
theorem Fl_80 : c_80.flat = true := rfl
attribute [go_sem] M_80 Fl_80
attribute [go_sem] lk_80_62 lk_80_63
def E_80_l1 (curve : List Point) (t8 : List Point) (t9 : Int) : Int → St
 | t10 => ⟨[.sl 2 (List.map Point_av curve), .any, .any, .any, .sl 2 (List.map Point_av t8), .int .i64 t9, .int .i64 t10, .any], [], [], true⟩
def R_80_l1 (curve : List Point) (t8 : List Point) (t9 : Int) : (Unit ⊕ Bool) → Res
 | .inl y => (.exit 0, ⟨[.any, .any, .any, .any, .any, .any, .any, .any], [], [], true⟩)
 | .inr y => (.ret, ⟨[.any, .bool y, .any, .any, .any, .any, .any, .any], [], [], true⟩)
theorem impl_ValidCurve_l1_ex {curve : List Point} {t8 : List Point} {t9 : Int} {sgm_ : Int} {rho_ : Unit ⊕ Bool} (h : whileE (impl_ValidCurve_l1 curve t8 t9) sgm_ = some rho_) : ∃ L0, ∀ L, L0 ≤ L → iter (exec (look t_80) L ir30_b0) ir30_k0 ir30_o0 ir30_r0 L (E_80_l1 curve t8 t9 sgm_) = R_80_l1 curve t8 t9 rho_ := by
 refine loop_ex (E := E_80_l1 curve t8 t9) (R := R_80_l1 curve t8 t9) (fun y => by first | (intro c; cases c) | (rcases y with y | y <;> (intro c; cases c)) | (rcases y with y | y | y <;> (intro c; cases c))) ?_ h
 clear h
 intro t10 o_ h
 dsimp only [impl_ValidCurve_l1] at h
 rcases it_some h with ⟨z2, h⟩ | ⟨z2, h⟩
 ·try simp only [go_sem, n1, n2, n3, n4] at z2
  all_goals
  obtain ⟨z3, h⟩ := ck_some h
  have lz3 := ix_lt z3
  have xz3 := getD_mapD Point_av t8 lz3
  try simp only [go_sem] at lz3
  try simp only [go_sem] at xz3
  try simp only [go_sem, n1, n2, n3, n4, z2] at z3
  all_goals
  obtain ⟨y_4, z4, h⟩ := bd_some h
  have fz4 := Fs_19 z4
  try simp only [go_sem, z2, z3] at fz4
  obtain ⟨z5, h⟩ := ck_some h
  rcases or_split z5 with ⟨gz5, z5⟩ | gz5
  ·try simp only [go_sem, n1, n2, n3, n4, z2, z3] at gz5
   all_goals
   obtain ⟨y_5, hz5⟩ := Option.isSome_iff_exists.1 z5
   have fz5 := Fs_21 hz5
   try simp only [go_sem, n1, n2, n3, n4, z2, z3, gz5] at hz5
   all_goals
   try simp only [go_sem, z2, z3, gz5] at fz5
   obtain ⟨z6, h⟩ := ck_some h
   rcases or_split z6 with ⟨gz6, z6⟩ | gz6
   ·try simp only [go_sem, n1, n2, n3, n4, z2, z3, gz5, hz5] at gz6
    all_goals
    have lz6 := ix_lt z6
    have xz6 := getD_mapD Point_av curve lz6
    try simp only [go_sem] at lz6
    try simp only [go_sem] at xz6
    try simp only [go_sem, n1, n2, n3, n4, z2, z3, gz5, hz5, gz6] at z6
    all_goals
    rcases it_some h with ⟨z7, h⟩ | ⟨z7, h⟩
    ·try simp only [go_sem, n1, n2, n3, n4, z2, z3, gz5, hz5, gz6, z6] at z7
     all_goals
     obtain rfl := so_some h
     refine ⟨0, fun L hL => ?_⟩
     simp only [go_sem, ir30, E_80_l1, R_80_l1, ir30_b0, ir30_k0, ir30_o0, ir30_r0, z2, z3, lz3, xz3, fz4, gz5, hz5, fz5, gz6, z6, lz6, xz6, z7]
    ·try simp only [go_sem, n1, n2, n3, n4, z2, z3, gz5, hz5, gz6, z6] at z7
     all_goals
     obtain rfl := so_some h
     refine ⟨0, fun L hL => ?_⟩
     simp only [go_sem, ir30, E_80_l1, R_80_l1, ir30_b0, ir30_k0, ir30_o0, ir30_r0, z2, z3, lz3, xz3, fz4, gz5, hz5, fz5, gz6, z6, lz6, xz6, z7]
   ·rcases and_f gz6 with gz6a | ⟨gz6a, gz6b⟩
    ·have gz6an := no_f gz6a
     rcases or_t gz6an with gz6ana | ⟨gz6ana, gz6anb⟩
     ·try simp only [go_sem, n1, n2, n3, n4, z2, z3, gz5, hz5] at gz6ana
      all_goals
      (simp_all)
     ·have gz6anan := no_f gz6ana
      have gz6anbn := no_t gz6anb
      try simp only [go_sem, n1, n2, n3, n4, z2, z3, gz5, hz5] at gz6anan
      all_goals
      try simp only [go_sem, n1, n2, n3, n4, z2, z3, gz5, hz5, gz6anan] at gz6anbn
      all_goals
      rcases it_some h with ⟨z7, h⟩ | ⟨z7, h⟩
      ·try simp only [go_sem, n1, n2, n3, n4, z2, z3, gz5, hz5, gz6anan, gz6anbn] at z7
       all_goals
       obtain rfl := so_some h
       refine ⟨0, fun L hL => ?_⟩
       simp only [go_sem, ir30, E_80_l1, R_80_l1, ir30_b0, ir30_k0, ir30_o0, ir30_r0, z2, z3, lz3, xz3, fz4, gz5, hz5, fz5, gz6anan, gz6anbn, z7]
      ·try simp only [go_sem, n1, n2, n3, n4, z2, z3, gz5, hz5, gz6anan, gz6anbn] at z7
       all_goals
       (simp_all)
    ·have gz6an := no_t gz6a
     obtain ⟨gz6ana, gz6anb⟩ := or_f gz6an
     have gz6anan := no_f gz6ana
     have gz6anbn := no_f gz6anb
     try simp only [go_sem, n1, n2, n3, n4, z2, z3, gz5, hz5] at gz6anan
     all_goals
     try simp only [go_sem, n1, n2, n3, n4, z2, z3, gz5, hz5, gz6anan] at gz6anbn
     all_goals
     try simp only [go_sem, n1, n2, n3, n4, z2, z3, gz5, hz5, gz6anan, gz6anbn] at gz6b
     all_goals
     rcases it_some h with ⟨z7, h⟩ | ⟨z7, h⟩
     ·try simp only [go_sem, n1, n2, n3, n4, z2, z3, gz5, hz5, gz6anan, gz6anbn, gz6b] at z7
      all_goals
      (simp_all)
     ·try simp only [go_sem, n1, n2, n3, n4, z2, z3, gz5, hz5, gz6anan, gz6anbn, gz6b] at z7
      all_goals
      obtain rfl := so_some h
      refine ⟨0, fun L hL => ?_⟩
      simp only [go_sem, ir30, E_80_l1, R_80_l1, ir30_b0, ir30_k0, ir30_o0, ir30_r0, z2, z3, lz3, xz3, fz4, gz5, hz5, fz5, gz6anan, gz6anbn, gz6b, z7]
  ·have gz5n := no_f gz5
   have gz5nn := no_t gz5n
   try simp only [go_sem, n1, n2, n3, n4, z2, z3] at gz5nn
   all_goals
   obtain ⟨z6, h⟩ := ck_some h
   rcases it_some h with ⟨z7, h⟩ | ⟨z7, h⟩
   ·try simp only [go_sem, n1, n2, n3, n4, z2, z3, gz5nn] at z7
    all_goals
    obtain rfl := so_some h
    refine ⟨0, fun L hL => ?_⟩
    simp only [go_sem, ir30, E_80_l1, R_80_l1, ir30_b0, ir30_k0, ir30_o0, ir30_r0, z2, z3, lz3, xz3, fz4, gz5nn, z7]
   ·try simp only [go_sem, n1, n2, n3, n4, z2, z3, gz5nn] at z7
    all_goals
    (simp_all)
 ·try simp only [go_sem, n1, n2, n3, n4] at z2
  all_goals
  obtain rfl := so_some h
  refine ⟨0, fun L hL => ?_⟩
  simp only [go_sem, ir30, E_80_l1, R_80_l1, ir30_b0, ir30_k0, ir30_o0, ir30_r0, z2]

theorem Fs_80 {curve : List Point} {y_ : Bool} (h : impl_ValidCurve curve = some y_) : c_80.F [.sl 2 (List.map Point_av curve)] = ⟨true, .bool y_, [.any]⟩ := by
 refine mkF_E rfl ?_
 dsimp only [impl_ValidCurve] at h
 rcases it_some h with ⟨z1, h⟩ | ⟨z1, h⟩
 ·try simp only [go_sem, n1, n2, n3, n4] at z1
  all_goals
  obtain rfl := so_some h
  refine ⟨0, fun L hL => ?_⟩
  simp only [go_sem, ir30, E_80_l1, R_80_l1, ir30_k0, ir30_o0, ir30_r0, z1]
 ·try simp only [go_sem, n1, n2, n3, n4] at z1
  all_goals
  obtain ⟨y_8, z8, h⟩ := bd_some h
  obtain ⟨Lz8, ez8⟩ := impl_ValidCurve_l1_ex z8
  rcases y_8 with y_8a | y_8b
  ·dsimp only at h
   obtain rfl := so_some h
   refine ⟨Lz8, fun L hL => ?_⟩
   have ez8 := ez8 L (by omega)
   try simp only [go_sem, E_80_l1, R_80_l1, ir30_k0, ir30_o0, ir30_r0, z1] at ez8
   simp only [go_sem, ir30, E_80_l1, R_80_l1, ir30_k0, ir30_o0, ir30_r0, z1, ez8]
  ·dsimp only at h
   obtain rfl := so_some h
   refine ⟨Lz8, fun L hL => ?_⟩
   have ez8 := ez8 L (by omega)
   try simp only [go_sem, E_80_l1, R_80_l1, ir30_k0, ir30_o0, ir30_r0, z1] at ez8
   simp only [go_sem, ir30, E_80_l1, R_80_l1, ir30_k0, ir30_o0, ir30_r0, z1, ez8]


def ir34_b0 : IR := .seq (.region false [ VO 7 10 (.bin false .lss (.v 6) (.v 5))]) (.seq (.cond (.v 7) (.skip) (.exit 0)) (.seq (.block 1 (.seq (.region false [ PO 11 (.ixAddr 2 (.v 4) (.v 6)), PO 12 (.load true 2 (.s 0)), VO 3 5 (.alloc (.agg [.int .i64 (0), .int .i64 (0)])), ⟨.no, 0, none, .store 2 (.v 3) (.s 0)⟩]) (.region false [ PM 13 2, PO 14 (.fldAddr 1 (.v 3)), PO 15 (.load false 1 (.s 0)), PO 16 (.mkSl 1 (.int .i64 (0)) 1 [(0, (.s 0))]), PO 17 (.app 1 8 (.int .i64 (0)) (.s 3) (.s 0)), VS 2 3 0]))) (.region false [ PO 18 (.bin false .add (.v 6) (I6 1)), VS 6 9 0])))
def ir34_k0 : List Bool := [false, false, true, false, true, true, true, false]
def ir34_o0 : List Bool := [false, false, true, false, false, false, false, false]
def ir34_r0 : List Bool := [false, true, false, false, false, false, false, false]
def ir34_v : List Nat := [0, 2, 3, 5, 7, 8, 9, 10]
def ir34 : AFn := ⟨1, 8, .seq (.region false [ VO 1 2 (.newnil 1)]) (.seq (.region false [ PO 6 (.mkSl 1 (.int .i64 (0)) 0 []), VS 2 3 0]) (.seq (.seq (.region false [ VO 4 7 (.mov (.v 0)), VO 5 8 (.len false (.v 4)), VO 6 9 (.mov (I6 0))]) (.block 0 (.loop ir34_k0 ir34_o0 ir34_r0 ir34_b0))) (.seq (.region false [ PM 19 2, VS 1 2 0]) (.ret)))), [.t 1]⟩
noncomputable def t_81 : List (Nat × Ctr) := []
noncomputable def c_81 : Ctr := mkF t_81 ir34 [.bor]
theorem s_81 : Sound Tryz.prog 34 c_81 := mkF_sound _ rfl snd_nil (by kernel_rfl : chkFn Tryz.prog 34 ir34 ir34_v = true)
theorem M_81 : c_81.modes = [.bor] := rfl
theorem Fl_81 : c_81.flat = true := rfl
attribute [go_sem] M_81 Fl_81
def E_81_l1 (t7 : List Point) (t8 : Int) : ((List Int) × Int) → St
 | (out, t9) => ⟨[.any, .any, .own 3200000, .any, .sl 2 (List.map Point_av t7), .int .i64 t8, .int .i64 t9, .any], [], [(3200000, ⟨1, List.map (AV.int .i64) out⟩)], true⟩
def R_81_l1 (t7 : List Point) (t8 : Int) (y : (List Int)) : Res := (.exit 0, ⟨[.any, .any, .own 3200000, .any, .any, .any, .any, .any], [], [(3200000, ⟨1, List.map (AV.int .i64) y⟩)], true⟩)
theorem impl_magsIn_l1_ex {t7 : List Point} {t8 : Int} {sgm_ : (List Int) × Int} {rho_ : (List Int)} (h : whileE (impl_magsIn_l1 t7 t8) sgm_ = some rho_) : ∃ L0, ∀ L, L0 ≤ L → iter (exec (look t_81) L ir34_b0) ir34_k0 ir34_o0 ir34_r0 L (E_81_l1 t7 t8 sgm_) = R_81_l1 t7 t8 rho_ := by
 refine loop_ex (E := E_81_l1 t7 t8) (R := R_81_l1 t7 t8) (fun y => by first | (intro c; cases c) | (rcases y with y | y <;> (intro c; cases c)) | (rcases y with y | y | y <;> (intro c; cases c))) ?_ h
 clear h
 rintro ⟨out, t9⟩ o_ h
 dsimp only [impl_magsIn_l1] at h
 rcases it_some h with ⟨z1, h⟩ | ⟨z1, h⟩
 ·try simp only [go_sem, n1, n2, n3, n4] at z1
  all_goals
  obtain ⟨z2, h⟩ := ck_some h
  have lz2 := ix_lt z2
  have xz2 := getD_mapD Point_av t7 lz2
  try simp only [go_sem] at lz2
  try simp only [go_sem] at xz2
  try simp only [go_sem, n1, n2, n3, n4, z1] at z2
  all_goals
  obtain ⟨z3, h⟩ := ck_some h
  try simp only [go_sem, n1, n2, n3, n4, z1, z2] at z3
  all_goals
  obtain rfl := so_some h
  refine ⟨0, fun L hL => ?_⟩
  simp only [go_sem, ir34, E_81_l1, R_81_l1, ir34_b0, ir34_k0, ir34_o0, ir34_r0, z1, z2, lz2, xz2, z3]
 ·try simp only [go_sem, n1, n2, n3, n4] at z1
  all_goals
  obtain rfl := so_some h
  refine ⟨0, fun L hL => ?_⟩
  simp only [go_sem, ir34, E_81_l1, R_81_l1, ir34_b0, ir34_k0, ir34_o0, ir34_r0, z1]

theorem Fs_81 {curve : List Point} {y_ : (List Int)} (h : impl_magsIn curve = some y_) : c_81.F [.sl 2 (List.map Point_av curve)] = ⟨true, .fresh 1 (List.map (AV.int .i64) y_), [.any]⟩ := by
 refine mkF_E (by simp only [flatA, flatB, flat1, List.all_cons, List.all_nil, Bool.and_self, flatE_map (f := (AV.int .i64)) (fun _ => rfl)]) ?_
 dsimp only [impl_magsIn] at h
 obtain ⟨y_4, z4, h⟩ := bd_some h
 obtain ⟨Lz4, ez4⟩ := impl_magsIn_l1_ex z4
 obtain rfl := so_some h
 refine ⟨Lz4, fun L hL => ?_⟩
 have ez4 := ez4 L (by omega)
 try simp only [go_sem, E_81_l1, R_81_l1, ir34_k0, ir34_o0, ir34_r0] at ez4
 simp only [go_sem, ir34, E_81_l1, R_81_l1, ir34_k0, ir34_o0, ir34_r0, ez4]


theorem s_hRepeat : Sound Tryz.prog 32 c_hRepeat := hRepeat_is


def ir35_b0 : IR := .seq (.test false [ PM 4 2, PM 5 0, PO 6 (.len false (.s 0)), PO 7 (.bin false .lss (.s 2) (.s 0))] (.s 0) (.skip) (.exit 0)) (.seq (.block 1 (.anyo 34 [ SO 0 10 (.mov (.v 0)), SO 1 11 (.mov (.v 2)), SO 2 12 (.ixAddr 2 (.s 0) (.s 1)), SO 3 13 (.fldAddr 0 (.s 2)), SO 4 14 (.load false 1 (.s 3)), SO 5 15 (.callp 73 [(.s 4)]), SO 6 16 (.un .not (.s 5)), SO 7 17 (.mov (.s 6)), ⟨.slot 8, 18, (some ((.s 7), false)), .mov (.v 0)⟩, ⟨.slot 9, 19, (some ((.s 7), false)), .mov (.v 2)⟩, ⟨.slot 10, 20, (some ((.s 7), false)), .ixAddr 2 (.s 8) (.s 9)⟩, ⟨.slot 11, 21, (some ((.s 7),
 false)), .fldAddr 1 (.s 10)⟩, ⟨.slot 12, 22, (some ((.s 7), false)), .load false 1 (.s 11)⟩, ⟨.slot 13, 23, (some ((.s 7), false)), .call 74 [(.s 12)]⟩, ⟨.slot 14, 24, (some ((.s 7), false)), .un .not (.s 13)⟩, SO 15 25 (.pick (.s 7) (.c (.bool true)) (.s 14)), SO 16 26 (.mov (.s 15)), ⟨.slot 17, 27, (some ((.s 16), false)), .mov (.v 2)⟩, ⟨.slot 18, 28, (some ((.s 16), false)), .bin false .gtr (.s 17) (I6 0)⟩, ⟨.slot 19, 29, (some ((.s 16), false)), .mov (.s 18)⟩, ⟨.slot 20, 30, (some ((.s 19), true)), .mov (.v 0)⟩, ⟨.slot 21, 31, (some ((.s 19), true)), .mov (.v 2)⟩, ⟨.slot 22, 32, (some ((.s
 19), true)), .bin false .sub (.s 21) (I6 1)⟩, ⟨.slot 23, 33, (some ((.s 19), true)), .ixAddr 2 (.s 20) (.s 22)⟩, ⟨.slot 24, 34, (some ((.s 19), true)), .fldAddr 0 (.s 23)⟩, ⟨.slot 25, 35, (some ((.s 19), true)), .load false 1 (.s 24)⟩, ⟨.slot 26, 36, (some ((.s 19), true)), .mov (.v 0)⟩, ⟨.slot 27, 37, (some ((.s 19), true)), .mov (.v 2)⟩, ⟨.slot 28, 38, (some ((.s 19), true)), .ixAddr 2 (.s 26) (.s 27)⟩, ⟨.slot 29, 39, (some ((.s 19), true)), .fldAddr 0 (.s 28)⟩, ⟨.slot 30, 40, (some ((.s 19), true)), .load false 1 (.s 29)⟩, ⟨.slot 31, 41, (some ((.s 19), true)), .bin false .geq (.s 25) (.s
 30)⟩, ⟨.slot 32, 42, (some ((.s 16), false)), .pick (.s 19) (.s 31) (.c (.bool false))⟩, SO 33 43 (.pick (.s 16) (.c (.bool true)) (.s 32))] [] (.cond (.s 33) (.seq (.region false [ VO 1 2 (.mov (.c (.bool false)))]) (.ret)) (.skip)))) (.region false [ PM 8 2, PO 9 (.bin false .add (.s 0) (I6 1)), VS 2 3 0]))
def ir35_k0 : List Bool := [true, false, true]
def ir35_o0 : List Bool := [true, false, false]
def ir35_r0 : List Bool := [false, true, false]
def ir35_v : List Nat := [0, 2, 3]
def ir35 : AFn := ⟨1, 3, .seq (.region false [ VO 1 2 (.mov (.c (.bool false)))]) (.seq (.seq (.region false [ VO 2 3 (.mov (I6 0))]) (.block 0 (.loop ir35_k0 ir35_o0 ir35_r0 ir35_b0))) (.seq (.region false [ PM 44 0, PO 45 (.len false (.s 0)), PO 46 (.bin false .leq (.s 0) (I6 100)), VS 1 2 0]) (.ret))), [.t 1]⟩
noncomputable def t_84 : List (Nat × Ctr) := [(73, c_57), (74, c_61)]
theorem lk_84_73 : look t_84 73 = some c_57 := rfl
theorem lk_84_74 : look t_84 74 = some c_61 := rfl
noncomputable def c_84 : Ctr := mkF t_84 ir35 [.bor]
theorem s_84 : Sound Tryz.prog 35 c_84 := mkF_sound _ rfl (snd_cons s_57 (snd_cons s_61 snd_nil)) (by kernel_rfl : chkFn Tryz.prog 35 ir35 ir35_v = true)
theorem M_84 : c_84.modes = [.bor] := rfl
theorem Fl_84 : c_84.flat = true := rfl
attribute [go_sem] M_84 Fl_84
attribute [go_sem] lk_84_73 lk_84_74
def E_84_l1 (curve : List Point) : Int → St
 | i => ⟨[.sl 2 (List.map Point_av curve), .any, .int .i64 i], [], [], true⟩
def R_84_l1 (curve : List Point) : (Unit ⊕ Bool) → Res
 | .inl y => (.exit 0, ⟨[.sl 2 (List.map Point_av curve), .any, .any], [], [], true⟩)
 | .inr y => (.ret, ⟨[.any, .bool y, .any], [], [], true⟩)
theorem spec_l08Ok_l1_ex {curve : List Point} {sgm_ : Int} {rho_ : Unit ⊕ Bool} (h : whileE (spec_l08Ok_l1 curve) sgm_ = some rho_) : ∃ L0, ∀ L, L0 ≤ L → iter (exec (look t_84) L ir35_b0) ir35_k0 ir35_o0 ir35_r0 L (E_84_l1 curve sgm_) = R_84_l1 curve rho_ := by
 refine loop_ex (E := E_84_l1 curve) (R := R_84_l1 curve) (fun y => by first | (intro c; cases c) | (rcases y with y | y <;> (intro c; cases c)) | (rcases y with y | y | y <;> (intro c; cases c))) ?_ h
 clear h
 intro i o_ h
 dsimp only [spec_l08Ok_l1] at h
 rcases it_some h with ⟨z1, h⟩ | ⟨z1, h⟩
 ·try simp only [go_sem, n1, n2, n3, n4] at z1
  all_goals
  obtain ⟨z2, h⟩ := ck_some h
  have lz2 := ix_lt z2
  have xz2 := getD_mapD Point_av curve lz2
  try simp only [go_sem] at lz2
  try simp only [go_sem] at xz2
  try simp only [go_sem, n1, n2, n3, n4, z1] at z2
  all_goals
  obtain ⟨y_3, z3, h⟩ := bd_some h
  have fz3 := Fs_57 z3
  try simp only [go_sem, z1, z2] at fz3
  obtain ⟨z4, h⟩ := ck_some h
  rcases or_split z4 with ⟨gz4, z4⟩ | gz4
  ·try simp only [go_sem, n1, n2, n3, n4, z1, z2] at gz4
   all_goals
   obtain ⟨y_4, hz4⟩ := Option.isSome_iff_exists.1 z4
   have fz4 := Fs_61 hz4
   try simp only [go_sem, n1, n2, n3, n4, z1, z2, gz4] at hz4
   all_goals
   try simp only [go_sem, z1, z2, gz4] at fz4
   obtain ⟨z5, h⟩ := ck_some h
   rcases or_split z5 with ⟨gz5, z5⟩ | gz5
   ·try simp only [go_sem, n1, n2, n3, n4, z1, z2, gz4, hz4] at gz5
    all_goals
    have lz5 := ix_lt z5
    have xz5 := getD_mapD Point_av curve lz5
    try simp only [go_sem] at lz5
    try simp only [go_sem] at xz5
    try simp only [go_sem, n1, n2, n3, n4, z1, z2, gz4, hz4, gz5] at z5
    all_goals
    rcases it_some h with ⟨z6, h⟩ | ⟨z6, h⟩
    ·try simp only [go_sem, n1, n2, n3, n4, z1, z2, gz4, hz4, gz5, z5] at z6
     all_goals
     obtain rfl := so_some h
     refine ⟨0, fun L hL => ?_⟩
     simp only [go_sem, ir35, E_84_l1, R_84_l1, ir35_b0, ir35_k0, ir35_o0, ir35_r0, z1, z2, lz2, xz2, fz3, gz4, hz4, fz4, gz5, z5, lz5, xz5, z6]
    ·try simp only [go_sem, n1, n2, n3, n4, z1, z2, gz4, hz4, gz5, z5] at z6
     all_goals
     obtain rfl := so_some h
     refine ⟨0, fun L hL => ?_⟩
     simp only [go_sem, ir35, E_84_l1, R_84_l1, ir35_b0, ir35_k0, ir35_o0, ir35_r0, z1, z2, lz2, xz2, fz3, gz4, hz4, fz4, gz5, z5, lz5, xz5, z6]
   ·rcases and_f gz5 with gz5a | ⟨gz5a, gz5b⟩
    ·have gz5an := no_f gz5a
     rcases or_t gz5an with gz5ana | ⟨gz5ana, gz5anb⟩
     ·try simp only [go_sem, n1, n2, n3, n4, z1, z2, gz4, hz4] at gz5ana
      all_goals
      (simp_all)
     ·have gz5anan := no_f gz5ana
      have gz5anbn := no_t gz5anb
      try simp only [go_sem, n1, n2, n3, n4, z1, z2, gz4, hz4] at gz5anan
      all_goals
      try simp only [go_sem, n1, n2, n3, n4, z1, z2, gz4, hz4, gz5anan] at gz5anbn
      all_goals
      rcases it_some h with ⟨z6, h⟩ | ⟨z6, h⟩
      ·try simp only [go_sem, n1, n2, n3, n4, z1, z2, gz4, hz4, gz5anan, gz5anbn] at z6
       all_goals
       obtain rfl := so_some h
       refine ⟨0, fun L hL => ?_⟩
       simp only [go_sem, ir35, E_84_l1, R_84_l1, ir35_b0, ir35_k0, ir35_o0, ir35_r0, z1, z2, lz2, xz2, fz3, gz4, hz4, fz4, gz5anan, gz5anbn, z6]
      ·try simp only [go_sem, n1, n2, n3, n4, z1, z2, gz4, hz4, gz5anan, gz5anbn] at z6
       all_goals
       (simp_all)
    ·have gz5an := no_t gz5a
     obtain ⟨gz5ana, gz5anb⟩ := or_f gz5an
     have gz5anan := no_f gz5ana
     have gz5anbn := no_f gz5anb
     try simp only [go_sem, n1, n2, n3, n4, z1, z2, gz4, hz4] at gz5anan
     all_goals
     try simp only [go_sem, n1, n2, n3, n4, z1, z2, gz4, hz4, gz5anan] at gz5anbn
     all_goals
     try simp only [go_sem, n1, n2, n3, n4, z1, z2, gz4, hz4, gz5anan, gz5anbn] at gz5b
     all_goals
     rcases it_some h with ⟨z6, h⟩ | ⟨z6, h⟩
     ·try simp only [go_sem, n1, n2, n3, n4, z1, z2, gz4, hz4, gz5anan, gz5anbn, gz5b] at z6
      all_goals
      (simp_all)
     ·try simp only [go_sem, n1, n2, n3, n4, z1, z2, gz4, hz4, gz5anan, gz5anbn, gz5b] at z6
      all_goals
      obtain rfl := so_some h
      refine ⟨0, fun L hL => ?_⟩
      simp only [go_sem, ir35, E_84_l1, R_84_l1, ir35_b0, ir35_k0, ir35_o0, ir35_r0, z1, z2, lz2, xz2, fz3, gz4, hz4, fz4, gz5anan, gz5anbn, gz5b, z6]
  ·have gz4n := no_f gz4
   have gz4nn := no_t gz4n
   try simp only [go_sem, n1, n2, n3, n4, z1, z2] at gz4nn
   all_goals
   obtain ⟨z5, h⟩ := ck_some h
   rcases it_some h with ⟨z6, h⟩ | ⟨z6, h⟩
   ·try simp only [go_sem, n1, n2, n3, n4, z1, z2, gz4nn] at z6
    all_goals
    obtain rfl := so_some h
    refine ⟨0, fun L hL => ?_⟩
    simp only [go_sem, ir35, E_84_l1, R_84_l1, ir35_b0, ir35_k0, ir35_o0, ir35_r0, z1, z2, lz2, xz2, fz3, gz4nn, z6]
   ·try simp only [go_sem, n1, n2, n3, n4, z1, z2, gz4nn] at z6
    all_goals
    (simp_all)
 ·try simp only [go_sem, n1, n2, n3, n4] at z1
  all_goals
  obtain rfl := so_some h
  refine ⟨0, fun L hL => ?_⟩
  simp only [go_sem, ir35, E_84_l1, R_84_l1, ir35_b0, ir35_k0, ir35_o0, ir35_r0, z1]

theorem Fs_84 {curve : List Point} {y_ : Bool} (h : spec_l08Ok curve = some y_) : c_84.F [.sl 2 (List.map Point_av curve)] = ⟨true, .bool y_, [.any]⟩ := by
 refine mkF_E rfl ?_
 dsimp only [spec_l08Ok] at h
 obtain ⟨y_7, z7, h⟩ := bd_some h
 obtain ⟨Lz7, ez7⟩ := spec_l08Ok_l1_ex z7
 rcases y_7 with y_7a | y_7b
 ·dsimp only at h
  obtain rfl := so_some h
  refine ⟨Lz7, fun L hL => ?_⟩
  have ez7 := ez7 L (by omega)
  try simp only [go_sem, E_84_l1, R_84_l1, ir35_k0, ir35_o0, ir35_r0] at ez7
  simp only [go_sem, ir35, E_84_l1, R_84_l1, ir35_k0, ir35_o0, ir35_r0, ez7]
 ·dsimp only at h
  obtain rfl := so_some h
  refine ⟨Lz7, fun L hL => ?_⟩
  have ez7 := ez7 L (by omega)
  try simp only [go_sem, E_84_l1, R_84_l1, ir35_k0, ir35_o0, ir35_r0] at ez7
  simp only [go_sem, ir35, E_84_l1, R_84_l1, ir35_k0, ir35_o0, ir35_r0, ez7]


def ir37_b0 : IR := .seq (.test false [ PM 5 0, PO 6 (.bin false .gtr (.s 0) (I6 0))] (.s 0) (.skip) (.exit 0)) (.seq (.block 1 (.region false [ PM 9 2, PO 10 (.mkSl 1 (.int .u8 (0)) 1 [(0, (.c (.int .u8 (32))))]), PO 11 (.app 1 1 (.int .u8 (0)) (.s 1) (.s 0)), VS 2 3 0])) (.region false [ PM 7 0, PO 8 (.bin false .sub (.s 0) (I6 1)), VS 0 0 0]))
def ir37_k0 : List Bool := [true, false, true]
def ir37_o0 : List Bool := [false, false, true]
def ir37_r0 : List Bool := [false, true, false]
def ir37_v : List Nat := [0, 2, 3]
def ir37 : AFn := ⟨1, 3, .seq (.region false [ VO 1 2 (.mov (.c (.str [])))]) (.seq (.region false [ PO 4 (.mkSl 1 (.int .u8 (0)) 0 []), VS 2 3 0]) (.seq (.block 0 (.loop ir37_k0 ir37_o0 ir37_r0 ir37_b0)) (.seq (.region false [ PM 12 2, PO 13 (.b2s (.s 0)), VS 1 2 0]) (.ret)))), [.t 1]⟩
noncomputable def t_85 : List (Nat × Ctr) := []
noncomputable def c_85 : Ctr := mkF t_85 ir37 [.bor]
theorem s_85 : Sound Tryz.prog 37 c_85 := mkF_sound _ rfl snd_nil (by kernel_rfl : chkFn Tryz.prog 37 ir37 ir37_v = true)
theorem M_85 : c_85.modes = [.bor] := rfl
theorem Fl_85 : c_85.flat = true := rfl
attribute [go_sem] M_85 Fl_85
def E_85_l1  : (Int × (List UInt8)) → St
 | (n, out) => ⟨[.int .i64 n, .any, .own 3200000], [], [(3200000, ⟨1, List.map byteAV out⟩)], true⟩
def R_85_l1  (y : (List UInt8)) : Res := (.exit 0, ⟨[.any, .any, .own 3200000], [], [(3200000, ⟨1, List.map byteAV y⟩)], true⟩)
theorem spec_l24Blanks_l1_ex  {sgm_ : Int × (List UInt8)} {rho_ : (List UInt8)} (h : whileE (spec_l24Blanks_l1) sgm_ = some rho_) : ∃ L0, ∀ L, L0 ≤ L → iter (exec (look t_85) L ir37_b0) ir37_k0 ir37_o0 ir37_r0 L (E_85_l1 sgm_) = R_85_l1 rho_ := by
 refine loop_ex (E := E_85_l1) (R := R_85_l1) (fun y => by first | (intro c; cases c) | (rcases y with y | y <;> (intro c; cases c)) | (rcases y with y | y | y <;> (intro c; cases c))) ?_ h
 clear h
 rintro ⟨n, out⟩ o_ h
 dsimp only [spec_l24Blanks_l1] at h
 rcases it_some h with ⟨z1, h⟩ | ⟨z1, h⟩
 ·try simp only [go_sem, n1, n2, n3, n4] at z1
  all_goals
  obtain ⟨z2, h⟩ := ck_some h
  try simp only [go_sem, n1, n2, n3, n4, z1] at z2
  all_goals
  obtain rfl := so_some h
  refine ⟨0, fun L hL => ?_⟩
  simp only [go_sem, ir37, E_85_l1, R_85_l1, ir37_b0, ir37_k0, ir37_o0, ir37_r0, z1, z2]
 ·try simp only [go_sem, n1, n2, n3, n4] at z1
  all_goals
  obtain rfl := so_some h
  refine ⟨0, fun L hL => ?_⟩
  simp only [go_sem, ir37, E_85_l1, R_85_l1, ir37_b0, ir37_k0, ir37_o0, ir37_r0, z1]

theorem Fs_85 {n : Int} {y_ : (List UInt8)} (h : spec_l24Blanks n = some y_) : c_85.F [.int .i64 n] = ⟨true, .str y_, [.any]⟩ := by
 refine mkF_E rfl ?_
 dsimp only [spec_l24Blanks] at h
 obtain ⟨y_3, z3, h⟩ := bd_some h
 obtain ⟨Lz3, ez3⟩ := spec_l24Blanks_l1_ex z3
 obtain rfl := so_some h
 refine ⟨Lz3, fun L hL => ?_⟩
 have ez3 := ez3 L (by omega)
 try simp only [go_sem, E_85_l1, R_85_l1, ir37_k0, ir37_o0, ir37_r0] at ez3
 simp only [go_sem, ir37, E_85_l1, R_85_l1, ir37_k0, ir37_o0, ir37_r0, ez3]



end Go.Proofs.YtbobhejdijcofaaGreatDoor
