/- Codes and contracts of the functions that VO reaches, and that their typed forms say what they do. No condition. -/
import Derived.Test.YtdcmnpiafeigaaaGreatDoorVOKa
import Derived.Test.YtdcmnpiafeigaaaGreatDoorRows
import Derived.WalkKit
namespace Go.Proofs.YtdcmnpiafeigaaaGreatDoor
open Go Go.RowKit
set_option linter.unusedVariables false
set_option linter.unusedSimpArgs false
set_option maxRecDepth 10000

def ir60_b0 : IR := .seq (.test false [ PM 4 2, PM 5 0, PO 6 (.len false (.s 0)), PO 7 (.bin false .lss (.s 2) (.s 0))] (.s 0) (.skip) (.exit 0)) (.seq (.block 1 (.anyo 20 [ SO 0 10 (.mov (.v 0)), SO 1 11 (.mov (.v 2)), SO 2 12 (.ixAddr 5 (.s 0) (.s 1)), SO 3 13 (.callp 77 [(.s 2)]), SO 4 14 (.un .not (.s 3)), SO 5 15 (.mov (.s 4)), ⟨.slot 6, 16, (some ((.s 5), false)), .mov (.v 2)⟩, ⟨.slot 7, 17, (some ((.s 5), false)), .bin false .gtr (.s 6) (I6 0)⟩, ⟨.slot 8, 18, (some ((.s 5), false)), .mov (.s 7)⟩, ⟨.slot 9, 19, (some ((.s 8), true)), .mov (.v 0)⟩, ⟨.slot 10, 20, (some ((.s 8), true)),
 .mov (.v 2)⟩, ⟨.slot 11, 21, (some ((.s 8), true)), .bin false .sub (.s 10) (I6 1)⟩, ⟨.slot 12, 22, (some ((.s 8), true)), .ixAddr 5 (.s 9) (.s 11)⟩, ⟨.slot 13, 23, (some ((.s 8), true)), .mov (.v 0)⟩, ⟨.slot 14, 24, (some ((.s 8), true)), .mov (.v 2)⟩, ⟨.slot 15, 25, (some ((.s 8), true)), .ixAddr 5 (.s 13) (.s 14)⟩, ⟨.slot 16, 26, (some ((.s 8), true)), .call 78 [(.s 12), (.s 15)]⟩, ⟨.slot 17, 27, (some ((.s 8), true)), .un .not (.s 16)⟩, ⟨.slot 18, 28, (some ((.s 5), false)), .pick (.s 8) (.s 17) (.c (.bool false))⟩, SO 19 29 (.pick (.s 5) (.c (.bool true)) (.s 18))] [] (.cond (.s 19) (.seq
 (.region false [ VO 1 2 (.mov (.c (.bool false)))]) (.ret)) (.skip)))) (.region false [ PM 8 2, PO 9 (.bin false .add (.s 0) (I6 1)), VS 2 3 0]))
def ir60_k0 : List Bool := [true, false, true]
def ir60_o0 : List Bool := [true, false, false]
def ir60_r0 : List Bool := [false, true, false]
def ir60_v : List Nat := [0, 2, 3]
def ir60 : AFn := ⟨1, 3, .seq (.region false [ VO 1 2 (.mov (.c (.bool false)))]) (.seq (.seq (.region false [ VO 2 3 (.mov (I6 0))]) (.block 0 (.loop ir60_k0 ir60_o0 ir60_r0 ir60_b0))) (.seq (.region false [ PM 30 0, PO 31 (.len false (.s 0)), PO 32 (.bin false .leq (.s 0) (I6 100)), VS 1 2 0]) (.ret))), [.t 1]⟩
noncomputable def t_80 : List (Nat × Ctr) := [(77, c_79), (78, c_56)]
theorem lk_80_77 : look t_80 77 = some c_79 := rfl
theorem lk_80_78 : look t_80 78 = some c_56 := rfl
noncomputable def c_80 : Ctr := mkF t_80 ir60 [.bor]
theorem s_80 : Sound Tryz.prog 60 c_80 := mkF_sound _ rfl (snd_cons s_79 (snd_cons s_56 snd_nil)) (by kernel_rfl : chkFn Tryz.prog 60 ir60 ir60_v = true)
theorem M_80 : c_80.modes = [.bor] := rfl
theorem Fl_80 : c_80.flat = true := rfl
attribute [go_sem] M_80 Fl_80
attribute [go_sem] lk_80_77 lk_80_78
def E_80_l1 (list : List Estimate) : Int → St
 | i => ⟨[.sl 5 (List.map Estimate_av list), .any, .int .i64 i], [], [], true⟩
def R_80_l1 (list : List Estimate) : (Unit ⊕ Bool) → Res
 | .inl y => (.exit 0, ⟨[.sl 5 (List.map Estimate_av list), .any, .any], [], [], true⟩)
 | .inr y => (.ret, ⟨[.any, .bool y, .any], [], [], true⟩)
theorem spec_l06Ok_l1_ex {list : List Estimate} {sgm_ : Int} {rho_ : Unit ⊕ Bool} (h : whileE (spec_l06Ok_l1 list) sgm_ = some rho_) : ∃ L0, ∀ L, L0 ≤ L → iter (exec (look t_80) L ir60_b0) ir60_k0 ir60_o0 ir60_r0 L (E_80_l1 list sgm_) = R_80_l1 list rho_ := by
 refine loop_ex (E := E_80_l1 list) (R := R_80_l1 list) (fun y => by first | (intro c; cases c) | (rcases y with y | y <;> (intro c; cases c)) | (rcases y with y | y | y <;> (intro c; cases c))) ?_ h
 clear h
 intro i o_ h
 dsimp only [spec_l06Ok_l1] at h
 rcases it_some h with ⟨z1, h⟩ | ⟨z1, h⟩
 ·try simp only [go_sem, n1, n2, n3, n4] at z1
  all_goals
  obtain ⟨z2, h⟩ := ck_some h
  have lz2 := ix_lt z2
  have xz2 := getD_mapD Estimate_av list lz2
  try simp only [go_sem] at lz2
  try simp only [go_sem] at xz2
  try simp only [go_sem, n1, n2, n3, n4, z1] at z2
  all_goals
  obtain ⟨y_3, z3, h⟩ := bd_some h
  have fz3 := Fs_79 z3
  try simp only [go_sem, z1, z2] at fz3
  obtain ⟨z4, h⟩ := ck_some h
  rcases or_split z4 with ⟨gz4, z4⟩ | gz4
  ·try simp only [go_sem, n1, n2, n3, n4, z1, z2] at gz4
   all_goals
   have lz4 := ix_lt z4
   have xz4 := getD_mapD Estimate_av list lz4
   try simp only [go_sem] at lz4
   try simp only [go_sem] at xz4
   try simp only [go_sem, n1, n2, n3, n4, z1, z2, gz4] at z4
   all_goals
   obtain ⟨z5, h⟩ := ck_some h
   rcases or_split z5 with ⟨gz5, z5⟩ | gz5
   ·try simp only [go_sem, n1, n2, n3, n4, z1, z2, gz4, z4] at gz5
    all_goals
    obtain ⟨y_5, hz5⟩ := Option.isSome_iff_exists.1 z5
    have fz5 := Fs_56 hz5
    try simp only [go_sem, n1, n2, n3, n4, z1, z2, gz4, z4, gz5] at hz5
    all_goals
    try simp only [go_sem, z1, z2, gz4, z4, gz5] at fz5
    rcases it_some h with ⟨z6, h⟩ | ⟨z6, h⟩
    ·try simp only [go_sem, n1, n2, n3, n4, z1, z2, gz4, z4, gz5, hz5] at z6
     all_goals
     obtain rfl := so_some h
     refine ⟨0, fun L hL => ?_⟩
     simp only [go_sem, ir60, E_80_l1, R_80_l1, ir60_b0, ir60_k0, ir60_o0, ir60_r0, z1, z2, lz2, xz2, fz3, gz4, z4, lz4, xz4, gz5, hz5, fz5, z6]
    ·try simp only [go_sem, n1, n2, n3, n4, z1, z2, gz4, z4, gz5, hz5] at z6
     all_goals
     obtain rfl := so_some h
     refine ⟨0, fun L hL => ?_⟩
     simp only [go_sem, ir60, E_80_l1, R_80_l1, ir60_b0, ir60_k0, ir60_o0, ir60_r0, z1, z2, lz2, xz2, fz3, gz4, z4, lz4, xz4, gz5, hz5, fz5, z6]
   ·rcases and_f gz5 with gz5a | ⟨gz5a, gz5b⟩
    ·try simp only [go_sem, n1, n2, n3, n4, z1, z2, gz4, z4] at gz5a
     all_goals
     (simp_all)
    ·have gz5an := no_t gz5a
     have gz5ann := no_f gz5an
     try simp only [go_sem, n1, n2, n3, n4, z1, z2, gz4, z4] at gz5ann
     all_goals
     try simp only [go_sem, n1, n2, n3, n4, z1, z2, gz4, z4, gz5ann] at gz5b
     all_goals
     rcases it_some h with ⟨z6, h⟩ | ⟨z6, h⟩
     ·try simp only [go_sem, n1, n2, n3, n4, z1, z2, gz4, z4, gz5ann, gz5b] at z6
      all_goals
      (simp_all)
     ·try simp only [go_sem, n1, n2, n3, n4, z1, z2, gz4, z4, gz5ann, gz5b] at z6
      all_goals
      obtain rfl := so_some h
      refine ⟨0, fun L hL => ?_⟩
      simp only [go_sem, ir60, E_80_l1, R_80_l1, ir60_b0, ir60_k0, ir60_o0, ir60_r0, z1, z2, lz2, xz2, fz3, gz4, z4, lz4, xz4, gz5ann, gz5b, z6]
  ·rcases and_f gz4 with gz4a | ⟨gz4a, gz4b⟩
   ·have gz4an := no_f gz4a
    have gz4ann := no_t gz4an
    try simp only [go_sem, n1, n2, n3, n4, z1, z2] at gz4ann
    all_goals
    obtain ⟨z5, h⟩ := ck_some h
    rcases it_some h with ⟨z6, h⟩ | ⟨z6, h⟩
    ·try simp only [go_sem, n1, n2, n3, n4, z1, z2, gz4ann] at z6
     all_goals
     obtain rfl := so_some h
     refine ⟨0, fun L hL => ?_⟩
     simp only [go_sem, ir60, E_80_l1, R_80_l1, ir60_b0, ir60_k0, ir60_o0, ir60_r0, z1, z2, lz2, xz2, fz3, gz4ann, z6]
    ·try simp only [go_sem, n1, n2, n3, n4, z1, z2, gz4ann] at z6
     all_goals
     (simp_all)
   ·have gz4an := no_t gz4a
    have gz4ann := no_f gz4an
    try simp only [go_sem, n1, n2, n3, n4, z1, z2] at gz4ann
    all_goals
    try simp only [go_sem, n1, n2, n3, n4, z1, z2, gz4ann] at gz4b
    all_goals
    obtain ⟨z5, h⟩ := ck_some h
    rcases it_some h with ⟨z6, h⟩ | ⟨z6, h⟩
    ·try simp only [go_sem, n1, n2, n3, n4, z1, z2, gz4ann, gz4b] at z6
     all_goals
     (simp_all)
    ·try simp only [go_sem, n1, n2, n3, n4, z1, z2, gz4ann, gz4b] at z6
     all_goals
     obtain rfl := so_some h
     refine ⟨0, fun L hL => ?_⟩
     simp only [go_sem, ir60, E_80_l1, R_80_l1, ir60_b0, ir60_k0, ir60_o0, ir60_r0, z1, z2, lz2, xz2, fz3, gz4ann, gz4b, z6]
 ·try simp only [go_sem, n1, n2, n3, n4] at z1
  all_goals
  obtain rfl := so_some h
  refine ⟨0, fun L hL => ?_⟩
  simp only [go_sem, ir60, E_80_l1, R_80_l1, ir60_b0, ir60_k0, ir60_o0, ir60_r0, z1]

theorem Fs_80 {list : List Estimate} {y_ : Bool} (h : spec_l06Ok list = some y_) : c_80.F [.sl 5 (List.map Estimate_av list)] = ⟨true, .bool y_, [.any]⟩ := by
 refine mkF_E rfl ?_
 dsimp only [spec_l06Ok] at h
 obtain ⟨y_7, z7, h⟩ := bd_some h
 obtain ⟨Lz7, ez7⟩ := spec_l06Ok_l1_ex z7
 rcases y_7 with y_7a | y_7b
 ·dsimp only at h
  obtain rfl := so_some h
  refine ⟨Lz7, fun L hL => ?_⟩
  have ez7 := ez7 L (by omega)
  try simp only [go_sem, E_80_l1, R_80_l1, ir60_k0, ir60_o0, ir60_r0] at ez7
  simp only [go_sem, ir60, E_80_l1, R_80_l1, ir60_k0, ir60_o0, ir60_r0, ez7]
 ·dsimp only at h
  obtain rfl := so_some h
  refine ⟨Lz7, fun L hL => ?_⟩
  have ez7 := ez7 L (by omega)
  try simp only [go_sem, E_80_l1, R_80_l1, ir60_k0, ir60_o0, ir60_r0] at ez7
  simp only [go_sem, ir60, E_80_l1, R_80_l1, ir60_k0, ir60_o0, ir60_r0, ez7]


def ir21_v : List Nat := [0, 1, 4, 5, 6]
def ir21 : AFn := ⟨2, 5, .seq (.region false [ VO 2 4 (.alloc (.agg [.str [], .int .i64 (0), .int .i64 (0), .int .i64 (0), .int .i64 (0)])), VO 3 5 (.mov (I6 0))]) (.seq (.test false [ PM 7 1, PO 8 (.call 60 [(.s 0)]), PO 9 (.un .not (.s 0))] (.s 0) (.seq (.region false [ PO 10 (.build [.str [], .int .i64 (0), .int .i64 (0), .int .i64 (0), .int .i64 (0)] []), ⟨.no, 0, none, .store 5 (.v 2) (.s 0)⟩, VO 3 5 (.mov (I6 1))]) (.ret)) (.skip)) (.seq (.test false [ PM 11 0, PO 12 (.call 61 [(.s 0)]), PO 13 (.un .not (.s 0))] (.s 0) (.seq (.region false [ PO 14 (.build [.str [], .int .i64 (0), .int
 .i64 (0), .int .i64 (0), .int .i64 (0)] []), ⟨.no, 0, none, .store 5 (.v 2) (.s 0)⟩, VO 3 5 (.mov (I6 2))]) (.ret)) (.skip)) (.seq (.region false [ PM 15 1, PO 16 (.len false (.s 0)), VS 4 6 0]) (.seq (.test false [ PM 17 4, PO 18 (.bin false .eql (.s 0) (I6 0))] (.s 0) (.seq (.region false [ PO 19 (.build [.str [], .int .i64 (0), .int .i64 (0), .int .i64 (0), .int .i64 (0)] []), ⟨.no, 0, none, .store 5 (.v 2) (.s 0)⟩, VO 3 5 (.mov (I6 3))]) (.ret)) (.skip)) (.seq (.anyo 13 [ SO 0 20 (.mov (.v 0)), SO 1 21 (.mov (.v 1)), SO 2 22 (.ixAddr 5 (.s 1) (I6 0)), SO 3 23 (.fldAddr 0 (.s 2)), SO 4 24
 (.load false 1 (.s 3)), SO 5 25 (.mov (.v 1)), SO 6 26 (.mov (.v 4)), SO 7 27 (.bin false .sub (.s 6) (I6 1)), SO 8 28 (.ixAddr 5 (.s 5) (.s 7)), SO 9 29 (.fldAddr 0 (.s 8)), SO 10 30 (.load false 1 (.s 9)), SO 11 31 (.mov (.v 4)), SO 12 32 (.pur (.build [.str [], .int .i64 (0), .int .i64 (0), .int .i64 (0), .int .i64 (0)] [(0, 1, (.s 0)), (1, 1, (.s 4)), (2, 1, (.s 10)), (3, 1, (.s 11)), (4, 1, (I6 1))])), ⟨.no, 0, none, .store 5 (.v 2) (.s 12)⟩, VO 3 5 (.mov (I6 0))] [] .skip) (.ret)))))), [.cell true 5 2, .t 3]⟩
noncomputable def t_81 : List (Nat × Ctr) := [(60, c_80), (61, c_30)]
theorem lk_81_60 : look t_81 60 = some c_80 := rfl
theorem lk_81_61 : look t_81 61 = some c_30 := rfl
noncomputable def c_81 : Ctr := mkN t_81 ir21 [.bor, .bor]
theorem s_81 : Sound Tryz.prog 21 c_81 := mkN_sound _ (snd_cons s_80 (snd_cons s_30 snd_nil)) (by kernel_rfl : chkFn Tryz.prog 21 ir21 ir21_v = true)
theorem M_81 : c_81.modes = [.bor, .bor] := rfl
theorem Fl_81 : c_81.flat = false := rfl
attribute [go_sem] M_81 Fl_81
attribute [go_sem] lk_81_60 lk_81_61
theorem Fs_81 {name : List UInt8} {estimates : List Estimate} {y_ : Volume × Int} (h : spec_VolumeOf name estimates = some y_) : c_81.F [.str name, .sl 5 (List.map Estimate_av estimates)] = ⟨true, .tup [Volume_av y_.1, .int .i64 y_.2], [.any, .any]⟩ := by
 refine mkN_E ?_
 dsimp only [spec_VolumeOf] at h
 obtain ⟨y_1, z1, h⟩ := bd_some h
 have fz1 := Fs_80 z1
 try simp only [go_sem] at fz1
 rcases it_some h with ⟨z2, h⟩ | ⟨z2, h⟩
 ·try simp only [go_sem, n1, n2, n3, n4] at z2
  all_goals
  obtain rfl := so_some h
  refine ⟨0, fun L hL => ?_⟩
  simp only [go_sem, ir21, fz1, z2]
 ·try simp only [go_sem, n1, n2, n3, n4] at z2
  all_goals
  obtain ⟨y_3, z3, h⟩ := bd_some h
  have fz3 := Fs_30 z3
  try simp only [go_sem, z2] at fz3
  rcases it_some h with ⟨z4, h⟩ | ⟨z4, h⟩
  ·try simp only [go_sem, n1, n2, n3, n4, z2] at z4
   all_goals
   obtain rfl := so_some h
   refine ⟨0, fun L hL => ?_⟩
   simp only [go_sem, ir21, fz1, z2, fz3, z4]
  ·try simp only [go_sem, n1, n2, n3, n4, z2] at z4
   all_goals
   rcases it_some h with ⟨z5, h⟩ | ⟨z5, h⟩
   ·try simp only [go_sem, n1, n2, n3, n4, z2, z4] at z5
    all_goals
    obtain rfl := so_some h
    refine ⟨0, fun L hL => ?_⟩
    simp only [go_sem, ir21, fz1, z2, fz3, z4, z5]
   ·try simp only [go_sem, n1, n2, n3, n4, z2, z4] at z5
    all_goals
    obtain ⟨z6, h⟩ := ck_some h
    have lz6 := ix_lt z6
    have xz6 := getD_mapD Estimate_av estimates lz6
    try simp only [go_sem] at lz6
    try simp only [go_sem] at xz6
    try simp only [go_sem, n1, n2, n3, n4, z2, z4, z5] at z6
    all_goals
    obtain ⟨z7, h⟩ := ck_some h
    have lz7 := ix_lt z7
    have xz7 := getD_mapD Estimate_av estimates lz7
    try simp only [go_sem] at lz7
    try simp only [go_sem] at xz7
    try simp only [go_sem, n1, n2, n3, n4, z2, z4, z5, z6] at z7
    all_goals
    obtain rfl := so_some h
    refine ⟨0, fun L hL => ?_⟩
    simp only [go_sem, ir21, fz1, z2, fz3, z4, z5, z6, lz6, xz6, z7, lz7, xz7]


def ir22_v : List Nat := [0, 2, 3, 4, 5, 6]
def ir22 : AFn := ⟨1, 6, .seq (.region false [ VO 1 2 (.newnil 5), VO 2 3 (.newnil 5)]) (.seq (.region false [ PM 7 0, PO 8 (.call 31 [(.s 0)]), VS 3 4 0]) (.seq (.region false [ PM 9 3, PO 10 (.call 32 [(.s 0)]), VS 4 5 0]) (.seq (.region false [ PO 11 (.mkSl 5 (.agg [.str [], .int .i64 (0), .int .i64 (0), .int .i64 (0), .int .i64 (0)]) 0 []), PM 12 4, PO 13 (.app 5 48 (.agg [.str [], .int .i64 (0), .int .i64 (0), .int .i64 (0), .int .i64 (0)]) (.s 1) (.s 0)), VS 5 6 0]) (.seq (.test false [ PM 14 5, PO 15 (.len false (.s 0)), PO 16 (.bin false .gtr (.s 0) (I6 0)), PO 17 (.mov (.s 0)), ⟨.push,
 18, (some ((.s 0), true)), .mov (.v 3)⟩, ⟨.push, 19, (some ((.s 1), true)), .callw 35 [(.s 0), (I6 2)]⟩, PO 20 (.pick (.s 2) (.s 0) (.c (.bool false)))] (.s 0) (.anyo 9 [ SO 0 21 (.mov (.v 5)), SO 1 22 (.ixAddr 5 (.s 0) (I6 0)), SO 2 23 (.fldAddr 4 (.s 1)), SO 3 24 (.load false 1 (.s 2)), SO 4 25 (.mov (.v 3)), SO 5 26 (.call 47 [(.s 4), (I6 2)]), SO 6 27 (.flat (.bin false .add (.s 3) (.s 5))), SO 7 28 (.ixAddr 5 (.s 0) (I6 0)), SO 8 29 (.fldAddr 4 (.s 7)), ⟨.no, 0, none, .store 1 (.s 8) (.s 6)⟩] [[4, 0, 1, 2, 3, 5, 6, 7, 8, 9], [4, 0, 1, 2, 5, 3, 6, 7, 8, 9], [4, 0, 1, 5, 2, 3, 6, 7, 8, 9],
 [4, 0, 5, 1, 2, 3, 6, 7, 8, 9], [4, 5, 0, 1, 2, 3, 6, 7, 8, 9]] .skip) (.skip)) (.seq (.test false [ PM 30 3, PO 31 (.call 35 [(.s 0), (I6 5)])] (.s 0) (.region false [ PM 32 5, PO 33 (.build [.str [], .int .i64 (0), .int .i64 (0), .int .i64 (0), .int .i64 (0)] []), PO 34 (.mkSl 5 (.agg [.str [], .int .i64 (0), .int .i64 (0), .int .i64 (0), .int .i64 (0)]) 1 [(0, (.s 0))]), PO 35 (.app 5 48 (.agg [.str [], .int .i64 (0), .int .i64 (0), .int .i64 (0), .int .i64 (0)]) (.s 2) (.s 0)), VS 5 6 0]) (.skip)) (.seq (.region false [ PM 36 4, PM 37 5, VS 1 2 1, VS 2 3 0]) (.ret))))))), [.t 1, .t 2]⟩
noncomputable def t_82 : List (Nat × Ctr) := [(31, c_1), (32, c_10), (35, c_4), (47, c_3)]
theorem lk_82_31 : look t_82 31 = some c_1 := rfl
theorem lk_82_32 : look t_82 32 = some c_10 := rfl
theorem lk_82_35 : look t_82 35 = some c_4 := rfl
theorem lk_82_47 : look t_82 47 = some c_3 := rfl
noncomputable def c_82 : Ctr := mkF t_82 ir22 [.bor]
theorem s_82 : Sound Tryz.prog 22 c_82 := mkF_sound _ rfl (snd_cons s_1 (snd_cons s_10 (snd_cons s_4 (snd_cons s_3 snd_nil)))) (by kernel_rfl : chkFn Tryz.prog 22 ir22 ir22_v = true)
theorem M_82 : c_82.modes = [.bor] := rfl
theorem Fl_82 : c_82.flat = true := rfl
attribute [go_sem] M_82 Fl_82
attribute [go_sem] lk_82_31 lk_82_32 lk_82_35 lk_82_47
theorem Fs_82 {code : List UInt8} {y_ : (List Volume) × (List Volume)} (h : spec_DrawSameVolumes code = some y_) : c_82.F [.sl 1 (List.map byteAV code)] = ⟨true, .tup [.fresh 5 (List.map Volume_av y_.1), .fresh 5 (List.map Volume_av y_.2)], [.any]⟩ := by
 refine mkF_E (by simp only [flatA, flatB, flat1, List.all_cons, List.all_nil, Bool.and_self, flatE_map (f := Volume_av) (fun _ => rfl), flatE_map (f := Volume_av) (fun _ => rfl)]) ?_
 dsimp only [spec_DrawSameVolumes] at h
 obtain ⟨y_1, z1, h⟩ := bd_some h
 have fz1 := Fs_1 z1
 try simp only [go_sem] at fz1
 obtain ⟨y_2, z2, h⟩ := bd_some h
 have fz2 := Fs_10 z2
 try simp only [go_sem] at fz2
 obtain ⟨z3, h⟩ := ck_some h
 try simp only [go_sem, n1, n2, n3, n4] at z3
 all_goals
 rcases it_some h with ⟨z4, h⟩ | ⟨z4, h⟩
 ·try simp only [go_sem, n1, n2, n3, n4, z3] at z4
  all_goals
  obtain ⟨y_5, z5, h⟩ := bd_some h
  have fz5 := Fs_4 z5
  try simp only [go_sem, z3, z4] at fz5
  rcases it_some h with ⟨z6, h⟩ | ⟨z6, h⟩
  ·try simp only [go_sem, n1, n2, n3, n4, z3, z4] at z6
   all_goals
   obtain ⟨z7, h⟩ := ck_some h
   have lz7 := ix_lt z7
   have xz7 := getD_mapD Volume_av (([] : List Volume) ++ y_2.1) lz7
   try simp only [go_sem] at lz7
   try simp only [go_sem] at xz7
   try simp only [go_sem, n1, n2, n3, n4, z3, z4, z6] at z7
   all_goals
   obtain ⟨y_8, z8, h⟩ := bd_some h
   have fz8 := Fs_3 z8
   try simp only [go_sem, z3, z4, z6, z7] at fz8
   obtain ⟨y_9, z9, h⟩ := bd_some h
   have fz9 := Fs_4 z9
   try simp only [go_sem, z3, z4, z6, z7] at fz9
   rcases it_some h with ⟨z10, h⟩ | ⟨z10, h⟩
   ·try simp only [go_sem, n1, n2, n3, n4, z3, z4, z6, z7] at z10
    all_goals
    obtain ⟨z11, h⟩ := ck_some h
    try simp only [go_sem, n1, n2, n3, n4, z3, z4, z6, z7, z10] at z11
    all_goals
    obtain rfl := so_some h
    refine ⟨0, fun L hL => ?_⟩
    simp only [go_sem, ir22, fz1, fz2, z3, z4, fz5, z6, z7, lz7, xz7, fz8, fz9, z10, z11]
   ·try simp only [go_sem, n1, n2, n3, n4, z3, z4, z6, z7] at z10
    all_goals
    obtain rfl := so_some h
    refine ⟨0, fun L hL => ?_⟩
    simp only [go_sem, ir22, fz1, fz2, z3, z4, fz5, z6, z7, lz7, xz7, fz8, fz9, z10]
  ·try simp only [go_sem, n1, n2, n3, n4, z3, z4] at z6
   all_goals
   obtain ⟨y_12, z12, h⟩ := bd_some h
   have fz12 := Fs_4 z12
   try simp only [go_sem, z3, z4, z6] at fz12
   rcases it_some h with ⟨z13, h⟩ | ⟨z13, h⟩
   ·try simp only [go_sem, n1, n2, n3, n4, z3, z4, z6] at z13
    all_goals
    obtain ⟨z14, h⟩ := ck_some h
    try simp only [go_sem, n1, n2, n3, n4, z3, z4, z6, z13] at z14
    all_goals
    obtain rfl := so_some h
    refine ⟨0, fun L hL => ?_⟩
    simp only [go_sem, ir22, fz1, fz2, z3, z4, fz5, z6, fz12, z13, z14]
   ·try simp only [go_sem, n1, n2, n3, n4, z3, z4, z6] at z13
    all_goals
    obtain rfl := so_some h
    refine ⟨0, fun L hL => ?_⟩
    simp only [go_sem, ir22, fz1, fz2, z3, z4, fz5, z6, fz12, z13]
 ·try simp only [go_sem, n1, n2, n3, n4, z3] at z4
  all_goals
  obtain ⟨y_15, z15, h⟩ := bd_some h
  have fz15 := Fs_4 z15
  try simp only [go_sem, z3, z4] at fz15
  rcases it_some h with ⟨z16, h⟩ | ⟨z16, h⟩
  ·try simp only [go_sem, n1, n2, n3, n4, z3, z4] at z16
   all_goals
   obtain ⟨z17, h⟩ := ck_some h
   try simp only [go_sem, n1, n2, n3, n4, z3, z4, z16] at z17
   all_goals
   obtain rfl := so_some h
   refine ⟨0, fun L hL => ?_⟩
   simp only [go_sem, ir22, fz1, fz2, z3, z4, fz15, z16, z17]
  ·try simp only [go_sem, n1, n2, n3, n4, z3, z4] at z16
   all_goals
   obtain rfl := so_some h
   refine ⟨0, fun L hL => ?_⟩
   simp only [go_sem, ir22, fz1, fz2, z3, z4, fz15, z16]


def ir23_v : List Nat := [0, 2]
def ir23 : AFn := ⟨1, 2, .seq (.region false [ VO 1 2 (.newnil 5)]) (.seq (.region false [ PM 3 0, PO 4 (.call 31 [(.s 0)]), PO 5 (.call 32 [(.s 0)]), VS 1 2 0]) (.ret)), [.t 1]⟩
noncomputable def t_83 : List (Nat × Ctr) := [(31, c_1), (32, c_10)]
theorem lk_83_31 : look t_83 31 = some c_1 := rfl
theorem lk_83_32 : look t_83 32 = some c_10 := rfl
noncomputable def c_83 : Ctr := mkF t_83 ir23 [.bor]
theorem s_83 : Sound Tryz.prog 23 c_83 := mkF_sound _ rfl (snd_cons s_1 (snd_cons s_10 snd_nil)) (by kernel_rfl : chkFn Tryz.prog 23 ir23 ir23_v = true)
theorem M_83 : c_83.modes = [.bor] := rfl
theorem Fl_83 : c_83.flat = true := rfl
attribute [go_sem] M_83 Fl_83
attribute [go_sem] lk_83_31 lk_83_32
theorem Fs_83 {code : List UInt8} {y_ : (List Volume)} (h : spec_DrawArchiveSummary code = some y_) : c_83.F [.sl 1 (List.map byteAV code)] = ⟨true, .fresh 5 (List.map Volume_av y_), [.any]⟩ := by
 refine mkF_E (by simp only [flatA, flatB, flat1, List.all_cons, List.all_nil, Bool.and_self, flatE_map (f := Volume_av) (fun _ => rfl)]) ?_
 dsimp only [spec_DrawArchiveSummary] at h
 obtain ⟨y_1, z1, h⟩ := bd_some h
 have fz1 := Fs_1 z1
 try simp only [go_sem] at fz1
 obtain ⟨y_2, z2, h⟩ := bd_some h
 have fz2 := Fs_10 z2
 try simp only [go_sem] at fz2
 obtain rfl := so_some h
 refine ⟨0, fun L hL => ?_⟩
 simp only [go_sem, ir23, fz1, fz2]


def ir24_b0 : IR := .seq (.test false [ PM 11 3, PM 12 0, PO 13 (.len false (.s 0)), PO 14 (.bin false .lss (.s 2) (.s 0))] (.s 0) (.skip) (.exit 0)) (.seq (.block 1 (.anyo 9 [ SO 0 17 (.mov (.v 0)), SO 1 18 (.mov (.v 3)), SO 2 19 (.ixAddr 5 (.s 0) (.s 1)), SO 3 20 (.load true 5 (.s 2)), SO 4 21 (.mov (.v 1)), SO 5 22 (.mov (.v 3)), SO 6 23 (.ixAddr 5 (.s 4) (.s 5)), SO 7 24 (.load true 5 (.s 6)), SO 8 25 (.eqA true [2, 1, 1, 1, 1] (.s 3) (.s 7))] [] (.cond (.s 8) (.seq (.region false [ VO 2 4 (.mov (.c (.bool false)))]) (.ret)) (.skip)))) (.region false [ PM 15 3, PO 16 (.bin false .add (.s 0)
 (I6 1)), VS 3 5 0]))
def ir24_k0 : List Bool := [true, true, false, true]
def ir24_o0 : List Bool := [false, false, false, false]
def ir24_r0 : List Bool := [false, false, true, false]
def ir24_v : List Nat := [0, 1, 4, 5]
def ir24 : AFn := ⟨2, 4, .seq (.region false [ VO 2 4 (.mov (.c (.bool false)))]) (.seq (.test false [ PM 6 0, PO 7 (.len false (.s 0)), PM 8 1, PO 9 (.len false (.s 0)), PO 10 (.bin false .neq (.s 2) (.s 0))] (.s 0) (.seq (.region false [ VO 2 4 (.mov (.c (.bool false)))]) (.ret)) (.skip)) (.seq (.seq (.region false [ VO 3 5 (.mov (I6 0))]) (.block 0 (.loop ir24_k0 ir24_o0 ir24_r0 ir24_b0))) (.seq (.region false [ VO 2 4 (.mov (.c (.bool true)))]) (.ret)))), [.t 2]⟩
noncomputable def t_84 : List (Nat × Ctr) := []
noncomputable def c_84 : Ctr := mkF t_84 ir24 [.bor, .bor]
theorem s_84 : Sound Tryz.prog 24 c_84 := mkF_sound _ rfl snd_nil (by kernel_rfl : chkFn Tryz.prog 24 ir24 ir24_v = true)
theorem M_84 : c_84.modes = [.bor, .bor] := rfl
theorem Fl_84 : c_84.flat = true := rfl
attribute [go_sem] M_84 Fl_84
def E_84_l1 (a : List Volume) (b : List Volume) : Int → St
 | i => ⟨[.sl 5 (List.map Volume_av a), .sl 5 (List.map Volume_av b), .any, .int .i64 i], [], [], true⟩
def R_84_l1 (a : List Volume) (b : List Volume) : (Unit ⊕ Bool) → Res
 | .inl y => (.exit 0, ⟨[.any, .any, .any, .any], [], [], true⟩)
 | .inr y => (.ret, ⟨[.any, .any, .bool y, .any], [], [], true⟩)
theorem spec_SameVolumes_l1_ex {a : List Volume} {b : List Volume} {sgm_ : Int} {rho_ : Unit ⊕ Bool} (h : whileE (spec_SameVolumes_l1 a b) sgm_ = some rho_) : ∃ L0, ∀ L, L0 ≤ L → iter (exec (look t_84) L ir24_b0) ir24_k0 ir24_o0 ir24_r0 L (E_84_l1 a b sgm_) = R_84_l1 a b rho_ := by
 refine loop_ex (E := E_84_l1 a b) (R := R_84_l1 a b) (fun y => by first | (intro c; cases c) | (rcases y with y | y <;> (intro c; cases c)) | (rcases y with y | y | y <;> (intro c; cases c))) ?_ h
 clear h
 intro i o_ h
 dsimp only [spec_SameVolumes_l1] at h
 rcases it_some h with ⟨z2, h⟩ | ⟨z2, h⟩
 ·try simp only [go_sem, n1, n2, n3, n4] at z2
  all_goals
  obtain ⟨z3, h⟩ := ck_some h
  have lz3 := ix_lt z3
  have xz3 := getD_mapD Volume_av a lz3
  try simp only [go_sem] at lz3
  try simp only [go_sem] at xz3
  try simp only [go_sem, n1, n2, n3, n4, z2] at z3
  all_goals
  obtain ⟨z4, h⟩ := ck_some h
  have lz4 := ix_lt z4
  have xz4 := getD_mapD Volume_av b lz4
  try simp only [go_sem] at lz4
  try simp only [go_sem] at xz4
  try simp only [go_sem, n1, n2, n3, n4, z2, z3] at z4
  all_goals
  rcases it_some h with ⟨z5, h⟩ | ⟨z5, h⟩
  ·try simp only [go_sem, n1, n2, n3, n4, z2, z3, z4] at z5
   all_goals
   obtain rfl := so_some h
   refine ⟨0, fun L hL => ?_⟩
   simp only [go_sem, ir24, E_84_l1, R_84_l1, ir24_b0, ir24_k0, ir24_o0, ir24_r0, z2, z3, lz3, xz3, z4, lz4, xz4, z5]
  ·try simp only [go_sem, n1, n2, n3, n4, z2, z3, z4] at z5
   all_goals
   obtain rfl := so_some h
   refine ⟨0, fun L hL => ?_⟩
   simp only [go_sem, ir24, E_84_l1, R_84_l1, ir24_b0, ir24_k0, ir24_o0, ir24_r0, z2, z3, lz3, xz3, z4, lz4, xz4, z5]
 ·try simp only [go_sem, n1, n2, n3, n4] at z2
  all_goals
  obtain rfl := so_some h
  refine ⟨0, fun L hL => ?_⟩
  simp only [go_sem, ir24, E_84_l1, R_84_l1, ir24_b0, ir24_k0, ir24_o0, ir24_r0, z2]

theorem Fs_84 {a : List Volume} {b : List Volume} {y_ : Bool} (h : spec_SameVolumes a b = some y_) : c_84.F [.sl 5 (List.map Volume_av a), .sl 5 (List.map Volume_av b)] = ⟨true, .bool y_, [.any, .any]⟩ := by
 refine mkF_E rfl ?_
 dsimp only [spec_SameVolumes] at h
 rcases it_some h with ⟨z1, h⟩ | ⟨z1, h⟩
 ·try simp only [go_sem, n1, n2, n3, n4] at z1
  all_goals
  obtain rfl := so_some h
  refine ⟨0, fun L hL => ?_⟩
  simp only [go_sem, ir24, E_84_l1, R_84_l1, ir24_k0, ir24_o0, ir24_r0, z1]
 ·try simp only [go_sem, n1, n2, n3, n4] at z1
  all_goals
  obtain ⟨y_6, z6, h⟩ := bd_some h
  obtain ⟨Lz6, ez6⟩ := spec_SameVolumes_l1_ex z6
  rcases y_6 with y_6a | y_6b
  ·dsimp only at h
   obtain rfl := so_some h
   refine ⟨Lz6, fun L hL => ?_⟩
   have ez6 := ez6 L (by omega)
   try simp only [go_sem, E_84_l1, R_84_l1, ir24_k0, ir24_o0, ir24_r0, z1] at ez6
   simp only [go_sem, ir24, E_84_l1, R_84_l1, ir24_k0, ir24_o0, ir24_r0, z1, ez6]
  ·dsimp only at h
   obtain rfl := so_some h
   refine ⟨Lz6, fun L hL => ?_⟩
   have ez6 := ez6 L (by omega)
   try simp only [go_sem, E_84_l1, R_84_l1, ir24_k0, ir24_o0, ir24_r0, z1] at ez6
   simp only [go_sem, ir24, E_84_l1, R_84_l1, ir24_k0, ir24_o0, ir24_r0, z1, ez6]


def ir25_b0 : IR := .seq (.test false [ PM 11 3, PM 12 0, PO 13 (.len false (.s 0)), PO 14 (.bin false .lss (.s 2) (.s 0))] (.s 0) (.skip) (.exit 0)) (.seq (.block 1 (.anyo 9 [ SO 0 17 (.mov (.v 0)), SO 1 18 (.mov (.v 3)), SO 2 19 (.ixAddr 1 (.s 0) (.s 1)), SO 3 20 (.load false 1 (.s 2)), SO 4 21 (.mov (.v 1)), SO 5 22 (.mov (.v 3)), SO 6 23 (.ixAddr 1 (.s 4) (.s 5)), SO 7 24 (.load false 1 (.s 6)), SO 8 25 (.bin false .neq (.s 3) (.s 7))] [] (.cond (.s 8) (.seq (.region false [ VO 2 4 (.mov (.c (.bool false)))]) (.ret)) (.skip)))) (.region false [ PM 15 3, PO 16 (.bin false .add (.s 0) (I6
 1)), VS 3 5 0]))
def ir25_k0 : List Bool := [true, true, false, true]
def ir25_o0 : List Bool := [false, false, false, false]
def ir25_r0 : List Bool := [false, false, true, false]
def ir25_v : List Nat := [0, 1, 4, 5]
def ir25 : AFn := ⟨2, 4, .seq (.region false [ VO 2 4 (.mov (.c (.bool false)))]) (.seq (.test false [ PM 6 0, PO 7 (.len false (.s 0)), PM 8 1, PO 9 (.len false (.s 0)), PO 10 (.bin false .neq (.s 2) (.s 0))] (.s 0) (.seq (.region false [ VO 2 4 (.mov (.c (.bool false)))]) (.ret)) (.skip)) (.seq (.seq (.region false [ VO 3 5 (.mov (I6 0))]) (.block 0 (.loop ir25_k0 ir25_o0 ir25_r0 ir25_b0))) (.seq (.region false [ VO 2 4 (.mov (.c (.bool true)))]) (.ret)))), [.t 2]⟩
noncomputable def t_85 : List (Nat × Ctr) := []
noncomputable def c_85 : Ctr := mkF t_85 ir25 [.bor, .bor]
theorem s_85 : Sound Tryz.prog 25 c_85 := mkF_sound _ rfl snd_nil (by kernel_rfl : chkFn Tryz.prog 25 ir25 ir25_v = true)
theorem M_85 : c_85.modes = [.bor, .bor] := rfl
theorem Fl_85 : c_85.flat = true := rfl
attribute [go_sem] M_85 Fl_85
def E_85_l1 (a : List Int) (b : List Int) : Int → St
 | i => ⟨[.sl 1 (List.map (AV.int .i64) a), .sl 1 (List.map (AV.int .i64) b), .any, .int .i64 i], [], [], true⟩
def R_85_l1 (a : List Int) (b : List Int) : (Unit ⊕ Bool) → Res
 | .inl y => (.exit 0, ⟨[.any, .any, .any, .any], [], [], true⟩)
 | .inr y => (.ret, ⟨[.any, .any, .bool y, .any], [], [], true⟩)
theorem laws_f6ints_l1_ex {a : List Int} {b : List Int} {sgm_ : Int} {rho_ : Unit ⊕ Bool} (h : whileE (laws_f6ints_l1 a b) sgm_ = some rho_) : ∃ L0, ∀ L, L0 ≤ L → iter (exec (look t_85) L ir25_b0) ir25_k0 ir25_o0 ir25_r0 L (E_85_l1 a b sgm_) = R_85_l1 a b rho_ := by
 refine loop_ex (E := E_85_l1 a b) (R := R_85_l1 a b) (fun y => by first | (intro c; cases c) | (rcases y with y | y <;> (intro c; cases c)) | (rcases y with y | y | y <;> (intro c; cases c))) ?_ h
 clear h
 intro i o_ h
 dsimp only [laws_f6ints_l1] at h
 rcases it_some h with ⟨z2, h⟩ | ⟨z2, h⟩
 ·try simp only [go_sem, n1, n2, n3, n4] at z2
  all_goals
  obtain ⟨z3, h⟩ := ck_some h
  have lz3 := ix_lt z3
  have xz3 := getD_mapD (AV.int .i64) a lz3
  try simp only [go_sem] at lz3
  try simp only [go_sem] at xz3
  try simp only [go_sem, n1, n2, n3, n4, z2] at z3
  all_goals
  obtain ⟨z4, h⟩ := ck_some h
  have lz4 := ix_lt z4
  have xz4 := getD_mapD (AV.int .i64) b lz4
  try simp only [go_sem] at lz4
  try simp only [go_sem] at xz4
  try simp only [go_sem, n1, n2, n3, n4, z2, z3] at z4
  all_goals
  rcases it_some h with ⟨z5, h⟩ | ⟨z5, h⟩
  ·try simp only [go_sem, n1, n2, n3, n4, z2, z3, z4] at z5
   all_goals
   obtain rfl := so_some h
   refine ⟨0, fun L hL => ?_⟩
   simp only [go_sem, ir25, E_85_l1, R_85_l1, ir25_b0, ir25_k0, ir25_o0, ir25_r0, z2, z3, lz3, xz3, z4, lz4, xz4, z5]
  ·try simp only [go_sem, n1, n2, n3, n4, z2, z3, z4] at z5
   all_goals
   obtain rfl := so_some h
   refine ⟨0, fun L hL => ?_⟩
   simp only [go_sem, ir25, E_85_l1, R_85_l1, ir25_b0, ir25_k0, ir25_o0, ir25_r0, z2, z3, lz3, xz3, z4, lz4, xz4, z5]
 ·try simp only [go_sem, n1, n2, n3, n4] at z2
  all_goals
  obtain rfl := so_some h
  refine ⟨0, fun L hL => ?_⟩
  simp only [go_sem, ir25, E_85_l1, R_85_l1, ir25_b0, ir25_k0, ir25_o0, ir25_r0, z2]

theorem Fs_85 {a : List Int} {b : List Int} {y_ : Bool} (h : laws_f6ints a b = some y_) : c_85.F [.sl 1 (List.map (AV.int .i64) a), .sl 1 (List.map (AV.int .i64) b)] = ⟨true, .bool y_, [.any, .any]⟩ := by
 refine mkF_E rfl ?_
 dsimp only [laws_f6ints] at h
 rcases it_some h with ⟨z1, h⟩ | ⟨z1, h⟩
 ·try simp only [go_sem, n1, n2, n3, n4] at z1
  all_goals
  obtain rfl := so_some h
  refine ⟨0, fun L hL => ?_⟩
  simp only [go_sem, ir25, E_85_l1, R_85_l1, ir25_k0, ir25_o0, ir25_r0, z1]
 ·try simp only [go_sem, n1, n2, n3, n4] at z1
  all_goals
  obtain ⟨y_6, z6, h⟩ := bd_some h
  obtain ⟨Lz6, ez6⟩ := laws_f6ints_l1_ex z6
  rcases y_6 with y_6a | y_6b
  ·dsimp only at h
   obtain rfl := so_some h
   refine ⟨Lz6, fun L hL => ?_⟩
   have ez6 := ez6 L (by omega)
   try simp only [go_sem, E_85_l1, R_85_l1, ir25_k0, ir25_o0, ir25_r0, z1] at ez6
   simp only [go_sem, ir25, E_85_l1, R_85_l1, ir25_k0, ir25_o0, ir25_r0, z1, ez6]
  ·dsimp only at h
   obtain rfl := so_some h
   refine ⟨Lz6, fun L hL => ?_⟩
   have ez6 := ez6 L (by omega)
   try simp only [go_sem, E_85_l1, R_85_l1, ir25_k0, ir25_o0, ir25_r0, z1] at ez6
   simp only [go_sem, ir25, E_85_l1, R_85_l1, ir25_k0, ir25_o0, ir25_r0, z1, ez6]


def ir62_b0 : IR := .seq (.region false [ VO 6 14 (.bin false .lss (.v 5) (.v 4))]) (.seq (.cond (.v 6) (.skip) (.exit 0)) (.seq (.block 1 (.seq (.region false [ PM 15 5, VS 3 5 0]) (.anyo 9 [ SO 0 16 (.mov (.v 0)), SO 1 17 (.mov (.v 3)), SO 2 18 (.ixAddr 5 (.s 0) (.s 1)), SO 3 19 (.load true 5 (.s 2)), SO 4 20 (.mov (.v 1)), SO 5 21 (.mov (.v 3)), SO 6 22 (.ixAddr 5 (.s 4) (.s 5)), SO 7 23 (.load true 5 (.s 6)), SO 8 24 (.eqA true [2, 1, 1, 1, 1] (.s 3) (.s 7))] [] (.cond (.s 8) (.seq (.region false [ VO 2 4 (.mov (.c (.bool false)))]) (.ret)) (.skip))))) (.region false [ PO 25 (.bin false
 .add (.v 5) (I6 1)), VS 5 13 0])))
def ir62_k0 : List Bool := [true, true, false, false, true, true, false]
def ir62_o0 : List Bool := [false, false, false, false, false, false, false]
def ir62_r0 : List Bool := [false, false, true, false, false, false, false]
def ir62_v : List Nat := [0, 1, 4, 5, 12, 13, 14]
def ir62 : AFn := ⟨2, 7, .seq (.region false [ VO 2 4 (.mov (.c (.bool false)))]) (.seq (.test false [ PM 6 0, PO 7 (.len false (.s 0)), PM 8 1, PO 9 (.len false (.s 0)), PO 10 (.bin false .neq (.s 2) (.s 0))] (.s 0) (.seq (.region false [ VO 2 4 (.mov (.c (.bool false)))]) (.ret)) (.skip)) (.seq (.seq (.region false [ PM 11 0, VO 4 12 (.len false (.s 0)), VO 5 13 (.mov (I6 0))]) (.block 0 (.loop ir62_k0 ir62_o0 ir62_r0 ir62_b0))) (.seq (.region false [ VO 2 4 (.mov (.c (.bool true)))]) (.ret)))), [.t 2]⟩
noncomputable def t_86 : List (Nat × Ctr) := []
noncomputable def c_86 : Ctr := mkF t_86 ir62 [.bor, .bor]
theorem s_86 : Sound Tryz.prog 62 c_86 := mkF_sound _ rfl snd_nil (by kernel_rfl : chkFn Tryz.prog 62 ir62 ir62_v = true)
theorem M_86 : c_86.modes = [.bor, .bor] := rfl
theorem Fl_86 : c_86.flat = true := rfl
attribute [go_sem] M_86 Fl_86
def E_86_l1 (s1 : List Volume) (s2 : List Volume) (t12 : Int) : Int → St
 | t13 => ⟨[.sl 5 (List.map Volume_av s1), .sl 5 (List.map Volume_av s2), .any, .any, .int .i64 t12, .int .i64 t13, .any], [], [], true⟩
def R_86_l1 (s1 : List Volume) (s2 : List Volume) (t12 : Int) : (Unit ⊕ Bool) → Res
 | .inl y => (.exit 0, ⟨[.any, .any, .any, .any, .any, .any, .any], [], [], true⟩)
 | .inr y => (.ret, ⟨[.any, .any, .bool y, .any, .any, .any, .any], [], [], true⟩)
theorem slices_Equal_impl_Volume_impl_Volume_l1_ex {s1 : List Volume} {s2 : List Volume} {t12 : Int} {sgm_ : Int} {rho_ : Unit ⊕ Bool} (h : whileE (slices_Equal_impl_Volume_impl_Volume_l1 s1 s2 t12) sgm_ = some rho_) : ∃ L0, ∀ L, L0 ≤ L → iter (exec (look t_86) L ir62_b0) ir62_k0 ir62_o0 ir62_r0 L (E_86_l1 s1 s2 t12 sgm_) = R_86_l1 s1 s2 t12 rho_ := by
 refine loop_ex (E := E_86_l1 s1 s2 t12) (R := R_86_l1 s1 s2 t12) (fun y => by first | (intro c; cases c) | (rcases y with y | y <;> (intro c; cases c)) | (rcases y with y | y | y <;> (intro c; cases c))) ?_ h
 clear h
 intro t13 o_ h
 dsimp only [slices_Equal_impl_Volume_impl_Volume_l1] at h
 rcases it_some h with ⟨z2, h⟩ | ⟨z2, h⟩
 ·try simp only [go_sem, n1, n2, n3, n4] at z2
  all_goals
  obtain ⟨z3, h⟩ := ck_some h
  have lz3 := ix_lt z3
  have xz3 := getD_mapD Volume_av s1 lz3
  try simp only [go_sem] at lz3
  try simp only [go_sem] at xz3
  try simp only [go_sem, n1, n2, n3, n4, z2] at z3
  all_goals
  obtain ⟨z4, h⟩ := ck_some h
  have lz4 := ix_lt z4
  have xz4 := getD_mapD Volume_av s2 lz4
  try simp only [go_sem] at lz4
  try simp only [go_sem] at xz4
  try simp only [go_sem, n1, n2, n3, n4, z2, z3] at z4
  all_goals
  rcases it_some h with ⟨z5, h⟩ | ⟨z5, h⟩
  ·try simp only [go_sem, n1, n2, n3, n4, z2, z3, z4] at z5
   all_goals
   obtain rfl := so_some h
   refine ⟨0, fun L hL => ?_⟩
   simp only [go_sem, ir62, E_86_l1, R_86_l1, ir62_b0, ir62_k0, ir62_o0, ir62_r0, z2, z3, lz3, xz3, z4, lz4, xz4, z5]
  ·try simp only [go_sem, n1, n2, n3, n4, z2, z3, z4] at z5
   all_goals
   obtain rfl := so_some h
   refine ⟨0, fun L hL => ?_⟩
   simp only [go_sem, ir62, E_86_l1, R_86_l1, ir62_b0, ir62_k0, ir62_o0, ir62_r0, z2, z3, lz3, xz3, z4, lz4, xz4, z5]
 ·try simp only [go_sem, n1, n2, n3, n4] at z2
  all_goals
  obtain rfl := so_some h
  refine ⟨0, fun L hL => ?_⟩
  simp only [go_sem, ir62, E_86_l1, R_86_l1, ir62_b0, ir62_k0, ir62_o0, ir62_r0, z2]

theorem Fs_86 {s1 : List Volume} {s2 : List Volume} {y_ : Bool} (h : slices_Equal_impl_Volume_impl_Volume s1 s2 = some y_) : c_86.F [.sl 5 (List.map Volume_av s1), .sl 5 (List.map Volume_av s2)] = ⟨true, .bool y_, [.any, .any]⟩ := by
 refine mkF_E rfl ?_
 dsimp only [slices_Equal_impl_Volume_impl_Volume] at h
 rcases it_some h with ⟨z1, h⟩ | ⟨z1, h⟩
 ·try simp only [go_sem, n1, n2, n3, n4] at z1
  all_goals
  obtain rfl := so_some h
  refine ⟨0, fun L hL => ?_⟩
  simp only [go_sem, ir62, E_86_l1, R_86_l1, ir62_k0, ir62_o0, ir62_r0, z1]
 ·try simp only [go_sem, n1, n2, n3, n4] at z1
  all_goals
  obtain ⟨y_6, z6, h⟩ := bd_some h
  obtain ⟨Lz6, ez6⟩ := slices_Equal_impl_Volume_impl_Volume_l1_ex z6
  rcases y_6 with y_6a | y_6b
  ·dsimp only at h
   obtain rfl := so_some h
   refine ⟨Lz6, fun L hL => ?_⟩
   have ez6 := ez6 L (by omega)
   try simp only [go_sem, E_86_l1, R_86_l1, ir62_k0, ir62_o0, ir62_r0, z1] at ez6
   simp only [go_sem, ir62, E_86_l1, R_86_l1, ir62_k0, ir62_o0, ir62_r0, z1, ez6]
  ·dsimp only at h
   obtain rfl := so_some h
   refine ⟨Lz6, fun L hL => ?_⟩
   have ez6 := ez6 L (by omega)
   try simp only [go_sem, E_86_l1, R_86_l1, ir62_k0, ir62_o0, ir62_r0, z1] at ez6
   simp only [go_sem, ir62, E_86_l1, R_86_l1, ir62_k0, ir62_o0, ir62_r0, z1, ez6]


def ir26_v : List Nat := [0, 1, 4]
def ir26 : AFn := ⟨2, 3, .seq (.region false [ VO 2 4 (.mov (.c (.bool false)))]) (.seq (.region false [ PM 5 0, PM 6 1, PO 7 (.call 62 [(.s 1), (.s 0)]), VS 2 4 0]) (.ret)), [.t 2]⟩
noncomputable def t_87 : List (Nat × Ctr) := [(62, c_86)]
theorem lk_87_62 : look t_87 62 = some c_86 := rfl
noncomputable def c_87 : Ctr := mkF t_87 ir26 [.bor, .bor]
theorem s_87 : Sound Tryz.prog 26 c_87 := mkF_sound _ rfl (snd_cons s_86 snd_nil) (by kernel_rfl : chkFn Tryz.prog 26 ir26 ir26_v = true)
theorem M_87 : c_87.modes = [.bor, .bor] := rfl
theorem Fl_87 : c_87.flat = true := rfl
attribute [go_sem] M_87 Fl_87
attribute [go_sem] lk_87_62
theorem Fs_87 {a : List Volume} {b : List Volume} {y_ : Bool} (h : impl_SameVolumes a b = some y_) : c_87.F [.sl 5 (List.map Volume_av a), .sl 5 (List.map Volume_av b)] = ⟨true, .bool y_, [.any, .any]⟩ := by
 refine mkF_E rfl ?_
 dsimp only [impl_SameVolumes] at h
 obtain ⟨y_1, z1, h⟩ := bd_some h
 have fz1 := Fs_86 z1
 try simp only [go_sem] at fz1
 obtain rfl := so_some h
 refine ⟨0, fun L hL => ?_⟩
 simp only [go_sem, ir26, fz1]


def ir28_v : List Nat := [0, 2]
def ir28 : AFn := ⟨1, 2, .seq (.region false [ VO 1 2 (.mov (.c (.bool false)))]) (.seq (.region false [ PM 3 0, PO 4 (.call 41 [(.s 0)]), VS 1 2 0]) (.ret)), [.t 1]⟩
noncomputable def t_88 : List (Nat × Ctr) := [(41, c_34)]
theorem lk_88_41 : look t_88 41 = some c_34 := rfl
noncomputable def c_88 : Ctr := mkF t_88 ir28 [.bor]
theorem s_88 : Sound Tryz.prog 28 c_88 := mkF_sound _ rfl (snd_cons s_34 snd_nil) (by kernel_rfl : chkFn Tryz.prog 28 ir28 ir28_v = true)
theorem M_88 : c_88.modes = [.bor] := rfl
theorem Fl_88 : c_88.flat = true := rfl
attribute [go_sem] M_88 Fl_88
attribute [go_sem] lk_88_41
theorem Fs_88 {list : List Volume} {y_ : Bool} (h : spec_ValidVolumes list = some y_) : c_88.F [.sl 5 (List.map Volume_av list)] = ⟨true, .bool y_, [.any]⟩ := by
 refine mkF_E rfl ?_
 dsimp only [spec_ValidVolumes] at h
 obtain ⟨y_1, z1, h⟩ := bd_some h
 have fz1 := Fs_34 z1
 try simp only [go_sem] at fz1
 obtain rfl := so_some h
 refine ⟨0, fun L hL => ?_⟩
 simp only [go_sem, ir28, fz1]


def ir65_v : List Nat := [0, 2]
def ir65 : AFn := ⟨1, 2, .seq (.region false [ VO 1 2 (.mov (I6 0))]) (.seq (.region false [ PM 3 0, PO 4 (.len false (.s 0)), VS 1 2 0]) (.ret)), [.t 1]⟩
noncomputable def t_89 : List (Nat × Ctr) := []
noncomputable def c_89 : Ctr := mkF t_89 ir65 [.bor]
theorem s_89 : Sound Tryz.prog 65 c_89 := mkF_sound _ rfl snd_nil (by kernel_rfl : chkFn Tryz.prog 65 ir65 ir65_v = true)
theorem M_89 : c_89.modes = [.bor] := rfl
theorem Fl_89 : c_89.flat = true := rfl
attribute [go_sem] M_89 Fl_89
theorem Fs_89 {list : List Volume} {y_ : Int} (h : impl_count_impl_Volume list = some y_) : c_89.F [.sl 5 (List.map Volume_av list)] = ⟨true, .int .i64 y_, [.any]⟩ := by
 refine mkF_E rfl ?_
 dsimp only [impl_count_impl_Volume] at h
 obtain rfl := so_some h
 refine ⟨0, fun L hL => ?_⟩
 simp only [go_sem, ir65]


theorem s_hFmt : Sound Tryz.prog 95 c_hFmt := hFmt_is

def ir81_v : List Nat := [0, 1, 4]
def ir81 : AFn := ⟨2, 3, .seq (.region false [ VO 2 4 (.mov (.c (.str [])))]) (.seq (.region false [ PM 5 0, PM 6 1, PO 7 (.call 95 [(.s 1), (.s 0)]), VS 2 4 0]) (.ret)), [.t 2]⟩
noncomputable def t_91 : List (Nat × Ctr) := [(95, c_hFmt)]
theorem lk_91_95 : look t_91 95 = some c_hFmt := rfl
noncomputable def c_91 : Ctr := mkF t_91 ir81 [.bor, .bor]
theorem s_91 : Sound Tryz.prog 81 c_91 := mkF_sound _ rfl (snd_cons s_hFmt snd_nil) (by kernel_rfl : chkFn Tryz.prog 81 ir81 ir81_v = true)
theorem M_91 : c_91.modes = [.bor, .bor] := rfl
theorem Fl_91 : c_91.flat = true := rfl
attribute [go_sem] M_91 Fl_91
attribute [go_sem] lk_91_95
theorem Fs_91 {i : Int} {base : Int} {y_ : (List UInt8)} (h : strconv_FormatInt i base = some y_) : c_91.F [.int .i64 i, .int .i64 base] = ⟨true, .str y_, [.any, .any]⟩ := by
 refine mkF_E rfl ?_
 dsimp only [strconv_FormatInt] at h
 obtain ⟨y_1, z1, h⟩ := bd_some h
 have fz1 := Fs_hFmt z1
 try simp only [go_sem] at fz1
 obtain rfl := so_some h
 refine ⟨0, fun L hL => ?_⟩
 simp only [go_sem, ir81, fz1]


def ir64_v : List Nat := [0, 2]
def ir64 : AFn := ⟨1, 2, .seq (.region false [ VO 1 2 (.mov (.c (.str [])))]) (.seq (.region false [ PM 3 0, PO 4 (.call 81 [(.s 0), (I6 10)]), VS 1 2 0]) (.ret)), [.t 1]⟩
noncomputable def t_92 : List (Nat × Ctr) := [(81, c_91)]
theorem lk_92_81 : look t_92 81 = some c_91 := rfl
noncomputable def c_92 : Ctr := mkF t_92 ir64 [.bor]
theorem s_92 : Sound Tryz.prog 64 c_92 := mkF_sound _ rfl (snd_cons s_91 snd_nil) (by kernel_rfl : chkFn Tryz.prog 64 ir64 ir64_v = true)
theorem M_92 : c_92.modes = [.bor] := rfl
theorem Fl_92 : c_92.flat = true := rfl
attribute [go_sem] M_92 Fl_92
attribute [go_sem] lk_92_81
theorem Fs_92 {n : Int} {y_ : (List UInt8)} (h : impl_Decimal n = some y_) : c_92.F [.int .i64 n] = ⟨true, .str y_, [.any]⟩ := by
 refine mkF_E rfl ?_
 dsimp only [impl_Decimal] at h
 obtain ⟨y_1, z1, h⟩ := bd_some h
 have fz1 := Fs_91 z1
 try simp only [go_sem] at fz1
 obtain rfl := so_some h
 refine ⟨0, fun L hL => ?_⟩
 simp only [go_sem, ir64, fz1]


def ir29_b0 : IR := .seq (.region false [ VO 9 14 (.bin false .lss (.v 8) (.v 7))]) (.seq (.cond (.v 9) (.skip) (.exit 0)) (.seq (.block 1 (.seq (.region false [ PO 15 (.ixAddr 5 (.v 6) (.v 8)), PO 16 (.load true 5 (.s 0)), VO 5 7 (.alloc (.agg [.str [], .int .i64 (0), .int .i64 (0), .int .i64 (0), .int .i64 (0)])), ⟨.no, 0, none, .store 5 (.v 5) (.s 0)⟩]) (.seq (.anyo 8 [ SO 0 17 (.mov (.v 2)), SO 1 18 (.fldAddr 3 (.v 5)), SO 2 19 (.load false 1 (.s 1)), SO 3 20 (.bin false .add (.s 0) (.s 2)), SO 4 21 (.mov (.v 3)), SO 5 22 (.fldAddr 4 (.v 5)), SO 6 23 (.load false 1 (.s 5)), SO 7 24 (.bin
 false .add (.s 4) (.s 6)), VS 2 3 3, VS 3 4 7] [] .skip) (.test false [ PO 25 (.fldAddr 4 (.v 5)), PO 26 (.load false 1 (.s 0)), PO 27 (.bin false .eql (.s 0) (I6 0))] (.s 0) (.region false [ PM 28 4, PO 29 (.bin false .add (.s 0) (I6 1)), VS 4 5 0]) (.skip))))) (.region false [ PO 30 (.bin false .add (.v 8) (I6 1)), VS 8 13 0])))
def ir29_k0 : List Bool := [true, false, true, true, true, false, true, true, true, false]
def ir29_o0 : List Bool := [true, false, true, true, true, false, false, false, false, false]
def ir29_r0 : List Bool := [false, true, false, false, false, false, false, false, false, false]
def ir29_v : List Nat := [0, 2, 3, 4, 5, 7, 11, 12, 13, 14]
def ir29 : AFn := ⟨1, 10, .seq (.region false [ VO 1 2 (.mov (.c (.str [])))]) (.seq (.test false [ PM 8 0, PO 9 (.call 27 [(.s 0)]), PO 10 (.un .not (.s 0))] (.s 0) (.seq (.region false [ VO 1 2 (.mov (.c (.str [])))]) (.ret)) (.skip)) (.seq (.region false [ VO 2 3 (.mov (I6 0)), VO 3 4 (.mov (I6 0)), VO 4 5 (.mov (I6 0))]) (.seq (.seq (.region false [ VO 6 11 (.mov (.v 0)), VO 7 12 (.len false (.v 6)), VO 8 13 (.mov (I6 0))]) (.block 0 (.loop ir29_k0 ir29_o0 ir29_r0 ir29_b0))) (.seq (.region false [ PM 31 0, PO 32 (.call 65 [(.s 0)]), PO 33 (.call 64 [(.s 0)]), PO 34 (.bin false .add (.s 0)
 (.c (.str [32, 118, 111, 108, 117, 109, 101, 115, 32]))), PM 35 2, PO 36 (.call 64 [(.s 0)]), PO 37 (.bin false .add (.s 2) (.s 0)), PO 38 (.bin false .add (.s 0) (.c (.str [32, 101, 115, 116, 105, 109, 97, 116, 101, 115, 32]))), PM 39 3, PO 40 (.call 64 [(.s 0)]), PO 41 (.bin false .add (.s 2) (.s 0)), PO 42 (.bin false .add (.s 0) (.c (.str [32, 99, 111, 112, 105, 101, 115, 32]))), PM 43 4, PO 44 (.call 64 [(.s 0)]), PO 45 (.bin false .add (.s 2) (.s 0)), PO 46 (.bin false .add (.s 0) (.c (.str [32, 108, 111, 115, 116]))), VS 1 2 0]) (.ret))))), [.t 1]⟩
noncomputable def t_93 : List (Nat × Ctr) := [(27, c_19), (65, c_89), (64, c_92)]
theorem lk_93_27 : look t_93 27 = some c_19 := rfl
theorem lk_93_65 : look t_93 65 = some c_89 := rfl
theorem lk_93_64 : look t_93 64 = some c_92 := rfl
noncomputable def c_93 : Ctr := mkF t_93 ir29 [.bor]
theorem s_93 : Sound Tryz.prog 29 c_93 := mkF_sound _ rfl (snd_cons s_19 (snd_cons s_89 (snd_cons s_92 snd_nil))) (by kernel_rfl : chkFn Tryz.prog 29 ir29 ir29_v = true)
theorem M_93 : c_93.modes = [.bor] := rfl
theorem Fl_93 : c_93.flat = true := rfl
attribute [go_sem] M_93 Fl_93
attribute [go_sem] lk_93_27 lk_93_65 lk_93_64
def E_93_l1 (list : List Volume) (t11 : List Volume) (t12 : Int) : (Int × Int × Int × Int) → St
 | (estimates, copies, lost, t13) => ⟨[.sl 5 (List.map Volume_av list), .any, .int .i64 estimates, .int .i64 copies, .int .i64 lost, .any, .sl 5 (List.map Volume_av t11), .int .i64 t12, .int .i64 t13, .any], [], [], true⟩
def R_93_l1 (list : List Volume) (t11 : List Volume) (t12 : Int) (y : Int × Int × Int) : Res := (.exit 0, ⟨[.sl 5 (List.map Volume_av list), .any, .int .i64 y.1, .int .i64 y.2.1, .int .i64 y.2.2, .any, .any, .any, .any, .any], [], [], true⟩)
theorem impl_ArchiveSummary_l1_ex {list : List Volume} {t11 : List Volume} {t12 : Int} {sgm_ : Int × Int × Int × Int} {rho_ : Int × Int × Int} (h : whileE (impl_ArchiveSummary_l1 list t11 t12) sgm_ = some rho_) : ∃ L0, ∀ L, L0 ≤ L → iter (exec (look t_93) L ir29_b0) ir29_k0 ir29_o0 ir29_r0 L (E_93_l1 list t11 t12 sgm_) = R_93_l1 list t11 t12 rho_ := by
 refine loop_ex (E := E_93_l1 list t11 t12) (R := R_93_l1 list t11 t12) (fun y => by first | (intro c; cases c) | (rcases y with y | y <;> (intro c; cases c)) | (rcases y with y | y | y <;> (intro c; cases c))) ?_ h
 clear h
 rintro ⟨estimates, copies, lost, t13⟩ o_ h
 dsimp only [impl_ArchiveSummary_l1] at h
 rcases it_some h with ⟨z3, h⟩ | ⟨z3, h⟩
 ·try simp only [go_sem, n1, n2, n3, n4] at z3
  all_goals
  obtain ⟨z4, h⟩ := ck_some h
  have lz4 := ix_lt z4
  have xz4 := getD_mapD Volume_av t11 lz4
  try simp only [go_sem] at lz4
  try simp only [go_sem] at xz4
  try simp only [go_sem, n1, n2, n3, n4, z3] at z4
  all_goals
  rcases it_some h with ⟨z5, h⟩ | ⟨z5, h⟩
  ·try simp only [go_sem, n1, n2, n3, n4, z3, z4] at z5
   all_goals
   obtain rfl := so_some h
   refine ⟨0, fun L hL => ?_⟩
   simp only [go_sem, ir29, E_93_l1, R_93_l1, ir29_b0, ir29_k0, ir29_o0, ir29_r0, z3, z4, lz4, xz4, z5]
  ·try simp only [go_sem, n1, n2, n3, n4, z3, z4] at z5
   all_goals
   obtain rfl := so_some h
   refine ⟨0, fun L hL => ?_⟩
   simp only [go_sem, ir29, E_93_l1, R_93_l1, ir29_b0, ir29_k0, ir29_o0, ir29_r0, z3, z4, lz4, xz4, z5]
 ·try simp only [go_sem, n1, n2, n3, n4] at z3
  all_goals
  obtain rfl := so_some h
  refine ⟨0, fun L hL => ?_⟩
  simp only [go_sem, ir29, E_93_l1, R_93_l1, ir29_b0, ir29_k0, ir29_o0, ir29_r0, z3]

theorem Fs_93 {list : List Volume} {y_ : (List UInt8)} (h : impl_ArchiveSummary list = some y_) : c_93.F [.sl 5 (List.map Volume_av list)] = ⟨true, .str y_, [.any]⟩ := by
 refine mkF_E rfl ?_
 dsimp only [impl_ArchiveSummary] at h
 obtain ⟨y_1, z1, h⟩ := bd_some h
 have fz1 := Fs_19 z1
 try simp only [go_sem] at fz1
 rcases it_some h with ⟨z2, h⟩ | ⟨z2, h⟩
 ·try simp only [go_sem, n1, n2, n3, n4] at z2
  all_goals
  obtain rfl := so_some h
  refine ⟨0, fun L hL => ?_⟩
  simp only [go_sem, ir29, E_93_l1, R_93_l1, ir29_k0, ir29_o0, ir29_r0, fz1, z2]
 ·try simp only [go_sem, n1, n2, n3, n4] at z2
  all_goals
  obtain ⟨y_6, z6, h⟩ := bd_some h
  obtain ⟨Lz6, ez6⟩ := impl_ArchiveSummary_l1_ex z6
  obtain ⟨y_7, z7, h⟩ := bd_some h
  have fz7 := Fs_89 z7
  try simp only [go_sem, z2] at fz7
  obtain ⟨y_8, z8, h⟩ := bd_some h
  have fz8 := Fs_92 z8
  try simp only [go_sem, z2] at fz8
  obtain ⟨z9, h⟩ := ck_some h
  try simp only [go_sem, n1, n2, n3, n4, z2] at z9
  all_goals
  obtain ⟨y_10, z10, h⟩ := bd_some h
  have fz10 := Fs_92 z10
  try simp only [go_sem, z2, z9] at fz10
  obtain ⟨z11, h⟩ := ck_some h
  try simp only [go_sem, n1, n2, n3, n4, z2, z9] at z11
  all_goals
  obtain ⟨z12, h⟩ := ck_some h
  try simp only [go_sem, n1, n2, n3, n4, z2, z9, z11] at z12
  all_goals
  obtain ⟨y_13, z13, h⟩ := bd_some h
  have fz13 := Fs_92 z13
  try simp only [go_sem, z2, z9, z11, z12] at fz13
  obtain ⟨z14, h⟩ := ck_some h
  try simp only [go_sem, n1, n2, n3, n4, z2, z9, z11, z12] at z14
  all_goals
  obtain ⟨z15, h⟩ := ck_some h
  try simp only [go_sem, n1, n2, n3, n4, z2, z9, z11, z12, z14] at z15
  all_goals
  obtain ⟨y_16, z16, h⟩ := bd_some h
  have fz16 := Fs_92 z16
  try simp only [go_sem, z2, z9, z11, z12, z14, z15] at fz16
  obtain ⟨z17, h⟩ := ck_some h
  try simp only [go_sem, n1, n2, n3, n4, z2, z9, z11, z12, z14, z15] at z17
  all_goals
  obtain ⟨z18, h⟩ := ck_some h
  try simp only [go_sem, n1, n2, n3, n4, z2, z9, z11, z12, z14, z15, z17] at z18
  all_goals
  obtain rfl := so_some h
  refine ⟨Lz6, fun L hL => ?_⟩
  have ez6 := ez6 L (by omega)
  try simp only [go_sem, E_93_l1, R_93_l1, ir29_k0, ir29_o0, ir29_r0, z2, z9, z11, z12, z14, z15, z17, z18] at ez6
  simp only [go_sem, ir29, E_93_l1, R_93_l1, ir29_k0, ir29_o0, ir29_r0, fz1, z2, fz7, fz8, z9, fz10, z11, z12, fz13, z14, z15, fz16, z17, z18, ez6]


def ir66_b0 : IR := .seq (.test false [ PM 8 3, PO 9 (.bin false .neq (.s 0) (I6 0))] (.s 0) (.skip) (.exit 0)) (.seq (.block 1 (.seq (.region false [ PM 12 3, PO 13 (.bin false .rem (.s 0) (I6 10)), VS 4 5 0]) (.seq (.test false [ PM 14 4, PO 15 (.bin false .lss (.s 0) (I6 0))] (.s 0) (.region false [ PM 16 4, PO 17 (.un .neg (.s 0)), VS 4 5 0]) (.skip)) (.region false [ PM 18 4, PO 19 (.bin false .add (I6 48) (.s 0)), PO 20 (.conv .u8 (.s 0)), PO 21 (.mkSl 1 (.int .u8 (0)) 1 [(0, (.s 0))]), PM 22 2, PO 23 (.app 1 1 (.int .u8 (0)) (.s 1) (.s 0)), VS 2 3 0])))) (.region false [ PM 10 3, PO 11
 (.bin false .quo (.s 0) (I6 10)), VS 3 4 0]))
def ir66_k0 : List Bool := [true, false, true, true, false]
def ir66_o0 : List Bool := [true, false, true, false, false]
def ir66_r0 : List Bool := [false, true, false, false, false]
def ir66_v : List Nat := [0, 2, 3, 4, 5]
def ir66 : AFn := ⟨1, 5, .seq (.region false [ VO 1 2 (.mov (.c (.str [])))]) (.seq (.region false [ PO 6 (.mkSl 1 (.int .u8 (0)) 0 []), VS 2 3 0]) (.seq (.seq (.region false [ PM 7 0, VS 3 4 0]) (.block 0 (.loop ir66_k0 ir66_o0 ir66_r0 ir66_b0))) (.seq (.test false [ PM 24 2, PO 25 (.len false (.s 0)), PO 26 (.bin false .eql (.s 0) (I6 0))] (.s 0) (.seq (.region false [ VO 1 2 (.mov (.c (.str [48])))]) (.ret)) (.skip)) (.seq (.test false [ PM 27 0, PO 28 (.bin false .lss (.s 0) (I6 0))] (.s 0) (.seq (.region false [ PM 29 2, PO 30 (.b2s (.s 0)), PO 31 (.bin false .add (.c (.str [45])) (.s 0)),
 VS 1 2 0]) (.ret)) (.skip)) (.seq (.region false [ PM 32 2, PO 33 (.b2s (.s 0)), VS 1 2 0]) (.ret)))))), [.t 1]⟩
noncomputable def t_94 : List (Nat × Ctr) := []
noncomputable def c_94 : Ctr := mkF t_94 ir66 [.bor]
theorem s_94 : Sound Tryz.prog 66 c_94 := mkF_sound _ rfl snd_nil (by kernel_rfl : chkFn Tryz.prog 66 ir66 ir66_v = true)
theorem M_94 : c_94.modes = [.bor] := rfl
theorem Fl_94 : c_94.flat = true := rfl
attribute [go_sem] M_94 Fl_94
def E_94_l1 (n : Int) : ((List UInt8) × Int) → St
 | (out, k) => ⟨[.int .i64 n, .any, .own 3200000, .int .i64 k, .any], [], [(3200000, ⟨1, List.map byteAV out⟩)], true⟩
def R_94_l1 (n : Int) (y : (List UInt8)) : Res := (.exit 0, ⟨[.int .i64 n, .any, .own 3200000, .any, .any], [], [(3200000, ⟨1, List.map byteAV y⟩)], true⟩)
theorem spec_l01Dec_l1_ex {n : Int} {sgm_ : (List UInt8) × Int} {rho_ : (List UInt8)} (h : whileE (spec_l01Dec_l1 n) sgm_ = some rho_) : ∃ L0, ∀ L, L0 ≤ L → iter (exec (look t_94) L ir66_b0) ir66_k0 ir66_o0 ir66_r0 L (E_94_l1 n sgm_) = R_94_l1 n rho_ := by
 refine loop_ex (E := E_94_l1 n) (R := R_94_l1 n) (fun y => by first | (intro c; cases c) | (rcases y with y | y <;> (intro c; cases c)) | (rcases y with y | y | y <;> (intro c; cases c))) ?_ h
 clear h
 rintro ⟨out, k⟩ o_ h
 dsimp only [spec_l01Dec_l1] at h
 rcases it_some h with ⟨z1, h⟩ | ⟨z1, h⟩
 ·try simp only [go_sem, n1, n2, n3, n4] at z1
  all_goals
  obtain ⟨z2, h⟩ := ck_some h
  try simp only [go_sem, n1, n2, n3, n4, z1] at z2
  all_goals
  rcases it_some h with ⟨z3, h⟩ | ⟨z3, h⟩
  ·try simp only [go_sem, n1, n2, n3, n4, z1, z2] at z3
   all_goals
   obtain ⟨z4, h⟩ := ck_some h
   try simp only [go_sem, n1, n2, n3, n4, z1, z2, z3] at z4
   all_goals
   obtain rfl := so_some h
   refine ⟨0, fun L hL => ?_⟩
   simp only [go_sem, ir66, E_94_l1, R_94_l1, ir66_b0, ir66_k0, ir66_o0, ir66_r0, z1, z2, z3, z4]
  ·try simp only [go_sem, n1, n2, n3, n4, z1, z2] at z3
   all_goals
   obtain ⟨z5, h⟩ := ck_some h
   try simp only [go_sem, n1, n2, n3, n4, z1, z2, z3] at z5
   all_goals
   obtain rfl := so_some h
   refine ⟨0, fun L hL => ?_⟩
   simp only [go_sem, ir66, E_94_l1, R_94_l1, ir66_b0, ir66_k0, ir66_o0, ir66_r0, z1, z2, z3, z5]
 ·try simp only [go_sem, n1, n2, n3, n4] at z1
  all_goals
  obtain rfl := so_some h
  refine ⟨0, fun L hL => ?_⟩
  simp only [go_sem, ir66, E_94_l1, R_94_l1, ir66_b0, ir66_k0, ir66_o0, ir66_r0, z1]

theorem Fs_94 {n : Int} {y_ : (List UInt8)} (h : spec_l01Dec n = some y_) : c_94.F [.int .i64 n] = ⟨true, .str y_, [.any]⟩ := by
 refine mkF_E rfl ?_
 dsimp only [spec_l01Dec] at h
 obtain ⟨y_6, z6, h⟩ := bd_some h
 obtain ⟨Lz6, ez6⟩ := spec_l01Dec_l1_ex z6
 rcases it_some h with ⟨z7, h⟩ | ⟨z7, h⟩
 ·try simp only [go_sem, n1, n2, n3, n4] at z7
  all_goals
  obtain rfl := so_some h
  refine ⟨Lz6, fun L hL => ?_⟩
  have ez6 := ez6 L (by omega)
  try simp only [go_sem, E_94_l1, R_94_l1, ir66_k0, ir66_o0, ir66_r0, z7] at ez6
  simp only [go_sem, ir66, E_94_l1, R_94_l1, ir66_k0, ir66_o0, ir66_r0, z7, ez6]
 ·try simp only [go_sem, n1, n2, n3, n4] at z7
  all_goals
  rcases it_some h with ⟨z8, h⟩ | ⟨z8, h⟩
  ·try simp only [go_sem, n1, n2, n3, n4, z7] at z8
   all_goals
   obtain ⟨z9, h⟩ := ck_some h
   try simp only [go_sem, n1, n2, n3, n4, z7, z8] at z9
   all_goals
   obtain rfl := so_some h
   refine ⟨Lz6, fun L hL => ?_⟩
   have ez6 := ez6 L (by omega)
   try simp only [go_sem, E_94_l1, R_94_l1, ir66_k0, ir66_o0, ir66_r0, z7, z8, z9] at ez6
   simp only [go_sem, ir66, E_94_l1, R_94_l1, ir66_k0, ir66_o0, ir66_r0, z7, z8, z9, ez6]
  ·try simp only [go_sem, n1, n2, n3, n4, z7] at z8
   all_goals
   obtain rfl := so_some h
   refine ⟨Lz6, fun L hL => ?_⟩
   have ez6 := ez6 L (by omega)
   try simp only [go_sem, E_94_l1, R_94_l1, ir66_k0, ir66_o0, ir66_r0, z7, z8] at ez6
   simp only [go_sem, ir66, E_94_l1, R_94_l1, ir66_k0, ir66_o0, ir66_r0, z7, z8, ez6]


def ir30_b0 : IR := .seq (.test false [ PM 10 5, PM 11 0, PO 12 (.len false (.s 0)), PO 13 (.bin false .lss (.s 2) (.s 0))] (.s 0) (.skip) (.exit 0)) (.seq (.block 1 (.seq (.region false [ PM 16 2, PM 17 0, PM 18 5, PO 19 (.ixAddr 5 (.s 1) (.s 0)), PO 20 (.fldAddr 3 (.s 0)), PO 21 (.load false 1 (.s 0)), PO 22 (.bin false .add (.s 5) (.s 0)), VS 2 3 0]) (.seq (.region false [ PM 23 3, PM 24 0, PM 25 5, PO 26 (.ixAddr 5 (.s 1) (.s 0)), PO 27 (.fldAddr 4 (.s 0)), PO 28 (.load false 1 (.s 0)), PO 29 (.bin false .add (.s 5) (.s 0)), VS 3 4 0]) (.test false [ PM 30 0, PM 31 5, PO 32 (.ixAddr 5 (.s
 1) (.s 0)), PO 33 (.fldAddr 4 (.s 0)), PO 34 (.load false 1 (.s 0)), PO 35 (.bin false .eql (.s 0) (I6 0))] (.s 0) (.region false [ PM 36 4, PO 37 (.bin false .add (.s 0) (I6 1)), VS 4 5 0]) (.skip))))) (.region false [ PM 14 5, PO 15 (.bin false .add (.s 0) (I6 1)), VS 5 6 0]))
def ir30_k0 : List Bool := [true, false, true, true, true, true]
def ir30_o0 : List Bool := [true, false, true, true, true, false]
def ir30_r0 : List Bool := [false, true, false, false, false, false]
def ir30_v : List Nat := [0, 2, 3, 4, 5, 6]
def ir30 : AFn := ⟨1, 6, .seq (.region false [ VO 1 2 (.mov (.c (.str [])))]) (.seq (.test false [ PM 7 0, PO 8 (.call 41 [(.s 0)]), PO 9 (.un .not (.s 0))] (.s 0) (.seq (.region false [ VO 1 2 (.mov (.c (.str [])))]) (.ret)) (.skip)) (.seq (.region false [ VO 2 3 (.mov (I6 0))]) (.seq (.region false [ VO 3 4 (.mov (I6 0))]) (.seq (.region false [ VO 4 5 (.mov (I6 0))]) (.seq (.seq (.region false [ VO 5 6 (.mov (I6 0))]) (.block 0 (.loop ir30_k0 ir30_o0 ir30_r0 ir30_b0))) (.seq (.region false [ PM 38 0, PO 39 (.len false (.s 0)), PO 40 (.call 66 [(.s 0)]), PO 41 (.bin false .add (.s 0) (.c
 (.str [32, 118, 111, 108, 117, 109, 101, 115, 32]))), PM 42 2, PO 43 (.call 66 [(.s 0)]), PO 44 (.bin false .add (.s 2) (.s 0)), PO 45 (.bin false .add (.s 0) (.c (.str [32, 101, 115, 116, 105, 109, 97, 116, 101, 115, 32]))), PM 46 3, PO 47 (.call 66 [(.s 0)]), PO 48 (.bin false .add (.s 2) (.s 0)), PO 49 (.bin false .add (.s 0) (.c (.str [32, 99, 111, 112, 105, 101, 115, 32]))), PM 50 4, PO 51 (.call 66 [(.s 0)]), PO 52 (.bin false .add (.s 2) (.s 0)), PO 53 (.bin false .add (.s 0) (.c (.str [32, 108, 111, 115, 116]))), VS 1 2 0]) (.ret))))))), [.t 1]⟩
noncomputable def t_95 : List (Nat × Ctr) := [(41, c_34), (66, c_94)]
theorem lk_95_41 : look t_95 41 = some c_34 := rfl
theorem lk_95_66 : look t_95 66 = some c_94 := rfl
noncomputable def c_95 : Ctr := mkF t_95 ir30 [.bor]
theorem s_95 : Sound Tryz.prog 30 c_95 := mkF_sound _ rfl (snd_cons s_34 (snd_cons s_94 snd_nil)) (by kernel_rfl : chkFn Tryz.prog 30 ir30 ir30_v = true)
theorem M_95 : c_95.modes = [.bor] := rfl
theorem Fl_95 : c_95.flat = true := rfl
attribute [go_sem] M_95 Fl_95
attribute [go_sem] lk_95_41 lk_95_66
def E_95_l1 (list : List Volume) : (Int × Int × Int × Int) → St
 | (count, copies, lost, i) => ⟨[.sl 5 (List.map Volume_av list), .any, .int .i64 count, .int .i64 copies, .int .i64 lost, .int .i64 i], [], [], true⟩
def R_95_l1 (list : List Volume) (y : Int × Int × Int) : Res := (.exit 0, ⟨[.sl 5 (List.map Volume_av list), .any, .int .i64 y.1, .int .i64 y.2.1, .int .i64 y.2.2, .any], [], [], true⟩)
theorem spec_ArchiveSummary_l1_ex {list : List Volume} {sgm_ : Int × Int × Int × Int} {rho_ : Int × Int × Int} (h : whileE (spec_ArchiveSummary_l1 list) sgm_ = some rho_) : ∃ L0, ∀ L, L0 ≤ L → iter (exec (look t_95) L ir30_b0) ir30_k0 ir30_o0 ir30_r0 L (E_95_l1 list sgm_) = R_95_l1 list rho_ := by
 refine loop_ex (E := E_95_l1 list) (R := R_95_l1 list) (fun y => by first | (intro c; cases c) | (rcases y with y | y <;> (intro c; cases c)) | (rcases y with y | y | y <;> (intro c; cases c))) ?_ h
 clear h
 rintro ⟨count, copies, lost, i⟩ o_ h
 dsimp only [spec_ArchiveSummary_l1] at h
 rcases it_some h with ⟨z3, h⟩ | ⟨z3, h⟩
 ·try simp only [go_sem, n1, n2, n3, n4] at z3
  all_goals
  obtain ⟨z4, h⟩ := ck_some h
  have lz4 := ix_lt z4
  have xz4 := getD_mapD Volume_av list lz4
  try simp only [go_sem] at lz4
  try simp only [go_sem] at xz4
  try simp only [go_sem, n1, n2, n3, n4, z3] at z4
  all_goals
  rcases it_some h with ⟨z5, h⟩ | ⟨z5, h⟩
  ·try simp only [go_sem, n1, n2, n3, n4, z3, z4] at z5
   all_goals
   obtain rfl := so_some h
   refine ⟨0, fun L hL => ?_⟩
   simp only [go_sem, ir30, E_95_l1, R_95_l1, ir30_b0, ir30_k0, ir30_o0, ir30_r0, z3, z4, lz4, xz4, z5]
  ·try simp only [go_sem, n1, n2, n3, n4, z3, z4] at z5
   all_goals
   obtain rfl := so_some h
   refine ⟨0, fun L hL => ?_⟩
   simp only [go_sem, ir30, E_95_l1, R_95_l1, ir30_b0, ir30_k0, ir30_o0, ir30_r0, z3, z4, lz4, xz4, z5]
 ·try simp only [go_sem, n1, n2, n3, n4] at z3
  all_goals
  obtain rfl := so_some h
  refine ⟨0, fun L hL => ?_⟩
  simp only [go_sem, ir30, E_95_l1, R_95_l1, ir30_b0, ir30_k0, ir30_o0, ir30_r0, z3]

theorem Fs_95 {list : List Volume} {y_ : (List UInt8)} (h : spec_ArchiveSummary list = some y_) : c_95.F [.sl 5 (List.map Volume_av list)] = ⟨true, .str y_, [.any]⟩ := by
 refine mkF_E rfl ?_
 dsimp only [spec_ArchiveSummary] at h
 obtain ⟨y_1, z1, h⟩ := bd_some h
 have fz1 := Fs_34 z1
 try simp only [go_sem] at fz1
 rcases it_some h with ⟨z2, h⟩ | ⟨z2, h⟩
 ·try simp only [go_sem, n1, n2, n3, n4] at z2
  all_goals
  obtain rfl := so_some h
  refine ⟨0, fun L hL => ?_⟩
  simp only [go_sem, ir30, E_95_l1, R_95_l1, ir30_k0, ir30_o0, ir30_r0, fz1, z2]
 ·try simp only [go_sem, n1, n2, n3, n4] at z2
  all_goals
  obtain ⟨y_6, z6, h⟩ := bd_some h
  obtain ⟨Lz6, ez6⟩ := spec_ArchiveSummary_l1_ex z6
  obtain ⟨y_7, z7, h⟩ := bd_some h
  have fz7 := Fs_94 z7
  try simp only [go_sem, z2] at fz7
  obtain ⟨z8, h⟩ := ck_some h
  try simp only [go_sem, n1, n2, n3, n4, z2] at z8
  all_goals
  obtain ⟨y_9, z9, h⟩ := bd_some h
  have fz9 := Fs_94 z9
  try simp only [go_sem, z2, z8] at fz9
  obtain ⟨z10, h⟩ := ck_some h
  try simp only [go_sem, n1, n2, n3, n4, z2, z8] at z10
  all_goals
  obtain ⟨z11, h⟩ := ck_some h
  try simp only [go_sem, n1, n2, n3, n4, z2, z8, z10] at z11
  all_goals
  obtain ⟨y_12, z12, h⟩ := bd_some h
  have fz12 := Fs_94 z12
  try simp only [go_sem, z2, z8, z10, z11] at fz12
  obtain ⟨z13, h⟩ := ck_some h
  try simp only [go_sem, n1, n2, n3, n4, z2, z8, z10, z11] at z13
  all_goals
  obtain ⟨z14, h⟩ := ck_some h
  try simp only [go_sem, n1, n2, n3, n4, z2, z8, z10, z11, z13] at z14
  all_goals
  obtain ⟨y_15, z15, h⟩ := bd_some h
  have fz15 := Fs_94 z15
  try simp only [go_sem, z2, z8, z10, z11, z13, z14] at fz15
  obtain ⟨z16, h⟩ := ck_some h
  try simp only [go_sem, n1, n2, n3, n4, z2, z8, z10, z11, z13, z14] at z16
  all_goals
  obtain ⟨z17, h⟩ := ck_some h
  try simp only [go_sem, n1, n2, n3, n4, z2, z8, z10, z11, z13, z14, z16] at z17
  all_goals
  obtain rfl := so_some h
  refine ⟨Lz6, fun L hL => ?_⟩
  have ez6 := ez6 L (by omega)
  try simp only [go_sem, E_95_l1, R_95_l1, ir30_k0, ir30_o0, ir30_r0, z2, z8, z10, z11, z13, z14, z16, z17] at ez6
  simp only [go_sem, ir30, E_95_l1, R_95_l1, ir30_k0, ir30_o0, ir30_r0, fz1, z2, fz7, z8, fz9, z10, z11, fz12, z13, z14, fz15, z16, z17, ez6]


def ir3_b0 : IR := .seq (.test false [ PM 258 42, PM 259 40, PO 260 (.len false (.s 0)), PO 261 (.bin false .lss (.s 2) (.s 0))] (.s 0) (.skip) (.exit 0)) (.seq (.block 1 (.anyo 25 [ SO 0 264 (.mov (.v 40)), SO 1 265 (.mov (.v 42)), SO 2 266 (.ixAddr 1 (.s 0) (.s 1)), SO 3 267 (.load false 1 (.s 2)), SO 4 268 (.bin false .geq (.s 3) (I6 0)), SO 5 269 (.mov (.s 4)), ⟨.slot 6, 270, (some ((.s 5), true)), .mov (.v 40)⟩, ⟨.slot 7, 271, (some ((.s 5), true)), .mov (.v 42)⟩, ⟨.slot 8, 272, (some ((.s 5), true)), .ixAddr 1 (.s 6) (.s 7)⟩, ⟨.slot 9, 273, (some ((.s 5), true)), .load false 1 (.s 8)⟩,
 ⟨.slot 10, 274, (some ((.s 5), true)), .mov (.v 6)⟩, ⟨.slot 11, 275, (some ((.s 5), true)), .len false (.s 10)⟩, ⟨.slot 12, 276, (some ((.s 5), true)), .bin false .lss (.s 9) (.s 11)⟩, SO 13 277 (.pick (.s 5) (.s 12) (.c (.bool false))), SO 14 278 (.mov (.s 13)), ⟨.slot 15, 279, (some ((.s 14), true)), .mov (.v 6)⟩, ⟨.slot 16, 280, (some ((.s 14), true)), .mov (.v 40)⟩, ⟨.slot 17, 281, (some ((.s 14), true)), .mov (.v 42)⟩, ⟨.slot 18, 282, (some ((.s 14), true)), .ixAddr 1 (.s 16) (.s 17)⟩, ⟨.slot 19, 283, (some ((.s 14), true)), .load false 1 (.s 18)⟩, ⟨.slot 20, 284, (some ((.s 14), true)),
 .ixAddr 5 (.s 15) (.s 19)⟩, ⟨.slot 21, 285, (some ((.s 14), true)), .load true 5 (.s 20)⟩, ⟨.slot 22, 286, (some ((.s 14), true)), .load true 5 (.v 3)⟩, ⟨.slot 23, 287, (some ((.s 14), true)), .eqA false [2, 1, 1, 1, 1] (.s 21) (.s 22)⟩, SO 24 288 (.pick (.s 14) (.s 23) (.c (.bool false)))] [] (.cond (.s 24) (.seq (.region false [ VO 1 2 (.mov (.c (.bool true)))]) (.ret)) (.skip)))) (.region false [ PM 262 42, PO 263 (.bin false .add (.s 0) (I6 1)), VS 42 43 0]))
def ir3_k0 : List Bool := [false, false, false, true, false, false, true, false, false, false, false, false, false, false, false, false, false, false, false, false, false, false, false, false, false, false, false, false, false, false, false, false, false, false, false, false, false, false, false, false, true, false, true]
def ir3_o0 : List Bool := [false, false, false, false, false, false, false, false, false, false, false, false, false, false, false, false, false, false, false, false, false, false, false, false, false, false, false, false, false, false, false, false, false, false, false, false, false, false, false, false, false, false, false]
def ir3_r0 : List Bool := [false, true, false, false, false, false, false, false, false, false, false, false, false, false, false, false, false, false, false, false, false, false, false, false, false, false, false, false, false, false, false, false, false, false, false, false, false, false, false, false, false, false, false]
def ir3_v : List Nat := [0, 2, 3, 4, 5, 6, 7, 8, 9, 10, 11, 12, 13, 14, 15, 16, 17, 18, 19, 20, 21, 22, 23, 24, 25, 26, 27, 28, 29, 30, 31, 32, 33, 34, 35, 36, 37, 38, 39, 40, 41, 42, 43]
def ir3 : AFn := ⟨1, 43, .seq (.region false [ VO 1 2 (.mov (.c (.bool false)))]) (.seq (.test false [ PM 44 0, PO 45 (.call 4 [(.s 0)])] (.s 0) (.seq (.region false [ VO 1 2 (.mov (.c (.bool true)))]) (.ret)) (.skip)) (.seq (.region false [ PM 47 0, PO 48 (.call 5 [(.s 0)]), PO 46 (.mov (.s 0)), PO 49 (.ext (.s 0) 0), PO 50 (.ext (.s 1) 1), VO 3 4 (.alloc (.agg [.str [], .int .i64 (0), .int .i64 (0), .int .i64 (0), .int .i64 (0)])), VS 2 3 1, ⟨.no, 0, none, .store 5 (.v 3) (.s 0)⟩]) (.seq (.region false [ PM 52 2, PO 53 (.load true 5 (.v 3)), PO 54 (.call 6 [(.s 1), (.s 0)]), PO 51 (.mov (.s
 0)), PO 55 (.ext (.s 0) 0), PO 56 (.ext (.s 1) 1), VS 4 5 1, VS 5 6 0]) (.seq (.region false [ PM 58 2, PO 59 (.load true 5 (.v 3)), PO 60 (.call 7 [(.s 1), (.s 0)]), PO 57 (.mov (.s 0)), PO 61 (.ext (.s 0) 0), PO 62 (.ext (.s 1) 1), VS 6 7 1, VS 7 8 0]) (.seq (.region false [ PM 64 0, PO 65 (.call 8 [(.s 0)]), PO 63 (.mov (.s 0)), PO 66 (.ext (.s 0) 0), PO 67 (.ext (.s 1) 1), VS 8 9 1, VS 9 10 0]) (.seq (.region false [ PM 69 8, PM 70 9, PO 71 (.call 9 [(.s 1), (.s 0)]), PO 68 (.mov (.s 0)), PO 72 (.ext (.s 0) 0), PO 73 (.ext (.s 1) 1), VS 10 11 1, VS 11 12 0]) (.seq (.region false [ PM 75 8,
 PM 76 9, PO 77 (.call 10 [(.s 1), (.s 0)]), PO 74 (.mov (.s 0)), PO 78 (.ext (.s 0) 0), PO 79 (.ext (.s 1) 1), VS 12 13 1, VS 13 14 0]) (.seq (.region false [ PM 81 8, PM 82 9, PO 83 (.call 11 [(.s 1), (.s 0)]), PO 80 (.mov (.s 0)), PO 84 (.ext (.s 0) 0), PO 85 (.ext (.s 1) 1), VS 14 15 1, VS 15 16 0]) (.seq (.region false [ PM 87 8, PM 88 9, PO 89 (.call 12 [(.s 1), (.s 0)]), PO 86 (.mov (.s 0)), PO 90 (.ext (.s 0) 0), PO 91 (.ext (.s 1) 1), VS 16 17 1, VS 17 18 0]) (.seq (.region false [ PM 93 0, PO 94 (.call 13 [(.s 0)]), PO 92 (.mov (.s 0)), PO 95 (.ext (.s 0) 0), PO 96 (.ext (.s 1) 1), VS
 18 19 1, VS 19 20 0]) (.seq (.region false [ PM 98 18, PM 99 19, PO 100 (.call 14 [(.s 1), (.s 0)]), PO 97 (.mov (.s 0)), PO 101 (.ext (.s 0) 0), PO 102 (.ext (.s 1) 1), VS 20 21 1, VS 21 22 0]) (.seq (.region false [ PM 104 18, PM 105 19, PO 106 (.call 15 [(.s 1), (.s 0)]), PO 103 (.mov (.s 0)), PO 107 (.ext (.s 0) 0), PO 108 (.ext (.s 1) 1), VS 22 23 1, VS 23 24 0]) (.seq (.region false [ PM 109 0, PO 110 (.call 16 [(.s 0)]), VS 24 25 0]) (.seq (.region false [ PM 112 24, PO 113 (.call 17 [(.s 0)]), PO 111 (.mov (.s 0)), PO 114 (.ext (.s 0) 0), PO 115 (.ext (.s 1) 1), VS 25 26 1, VS 26 27
 0]) (.seq (.region false [ PM 117 24, PO 118 (.call 18 [(.s 0)]), PO 116 (.mov (.s 0)), PO 119 (.ext (.s 0) 0), PO 120 (.ext (.s 1) 1), VS 27 28 1, VS 28 29 0]) (.seq (.region false [ PM 122 0, PO 123 (.call 19 [(.s 0)]), PO 121 (.mov (.s 0)), PO 124 (.ext (.s 0) 0), PO 125 (.ext (.s 1) 1), VS 29 30 1, VS 30 31 0]) (.seq (.region false [ PM 127 29, PM 128 30, PO 129 (.call 20 [(.s 1), (.s 0)]), PO 126 (.mov (.s 0)), PO 130 (.ext (.s 0) 0), PO 131 (.ext (.s 1) 1), VO 31 32 (.alloc (.agg [.str [], .int .i64 (0), .int .i64 (0), .int .i64 (0), .int .i64 (0)])), ⟨.no, 0, none, .store 5 (.v 31) (.s
 1)⟩, VS 32 33 0]) (.seq (.region false [ PM 133 29, PM 134 30, PO 135 (.call 21 [(.s 1), (.s 0)]), PO 132 (.mov (.s 0)), PO 136 (.ext (.s 0) 0), PO 137 (.ext (.s 1) 1), VO 33 34 (.alloc (.agg [.str [], .int .i64 (0), .int .i64 (0), .int .i64 (0), .int .i64 (0)])), ⟨.no, 0, none, .store 5 (.v 33) (.s 1)⟩, VS 34 35 0]) (.seq (.region false [ PM 139 0, PO 140 (.call 22 [(.s 0)]), PO 138 (.mov (.s 0)), PO 141 (.ext (.s 0) 0), PO 142 (.ext (.s 1) 1), VS 35 36 1, VS 36 37 0]) (.seq (.region false [ PM 143 0, PO 144 (.call 23 [(.s 0)]), VS 37 38 0]) (.seq (.test false [ PM 145 5, PM 146 7, PO 147
 (.bin false .neq (.s 1) (.s 0)), PO 148 (.mov (.s 0)), ⟨.push, 149, (some ((.s 0), false)), .mov (.v 4)⟩, ⟨.push, 150, (some ((.s 1), false)), .mov (.v 6)⟩, ⟨.push, 151, (some ((.s 2), false)), .call 24 [(.s 1), (.s 0)]⟩, ⟨.push, 152, (some ((.s 3), false)), .un .not (.s 0)⟩, PO 153 (.pick (.s 4) (.c (.bool true)) (.s 0)), PO 154 (.mov (.s 0)), ⟨.push, 155, (some ((.s 0), false)), .mov (.v 11)⟩, ⟨.push, 156, (some ((.s 1), false)), .mov (.v 13)⟩, ⟨.push, 157, (some ((.s 2), false)), .bin false .neq (.s 1) (.s 0)⟩, PO 158 (.pick (.s 3) (.c (.bool true)) (.s 0)), PO 159 (.mov (.s 0)), ⟨.push,
 160, (some ((.s 0), false)), .mov (.v 10)⟩, ⟨.push, 161, (some ((.s 1), false)), .mov (.v 12)⟩, ⟨.push, 162, (some ((.s 2), false)), .call 24 [(.s 1), (.s 0)]⟩, ⟨.push, 163, (some ((.s 3), false)), .un .not (.s 0)⟩, PO 164 (.pick (.s 4) (.c (.bool true)) (.s 0)), PO 165 (.mov (.s 0)), ⟨.push, 166, (some ((.s 0), false)), .mov (.v 15)⟩, ⟨.push, 167, (some ((.s 1), false)), .mov (.v 17)⟩, ⟨.push, 168, (some ((.s 2), false)), .bin false .neq (.s 1) (.s 0)⟩, PO 169 (.pick (.s 3) (.c (.bool true)) (.s 0)), PO 170 (.mov (.s 0)), ⟨.push, 171, (some ((.s 0), false)), .mov (.v 14)⟩, ⟨.push, 172, (some
 ((.s 1), false)), .mov (.v 16)⟩, ⟨.push, 173, (some ((.s 2), false)), .call 24 [(.s 1), (.s 0)]⟩, ⟨.push, 174, (some ((.s 3), false)), .un .not (.s 0)⟩, PO 175 (.pick (.s 4) (.c (.bool true)) (.s 0)), PO 176 (.mov (.s 0)), ⟨.push, 177, (some ((.s 0), false)), .mov (.v 21)⟩, ⟨.push, 178, (some ((.s 1), false)), .mov (.v 23)⟩, ⟨.push, 179, (some ((.s 2), false)), .bin false .neq (.s 1) (.s 0)⟩, PO 180 (.pick (.s 3) (.c (.bool true)) (.s 0)), PO 181 (.mov (.s 0)), ⟨.push, 182, (some ((.s 0), false)), .mov (.v 20)⟩, ⟨.push, 183, (some ((.s 1), false)), .mov (.v 22)⟩, ⟨.push, 184, (some ((.s 2),
 false)), .call 25 [(.s 1), (.s 0)]⟩, ⟨.push, 185, (some ((.s 3), false)), .un .not (.s 0)⟩, PO 186 (.pick (.s 4) (.c (.bool true)) (.s 0)), PO 187 (.mov (.s 0)), ⟨.push, 188, (some ((.s 0), false)), .mov (.v 26)⟩, ⟨.push, 189, (some ((.s 1), false)), .mov (.v 28)⟩, ⟨.push, 190, (some ((.s 2), false)), .bin false .neq (.s 1) (.s 0)⟩, PO 191 (.pick (.s 3) (.c (.bool true)) (.s 0)), PO 192 (.mov (.s 0)), ⟨.push, 193, (some ((.s 0), false)), .mov (.v 25)⟩, ⟨.push, 194, (some ((.s 1), false)), .mov (.v 27)⟩, ⟨.push, 195, (some ((.s 2), false)), .call 25 [(.s 1), (.s 0)]⟩, ⟨.push, 196, (some ((.s
 3), false)), .un .not (.s 0)⟩, PO 197 (.pick (.s 4) (.c (.bool true)) (.s 0)), PO 198 (.mov (.s 0)), ⟨.push, 199, (some ((.s 0), false)), .mov (.v 32)⟩, ⟨.push, 200, (some ((.s 1), false)), .mov (.v 34)⟩, ⟨.push, 201, (some ((.s 2), false)), .bin false .neq (.s 1) (.s 0)⟩, PO 202 (.pick (.s 3) (.c (.bool true)) (.s 0)), PO 203 (.mov (.s 0)), ⟨.push, 204, (some ((.s 0), false)), .load true 5 (.v 31)⟩, ⟨.push, 205, (some ((.s 1), false)), .load true 5 (.v 33)⟩, ⟨.push, 206, (some ((.s 2), false)), .eqA true [2, 1, 1, 1, 1] (.s 1) (.s 0)⟩, PO 207 (.pick (.s 3) (.c (.bool true)) (.s 0)), PO 208
 (.mov (.s 0)), ⟨.push, 209, (some ((.s 0), false)), .mov (.v 35)⟩, ⟨.push, 210, (some ((.s 1), false)), .mov (.v 36)⟩, ⟨.push, 211, (some ((.s 2), false)), .call 26 [(.s 1), (.s 0)]⟩, ⟨.push, 212, (some ((.s 3), false)), .mov (.v 35)⟩, ⟨.push, 213, (some ((.s 4), false)), .mov (.v 36)⟩, ⟨.push, 214, (some ((.s 5), false)), .call 24 [(.s 1), (.s 0)]⟩, ⟨.push, 215, (some ((.s 6), false)), .bin true .neq (.s 3) (.s 0)⟩, PO 216 (.pick (.s 7) (.c (.bool true)) (.s 0)), PO 217 (.mov (.s 0)), ⟨.push, 218, (some ((.s 0), false)), .mov (.v 2)⟩, ⟨.push, 219, (some ((.s 1), false)), .call 27 [(.s 0)]⟩,
 ⟨.push, 220, (some ((.s 2), false)), .mov (.v 2)⟩, ⟨.push, 221, (some ((.s 3), false)), .call 28 [(.s 0)]⟩, ⟨.push, 222, (some ((.s 4), false)), .bin true .neq (.s 2) (.s 0)⟩, PO 223 (.pick (.s 5) (.c (.bool true)) (.s 0)), PO 224 (.mov (.s 0)), ⟨.push, 225, (some ((.s 0), false)), .mov (.v 37)⟩, ⟨.push, 226, (some ((.s 1), false)), .call 29 [(.s 0)]⟩, ⟨.push, 227, (some ((.s 2), false)), .mov (.v 37)⟩, ⟨.push, 228, (some ((.s 3), false)), .call 30 [(.s 0)]⟩, ⟨.push, 229, (some ((.s 4), false)), .bin false .neq (.s 2) (.s 0)⟩, PO 230 (.pick (.s 5) (.c (.bool true)) (.s 0))] (.s 0) (.seq
 (.region false [ VO 1 2 (.mov (.c (.bool false)))]) (.ret)) (.skip)) (.seq (.test false [ PM 231 11, PO 232 (.bin false .eql (.s 0) (I6 0))] (.s 0) (.seq (.region false [ PM 234 12, PM 235 9, PO 236 (.call 11 [(.s 1), (.s 0)]), PO 233 (.mov (.s 0)), PO 237 (.ext (.s 0) 0), PO 238 (.ext (.s 1) 1), VS 38 39 1, VS 39 40 0]) (.test false [ PM 239 39, PO 240 (.bin false .neq (.s 0) (I6 0)), PO 241 (.mov (.s 0)), ⟨.push, 242, (some ((.s 0), false)), .mov (.v 38)⟩, ⟨.push, 243, (some ((.s 1), false)), .mov (.v 8)⟩, ⟨.push, 244, (some ((.s 2), false)), .call 24 [(.s 1), (.s 0)]⟩, ⟨.push, 245, (some
 ((.s 3), false)), .un .not (.s 0)⟩, PO 246 (.pick (.s 4) (.c (.bool true)) (.s 0))] (.s 0) (.seq (.region false [ VO 1 2 (.mov (.c (.bool false)))]) (.ret)) (.skip))) (.skip)) (.seq (.test false [ PM 247 5, PO 248 (.bin false .neq (.s 0) (I6 0))] (.s 0) (.seq (.region false [ VO 1 2 (.mov (.c (.bool true)))]) (.ret)) (.skip)) (.seq (.region false [ PM 250 4, PO 251 (.fldAddr 1 (.v 3)), PO 252 (.load false 1 (.s 0)), PO 253 (.call 14 [(.s 2), (.s 0)]), PO 249 (.mov (.s 0)), PO 254 (.ext (.s 0) 0), PO 255 (.ext (.s 1) 1), VS 40 41 1, VS 41 42 0]) (.seq (.test false [ PM 256 41, PO 257 (.bin
 false .neq (.s 0) (I6 0))] (.s 0) (.seq (.region false [ VO 1 2 (.mov (.c (.bool false)))]) (.ret)) (.skip)) (.seq (.seq (.region false [ VO 42 43 (.mov (I6 0))]) (.block 0 (.loop ir3_k0 ir3_o0 ir3_r0 ir3_b0))) (.seq (.region false [ VO 1 2 (.mov (.c (.bool false)))]) (.ret)))))))))))))))))))))))))))), [.t 1]⟩
noncomputable def t_laws_FnVolumes : List (Nat × Ctr) := [(4, c_0), (5, c_12), (6, c_27), (7, c_36), (8, c_37), (9, c_39), (10, c_41), (11, c_42), (12, c_43), (13, c_44), (14, c_47), (15, c_48), (16, c_49), (17, c_52), (18, c_54), (19, c_64), (20, c_76), (21, c_81), (22, c_82), (23, c_83), (24, c_84), (25, c_85), (26, c_87), (27, c_19), (28, c_88), (29, c_93), (30, c_95)]
theorem lk_laws_FnVolumes_4 : look t_laws_FnVolumes 4 = some c_0 := rfl
theorem lk_laws_FnVolumes_5 : look t_laws_FnVolumes 5 = some c_12 := rfl
theorem lk_laws_FnVolumes_6 : look t_laws_FnVolumes 6 = some c_27 := rfl
theorem lk_laws_FnVolumes_7 : look t_laws_FnVolumes 7 = some c_36 := rfl
theorem lk_laws_FnVolumes_8 : look t_laws_FnVolumes 8 = some c_37 := rfl
theorem lk_laws_FnVolumes_9 : look t_laws_FnVolumes 9 = some c_39 := rfl
theorem lk_laws_FnVolumes_10 : look t_laws_FnVolumes 10 = some c_41 := rfl
theorem lk_laws_FnVolumes_11 : look t_laws_FnVolumes 11 = some c_42 := rfl
theorem lk_laws_FnVolumes_12 : look t_laws_FnVolumes 12 = some c_43 := rfl
theorem lk_laws_FnVolumes_13 : look t_laws_FnVolumes 13 = some c_44 := rfl
theorem lk_laws_FnVolumes_14 : look t_laws_FnVolumes 14 = some c_47 := rfl
theorem lk_laws_FnVolumes_15 : look t_laws_FnVolumes 15 = some c_48 := rfl
theorem lk_laws_FnVolumes_16 : look t_laws_FnVolumes 16 = some c_49 := rfl
theorem lk_laws_FnVolumes_17 : look t_laws_FnVolumes 17 = some c_52 := rfl
theorem lk_laws_FnVolumes_18 : look t_laws_FnVolumes 18 = some c_54 := rfl
theorem lk_laws_FnVolumes_19 : look t_laws_FnVolumes 19 = some c_64 := rfl
theorem lk_laws_FnVolumes_20 : look t_laws_FnVolumes 20 = some c_76 := rfl
theorem lk_laws_FnVolumes_21 : look t_laws_FnVolumes 21 = some c_81 := rfl
theorem lk_laws_FnVolumes_22 : look t_laws_FnVolumes 22 = some c_82 := rfl
theorem lk_laws_FnVolumes_23 : look t_laws_FnVolumes 23 = some c_83 := rfl
theorem lk_laws_FnVolumes_24 : look t_laws_FnVolumes 24 = some c_84 := rfl
theorem lk_laws_FnVolumes_25 : look t_laws_FnVolumes 25 = some c_85 := rfl
theorem lk_laws_FnVolumes_26 : look t_laws_FnVolumes 26 = some c_87 := rfl
theorem lk_laws_FnVolumes_27 : look t_laws_FnVolumes 27 = some c_19 := rfl
theorem lk_laws_FnVolumes_28 : look t_laws_FnVolumes 28 = some c_88 := rfl
theorem lk_laws_FnVolumes_29 : look t_laws_FnVolumes 29 = some c_93 := rfl
theorem lk_laws_FnVolumes_30 : look t_laws_FnVolumes 30 = some c_95 := rfl
noncomputable def c_laws_FnVolumes : Ctr := mkF t_laws_FnVolumes ir3 [.bor]
theorem s_laws_FnVolumes : Sound Tryz.prog 3 c_laws_FnVolumes := mkF_sound _ rfl (snd_cons s_0 (snd_cons s_12 (snd_cons s_27 (snd_cons s_36 (snd_cons s_37 (snd_cons s_39 (snd_cons s_41 (snd_cons s_42 (snd_cons s_43 (snd_cons s_44 (snd_cons s_47 (snd_cons s_48 (snd_cons s_49 (snd_cons s_52 (snd_cons s_54 (snd_cons s_64 (snd_cons s_76 (snd_cons s_81 (snd_cons s_82 (snd_cons s_83 (snd_cons s_84 (snd_cons s_85 (snd_cons s_87 (snd_cons s_19 (snd_cons s_88 (snd_cons s_93 (snd_cons s_95 snd_nil))))))))))))))))))))))))))) (by kernel_rfl : chkFn Tryz.prog 3 ir3 ir3_v = true)
theorem M_laws_FnVolumes : c_laws_FnVolumes.modes = [.bor] := rfl
theorem Fl_laws_FnVolumes : c_laws_FnVolumes.flat = true := rfl
attribute [go_sem] M_laws_FnVolumes Fl_laws_FnVolumes
attribute [go_sem] lk_laws_FnVolumes_4 lk_laws_FnVolumes_5 lk_laws_FnVolumes_6 lk_laws_FnVolumes_7 lk_laws_FnVolumes_8 lk_laws_FnVolumes_9 lk_laws_FnVolumes_10 lk_laws_FnVolumes_11 lk_laws_FnVolumes_12 lk_laws_FnVolumes_13 lk_laws_FnVolumes_14 lk_laws_FnVolumes_15 lk_laws_FnVolumes_16 lk_laws_FnVolumes_17 lk_laws_FnVolumes_18 lk_laws_FnVolumes_19 lk_laws_FnVolumes_20 lk_laws_FnVolumes_21 lk_laws_FnVolumes_22 lk_laws_FnVolumes_23 lk_laws_FnVolumes_24 lk_laws_FnVolumes_25 lk_laws_FnVolumes_26 lk_laws_FnVolumes_27 lk_laws_FnVolumes_28 lk_laws_FnVolumes_29 lk_laws_FnVolumes_30
def E_laws_FnVolumes_l1 (x : Volume) (model : List Volume) (there : List Int) : Int → St
 | i => ⟨[.any, .any, .any, .ref 3200000 0 0, .any, .any, .own 3200032, .any, .any, .any, .any, .any, .any, .any, .any, .any, .any, .any, .any, .any, .any, .any, .any, .any, .any, .any, .any, .any, .any, .any, .any, .any, .any, .any, .any, .any, .any, .any, .any, .any, .own 3200064, .any, .int .i64 i], [], [(3200000, ⟨5, [Volume_av x]⟩), (3200032, ⟨5, List.map Volume_av model⟩), (3200064, ⟨1, List.map (AV.int .i64) there⟩)], true⟩
def R_laws_FnVolumes_l1 (x : Volume) (model : List Volume) (there : List Int) : (Unit ⊕ Bool) → Res
 | .inl y => (.exit 0, ⟨[.any, .any, .any, .any, .any, .any, .any, .any, .any, .any, .any, .any, .any, .any, .any, .any, .any, .any, .any, .any, .any, .any, .any, .any, .any, .any, .any, .any, .any, .any, .any, .any, .any, .any, .any, .any, .any, .any, .any, .any, .any, .any, .any], [], [], true⟩)
 | .inr y => (.ret, ⟨[.any, .bool y, .any, .any, .any, .any, .any, .any, .any, .any, .any, .any, .any, .any, .any, .any, .any, .any, .any, .any, .any, .any, .any, .any, .any, .any, .any, .any, .any, .any, .any, .any, .any, .any, .any, .any, .any, .any, .any, .any, .any, .any, .any], [], [], true⟩)
theorem laws_FnVolumes_l1_ex {x : Volume} {model : List Volume} {there : List Int} {sgm_ : Int} {rho_ : Unit ⊕ Bool} (h : whileE (laws_FnVolumes_l1 x model there) sgm_ = some rho_) : ∃ L0, ∀ L, L0 ≤ L → iter (exec (look t_laws_FnVolumes) L ir3_b0) ir3_k0 ir3_o0 ir3_r0 L (E_laws_FnVolumes_l1 x model there sgm_) = R_laws_FnVolumes_l1 x model there rho_ := by
 refine loop_ex (E := E_laws_FnVolumes_l1 x model there) (R := R_laws_FnVolumes_l1 x model there) (fun y => by first | (intro c; cases c) | (rcases y with y | y <;> (intro c; cases c)) | (rcases y with y | y | y <;> (intro c; cases c))) ?_ h
 clear h
 intro i o_ h
 dsimp only [laws_FnVolumes_l1] at h
 rcases it_some h with ⟨z41, h⟩ | ⟨z41, h⟩
 ·try simp only [go_sem, n1, n2, n3, n4] at z41
  all_goals
  obtain ⟨z42, h⟩ := ck_some h
  have lz42 := ix_lt z42
  have xz42 := getD_mapD (AV.int .i64) there lz42
  try simp only [go_sem] at lz42
  try simp only [go_sem] at xz42
  try simp only [go_sem, n1, n2, n3, n4, z41] at z42
  all_goals
  obtain ⟨z43, h⟩ := ck_some h
  rcases or_split z43 with ⟨gz43, z43⟩ | gz43
  ·try simp only [go_sem, n1, n2, n3, n4, z41, z42] at gz43
   all_goals
   have lz43 := ix_lt z43
   have xz43 := getD_mapD Volume_av model lz43
   try simp only [go_sem] at lz43
   try simp only [go_sem] at xz43
   try simp only [go_sem, n1, n2, n3, n4, z41, z42, gz43] at z43
   all_goals
   rcases it_some h with ⟨z44, h⟩ | ⟨z44, h⟩
   ·try simp only [go_sem, n1, n2, n3, n4, z41, z42, gz43, z43] at z44
    all_goals
    obtain rfl := so_some h
    refine ⟨0, fun L hL => ?_⟩
    simp only [go_sem, ir3, E_laws_FnVolumes_l1, R_laws_FnVolumes_l1, ir3_b0, ir3_k0, ir3_o0, ir3_r0, z41, z42, lz42, xz42, gz43, z43, lz43, xz43, z44]
   ·try simp only [go_sem, n1, n2, n3, n4, z41, z42, gz43, z43] at z44
    all_goals
    obtain rfl := so_some h
    refine ⟨0, fun L hL => ?_⟩
    simp only [go_sem, ir3, E_laws_FnVolumes_l1, R_laws_FnVolumes_l1, ir3_b0, ir3_k0, ir3_o0, ir3_r0, z41, z42, lz42, xz42, gz43, z43, lz43, xz43, z44]
  ·rcases and_f gz43 with gz43a | ⟨gz43a, gz43b⟩
   ·try simp only [go_sem, n1, n2, n3, n4, z41, z42] at gz43a
    all_goals
    rcases it_some h with ⟨z44, h⟩ | ⟨z44, h⟩
    ·try simp only [go_sem, n1, n2, n3, n4, z41, z42, gz43a] at z44
     all_goals
     (simp_all)
    ·try simp only [go_sem, n1, n2, n3, n4, z41, z42, gz43a] at z44
     all_goals
     obtain rfl := so_some h
     refine ⟨0, fun L hL => ?_⟩
     simp only [go_sem, ir3, E_laws_FnVolumes_l1, R_laws_FnVolumes_l1, ir3_b0, ir3_k0, ir3_o0, ir3_r0, z41, z42, lz42, xz42, gz43a, z44]
   ·try simp only [go_sem, n1, n2, n3, n4, z41, z42] at gz43a
    all_goals
    try simp only [go_sem, n1, n2, n3, n4, z41, z42, gz43a] at gz43b
    all_goals
    rcases it_some h with ⟨z44, h⟩ | ⟨z44, h⟩
    ·try simp only [go_sem, n1, n2, n3, n4, z41, z42, gz43a, gz43b] at z44
     all_goals
     (simp_all)
    ·try simp only [go_sem, n1, n2, n3, n4, z41, z42, gz43a, gz43b] at z44
     all_goals
     obtain rfl := so_some h
     refine ⟨0, fun L hL => ?_⟩
     simp only [go_sem, ir3, E_laws_FnVolumes_l1, R_laws_FnVolumes_l1, ir3_b0, ir3_k0, ir3_o0, ir3_r0, z41, z42, lz42, xz42, gz43a, gz43b, z44]
 ·try simp only [go_sem, n1, n2, n3, n4] at z41
  all_goals
  obtain rfl := so_some h
  refine ⟨0, fun L hL => ?_⟩
  simp only [go_sem, ir3, E_laws_FnVolumes_l1, R_laws_FnVolumes_l1, ir3_b0, ir3_k0, ir3_o0, ir3_r0, z41]

def E_laws_FnVolumes_l2 (x : Volume) (model : List Volume) (there : List Int) : Int → St
 | i => ⟨[.any, .any, .any, .ref 3200000 0 0, .any, .any, .own 3200032, .any, .any, .any, .any, .any, .any, .any, .any, .any, .any, .any, .any, .any, .any, .any, .any, .any, .any, .any, .any, .any, .any, .any, .any, .any, .any, .any, .any, .any, .any, .any, .any, .any, .own 3200064, .any, .int .i64 i], [], [(3200000, ⟨5, [Volume_av x]⟩), (3200032, ⟨5, List.map Volume_av model⟩), (3200064, ⟨1, List.map (AV.int .i64) there⟩)], true⟩
def R_laws_FnVolumes_l2 (x : Volume) (model : List Volume) (there : List Int) : (Unit ⊕ Bool) → Res
 | .inl y => (.exit 0, ⟨[.any, .any, .any, .any, .any, .any, .any, .any, .any, .any, .any, .any, .any, .any, .any, .any, .any, .any, .any, .any, .any, .any, .any, .any, .any, .any, .any, .any, .any, .any, .any, .any, .any, .any, .any, .any, .any, .any, .any, .any, .any, .any, .any], [], [], true⟩)
 | .inr y => (.ret, ⟨[.any, .bool y, .any, .any, .any, .any, .any, .any, .any, .any, .any, .any, .any, .any, .any, .any, .any, .any, .any, .any, .any, .any, .any, .any, .any, .any, .any, .any, .any, .any, .any, .any, .any, .any, .any, .any, .any, .any, .any, .any, .any, .any, .any], [], [], true⟩)
theorem laws_FnVolumes_l2_ex {x : Volume} {model : List Volume} {there : List Int} {sgm_ : Int} {rho_ : Unit ⊕ Bool} (h : whileE (laws_FnVolumes_l2 x model there) sgm_ = some rho_) : ∃ L0, ∀ L, L0 ≤ L → iter (exec (look t_laws_FnVolumes) L ir3_b0) ir3_k0 ir3_o0 ir3_r0 L (E_laws_FnVolumes_l2 x model there sgm_) = R_laws_FnVolumes_l2 x model there rho_ := by
 refine loop_ex (E := E_laws_FnVolumes_l2 x model there) (R := R_laws_FnVolumes_l2 x model there) (fun y => by first | (intro c; cases c) | (rcases y with y | y <;> (intro c; cases c)) | (rcases y with y | y | y <;> (intro c; cases c))) ?_ h
 clear h
 intro i o_ h
 dsimp only [laws_FnVolumes_l2] at h
 rcases it_some h with ⟨z49, h⟩ | ⟨z49, h⟩
 ·try simp only [go_sem, n1, n2, n3, n4] at z49
  all_goals
  obtain ⟨z50, h⟩ := ck_some h
  have lz50 := ix_lt z50
  have xz50 := getD_mapD (AV.int .i64) there lz50
  try simp only [go_sem] at lz50
  try simp only [go_sem] at xz50
  try simp only [go_sem, n1, n2, n3, n4, z49] at z50
  all_goals
  obtain ⟨z51, h⟩ := ck_some h
  rcases or_split z51 with ⟨gz51, z51⟩ | gz51
  ·try simp only [go_sem, n1, n2, n3, n4, z49, z50] at gz51
   all_goals
   have lz51 := ix_lt z51
   have xz51 := getD_mapD Volume_av model lz51
   try simp only [go_sem] at lz51
   try simp only [go_sem] at xz51
   try simp only [go_sem, n1, n2, n3, n4, z49, z50, gz51] at z51
   all_goals
   rcases it_some h with ⟨z52, h⟩ | ⟨z52, h⟩
   ·try simp only [go_sem, n1, n2, n3, n4, z49, z50, gz51, z51] at z52
    all_goals
    obtain rfl := so_some h
    refine ⟨0, fun L hL => ?_⟩
    simp only [go_sem, ir3, E_laws_FnVolumes_l2, R_laws_FnVolumes_l2, ir3_b0, ir3_k0, ir3_o0, ir3_r0, E_laws_FnVolumes_l1, R_laws_FnVolumes_l1, ir3_k0, ir3_o0, ir3_r0, z49, z50, lz50, xz50, gz51, z51, lz51, xz51, z52]
   ·try simp only [go_sem, n1, n2, n3, n4, z49, z50, gz51, z51] at z52
    all_goals
    obtain rfl := so_some h
    refine ⟨0, fun L hL => ?_⟩
    simp only [go_sem, ir3, E_laws_FnVolumes_l2, R_laws_FnVolumes_l2, ir3_b0, ir3_k0, ir3_o0, ir3_r0, E_laws_FnVolumes_l1, R_laws_FnVolumes_l1, ir3_k0, ir3_o0, ir3_r0, z49, z50, lz50, xz50, gz51, z51, lz51, xz51, z52]
  ·rcases and_f gz51 with gz51a | ⟨gz51a, gz51b⟩
   ·try simp only [go_sem, n1, n2, n3, n4, z49, z50] at gz51a
    all_goals
    rcases it_some h with ⟨z52, h⟩ | ⟨z52, h⟩
    ·try simp only [go_sem, n1, n2, n3, n4, z49, z50, gz51a] at z52
     all_goals
     (simp_all)
    ·try simp only [go_sem, n1, n2, n3, n4, z49, z50, gz51a] at z52
     all_goals
     obtain rfl := so_some h
     refine ⟨0, fun L hL => ?_⟩
     simp only [go_sem, ir3, E_laws_FnVolumes_l2, R_laws_FnVolumes_l2, ir3_b0, ir3_k0, ir3_o0, ir3_r0, E_laws_FnVolumes_l1, R_laws_FnVolumes_l1, ir3_k0, ir3_o0, ir3_r0, z49, z50, lz50, xz50, gz51a, z52]
   ·try simp only [go_sem, n1, n2, n3, n4, z49, z50] at gz51a
    all_goals
    try simp only [go_sem, n1, n2, n3, n4, z49, z50, gz51a] at gz51b
    all_goals
    rcases it_some h with ⟨z52, h⟩ | ⟨z52, h⟩
    ·try simp only [go_sem, n1, n2, n3, n4, z49, z50, gz51a, gz51b] at z52
     all_goals
     (simp_all)
    ·try simp only [go_sem, n1, n2, n3, n4, z49, z50, gz51a, gz51b] at z52
     all_goals
     obtain rfl := so_some h
     refine ⟨0, fun L hL => ?_⟩
     simp only [go_sem, ir3, E_laws_FnVolumes_l2, R_laws_FnVolumes_l2, ir3_b0, ir3_k0, ir3_o0, ir3_r0, E_laws_FnVolumes_l1, R_laws_FnVolumes_l1, ir3_k0, ir3_o0, ir3_r0, z49, z50, lz50, xz50, gz51a, gz51b, z52]
 ·try simp only [go_sem, n1, n2, n3, n4] at z49
  all_goals
  obtain rfl := so_some h
  refine ⟨0, fun L hL => ?_⟩
  simp only [go_sem, ir3, E_laws_FnVolumes_l2, R_laws_FnVolumes_l2, ir3_b0, ir3_k0, ir3_o0, ir3_r0, E_laws_FnVolumes_l1, R_laws_FnVolumes_l1, ir3_k0, ir3_o0, ir3_r0, z49]

set_option maxHeartbeats 8000000 in
theorem Fs_laws_FnVolumes {code : List UInt8} {y_ : Bool} (h : laws_FnVolumes code = some y_) : c_laws_FnVolumes.F [.sl 1 (List.map byteAV code)] = ⟨true, .bool y_, [.any]⟩ := by
 refine mkF_E rfl ?_
 dsimp only [laws_FnVolumes] at h
 obtain ⟨y_1, z1, h⟩ := bd_some h
 have fz1 := Fs_0 z1
 try simp only [go_sem] at fz1
 rcases it_some h with ⟨z2, h⟩ | ⟨z2, h⟩
 ·try simp only [go_sem, n1, n2, n3, n4] at z2
  all_goals
  obtain rfl := so_some h
  refine ⟨0, fun L hL => ?_⟩
  simp only [go_sem, ir3, E_laws_FnVolumes_l1, R_laws_FnVolumes_l1, ir3_k0, ir3_o0, ir3_r0, E_laws_FnVolumes_l2, R_laws_FnVolumes_l2, ir3_k0, ir3_o0, ir3_r0, fz1, z2]
 ·try simp only [go_sem, n1, n2, n3, n4] at z2
  all_goals
  obtain ⟨y_3, z3, h⟩ := bd_some h
  have fz3 := Fs_12 z3
  try simp only [go_sem, z2] at fz3
  obtain ⟨y_4, z4, h⟩ := bd_some h
  have fz4 := Fs_27 z4
  try simp only [go_sem, z2] at fz4
  obtain ⟨y_5, z5, h⟩ := bd_some h
  have fz5 := Fs_36 z5
  try simp only [go_sem, z2] at fz5
  obtain ⟨y_6, z6, h⟩ := bd_some h
  have fz6 := Fs_37 z6
  try simp only [go_sem, z2] at fz6
  obtain ⟨y_7, z7, h⟩ := bd_some h
  have fz7 := Fs_39 z7
  try simp only [go_sem, z2] at fz7
  obtain ⟨y_8, z8, h⟩ := bd_some h
  have fz8 := Fs_41 z8
  try simp only [go_sem, z2] at fz8
  obtain ⟨y_9, z9, h⟩ := bd_some h
  have fz9 := Fs_42 z9
  try simp only [go_sem, z2] at fz9
  obtain ⟨y_10, z10, h⟩ := bd_some h
  have fz10 := Fs_43 z10
  try simp only [go_sem, z2] at fz10
  obtain ⟨y_11, z11, h⟩ := bd_some h
  have fz11 := Fs_44 z11
  try simp only [go_sem, z2] at fz11
  obtain ⟨y_12, z12, h⟩ := bd_some h
  have fz12 := Fs_47 z12
  try simp only [go_sem, z2] at fz12
  obtain ⟨y_13, z13, h⟩ := bd_some h
  have fz13 := Fs_48 z13
  try simp only [go_sem, z2] at fz13
  obtain ⟨y_14, z14, h⟩ := bd_some h
  have fz14 := Fs_49 z14
  try simp only [go_sem, z2] at fz14
  obtain ⟨y_15, z15, h⟩ := bd_some h
  have fz15 := Fs_52 z15
  try simp only [go_sem, z2] at fz15
  obtain ⟨y_16, z16, h⟩ := bd_some h
  have fz16 := Fs_54 z16
  try simp only [go_sem, z2] at fz16
  obtain ⟨y_17, z17, h⟩ := bd_some h
  have fz17 := Fs_64 z17
  try simp only [go_sem, z2] at fz17
  obtain ⟨y_18, z18, h⟩ := bd_some h
  have fz18 := Fs_76 z18
  try simp only [go_sem, z2] at fz18
  obtain ⟨y_19, z19, h⟩ := bd_some h
  have fz19 := Fs_81 z19
  try simp only [go_sem, z2] at fz19
  obtain ⟨y_20, z20, h⟩ := bd_some h
  have fz20 := Fs_82 z20
  try simp only [go_sem, z2] at fz20
  obtain ⟨y_21, z21, h⟩ := bd_some h
  have fz21 := Fs_83 z21
  try simp only [go_sem, z2] at fz21
  obtain ⟨z22, h⟩ := ck_some h
  rcases or_split z22 with ⟨gz22, z22⟩ | gz22
  ·try simp only [go_sem, n1, n2, n3, n4, z2] at gz22
   all_goals
   obtain ⟨y_22, hz22⟩ := Option.isSome_iff_exists.1 z22
   have fz22 := Fs_84 hz22
   try simp only [go_sem, n1, n2, n3, n4, z2, gz22] at hz22
   all_goals
   try simp only [go_sem, z2, gz22] at fz22
   obtain ⟨z23, h⟩ := ck_some h
   rcases or_split z23 with ⟨gz23, z23⟩ | gz23
   ·try simp only [go_sem, n1, n2, n3, n4, z2, gz22, hz22] at gz23
    all_goals
    obtain ⟨y_23, hz23⟩ := Option.isSome_iff_exists.1 z23
    have fz23 := Fs_84 hz23
    try simp only [go_sem, n1, n2, n3, n4, z2, gz22, hz22, gz23] at hz23
    all_goals
    try simp only [go_sem, z2, gz22, hz22, gz23] at fz23
    obtain ⟨z24, h⟩ := ck_some h
    rcases or_split z24 with ⟨gz24, z24⟩ | gz24
    ·try simp only [go_sem, n1, n2, n3, n4, z2, gz22, hz22, gz23, hz23] at gz24
     all_goals
     obtain ⟨y_24, hz24⟩ := Option.isSome_iff_exists.1 z24
     have fz24 := Fs_84 hz24
     try simp only [go_sem, n1, n2, n3, n4, z2, gz22, hz22, gz23, hz23, gz24] at hz24
     all_goals
     try simp only [go_sem, z2, gz22, hz22, gz23, hz23, gz24] at fz24
     obtain ⟨z25, h⟩ := ck_some h
     rcases or_split z25 with ⟨gz25, z25⟩ | gz25
     ·try simp only [go_sem, n1, n2, n3, n4, z2, gz22, hz22, gz23, hz23, gz24, hz24] at gz25
      all_goals
      obtain ⟨y_25, hz25⟩ := Option.isSome_iff_exists.1 z25
      have fz25 := Fs_85 hz25
      try simp only [go_sem, n1, n2, n3, n4, z2, gz22, hz22, gz23, hz23, gz24, hz24, gz25] at hz25
      all_goals
      try simp only [go_sem, z2, gz22, hz22, gz23, hz23, gz24, hz24, gz25] at fz25
      obtain ⟨z26, h⟩ := ck_some h
      rcases or_split z26 with ⟨gz26, z26⟩ | gz26
      ·try simp only [go_sem, n1, n2, n3, n4, z2, gz22, hz22, gz23, hz23, gz24, hz24, gz25, hz25] at gz26
       all_goals
       obtain ⟨y_26, hz26⟩ := Option.isSome_iff_exists.1 z26
       have fz26 := Fs_85 hz26
       try simp only [go_sem, n1, n2, n3, n4, z2, gz22, hz22, gz23, hz23, gz24, hz24, gz25, hz25, gz26] at hz26
       all_goals
       try simp only [go_sem, z2, gz22, hz22, gz23, hz23, gz24, hz24, gz25, hz25, gz26] at fz26
       obtain ⟨z27, h⟩ := ck_some h
       rcases or_split z27 with ⟨gz27, z27⟩ | gz27
       ·try simp only [go_sem, n1, n2, n3, n4, z2, gz22, hz22, gz23, hz23, gz24, hz24, gz25, hz25, gz26, hz26] at gz27
        all_goals
        obtain ⟨y_27, hz27⟩ := Option.isSome_iff_exists.1 z27
        have fz27 := Fs_87 hz27
        try simp only [go_sem, n1, n2, n3, n4, z2, gz22, hz22, gz23, hz23, gz24, hz24, gz25, hz25, gz26, hz26, gz27] at hz27
        all_goals
        try simp only [go_sem, z2, gz22, hz22, gz23, hz23, gz24, hz24, gz25, hz25, gz26, hz26, gz27] at fz27
        obtain ⟨z28, h⟩ := ck_some h
        rcases or_split z28 with ⟨gz28, z28⟩ | gz28
        ·try simp only [go_sem, n1, n2, n3, n4, z2, gz22, hz22, gz23, hz23, gz24, hz24, gz25, hz25, gz26, hz26, gz27, hz27] at gz28
         all_goals
         obtain ⟨y_28, hz28⟩ := Option.isSome_iff_exists.1 z28
         have fz28 := Fs_84 hz28
         try simp only [go_sem, n1, n2, n3, n4, z2, gz22, hz22, gz23, hz23, gz24, hz24, gz25, hz25, gz26, hz26, gz27, hz27, gz28] at hz28
         all_goals
         try simp only [go_sem, z2, gz22, hz22, gz23, hz23, gz24, hz24, gz25, hz25, gz26, hz26, gz27, hz27, gz28] at fz28
         obtain ⟨z29, h⟩ := ck_some h
         rcases or_split z29 with ⟨gz29, z29⟩ | gz29
         ·try simp only [go_sem, n1, n2, n3, n4, z2, gz22, hz22, gz23, hz23, gz24, hz24, gz25, hz25, gz26, hz26, gz27, hz27, gz28, hz28] at gz29
          all_goals
          obtain ⟨y_29, hz29⟩ := Option.isSome_iff_exists.1 z29
          have fz29 := Fs_19 hz29
          try simp only [go_sem, n1, n2, n3, n4, z2, gz22, hz22, gz23, hz23, gz24, hz24, gz25, hz25, gz26, hz26, gz27, hz27, gz28, hz28, gz29] at hz29
          all_goals
          try simp only [go_sem, z2, gz22, hz22, gz23, hz23, gz24, hz24, gz25, hz25, gz26, hz26, gz27, hz27, gz28, hz28, gz29] at fz29
          obtain ⟨z30, h⟩ := ck_some h
          rcases or_split z30 with ⟨gz30, z30⟩ | gz30
          ·try simp only [go_sem, n1, n2, n3, n4, z2, gz22, hz22, gz23, hz23, gz24, hz24, gz25, hz25, gz26, hz26, gz27, hz27, gz28, hz28, gz29, hz29] at gz30
           all_goals
           obtain ⟨y_30, hz30⟩ := Option.isSome_iff_exists.1 z30
           have fz30 := Fs_88 hz30
           try simp only [go_sem, n1, n2, n3, n4, z2, gz22, hz22, gz23, hz23, gz24, hz24, gz25, hz25, gz26, hz26, gz27, hz27, gz28, hz28, gz29, hz29, gz30] at hz30
           all_goals
           try simp only [go_sem, z2, gz22, hz22, gz23, hz23, gz24, hz24, gz25, hz25, gz26, hz26, gz27, hz27, gz28, hz28, gz29, hz29, gz30] at fz30
           obtain ⟨z31, h⟩ := ck_some h
           rcases or_split z31 with ⟨gz31, z31⟩ | gz31
           ·try simp only [go_sem, n1, n2, n3, n4, z2, gz22, hz22, gz23, hz23, gz24, hz24, gz25, hz25, gz26, hz26, gz27, hz27, gz28, hz28, gz29, hz29, gz30, hz30] at gz31
            all_goals
            obtain ⟨y_31, hz31⟩ := Option.isSome_iff_exists.1 z31
            have fz31 := Fs_93 hz31
            try simp only [go_sem, n1, n2, n3, n4, z2, gz22, hz22, gz23, hz23, gz24, hz24, gz25, hz25, gz26, hz26, gz27, hz27, gz28, hz28, gz29, hz29, gz30, hz30, gz31] at hz31
            all_goals
            try simp only [go_sem, z2, gz22, hz22, gz23, hz23, gz24, hz24, gz25, hz25, gz26, hz26, gz27, hz27, gz28, hz28, gz29, hz29, gz30, hz30, gz31] at fz31
            obtain ⟨z32, h⟩ := ck_some h
            rcases or_split z32 with ⟨gz32, z32⟩ | gz32
            ·try simp only [go_sem, n1, n2, n3, n4, z2, gz22, hz22, gz23, hz23, gz24, hz24, gz25, hz25, gz26, hz26, gz27, hz27, gz28, hz28, gz29, hz29, gz30, hz30, gz31, hz31] at gz32
             all_goals
             obtain ⟨y_32, hz32⟩ := Option.isSome_iff_exists.1 z32
             have fz32 := Fs_95 hz32
             try simp only [go_sem, n1, n2, n3, n4, z2, gz22, hz22, gz23, hz23, gz24, hz24, gz25, hz25, gz26, hz26, gz27, hz27, gz28, hz28, gz29, hz29, gz30, hz30, gz31, hz31, gz32] at hz32
             all_goals
             try simp only [go_sem, z2, gz22, hz22, gz23, hz23, gz24, hz24, gz25, hz25, gz26, hz26, gz27, hz27, gz28, hz28, gz29, hz29, gz30, hz30, gz31, hz31, gz32] at fz32
             rcases it_some h with ⟨z33, h⟩ | ⟨z33, h⟩
             ·try simp only [go_sem, n1, n2, n3, n4, z2, gz22, hz22, gz23, hz23, gz24, hz24, gz25, hz25, gz26, hz26, gz27, hz27, gz28, hz28, gz29, hz29, gz30, hz30, gz31, hz31, gz32, hz32] at z33
              all_goals
              obtain rfl := so_some h
              refine ⟨0, fun L hL => ?_⟩
              simp only [go_sem, ir3, E_laws_FnVolumes_l1, R_laws_FnVolumes_l1, ir3_k0, ir3_o0, ir3_r0, E_laws_FnVolumes_l2, R_laws_FnVolumes_l2, ir3_k0, ir3_o0, ir3_r0, fz1, z2, fz3, fz4, fz5, fz6, fz7, fz8, fz9, fz10, fz11, fz12, fz13, fz14, fz15, fz16, fz17, fz18, fz19, fz20, fz21, gz22, hz22, fz22, gz23, hz23, fz23, gz24, hz24, fz24, gz25, hz25, fz25, gz26, hz26, fz26, gz27, hz27, fz27, gz28, hz28, fz28, gz29, hz29, fz29, gz30, hz30, fz30, gz31, hz31, fz31, gz32, hz32, fz32, z33]
             ·try simp only [go_sem, n1, n2, n3, n4, z2, gz22, hz22, gz23, hz23, gz24, hz24, gz25, hz25, gz26, hz26, gz27, hz27, gz28, hz28, gz29, hz29, gz30, hz30, gz31, hz31, gz32, hz32] at z33
              all_goals
              rcases it_some h with ⟨z34, h⟩ | ⟨z34, h⟩
              ·try simp only [go_sem, n1, n2, n3, n4, z2, gz22, hz22, gz23, hz23, gz24, hz24, gz25, hz25, gz26, hz26, gz27, hz27, gz28, hz28, gz29, hz29, gz30, hz30, gz31, hz31, gz32, hz32, z33] at z34
               all_goals
               obtain ⟨y_35, z35, h⟩ := bd_some h
               have fz35 := Fs_42 z35
               try simp only [go_sem, z2, gz22, hz22, gz23, hz23, gz24, hz24, gz25, hz25, gz26, hz26, gz27, hz27, gz28, hz28, gz29, hz29, gz30, hz30, gz31, hz31, gz32, hz32, z33, z34] at fz35
               obtain ⟨z36, h⟩ := ck_some h
               rcases or_split z36 with ⟨gz36, z36⟩ | gz36
               ·try simp only [go_sem, n1, n2, n3, n4, z2, gz22, hz22, gz23, hz23, gz24, hz24, gz25, hz25, gz26, hz26, gz27, hz27, gz28, hz28, gz29, hz29, gz30, hz30, gz31, hz31, gz32, hz32, z33, z34] at gz36
                all_goals
                obtain ⟨y_36, hz36⟩ := Option.isSome_iff_exists.1 z36
                have fz36 := Fs_84 hz36
                try simp only [go_sem, n1, n2, n3, n4, z2, gz22, hz22, gz23, hz23, gz24, hz24, gz25, hz25, gz26, hz26, gz27, hz27, gz28, hz28, gz29, hz29, gz30, hz30, gz31, hz31, gz32, hz32, z33, z34, gz36] at hz36
                all_goals
                try simp only [go_sem, z2, gz22, hz22, gz23, hz23, gz24, hz24, gz25, hz25, gz26, hz26, gz27, hz27, gz28, hz28, gz29, hz29, gz30, hz30, gz31, hz31, gz32, hz32, z33, z34, gz36] at fz36
                rcases it_some h with ⟨z37, h⟩ | ⟨z37, h⟩
                ·try simp only [go_sem, n1, n2, n3, n4, z2, gz22, hz22, gz23, hz23, gz24, hz24, gz25, hz25, gz26, hz26, gz27, hz27, gz28, hz28, gz29, hz29, gz30, hz30, gz31, hz31, gz32, hz32, z33, z34, gz36, hz36] at z37
                 all_goals
                 obtain rfl := so_some h
                 refine ⟨0, fun L hL => ?_⟩
                 simp only [go_sem, ir3, E_laws_FnVolumes_l1, R_laws_FnVolumes_l1, ir3_k0, ir3_o0, ir3_r0, E_laws_FnVolumes_l2, R_laws_FnVolumes_l2, ir3_k0, ir3_o0, ir3_r0, fz1, z2, fz3, fz4, fz5, fz6, fz7, fz8, fz9, fz10, fz11, fz12, fz13, fz14, fz15, fz16, fz17, fz18, fz19, fz20, fz21, gz22, hz22, fz22, gz23, hz23, fz23, gz24, hz24, fz24, gz25, hz25, fz25, gz26, hz26, fz26, gz27, hz27, fz27, gz28, hz28, fz28, gz29, hz29, fz29, gz30, hz30, fz30, gz31, hz31, fz31, gz32, hz32, fz32, z33, z34, fz35, gz36, hz36, fz36, z37]
                ·try simp only [go_sem, n1, n2, n3, n4, z2, gz22, hz22, gz23, hz23, gz24, hz24, gz25, hz25, gz26, hz26, gz27, hz27, gz28, hz28, gz29, hz29, gz30, hz30, gz31, hz31, gz32, hz32, z33, z34, gz36, hz36] at z37
                 all_goals
                 rcases it_some h with ⟨z38, h⟩ | ⟨z38, h⟩
                 ·try simp only [go_sem, n1, n2, n3, n4, z2, gz22, hz22, gz23, hz23, gz24, hz24, gz25, hz25, gz26, hz26, gz27, hz27, gz28, hz28, gz29, hz29, gz30, hz30, gz31, hz31, gz32, hz32, z33, z34, gz36, hz36, z37] at z38
                  all_goals
                  obtain rfl := so_some h
                  refine ⟨0, fun L hL => ?_⟩
                  simp only [go_sem, ir3, E_laws_FnVolumes_l1, R_laws_FnVolumes_l1, ir3_k0, ir3_o0, ir3_r0, E_laws_FnVolumes_l2, R_laws_FnVolumes_l2, ir3_k0, ir3_o0, ir3_r0, fz1, z2, fz3, fz4, fz5, fz6, fz7, fz8, fz9, fz10, fz11, fz12, fz13, fz14, fz15, fz16, fz17, fz18, fz19, fz20, fz21, gz22, hz22, fz22, gz23, hz23, fz23, gz24, hz24, fz24, gz25, hz25, fz25, gz26, hz26, fz26, gz27, hz27, fz27, gz28, hz28, fz28, gz29, hz29, fz29, gz30, hz30, fz30, gz31, hz31, fz31, gz32, hz32, fz32, z33, z34, fz35, gz36, hz36, fz36, z37, z38]
                 ·try simp only [go_sem, n1, n2, n3, n4, z2, gz22, hz22, gz23, hz23, gz24, hz24, gz25, hz25, gz26, hz26, gz27, hz27, gz28, hz28, gz29, hz29, gz30, hz30, gz31, hz31, gz32, hz32, z33, z34, gz36, hz36, z37] at z38
                  all_goals
                  obtain ⟨y_39, z39, h⟩ := bd_some h
                  have fz39 := Fs_47 z39
                  try simp only [go_sem, z2, gz22, hz22, gz23, hz23, gz24, hz24, gz25, hz25, gz26, hz26, gz27, hz27, gz28, hz28, gz29, hz29, gz30, hz30, gz31, hz31, gz32, hz32, z33, z34, gz36, hz36, z37, z38] at fz39
                  rcases it_some h with ⟨z40, h⟩ | ⟨z40, h⟩
                  ·try simp only [go_sem, n1, n2, n3, n4, z2, gz22, hz22, gz23, hz23, gz24, hz24, gz25, hz25, gz26, hz26, gz27, hz27, gz28, hz28, gz29, hz29, gz30, hz30, gz31, hz31, gz32, hz32, z33, z34, gz36, hz36, z37, z38] at z40
                   all_goals
                   obtain rfl := so_some h
                   refine ⟨0, fun L hL => ?_⟩
                   simp only [go_sem, ir3, E_laws_FnVolumes_l1, R_laws_FnVolumes_l1, ir3_k0, ir3_o0, ir3_r0, E_laws_FnVolumes_l2, R_laws_FnVolumes_l2, ir3_k0, ir3_o0, ir3_r0, fz1, z2, fz3, fz4, fz5, fz6, fz7, fz8, fz9, fz10, fz11, fz12, fz13, fz14, fz15, fz16, fz17, fz18, fz19, fz20, fz21, gz22, hz22, fz22, gz23, hz23, fz23, gz24, hz24, fz24, gz25, hz25, fz25, gz26, hz26, fz26, gz27, hz27, fz27, gz28, hz28, fz28, gz29, hz29, fz29, gz30, hz30, fz30, gz31, hz31, fz31, gz32, hz32, fz32, z33, z34, fz35, gz36, hz36, fz36, z37, z38, fz39, z40]
                  ·try simp only [go_sem, n1, n2, n3, n4, z2, gz22, hz22, gz23, hz23, gz24, hz24, gz25, hz25, gz26, hz26, gz27, hz27, gz28, hz28, gz29, hz29, gz30, hz30, gz31, hz31, gz32, hz32, z33, z34, gz36, hz36, z37, z38] at z40
                   all_goals
                   obtain ⟨y_45, z45, h⟩ := bd_some h
                   obtain ⟨Lz45, ez45⟩ := laws_FnVolumes_l1_ex z45
                   rcases y_45 with y_45a | y_45b
                   ·dsimp only at h
                    obtain rfl := so_some h
                    refine ⟨Lz45, fun L hL => ?_⟩
                    have ez45 := ez45 L (by omega)
                    try simp only [go_sem, E_laws_FnVolumes_l1, R_laws_FnVolumes_l1, ir3_k0, ir3_o0, ir3_r0, E_laws_FnVolumes_l2, R_laws_FnVolumes_l2, ir3_k0, ir3_o0, ir3_r0, z2, gz22, hz22, gz23, hz23, gz24, hz24, gz25, hz25, gz26, hz26, gz27, hz27, gz28, hz28, gz29, hz29, gz30, hz30, gz31, hz31, gz32, hz32, z33, z34, gz36, hz36, z37, z38, z40] at ez45
                    simp only [go_sem, ir3, E_laws_FnVolumes_l1, R_laws_FnVolumes_l1, ir3_k0, ir3_o0, ir3_r0, E_laws_FnVolumes_l2, R_laws_FnVolumes_l2, ir3_k0, ir3_o0, ir3_r0, fz1, z2, fz3, fz4, fz5, fz6, fz7, fz8, fz9, fz10, fz11, fz12, fz13, fz14, fz15, fz16, fz17, fz18, fz19, fz20, fz21, gz22, hz22, fz22, gz23, hz23, fz23, gz24, hz24, fz24, gz25, hz25, fz25, gz26, hz26, fz26, gz27, hz27, fz27, gz28, hz28, fz28, gz29, hz29, fz29, gz30, hz30, fz30, gz31, hz31, fz31, gz32, hz32, fz32, z33, z34, fz35, gz36, hz36, fz36, z37, z38, fz39, z40, ez45]
                   ·dsimp only at h
                    obtain rfl := so_some h
                    refine ⟨Lz45, fun L hL => ?_⟩
                    have ez45 := ez45 L (by omega)
                    try simp only [go_sem, E_laws_FnVolumes_l1, R_laws_FnVolumes_l1, ir3_k0, ir3_o0, ir3_r0, E_laws_FnVolumes_l2, R_laws_FnVolumes_l2, ir3_k0, ir3_o0, ir3_r0, z2, gz22, hz22, gz23, hz23, gz24, hz24, gz25, hz25, gz26, hz26, gz27, hz27, gz28, hz28, gz29, hz29, gz30, hz30, gz31, hz31, gz32, hz32, z33, z34, gz36, hz36, z37, z38, z40] at ez45
                    simp only [go_sem, ir3, E_laws_FnVolumes_l1, R_laws_FnVolumes_l1, ir3_k0, ir3_o0, ir3_r0, E_laws_FnVolumes_l2, R_laws_FnVolumes_l2, ir3_k0, ir3_o0, ir3_r0, fz1, z2, fz3, fz4, fz5, fz6, fz7, fz8, fz9, fz10, fz11, fz12, fz13, fz14, fz15, fz16, fz17, fz18, fz19, fz20, fz21, gz22, hz22, fz22, gz23, hz23, fz23, gz24, hz24, fz24, gz25, hz25, fz25, gz26, hz26, fz26, gz27, hz27, fz27, gz28, hz28, fz28, gz29, hz29, fz29, gz30, hz30, fz30, gz31, hz31, fz31, gz32, hz32, fz32, z33, z34, fz35, gz36, hz36, fz36, z37, z38, fz39, z40, ez45]
               ·have gz36n := no_f gz36
                have gz36nn := no_t gz36n
                try simp only [go_sem, n1, n2, n3, n4, z2, gz22, hz22, gz23, hz23, gz24, hz24, gz25, hz25, gz26, hz26, gz27, hz27, gz28, hz28, gz29, hz29, gz30, hz30, gz31, hz31, gz32, hz32, z33, z34] at gz36nn
                all_goals
                rcases it_some h with ⟨z37, h⟩ | ⟨z37, h⟩
                ·try simp only [go_sem, n1, n2, n3, n4, z2, gz22, hz22, gz23, hz23, gz24, hz24, gz25, hz25, gz26, hz26, gz27, hz27, gz28, hz28, gz29, hz29, gz30, hz30, gz31, hz31, gz32, hz32, z33, z34, gz36nn] at z37
                 all_goals
                 obtain rfl := so_some h
                 refine ⟨0, fun L hL => ?_⟩
                 simp only [go_sem, ir3, E_laws_FnVolumes_l1, R_laws_FnVolumes_l1, ir3_k0, ir3_o0, ir3_r0, E_laws_FnVolumes_l2, R_laws_FnVolumes_l2, ir3_k0, ir3_o0, ir3_r0, fz1, z2, fz3, fz4, fz5, fz6, fz7, fz8, fz9, fz10, fz11, fz12, fz13, fz14, fz15, fz16, fz17, fz18, fz19, fz20, fz21, gz22, hz22, fz22, gz23, hz23, fz23, gz24, hz24, fz24, gz25, hz25, fz25, gz26, hz26, fz26, gz27, hz27, fz27, gz28, hz28, fz28, gz29, hz29, fz29, gz30, hz30, fz30, gz31, hz31, fz31, gz32, hz32, fz32, z33, z34, fz35, gz36nn, z37]
                ·try simp only [go_sem, n1, n2, n3, n4, z2, gz22, hz22, gz23, hz23, gz24, hz24, gz25, hz25, gz26, hz26, gz27, hz27, gz28, hz28, gz29, hz29, gz30, hz30, gz31, hz31, gz32, hz32, z33, z34, gz36nn] at z37
                 all_goals
                 (simp_all)
              ·try simp only [go_sem, n1, n2, n3, n4, z2, gz22, hz22, gz23, hz23, gz24, hz24, gz25, hz25, gz26, hz26, gz27, hz27, gz28, hz28, gz29, hz29, gz30, hz30, gz31, hz31, gz32, hz32, z33] at z34
               all_goals
               rcases it_some h with ⟨z46, h⟩ | ⟨z46, h⟩
               ·try simp only [go_sem, n1, n2, n3, n4, z2, gz22, hz22, gz23, hz23, gz24, hz24, gz25, hz25, gz26, hz26, gz27, hz27, gz28, hz28, gz29, hz29, gz30, hz30, gz31, hz31, gz32, hz32, z33, z34] at z46
                all_goals
                obtain rfl := so_some h
                refine ⟨0, fun L hL => ?_⟩
                simp only [go_sem, ir3, E_laws_FnVolumes_l1, R_laws_FnVolumes_l1, ir3_k0, ir3_o0, ir3_r0, E_laws_FnVolumes_l2, R_laws_FnVolumes_l2, ir3_k0, ir3_o0, ir3_r0, fz1, z2, fz3, fz4, fz5, fz6, fz7, fz8, fz9, fz10, fz11, fz12, fz13, fz14, fz15, fz16, fz17, fz18, fz19, fz20, fz21, gz22, hz22, fz22, gz23, hz23, fz23, gz24, hz24, fz24, gz25, hz25, fz25, gz26, hz26, fz26, gz27, hz27, fz27, gz28, hz28, fz28, gz29, hz29, fz29, gz30, hz30, fz30, gz31, hz31, fz31, gz32, hz32, fz32, z33, z34, z46]
               ·try simp only [go_sem, n1, n2, n3, n4, z2, gz22, hz22, gz23, hz23, gz24, hz24, gz25, hz25, gz26, hz26, gz27, hz27, gz28, hz28, gz29, hz29, gz30, hz30, gz31, hz31, gz32, hz32, z33, z34] at z46
                all_goals
                obtain ⟨y_47, z47, h⟩ := bd_some h
                have fz47 := Fs_47 z47
                try simp only [go_sem, z2, gz22, hz22, gz23, hz23, gz24, hz24, gz25, hz25, gz26, hz26, gz27, hz27, gz28, hz28, gz29, hz29, gz30, hz30, gz31, hz31, gz32, hz32, z33, z34, z46] at fz47
                rcases it_some h with ⟨z48, h⟩ | ⟨z48, h⟩
                ·try simp only [go_sem, n1, n2, n3, n4, z2, gz22, hz22, gz23, hz23, gz24, hz24, gz25, hz25, gz26, hz26, gz27, hz27, gz28, hz28, gz29, hz29, gz30, hz30, gz31, hz31, gz32, hz32, z33, z34, z46] at z48
                 all_goals
                 obtain rfl := so_some h
                 refine ⟨0, fun L hL => ?_⟩
                 simp only [go_sem, ir3, E_laws_FnVolumes_l1, R_laws_FnVolumes_l1, ir3_k0, ir3_o0, ir3_r0, E_laws_FnVolumes_l2, R_laws_FnVolumes_l2, ir3_k0, ir3_o0, ir3_r0, fz1, z2, fz3, fz4, fz5, fz6, fz7, fz8, fz9, fz10, fz11, fz12, fz13, fz14, fz15, fz16, fz17, fz18, fz19, fz20, fz21, gz22, hz22, fz22, gz23, hz23, fz23, gz24, hz24, fz24, gz25, hz25, fz25, gz26, hz26, fz26, gz27, hz27, fz27, gz28, hz28, fz28, gz29, hz29, fz29, gz30, hz30, fz30, gz31, hz31, fz31, gz32, hz32, fz32, z33, z34, z46, fz47, z48]
                ·try simp only [go_sem, n1, n2, n3, n4, z2, gz22, hz22, gz23, hz23, gz24, hz24, gz25, hz25, gz26, hz26, gz27, hz27, gz28, hz28, gz29, hz29, gz30, hz30, gz31, hz31, gz32, hz32, z33, z34, z46] at z48
                 all_goals
                 obtain ⟨y_53, z53, h⟩ := bd_some h
                 obtain ⟨Lz53, ez53⟩ := laws_FnVolumes_l2_ex z53
                 rcases y_53 with y_53a | y_53b
                 ·dsimp only at h
                  obtain rfl := so_some h
                  refine ⟨Lz53, fun L hL => ?_⟩
                  have ez53 := ez53 L (by omega)
                  try simp only [go_sem, E_laws_FnVolumes_l1, R_laws_FnVolumes_l1, ir3_k0, ir3_o0, ir3_r0, E_laws_FnVolumes_l2, R_laws_FnVolumes_l2, ir3_k0, ir3_o0, ir3_r0, z2, gz22, hz22, gz23, hz23, gz24, hz24, gz25, hz25, gz26, hz26, gz27, hz27, gz28, hz28, gz29, hz29, gz30, hz30, gz31, hz31, gz32, hz32, z33, z34, z46, z48] at ez53
                  simp only [go_sem, ir3, E_laws_FnVolumes_l1, R_laws_FnVolumes_l1, ir3_k0, ir3_o0, ir3_r0, E_laws_FnVolumes_l2, R_laws_FnVolumes_l2, ir3_k0, ir3_o0, ir3_r0, fz1, z2, fz3, fz4, fz5, fz6, fz7, fz8, fz9, fz10, fz11, fz12, fz13, fz14, fz15, fz16, fz17, fz18, fz19, fz20, fz21, gz22, hz22, fz22, gz23, hz23, fz23, gz24, hz24, fz24, gz25, hz25, fz25, gz26, hz26, fz26, gz27, hz27, fz27, gz28, hz28, fz28, gz29, hz29, fz29, gz30, hz30, fz30, gz31, hz31, fz31, gz32, hz32, fz32, z33, z34, z46, fz47, z48, ez53]
                 ·dsimp only at h
                  obtain rfl := so_some h
                  refine ⟨Lz53, fun L hL => ?_⟩
                  have ez53 := ez53 L (by omega)
                  try simp only [go_sem, E_laws_FnVolumes_l1, R_laws_FnVolumes_l1, ir3_k0, ir3_o0, ir3_r0, E_laws_FnVolumes_l2, R_laws_FnVolumes_l2, ir3_k0, ir3_o0, ir3_r0, z2, gz22, hz22, gz23, hz23, gz24, hz24, gz25, hz25, gz26, hz26, gz27, hz27, gz28, hz28, gz29, hz29, gz30, hz30, gz31, hz31, gz32, hz32, z33, z34, z46, z48] at ez53
                  simp only [go_sem, ir3, E_laws_FnVolumes_l1, R_laws_FnVolumes_l1, ir3_k0, ir3_o0, ir3_r0, E_laws_FnVolumes_l2, R_laws_FnVolumes_l2, ir3_k0, ir3_o0, ir3_r0, fz1, z2, fz3, fz4, fz5, fz6, fz7, fz8, fz9, fz10, fz11, fz12, fz13, fz14, fz15, fz16, fz17, fz18, fz19, fz20, fz21, gz22, hz22, fz22, gz23, hz23, fz23, gz24, hz24, fz24, gz25, hz25, fz25, gz26, hz26, fz26, gz27, hz27, fz27, gz28, hz28, fz28, gz29, hz29, fz29, gz30, hz30, fz30, gz31, hz31, fz31, gz32, hz32, fz32, z33, z34, z46, fz47, z48, ez53]
            ·have gz32n := no_f gz32
             try simp only [go_sem, n1, n2, n3, n4, z2, gz22, hz22, gz23, hz23, gz24, hz24, gz25, hz25, gz26, hz26, gz27, hz27, gz28, hz28, gz29, hz29, gz30, hz30, gz31, hz31] at gz32n
             all_goals
             rcases it_some h with ⟨z33, h⟩ | ⟨z33, h⟩
             ·try simp only [go_sem, n1, n2, n3, n4, z2, gz22, hz22, gz23, hz23, gz24, hz24, gz25, hz25, gz26, hz26, gz27, hz27, gz28, hz28, gz29, hz29, gz30, hz30, gz31, hz31, gz32n] at z33
              all_goals
              obtain rfl := so_some h
              refine ⟨0, fun L hL => ?_⟩
              simp only [go_sem, ir3, E_laws_FnVolumes_l1, R_laws_FnVolumes_l1, ir3_k0, ir3_o0, ir3_r0, E_laws_FnVolumes_l2, R_laws_FnVolumes_l2, ir3_k0, ir3_o0, ir3_r0, fz1, z2, fz3, fz4, fz5, fz6, fz7, fz8, fz9, fz10, fz11, fz12, fz13, fz14, fz15, fz16, fz17, fz18, fz19, fz20, fz21, gz22, hz22, fz22, gz23, hz23, fz23, gz24, hz24, fz24, gz25, hz25, fz25, gz26, hz26, fz26, gz27, hz27, fz27, gz28, hz28, fz28, gz29, hz29, fz29, gz30, hz30, fz30, gz31, hz31, fz31, gz32n, z33]
             ·try simp only [go_sem, n1, n2, n3, n4, z2, gz22, hz22, gz23, hz23, gz24, hz24, gz25, hz25, gz26, hz26, gz27, hz27, gz28, hz28, gz29, hz29, gz30, hz30, gz31, hz31, gz32n] at z33
              all_goals
              (simp_all)
           ·have gz31n := no_f gz31
            try simp only [go_sem, n1, n2, n3, n4, z2, gz22, hz22, gz23, hz23, gz24, hz24, gz25, hz25, gz26, hz26, gz27, hz27, gz28, hz28, gz29, hz29, gz30, hz30] at gz31n
            all_goals
            obtain ⟨z32, h⟩ := ck_some h
            rcases it_some h with ⟨z33, h⟩ | ⟨z33, h⟩
            ·try simp only [go_sem, n1, n2, n3, n4, z2, gz22, hz22, gz23, hz23, gz24, hz24, gz25, hz25, gz26, hz26, gz27, hz27, gz28, hz28, gz29, hz29, gz30, hz30, gz31n] at z33
             all_goals
             obtain rfl := so_some h
             refine ⟨0, fun L hL => ?_⟩
             simp only [go_sem, ir3, E_laws_FnVolumes_l1, R_laws_FnVolumes_l1, ir3_k0, ir3_o0, ir3_r0, E_laws_FnVolumes_l2, R_laws_FnVolumes_l2, ir3_k0, ir3_o0, ir3_r0, fz1, z2, fz3, fz4, fz5, fz6, fz7, fz8, fz9, fz10, fz11, fz12, fz13, fz14, fz15, fz16, fz17, fz18, fz19, fz20, fz21, gz22, hz22, fz22, gz23, hz23, fz23, gz24, hz24, fz24, gz25, hz25, fz25, gz26, hz26, fz26, gz27, hz27, fz27, gz28, hz28, fz28, gz29, hz29, fz29, gz30, hz30, fz30, gz31n, z33]
            ·try simp only [go_sem, n1, n2, n3, n4, z2, gz22, hz22, gz23, hz23, gz24, hz24, gz25, hz25, gz26, hz26, gz27, hz27, gz28, hz28, gz29, hz29, gz30, hz30, gz31n] at z33
             all_goals
             (simp_all)
          ·have gz30n := no_f gz30
           try simp only [go_sem, n1, n2, n3, n4, z2, gz22, hz22, gz23, hz23, gz24, hz24, gz25, hz25, gz26, hz26, gz27, hz27, gz28, hz28, gz29, hz29] at gz30n
           all_goals
           obtain ⟨z31, h⟩ := ck_some h
           obtain ⟨z32, h⟩ := ck_some h
           rcases it_some h with ⟨z33, h⟩ | ⟨z33, h⟩
           ·try simp only [go_sem, n1, n2, n3, n4, z2, gz22, hz22, gz23, hz23, gz24, hz24, gz25, hz25, gz26, hz26, gz27, hz27, gz28, hz28, gz29, hz29, gz30n] at z33
            all_goals
            obtain rfl := so_some h
            refine ⟨0, fun L hL => ?_⟩
            simp only [go_sem, ir3, E_laws_FnVolumes_l1, R_laws_FnVolumes_l1, ir3_k0, ir3_o0, ir3_r0, E_laws_FnVolumes_l2, R_laws_FnVolumes_l2, ir3_k0, ir3_o0, ir3_r0, fz1, z2, fz3, fz4, fz5, fz6, fz7, fz8, fz9, fz10, fz11, fz12, fz13, fz14, fz15, fz16, fz17, fz18, fz19, fz20, fz21, gz22, hz22, fz22, gz23, hz23, fz23, gz24, hz24, fz24, gz25, hz25, fz25, gz26, hz26, fz26, gz27, hz27, fz27, gz28, hz28, fz28, gz29, hz29, fz29, gz30n, z33]
           ·try simp only [go_sem, n1, n2, n3, n4, z2, gz22, hz22, gz23, hz23, gz24, hz24, gz25, hz25, gz26, hz26, gz27, hz27, gz28, hz28, gz29, hz29, gz30n] at z33
            all_goals
            (simp_all)
         ·have gz29n := no_f gz29
          try simp only [go_sem, n1, n2, n3, n4, z2, gz22, hz22, gz23, hz23, gz24, hz24, gz25, hz25, gz26, hz26, gz27, hz27, gz28, hz28] at gz29n
          all_goals
          obtain ⟨z30, h⟩ := ck_some h
          obtain ⟨z31, h⟩ := ck_some h
          obtain ⟨z32, h⟩ := ck_some h
          rcases it_some h with ⟨z33, h⟩ | ⟨z33, h⟩
          ·try simp only [go_sem, n1, n2, n3, n4, z2, gz22, hz22, gz23, hz23, gz24, hz24, gz25, hz25, gz26, hz26, gz27, hz27, gz28, hz28, gz29n] at z33
           all_goals
           obtain rfl := so_some h
           refine ⟨0, fun L hL => ?_⟩
           simp only [go_sem, ir3, E_laws_FnVolumes_l1, R_laws_FnVolumes_l1, ir3_k0, ir3_o0, ir3_r0, E_laws_FnVolumes_l2, R_laws_FnVolumes_l2, ir3_k0, ir3_o0, ir3_r0, fz1, z2, fz3, fz4, fz5, fz6, fz7, fz8, fz9, fz10, fz11, fz12, fz13, fz14, fz15, fz16, fz17, fz18, fz19, fz20, fz21, gz22, hz22, fz22, gz23, hz23, fz23, gz24, hz24, fz24, gz25, hz25, fz25, gz26, hz26, fz26, gz27, hz27, fz27, gz28, hz28, fz28, gz29n, z33]
          ·try simp only [go_sem, n1, n2, n3, n4, z2, gz22, hz22, gz23, hz23, gz24, hz24, gz25, hz25, gz26, hz26, gz27, hz27, gz28, hz28, gz29n] at z33
           all_goals
           (simp_all)
        ·have gz28n := no_f gz28
         try simp only [go_sem, n1, n2, n3, n4, z2, gz22, hz22, gz23, hz23, gz24, hz24, gz25, hz25, gz26, hz26, gz27, hz27] at gz28n
         all_goals
         obtain ⟨z29, h⟩ := ck_some h
         obtain ⟨z30, h⟩ := ck_some h
         obtain ⟨z31, h⟩ := ck_some h
         obtain ⟨z32, h⟩ := ck_some h
         rcases it_some h with ⟨z33, h⟩ | ⟨z33, h⟩
         ·try simp only [go_sem, n1, n2, n3, n4, z2, gz22, hz22, gz23, hz23, gz24, hz24, gz25, hz25, gz26, hz26, gz27, hz27, gz28n] at z33
          all_goals
          obtain rfl := so_some h
          refine ⟨0, fun L hL => ?_⟩
          simp only [go_sem, ir3, E_laws_FnVolumes_l1, R_laws_FnVolumes_l1, ir3_k0, ir3_o0, ir3_r0, E_laws_FnVolumes_l2, R_laws_FnVolumes_l2, ir3_k0, ir3_o0, ir3_r0, fz1, z2, fz3, fz4, fz5, fz6, fz7, fz8, fz9, fz10, fz11, fz12, fz13, fz14, fz15, fz16, fz17, fz18, fz19, fz20, fz21, gz22, hz22, fz22, gz23, hz23, fz23, gz24, hz24, fz24, gz25, hz25, fz25, gz26, hz26, fz26, gz27, hz27, fz27, gz28n, z33]
         ·try simp only [go_sem, n1, n2, n3, n4, z2, gz22, hz22, gz23, hz23, gz24, hz24, gz25, hz25, gz26, hz26, gz27, hz27, gz28n] at z33
          all_goals
          (simp_all)
       ·have gz27n := no_f gz27
        try simp only [go_sem, n1, n2, n3, n4, z2, gz22, hz22, gz23, hz23, gz24, hz24, gz25, hz25, gz26, hz26] at gz27n
        all_goals
        obtain ⟨z28, h⟩ := ck_some h
        obtain ⟨z29, h⟩ := ck_some h
        obtain ⟨z30, h⟩ := ck_some h
        obtain ⟨z31, h⟩ := ck_some h
        obtain ⟨z32, h⟩ := ck_some h
        rcases it_some h with ⟨z33, h⟩ | ⟨z33, h⟩
        ·try simp only [go_sem, n1, n2, n3, n4, z2, gz22, hz22, gz23, hz23, gz24, hz24, gz25, hz25, gz26, hz26, gz27n] at z33
         all_goals
         obtain rfl := so_some h
         refine ⟨0, fun L hL => ?_⟩
         simp only [go_sem, ir3, E_laws_FnVolumes_l1, R_laws_FnVolumes_l1, ir3_k0, ir3_o0, ir3_r0, E_laws_FnVolumes_l2, R_laws_FnVolumes_l2, ir3_k0, ir3_o0, ir3_r0, fz1, z2, fz3, fz4, fz5, fz6, fz7, fz8, fz9, fz10, fz11, fz12, fz13, fz14, fz15, fz16, fz17, fz18, fz19, fz20, fz21, gz22, hz22, fz22, gz23, hz23, fz23, gz24, hz24, fz24, gz25, hz25, fz25, gz26, hz26, fz26, gz27n, z33]
        ·try simp only [go_sem, n1, n2, n3, n4, z2, gz22, hz22, gz23, hz23, gz24, hz24, gz25, hz25, gz26, hz26, gz27n] at z33
         all_goals
         (simp_all)
      ·have gz26n := no_f gz26
       try simp only [go_sem, n1, n2, n3, n4, z2, gz22, hz22, gz23, hz23, gz24, hz24, gz25, hz25] at gz26n
       all_goals
       obtain ⟨z27, h⟩ := ck_some h
       obtain ⟨z28, h⟩ := ck_some h
       obtain ⟨z29, h⟩ := ck_some h
       obtain ⟨z30, h⟩ := ck_some h
       obtain ⟨z31, h⟩ := ck_some h
       obtain ⟨z32, h⟩ := ck_some h
       rcases it_some h with ⟨z33, h⟩ | ⟨z33, h⟩
       ·try simp only [go_sem, n1, n2, n3, n4, z2, gz22, hz22, gz23, hz23, gz24, hz24, gz25, hz25, gz26n] at z33
        all_goals
        obtain rfl := so_some h
        refine ⟨0, fun L hL => ?_⟩
        simp only [go_sem, ir3, E_laws_FnVolumes_l1, R_laws_FnVolumes_l1, ir3_k0, ir3_o0, ir3_r0, E_laws_FnVolumes_l2, R_laws_FnVolumes_l2, ir3_k0, ir3_o0, ir3_r0, fz1, z2, fz3, fz4, fz5, fz6, fz7, fz8, fz9, fz10, fz11, fz12, fz13, fz14, fz15, fz16, fz17, fz18, fz19, fz20, fz21, gz22, hz22, fz22, gz23, hz23, fz23, gz24, hz24, fz24, gz25, hz25, fz25, gz26n, z33]
       ·try simp only [go_sem, n1, n2, n3, n4, z2, gz22, hz22, gz23, hz23, gz24, hz24, gz25, hz25, gz26n] at z33
        all_goals
        (simp_all)
     ·have gz25n := no_f gz25
      try simp only [go_sem, n1, n2, n3, n4, z2, gz22, hz22, gz23, hz23, gz24, hz24] at gz25n
      all_goals
      obtain ⟨z26, h⟩ := ck_some h
      obtain ⟨z27, h⟩ := ck_some h
      obtain ⟨z28, h⟩ := ck_some h
      obtain ⟨z29, h⟩ := ck_some h
      obtain ⟨z30, h⟩ := ck_some h
      obtain ⟨z31, h⟩ := ck_some h
      obtain ⟨z32, h⟩ := ck_some h
      rcases it_some h with ⟨z33, h⟩ | ⟨z33, h⟩
      ·try simp only [go_sem, n1, n2, n3, n4, z2, gz22, hz22, gz23, hz23, gz24, hz24, gz25n] at z33
       all_goals
       obtain rfl := so_some h
       refine ⟨0, fun L hL => ?_⟩
       simp only [go_sem, ir3, E_laws_FnVolumes_l1, R_laws_FnVolumes_l1, ir3_k0, ir3_o0, ir3_r0, E_laws_FnVolumes_l2, R_laws_FnVolumes_l2, ir3_k0, ir3_o0, ir3_r0, fz1, z2, fz3, fz4, fz5, fz6, fz7, fz8, fz9, fz10, fz11, fz12, fz13, fz14, fz15, fz16, fz17, fz18, fz19, fz20, fz21, gz22, hz22, fz22, gz23, hz23, fz23, gz24, hz24, fz24, gz25n, z33]
      ·try simp only [go_sem, n1, n2, n3, n4, z2, gz22, hz22, gz23, hz23, gz24, hz24, gz25n] at z33
       all_goals
       (simp_all)
    ·have gz24n := no_f gz24
     try simp only [go_sem, n1, n2, n3, n4, z2, gz22, hz22, gz23, hz23] at gz24n
     all_goals
     obtain ⟨z25, h⟩ := ck_some h
     obtain ⟨z26, h⟩ := ck_some h
     obtain ⟨z27, h⟩ := ck_some h
     obtain ⟨z28, h⟩ := ck_some h
     obtain ⟨z29, h⟩ := ck_some h
     obtain ⟨z30, h⟩ := ck_some h
     obtain ⟨z31, h⟩ := ck_some h
     obtain ⟨z32, h⟩ := ck_some h
     rcases it_some h with ⟨z33, h⟩ | ⟨z33, h⟩
     ·try simp only [go_sem, n1, n2, n3, n4, z2, gz22, hz22, gz23, hz23, gz24n] at z33
      all_goals
      obtain rfl := so_some h
      refine ⟨0, fun L hL => ?_⟩
      simp only [go_sem, ir3, E_laws_FnVolumes_l1, R_laws_FnVolumes_l1, ir3_k0, ir3_o0, ir3_r0, E_laws_FnVolumes_l2, R_laws_FnVolumes_l2, ir3_k0, ir3_o0, ir3_r0, fz1, z2, fz3, fz4, fz5, fz6, fz7, fz8, fz9, fz10, fz11, fz12, fz13, fz14, fz15, fz16, fz17, fz18, fz19, fz20, fz21, gz22, hz22, fz22, gz23, hz23, fz23, gz24n, z33]
     ·try simp only [go_sem, n1, n2, n3, n4, z2, gz22, hz22, gz23, hz23, gz24n] at z33
      all_goals
      (simp_all)
   ·have gz23n := no_f gz23
    rcases or_t gz23n with gz23na | ⟨gz23na, gz23nb⟩
    ·rcases or_t gz23na with gz23naa | ⟨gz23naa, gz23nab⟩
     ·try simp only [go_sem, n1, n2, n3, n4, z2, gz22, hz22] at gz23naa
      all_goals
      (simp_all)
     ·have gz23naan := no_f gz23naa
      have gz23nabn := no_t gz23nab
      try simp only [go_sem, n1, n2, n3, n4, z2, gz22, hz22] at gz23naan
      all_goals
      try simp only [go_sem, n1, n2, n3, n4, z2, gz22, hz22, gz23naan] at gz23nabn
      all_goals
      obtain ⟨z24, h⟩ := ck_some h
      obtain ⟨z25, h⟩ := ck_some h
      obtain ⟨z26, h⟩ := ck_some h
      obtain ⟨z27, h⟩ := ck_some h
      obtain ⟨z28, h⟩ := ck_some h
      obtain ⟨z29, h⟩ := ck_some h
      obtain ⟨z30, h⟩ := ck_some h
      obtain ⟨z31, h⟩ := ck_some h
      obtain ⟨z32, h⟩ := ck_some h
      rcases it_some h with ⟨z33, h⟩ | ⟨z33, h⟩
      ·try simp only [go_sem, n1, n2, n3, n4, z2, gz22, hz22, gz23naan, gz23nabn] at z33
       all_goals
       obtain rfl := so_some h
       refine ⟨0, fun L hL => ?_⟩
       simp only [go_sem, ir3, E_laws_FnVolumes_l1, R_laws_FnVolumes_l1, ir3_k0, ir3_o0, ir3_r0, E_laws_FnVolumes_l2, R_laws_FnVolumes_l2, ir3_k0, ir3_o0, ir3_r0, fz1, z2, fz3, fz4, fz5, fz6, fz7, fz8, fz9, fz10, fz11, fz12, fz13, fz14, fz15, fz16, fz17, fz18, fz19, fz20, fz21, gz22, hz22, fz22, gz23naan, gz23nabn, z33]
      ·try simp only [go_sem, n1, n2, n3, n4, z2, gz22, hz22, gz23naan, gz23nabn] at z33
       all_goals
       (simp_all)
    ·obtain ⟨gz23naa, gz23nab⟩ := or_f gz23na
     have gz23naan := no_f gz23naa
     have gz23nabn := no_f gz23nab
     have gz23nbn := no_t gz23nb
     try simp only [go_sem, n1, n2, n3, n4, z2, gz22, hz22] at gz23naan
     all_goals
     try simp only [go_sem, n1, n2, n3, n4, z2, gz22, hz22, gz23naan] at gz23nabn
     all_goals
     try simp only [go_sem, n1, n2, n3, n4, z2, gz22, hz22, gz23naan, gz23nabn] at gz23nbn
     all_goals
     obtain ⟨z24, h⟩ := ck_some h
     obtain ⟨z25, h⟩ := ck_some h
     obtain ⟨z26, h⟩ := ck_some h
     obtain ⟨z27, h⟩ := ck_some h
     obtain ⟨z28, h⟩ := ck_some h
     obtain ⟨z29, h⟩ := ck_some h
     obtain ⟨z30, h⟩ := ck_some h
     obtain ⟨z31, h⟩ := ck_some h
     obtain ⟨z32, h⟩ := ck_some h
     rcases it_some h with ⟨z33, h⟩ | ⟨z33, h⟩
     ·try simp only [go_sem, n1, n2, n3, n4, z2, gz22, hz22, gz23naan, gz23nabn, gz23nbn] at z33
      all_goals
      obtain rfl := so_some h
      refine ⟨0, fun L hL => ?_⟩
      simp only [go_sem, ir3, E_laws_FnVolumes_l1, R_laws_FnVolumes_l1, ir3_k0, ir3_o0, ir3_r0, E_laws_FnVolumes_l2, R_laws_FnVolumes_l2, ir3_k0, ir3_o0, ir3_r0, fz1, z2, fz3, fz4, fz5, fz6, fz7, fz8, fz9, fz10, fz11, fz12, fz13, fz14, fz15, fz16, fz17, fz18, fz19, fz20, fz21, gz22, hz22, fz22, gz23naan, gz23nabn, gz23nbn, z33]
     ·try simp only [go_sem, n1, n2, n3, n4, z2, gz22, hz22, gz23naan, gz23nabn, gz23nbn] at z33
      all_goals
      (simp_all)
  ·have gz22n := no_f gz22
   have gz22nn := no_t gz22n
   try simp only [go_sem, n1, n2, n3, n4, z2] at gz22nn
   all_goals
   obtain ⟨z23, h⟩ := ck_some h
   obtain ⟨z24, h⟩ := ck_some h
   obtain ⟨z25, h⟩ := ck_some h
   obtain ⟨z26, h⟩ := ck_some h
   obtain ⟨z27, h⟩ := ck_some h
   obtain ⟨z28, h⟩ := ck_some h
   obtain ⟨z29, h⟩ := ck_some h
   obtain ⟨z30, h⟩ := ck_some h
   obtain ⟨z31, h⟩ := ck_some h
   obtain ⟨z32, h⟩ := ck_some h
   rcases it_some h with ⟨z33, h⟩ | ⟨z33, h⟩
   ·try simp only [go_sem, n1, n2, n3, n4, z2, gz22nn] at z33
    all_goals
    obtain rfl := so_some h
    refine ⟨0, fun L hL => ?_⟩
    simp only [go_sem, ir3, E_laws_FnVolumes_l1, R_laws_FnVolumes_l1, ir3_k0, ir3_o0, ir3_r0, E_laws_FnVolumes_l2, R_laws_FnVolumes_l2, ir3_k0, ir3_o0, ir3_r0, fz1, z2, fz3, fz4, fz5, fz6, fz7, fz8, fz9, fz10, fz11, fz12, fz13, fz14, fz15, fz16, fz17, fz18, fz19, fz20, fz21, gz22nn, z33]
   ·try simp only [go_sem, n1, n2, n3, n4, z2, gz22nn] at z33
    all_goals
    (simp_all)


end Go.Proofs.YtdcmnpiafeigaaaGreatDoor
