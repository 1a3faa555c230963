/- Codes and contracts of the functions that PK reaches, and that their typed forms say what they do. No condition. -/
import Derived.Test.YtpjpfdoaemoddaaGreatPKKa
import Derived.Test.YtpjpfdoaemoddaaGreatRows
import Derived.WalkKit
namespace Go.Proofs.YtpjpfdoaemoddaaGreat
open Go Go.RowKit
set_option linter.unusedVariables false
set_option linter.unusedSimpArgs false
set_option maxRecDepth 10000

def ir44_v : List Nat := [0, 1, 4, 5]
def ir44 : AFn := ⟨2, 4, .seq (.region false [ VO 2 4 (.mov (I6 0))]) (.seq (.test false [ PM 6 0, PO 7 (.len false (.s 0)), PO 8 (.bin false .lss (.s 0) (I6 3)), PO 9 (.mov (.s 0)), ⟨.push, 10, (some ((.s 0), false)), .mov (.v 0)⟩, ⟨.push, 11, (some ((.s 1), false)), .len false (.s 0)⟩, ⟨.push, 12, (some ((.s 2), false)), .bin false .gtr (.s 0) (I6 8000)⟩, PO 13 (.pick (.s 3) (.c (.bool true)) (.s 0)), PO 14 (.mov (.s 0)), ⟨.push, 15, (some ((.s 0), false)), .mov (.v 1)⟩, ⟨.push, 16, (some ((.s 1), false)), .mov (.v 0)⟩, ⟨.push, 17, (some ((.s 2), false)), .ixAddr 1 (.s 0) (I6 0)⟩, ⟨.push, 18,
 (some ((.s 3), false)), .load false 1 (.s 0)⟩, ⟨.push, 19, (some ((.s 4), false)), .callv (.s 3) [(.s 0)]⟩, ⟨.push, 20, (some ((.s 5), false)), .un .not (.s 0)⟩, PO 21 (.pick (.s 6) (.c (.bool true)) (.s 0))] (.s 0) (.seq (.region false [ VO 2 4 (.mov (I6 8))]) (.ret)) (.skip)) (.seq (.seq (.region false [ PM 22 0, PO 23 (.len false (.s 0)), PO 24 (.bin false .sub (.s 0) (I6 2)), VS 3 5 0]) (.anyo 18 [ SO 0 25 (.mov (.v 0)), SO 1 26 (.mov (.v 3)), SO 2 27 (.pur (.slice 1 (.s 0) none (some (.s 1)))), SO 3 28 (.callp 68 [(.s 2)]), SO 4 29 (.mov (.v 0)), SO 5 30 (.mov (.v 3)), SO 6 31 (.ixAddr 1
 (.s 4) (.s 5)), SO 7 32 (.load false 1 (.s 6)), SO 8 33 (.conv .i64 (.s 7)), SO 9 34 (.bin false .mul (.s 8) (I6 256)), SO 10 35 (.mov (.v 0)), SO 11 36 (.mov (.v 3)), SO 12 37 (.bin false .add (.s 11) (I6 1)), SO 13 38 (.ixAddr 1 (.s 10) (.s 12)), SO 14 39 (.load false 1 (.s 13)), SO 15 40 (.conv .i64 (.s 14)), SO 16 41 (.bin false .add (.s 9) (.s 15)), SO 17 42 (.bin false .neq (.s 3) (.s 16))] [] (.cond (.s 17) (.seq (.region false [ VO 2 4 (.mov (I6 9))]) (.ret)) (.skip)))) (.seq (.region false [ VO 2 4 (.mov (I6 0))]) (.ret)))), [.t 2]⟩
noncomputable def t_78 : List (Nat × Ctr) := [(45, c_77), (68, c_45)]
theorem lk_78_45 : look t_78 45 = some c_77 := rfl
theorem lk_78_68 : look t_78 68 = some c_45 := rfl
noncomputable def c_78 : Ctr := mkF t_78 ir44 [.bor, .bor]
theorem s_78 : Sound Tryz.prog 44 c_78 := mkF_sound _ rfl (snd_cons s_77 (snd_cons s_45 snd_nil)) (by kernel_rfl : chkFn Tryz.prog 44 ir44 ir44_v = true)
theorem M_78 : c_78.modes = [.bor, .bor] := rfl
theorem Fl_78 : c_78.flat = true := rfl
attribute [go_sem] M_78 Fl_78
attribute [go_sem] lk_78_45 lk_78_68
theorem Fs_78 {b : List UInt8} {y_ : Int} (h : impl_checkPacked__impl_UnpackEstimates_c1 b = some y_) : c_78.F [.sl 1 (List.map byteAV b), .fn (.func 45) [] []] = ⟨true, .int .i64 y_, [.any, .any]⟩ := by
 refine mkF_E rfl ?_
 dsimp only [impl_checkPacked__impl_UnpackEstimates_c1] at h
 obtain ⟨z1, h⟩ := ck_some h
 rcases or_split z1 with ⟨gz1, z1⟩ | gz1
 ·try simp only [go_sem, n1, n2, n3, n4] at gz1
  all_goals
  have lz1 := ix_lt z1
  have xz1 := getD_mapD byteAV b lz1
  try simp only [go_sem] at lz1
  try simp only [go_sem] at xz1
  try simp only [go_sem, n1, n2, n3, n4, gz1] at z1
  all_goals
  obtain ⟨z2, h⟩ := ck_some h
  rcases or_split z2 with ⟨gz2, z2⟩ | gz2
  ·try simp only [go_sem, n1, n2, n3, n4, gz1, z1] at gz2
   all_goals
   obtain ⟨y_2, hz2⟩ := Option.isSome_iff_exists.1 z2
   have fz2 := Fs_77 hz2
   try simp only [go_sem, n1, n2, n3, n4, gz1, z1, gz2] at hz2
   all_goals
   try simp only [go_sem, gz1, z1, gz2] at fz2
   rcases it_some h with ⟨z3, h⟩ | ⟨z3, h⟩
   ·try simp only [go_sem, n1, n2, n3, n4, gz1, z1, gz2, hz2] at z3
    all_goals
    obtain rfl := so_some h
    refine ⟨0, fun L hL => ?_⟩
    simp only [go_sem, ir44, gz1, z1, lz1, xz1, gz2, hz2, fz2, z3]
   ·try simp only [go_sem, n1, n2, n3, n4, gz1, z1, gz2, hz2] at z3
    all_goals
    obtain ⟨z4, h⟩ := ck_some h
    try simp only [go_sem, n1, n2, n3, n4, gz1, z1, gz2, hz2, z3] at z4
    all_goals
    obtain ⟨y_5, z5, h⟩ := bd_some h
    have fz5 := Fs_45 z5
    try simp only [go_sem, gz1, z1, gz2, hz2, z3, z4] at fz5
    obtain ⟨z6, h⟩ := ck_some h
    have lz6 := ix_lt z6
    have xz6 := getD_mapD byteAV b lz6
    try simp only [go_sem] at lz6
    try simp only [go_sem] at xz6
    try simp only [go_sem, n1, n2, n3, n4, gz1, z1, gz2, hz2, z3, z4] at z6
    all_goals
    obtain ⟨z7, h⟩ := ck_some h
    have lz7 := ix_lt z7
    have xz7 := getD_mapD byteAV b lz7
    try simp only [go_sem] at lz7
    try simp only [go_sem] at xz7
    try simp only [go_sem, n1, n2, n3, n4, gz1, z1, gz2, hz2, z3, z4, z6] at z7
    all_goals
    rcases it_some h with ⟨z8, h⟩ | ⟨z8, h⟩
    ·try simp only [go_sem, n1, n2, n3, n4, gz1, z1, gz2, hz2, z3, z4, z6, z7] at z8
     all_goals
     obtain rfl := so_some h
     refine ⟨0, fun L hL => ?_⟩
     simp only [go_sem, ir44, gz1, z1, lz1, xz1, gz2, hz2, fz2, z3, z4, fz5, z6, lz6, xz6, z7, lz7, xz7, z8]
    ·try simp only [go_sem, n1, n2, n3, n4, gz1, z1, gz2, hz2, z3, z4, z6, z7] at z8
     all_goals
     obtain rfl := so_some h
     refine ⟨0, fun L hL => ?_⟩
     simp only [go_sem, ir44, gz1, z1, lz1, xz1, gz2, hz2, fz2, z3, z4, fz5, z6, lz6, xz6, z7, lz7, xz7, z8]
  ·have gz2n := no_f gz2
   rcases or_t gz2n with gz2na | ⟨gz2na, gz2nb⟩
   ·try simp only [go_sem, n1, n2, n3, n4, gz1, z1] at gz2na
    all_goals
    (simp_all)
   ·try simp only [go_sem, n1, n2, n3, n4, gz1, z1] at gz2na
    all_goals
    try simp only [go_sem, n1, n2, n3, n4, gz1, z1, gz2na] at gz2nb
    all_goals
    rcases it_some h with ⟨z3, h⟩ | ⟨z3, h⟩
    ·try simp only [go_sem, n1, n2, n3, n4, gz1, z1, gz2na, gz2nb] at z3
     all_goals
     obtain rfl := so_some h
     refine ⟨0, fun L hL => ?_⟩
     simp only [go_sem, ir44, gz1, z1, lz1, xz1, gz2na, gz2nb, z3]
    ·try simp only [go_sem, n1, n2, n3, n4, gz1, z1, gz2na, gz2nb] at z3
     all_goals
     obtain ⟨z4, h⟩ := ck_some h
     try simp only [go_sem, n1, n2, n3, n4, gz1, z1, gz2na, gz2nb, z3] at z4
     all_goals
     obtain ⟨y_5, z5, h⟩ := bd_some h
     have fz5 := Fs_45 z5
     try simp only [go_sem, gz1, z1, gz2na, gz2nb, z3, z4] at fz5
     obtain ⟨z6, h⟩ := ck_some h
     have lz6 := ix_lt z6
     have xz6 := getD_mapD byteAV b lz6
     try simp only [go_sem] at lz6
     try simp only [go_sem] at xz6
     try simp only [go_sem, n1, n2, n3, n4, gz1, z1, gz2na, gz2nb, z3, z4] at z6
     all_goals
     obtain ⟨z7, h⟩ := ck_some h
     have lz7 := ix_lt z7
     have xz7 := getD_mapD byteAV b lz7
     try simp only [go_sem] at lz7
     try simp only [go_sem] at xz7
     try simp only [go_sem, n1, n2, n3, n4, gz1, z1, gz2na, gz2nb, z3, z4, z6] at z7
     all_goals
     rcases it_some h with ⟨z8, h⟩ | ⟨z8, h⟩
     ·try simp only [go_sem, n1, n2, n3, n4, gz1, z1, gz2na, gz2nb, z3, z4, z6, z7] at z8
      all_goals
      obtain rfl := so_some h
      refine ⟨0, fun L hL => ?_⟩
      simp only [go_sem, ir44, gz1, z1, lz1, xz1, gz2na, gz2nb, z3, z4, fz5, z6, lz6, xz6, z7, lz7, xz7, z8]
     ·try simp only [go_sem, n1, n2, n3, n4, gz1, z1, gz2na, gz2nb, z3, z4, z6, z7] at z8
      all_goals
      obtain rfl := so_some h
      refine ⟨0, fun L hL => ?_⟩
      simp only [go_sem, ir44, gz1, z1, lz1, xz1, gz2na, gz2nb, z3, z4, fz5, z6, lz6, xz6, z7, lz7, xz7, z8]
 ·have gz1n := no_f gz1
  rcases or_t gz1n with gz1na | ⟨gz1na, gz1nb⟩
  ·try simp only [go_sem, n1, n2, n3, n4] at gz1na
   all_goals
   obtain ⟨z2, h⟩ := ck_some h
   rcases it_some h with ⟨z3, h⟩ | ⟨z3, h⟩
   ·try simp only [go_sem, n1, n2, n3, n4, gz1na] at z3
    all_goals
    obtain rfl := so_some h
    refine ⟨0, fun L hL => ?_⟩
    simp only [go_sem, ir44, gz1na, z3]
   ·try simp only [go_sem, n1, n2, n3, n4, gz1na] at z3
    all_goals
    (simp_all)
  ·try simp only [go_sem, n1, n2, n3, n4] at gz1na
   all_goals
   try simp only [go_sem, n1, n2, n3, n4, gz1na] at gz1nb
   all_goals
   obtain ⟨z2, h⟩ := ck_some h
   rcases it_some h with ⟨z3, h⟩ | ⟨z3, h⟩
   ·try simp only [go_sem, n1, n2, n3, n4, gz1na, gz1nb] at z3
    all_goals
    obtain rfl := so_some h
    refine ⟨0, fun L hL => ?_⟩
    simp only [go_sem, ir44, gz1na, gz1nb, z3]
   ·try simp only [go_sem, n1, n2, n3, n4, gz1na, gz1nb] at z3
    all_goals
    (simp_all)


def ir85_b0 : IR := .seq (.test false [ PM 7 5, PM 8 0, PO 9 (.len false (.s 0)), PO 10 (.bin false .lss (.s 2) (.s 0)), PO 11 (.mov (.s 0)), ⟨.push, 12, (some ((.s 0), true)), .mov (.v 5)⟩, ⟨.push, 13, (some ((.s 1), true)), .bin false .lss (.s 0) (I6 9)⟩, PO 14 (.pick (.s 2) (.s 0) (.c (.bool false)))] (.s 0) (.skip) (.exit 0)) (.seq (.block 1 (.seq (.region false [ PM 17 4, PM 18 0, PM 19 5, PO 20 (.ixAddr 1 (.s 1) (.s 0)), PO 21 (.load false 1 (.s 0)), PO 22 (.bin false .and (.s 0) (.c (.int .u8 (127)))), PO 23 (.conv .i64 (.s 0)), PM 24 5, PO 25 (.bin false .mul (I6 7) (.s 0)), PO 26 (.bin
 false .shl (.s 2) (.s 0)), PO 27 (.bin false .or (.s 9) (.s 0)), VS 4 5 0]) (.test false [ PM 28 0, PM 29 5, PO 30 (.ixAddr 1 (.s 1) (.s 0)), PO 31 (.load false 1 (.s 0)), PO 32 (.bin false .lss (.s 0) (.c (.int .u8 (128))))] (.s 0) (.seq (.test false [ PM 33 0, PM 34 5, PO 35 (.ixAddr 1 (.s 1) (.s 0)), PO 36 (.load false 1 (.s 0)), PO 37 (.bin false .eql (.s 0) (.c (.int .u8 (0)))), PO 38 (.mov (.s 0)), ⟨.push, 39, (some ((.s 0), true)), .mov (.v 5)⟩, ⟨.push, 40, (some ((.s 1), true)), .bin false .gtr (.s 0) (I6 0)⟩, PO 41 (.pick (.s 2) (.s 0) (.c (.bool false)))] (.s 0) (.seq (.region false
 [ VO 1 2 (.mov (I6 0)), VO 2 3 (.mov (I6 0)), VO 3 4 (.mov (.c (.bool false)))]) (.ret)) (.skip)) (.seq (.region false [ PM 42 4, PM 43 5, PO 44 (.bin false .add (.s 0) (I6 1)), VS 1 2 2, VS 2 3 0, VO 3 4 (.mov (.c (.bool true)))]) (.ret))) (.skip)))) (.region false [ PM 15 5, PO 16 (.bin false .add (.s 0) (I6 1)), VS 5 6 0]))
def ir85_k0 : List Bool := [true, false, false, false, true, true]
def ir85_o0 : List Bool := [false, false, false, false, false, false]
def ir85_r0 : List Bool := [false, true, true, true, false, false]
def ir85_v : List Nat := [0, 2, 3, 4, 5, 6]
def ir85 : AFn := ⟨1, 6, .seq (.region false [ VO 1 2 (.mov (I6 0)), VO 2 3 (.mov (I6 0)), VO 3 4 (.mov (.c (.bool false)))]) (.seq (.region false [ VO 4 5 (.mov (I6 0))]) (.seq (.seq (.region false [ VO 5 6 (.mov (I6 0))]) (.block 0 (.loop ir85_k0 ir85_o0 ir85_r0 ir85_b0))) (.seq (.region false [ VO 1 2 (.mov (I6 0)), VO 2 3 (.mov (I6 0)), VO 3 4 (.mov (.c (.bool false)))]) (.ret)))), [.t 1, .t 2, .t 3]⟩
noncomputable def t_79 : List (Nat × Ctr) := []
noncomputable def c_79 : Ctr := mkF t_79 ir85 [.bor]
theorem s_79 : Sound Tryz.prog 85 c_79 := mkF_sound _ rfl snd_nil (by kernel_rfl : chkFn Tryz.prog 85 ir85 ir85_v = true)
theorem M_79 : c_79.modes = [.bor] := rfl
theorem Fl_79 : c_79.flat = true := rfl
attribute [go_sem] M_79 Fl_79
def E_79_l1 (b : List UInt8) : (Int × Int) → St
 | (n, i) => ⟨[.sl 1 (List.map byteAV b), .any, .any, .any, .int .i64 n, .int .i64 i], [], [], true⟩
def R_79_l1 (b : List UInt8) : (Unit ⊕ (Int × Int × Bool)) → Res
 | .inl y => (.exit 0, ⟨[.any, .any, .any, .any, .any, .any], [], [], true⟩)
 | .inr y => (.ret, ⟨[.any, .int .i64 y.1, .int .i64 y.2.1, .bool y.2.2, .any, .any], [], [], true⟩)
theorem impl_ReadNumber_l1_ex {b : List UInt8} {sgm_ : Int × Int} {rho_ : Unit ⊕ (Int × Int × Bool)} (h : whileE (impl_ReadNumber_l1 b) sgm_ = some rho_) : ∃ L0, ∀ L, L0 ≤ L → iter (exec (look t_79) L ir85_b0) ir85_k0 ir85_o0 ir85_r0 L (E_79_l1 b sgm_) = R_79_l1 b rho_ := by
 refine loop_ex (E := E_79_l1 b) (R := R_79_l1 b) (fun y => by first | (intro c; cases c) | (rcases y with y | y <;> (intro c; cases c)) | (rcases y with y | y | y <;> (intro c; cases c))) ?_ h
 clear h
 rintro ⟨n, i⟩ o_ h
 dsimp only [impl_ReadNumber_l1] at h
 rcases it_some h with ⟨z1, h⟩ | ⟨z1, h⟩
 ·try simp only [go_sem, n1, n2, n3, n4] at z1
  all_goals
  obtain ⟨z2, h⟩ := ck_some h
  have lz2 := ix_lt z2
  have xz2 := getD_mapD byteAV b lz2
  try simp only [go_sem] at lz2
  try simp only [go_sem] at xz2
  try simp only [go_sem, n1, n2, n3, n4, z1] at z2
  all_goals
  obtain ⟨z3, h⟩ := ck_some h
  try simp only [go_sem, n1, n2, n3, n4, z1, z2] at z3
  all_goals
  rcases it_some h with ⟨z4, h⟩ | ⟨z4, h⟩
  ·try simp only [go_sem, n1, n2, n3, n4, z1, z2, z3] at z4
   all_goals
   rcases it_some h with ⟨z5, h⟩ | ⟨z5, h⟩
   ·try simp only [go_sem, n1, n2, n3, n4, z1, z2, z3, z4] at z5
    all_goals
    obtain rfl := so_some h
    refine ⟨0, fun L hL => ?_⟩
    simp only [go_sem, ir85, E_79_l1, R_79_l1, ir85_b0, ir85_k0, ir85_o0, ir85_r0, z1, z2, lz2, xz2, z3, z4, z5]
   ·try simp only [go_sem, n1, n2, n3, n4, z1, z2, z3, z4] at z5
    all_goals
    obtain rfl := so_some h
    refine ⟨0, fun L hL => ?_⟩
    simp only [go_sem, ir85, E_79_l1, R_79_l1, ir85_b0, ir85_k0, ir85_o0, ir85_r0, z1, z2, lz2, xz2, z3, z4, z5]
  ·try simp only [go_sem, n1, n2, n3, n4, z1, z2, z3] at z4
   all_goals
   obtain rfl := so_some h
   refine ⟨0, fun L hL => ?_⟩
   simp only [go_sem, ir85, E_79_l1, R_79_l1, ir85_b0, ir85_k0, ir85_o0, ir85_r0, z1, z2, lz2, xz2, z3, z4]
 ·try simp only [go_sem, n1, n2, n3, n4] at z1
  all_goals
  obtain rfl := so_some h
  refine ⟨0, fun L hL => ?_⟩
  simp only [go_sem, ir85, E_79_l1, R_79_l1, ir85_b0, ir85_k0, ir85_o0, ir85_r0, z1]

theorem Fs_79 {b : List UInt8} {y_ : Int × Int × Bool} (h : impl_ReadNumber b = some y_) : c_79.F [.sl 1 (List.map byteAV b)] = ⟨true, .tup [.int .i64 y_.1, .int .i64 y_.2.1, .bool y_.2.2], [.any]⟩ := by
 refine mkF_E rfl ?_
 dsimp only [impl_ReadNumber] at h
 obtain ⟨y_6, z6, h⟩ := bd_some h
 obtain ⟨Lz6, ez6⟩ := impl_ReadNumber_l1_ex z6
 rcases y_6 with y_6a | y_6b
 ·dsimp only at h
  obtain rfl := so_some h
  refine ⟨Lz6, fun L hL => ?_⟩
  have ez6 := ez6 L (by omega)
  try simp only [go_sem, E_79_l1, R_79_l1, ir85_k0, ir85_o0, ir85_r0] at ez6
  simp only [go_sem, ir85, E_79_l1, R_79_l1, ir85_k0, ir85_o0, ir85_r0, ez6]
 ·dsimp only at h
  obtain rfl := so_some h
  refine ⟨Lz6, fun L hL => ?_⟩
  have ez6 := ez6 L (by omega)
  try simp only [go_sem, E_79_l1, R_79_l1, ir85_k0, ir85_o0, ir85_r0] at ez6
  simp only [go_sem, ir85, E_79_l1, R_79_l1, ir85_k0, ir85_o0, ir85_r0, ez6]


def ir47_v : List Nat := [0, 1, 4, 5, 6, 7]
def ir47 : AFn := ⟨2, 6, .seq (.region false [ VO 2 4 (.mov (I6 0))]) (.seq (.region false [ PM 9 0, PO 10 (.nilck (.s 0)), PO 11 (.fldAddr 0 (.s 0)), PO 12 (.load false 1 (.s 0)), PO 13 (.call 85 [(.s 0)]), PO 8 (.mov (.s 0)), PO 14 (.ext (.s 0) 0), PO 15 (.ext (.s 1) 1), PO 16 (.ext (.s 2) 2), VS 3 5 2, VS 4 6 1, VS 5 7 0]) (.seq (.test false [ PM 17 0, PO 18 (.nilck (.s 0)), PO 19 (.fldAddr 1 (.s 0)), PO 20 (.load false 1 (.s 0)), PO 21 (.mov (.s 0)), ⟨.push, 22, (some ((.s 0), false)), .mov (.v 5)⟩, ⟨.push, 23, (some ((.s 1), false)), .un .not (.s 0)⟩, PO 24 (.pick (.s 2) (.c (.bool true))
 (.s 0)), PO 25 (.mov (.s 0)), ⟨.push, 26, (some ((.s 0), false)), .mov (.v 3)⟩, ⟨.push, 27, (some ((.s 1), false)), .mov (.v 1)⟩, ⟨.push, 28, (some ((.s 2), false)), .bin false .gtr (.s 1) (.s 0)⟩, PO 29 (.pick (.s 3) (.c (.bool true)) (.s 0))] (.s 0) (.seq (.region false [ PM 30 0, PO 31 (.nilck (.s 0)), PO 32 (.fldAddr 1 (.s 0)), ⟨.no, 0, none, .store 1 (.s 0) (.c (.bool true))⟩]) (.seq (.region false [ VO 2 4 (.mov (I6 0))]) (.ret))) (.skip)) (.seq (.region false [ PM 33 0, PM 34 0, PO 35 (.nilck (.s 0)), PO 36 (.fldAddr 0 (.s 0)), PO 37 (.load false 1 (.s 0)), PM 38 4, PO 39 (.slice 1 (.s
 1) (some (.s 0)) none), PO 40 (.nilck (.s 6)), PO 41 (.fldAddr 0 (.s 0)), ⟨.no, 0, none, .store 1 (.s 0) (.s 2)⟩]) (.seq (.region false [ PM 42 3, VS 2 4 0]) (.ret))))), [.t 2]⟩
noncomputable def t_80 : List (Nat × Ctr) := [(85, c_79)]
theorem lk_80_85 : look t_80 85 = some c_79 := rfl
noncomputable def c_80 : Ctr := mkN t_80 ir47 [.io, .bor]
theorem s_80 : Sound Tryz.prog 47 c_80 := mkN_sound _ (snd_cons s_79 snd_nil) (by kernel_rfl : chkFn Tryz.prog 47 ir47 ir47_v = true)
theorem M_80 : c_80.modes = [.io, .bor] := rfl
theorem Fl_80 : c_80.flat = false := rfl
attribute [go_sem] M_80 Fl_80
attribute [go_sem] lk_80_85
theorem Fs_80 {u : Unpacker} {most : Int} {y_ : Int × Unpacker} (h : impl_unpacker_number u most = some y_) : c_80.F [.mem 2 [Unpacker_av u] 0, .int .i64 most] = ⟨true, .int .i64 y_.1, [.mem 2 [Unpacker_av y_.2] 0, .any]⟩ := by
 refine mkN_E ?_
 dsimp only [impl_unpacker_number] at h
 obtain ⟨y_1, z1, h⟩ := bd_some h
 have fz1 := Fs_79 z1
 try simp only [go_sem] at fz1
 rcases it_some h with ⟨z2, h⟩ | ⟨z2, h⟩
 ·try simp only [go_sem, n1, n2, n3, n4] at z2
  all_goals
  obtain rfl := so_some h
  refine ⟨0, fun L hL => ?_⟩
  simp only [go_sem, ir47, fz1, z2]
 ·try simp only [go_sem, n1, n2, n3, n4] at z2
  all_goals
  obtain ⟨z3, h⟩ := ck_some h
  try simp only [go_sem, n1, n2, n3, n4, z2] at z3
  all_goals
  obtain rfl := so_some h
  refine ⟨0, fun L hL => ?_⟩
  simp only [go_sem, ir47, fz1, z2, z3]


def ir46_b0 : IR := .seq (.region false [ VO 6 9 (.bin false .lss (.v 5) (.v 4))]) (.seq (.cond (.v 6) (.skip) (.exit 0)) (.seq (.block 1 (.seq (.region false [ PM 10 0, PO 11 (.call 47 [(.s 0), (I6 12)]), VS 3 4 0]) (.seq (.test false [ PM 12 0, PO 13 (.nilck (.s 0)), PO 14 (.fldAddr 1 (.s 0)), PO 15 (.load false 1 (.s 0)), PO 16 (.mov (.s 0)), ⟨.push, 17, (some ((.s 0), false)), .mov (.v 3)⟩, ⟨.push, 18, (some ((.s 1), false)), .mov (.v 0)⟩, ⟨.push, 19, (some ((.s 2), false)), .nilck (.s 0)⟩, ⟨.push, 20, (some ((.s 3), false)), .fldAddr 0 (.s 0)⟩, ⟨.push, 21, (some ((.s 4), false)), .load
 false 1 (.s 0)⟩, ⟨.push, 22, (some ((.s 5), false)), .len false (.s 0)⟩, ⟨.push, 23, (some ((.s 6), false)), .bin false .gtr (.s 5) (.s 0)⟩, PO 24 (.pick (.s 7) (.c (.bool true)) (.s 0))] (.s 0) (.seq (.region false [ PM 25 0, PO 26 (.nilck (.s 0)), PO 27 (.fldAddr 1 (.s 0)), ⟨.no, 0, none, .store 1 (.s 0) (.c (.bool true))⟩]) (.seq (.region false [ VO 1 2 (.newnil 1)]) (.ret))) (.skip)) (.seq (.region false [ PM 28 2, PM 29 0, PO 30 (.nilck (.s 0)), PO 31 (.fldAddr 0 (.s 0)), PO 32 (.load false 1 (.s 0)), PM 33 3, PO 34 (.slice 1 (.s 1) none (some (.s 0))), PO 35 (.b2s (.s 0)), PO 36 (.mkSl 1
 (.str []) 1 [(0, (.s 0))]), PO 37 (.app 1 16 (.str []) (.s 8) (.s 0)), VS 2 3 0]) (.region false [ PM 38 0, PM 39 0, PO 40 (.nilck (.s 0)), PO 41 (.fldAddr 0 (.s 0)), PO 42 (.load false 1 (.s 0)), PM 43 3, PO 44 (.slice 1 (.s 1) (some (.s 0)) none), PO 45 (.nilck (.s 6)), PO 46 (.fldAddr 0 (.s 0)), ⟨.no, 0, none, .store 1 (.s 0) (.s 2)⟩]))))) (.region false [ PO 47 (.bin false .add (.v 5) (I6 1)), VS 5 8 0])))
def ir46_k0 : List Bool := [true, false, true, false, true, true, false]
def ir46_o0 : List Bool := [true, false, true, false, false, false, false]
def ir46_r0 : List Bool := [true, true, false, false, false, false, false]
def ir46_v : List Nat := [0, 2, 3, 4, 7, 8, 9]
def ir46 : AFn := ⟨1, 7, .seq (.region false [ VO 1 2 (.newnil 1)]) (.seq (.region false [ PO 5 (.mkSl 1 (.str []) 0 []), VS 2 3 0]) (.seq (.seq (.region false [ PM 6 0, VO 4 7 (.call 47 [(.s 0), (I6 100)]), VO 5 8 (.mov (I6 0))]) (.block 0 (.loop ir46_k0 ir46_o0 ir46_r0 ir46_b0))) (.seq (.region false [ PM 48 2, VS 1 2 0]) (.ret)))), [.t 1]⟩
noncomputable def t_81 : List (Nat × Ctr) := [(47, c_80)]
theorem lk_81_47 : look t_81 47 = some c_80 := rfl
noncomputable def c_81 : Ctr := mkN t_81 ir46 [.io]
theorem s_81 : Sound Tryz.prog 46 c_81 := mkN_sound _ (snd_cons s_80 snd_nil) (by kernel_rfl : chkFn Tryz.prog 46 ir46 ir46_v = true)
theorem M_81 : c_81.modes = [.io] := rfl
theorem Fl_81 : c_81.flat = false := rfl
attribute [go_sem] M_81 Fl_81
attribute [go_sem] lk_81_47
def E_81_l1 (t7 : Int) : (Unpacker × (List (List UInt8)) × Int) → St
 | (u, out, t8) => ⟨[.ref 31 0 0, .any, .own 3200032, .any, .int .i64 t7, .int .i64 t8, .any], [], [(31, ⟨2, [Unpacker_av u]⟩), (3200032, ⟨1, List.map AV.str out⟩)], true⟩
def R_81_l1 (t7 : Int) : ((Unpacker × (List (List UInt8))) ⊕ (Unpacker × (List (List UInt8)))) → Res
 | .inl y => (.exit 0, ⟨[.ref 31 0 0, .any, .own 3200032, .any, .any, .any, .any], [], [(31, ⟨2, [Unpacker_av y.1]⟩), (3200032, ⟨1, List.map AV.str y.2⟩)], true⟩)
 | .inr y => (.ret, ⟨[.ref 31 0 0, .own 3200032, .any, .any, .any, .any, .any], [], [(31, ⟨2, [Unpacker_av y.1]⟩), (3200032, ⟨1, List.map AV.str y.2⟩)], true⟩)
theorem impl_unpacker_names_l1_ex {t7 : Int} {sgm_ : Unpacker × (List (List UInt8)) × Int} {rho_ : (Unpacker × (List (List UInt8))) ⊕ (Unpacker × (List (List UInt8)))} (h : whileE (impl_unpacker_names_l1 t7) sgm_ = some rho_) : ∃ L0, ∀ L, L0 ≤ L → iter (exec (look t_81) L ir46_b0) ir46_k0 ir46_o0 ir46_r0 L (E_81_l1 t7 sgm_) = R_81_l1 t7 rho_ := by
 refine loop_ex (E := E_81_l1 t7) (R := R_81_l1 t7) (fun y => by first | (intro c; cases c) | (rcases y with y | y <;> (intro c; cases c)) | (rcases y with y | y | y <;> (intro c; cases c))) ?_ h
 clear h
 rintro ⟨u, out, t8⟩ o_ h
 dsimp only [impl_unpacker_names_l1] at h
 rcases it_some h with ⟨z2, h⟩ | ⟨z2, h⟩
 ·try simp only [go_sem, n1, n2, n3, n4] at z2
  all_goals
  obtain ⟨y_3, z3, h⟩ := bd_some h
  have fz3 := Fs_80 z3
  try simp only [go_sem, z2] at fz3
  rcases it_some h with ⟨z4, h⟩ | ⟨z4, h⟩
  ·try simp only [go_sem, n1, n2, n3, n4, z2] at z4
   all_goals
   obtain rfl := so_some h
   refine ⟨0, fun L hL => ?_⟩
   simp only [go_sem, ir46, E_81_l1, R_81_l1, ir46_b0, ir46_k0, ir46_o0, ir46_r0, z2, fz3, z4]
  ·try simp only [go_sem, n1, n2, n3, n4, z2] at z4
   all_goals
   obtain ⟨z5, h⟩ := ck_some h
   try simp only [go_sem, n1, n2, n3, n4, z2, z4] at z5
   all_goals
   obtain ⟨z6, h⟩ := ck_some h
   try simp only [go_sem, n1, n2, n3, n4, z2, z4, z5] at z6
   all_goals
   obtain ⟨z7, h⟩ := ck_some h
   try simp only [go_sem, n1, n2, n3, n4, z2, z4, z5, z6] at z7
   all_goals
   obtain rfl := so_some h
   refine ⟨0, fun L hL => ?_⟩
   simp only [go_sem, ir46, E_81_l1, R_81_l1, ir46_b0, ir46_k0, ir46_o0, ir46_r0, z2, fz3, z4, z5, z6, z7]
 ·try simp only [go_sem, n1, n2, n3, n4] at z2
  all_goals
  obtain rfl := so_some h
  refine ⟨0, fun L hL => ?_⟩
  simp only [go_sem, ir46, E_81_l1, R_81_l1, ir46_b0, ir46_k0, ir46_o0, ir46_r0, z2]

theorem Fs_81 {u : Unpacker} {y_ : (List (List UInt8)) × Unpacker} (h : impl_unpacker_names u = some y_) : c_81.F [.mem 2 [Unpacker_av u] 0] = ⟨true, .fresh 1 (List.map AV.str y_.1), [.mem 2 [Unpacker_av y_.2] 0]⟩ := by
 refine mkN_E ?_
 dsimp only [impl_unpacker_names] at h
 obtain ⟨y_1, z1, h⟩ := bd_some h
 have fz1 := Fs_80 z1
 try simp only [go_sem] at fz1
 obtain ⟨y_8, z8, h⟩ := bd_some h
 obtain ⟨Lz8, ez8⟩ := impl_unpacker_names_l1_ex z8
 rcases y_8 with y_8a | y_8b
 ·dsimp only at h
  obtain rfl := so_some h
  refine ⟨Lz8, fun L hL => ?_⟩
  have ez8 := ez8 L (by omega)
  try simp only [go_sem, E_81_l1, R_81_l1, ir46_k0, ir46_o0, ir46_r0] at ez8
  simp only [go_sem, ir46, E_81_l1, R_81_l1, ir46_k0, ir46_o0, ir46_r0, fz1, ez8]
 ·dsimp only at h
  obtain rfl := so_some h
  refine ⟨Lz8, fun L hL => ?_⟩
  have ez8 := ez8 L (by omega)
  try simp only [go_sem, E_81_l1, R_81_l1, ir46_k0, ir46_o0, ir46_r0] at ez8
  simp only [go_sem, ir46, E_81_l1, R_81_l1, ir46_k0, ir46_o0, ir46_r0, fz1, ez8]


def ir49_v : List Nat := [0, 2]
def ir49 : AFn := ⟨1, 2, .seq (.region false [ VO 1 2 (.mov (I6 0))]) (.seq (.test false [ PM 3 0, PO 4 (.bin false .rem (.s 0) (I6 2)), PO 5 (.bin false .eql (.s 0) (I6 1))] (.s 0) (.seq (.region false [ PM 6 0, PO 7 (.bin false .add (.s 0) (I6 1)), PO 8 (.un .neg (.s 0)), PO 9 (.bin false .quo (.s 0) (I6 2)), VS 1 2 0]) (.ret)) (.skip)) (.seq (.region false [ PM 10 0, PO 11 (.bin false .quo (.s 0) (I6 2)), VS 1 2 0]) (.ret))), [.t 1]⟩
noncomputable def t_82 : List (Nat × Ctr) := []
noncomputable def c_82 : Ctr := mkF t_82 ir49 [.bor]
theorem s_82 : Sound Tryz.prog 49 c_82 := mkF_sound _ rfl snd_nil (by kernel_rfl : chkFn Tryz.prog 49 ir49 ir49_v = true)
theorem M_82 : c_82.modes = [.bor] := rfl
theorem Fl_82 : c_82.flat = true := rfl
attribute [go_sem] M_82 Fl_82
theorem Fs_82 {n : Int} {y_ : Int} (h : impl_unfold n = some y_) : c_82.F [.int .i64 n] = ⟨true, .int .i64 y_, [.any]⟩ := by
 refine mkF_E rfl ?_
 dsimp only [impl_unfold] at h
 obtain ⟨z1, h⟩ := ck_some h
 try simp only [go_sem, n1, n2, n3, n4] at z1
 all_goals
 rcases it_some h with ⟨z2, h⟩ | ⟨z2, h⟩
 ·try simp only [go_sem, n1, n2, n3, n4, z1] at z2
  all_goals
  obtain rfl := so_some h
  refine ⟨0, fun L hL => ?_⟩
  simp only [go_sem, ir49, z1, z2]
 ·try simp only [go_sem, n1, n2, n3, n4, z1] at z2
  all_goals
  obtain rfl := so_some h
  refine ⟨0, fun L hL => ?_⟩
  simp only [go_sem, ir49, z1, z2]


def ir50_v : List Nat := [0, 1, 4]
def ir50 : AFn := ⟨2, 3, .seq (.region false [ VO 2 4 (.mov (.c (.bool false)))]) (.seq (.region false [ PM 5 0, PO 6 (.b2s (.s 0)), PM 7 1, PO 8 (.b2s (.s 0)), PO 9 (.bin false .eql (.s 2) (.s 0)), VS 2 4 0]) (.ret)), [.t 2]⟩
noncomputable def t_bytes_Equal : List (Nat × Ctr) := []
noncomputable def c_bytes_Equal : Ctr := mkF t_bytes_Equal ir50 [.bor, .bor]
theorem s_bytes_Equal : Sound Tryz.prog 50 c_bytes_Equal := mkF_sound _ rfl snd_nil (by kernel_rfl : chkFn Tryz.prog 50 ir50 ir50_v = true)
theorem M_bytes_Equal : c_bytes_Equal.modes = [.bor, .bor] := rfl
theorem Fl_bytes_Equal : c_bytes_Equal.flat = true := rfl
attribute [go_sem] M_bytes_Equal Fl_bytes_Equal
theorem Fs_bytes_Equal {a : List UInt8} {b : List UInt8} {y_ : Bool} (h : bytes_Equal a b = some y_) : c_bytes_Equal.F [.sl 1 (List.map byteAV a), .sl 1 (List.map byteAV b)] = ⟨true, .bool y_, [.any, .any]⟩ := by
 refine mkF_E rfl ?_
 dsimp only [bytes_Equal] at h
 obtain rfl := so_some h
 refine ⟨0, fun L hL => ?_⟩
 simp only [go_sem, ir50]


def ir12_b0 : IR := .seq (.region false [ VO 16 35 (.bin false .lss (.v 15) (.v 14))]) (.seq (.cond (.v 16) (.skip) (.exit 0)) (.seq (.block 1 (.seq (.region false [ PM 36 8, PM 37 4, PO 38 (.call 47 [(.s 0), (I6 10000000)]), PO 39 (.bin false .add (.s 2) (.s 0)), VS 8 9 0]) (.seq (.region false [ PM 40 4, PM 41 5, PO 42 (.call 48 [(.s 0)]), PO 43 (.bin false .sub (.s 0) (I6 1)), PO 44 (.call 47 [(.s 3), (.s 0)]), PM 45 4, PM 46 6, PO 47 (.call 48 [(.s 0)]), PO 48 (.bin false .mul (I6 2) (.s 0)), PO 49 (.bin false .sub (.s 0) (I6 1)), PO 50 (.call 47 [(.s 4), (.s 0)]), VS 10 11 6, VS 11 12 0])
 (.seq (.region false [ PM 51 9, PM 52 4, PO 53 (.call 47 [(.s 0), (I6 44000)]), PO 54 (.call 49 [(.s 0)]), PO 55 (.bin false .add (.s 3) (.s 0)), VS 9 10 0]) (.seq (.test false [ PM 56 4, PO 57 (.nilck (.s 0)), PO 58 (.fldAddr 1 (.s 0)), PO 59 (.load false 1 (.s 0))] (.s 0) (.seq (.region false [ VO 1 2 (.newnil 5), VO 2 3 (.mov (I6 8))]) (.ret)) (.skip)) (.anyo 18 [ SO 0 60 (.mov (.v 7)), SO 1 61 (.mov (.v 8)), SO 2 62 (.mov (.v 5)), SO 3 63 (.mov (.v 10)), SO 4 64 (.ixAddr 1 (.s 2) (.s 3)), SO 5 65 (.load false 1 (.s 4)), SO 6 66 (.mov (.v 6)), SO 7 67 (.mov (.v 11)), SO 8 68 (.bin false
 .quo (.s 7) (I6 2)), SO 9 69 (.ixAddr 1 (.s 6) (.s 8)), SO 10 70 (.load false 1 (.s 9)), SO 11 71 (.mov (.v 9)), SO 12 72 (.mov (.v 11)), SO 13 73 (.bin false .rem (.s 12) (I6 2)), SO 14 74 (.bin false .eql (.s 13) (I6 1)), SO 15 75 (.pur (.build [.int .i64 (0), .str [], .str [], .int .i64 (0), .bool false] [(0, 1, (.s 1)), (1, 1, (.s 5)), (2, 1, (.s 10)), (3, 1, (.s 11)), (4, 1, (.s 14))])), SO 16 76 (.pur (.mkSl 5 (.agg [.int .i64 (0), .str [], .str [], .int .i64 (0), .bool false]) 1 [(0, (.s 15))])), SO 17 77 (.app 5 56 (.agg [.int .i64 (0), .str [], .str [], .int .i64 (0), .bool false])
 (.s 0) (.s 16)), VS 7 8 17] [] .skip)))))) (.region false [ PO 78 (.bin false .add (.v 15) (I6 1)), VS 15 34 0])))
def ir12_k0 : List Bool := [true, false, false, false, true, true, true, true, true, true, false, false, false, false, true, true, false]
def ir12_o0 : List Bool := [true, false, false, false, true, false, false, true, false, false, false, false, false, false, false, false, false]
def ir12_r0 : List Bool := [false, true, true, false, false, false, false, false, false, false, false, false, false, false, false, false, false]
def ir12_v : List Nat := [0, 2, 3, 4, 5, 6, 7, 8, 9, 10, 11, 12, 13, 14, 33, 34, 35]
def ir12 : AFn := ⟨1, 17, .seq (.region false [ VO 1 2 (.newnil 5), VO 2 3 (.mov (I6 0))]) (.seq (.seq (.region false [ PM 15 0, PO 16 (.call 44 [(.s 0), (.c (.fn (.func 45) [] []))]), VS 3 4 0]) (.test false [ PM 17 3, PO 18 (.bin false .neq (.s 0) (I6 0))] (.s 0) (.seq (.region false [ PM 19 3, VO 1 2 (.newnil 5), VS 2 3 0]) (.ret)) (.skip))) (.seq (.region false [ PM 20 0, PM 21 0, PO 22 (.len false (.s 0)), PO 23 (.bin false .sub (.s 0) (I6 2)), PO 24 (.slice 1 (.s 3) (some (I6 1)) (some (.s 0))), PO 25 (.build [.sl 1 [], .bool false] [(0, 1, (.s 0))]), PO 26 (.box (.s 0)), VS 4 5 0]) (.seq
 (.region false [ PM 27 4, PO 28 (.call 46 [(.s 0)]), PM 29 4, PO 30 (.call 46 [(.s 0)]), VS 5 6 2, VS 6 7 0]) (.seq (.region false [ PO 31 (.mkSl 5 (.agg [.int .i64 (0), .str [], .str [], .int .i64 (0), .bool false]) 0 []), VS 7 8 0, VO 8 9 (.mov (I6 0)), VO 9 10 (.mov (I6 0))]) (.seq (.seq (.region false [ PM 32 4, VO 14 33 (.call 47 [(.s 0), (I6 100)]), VO 15 34 (.mov (I6 0))]) (.block 0 (.loop ir12_k0 ir12_o0 ir12_r0 ir12_b0))) (.seq (.region false [ PM 80 7, PO 81 (.call 6 [(.s 0)]), PO 79 (.mov (.s 0)), PO 82 (.ext (.s 0) 0), PO 83 (.ext (.s 1) 1), VS 12 13 1, VS 13 14 0]) (.seq (.test
 false [ PM 84 4, PO 85 (.nilck (.s 0)), PO 86 (.fldAddr 1 (.s 0)), PO 87 (.load false 1 (.s 0)), PO 88 (.mov (.s 0)), ⟨.push, 89, (some ((.s 0), false)), .mov (.v 13)⟩, ⟨.push, 90, (some ((.s 1), false)), .bin false .neq (.s 0) (I6 0)⟩, PO 91 (.pick (.s 2) (.c (.bool true)) (.s 0)), PO 92 (.mov (.s 0)), ⟨.push, 93, (some ((.s 0), false)), .mov (.v 12)⟩, ⟨.push, 94, (some ((.s 1), false)), .mov (.v 0)⟩, ⟨.push, 95, (some ((.s 2), false)), .call 50 [(.s 1), (.s 0)]⟩, ⟨.push, 96, (some ((.s 3), false)), .un .not (.s 0)⟩, PO 97 (.pick (.s 4) (.c (.bool true)) (.s 0))] (.s 0) (.seq (.region false [
 VO 1 2 (.newnil 5), VO 2 3 (.mov (I6 8))]) (.ret)) (.skip)) (.seq (.region false [ PM 98 7, VS 1 2 0, VO 2 3 (.mov (I6 0))]) (.ret))))))))), [.t 1, .t 2]⟩
noncomputable def t_84 : List (Nat × Ctr) := [(44, c_78), (46, c_81), (47, c_80), (48, c_41), (49, c_82), (6, c_47), (50, c_bytes_Equal)]
theorem lk_84_44 : look t_84 44 = some c_78 := rfl
theorem lk_84_46 : look t_84 46 = some c_81 := rfl
theorem lk_84_47 : look t_84 47 = some c_80 := rfl
theorem lk_84_48 : look t_84 48 = some c_41 := rfl
theorem lk_84_49 : look t_84 49 = some c_82 := rfl
theorem lk_84_6 : look t_84 6 = some c_47 := rfl
theorem lk_84_50 : look t_84 50 = some c_bytes_Equal := rfl
noncomputable def c_84 : Ctr := mkF t_84 ir12 [.bor]
theorem s_84 : Sound Tryz.prog 12 c_84 := mkF_sound _ rfl (snd_cons s_78 (snd_cons s_81 (snd_cons s_80 (snd_cons s_41 (snd_cons s_82 (snd_cons s_47 (snd_cons s_bytes_Equal snd_nil))))))) (by kernel_rfl : chkFn Tryz.prog 12 ir12 ir12_v = true)
theorem M_84 : c_84.modes = [.bor] := rfl
theorem Fl_84 : c_84.flat = true := rfl
attribute [go_sem] M_84 Fl_84
attribute [go_sem] lk_84_44 lk_84_46 lk_84_47 lk_84_48 lk_84_49 lk_84_6 lk_84_50
def E_84_l1 (b : List UInt8) (stars : List (List UInt8)) (observers : List (List UInt8)) (t33 : Int) : (Unpacker × (List Estimate) × Int × Int × Int) → St
 | (u, list, time, mag, t34) => ⟨[.sl 1 (List.map byteAV b), .any, .any, .any, .ref 3200000 0 0, .own 3200032, .own 3200064, .own 3200096, .int .i64 time, .int .i64 mag, .any, .any, .any, .any, .int .i64 t33, .int .i64 t34, .any], [], [(3200000, ⟨2, [Unpacker_av u]⟩), (3200032, ⟨1, List.map AV.str stars⟩), (3200064, ⟨1, List.map AV.str observers⟩), (3200096, ⟨5, List.map Estimate_av list⟩)], true⟩
def R_84_l1 (b : List UInt8) (stars : List (List UInt8)) (observers : List (List UInt8)) (t33 : Int) : ((Unpacker × (List Estimate)) ⊕ ((List Estimate) × Int)) → Res
 | .inl y => (.exit 0, ⟨[.sl 1 (List.map byteAV b), .any, .any, .any, .ref 3200000 0 0, .any, .any, .own 3200032, .any, .any, .any, .any, .any, .any, .any, .any, .any], [], [(3200000, ⟨2, [Unpacker_av y.1]⟩), (3200032, ⟨5, List.map Estimate_av y.2⟩)], true⟩)
 | .inr y => (.ret, ⟨[.any, .own 3200000, .int .i64 y.2, .any, .any, .any, .any, .any, .any, .any, .any, .any, .any, .any, .any, .any, .any], [], [(3200000, ⟨5, List.map Estimate_av y.1⟩)], true⟩)
theorem impl_UnpackEstimates_l1_ex {b : List UInt8} {stars : List (List UInt8)} {observers : List (List UInt8)} {t33 : Int} {sgm_ : Unpacker × (List Estimate) × Int × Int × Int} {rho_ : (Unpacker × (List Estimate)) ⊕ ((List Estimate) × Int)} (h : whileE (impl_UnpackEstimates_l1 b stars observers t33) sgm_ = some rho_) : ∃ L0, ∀ L, L0 ≤ L → iter (exec (look t_84) L ir12_b0) ir12_k0 ir12_o0 ir12_r0 L (E_84_l1 b stars observers t33 sgm_) = R_84_l1 b stars observers t33 rho_ := by
 refine loop_ex (E := E_84_l1 b stars observers t33) (R := R_84_l1 b stars observers t33) (fun y => by first | (intro c; cases c) | (rcases y with y | y <;> (intro c; cases c)) | (rcases y with y | y | y <;> (intro c; cases c))) ?_ h
 clear h
 rintro ⟨u, list, time, mag, t34⟩ o_ h
 dsimp only [impl_UnpackEstimates_l1] at h
 rcases it_some h with ⟨z7, h⟩ | ⟨z7, h⟩
 ·try simp only [go_sem, n1, n2, n3, n4] at z7
  all_goals
  obtain ⟨y_8, z8, h⟩ := bd_some h
  have fz8 := Fs_80 z8
  try simp only [go_sem, z7] at fz8
  obtain ⟨y_9, z9, h⟩ := bd_some h
  have fz9 := Fs_41 z9
  try simp only [go_sem, z7] at fz9
  obtain ⟨y_10, z10, h⟩ := bd_some h
  have fz10 := Fs_80 z10
  try simp only [go_sem, z7] at fz10
  obtain ⟨y_11, z11, h⟩ := bd_some h
  have fz11 := Fs_41 z11
  try simp only [go_sem, z7] at fz11
  obtain ⟨y_12, z12, h⟩ := bd_some h
  have fz12 := Fs_80 z12
  try simp only [go_sem, z7] at fz12
  obtain ⟨y_13, z13, h⟩ := bd_some h
  have fz13 := Fs_80 z13
  try simp only [go_sem, z7] at fz13
  obtain ⟨y_14, z14, h⟩ := bd_some h
  have fz14 := Fs_82 z14
  try simp only [go_sem, z7] at fz14
  rcases it_some h with ⟨z15, h⟩ | ⟨z15, h⟩
  ·try simp only [go_sem, n1, n2, n3, n4, z7] at z15
   all_goals
   obtain rfl := so_some h
   refine ⟨0, fun L hL => ?_⟩
   simp only [go_sem, ir12, E_84_l1, R_84_l1, ir12_b0, ir12_k0, ir12_o0, ir12_r0, z7, fz8, fz9, fz10, fz11, fz12, fz13, fz14, z15]
  ·try simp only [go_sem, n1, n2, n3, n4, z7] at z15
   all_goals
   obtain ⟨z16, h⟩ := ck_some h
   have lz16 := ix_lt z16
   have xz16 := getD_mapD AV.str stars lz16
   try simp only [go_sem] at lz16
   try simp only [go_sem] at xz16
   try simp only [go_sem, n1, n2, n3, n4, z7, z15] at z16
   all_goals
   obtain ⟨z17, h⟩ := ck_some h
   try simp only [go_sem, n1, n2, n3, n4, z7, z15, z16] at z17
   all_goals
   obtain ⟨z18, h⟩ := ck_some h
   have lz18 := ix_lt z18
   have xz18 := getD_mapD AV.str observers lz18
   try simp only [go_sem] at lz18
   try simp only [go_sem] at xz18
   try simp only [go_sem, n1, n2, n3, n4, z7, z15, z16, z17] at z18
   all_goals
   obtain ⟨z19, h⟩ := ck_some h
   try simp only [go_sem, n1, n2, n3, n4, z7, z15, z16, z17, z18] at z19
   all_goals
   obtain rfl := so_some h
   refine ⟨0, fun L hL => ?_⟩
   simp only [go_sem, ir12, E_84_l1, R_84_l1, ir12_b0, ir12_k0, ir12_o0, ir12_r0, z7, fz8, fz9, fz10, fz11, fz12, fz13, fz14, z15, z16, lz16, xz16, z17, z18, lz18, xz18, z19]
 ·try simp only [go_sem, n1, n2, n3, n4] at z7
  all_goals
  obtain rfl := so_some h
  refine ⟨0, fun L hL => ?_⟩
  simp only [go_sem, ir12, E_84_l1, R_84_l1, ir12_b0, ir12_k0, ir12_o0, ir12_r0, z7]

theorem Fs_84 {b : List UInt8} {y_ : (List Estimate) × Int} (h : impl_UnpackEstimates b = some y_) : c_84.F [.sl 1 (List.map byteAV b)] = ⟨true, .tup [.fresh 5 (List.map Estimate_av y_.1), .int .i64 y_.2], [.any]⟩ := by
 refine mkF_E (by simp only [flatA, flatB, flat1, List.all_cons, List.all_nil, Bool.and_self, flatE_map (f := Estimate_av) (fun _ => rfl)]) ?_
 dsimp only [impl_UnpackEstimates] at h
 obtain ⟨y_1, z1, h⟩ := bd_some h
 have fz1 := Fs_78 z1
 try simp only [go_sem] at fz1
 rcases it_some h with ⟨z2, h⟩ | ⟨z2, h⟩
 ·try simp only [go_sem, n1, n2, n3, n4] at z2
  all_goals
  obtain rfl := so_some h
  refine ⟨0, fun L hL => ?_⟩
  simp only [go_sem, ir12, E_84_l1, R_84_l1, ir12_k0, ir12_o0, ir12_r0, fz1, z2]
 ·try simp only [go_sem, n1, n2, n3, n4] at z2
  all_goals
  obtain ⟨z3, h⟩ := ck_some h
  try simp only [go_sem, n1, n2, n3, n4, z2] at z3
  all_goals
  obtain ⟨y_4, z4, h⟩ := bd_some h
  have fz4 := Fs_81 z4
  try simp only [go_sem, z2, z3] at fz4
  obtain ⟨y_5, z5, h⟩ := bd_some h
  have fz5 := Fs_81 z5
  try simp only [go_sem, z2, z3] at fz5
  obtain ⟨y_6, z6, h⟩ := bd_some h
  have fz6 := Fs_80 z6
  try simp only [go_sem, z2, z3] at fz6
  obtain ⟨y_20, z20, h⟩ := bd_some h
  obtain ⟨Lz20, ez20⟩ := impl_UnpackEstimates_l1_ex z20
  rcases y_20 with y_20a | y_20b
  ·dsimp only at h
   obtain ⟨y_21, z21, h⟩ := bd_some h
   have fz21 := Fs_47 z21
   try simp only [go_sem, z2, z3] at fz21
   obtain ⟨z22, h⟩ := ck_some h
   rcases or_split z22 with ⟨gz22, z22⟩ | gz22
   ·try simp only [go_sem, n1, n2, n3, n4, z2, z3] at gz22
    all_goals
    obtain ⟨y_22, hz22⟩ := Option.isSome_iff_exists.1 z22
    have fz22 := Fs_bytes_Equal hz22
    try simp only [go_sem, n1, n2, n3, n4, z2, z3, gz22] at hz22
    all_goals
    try simp only [go_sem, z2, z3, gz22] at fz22
    rcases it_some h with ⟨z23, h⟩ | ⟨z23, h⟩
    ·try simp only [go_sem, n1, n2, n3, n4, z2, z3, gz22, hz22] at z23
     all_goals
     obtain rfl := so_some h
     refine ⟨Lz20, fun L hL => ?_⟩
     have ez20 := ez20 L (by omega)
     try simp only [go_sem, E_84_l1, R_84_l1, ir12_k0, ir12_o0, ir12_r0, z2, z3, gz22, hz22, z23] at ez20
     simp only [go_sem, ir12, E_84_l1, R_84_l1, ir12_k0, ir12_o0, ir12_r0, fz1, z2, z3, fz4, fz5, fz6, fz21, gz22, hz22, fz22, z23, ez20]
    ·try simp only [go_sem, n1, n2, n3, n4, z2, z3, gz22, hz22] at z23
     all_goals
     obtain rfl := so_some h
     refine ⟨Lz20, fun L hL => ?_⟩
     have ez20 := ez20 L (by omega)
     try simp only [go_sem, E_84_l1, R_84_l1, ir12_k0, ir12_o0, ir12_r0, z2, z3, gz22, hz22, z23] at ez20
     simp only [go_sem, ir12, E_84_l1, R_84_l1, ir12_k0, ir12_o0, ir12_r0, fz1, z2, z3, fz4, fz5, fz6, fz21, gz22, hz22, fz22, z23, ez20]
   ·have gz22n := no_f gz22
    rcases or_t gz22n with gz22na | ⟨gz22na, gz22nb⟩
    ·try simp only [go_sem, n1, n2, n3, n4, z2, z3] at gz22na
     all_goals
     rcases it_some h with ⟨z23, h⟩ | ⟨z23, h⟩
     ·try simp only [go_sem, n1, n2, n3, n4, z2, z3, gz22na] at z23
      all_goals
      obtain rfl := so_some h
      refine ⟨Lz20, fun L hL => ?_⟩
      have ez20 := ez20 L (by omega)
      try simp only [go_sem, E_84_l1, R_84_l1, ir12_k0, ir12_o0, ir12_r0, z2, z3, gz22na, z23] at ez20
      simp only [go_sem, ir12, E_84_l1, R_84_l1, ir12_k0, ir12_o0, ir12_r0, fz1, z2, z3, fz4, fz5, fz6, fz21, gz22na, z23, ez20]
     ·try simp only [go_sem, n1, n2, n3, n4, z2, z3, gz22na] at z23
      all_goals
      (simp_all)
    ·have gz22nbn := no_t gz22nb
     try simp only [go_sem, n1, n2, n3, n4, z2, z3] at gz22na
     all_goals
     try simp only [go_sem, n1, n2, n3, n4, z2, z3, gz22na] at gz22nbn
     all_goals
     rcases it_some h with ⟨z23, h⟩ | ⟨z23, h⟩
     ·try simp only [go_sem, n1, n2, n3, n4, z2, z3, gz22na, gz22nbn] at z23
      all_goals
      obtain rfl := so_some h
      refine ⟨Lz20, fun L hL => ?_⟩
      have ez20 := ez20 L (by omega)
      try simp only [go_sem, E_84_l1, R_84_l1, ir12_k0, ir12_o0, ir12_r0, z2, z3, gz22na, gz22nbn, z23] at ez20
      simp only [go_sem, ir12, E_84_l1, R_84_l1, ir12_k0, ir12_o0, ir12_r0, fz1, z2, z3, fz4, fz5, fz6, fz21, gz22na, gz22nbn, z23, ez20]
     ·try simp only [go_sem, n1, n2, n3, n4, z2, z3, gz22na, gz22nbn] at z23
      all_goals
      (simp_all)
  ·dsimp only at h
   obtain rfl := so_some h
   refine ⟨Lz20, fun L hL => ?_⟩
   have ez20 := ez20 L (by omega)
   try simp only [go_sem, E_84_l1, R_84_l1, ir12_k0, ir12_o0, ir12_r0, z2, z3] at ez20
   simp only [go_sem, ir12, E_84_l1, R_84_l1, ir12_k0, ir12_o0, ir12_r0, fz1, z2, z3, fz4, fz5, fz6, ez20]


def ir51_v : List Nat := [0, 1, 4, 5, 6]
def ir51 : AFn := ⟨2, 5, .seq (.region false [ VO 2 4 (.mov (I6 0))]) (.seq (.region false [ PM 7 0, PO 8 (.len false (.s 0)), VS 3 5 0]) (.seq (.test false [ PM 9 3, PO 10 (.bin false .lss (.s 0) (I6 3)), PO 11 (.mov (.s 0)), ⟨.push, 12, (some ((.s 0), false)), .mov (.v 3)⟩, ⟨.push, 13, (some ((.s 1), false)), .bin false .gtr (.s 0) (I6 8000)⟩, PO 14 (.pick (.s 2) (.c (.bool true)) (.s 0)), PO 15 (.mov (.s 0)), ⟨.push, 16, (some ((.s 0), false)), .mov (.v 0)⟩, ⟨.push, 17, (some ((.s 1), false)), .ixAddr 1 (.s 0) (I6 0)⟩, ⟨.push, 18, (some ((.s 2), false)), .load false 1 (.s 0)⟩, ⟨.push, 19,
 (some ((.s 3), false)), .conv .i64 (.s 0)⟩, ⟨.push, 20, (some ((.s 4), false)), .mov (.v 1)⟩, ⟨.push, 21, (some ((.s 5), false)), .bin false .neq (.s 1) (.s 0)⟩, PO 22 (.pick (.s 6) (.c (.bool true)) (.s 0))] (.s 0) (.seq (.region false [ VO 2 4 (.mov (I6 8))]) (.ret)) (.skip)) (.seq (.anyo 14 [ SO 0 23 (.mov (.v 0)), SO 1 24 (.mov (.v 3)), SO 2 25 (.bin false .sub (.s 1) (I6 2)), SO 3 26 (.ixAddr 1 (.s 0) (.s 2)), SO 4 27 (.load false 1 (.s 3)), SO 5 28 (.conv .i64 (.s 4)), SO 6 29 (.bin false .mul (I6 256) (.s 5)), SO 7 30 (.mov (.v 0)), SO 8 31 (.mov (.v 3)), SO 9 32 (.bin false .sub (.s 8)
 (I6 1)), SO 10 33 (.ixAddr 1 (.s 7) (.s 9)), SO 11 34 (.load false 1 (.s 10)), SO 12 35 (.conv .i64 (.s 11)), SO 13 36 (.bin false .add (.s 6) (.s 12)), VS 4 6 13] [] .skip) (.seq (.test false [ PM 37 4, PM 38 0, PM 39 3, PO 40 (.bin false .sub (.s 0) (I6 2)), PO 41 (.slice 1 (.s 2) none (some (.s 0))), PO 42 (.call 86 [(.s 0)]), PO 43 (.bin false .neq (.s 5) (.s 0))] (.s 0) (.seq (.region false [ VO 2 4 (.mov (I6 9))]) (.ret)) (.skip)) (.seq (.region false [ VO 2 4 (.mov (I6 0))]) (.ret)))))), [.t 2]⟩
noncomputable def t_85 : List (Nat × Ctr) := [(86, c_62)]
theorem lk_85_86 : look t_85 86 = some c_62 := rfl
noncomputable def c_85 : Ctr := mkF t_85 ir51 [.bor, .bor]
theorem s_85 : Sound Tryz.prog 51 c_85 := mkF_sound _ rfl (snd_cons s_62 snd_nil) (by kernel_rfl : chkFn Tryz.prog 51 ir51 ir51_v = true)
theorem M_85 : c_85.modes = [.bor, .bor] := rfl
theorem Fl_85 : c_85.flat = true := rfl
attribute [go_sem] M_85 Fl_85
attribute [go_sem] lk_85_86
theorem Fs_85 {b : List UInt8} {kind : Int} {y_ : Int} (h : spec_l25Open b kind = some y_) : c_85.F [.sl 1 (List.map byteAV b), .int .i64 kind] = ⟨true, .int .i64 y_, [.any, .any]⟩ := by
 refine mkF_E rfl ?_
 dsimp only [spec_l25Open] at h
 obtain ⟨z1, h⟩ := ck_some h
 rcases or_split z1 with ⟨gz1, z1⟩ | gz1
 ·try simp only [go_sem, n1, n2, n3, n4] at gz1
  all_goals
  have lz1 := ix_lt z1
  have xz1 := getD_mapD byteAV b lz1
  try simp only [go_sem] at lz1
  try simp only [go_sem] at xz1
  try simp only [go_sem, n1, n2, n3, n4, gz1] at z1
  all_goals
  rcases it_some h with ⟨z2, h⟩ | ⟨z2, h⟩
  ·try simp only [go_sem, n1, n2, n3, n4, gz1, z1] at z2
   all_goals
   obtain rfl := so_some h
   refine ⟨0, fun L hL => ?_⟩
   simp only [go_sem, ir51, gz1, z1, lz1, xz1, z2]
  ·try simp only [go_sem, n1, n2, n3, n4, gz1, z1] at z2
   all_goals
   obtain ⟨z3, h⟩ := ck_some h
   have lz3 := ix_lt z3
   have xz3 := getD_mapD byteAV b lz3
   try simp only [go_sem] at lz3
   try simp only [go_sem] at xz3
   try simp only [go_sem, n1, n2, n3, n4, gz1, z1, z2] at z3
   all_goals
   obtain ⟨z4, h⟩ := ck_some h
   have lz4 := ix_lt z4
   have xz4 := getD_mapD byteAV b lz4
   try simp only [go_sem] at lz4
   try simp only [go_sem] at xz4
   try simp only [go_sem, n1, n2, n3, n4, gz1, z1, z2, z3] at z4
   all_goals
   obtain ⟨z5, h⟩ := ck_some h
   try simp only [go_sem, n1, n2, n3, n4, gz1, z1, z2, z3, z4] at z5
   all_goals
   obtain ⟨y_6, z6, h⟩ := bd_some h
   have fz6 := Fs_62 z6
   try simp only [go_sem, gz1, z1, z2, z3, z4, z5] at fz6
   rcases it_some h with ⟨z7, h⟩ | ⟨z7, h⟩
   ·try simp only [go_sem, n1, n2, n3, n4, gz1, z1, z2, z3, z4, z5] at z7
    all_goals
    obtain rfl := so_some h
    refine ⟨0, fun L hL => ?_⟩
    simp only [go_sem, ir51, gz1, z1, lz1, xz1, z2, z3, lz3, xz3, z4, lz4, xz4, z5, fz6, z7]
   ·try simp only [go_sem, n1, n2, n3, n4, gz1, z1, z2, z3, z4, z5] at z7
    all_goals
    obtain rfl := so_some h
    refine ⟨0, fun L hL => ?_⟩
    simp only [go_sem, ir51, gz1, z1, lz1, xz1, z2, z3, lz3, xz3, z4, lz4, xz4, z5, fz6, z7]
 ·have gz1n := no_f gz1
  rcases or_t gz1n with gz1na | ⟨gz1na, gz1nb⟩
  ·try simp only [go_sem, n1, n2, n3, n4] at gz1na
   all_goals
   rcases it_some h with ⟨z2, h⟩ | ⟨z2, h⟩
   ·try simp only [go_sem, n1, n2, n3, n4, gz1na] at z2
    all_goals
    obtain rfl := so_some h
    refine ⟨0, fun L hL => ?_⟩
    simp only [go_sem, ir51, gz1na, z2]
   ·try simp only [go_sem, n1, n2, n3, n4, gz1na] at z2
    all_goals
    (simp_all)
  ·try simp only [go_sem, n1, n2, n3, n4] at gz1na
   all_goals
   try simp only [go_sem, n1, n2, n3, n4, gz1na] at gz1nb
   all_goals
   rcases it_some h with ⟨z2, h⟩ | ⟨z2, h⟩
   ·try simp only [go_sem, n1, n2, n3, n4, gz1na, gz1nb] at z2
    all_goals
    obtain rfl := so_some h
    refine ⟨0, fun L hL => ?_⟩
    simp only [go_sem, ir51, gz1na, gz1nb, z2]
   ·try simp only [go_sem, n1, n2, n3, n4, gz1na, gz1nb] at z2
    all_goals
    (simp_all)


def ir88_b0 : IR := .seq (.test false [ PM 7 5, PM 8 0, PO 9 (.len false (.s 0)), PO 10 (.bin false .lss (.s 2) (.s 0)), PO 11 (.mov (.s 0)), ⟨.push, 12, (some ((.s 0), true)), .mov (.v 5)⟩, ⟨.push, 13, (some ((.s 1), true)), .bin false .lss (.s 0) (I6 9)⟩, PO 14 (.pick (.s 2) (.s 0) (.c (.bool false)))] (.s 0) (.skip) (.exit 0)) (.seq (.block 1 (.seq (.region false [ PM 17 4, PM 18 0, PM 19 5, PO 20 (.ixAddr 1 (.s 1) (.s 0)), PO 21 (.load false 1 (.s 0)), PO 22 (.bin false .and (.s 0) (.c (.int .u8 (127)))), PO 23 (.conv .i64 (.s 0)), PM 24 5, PO 25 (.bin false .mul (I6 7) (.s 0)), PO 26
 (.conv .u64 (.s 0)), PO 27 (.bin false .shl (.s 3) (.s 0)), PO 28 (.bin false .add (.s 10) (.s 0)), VS 4 5 0]) (.test false [ PM 29 0, PM 30 5, PO 31 (.ixAddr 1 (.s 1) (.s 0)), PO 32 (.load false 1 (.s 0)), PO 33 (.bin false .lss (.s 0) (.c (.int .u8 (128))))] (.s 0) (.seq (.test false [ PM 34 5, PO 35 (.bin false .gtr (.s 0) (I6 0)), PO 36 (.mov (.s 0)), ⟨.push, 37, (some ((.s 0), true)), .mov (.v 0)⟩, ⟨.push, 38, (some ((.s 1), true)), .mov (.v 5)⟩, ⟨.push, 39, (some ((.s 2), true)), .ixAddr 1 (.s 1) (.s 0)⟩, ⟨.push, 40, (some ((.s 3), true)), .load false 1 (.s 0)⟩, ⟨.push, 41, (some ((.s
 4), true)), .bin false .eql (.s 0) (.c (.int .u8 (0)))⟩, PO 42 (.pick (.s 5) (.s 0) (.c (.bool false)))] (.s 0) (.seq (.region false [ VO 1 2 (.mov (I6 0)), VO 2 3 (.mov (I6 0)), VO 3 4 (.mov (.c (.bool false)))]) (.ret)) (.skip)) (.seq (.region false [ PM 43 4, PM 44 5, PO 45 (.bin false .add (.s 0) (I6 1)), VS 1 2 2, VS 2 3 0, VO 3 4 (.mov (.c (.bool true)))]) (.ret))) (.skip)))) (.region false [ PM 15 5, PO 16 (.bin false .add (.s 0) (I6 1)), VS 5 6 0]))
def ir88_k0 : List Bool := [true, false, false, false, true, true]
def ir88_o0 : List Bool := [false, false, false, false, false, false]
def ir88_r0 : List Bool := [false, true, true, true, false, false]
def ir88_v : List Nat := [0, 2, 3, 4, 5, 6]
def ir88 : AFn := ⟨1, 6, .seq (.region false [ VO 1 2 (.mov (I6 0)), VO 2 3 (.mov (I6 0)), VO 3 4 (.mov (.c (.bool false)))]) (.seq (.region false [ VO 4 5 (.mov (I6 0))]) (.seq (.seq (.region false [ VO 5 6 (.mov (I6 0))]) (.block 0 (.loop ir88_k0 ir88_o0 ir88_r0 ir88_b0))) (.seq (.region false [ VO 1 2 (.mov (I6 0)), VO 2 3 (.mov (I6 0)), VO 3 4 (.mov (.c (.bool false)))]) (.ret)))), [.t 1, .t 2, .t 3]⟩
noncomputable def t_86 : List (Nat × Ctr) := []
noncomputable def c_86 : Ctr := mkF t_86 ir88 [.bor]
theorem s_86 : Sound Tryz.prog 88 c_86 := mkF_sound _ rfl snd_nil (by kernel_rfl : chkFn Tryz.prog 88 ir88 ir88_v = true)
theorem M_86 : c_86.modes = [.bor] := rfl
theorem Fl_86 : c_86.flat = true := rfl
attribute [go_sem] M_86 Fl_86
def E_86_l1 (b : List UInt8) : (Int × Int) → St
 | (n, i) => ⟨[.sl 1 (List.map byteAV b), .any, .any, .any, .int .i64 n, .int .i64 i], [], [], true⟩
def R_86_l1 (b : List UInt8) : (Unit ⊕ (Int × Int × Bool)) → Res
 | .inl y => (.exit 0, ⟨[.any, .any, .any, .any, .any, .any], [], [], true⟩)
 | .inr y => (.ret, ⟨[.any, .int .i64 y.1, .int .i64 y.2.1, .bool y.2.2, .any, .any], [], [], true⟩)
theorem spec_l25Read_l1_ex {b : List UInt8} {sgm_ : Int × Int} {rho_ : Unit ⊕ (Int × Int × Bool)} (h : whileE (spec_l25Read_l1 b) sgm_ = some rho_) : ∃ L0, ∀ L, L0 ≤ L → iter (exec (look t_86) L ir88_b0) ir88_k0 ir88_o0 ir88_r0 L (E_86_l1 b sgm_) = R_86_l1 b rho_ := by
 refine loop_ex (E := E_86_l1 b) (R := R_86_l1 b) (fun y => by first | (intro c; cases c) | (rcases y with y | y <;> (intro c; cases c)) | (rcases y with y | y | y <;> (intro c; cases c))) ?_ h
 clear h
 rintro ⟨n, i⟩ o_ h
 dsimp only [spec_l25Read_l1] at h
 rcases it_some h with ⟨z1, h⟩ | ⟨z1, h⟩
 ·try simp only [go_sem, n1, n2, n3, n4] at z1
  all_goals
  obtain ⟨z2, h⟩ := ck_some h
  have lz2 := ix_lt z2
  have xz2 := getD_mapD byteAV b lz2
  try simp only [go_sem] at lz2
  try simp only [go_sem] at xz2
  try simp only [go_sem, n1, n2, n3, n4, z1] at z2
  all_goals
  obtain ⟨z3, h⟩ := ck_some h
  try simp only [go_sem, n1, n2, n3, n4, z1, z2] at z3
  all_goals
  rcases it_some h with ⟨z4, h⟩ | ⟨z4, h⟩
  ·try simp only [go_sem, n1, n2, n3, n4, z1, z2, z3] at z4
   all_goals
   rcases it_some h with ⟨z5, h⟩ | ⟨z5, h⟩
   ·try simp only [go_sem, n1, n2, n3, n4, z1, z2, z3, z4] at z5
    all_goals
    obtain rfl := so_some h
    refine ⟨0, fun L hL => ?_⟩
    simp only [go_sem, ir88, E_86_l1, R_86_l1, ir88_b0, ir88_k0, ir88_o0, ir88_r0, z1, z2, lz2, xz2, z3, z4, z5]
   ·try simp only [go_sem, n1, n2, n3, n4, z1, z2, z3, z4] at z5
    all_goals
    obtain rfl := so_some h
    refine ⟨0, fun L hL => ?_⟩
    simp only [go_sem, ir88, E_86_l1, R_86_l1, ir88_b0, ir88_k0, ir88_o0, ir88_r0, z1, z2, lz2, xz2, z3, z4, z5]
  ·try simp only [go_sem, n1, n2, n3, n4, z1, z2, z3] at z4
   all_goals
   obtain rfl := so_some h
   refine ⟨0, fun L hL => ?_⟩
   simp only [go_sem, ir88, E_86_l1, R_86_l1, ir88_b0, ir88_k0, ir88_o0, ir88_r0, z1, z2, lz2, xz2, z3, z4]
 ·try simp only [go_sem, n1, n2, n3, n4] at z1
  all_goals
  obtain rfl := so_some h
  refine ⟨0, fun L hL => ?_⟩
  simp only [go_sem, ir88, E_86_l1, R_86_l1, ir88_b0, ir88_k0, ir88_o0, ir88_r0, z1]

theorem Fs_86 {b : List UInt8} {y_ : Int × Int × Bool} (h : spec_l25Read b = some y_) : c_86.F [.sl 1 (List.map byteAV b)] = ⟨true, .tup [.int .i64 y_.1, .int .i64 y_.2.1, .bool y_.2.2], [.any]⟩ := by
 refine mkF_E rfl ?_
 dsimp only [spec_l25Read] at h
 obtain ⟨y_6, z6, h⟩ := bd_some h
 obtain ⟨Lz6, ez6⟩ := spec_l25Read_l1_ex z6
 rcases y_6 with y_6a | y_6b
 ·dsimp only at h
  obtain rfl := so_some h
  refine ⟨Lz6, fun L hL => ?_⟩
  have ez6 := ez6 L (by omega)
  try simp only [go_sem, E_86_l1, R_86_l1, ir88_k0, ir88_o0, ir88_r0] at ez6
  simp only [go_sem, ir88, E_86_l1, R_86_l1, ir88_k0, ir88_o0, ir88_r0, ez6]
 ·dsimp only at h
  obtain rfl := so_some h
  refine ⟨Lz6, fun L hL => ?_⟩
  have ez6 := ez6 L (by omega)
  try simp only [go_sem, E_86_l1, R_86_l1, ir88_k0, ir88_o0, ir88_r0] at ez6
  simp only [go_sem, ir88, E_86_l1, R_86_l1, ir88_k0, ir88_o0, ir88_r0, ez6]


def ir55_v : List Nat := [0, 1, 4, 5, 6, 7]
def ir55 : AFn := ⟨2, 6, .seq (.region false [ VO 2 4 (.mov (I6 0))]) (.seq (.anyo 14 [ SO 0 9 (.mov (.v 0)), SO 1 10 (.nilck (.s 0)), SO 2 11 (.fldAddr 0 (.s 1)), SO 3 12 (.load false 1 (.s 2)), SO 4 13 (.mov (.v 0)), SO 5 14 (.nilck (.s 4)), SO 6 15 (.fldAddr 1 (.s 5)), SO 7 16 (.load false 1 (.s 6)), SO 8 17 (.pur (.slice 1 (.s 3) (some (.s 7)) none)), SO 9 18 (.call 88 [(.s 8)]), SO 10 8 (.mov (.s 9)), SO 11 19 (.ext (.s 10) 0), SO 12 20 (.ext (.s 10) 1), SO 13 21 (.ext (.s 10) 2), VS 3 5 11, VS 4 6 12, VS 5 7 13] [] .skip) (.seq (.test false [ PM 22 5, PO 23 (.un .not (.s 0)), PO 24 (.mov
 (.s 0)), ⟨.push, 25, (some ((.s 0), false)), .mov (.v 3)⟩, ⟨.push, 26, (some ((.s 1), false)), .mov (.v 1)⟩, ⟨.push, 27, (some ((.s 2), false)), .bin false .gtr (.s 1) (.s 0)⟩, PO 28 (.pick (.s 3) (.c (.bool true)) (.s 0))] (.s 0) (.seq (.region false [ PM 29 0, PO 30 (.nilck (.s 0)), PO 31 (.fldAddr 2 (.s 0)), ⟨.no, 0, none, .store 1 (.s 0) (.c (.bool false))⟩]) (.seq (.region false [ VO 2 4 (.mov (I6 0))]) (.ret))) (.skip)) (.seq (.region false [ PM 32 0, PO 33 (.nilck (.s 0)), PO 34 (.fldAddr 1 (.s 0)), PO 35 (.load false 1 (.s 0)), PM 36 4, PO 37 (.bin false .add (.s 1) (.s 0)), PO 38
 (.nilck (.s 5)), PO 39 (.fldAddr 1 (.s 0)), ⟨.no, 0, none, .store 1 (.s 0) (.s 2)⟩]) (.seq (.region false [ PM 40 3, VS 2 4 0]) (.ret))))), [.t 2]⟩
noncomputable def t_87 : List (Nat × Ctr) := [(88, c_86)]
theorem lk_87_88 : look t_87 88 = some c_86 := rfl
noncomputable def c_87 : Ctr := mkN t_87 ir55 [.io, .bor]
theorem s_87 : Sound Tryz.prog 55 c_87 := mkN_sound _ (snd_cons s_86 snd_nil) (by kernel_rfl : chkFn Tryz.prog 55 ir55 ir55_v = true)
theorem M_87 : c_87.modes = [.io, .bor] := rfl
theorem Fl_87 : c_87.flat = false := rfl
attribute [go_sem] M_87 Fl_87
attribute [go_sem] lk_87_88
theorem Fs_87 {r : L25R} {most : Int} {y_ : Int × L25R} (h : spec_l25R_number r most = some y_) : c_87.F [.mem 3 [L25R_av r] 0, .int .i64 most] = ⟨true, .int .i64 y_.1, [.mem 3 [L25R_av y_.2] 0, .any]⟩ := by
 refine mkN_E ?_
 dsimp only [spec_l25R_number] at h
 obtain ⟨z1, h⟩ := ck_some h
 try simp only [go_sem, n1, n2, n3, n4] at z1
 all_goals
 obtain ⟨y_2, z2, h⟩ := bd_some h
 have fz2 := Fs_86 z2
 try simp only [go_sem, z1] at fz2
 rcases it_some h with ⟨z3, h⟩ | ⟨z3, h⟩
 ·try simp only [go_sem, n1, n2, n3, n4, z1] at z3
  all_goals
  obtain rfl := so_some h
  refine ⟨0, fun L hL => ?_⟩
  simp only [go_sem, ir55, z1, fz2, z3]
 ·try simp only [go_sem, n1, n2, n3, n4, z1] at z3
  all_goals
  obtain rfl := so_some h
  refine ⟨0, fun L hL => ?_⟩
  simp only [go_sem, ir55, z1, fz2, z3]


def ir87_b0 : IR := .seq (.test false [ PM 9 3, PO 10 (.bin false .gtr (.s 0) (I6 0)), PO 11 (.mov (.s 0)), ⟨.push, 12, (some ((.s 0), true)), .mov (.v 0)⟩, ⟨.push, 13, (some ((.s 1), true)), .nilck (.s 0)⟩, ⟨.push, 14, (some ((.s 2), true)), .fldAddr 2 (.s 0)⟩, ⟨.push, 15, (some ((.s 3), true)), .load false 1 (.s 0)⟩, PO 16 (.pick (.s 4) (.s 0) (.c (.bool false)))] (.s 0) (.skip) (.exit 0)) (.seq (.block 1 (.seq (.region false [ PM 19 0, PO 20 (.call 55 [(.s 0), (I6 12)]), VS 4 5 0]) (.seq (.anyo 12 [ SO 0 21 (.mov (.v 0)), SO 1 22 (.nilck (.s 0)), SO 2 23 (.fldAddr 1 (.s 1)), SO 3 24 (.load
 false 1 (.s 2)), SO 4 25 (.mov (.v 4)), SO 5 26 (.bin false .add (.s 3) (.s 4)), SO 6 27 (.mov (.v 0)), SO 7 28 (.nilck (.s 6)), SO 8 29 (.fldAddr 0 (.s 7)), SO 9 30 (.load false 1 (.s 8)), SO 10 31 (.len false (.s 9)), SO 11 32 (.bin false .gtr (.s 5) (.s 10))] [] (.cond (.s 11) (.seq (.region false [ PM 33 0, PO 34 (.nilck (.s 0)), PO 35 (.fldAddr 2 (.s 0)), ⟨.no, 0, none, .store 1 (.s 0) (.c (.bool false))⟩]) (.exit 0)) (.skip))) (.seq (.anyo 19 [ SO 0 36 (.mov (.v 2)), SO 1 37 (.mov (.v 0)), SO 2 38 (.nilck (.s 1)), SO 3 39 (.fldAddr 0 (.s 2)), SO 4 40 (.load false 1 (.s 3)), SO 5 41 (.mov
 (.v 0)), SO 6 42 (.nilck (.s 5)), SO 7 43 (.fldAddr 1 (.s 6)), SO 8 44 (.load false 1 (.s 7)), SO 9 45 (.mov (.v 0)), SO 10 46 (.nilck (.s 9)), SO 11 47 (.fldAddr 1 (.s 10)), SO 12 48 (.load false 1 (.s 11)), SO 13 49 (.mov (.v 4)), SO 14 50 (.bin false .add (.s 12) (.s 13)), SO 15 51 (.pur (.slice 1 (.s 4) (some (.s 8)) (some (.s 14)))), SO 16 52 (.b2s (.s 15)), SO 17 53 (.pur (.mkSl 1 (.str []) 1 [(0, (.s 16))])), SO 18 54 (.app 1 16 (.str []) (.s 0) (.s 17)), VS 2 3 18] [] .skip) (.region false [ PM 55 0, PO 56 (.nilck (.s 0)), PO 57 (.fldAddr 1 (.s 0)), PO 58 (.load false 1 (.s 0)), PM 59
 4, PO 60 (.bin false .add (.s 1) (.s 0)), PO 61 (.nilck (.s 5)), PO 62 (.fldAddr 1 (.s 0)), ⟨.no, 0, none, .store 1 (.s 0) (.s 2)⟩]))))) (.region false [ PM 17 3, PO 18 (.bin false .sub (.s 0) (I6 1)), VS 3 4 0]))
def ir87_k0 : List Bool := [true, false, true, true, false]
def ir87_o0 : List Bool := [true, false, true, false, false]
def ir87_r0 : List Bool := [true, true, false, false, false]
def ir87_v : List Nat := [0, 2, 3, 4, 5]
def ir87 : AFn := ⟨1, 5, .seq (.region false [ VO 1 2 (.newnil 1)]) (.seq (.region false [ PO 6 (.mkSl 1 (.str []) 0 []), VS 2 3 0]) (.seq (.region false [ PM 7 0, PO 8 (.call 55 [(.s 0), (I6 100)]), VS 3 4 0]) (.seq (.block 0 (.loop ir87_k0 ir87_o0 ir87_r0 ir87_b0)) (.seq (.region false [ PM 63 2, VS 1 2 0]) (.ret))))), [.t 1]⟩
noncomputable def t_88 : List (Nat × Ctr) := [(55, c_87)]
theorem lk_88_55 : look t_88 55 = some c_87 := rfl
noncomputable def c_88 : Ctr := mkN t_88 ir87 [.io]
theorem s_88 : Sound Tryz.prog 87 c_88 := mkN_sound _ (snd_cons s_87 snd_nil) (by kernel_rfl : chkFn Tryz.prog 87 ir87 ir87_v = true)
theorem M_88 : c_88.modes = [.io] := rfl
theorem Fl_88 : c_88.flat = false := rfl
attribute [go_sem] M_88 Fl_88
attribute [go_sem] lk_88_55
def E_88_l1  : (L25R × (List (List UInt8)) × Int) → St
 | (r, out, n) => ⟨[.ref 31 0 0, .any, .own 3200032, .int .i64 n, .any], [], [(31, ⟨3, [L25R_av r]⟩), (3200032, ⟨1, List.map AV.str out⟩)], true⟩
def R_88_l1  (y : L25R × (List (List UInt8))) : Res := (.exit 0, ⟨[.ref 31 0 0, .any, .own 3200032, .any, .any], [], [(31, ⟨3, [L25R_av y.1]⟩), (3200032, ⟨1, List.map AV.str y.2⟩)], true⟩)
theorem spec_l25R_names_l1_ex  {sgm_ : L25R × (List (List UInt8)) × Int} {rho_ : L25R × (List (List UInt8))} (h : whileE (spec_l25R_names_l1) sgm_ = some rho_) : ∃ L0, ∀ L, L0 ≤ L → iter (exec (look t_88) L ir87_b0) ir87_k0 ir87_o0 ir87_r0 L (E_88_l1 sgm_) = R_88_l1 rho_ := by
 refine loop_ex (E := E_88_l1) (R := R_88_l1) (fun y => by first | (intro c; cases c) | (rcases y with y | y <;> (intro c; cases c)) | (rcases y with y | y | y <;> (intro c; cases c))) ?_ h
 clear h
 rintro ⟨r, out, n⟩ o_ h
 dsimp only [spec_l25R_names_l1] at h
 rcases it_some h with ⟨z2, h⟩ | ⟨z2, h⟩
 ·try simp only [go_sem, n1, n2, n3, n4] at z2
  all_goals
  obtain ⟨y_3, z3, h⟩ := bd_some h
  have fz3 := Fs_87 z3
  try simp only [go_sem, z2] at fz3
  rcases it_some h with ⟨z4, h⟩ | ⟨z4, h⟩
  ·try simp only [go_sem, n1, n2, n3, n4, z2] at z4
   all_goals
   obtain rfl := so_some h
   refine ⟨0, fun L hL => ?_⟩
   simp only [go_sem, ir87, E_88_l1, R_88_l1, ir87_b0, ir87_k0, ir87_o0, ir87_r0, z2, fz3, z4]
  ·try simp only [go_sem, n1, n2, n3, n4, z2] at z4
   all_goals
   obtain ⟨z5, h⟩ := ck_some h
   try simp only [go_sem, n1, n2, n3, n4, z2, z4] at z5
   all_goals
   obtain ⟨z6, h⟩ := ck_some h
   try simp only [go_sem, n1, n2, n3, n4, z2, z4, z5] at z6
   all_goals
   obtain rfl := so_some h
   refine ⟨0, fun L hL => ?_⟩
   simp only [go_sem, ir87, E_88_l1, R_88_l1, ir87_b0, ir87_k0, ir87_o0, ir87_r0, z2, fz3, z4, z5, z6]
 ·try simp only [go_sem, n1, n2, n3, n4] at z2
  all_goals
  obtain rfl := so_some h
  refine ⟨0, fun L hL => ?_⟩
  simp only [go_sem, ir87, E_88_l1, R_88_l1, ir87_b0, ir87_k0, ir87_o0, ir87_r0, z2]

theorem Fs_88 {r : L25R} {y_ : (List (List UInt8)) × L25R} (h : spec_l25R_names r = some y_) : c_88.F [.mem 3 [L25R_av r] 0] = ⟨true, .fresh 1 (List.map AV.str y_.1), [.mem 3 [L25R_av y_.2] 0]⟩ := by
 refine mkN_E ?_
 dsimp only [spec_l25R_names] at h
 obtain ⟨y_1, z1, h⟩ := bd_some h
 have fz1 := Fs_87 z1
 try simp only [go_sem] at fz1
 obtain ⟨y_7, z7, h⟩ := bd_some h
 obtain ⟨Lz7, ez7⟩ := spec_l25R_names_l1_ex z7
 obtain rfl := so_some h
 refine ⟨Lz7, fun L hL => ?_⟩
 have ez7 := ez7 L (by omega)
 try simp only [go_sem, E_88_l1, R_88_l1, ir87_k0, ir87_o0, ir87_r0] at ez7
 simp only [go_sem, ir87, E_88_l1, R_88_l1, ir87_k0, ir87_o0, ir87_r0, fz1, ez7]


def ir56_v : List Nat := [0, 2]
def ir56 : AFn := ⟨1, 2, .seq (.region false [ VO 1 2 (.mov (I6 0))]) (.seq (.test false [ PM 3 0, PO 4 (.bin false .rem (.s 0) (I6 2)), PO 5 (.bin false .eql (.s 0) (I6 1))] (.s 0) (.seq (.region false [ PM 6 0, PO 7 (.bin false .add (.s 0) (I6 1)), PO 8 (.un .neg (.s 0)), PO 9 (.bin false .quo (.s 0) (I6 2)), VS 1 2 0]) (.ret)) (.skip)) (.seq (.region false [ PM 10 0, PO 11 (.bin false .quo (.s 0) (I6 2)), VS 1 2 0]) (.ret))), [.t 1]⟩
noncomputable def t_89 : List (Nat × Ctr) := []
noncomputable def c_89 : Ctr := mkF t_89 ir56 [.bor]
theorem s_89 : Sound Tryz.prog 56 c_89 := mkF_sound _ rfl snd_nil (by kernel_rfl : chkFn Tryz.prog 56 ir56 ir56_v = true)
theorem M_89 : c_89.modes = [.bor] := rfl
theorem Fl_89 : c_89.flat = true := rfl
attribute [go_sem] M_89 Fl_89
theorem Fs_89 {n : Int} {y_ : Int} (h : spec_l25Unfold n = some y_) : c_89.F [.int .i64 n] = ⟨true, .int .i64 y_, [.any]⟩ := by
 refine mkF_E rfl ?_
 dsimp only [spec_l25Unfold] at h
 obtain ⟨z1, h⟩ := ck_some h
 try simp only [go_sem, n1, n2, n3, n4] at z1
 all_goals
 rcases it_some h with ⟨z2, h⟩ | ⟨z2, h⟩
 ·try simp only [go_sem, n1, n2, n3, n4, z1] at z2
  all_goals
  obtain rfl := so_some h
  refine ⟨0, fun L hL => ?_⟩
  simp only [go_sem, ir56, z1, z2]
 ·try simp only [go_sem, n1, n2, n3, n4, z1] at z2
  all_goals
  obtain rfl := so_some h
  refine ⟨0, fun L hL => ?_⟩
  simp only [go_sem, ir56, z1, z2]


def ir52_b0 : IR := .seq (.test false [ PM 23 8, PO 24 (.bin false .gtr (.s 0) (I6 0)), PO 25 (.mov (.s 0)), ⟨.push, 26, (some ((.s 0), true)), .mov (.v 0)⟩, ⟨.push, 27, (some ((.s 1), true)), .nilck (.s 0)⟩, ⟨.push, 28, (some ((.s 2), true)), .fldAddr 2 (.s 0)⟩, ⟨.push, 29, (some ((.s 3), true)), .load false 1 (.s 0)⟩, PO 30 (.pick (.s 4) (.s 0) (.c (.bool false)))] (.s 0) (.skip) (.exit 0)) (.seq (.block 1 (.seq (.region false [ PM 33 6, PM 34 0, PO 35 (.call 55 [(.s 0), (I6 10000000)]), PO 36 (.bin false .add (.s 2) (.s 0)), VS 6 7 0]) (.seq (.region false [ PM 37 0, PM 38 3, PO 39 (.len
 false (.s 0)), PO 40 (.bin false .sub (.s 0) (I6 1)), PO 41 (.call 55 [(.s 3), (.s 0)]), VS 9 10 0]) (.seq (.region false [ PM 42 0, PM 43 4, PO 44 (.len false (.s 0)), PO 45 (.bin false .mul (I6 2) (.s 0)), PO 46 (.bin false .sub (.s 0) (I6 1)), PO 47 (.call 55 [(.s 4), (.s 0)]), VS 10 11 0]) (.seq (.region false [ PM 48 7, PM 49 0, PO 50 (.call 55 [(.s 0), (I6 100000)]), PO 51 (.call 56 [(.s 0)]), PO 52 (.bin false .add (.s 3) (.s 0)), VS 7 8 0]) (.seq (.test false [ PM 53 0, PO 54 (.nilck (.s 0)), PO 55 (.fldAddr 2 (.s 0)), PO 56 (.load false 1 (.s 0)), PO 57 (.un .not (.s 0))] (.s 0)
 (.exit 0) (.skip)) (.anyo 18 [ SO 0 58 (.mov (.v 5)), SO 1 59 (.mov (.v 6)), SO 2 60 (.mov (.v 3)), SO 3 61 (.mov (.v 9)), SO 4 62 (.ixAddr 1 (.s 2) (.s 3)), SO 5 63 (.load false 1 (.s 4)), SO 6 64 (.mov (.v 4)), SO 7 65 (.mov (.v 10)), SO 8 66 (.bin false .quo (.s 7) (I6 2)), SO 9 67 (.ixAddr 1 (.s 6) (.s 8)), SO 10 68 (.load false 1 (.s 9)), SO 11 69 (.mov (.v 7)), SO 12 70 (.mov (.v 10)), SO 13 71 (.bin false .rem (.s 12) (I6 2)), SO 14 72 (.bin false .eql (.s 13) (I6 1)), SO 15 73 (.pur (.build [.int .i64 (0), .str [], .str [], .int .i64 (0), .bool false] [(0, 1, (.s 1)), (1, 1, (.s 5)),
 (2, 1, (.s 10)), (3, 1, (.s 11)), (4, 1, (.s 14))])), SO 16 74 (.pur (.mkSl 5 (.agg [.int .i64 (0), .str [], .str [], .int .i64 (0), .bool false]) 1 [(0, (.s 15))])), SO 17 75 (.app 5 56 (.agg [.int .i64 (0), .str [], .str [], .int .i64 (0), .bool false]) (.s 0) (.s 16)), VS 5 6 17] [] .skip))))))) (.region false [ PM 31 8, PO 32 (.bin false .sub (.s 0) (I6 1)), VS 8 9 0]))
def ir52_k0 : List Bool := [true, false, false, true, true, true, true, true, true, false, false]
def ir52_o0 : List Bool := [true, false, false, false, false, true, false, false, false, false, false]
def ir52_r0 : List Bool := [true, true, true, false, false, false, false, false, false, false, false]
def ir52_v : List Nat := [0, 2, 3, 4, 5, 6, 7, 8, 9, 10, 11]
def ir52 : AFn := ⟨1, 11, .seq (.region false [ VO 1 2 (.newnil 5), VO 2 3 (.mov (.c (.bool false)))]) (.seq (.region false [ PM 12 0, PO 13 (.call 87 [(.s 0)]), VS 3 4 0]) (.seq (.region false [ PM 14 0, PO 15 (.call 87 [(.s 0)]), VS 4 5 0]) (.seq (.region false [ PO 16 (.mkSl 5 (.agg [.int .i64 (0), .str [], .str [], .int .i64 (0), .bool false]) 0 []), VS 5 6 0]) (.seq (.region false [ VO 6 7 (.mov (I6 0))]) (.seq (.region false [ VO 7 8 (.mov (I6 0))]) (.seq (.region false [ VO 8 9 (.mov (I6 0))]) (.seq (.test false [ PM 17 0, PO 18 (.nilck (.s 0)), PO 19 (.fldAddr 2 (.s 0)), PO 20 (.load
 false 1 (.s 0))] (.s 0) (.region false [ PM 21 0, PO 22 (.call 55 [(.s 0), (I6 100)]), VS 8 9 0]) (.skip)) (.seq (.block 0 (.loop ir52_k0 ir52_o0 ir52_r0 ir52_b0)) (.seq (.anyo 5 [ SO 0 76 (.mov (.v 5)), SO 1 77 (.mov (.v 0)), SO 2 78 (.nilck (.s 1)), SO 3 79 (.fldAddr 2 (.s 2)), SO 4 80 (.load false 1 (.s 3)), VS 1 2 0, VS 2 3 4] [] .skip) (.ret)))))))))), [.t 1, .t 2]⟩
noncomputable def t_90 : List (Nat × Ctr) := [(87, c_88), (55, c_87), (56, c_89)]
theorem lk_90_87 : look t_90 87 = some c_88 := rfl
theorem lk_90_55 : look t_90 55 = some c_87 := rfl
theorem lk_90_56 : look t_90 56 = some c_89 := rfl
noncomputable def c_90 : Ctr := mkN t_90 ir52 [.io]
theorem s_90 : Sound Tryz.prog 52 c_90 := mkN_sound _ (snd_cons s_88 (snd_cons s_87 (snd_cons s_89 snd_nil))) (by kernel_rfl : chkFn Tryz.prog 52 ir52 ir52_v = true)
theorem M_90 : c_90.modes = [.io] := rfl
theorem Fl_90 : c_90.flat = false := rfl
attribute [go_sem] M_90 Fl_90
attribute [go_sem] lk_90_87 lk_90_55 lk_90_56
def E_90_l1 (stars : List (List UInt8)) (people : List (List UInt8)) : (L25R × (List Estimate) × Int × Int × Int) → St
 | (r, out, time, mag, n) => ⟨[.ref 31 0 0, .any, .any, .own 3200032, .own 3200064, .own 3200096, .int .i64 time, .int .i64 mag, .int .i64 n, .any, .any], [], [(31, ⟨3, [L25R_av r]⟩), (3200032, ⟨1, List.map AV.str stars⟩), (3200064, ⟨1, List.map AV.str people⟩), (3200096, ⟨5, List.map Estimate_av out⟩)], true⟩
def R_90_l1 (stars : List (List UInt8)) (people : List (List UInt8)) (y : L25R × (List Estimate)) : Res := (.exit 0, ⟨[.ref 31 0 0, .any, .any, .any, .any, .own 3200032, .any, .any, .any, .any, .any], [], [(31, ⟨3, [L25R_av y.1]⟩), (3200032, ⟨5, List.map Estimate_av y.2⟩)], true⟩)
theorem spec_l25List_l1_ex {stars : List (List UInt8)} {people : List (List UInt8)} {sgm_ : L25R × (List Estimate) × Int × Int × Int} {rho_ : L25R × (List Estimate)} (h : whileE (spec_l25List_l1 stars people) sgm_ = some rho_) : ∃ L0, ∀ L, L0 ≤ L → iter (exec (look t_90) L ir52_b0) ir52_k0 ir52_o0 ir52_r0 L (E_90_l1 stars people sgm_) = R_90_l1 stars people rho_ := by
 refine loop_ex (E := E_90_l1 stars people) (R := R_90_l1 stars people) (fun y => by first | (intro c; cases c) | (rcases y with y | y <;> (intro c; cases c)) | (rcases y with y | y | y <;> (intro c; cases c))) ?_ h
 clear h
 rintro ⟨r, out, time, mag, n⟩ o_ h
 dsimp only [spec_l25List_l1] at h
 rcases it_some h with ⟨z5, h⟩ | ⟨z5, h⟩
 ·try simp only [go_sem, n1, n2, n3, n4] at z5
  all_goals
  obtain ⟨y_6, z6, h⟩ := bd_some h
  have fz6 := Fs_87 z6
  try simp only [go_sem, z5] at fz6
  obtain ⟨y_7, z7, h⟩ := bd_some h
  have fz7 := Fs_87 z7
  try simp only [go_sem, z5] at fz7
  obtain ⟨y_8, z8, h⟩ := bd_some h
  have fz8 := Fs_87 z8
  try simp only [go_sem, z5] at fz8
  obtain ⟨y_9, z9, h⟩ := bd_some h
  have fz9 := Fs_87 z9
  try simp only [go_sem, z5] at fz9
  obtain ⟨y_10, z10, h⟩ := bd_some h
  have fz10 := Fs_89 z10
  try simp only [go_sem, z5] at fz10
  rcases it_some h with ⟨z11, h⟩ | ⟨z11, h⟩
  ·try simp only [go_sem, n1, n2, n3, n4, z5] at z11
   all_goals
   obtain rfl := so_some h
   refine ⟨0, fun L hL => ?_⟩
   simp only [go_sem, ir52, E_90_l1, R_90_l1, ir52_b0, ir52_k0, ir52_o0, ir52_r0, z5, fz6, fz7, fz8, fz9, fz10, z11]
  ·try simp only [go_sem, n1, n2, n3, n4, z5] at z11
   all_goals
   obtain ⟨z12, h⟩ := ck_some h
   have lz12 := ix_lt z12
   have xz12 := getD_mapD AV.str stars lz12
   try simp only [go_sem] at lz12
   try simp only [go_sem] at xz12
   try simp only [go_sem, n1, n2, n3, n4, z5, z11] at z12
   all_goals
   obtain ⟨z13, h⟩ := ck_some h
   try simp only [go_sem, n1, n2, n3, n4, z5, z11, z12] at z13
   all_goals
   obtain ⟨z14, h⟩ := ck_some h
   have lz14 := ix_lt z14
   have xz14 := getD_mapD AV.str people lz14
   try simp only [go_sem] at lz14
   try simp only [go_sem] at xz14
   try simp only [go_sem, n1, n2, n3, n4, z5, z11, z12, z13] at z14
   all_goals
   obtain ⟨z15, h⟩ := ck_some h
   try simp only [go_sem, n1, n2, n3, n4, z5, z11, z12, z13, z14] at z15
   all_goals
   obtain rfl := so_some h
   refine ⟨0, fun L hL => ?_⟩
   simp only [go_sem, ir52, E_90_l1, R_90_l1, ir52_b0, ir52_k0, ir52_o0, ir52_r0, z5, fz6, fz7, fz8, fz9, fz10, z11, z12, lz12, xz12, z13, z14, lz14, xz14, z15]
 ·try simp only [go_sem, n1, n2, n3, n4] at z5
  all_goals
  obtain rfl := so_some h
  refine ⟨0, fun L hL => ?_⟩
  simp only [go_sem, ir52, E_90_l1, R_90_l1, ir52_b0, ir52_k0, ir52_o0, ir52_r0, z5]

def E_90_l2 (stars : List (List UInt8)) (people : List (List UInt8)) : (L25R × (List Estimate) × Int × Int × Int) → St
 | (r, out, time, mag, n) => ⟨[.ref 31 0 0, .any, .any, .own 3200032, .own 3200064, .own 3200096, .int .i64 time, .int .i64 mag, .int .i64 n, .any, .any], [], [(31, ⟨3, [L25R_av r]⟩), (3200032, ⟨1, List.map AV.str stars⟩), (3200064, ⟨1, List.map AV.str people⟩), (3200096, ⟨5, List.map Estimate_av out⟩)], true⟩
def R_90_l2 (stars : List (List UInt8)) (people : List (List UInt8)) (y : L25R × (List Estimate)) : Res := (.exit 0, ⟨[.ref 31 0 0, .any, .any, .any, .any, .own 3200032, .any, .any, .any, .any, .any], [], [(31, ⟨3, [L25R_av y.1]⟩), (3200032, ⟨5, List.map Estimate_av y.2⟩)], true⟩)
theorem spec_l25List_l2_ex {stars : List (List UInt8)} {people : List (List UInt8)} {sgm_ : L25R × (List Estimate) × Int × Int × Int} {rho_ : L25R × (List Estimate)} (h : whileE (spec_l25List_l2 stars people) sgm_ = some rho_) : ∃ L0, ∀ L, L0 ≤ L → iter (exec (look t_90) L ir52_b0) ir52_k0 ir52_o0 ir52_r0 L (E_90_l2 stars people sgm_) = R_90_l2 stars people rho_ := by
 refine loop_ex (E := E_90_l2 stars people) (R := R_90_l2 stars people) (fun y => by first | (intro c; cases c) | (rcases y with y | y <;> (intro c; cases c)) | (rcases y with y | y | y <;> (intro c; cases c))) ?_ h
 clear h
 rintro ⟨r, out, time, mag, n⟩ o_ h
 dsimp only [spec_l25List_l2] at h
 rcases it_some h with ⟨z17, h⟩ | ⟨z17, h⟩
 ·try simp only [go_sem, n1, n2, n3, n4] at z17
  all_goals
  obtain ⟨y_18, z18, h⟩ := bd_some h
  have fz18 := Fs_87 z18
  try simp only [go_sem, z17] at fz18
  obtain ⟨y_19, z19, h⟩ := bd_some h
  have fz19 := Fs_87 z19
  try simp only [go_sem, z17] at fz19
  obtain ⟨y_20, z20, h⟩ := bd_some h
  have fz20 := Fs_87 z20
  try simp only [go_sem, z17] at fz20
  obtain ⟨y_21, z21, h⟩ := bd_some h
  have fz21 := Fs_87 z21
  try simp only [go_sem, z17] at fz21
  obtain ⟨y_22, z22, h⟩ := bd_some h
  have fz22 := Fs_89 z22
  try simp only [go_sem, z17] at fz22
  rcases it_some h with ⟨z23, h⟩ | ⟨z23, h⟩
  ·try simp only [go_sem, n1, n2, n3, n4, z17] at z23
   all_goals
   obtain rfl := so_some h
   refine ⟨0, fun L hL => ?_⟩
   simp only [go_sem, ir52, E_90_l2, R_90_l2, ir52_b0, ir52_k0, ir52_o0, ir52_r0, E_90_l1, R_90_l1, ir52_k0, ir52_o0, ir52_r0, z17, fz18, fz19, fz20, fz21, fz22, z23]
  ·try simp only [go_sem, n1, n2, n3, n4, z17] at z23
   all_goals
   obtain ⟨z24, h⟩ := ck_some h
   have lz24 := ix_lt z24
   have xz24 := getD_mapD AV.str stars lz24
   try simp only [go_sem] at lz24
   try simp only [go_sem] at xz24
   try simp only [go_sem, n1, n2, n3, n4, z17, z23] at z24
   all_goals
   obtain ⟨z25, h⟩ := ck_some h
   try simp only [go_sem, n1, n2, n3, n4, z17, z23, z24] at z25
   all_goals
   obtain ⟨z26, h⟩ := ck_some h
   have lz26 := ix_lt z26
   have xz26 := getD_mapD AV.str people lz26
   try simp only [go_sem] at lz26
   try simp only [go_sem] at xz26
   try simp only [go_sem, n1, n2, n3, n4, z17, z23, z24, z25] at z26
   all_goals
   obtain ⟨z27, h⟩ := ck_some h
   try simp only [go_sem, n1, n2, n3, n4, z17, z23, z24, z25, z26] at z27
   all_goals
   obtain rfl := so_some h
   refine ⟨0, fun L hL => ?_⟩
   simp only [go_sem, ir52, E_90_l2, R_90_l2, ir52_b0, ir52_k0, ir52_o0, ir52_r0, E_90_l1, R_90_l1, ir52_k0, ir52_o0, ir52_r0, z17, fz18, fz19, fz20, fz21, fz22, z23, z24, lz24, xz24, z25, z26, lz26, xz26, z27]
 ·try simp only [go_sem, n1, n2, n3, n4] at z17
  all_goals
  obtain rfl := so_some h
  refine ⟨0, fun L hL => ?_⟩
  simp only [go_sem, ir52, E_90_l2, R_90_l2, ir52_b0, ir52_k0, ir52_o0, ir52_r0, E_90_l1, R_90_l1, ir52_k0, ir52_o0, ir52_r0, z17]

theorem Fs_90 {r : L25R} {y_ : (List Estimate) × Bool × L25R} (h : spec_l25List r = some y_) : c_90.F [.mem 3 [L25R_av r] 0] = ⟨true, .tup [.fresh 5 (List.map Estimate_av y_.1), .bool y_.2.1], [.mem 3 [L25R_av y_.2.2] 0]⟩ := by
 refine mkN_E ?_
 dsimp only [spec_l25List] at h
 obtain ⟨y_1, z1, h⟩ := bd_some h
 have fz1 := Fs_88 z1
 try simp only [go_sem] at fz1
 obtain ⟨y_2, z2, h⟩ := bd_some h
 have fz2 := Fs_88 z2
 try simp only [go_sem] at fz2
 rcases it_some h with ⟨z3, h⟩ | ⟨z3, h⟩
 ·try simp only [go_sem, n1, n2, n3, n4] at z3
  all_goals
  obtain ⟨y_4, z4, h⟩ := bd_some h
  have fz4 := Fs_87 z4
  try simp only [go_sem, z3] at fz4
  obtain ⟨y_16, z16, h⟩ := bd_some h
  obtain ⟨Lz16, ez16⟩ := spec_l25List_l1_ex z16
  obtain rfl := so_some h
  refine ⟨Lz16, fun L hL => ?_⟩
  have ez16 := ez16 L (by omega)
  try simp only [go_sem, E_90_l1, R_90_l1, ir52_k0, ir52_o0, ir52_r0, E_90_l2, R_90_l2, ir52_k0, ir52_o0, ir52_r0, z3] at ez16
  simp only [go_sem, ir52, E_90_l1, R_90_l1, ir52_k0, ir52_o0, ir52_r0, E_90_l2, R_90_l2, ir52_k0, ir52_o0, ir52_r0, fz1, fz2, z3, fz4, ez16]
 ·try simp only [go_sem, n1, n2, n3, n4] at z3
  all_goals
  obtain ⟨y_28, z28, h⟩ := bd_some h
  obtain ⟨Lz28, ez28⟩ := spec_l25List_l2_ex z28
  obtain rfl := so_some h
  refine ⟨Lz28, fun L hL => ?_⟩
  have ez28 := ez28 L (by omega)
  try simp only [go_sem, E_90_l1, R_90_l1, ir52_k0, ir52_o0, ir52_r0, E_90_l2, R_90_l2, ir52_k0, ir52_o0, ir52_r0, z3] at ez28
  simp only [go_sem, ir52, E_90_l1, R_90_l1, ir52_k0, ir52_o0, ir52_r0, E_90_l2, R_90_l2, ir52_k0, ir52_o0, ir52_r0, fz1, fz2, z3, ez28]


def ir13_v : List Nat := [0, 2, 3, 4, 5, 6, 7]
def ir13 : AFn := ⟨1, 7, .seq (.region false [ VO 1 2 (.newnil 5), VO 2 3 (.mov (I6 0))]) (.seq (.region false [ PM 8 0, PO 9 (.call 51 [(.s 0), (I6 69)]), VS 3 4 0]) (.seq (.test false [ PM 10 3, PO 11 (.bin false .neq (.s 0) (I6 0))] (.s 0) (.seq (.region false [ PM 12 3, VO 1 2 (.newnil 5), VS 2 3 0]) (.ret)) (.skip)) (.seq (.region false [ PM 13 0, PM 14 0, PO 15 (.len false (.s 0)), PO 16 (.bin false .sub (.s 0) (I6 2)), PO 17 (.slice 1 (.s 3) none (some (.s 0))), PO 18 (.build [.sl 1 [], .int .i64 (0), .bool false] [(0, 1, (.s 0)), (1, 1, (I6 1)), (2, 1, (.c (.bool true)))]), PO 19 (.box
 (.s 0)), VS 4 5 0]) (.seq (.region false [ PM 21 4, PO 22 (.call 52 [(.s 0)]), PO 20 (.mov (.s 0)), PO 23 (.ext (.s 0) 0), PO 24 (.ext (.s 1) 1), VS 5 6 1, VS 6 7 0]) (.seq (.anyo 15 [ SO 0 25 (.mov (.v 6)), SO 1 26 (.un .not (.s 0)), SO 2 27 (.mov (.s 1)), ⟨.slot 3, 28, (some ((.s 2), false)), .mov (.v 5)⟩, ⟨.slot 4, 29, (some ((.s 2), false)), .call 34 [(.s 3)]⟩, ⟨.slot 5, 30, (some ((.s 2), false)), .un .not (.s 4)⟩, SO 6 31 (.pick (.s 2) (.c (.bool true)) (.s 5)), SO 7 32 (.mov (.s 6)), ⟨.slot 8, 33, (some ((.s 7), false)), .mov (.v 5)⟩, ⟨.slot 9, 34, (some ((.s 7), false)), .call 35 [(.s
 8)]⟩, ⟨.slot 10, 35, (some ((.s 7), false)), .b2s (.s 9)⟩, ⟨.slot 11, 36, (some ((.s 7), false)), .mov (.v 0)⟩, ⟨.slot 12, 37, (some ((.s 7), false)), .b2s (.s 11)⟩, ⟨.slot 13, 38, (some ((.s 7), false)), .bin false .neq (.s 10) (.s 12)⟩, SO 14 39 (.pick (.s 7) (.c (.bool true)) (.s 13))] [] (.cond (.s 14) (.seq (.region false [ VO 1 2 (.newnil 5), VO 2 3 (.mov (I6 8))]) (.ret)) (.skip))) (.seq (.region false [ PM 40 5, VS 1 2 0, VO 2 3 (.mov (I6 0))]) (.ret))))))), [.t 1, .t 2]⟩
noncomputable def t_91 : List (Nat × Ctr) := [(51, c_85), (52, c_90), (34, c_55), (35, c_64)]
theorem lk_91_51 : look t_91 51 = some c_85 := rfl
theorem lk_91_52 : look t_91 52 = some c_90 := rfl
theorem lk_91_34 : look t_91 34 = some c_55 := rfl
theorem lk_91_35 : look t_91 35 = some c_64 := rfl
noncomputable def c_91 : Ctr := mkF t_91 ir13 [.bor]
theorem s_91 : Sound Tryz.prog 13 c_91 := mkF_sound _ rfl (snd_cons s_85 (snd_cons s_90 (snd_cons s_55 (snd_cons s_64 snd_nil)))) (by kernel_rfl : chkFn Tryz.prog 13 ir13 ir13_v = true)
theorem M_91 : c_91.modes = [.bor] := rfl
theorem Fl_91 : c_91.flat = true := rfl
attribute [go_sem] M_91 Fl_91
attribute [go_sem] lk_91_51 lk_91_52 lk_91_34 lk_91_35
theorem Fs_91 {b : List UInt8} {y_ : (List Estimate) × Int} (h : spec_UnpackEstimates b = some y_) : c_91.F [.sl 1 (List.map byteAV b)] = ⟨true, .tup [.fresh 5 (List.map Estimate_av y_.1), .int .i64 y_.2], [.any]⟩ := by
 refine mkF_E (by simp only [flatA, flatB, flat1, List.all_cons, List.all_nil, Bool.and_self, flatE_map (f := Estimate_av) (fun _ => rfl)]) ?_
 dsimp only [spec_UnpackEstimates] at h
 obtain ⟨y_1, z1, h⟩ := bd_some h
 have fz1 := Fs_85 z1
 try simp only [go_sem] at fz1
 rcases it_some h with ⟨z2, h⟩ | ⟨z2, h⟩
 ·try simp only [go_sem, n1, n2, n3, n4] at z2
  all_goals
  obtain rfl := so_some h
  refine ⟨0, fun L hL => ?_⟩
  simp only [go_sem, ir13, fz1, z2]
 ·try simp only [go_sem, n1, n2, n3, n4] at z2
  all_goals
  obtain ⟨z3, h⟩ := ck_some h
  try simp only [go_sem, n1, n2, n3, n4, z2] at z3
  all_goals
  obtain ⟨y_4, z4, h⟩ := bd_some h
  have fz4 := Fs_90 z4
  try simp only [go_sem, z2, z3] at fz4
  obtain ⟨z5, h⟩ := ck_some h
  rcases or_split z5 with ⟨gz5, z5⟩ | gz5
  ·try simp only [go_sem, n1, n2, n3, n4, z2, z3] at gz5
   all_goals
   obtain ⟨y_5, hz5⟩ := Option.isSome_iff_exists.1 z5
   have fz5 := Fs_55 hz5
   try simp only [go_sem, n1, n2, n3, n4, z2, z3, gz5] at hz5
   all_goals
   try simp only [go_sem, z2, z3, gz5] at fz5
   obtain ⟨z6, h⟩ := ck_some h
   rcases or_split z6 with ⟨gz6, z6⟩ | gz6
   ·try simp only [go_sem, n1, n2, n3, n4, z2, z3, gz5, hz5] at gz6
    all_goals
    obtain ⟨y_6, hz6⟩ := Option.isSome_iff_exists.1 z6
    have fz6 := Fs_64 hz6
    try simp only [go_sem, n1, n2, n3, n4, z2, z3, gz5, hz5, gz6] at hz6
    all_goals
    try simp only [go_sem, z2, z3, gz5, hz5, gz6] at fz6
    rcases it_some h with ⟨z7, h⟩ | ⟨z7, h⟩
    ·try simp only [go_sem, n1, n2, n3, n4, z2, z3, gz5, hz5, gz6, hz6] at z7
     all_goals
     obtain rfl := so_some h
     refine ⟨0, fun L hL => ?_⟩
     simp only [go_sem, ir13, fz1, z2, z3, fz4, gz5, hz5, fz5, gz6, hz6, fz6, z7]
    ·try simp only [go_sem, n1, n2, n3, n4, z2, z3, gz5, hz5, gz6, hz6] at z7
     all_goals
     obtain rfl := so_some h
     refine ⟨0, fun L hL => ?_⟩
     simp only [go_sem, ir13, fz1, z2, z3, fz4, gz5, hz5, fz5, gz6, hz6, fz6, z7]
   ·have gz6n := no_f gz6
    rcases or_t gz6n with gz6na | ⟨gz6na, gz6nb⟩
    ·try simp only [go_sem, n1, n2, n3, n4, z2, z3, gz5, hz5] at gz6na
     all_goals
     (simp_all)
    ·have gz6nan := no_f gz6na
     have gz6nbn := no_t gz6nb
     try simp only [go_sem, n1, n2, n3, n4, z2, z3, gz5, hz5] at gz6nan
     all_goals
     try simp only [go_sem, n1, n2, n3, n4, z2, z3, gz5, hz5, gz6nan] at gz6nbn
     all_goals
     rcases it_some h with ⟨z7, h⟩ | ⟨z7, h⟩
     ·try simp only [go_sem, n1, n2, n3, n4, z2, z3, gz5, hz5, gz6nan, gz6nbn] at z7
      all_goals
      obtain rfl := so_some h
      refine ⟨0, fun L hL => ?_⟩
      simp only [go_sem, ir13, fz1, z2, z3, fz4, gz5, hz5, fz5, gz6nan, gz6nbn, z7]
     ·try simp only [go_sem, n1, n2, n3, n4, z2, z3, gz5, hz5, gz6nan, gz6nbn] at z7
      all_goals
      (simp_all)
  ·have gz5n := no_f gz5
   have gz5nn := no_t gz5n
   try simp only [go_sem, n1, n2, n3, n4, z2, z3] at gz5nn
   all_goals
   obtain ⟨z6, h⟩ := ck_some h
   rcases it_some h with ⟨z7, h⟩ | ⟨z7, h⟩
   ·try simp only [go_sem, n1, n2, n3, n4, z2, z3, gz5nn] at z7
    all_goals
    obtain rfl := so_some h
    refine ⟨0, fun L hL => ?_⟩
    simp only [go_sem, ir13, fz1, z2, z3, fz4, gz5nn, z7]
   ·try simp only [go_sem, n1, n2, n3, n4, z2, z3, gz5nn] at z7
    all_goals
    (simp_all)


def ir14_v : List Nat := [0, 2, 3, 4]
def ir14 : AFn := ⟨1, 4, .seq (.region false [ VO 1 2 (.newnil 1)]) (.seq (.region false [ PM 5 0, PO 6 (.call 23 [(.s 0)]), VS 2 3 0]) (.seq (.region false [ PM 7 2, PO 8 (.call 53 [(.s 0), (I6 8)]), PO 9 (.call 40 [(.s 0)]), VS 3 4 0]) (.seq (.test false [ PM 10 2, PO 11 (.call 42 [(.s 0), (I6 2)])] (.s 0) (.seq (.region false [ PM 12 2, PM 13 3, PO 14 (.call 43 [(.s 1), (.s 0)]), VS 1 2 0]) (.ret)) (.skip)) (.seq (.region false [ PM 15 3, VS 1 2 0]) (.ret))))), [.t 1]⟩
noncomputable def t_92 : List (Nat × Ctr) := [(23, c_1), (53, c_66), (40, c_73), (42, c_4), (43, c_75)]
theorem lk_92_23 : look t_92 23 = some c_1 := rfl
theorem lk_92_53 : look t_92 53 = some c_66 := rfl
theorem lk_92_40 : look t_92 40 = some c_73 := rfl
theorem lk_92_42 : look t_92 42 = some c_4 := rfl
theorem lk_92_43 : look t_92 43 = some c_75 := rfl
noncomputable def c_92 : Ctr := mkF t_92 ir14 [.bor]
theorem s_92 : Sound Tryz.prog 14 c_92 := mkF_sound _ rfl (snd_cons s_1 (snd_cons s_66 (snd_cons s_73 (snd_cons s_4 (snd_cons s_75 snd_nil))))) (by kernel_rfl : chkFn Tryz.prog 14 ir14 ir14_v = true)
theorem M_92 : c_92.modes = [.bor] := rfl
theorem Fl_92 : c_92.flat = true := rfl
attribute [go_sem] M_92 Fl_92
attribute [go_sem] lk_92_23 lk_92_53 lk_92_40 lk_92_42 lk_92_43
theorem Fs_92 {code : List UInt8} {y_ : (List UInt8)} (h : spec_DrawUnpackCurve code = some y_) : c_92.F [.sl 1 (List.map byteAV code)] = ⟨true, .fresh 1 (List.map byteAV y_), [.any]⟩ := by
 refine mkF_E (by simp only [flatA, flatB, flat1, List.all_cons, List.all_nil, Bool.and_self, flatE_map (f := byteAV) (fun _ => rfl)]) ?_
 dsimp only [spec_DrawUnpackCurve] at h
 obtain ⟨y_1, z1, h⟩ := bd_some h
 have fz1 := Fs_1 z1
 try simp only [go_sem] at fz1
 obtain ⟨y_2, z2, h⟩ := bd_some h
 have fz2 := Fs_66 z2
 try simp only [go_sem] at fz2
 obtain ⟨y_3, z3, h⟩ := bd_some h
 have fz3 := Fs_73 z3
 try simp only [go_sem] at fz3
 obtain ⟨y_4, z4, h⟩ := bd_some h
 have fz4 := Fs_4 z4
 try simp only [go_sem] at fz4
 rcases it_some h with ⟨z5, h⟩ | ⟨z5, h⟩
 ·try simp only [go_sem, n1, n2, n3, n4] at z5
  all_goals
  obtain ⟨y_6, z6, h⟩ := bd_some h
  have fz6 := Fs_75 z6
  try simp only [go_sem, z5] at fz6
  obtain rfl := so_some h
  refine ⟨0, fun L hL => ?_⟩
  simp only [go_sem, ir14, fz1, fz2, fz3, fz4, z5, fz6]
 ·try simp only [go_sem, n1, n2, n3, n4] at z5
  all_goals
  obtain rfl := so_some h
  refine ⟨0, fun L hL => ?_⟩
  simp only [go_sem, ir14, fz1, fz2, fz3, fz4, z5]


def ir54_v : List Nat := [0, 2]
def ir54 : AFn := ⟨1, 2, .seq (.region false [ VO 1 2 (.mov (.c (.bool false)))]) (.seq (.region false [ PM 3 0, PO 4 (.bin false .eql (.s 0) (.c (.int .u8 (67)))), VS 1 2 0]) (.ret)), [.t 1]⟩
noncomputable def t_93 : List (Nat × Ctr) := []
noncomputable def c_93 : Ctr := mkF t_93 ir54 [.bor]
theorem s_93 : Sound Tryz.prog 54 c_93 := mkF_sound _ rfl snd_nil (by kernel_rfl : chkFn Tryz.prog 54 ir54 ir54_v = true)
theorem M_93 : c_93.modes = [.bor] := rfl
theorem Fl_93 : c_93.flat = true := rfl
attribute [go_sem] M_93 Fl_93
theorem Fs_93 {kind : UInt8} {y_ : Bool} (h : impl_UnpackCurve_c1 kind = some y_) : c_93.F [.int .u8 (kind.toNat : Int)] = ⟨true, .bool y_, [.any]⟩ := by
 refine mkF_E rfl ?_
 dsimp only [impl_UnpackCurve_c1] at h
 obtain rfl := so_some h
 refine ⟨0, fun L hL => ?_⟩
 simp only [go_sem, ir54]


noncomputable def t_94 : List (Nat × Ctr) := [(54, c_93), (68, c_45)]
theorem lk_94_54 : look t_94 54 = some c_93 := rfl
theorem lk_94_68 : look t_94 68 = some c_45 := rfl
noncomputable def c_94 : Ctr := mkF t_94 ir44 [.bor, .bor]
theorem s_94 : Sound Tryz.prog 44 c_94 := mkF_sound _ rfl (snd_cons s_93 (snd_cons s_45 snd_nil)) (by kernel_rfl : chkFn Tryz.prog 44 ir44 ir44_v = true)
theorem M_94 : c_94.modes = [.bor, .bor] := rfl
theorem Fl_94 : c_94.flat = true := rfl
attribute [go_sem] M_94 Fl_94
attribute [go_sem] lk_94_54 lk_94_68
theorem Fs_94 {b : List UInt8} {y_ : Int} (h : impl_checkPacked__impl_UnpackCurve_c1 b = some y_) : c_94.F [.sl 1 (List.map byteAV b), .fn (.func 54) [] []] = ⟨true, .int .i64 y_, [.any, .any]⟩ := by
 refine mkF_E rfl ?_
 dsimp only [impl_checkPacked__impl_UnpackCurve_c1] at h
 obtain ⟨z1, h⟩ := ck_some h
 rcases or_split z1 with ⟨gz1, z1⟩ | gz1
 ·try simp only [go_sem, n1, n2, n3, n4] at gz1
  all_goals
  have lz1 := ix_lt z1
  have xz1 := getD_mapD byteAV b lz1
  try simp only [go_sem] at lz1
  try simp only [go_sem] at xz1
  try simp only [go_sem, n1, n2, n3, n4, gz1] at z1
  all_goals
  obtain ⟨z2, h⟩ := ck_some h
  rcases or_split z2 with ⟨gz2, z2⟩ | gz2
  ·try simp only [go_sem, n1, n2, n3, n4, gz1, z1] at gz2
   all_goals
   obtain ⟨y_2, hz2⟩ := Option.isSome_iff_exists.1 z2
   have fz2 := Fs_93 hz2
   try simp only [go_sem, n1, n2, n3, n4, gz1, z1, gz2] at hz2
   all_goals
   try simp only [go_sem, gz1, z1, gz2] at fz2
   rcases it_some h with ⟨z3, h⟩ | ⟨z3, h⟩
   ·try simp only [go_sem, n1, n2, n3, n4, gz1, z1, gz2, hz2] at z3
    all_goals
    obtain rfl := so_some h
    refine ⟨0, fun L hL => ?_⟩
    simp only [go_sem, ir44, gz1, z1, lz1, xz1, gz2, hz2, fz2, z3]
   ·try simp only [go_sem, n1, n2, n3, n4, gz1, z1, gz2, hz2] at z3
    all_goals
    obtain ⟨z4, h⟩ := ck_some h
    try simp only [go_sem, n1, n2, n3, n4, gz1, z1, gz2, hz2, z3] at z4
    all_goals
    obtain ⟨y_5, z5, h⟩ := bd_some h
    have fz5 := Fs_45 z5
    try simp only [go_sem, gz1, z1, gz2, hz2, z3, z4] at fz5
    obtain ⟨z6, h⟩ := ck_some h
    have lz6 := ix_lt z6
    have xz6 := getD_mapD byteAV b lz6
    try simp only [go_sem] at lz6
    try simp only [go_sem] at xz6
    try simp only [go_sem, n1, n2, n3, n4, gz1, z1, gz2, hz2, z3, z4] at z6
    all_goals
    obtain ⟨z7, h⟩ := ck_some h
    have lz7 := ix_lt z7
    have xz7 := getD_mapD byteAV b lz7
    try simp only [go_sem] at lz7
    try simp only [go_sem] at xz7
    try simp only [go_sem, n1, n2, n3, n4, gz1, z1, gz2, hz2, z3, z4, z6] at z7
    all_goals
    rcases it_some h with ⟨z8, h⟩ | ⟨z8, h⟩
    ·try simp only [go_sem, n1, n2, n3, n4, gz1, z1, gz2, hz2, z3, z4, z6, z7] at z8
     all_goals
     obtain rfl := so_some h
     refine ⟨0, fun L hL => ?_⟩
     simp only [go_sem, ir44, gz1, z1, lz1, xz1, gz2, hz2, fz2, z3, z4, fz5, z6, lz6, xz6, z7, lz7, xz7, z8]
    ·try simp only [go_sem, n1, n2, n3, n4, gz1, z1, gz2, hz2, z3, z4, z6, z7] at z8
     all_goals
     obtain rfl := so_some h
     refine ⟨0, fun L hL => ?_⟩
     simp only [go_sem, ir44, gz1, z1, lz1, xz1, gz2, hz2, fz2, z3, z4, fz5, z6, lz6, xz6, z7, lz7, xz7, z8]
  ·have gz2n := no_f gz2
   rcases or_t gz2n with gz2na | ⟨gz2na, gz2nb⟩
   ·try simp only [go_sem, n1, n2, n3, n4, gz1, z1] at gz2na
    all_goals
    (simp_all)
   ·try simp only [go_sem, n1, n2, n3, n4, gz1, z1] at gz2na
    all_goals
    try simp only [go_sem, n1, n2, n3, n4, gz1, z1, gz2na] at gz2nb
    all_goals
    rcases it_some h with ⟨z3, h⟩ | ⟨z3, h⟩
    ·try simp only [go_sem, n1, n2, n3, n4, gz1, z1, gz2na, gz2nb] at z3
     all_goals
     obtain rfl := so_some h
     refine ⟨0, fun L hL => ?_⟩
     simp only [go_sem, ir44, gz1, z1, lz1, xz1, gz2na, gz2nb, z3]
    ·try simp only [go_sem, n1, n2, n3, n4, gz1, z1, gz2na, gz2nb] at z3
     all_goals
     obtain ⟨z4, h⟩ := ck_some h
     try simp only [go_sem, n1, n2, n3, n4, gz1, z1, gz2na, gz2nb, z3] at z4
     all_goals
     obtain ⟨y_5, z5, h⟩ := bd_some h
     have fz5 := Fs_45 z5
     try simp only [go_sem, gz1, z1, gz2na, gz2nb, z3, z4] at fz5
     obtain ⟨z6, h⟩ := ck_some h
     have lz6 := ix_lt z6
     have xz6 := getD_mapD byteAV b lz6
     try simp only [go_sem] at lz6
     try simp only [go_sem] at xz6
     try simp only [go_sem, n1, n2, n3, n4, gz1, z1, gz2na, gz2nb, z3, z4] at z6
     all_goals
     obtain ⟨z7, h⟩ := ck_some h
     have lz7 := ix_lt z7
     have xz7 := getD_mapD byteAV b lz7
     try simp only [go_sem] at lz7
     try simp only [go_sem] at xz7
     try simp only [go_sem, n1, n2, n3, n4, gz1, z1, gz2na, gz2nb, z3, z4, z6] at z7
     all_goals
     rcases it_some h with ⟨z8, h⟩ | ⟨z8, h⟩
     ·try simp only [go_sem, n1, n2, n3, n4, gz1, z1, gz2na, gz2nb, z3, z4, z6, z7] at z8
      all_goals
      obtain rfl := so_some h
      refine ⟨0, fun L hL => ?_⟩
      simp only [go_sem, ir44, gz1, z1, lz1, xz1, gz2na, gz2nb, z3, z4, fz5, z6, lz6, xz6, z7, lz7, xz7, z8]
     ·try simp only [go_sem, n1, n2, n3, n4, gz1, z1, gz2na, gz2nb, z3, z4, z6, z7] at z8
      all_goals
      obtain rfl := so_some h
      refine ⟨0, fun L hL => ?_⟩
      simp only [go_sem, ir44, gz1, z1, lz1, xz1, gz2na, gz2nb, z3, z4, fz5, z6, lz6, xz6, z7, lz7, xz7, z8]
 ·have gz1n := no_f gz1
  rcases or_t gz1n with gz1na | ⟨gz1na, gz1nb⟩
  ·try simp only [go_sem, n1, n2, n3, n4] at gz1na
   all_goals
   obtain ⟨z2, h⟩ := ck_some h
   rcases it_some h with ⟨z3, h⟩ | ⟨z3, h⟩
   ·try simp only [go_sem, n1, n2, n3, n4, gz1na] at z3
    all_goals
    obtain rfl := so_some h
    refine ⟨0, fun L hL => ?_⟩
    simp only [go_sem, ir44, gz1na, z3]
   ·try simp only [go_sem, n1, n2, n3, n4, gz1na] at z3
    all_goals
    (simp_all)
  ·try simp only [go_sem, n1, n2, n3, n4] at gz1na
   all_goals
   try simp only [go_sem, n1, n2, n3, n4, gz1na] at gz1nb
   all_goals
   obtain ⟨z2, h⟩ := ck_some h
   rcases it_some h with ⟨z3, h⟩ | ⟨z3, h⟩
   ·try simp only [go_sem, n1, n2, n3, n4, gz1na, gz1nb] at z3
    all_goals
    obtain rfl := so_some h
    refine ⟨0, fun L hL => ?_⟩
    simp only [go_sem, ir44, gz1na, gz1nb, z3]
   ·try simp only [go_sem, n1, n2, n3, n4, gz1na, gz1nb] at z3
    all_goals
    (simp_all)


def ir15_b0 : IR := .seq (.region false [ VO 12 27 (.bin false .lss (.v 11) (.v 10))]) (.seq (.cond (.v 12) (.skip) (.exit 0)) (.seq (.block 1 (.seq (.region false [ PM 28 6, PM 29 4, PO 30 (.call 47 [(.s 0), (I6 10000000)]), PO 31 (.bin false .add (.s 2) (.s 0)), VS 6 7 0]) (.seq (.region false [ PM 32 7, PM 33 4, PO 34 (.call 47 [(.s 0), (I6 44000)]), PO 35 (.call 49 [(.s 0)]), PO 36 (.bin false .add (.s 3) (.s 0)), VS 7 8 0]) (.region false [ PM 37 5, PM 38 6, PM 39 7, PO 40 (.build [.int .i64 (0), .int .i64 (0)] [(0, 1, (.s 1)), (1, 1, (.s 0))]), PO 41 (.mkSl 2 (.agg [.int .i64 (0), .int
 .i64 (0)]) 1 [(0, (.s 0))]), PO 42 (.app 2 16 (.agg [.int .i64 (0), .int .i64 (0)]) (.s 4) (.s 0)), VS 5 6 0])))) (.region false [ PO 43 (.bin false .add (.v 11) (I6 1)), VS 11 26 0])))
def ir15_k0 : List Bool := [true, false, false, false, true, true, true, true, false, false, true, true, false]
def ir15_o0 : List Bool := [true, false, false, false, true, true, false, false, false, false, false, false, false]
def ir15_r0 : List Bool := [false, true, true, false, false, false, false, false, false, false, false, false, false]
def ir15_v : List Nat := [0, 2, 3, 4, 5, 6, 7, 8, 9, 10, 25, 26, 27]
def ir15 : AFn := ⟨1, 13, .seq (.region false [ VO 1 2 (.newnil 2), VO 2 3 (.mov (I6 0))]) (.seq (.seq (.region false [ PM 11 0, PO 12 (.call 44 [(.s 0), (.c (.fn (.func 54) [] []))]), VS 3 4 0]) (.test false [ PM 13 3, PO 14 (.bin false .neq (.s 0) (I6 0))] (.s 0) (.seq (.region false [ PM 15 3, VO 1 2 (.newnil 2), VS 2 3 0]) (.ret)) (.skip))) (.seq (.region false [ PM 16 0, PM 17 0, PO 18 (.len false (.s 0)), PO 19 (.bin false .sub (.s 0) (I6 2)), PO 20 (.slice 1 (.s 3) (some (I6 1)) (some (.s 0))), PO 21 (.build [.sl 1 [], .bool false] [(0, 1, (.s 0))]), PO 22 (.box (.s 0)), VS 4 5 0]) (.seq
 (.region false [ PO 23 (.mkSl 2 (.agg [.int .i64 (0), .int .i64 (0)]) 0 []), VS 5 6 0, VO 6 7 (.mov (I6 0)), VO 7 8 (.mov (I6 0))]) (.seq (.seq (.region false [ PM 24 4, VO 10 25 (.call 47 [(.s 0), (I6 100)]), VO 11 26 (.mov (I6 0))]) (.block 0 (.loop ir15_k0 ir15_o0 ir15_r0 ir15_b0))) (.seq (.region false [ PM 45 5, PO 46 (.call 9 [(.s 0)]), PO 44 (.mov (.s 0)), PO 47 (.ext (.s 0) 0), PO 48 (.ext (.s 1) 1), VS 8 9 1, VS 9 10 0]) (.seq (.test false [ PM 49 4, PO 50 (.nilck (.s 0)), PO 51 (.fldAddr 1 (.s 0)), PO 52 (.load false 1 (.s 0)), PO 53 (.mov (.s 0)), ⟨.push, 54, (some ((.s 0), false)),
 .mov (.v 9)⟩, ⟨.push, 55, (some ((.s 1), false)), .bin false .neq (.s 0) (I6 0)⟩, PO 56 (.pick (.s 2) (.c (.bool true)) (.s 0)), PO 57 (.mov (.s 0)), ⟨.push, 58, (some ((.s 0), false)), .mov (.v 8)⟩, ⟨.push, 59, (some ((.s 1), false)), .mov (.v 0)⟩, ⟨.push, 60, (some ((.s 2), false)), .call 50 [(.s 1), (.s 0)]⟩, ⟨.push, 61, (some ((.s 3), false)), .un .not (.s 0)⟩, PO 62 (.pick (.s 4) (.c (.bool true)) (.s 0))] (.s 0) (.seq (.region false [ VO 1 2 (.newnil 2), VO 2 3 (.mov (I6 8))]) (.ret)) (.skip)) (.seq (.region false [ PM 63 5, VS 1 2 0, VO 2 3 (.mov (I6 0))]) (.ret)))))))), [.t 1, .t 2]⟩
noncomputable def t_95 : List (Nat × Ctr) := [(44, c_94), (47, c_80), (49, c_82), (9, c_71), (50, c_bytes_Equal)]
theorem lk_95_44 : look t_95 44 = some c_94 := rfl
theorem lk_95_47 : look t_95 47 = some c_80 := rfl
theorem lk_95_49 : look t_95 49 = some c_82 := rfl
theorem lk_95_9 : look t_95 9 = some c_71 := rfl
theorem lk_95_50 : look t_95 50 = some c_bytes_Equal := rfl
noncomputable def c_95 : Ctr := mkF t_95 ir15 [.bor]
theorem s_95 : Sound Tryz.prog 15 c_95 := mkF_sound _ rfl (snd_cons s_94 (snd_cons s_80 (snd_cons s_82 (snd_cons s_71 (snd_cons s_bytes_Equal snd_nil))))) (by kernel_rfl : chkFn Tryz.prog 15 ir15 ir15_v = true)
theorem M_95 : c_95.modes = [.bor] := rfl
theorem Fl_95 : c_95.flat = true := rfl
attribute [go_sem] M_95 Fl_95
attribute [go_sem] lk_95_44 lk_95_47 lk_95_49 lk_95_9 lk_95_50
def E_95_l1 (b : List UInt8) (t25 : Int) : (Unpacker × (List Point) × Int × Int × Int) → St
 | (u, curve, time, mag, t26) => ⟨[.sl 1 (List.map byteAV b), .any, .any, .any, .ref 3200000 0 0, .own 3200032, .int .i64 time, .int .i64 mag, .any, .any, .int .i64 t25, .int .i64 t26, .any], [], [(3200000, ⟨2, [Unpacker_av u]⟩), (3200032, ⟨2, List.map Point_av curve⟩)], true⟩
def R_95_l1 (b : List UInt8) (t25 : Int) (y : Unpacker × (List Point)) : Res := (.exit 0, ⟨[.sl 1 (List.map byteAV b), .any, .any, .any, .ref 3200000 0 0, .own 3200032, .any, .any, .any, .any, .any, .any, .any], [], [(3200000, ⟨2, [Unpacker_av y.1]⟩), (3200032, ⟨2, List.map Point_av y.2⟩)], true⟩)
theorem impl_UnpackCurve_l1_ex {b : List UInt8} {t25 : Int} {sgm_ : Unpacker × (List Point) × Int × Int × Int} {rho_ : Unpacker × (List Point)} (h : whileE (impl_UnpackCurve_l1 b t25) sgm_ = some rho_) : ∃ L0, ∀ L, L0 ≤ L → iter (exec (look t_95) L ir15_b0) ir15_k0 ir15_o0 ir15_r0 L (E_95_l1 b t25 sgm_) = R_95_l1 b t25 rho_ := by
 refine loop_ex (E := E_95_l1 b t25) (R := R_95_l1 b t25) (fun y => by first | (intro c; cases c) | (rcases y with y | y <;> (intro c; cases c)) | (rcases y with y | y | y <;> (intro c; cases c))) ?_ h
 clear h
 rintro ⟨u, curve, time, mag, t26⟩ o_ h
 dsimp only [impl_UnpackCurve_l1] at h
 rcases it_some h with ⟨z5, h⟩ | ⟨z5, h⟩
 ·try simp only [go_sem, n1, n2, n3, n4] at z5
  all_goals
  obtain ⟨y_6, z6, h⟩ := bd_some h
  have fz6 := Fs_80 z6
  try simp only [go_sem, z5] at fz6
  obtain ⟨y_7, z7, h⟩ := bd_some h
  have fz7 := Fs_80 z7
  try simp only [go_sem, z5] at fz7
  obtain ⟨y_8, z8, h⟩ := bd_some h
  have fz8 := Fs_82 z8
  try simp only [go_sem, z5] at fz8
  obtain ⟨z9, h⟩ := ck_some h
  try simp only [go_sem, n1, n2, n3, n4, z5] at z9
  all_goals
  obtain rfl := so_some h
  refine ⟨0, fun L hL => ?_⟩
  simp only [go_sem, ir15, E_95_l1, R_95_l1, ir15_b0, ir15_k0, ir15_o0, ir15_r0, z5, fz6, fz7, fz8, z9]
 ·try simp only [go_sem, n1, n2, n3, n4] at z5
  all_goals
  obtain rfl := so_some h
  refine ⟨0, fun L hL => ?_⟩
  simp only [go_sem, ir15, E_95_l1, R_95_l1, ir15_b0, ir15_k0, ir15_o0, ir15_r0, z5]

theorem Fs_95 {b : List UInt8} {y_ : (List Point) × Int} (h : impl_UnpackCurve b = some y_) : c_95.F [.sl 1 (List.map byteAV b)] = ⟨true, .tup [.fresh 2 (List.map Point_av y_.1), .int .i64 y_.2], [.any]⟩ := by
 refine mkF_E (by simp only [flatA, flatB, flat1, List.all_cons, List.all_nil, Bool.and_self, flatE_map (f := Point_av) (fun _ => rfl)]) ?_
 dsimp only [impl_UnpackCurve] at h
 obtain ⟨y_1, z1, h⟩ := bd_some h
 have fz1 := Fs_94 z1
 try simp only [go_sem] at fz1
 rcases it_some h with ⟨z2, h⟩ | ⟨z2, h⟩
 ·try simp only [go_sem, n1, n2, n3, n4] at z2
  all_goals
  obtain rfl := so_some h
  refine ⟨0, fun L hL => ?_⟩
  simp only [go_sem, ir15, E_95_l1, R_95_l1, ir15_k0, ir15_o0, ir15_r0, fz1, z2]
 ·try simp only [go_sem, n1, n2, n3, n4] at z2
  all_goals
  obtain ⟨z3, h⟩ := ck_some h
  try simp only [go_sem, n1, n2, n3, n4, z2] at z3
  all_goals
  obtain ⟨y_4, z4, h⟩ := bd_some h
  have fz4 := Fs_80 z4
  try simp only [go_sem, z2, z3] at fz4
  obtain ⟨y_10, z10, h⟩ := bd_some h
  obtain ⟨Lz10, ez10⟩ := impl_UnpackCurve_l1_ex z10
  obtain ⟨y_11, z11, h⟩ := bd_some h
  have fz11 := Fs_71 z11
  try simp only [go_sem, z2, z3] at fz11
  obtain ⟨z12, h⟩ := ck_some h
  rcases or_split z12 with ⟨gz12, z12⟩ | gz12
  ·try simp only [go_sem, n1, n2, n3, n4, z2, z3] at gz12
   all_goals
   obtain ⟨y_12, hz12⟩ := Option.isSome_iff_exists.1 z12
   have fz12 := Fs_bytes_Equal hz12
   try simp only [go_sem, n1, n2, n3, n4, z2, z3, gz12] at hz12
   all_goals
   try simp only [go_sem, z2, z3, gz12] at fz12
   rcases it_some h with ⟨z13, h⟩ | ⟨z13, h⟩
   ·try simp only [go_sem, n1, n2, n3, n4, z2, z3, gz12, hz12] at z13
    all_goals
    obtain rfl := so_some h
    refine ⟨Lz10, fun L hL => ?_⟩
    have ez10 := ez10 L (by omega)
    try simp only [go_sem, E_95_l1, R_95_l1, ir15_k0, ir15_o0, ir15_r0, z2, z3, gz12, hz12, z13] at ez10
    simp only [go_sem, ir15, E_95_l1, R_95_l1, ir15_k0, ir15_o0, ir15_r0, fz1, z2, z3, fz4, fz11, gz12, hz12, fz12, z13, ez10]
   ·try simp only [go_sem, n1, n2, n3, n4, z2, z3, gz12, hz12] at z13
    all_goals
    obtain rfl := so_some h
    refine ⟨Lz10, fun L hL => ?_⟩
    have ez10 := ez10 L (by omega)
    try simp only [go_sem, E_95_l1, R_95_l1, ir15_k0, ir15_o0, ir15_r0, z2, z3, gz12, hz12, z13] at ez10
    simp only [go_sem, ir15, E_95_l1, R_95_l1, ir15_k0, ir15_o0, ir15_r0, fz1, z2, z3, fz4, fz11, gz12, hz12, fz12, z13, ez10]
  ·have gz12n := no_f gz12
   rcases or_t gz12n with gz12na | ⟨gz12na, gz12nb⟩
   ·try simp only [go_sem, n1, n2, n3, n4, z2, z3] at gz12na
    all_goals
    rcases it_some h with ⟨z13, h⟩ | ⟨z13, h⟩
    ·try simp only [go_sem, n1, n2, n3, n4, z2, z3, gz12na] at z13
     all_goals
     obtain rfl := so_some h
     refine ⟨Lz10, fun L hL => ?_⟩
     have ez10 := ez10 L (by omega)
     try simp only [go_sem, E_95_l1, R_95_l1, ir15_k0, ir15_o0, ir15_r0, z2, z3, gz12na, z13] at ez10
     simp only [go_sem, ir15, E_95_l1, R_95_l1, ir15_k0, ir15_o0, ir15_r0, fz1, z2, z3, fz4, fz11, gz12na, z13, ez10]
    ·try simp only [go_sem, n1, n2, n3, n4, z2, z3, gz12na] at z13
     all_goals
     (simp_all)
   ·have gz12nbn := no_t gz12nb
    try simp only [go_sem, n1, n2, n3, n4, z2, z3] at gz12na
    all_goals
    try simp only [go_sem, n1, n2, n3, n4, z2, z3, gz12na] at gz12nbn
    all_goals
    rcases it_some h with ⟨z13, h⟩ | ⟨z13, h⟩
    ·try simp only [go_sem, n1, n2, n3, n4, z2, z3, gz12na, gz12nbn] at z13
     all_goals
     obtain rfl := so_some h
     refine ⟨Lz10, fun L hL => ?_⟩
     have ez10 := ez10 L (by omega)
     try simp only [go_sem, E_95_l1, R_95_l1, ir15_k0, ir15_o0, ir15_r0, z2, z3, gz12na, gz12nbn, z13] at ez10
     simp only [go_sem, ir15, E_95_l1, R_95_l1, ir15_k0, ir15_o0, ir15_r0, fz1, z2, z3, fz4, fz11, gz12na, gz12nbn, z13, ez10]
    ·try simp only [go_sem, n1, n2, n3, n4, z2, z3, gz12na, gz12nbn] at z13
     all_goals
     (simp_all)


def ir16_b0 : IR := .seq (.test false [ PM 25 8, PO 26 (.bin false .gtr (.s 0) (I6 0)), PO 27 (.mov (.s 0)), ⟨.push, 28, (some ((.s 0), true)), .mov (.v 4)⟩, ⟨.push, 29, (some ((.s 1), true)), .nilck (.s 0)⟩, ⟨.push, 30, (some ((.s 2), true)), .fldAddr 2 (.s 0)⟩, ⟨.push, 31, (some ((.s 3), true)), .load false 1 (.s 0)⟩, PO 32 (.pick (.s 4) (.s 0) (.c (.bool false)))] (.s 0) (.skip) (.exit 0)) (.seq (.block 1 (.seq (.region false [ PM 35 6, PM 36 4, PO 37 (.call 55 [(.s 0), (I6 10000000)]), PO 38 (.bin false .add (.s 2) (.s 0)), VS 6 7 0]) (.seq (.region false [ PM 39 7, PM 40 4, PO 41 (.call 55
 [(.s 0), (I6 100000)]), PO 42 (.call 56 [(.s 0)]), PO 43 (.bin false .add (.s 3) (.s 0)), VS 7 8 0]) (.region false [ PM 44 5, PM 45 6, PM 46 7, PO 47 (.build [.int .i64 (0), .int .i64 (0)] [(0, 1, (.s 1)), (1, 1, (.s 0))]), PO 48 (.mkSl 2 (.agg [.int .i64 (0), .int .i64 (0)]) 1 [(0, (.s 0))]), PO 49 (.app 2 16 (.agg [.int .i64 (0), .int .i64 (0)]) (.s 4) (.s 0)), VS 5 6 0])))) (.region false [ PM 33 8, PO 34 (.bin false .sub (.s 0) (I6 1)), VS 8 9 0]))
def ir16_k0 : List Bool := [true, false, false, false, true, true, true, true, true]
def ir16_o0 : List Bool := [true, false, false, false, true, true, false, false, false]
def ir16_r0 : List Bool := [false, true, true, false, false, false, false, false, false]
def ir16_v : List Nat := [0, 2, 3, 4, 5, 6, 7, 8, 9]
def ir16 : AFn := ⟨1, 9, .seq (.region false [ VO 1 2 (.newnil 2), VO 2 3 (.mov (I6 0))]) (.seq (.region false [ PM 10 0, PO 11 (.call 51 [(.s 0), (I6 67)]), VS 3 4 0]) (.seq (.test false [ PM 12 3, PO 13 (.bin false .neq (.s 0) (I6 0))] (.s 0) (.seq (.region false [ PM 14 3, VO 1 2 (.newnil 2), VS 2 3 0]) (.ret)) (.skip)) (.seq (.region false [ PM 15 0, PM 16 0, PO 17 (.len false (.s 0)), PO 18 (.bin false .sub (.s 0) (I6 2)), PO 19 (.slice 1 (.s 3) none (some (.s 0))), PO 20 (.build [.sl 1 [], .int .i64 (0), .bool false] [(0, 1, (.s 0)), (1, 1, (I6 1)), (2, 1, (.c (.bool true)))]), PO 21
 (.box (.s 0)), VS 4 5 0]) (.seq (.region false [ PO 22 (.mkSl 2 (.agg [.int .i64 (0), .int .i64 (0)]) 0 []), VS 5 6 0]) (.seq (.region false [ VO 6 7 (.mov (I6 0))]) (.seq (.region false [ VO 7 8 (.mov (I6 0))]) (.seq (.seq (.region false [ PM 23 4, PO 24 (.call 55 [(.s 0), (I6 100)]), VS 8 9 0]) (.block 0 (.loop ir16_k0 ir16_o0 ir16_r0 ir16_b0))) (.seq (.anyo 18 [ SO 0 50 (.mov (.v 4)), SO 1 51 (.nilck (.s 0)), SO 2 52 (.fldAddr 2 (.s 1)), SO 3 53 (.load false 1 (.s 2)), SO 4 54 (.un .not (.s 3)), SO 5 55 (.mov (.s 4)), ⟨.slot 6, 56, (some ((.s 5), false)), .mov (.v 5)⟩, ⟨.slot 7, 57, (some
 ((.s 5), false)), .call 39 [(.s 6)]⟩, ⟨.slot 8, 58, (some ((.s 5), false)), .un .not (.s 7)⟩, SO 9 59 (.pick (.s 5) (.c (.bool true)) (.s 8)), SO 10 60 (.mov (.s 9)), ⟨.slot 11, 61, (some ((.s 10), false)), .mov (.v 5)⟩, ⟨.slot 12, 62, (some ((.s 10), false)), .call 40 [(.s 11)]⟩, ⟨.slot 13, 63, (some ((.s 10), false)), .b2s (.s 12)⟩, ⟨.slot 14, 64, (some ((.s 10), false)), .mov (.v 0)⟩, ⟨.slot 15, 65, (some ((.s 10), false)), .b2s (.s 14)⟩, ⟨.slot 16, 66, (some ((.s 10), false)), .bin false .neq (.s 13) (.s 15)⟩, SO 17 67 (.pick (.s 10) (.c (.bool true)) (.s 16))] [] (.cond (.s 17) (.seq
 (.region false [ VO 1 2 (.newnil 2), VO 2 3 (.mov (I6 8))]) (.ret)) (.skip))) (.seq (.region false [ PM 68 5, VS 1 2 0, VO 2 3 (.mov (I6 0))]) (.ret)))))))))), [.t 1, .t 2]⟩
noncomputable def t_96 : List (Nat × Ctr) := [(51, c_85), (55, c_87), (56, c_89), (39, c_72), (40, c_73)]
theorem lk_96_51 : look t_96 51 = some c_85 := rfl
theorem lk_96_55 : look t_96 55 = some c_87 := rfl
theorem lk_96_56 : look t_96 56 = some c_89 := rfl
theorem lk_96_39 : look t_96 39 = some c_72 := rfl
theorem lk_96_40 : look t_96 40 = some c_73 := rfl
noncomputable def c_96 : Ctr := mkF t_96 ir16 [.bor]
theorem s_96 : Sound Tryz.prog 16 c_96 := mkF_sound _ rfl (snd_cons s_85 (snd_cons s_87 (snd_cons s_89 (snd_cons s_72 (snd_cons s_73 snd_nil))))) (by kernel_rfl : chkFn Tryz.prog 16 ir16 ir16_v = true)
theorem M_96 : c_96.modes = [.bor] := rfl
theorem Fl_96 : c_96.flat = true := rfl
attribute [go_sem] M_96 Fl_96
attribute [go_sem] lk_96_51 lk_96_55 lk_96_56 lk_96_39 lk_96_40
def E_96_l1 (b : List UInt8) : (L25R × (List Point) × Int × Int × Int) → St
 | (r, out, time, mag, n) => ⟨[.sl 1 (List.map byteAV b), .any, .any, .any, .ref 3200000 0 0, .own 3200032, .int .i64 time, .int .i64 mag, .int .i64 n], [], [(3200000, ⟨3, [L25R_av r]⟩), (3200032, ⟨2, List.map Point_av out⟩)], true⟩
def R_96_l1 (b : List UInt8) (y : L25R × (List Point)) : Res := (.exit 0, ⟨[.sl 1 (List.map byteAV b), .any, .any, .any, .ref 3200000 0 0, .own 3200032, .any, .any, .any], [], [(3200000, ⟨3, [L25R_av y.1]⟩), (3200032, ⟨2, List.map Point_av y.2⟩)], true⟩)
theorem spec_UnpackCurve_l1_ex {b : List UInt8} {sgm_ : L25R × (List Point) × Int × Int × Int} {rho_ : L25R × (List Point)} (h : whileE (spec_UnpackCurve_l1 b) sgm_ = some rho_) : ∃ L0, ∀ L, L0 ≤ L → iter (exec (look t_96) L ir16_b0) ir16_k0 ir16_o0 ir16_r0 L (E_96_l1 b sgm_) = R_96_l1 b rho_ := by
 refine loop_ex (E := E_96_l1 b) (R := R_96_l1 b) (fun y => by first | (intro c; cases c) | (rcases y with y | y <;> (intro c; cases c)) | (rcases y with y | y | y <;> (intro c; cases c))) ?_ h
 clear h
 rintro ⟨r, out, time, mag, n⟩ o_ h
 dsimp only [spec_UnpackCurve_l1] at h
 rcases it_some h with ⟨z5, h⟩ | ⟨z5, h⟩
 ·try simp only [go_sem, n1, n2, n3, n4] at z5
  all_goals
  obtain ⟨y_6, z6, h⟩ := bd_some h
  have fz6 := Fs_87 z6
  try simp only [go_sem, z5] at fz6
  obtain ⟨y_7, z7, h⟩ := bd_some h
  have fz7 := Fs_87 z7
  try simp only [go_sem, z5] at fz7
  obtain ⟨y_8, z8, h⟩ := bd_some h
  have fz8 := Fs_89 z8
  try simp only [go_sem, z5] at fz8
  obtain ⟨z9, h⟩ := ck_some h
  try simp only [go_sem, n1, n2, n3, n4, z5] at z9
  all_goals
  obtain rfl := so_some h
  refine ⟨0, fun L hL => ?_⟩
  simp only [go_sem, ir16, E_96_l1, R_96_l1, ir16_b0, ir16_k0, ir16_o0, ir16_r0, z5, fz6, fz7, fz8, z9]
 ·try simp only [go_sem, n1, n2, n3, n4] at z5
  all_goals
  obtain rfl := so_some h
  refine ⟨0, fun L hL => ?_⟩
  simp only [go_sem, ir16, E_96_l1, R_96_l1, ir16_b0, ir16_k0, ir16_o0, ir16_r0, z5]

theorem Fs_96 {b : List UInt8} {y_ : (List Point) × Int} (h : spec_UnpackCurve b = some y_) : c_96.F [.sl 1 (List.map byteAV b)] = ⟨true, .tup [.fresh 2 (List.map Point_av y_.1), .int .i64 y_.2], [.any]⟩ := by
 refine mkF_E (by simp only [flatA, flatB, flat1, List.all_cons, List.all_nil, Bool.and_self, flatE_map (f := Point_av) (fun _ => rfl)]) ?_
 dsimp only [spec_UnpackCurve] at h
 obtain ⟨y_1, z1, h⟩ := bd_some h
 have fz1 := Fs_85 z1
 try simp only [go_sem] at fz1
 rcases it_some h with ⟨z2, h⟩ | ⟨z2, h⟩
 ·try simp only [go_sem, n1, n2, n3, n4] at z2
  all_goals
  obtain rfl := so_some h
  refine ⟨0, fun L hL => ?_⟩
  simp only [go_sem, ir16, E_96_l1, R_96_l1, ir16_k0, ir16_o0, ir16_r0, fz1, z2]
 ·try simp only [go_sem, n1, n2, n3, n4] at z2
  all_goals
  obtain ⟨z3, h⟩ := ck_some h
  try simp only [go_sem, n1, n2, n3, n4, z2] at z3
  all_goals
  obtain ⟨y_4, z4, h⟩ := bd_some h
  have fz4 := Fs_87 z4
  try simp only [go_sem, z2, z3] at fz4
  obtain ⟨y_10, z10, h⟩ := bd_some h
  obtain ⟨Lz10, ez10⟩ := spec_UnpackCurve_l1_ex z10
  obtain ⟨z11, h⟩ := ck_some h
  rcases or_split z11 with ⟨gz11, z11⟩ | gz11
  ·try simp only [go_sem, n1, n2, n3, n4, z2, z3] at gz11
   all_goals
   obtain ⟨y_11, hz11⟩ := Option.isSome_iff_exists.1 z11
   have fz11 := Fs_72 hz11
   try simp only [go_sem, n1, n2, n3, n4, z2, z3, gz11] at hz11
   all_goals
   try simp only [go_sem, z2, z3, gz11] at fz11
   obtain ⟨z12, h⟩ := ck_some h
   rcases or_split z12 with ⟨gz12, z12⟩ | gz12
   ·try simp only [go_sem, n1, n2, n3, n4, z2, z3, gz11, hz11] at gz12
    all_goals
    obtain ⟨y_12, hz12⟩ := Option.isSome_iff_exists.1 z12
    have fz12 := Fs_73 hz12
    try simp only [go_sem, n1, n2, n3, n4, z2, z3, gz11, hz11, gz12] at hz12
    all_goals
    try simp only [go_sem, z2, z3, gz11, hz11, gz12] at fz12
    rcases it_some h with ⟨z13, h⟩ | ⟨z13, h⟩
    ·try simp only [go_sem, n1, n2, n3, n4, z2, z3, gz11, hz11, gz12, hz12] at z13
     all_goals
     obtain rfl := so_some h
     refine ⟨Lz10, fun L hL => ?_⟩
     have ez10 := ez10 L (by omega)
     try simp only [go_sem, E_96_l1, R_96_l1, ir16_k0, ir16_o0, ir16_r0, z2, z3, gz11, hz11, gz12, hz12, z13] at ez10
     simp only [go_sem, ir16, E_96_l1, R_96_l1, ir16_k0, ir16_o0, ir16_r0, fz1, z2, z3, fz4, gz11, hz11, fz11, gz12, hz12, fz12, z13, ez10]
    ·try simp only [go_sem, n1, n2, n3, n4, z2, z3, gz11, hz11, gz12, hz12] at z13
     all_goals
     obtain rfl := so_some h
     refine ⟨Lz10, fun L hL => ?_⟩
     have ez10 := ez10 L (by omega)
     try simp only [go_sem, E_96_l1, R_96_l1, ir16_k0, ir16_o0, ir16_r0, z2, z3, gz11, hz11, gz12, hz12, z13] at ez10
     simp only [go_sem, ir16, E_96_l1, R_96_l1, ir16_k0, ir16_o0, ir16_r0, fz1, z2, z3, fz4, gz11, hz11, fz11, gz12, hz12, fz12, z13, ez10]
   ·have gz12n := no_f gz12
    rcases or_t gz12n with gz12na | ⟨gz12na, gz12nb⟩
    ·try simp only [go_sem, n1, n2, n3, n4, z2, z3, gz11, hz11] at gz12na
     all_goals
     (simp_all)
    ·have gz12nan := no_f gz12na
     have gz12nbn := no_t gz12nb
     try simp only [go_sem, n1, n2, n3, n4, z2, z3, gz11, hz11] at gz12nan
     all_goals
     try simp only [go_sem, n1, n2, n3, n4, z2, z3, gz11, hz11, gz12nan] at gz12nbn
     all_goals
     rcases it_some h with ⟨z13, h⟩ | ⟨z13, h⟩
     ·try simp only [go_sem, n1, n2, n3, n4, z2, z3, gz11, hz11, gz12nan, gz12nbn] at z13
      all_goals
      obtain rfl := so_some h
      refine ⟨Lz10, fun L hL => ?_⟩
      have ez10 := ez10 L (by omega)
      try simp only [go_sem, E_96_l1, R_96_l1, ir16_k0, ir16_o0, ir16_r0, z2, z3, gz11, hz11, gz12nan, gz12nbn, z13] at ez10
      simp only [go_sem, ir16, E_96_l1, R_96_l1, ir16_k0, ir16_o0, ir16_r0, fz1, z2, z3, fz4, gz11, hz11, fz11, gz12nan, gz12nbn, z13, ez10]
     ·try simp only [go_sem, n1, n2, n3, n4, z2, z3, gz11, hz11, gz12nan, gz12nbn] at z13
      all_goals
      (simp_all)
  ·have gz11n := no_f gz11
   have gz11nn := no_t gz11n
   try simp only [go_sem, n1, n2, n3, n4, z2, z3] at gz11nn
   all_goals
   obtain ⟨z12, h⟩ := ck_some h
   rcases it_some h with ⟨z13, h⟩ | ⟨z13, h⟩
   ·try simp only [go_sem, n1, n2, n3, n4, z2, z3, gz11nn] at z13
    all_goals
    obtain rfl := so_some h
    refine ⟨Lz10, fun L hL => ?_⟩
    have ez10 := ez10 L (by omega)
    try simp only [go_sem, E_96_l1, R_96_l1, ir16_k0, ir16_o0, ir16_r0, z2, z3, gz11nn, z13] at ez10
    simp only [go_sem, ir16, E_96_l1, R_96_l1, ir16_k0, ir16_o0, ir16_r0, fz1, z2, z3, fz4, gz11nn, z13, ez10]
   ·try simp only [go_sem, n1, n2, n3, n4, z2, z3, gz11nn] at z13
    all_goals
    (simp_all)


def ir57_b0 : IR := .seq (.test false [ PM 8 3, PO 9 (.bin false .gtr (.s 0) (I6 0))] (.s 0) (.skip) (.exit 0)) (.seq (.block 1 (.region false [ PM 12 2, PM 13 0, PO 14 (.call 58 [(.s 0), (I6 256)]), PO 15 (.conv .u8 (.s 0)), PO 16 (.mkSl 1 (.int .u8 (0)) 1 [(0, (.s 0))]), PO 17 (.app 1 1 (.int .u8 (0)) (.s 4) (.s 0)), VS 2 3 0])) (.region false [ PM 10 3, PO 11 (.bin false .sub (.s 0) (I6 1)), VS 3 4 0]))
def ir57_k0 : List Bool := [true, false, true, true]
def ir57_o0 : List Bool := [true, false, true, false]
def ir57_r0 : List Bool := [true, true, false, false]
def ir57_v : List Nat := [0, 2, 3, 4]
def ir57 : AFn := ⟨1, 4, .seq (.region false [ VO 1 2 (.newnil 1)]) (.seq (.region false [ PO 5 (.mkSl 1 (.int .u8 (0)) 0 []), VS 2 3 0]) (.seq (.seq (.region false [ PM 6 0, PO 7 (.call 58 [(.s 0), (I6 12)]), VS 3 4 0]) (.block 0 (.loop ir57_k0 ir57_o0 ir57_r0 ir57_b0))) (.seq (.region false [ PM 18 2, VS 1 2 0]) (.ret)))), [.t 1]⟩
noncomputable def t_97 : List (Nat × Ctr) := [(58, c_3)]
theorem lk_97_58 : look t_97 58 = some c_3 := rfl
noncomputable def c_97 : Ctr := mkN t_97 ir57 [.io]
theorem s_97 : Sound Tryz.prog 57 c_97 := mkN_sound _ (snd_cons s_3 snd_nil) (by kernel_rfl : chkFn Tryz.prog 57 ir57 ir57_v = true)
theorem M_97 : c_97.modes = [.io] := rfl
theorem Fl_97 : c_97.flat = false := rfl
attribute [go_sem] M_97 Fl_97
attribute [go_sem] lk_97_58
def E_97_l1  : (L00Src × (List UInt8) × Int) → St
 | (s_, out, k) => ⟨[.ref 31 0 0, .any, .own 3200032, .int .i64 k], [], [(31, ⟨3, [L00Src_av s_]⟩), (3200032, ⟨1, List.map byteAV out⟩)], true⟩
def R_97_l1  (y : L00Src × (List UInt8)) : Res := (.exit 0, ⟨[.ref 31 0 0, .any, .own 3200032, .any], [], [(31, ⟨3, [L00Src_av y.1]⟩), (3200032, ⟨1, List.map byteAV y.2⟩)], true⟩)
theorem spec_l25Bytes_l1_ex  {sgm_ : L00Src × (List UInt8) × Int} {rho_ : L00Src × (List UInt8)} (h : whileE (spec_l25Bytes_l1) sgm_ = some rho_) : ∃ L0, ∀ L, L0 ≤ L → iter (exec (look t_97) L ir57_b0) ir57_k0 ir57_o0 ir57_r0 L (E_97_l1 sgm_) = R_97_l1 rho_ := by
 refine loop_ex (E := E_97_l1) (R := R_97_l1) (fun y => by first | (intro c; cases c) | (rcases y with y | y <;> (intro c; cases c)) | (rcases y with y | y | y <;> (intro c; cases c))) ?_ h
 clear h
 rintro ⟨s_, out, k⟩ o_ h
 dsimp only [spec_l25Bytes_l1] at h
 rcases it_some h with ⟨z2, h⟩ | ⟨z2, h⟩
 ·try simp only [go_sem, n1, n2, n3, n4] at z2
  all_goals
  obtain ⟨y_3, z3, h⟩ := bd_some h
  have fz3 := Fs_3 z3
  try simp only [go_sem, z2] at fz3
  obtain ⟨z4, h⟩ := ck_some h
  try simp only [go_sem, n1, n2, n3, n4, z2] at z4
  all_goals
  obtain rfl := so_some h
  refine ⟨0, fun L hL => ?_⟩
  simp only [go_sem, ir57, E_97_l1, R_97_l1, ir57_b0, ir57_k0, ir57_o0, ir57_r0, z2, fz3, z4]
 ·try simp only [go_sem, n1, n2, n3, n4] at z2
  all_goals
  obtain rfl := so_some h
  refine ⟨0, fun L hL => ?_⟩
  simp only [go_sem, ir57, E_97_l1, R_97_l1, ir57_b0, ir57_k0, ir57_o0, ir57_r0, z2]

theorem Fs_97 {s_ : L00Src} {y_ : (List UInt8) × L00Src} (h : spec_l25Bytes s_ = some y_) : c_97.F [.mem 3 [L00Src_av s_] 0] = ⟨true, .fresh 1 (List.map byteAV y_.1), [.mem 3 [L00Src_av y_.2] 0]⟩ := by
 refine mkN_E ?_
 dsimp only [spec_l25Bytes] at h
 obtain ⟨y_1, z1, h⟩ := bd_some h
 have fz1 := Fs_3 z1
 try simp only [go_sem] at fz1
 obtain ⟨y_5, z5, h⟩ := bd_some h
 obtain ⟨Lz5, ez5⟩ := spec_l25Bytes_l1_ex z5
 obtain rfl := so_some h
 refine ⟨Lz5, fun L hL => ?_⟩
 have ez5 := ez5 L (by omega)
 try simp only [go_sem, E_97_l1, R_97_l1, ir57_k0, ir57_o0, ir57_r0] at ez5
 simp only [go_sem, ir57, E_97_l1, R_97_l1, ir57_k0, ir57_o0, ir57_r0, fz1, ez5]


def ir17_v : List Nat := [0, 2, 3, 4]
def ir17 : AFn := ⟨1, 4, .seq (.region false [ VO 1 2 (.newnil 1)]) (.seq (.region false [ PM 5 0, PO 6 (.call 23 [(.s 0)]), VS 2 3 0]) (.seq (.test false [ PM 7 2, PO 8 (.call 42 [(.s 0), (I6 4)])] (.s 0) (.seq (.region false [ PM 9 2, PO 10 (.call 57 [(.s 0)]), VS 1 2 0]) (.ret)) (.skip)) (.seq (.test false [ PM 11 2, PO 12 (.call 42 [(.s 0), (I6 24)])] (.s 0) (.seq (.region false [ PM 13 2, PO 14 (.call 58 [(.s 0), (I6 2)]), PO 15 (.bin false .add (I6 7998) (.s 0)), PO 16 (.make 1 1 (.int .u8 (0)) (.s 0) (.s 0)), VS 3 4 0]) (.seq (.region false [ PM 17 3, PO 18 (.ixAddr 1 (.s 0) (I6 0)),
 ⟨.no, 0, none, .store 1 (.s 0) (.c (.int .u8 (67)))⟩]) (.seq (.region false [ PM 19 3, PO 20 (.call 59 [(.s 0)]), VS 1 2 0]) (.ret)))) (.skip)) (.seq (.test false [ PM 21 2, PO 22 (.call 42 [(.s 0), (I6 2)])] (.s 0) (.seq (.region false [ PM 23 0, PO 24 (.call 14 [(.s 0)]), VS 1 2 0]) (.ret)) (.skip)) (.seq (.region false [ PM 25 0, PO 26 (.call 11 [(.s 0)]), VS 1 2 0]) (.ret)))))), [.t 1]⟩
noncomputable def t_98 : List (Nat × Ctr) := [(23, c_1), (42, c_4), (57, c_97), (58, c_3), (59, c_63), (14, c_92), (11, c_76)]
theorem lk_98_23 : look t_98 23 = some c_1 := rfl
theorem lk_98_42 : look t_98 42 = some c_4 := rfl
theorem lk_98_57 : look t_98 57 = some c_97 := rfl
theorem lk_98_58 : look t_98 58 = some c_3 := rfl
theorem lk_98_59 : look t_98 59 = some c_63 := rfl
theorem lk_98_14 : look t_98 14 = some c_92 := rfl
theorem lk_98_11 : look t_98 11 = some c_76 := rfl
noncomputable def c_98 : Ctr := mkF t_98 ir17 [.bor]
theorem s_98 : Sound Tryz.prog 17 c_98 := mkF_sound _ rfl (snd_cons s_1 (snd_cons s_4 (snd_cons s_97 (snd_cons s_3 (snd_cons s_63 (snd_cons s_92 (snd_cons s_76 snd_nil))))))) (by kernel_rfl : chkFn Tryz.prog 17 ir17 ir17_v = true)
theorem M_98 : c_98.modes = [.bor] := rfl
theorem Fl_98 : c_98.flat = true := rfl
attribute [go_sem] M_98 Fl_98
attribute [go_sem] lk_98_23 lk_98_42 lk_98_57 lk_98_58 lk_98_59 lk_98_14 lk_98_11
theorem Fs_98 {code : List UInt8} {y_ : (List UInt8)} (h : spec_DrawKindOfPacked code = some y_) : c_98.F [.sl 1 (List.map byteAV code)] = ⟨true, .fresh 1 (List.map byteAV y_), [.any]⟩ := by
 refine mkF_E (by simp only [flatA, flatB, flat1, List.all_cons, List.all_nil, Bool.and_self, flatE_map (f := byteAV) (fun _ => rfl)]) ?_
 dsimp only [spec_DrawKindOfPacked] at h
 obtain ⟨y_1, z1, h⟩ := bd_some h
 have fz1 := Fs_1 z1
 try simp only [go_sem] at fz1
 obtain ⟨y_2, z2, h⟩ := bd_some h
 have fz2 := Fs_4 z2
 try simp only [go_sem] at fz2
 rcases it_some h with ⟨z3, h⟩ | ⟨z3, h⟩
 ·try simp only [go_sem, n1, n2, n3, n4] at z3
  all_goals
  obtain ⟨y_4, z4, h⟩ := bd_some h
  have fz4 := Fs_97 z4
  try simp only [go_sem, z3] at fz4
  obtain rfl := so_some h
  refine ⟨0, fun L hL => ?_⟩
  simp only [go_sem, ir17, fz1, fz2, z3, fz4]
 ·try simp only [go_sem, n1, n2, n3, n4] at z3
  all_goals
  obtain ⟨y_5, z5, h⟩ := bd_some h
  have fz5 := Fs_4 z5
  try simp only [go_sem, z3] at fz5
  rcases it_some h with ⟨z6, h⟩ | ⟨z6, h⟩
  ·try simp only [go_sem, n1, n2, n3, n4, z3] at z6
   all_goals
   obtain ⟨y_7, z7, h⟩ := bd_some h
   have fz7 := Fs_3 z7
   try simp only [go_sem, z3, z6] at fz7
   obtain ⟨z8, h⟩ := ck_some h
   try simp only [go_sem, n1, n2, n3, n4, z3, z6] at z8
   all_goals
   obtain ⟨z9, h⟩ := ck_some h
   have lz9 := ix_lt z9
   have xz9 := getD_mapD byteAV (List.replicate (IntKind.i64.wrap (7998 + y_7.1)).toNat (0 : UInt8)) lz9
   try simp only [go_sem] at lz9
   try simp only [go_sem] at xz9
   try simp only [go_sem, n1, n2, n3, n4, z3, z6, z8] at z9
   all_goals
   obtain ⟨y_10, z10, h⟩ := bd_some h
   have fz10 := Fs_63 z10
   try simp only [go_sem, z3, z6, z8, z9] at fz10
   obtain rfl := so_some h
   refine ⟨0, fun L hL => ?_⟩
   simp only [go_sem, ir17, fz1, fz2, z3, fz5, z6, fz7, z8, z9, lz9, xz9, fz10]
  ·try simp only [go_sem, n1, n2, n3, n4, z3] at z6
   all_goals
   obtain ⟨y_11, z11, h⟩ := bd_some h
   have fz11 := Fs_4 z11
   try simp only [go_sem, z3, z6] at fz11
   rcases it_some h with ⟨z12, h⟩ | ⟨z12, h⟩
   ·try simp only [go_sem, n1, n2, n3, n4, z3, z6] at z12
    all_goals
    obtain ⟨y_13, z13, h⟩ := bd_some h
    have fz13 := Fs_92 z13
    try simp only [go_sem, z3, z6, z12] at fz13
    obtain rfl := so_some h
    refine ⟨0, fun L hL => ?_⟩
    simp only [go_sem, ir17, fz1, fz2, z3, fz5, z6, fz11, z12, fz13]
   ·try simp only [go_sem, n1, n2, n3, n4, z3, z6] at z12
    all_goals
    obtain ⟨y_14, z14, h⟩ := bd_some h
    have fz14 := Fs_76 z14
    try simp only [go_sem, z3, z6, z12] at fz14
    obtain rfl := so_some h
    refine ⟨0, fun L hL => ?_⟩
    simp only [go_sem, ir17, fz1, fz2, z3, fz5, z6, fz11, z12, fz14]


def ir60_v : List Nat := [0, 2]
def ir60 : AFn := ⟨1, 2, .seq (.region false [ VO 1 2 (.mov (.c (.bool false)))]) (.seq (.region false [ PM 3 0, PO 4 (.bin false .eql (.s 0) (.c (.int .u8 (69)))), PO 5 (.mov (.s 0)), ⟨.push, 6, (some ((.s 0), false)), .mov (.v 0)⟩, ⟨.push, 7, (some ((.s 1), false)), .bin false .eql (.s 0) (.c (.int .u8 (67)))⟩, PO 8 (.pick (.s 2) (.c (.bool true)) (.s 0)), VS 1 2 0]) (.ret)), [.t 1]⟩
noncomputable def t_99 : List (Nat × Ctr) := []
noncomputable def c_99 : Ctr := mkF t_99 ir60 [.bor]
theorem s_99 : Sound Tryz.prog 60 c_99 := mkF_sound _ rfl snd_nil (by kernel_rfl : chkFn Tryz.prog 60 ir60 ir60_v = true)
theorem M_99 : c_99.modes = [.bor] := rfl
theorem Fl_99 : c_99.flat = true := rfl
attribute [go_sem] M_99 Fl_99
theorem Fs_99 {kind : UInt8} {y_ : Bool} (h : impl_KindOfPacked_c1 kind = some y_) : c_99.F [.int .u8 (kind.toNat : Int)] = ⟨true, .bool y_, [.any]⟩ := by
 refine mkF_E rfl ?_
 dsimp only [impl_KindOfPacked_c1] at h
 obtain rfl := so_some h
 refine ⟨0, fun L hL => ?_⟩
 simp only [go_sem, ir60]


noncomputable def t_100 : List (Nat × Ctr) := [(60, c_99), (68, c_45)]
theorem lk_100_60 : look t_100 60 = some c_99 := rfl
theorem lk_100_68 : look t_100 68 = some c_45 := rfl
noncomputable def c_100 : Ctr := mkF t_100 ir44 [.bor, .bor]
theorem s_100 : Sound Tryz.prog 44 c_100 := mkF_sound _ rfl (snd_cons s_99 (snd_cons s_45 snd_nil)) (by kernel_rfl : chkFn Tryz.prog 44 ir44 ir44_v = true)
theorem M_100 : c_100.modes = [.bor, .bor] := rfl
theorem Fl_100 : c_100.flat = true := rfl
attribute [go_sem] M_100 Fl_100
attribute [go_sem] lk_100_60 lk_100_68
theorem Fs_100 {b : List UInt8} {y_ : Int} (h : impl_checkPacked__impl_KindOfPacked_c1 b = some y_) : c_100.F [.sl 1 (List.map byteAV b), .fn (.func 60) [] []] = ⟨true, .int .i64 y_, [.any, .any]⟩ := by
 refine mkF_E rfl ?_
 dsimp only [impl_checkPacked__impl_KindOfPacked_c1] at h
 obtain ⟨z1, h⟩ := ck_some h
 rcases or_split z1 with ⟨gz1, z1⟩ | gz1
 ·try simp only [go_sem, n1, n2, n3, n4] at gz1
  all_goals
  have lz1 := ix_lt z1
  have xz1 := getD_mapD byteAV b lz1
  try simp only [go_sem] at lz1
  try simp only [go_sem] at xz1
  try simp only [go_sem, n1, n2, n3, n4, gz1] at z1
  all_goals
  obtain ⟨z2, h⟩ := ck_some h
  rcases or_split z2 with ⟨gz2, z2⟩ | gz2
  ·try simp only [go_sem, n1, n2, n3, n4, gz1, z1] at gz2
   all_goals
   obtain ⟨y_2, hz2⟩ := Option.isSome_iff_exists.1 z2
   have fz2 := Fs_99 hz2
   try simp only [go_sem, n1, n2, n3, n4, gz1, z1, gz2] at hz2
   all_goals
   try simp only [go_sem, gz1, z1, gz2] at fz2
   rcases it_some h with ⟨z3, h⟩ | ⟨z3, h⟩
   ·try simp only [go_sem, n1, n2, n3, n4, gz1, z1, gz2, hz2] at z3
    all_goals
    obtain rfl := so_some h
    refine ⟨0, fun L hL => ?_⟩
    simp only [go_sem, ir44, gz1, z1, lz1, xz1, gz2, hz2, fz2, z3]
   ·try simp only [go_sem, n1, n2, n3, n4, gz1, z1, gz2, hz2] at z3
    all_goals
    obtain ⟨z4, h⟩ := ck_some h
    try simp only [go_sem, n1, n2, n3, n4, gz1, z1, gz2, hz2, z3] at z4
    all_goals
    obtain ⟨y_5, z5, h⟩ := bd_some h
    have fz5 := Fs_45 z5
    try simp only [go_sem, gz1, z1, gz2, hz2, z3, z4] at fz5
    obtain ⟨z6, h⟩ := ck_some h
    have lz6 := ix_lt z6
    have xz6 := getD_mapD byteAV b lz6
    try simp only [go_sem] at lz6
    try simp only [go_sem] at xz6
    try simp only [go_sem, n1, n2, n3, n4, gz1, z1, gz2, hz2, z3, z4] at z6
    all_goals
    obtain ⟨z7, h⟩ := ck_some h
    have lz7 := ix_lt z7
    have xz7 := getD_mapD byteAV b lz7
    try simp only [go_sem] at lz7
    try simp only [go_sem] at xz7
    try simp only [go_sem, n1, n2, n3, n4, gz1, z1, gz2, hz2, z3, z4, z6] at z7
    all_goals
    rcases it_some h with ⟨z8, h⟩ | ⟨z8, h⟩
    ·try simp only [go_sem, n1, n2, n3, n4, gz1, z1, gz2, hz2, z3, z4, z6, z7] at z8
     all_goals
     obtain rfl := so_some h
     refine ⟨0, fun L hL => ?_⟩
     simp only [go_sem, ir44, gz1, z1, lz1, xz1, gz2, hz2, fz2, z3, z4, fz5, z6, lz6, xz6, z7, lz7, xz7, z8]
    ·try simp only [go_sem, n1, n2, n3, n4, gz1, z1, gz2, hz2, z3, z4, z6, z7] at z8
     all_goals
     obtain rfl := so_some h
     refine ⟨0, fun L hL => ?_⟩
     simp only [go_sem, ir44, gz1, z1, lz1, xz1, gz2, hz2, fz2, z3, z4, fz5, z6, lz6, xz6, z7, lz7, xz7, z8]
  ·have gz2n := no_f gz2
   rcases or_t gz2n with gz2na | ⟨gz2na, gz2nb⟩
   ·try simp only [go_sem, n1, n2, n3, n4, gz1, z1] at gz2na
    all_goals
    (simp_all)
   ·try simp only [go_sem, n1, n2, n3, n4, gz1, z1] at gz2na
    all_goals
    try simp only [go_sem, n1, n2, n3, n4, gz1, z1, gz2na] at gz2nb
    all_goals
    rcases it_some h with ⟨z3, h⟩ | ⟨z3, h⟩
    ·try simp only [go_sem, n1, n2, n3, n4, gz1, z1, gz2na, gz2nb] at z3
     all_goals
     obtain rfl := so_some h
     refine ⟨0, fun L hL => ?_⟩
     simp only [go_sem, ir44, gz1, z1, lz1, xz1, gz2na, gz2nb, z3]
    ·try simp only [go_sem, n1, n2, n3, n4, gz1, z1, gz2na, gz2nb] at z3
     all_goals
     obtain ⟨z4, h⟩ := ck_some h
     try simp only [go_sem, n1, n2, n3, n4, gz1, z1, gz2na, gz2nb, z3] at z4
     all_goals
     obtain ⟨y_5, z5, h⟩ := bd_some h
     have fz5 := Fs_45 z5
     try simp only [go_sem, gz1, z1, gz2na, gz2nb, z3, z4] at fz5
     obtain ⟨z6, h⟩ := ck_some h
     have lz6 := ix_lt z6
     have xz6 := getD_mapD byteAV b lz6
     try simp only [go_sem] at lz6
     try simp only [go_sem] at xz6
     try simp only [go_sem, n1, n2, n3, n4, gz1, z1, gz2na, gz2nb, z3, z4] at z6
     all_goals
     obtain ⟨z7, h⟩ := ck_some h
     have lz7 := ix_lt z7
     have xz7 := getD_mapD byteAV b lz7
     try simp only [go_sem] at lz7
     try simp only [go_sem] at xz7
     try simp only [go_sem, n1, n2, n3, n4, gz1, z1, gz2na, gz2nb, z3, z4, z6] at z7
     all_goals
     rcases it_some h with ⟨z8, h⟩ | ⟨z8, h⟩
     ·try simp only [go_sem, n1, n2, n3, n4, gz1, z1, gz2na, gz2nb, z3, z4, z6, z7] at z8
      all_goals
      obtain rfl := so_some h
      refine ⟨0, fun L hL => ?_⟩
      simp only [go_sem, ir44, gz1, z1, lz1, xz1, gz2na, gz2nb, z3, z4, fz5, z6, lz6, xz6, z7, lz7, xz7, z8]
     ·try simp only [go_sem, n1, n2, n3, n4, gz1, z1, gz2na, gz2nb, z3, z4, z6, z7] at z8
      all_goals
      obtain rfl := so_some h
      refine ⟨0, fun L hL => ?_⟩
      simp only [go_sem, ir44, gz1, z1, lz1, xz1, gz2na, gz2nb, z3, z4, fz5, z6, lz6, xz6, z7, lz7, xz7, z8]
 ·have gz1n := no_f gz1
  rcases or_t gz1n with gz1na | ⟨gz1na, gz1nb⟩
  ·try simp only [go_sem, n1, n2, n3, n4] at gz1na
   all_goals
   obtain ⟨z2, h⟩ := ck_some h
   rcases it_some h with ⟨z3, h⟩ | ⟨z3, h⟩
   ·try simp only [go_sem, n1, n2, n3, n4, gz1na] at z3
    all_goals
    obtain rfl := so_some h
    refine ⟨0, fun L hL => ?_⟩
    simp only [go_sem, ir44, gz1na, z3]
   ·try simp only [go_sem, n1, n2, n3, n4, gz1na] at z3
    all_goals
    (simp_all)
  ·try simp only [go_sem, n1, n2, n3, n4] at gz1na
   all_goals
   try simp only [go_sem, n1, n2, n3, n4, gz1na] at gz1nb
   all_goals
   obtain ⟨z2, h⟩ := ck_some h
   rcases it_some h with ⟨z3, h⟩ | ⟨z3, h⟩
   ·try simp only [go_sem, n1, n2, n3, n4, gz1na, gz1nb] at z3
    all_goals
    obtain rfl := so_some h
    refine ⟨0, fun L hL => ?_⟩
    simp only [go_sem, ir44, gz1na, gz1nb, z3]
   ·try simp only [go_sem, n1, n2, n3, n4, gz1na, gz1nb] at z3
    all_goals
    (simp_all)


def ir18_v : List Nat := [0, 2, 3, 4]
def ir18 : AFn := ⟨1, 4, .seq (.region false [ VO 1 2 (.mov (I6 0)), VO 2 3 (.mov (I6 0))]) (.seq (.region false [ PM 5 0, PO 6 (.call 44 [(.s 0), (.c (.fn (.func 60) [] []))]), VS 3 4 0]) (.seq (.test false [ PM 7 3, PO 8 (.bin false .neq (.s 0) (I6 0))] (.s 0) (.seq (.region false [ PM 9 3, VO 1 2 (.mov (I6 0)), VS 2 3 0]) (.ret)) (.skip)) (.seq (.region false [ PM 10 0, PO 11 (.ixAddr 1 (.s 0) (I6 0)), PO 12 (.load false 1 (.s 0)), PO 13 (.conv .i64 (.s 0)), VS 1 2 0, VO 2 3 (.mov (I6 0))]) (.ret)))), [.t 1, .t 2]⟩
noncomputable def t_101 : List (Nat × Ctr) := [(44, c_100)]
theorem lk_101_44 : look t_101 44 = some c_100 := rfl
noncomputable def c_101 : Ctr := mkF t_101 ir18 [.bor]
theorem s_101 : Sound Tryz.prog 18 c_101 := mkF_sound _ rfl (snd_cons s_100 snd_nil) (by kernel_rfl : chkFn Tryz.prog 18 ir18 ir18_v = true)
theorem M_101 : c_101.modes = [.bor] := rfl
theorem Fl_101 : c_101.flat = true := rfl
attribute [go_sem] M_101 Fl_101
attribute [go_sem] lk_101_44
theorem Fs_101 {b : List UInt8} {y_ : Int × Int} (h : impl_KindOfPacked b = some y_) : c_101.F [.sl 1 (List.map byteAV b)] = ⟨true, .tup [.int .i64 y_.1, .int .i64 y_.2], [.any]⟩ := by
 refine mkF_E rfl ?_
 dsimp only [impl_KindOfPacked] at h
 obtain ⟨y_1, z1, h⟩ := bd_some h
 have fz1 := Fs_100 z1
 try simp only [go_sem] at fz1
 rcases it_some h with ⟨z2, h⟩ | ⟨z2, h⟩
 ·try simp only [go_sem, n1, n2, n3, n4] at z2
  all_goals
  obtain rfl := so_some h
  refine ⟨0, fun L hL => ?_⟩
  simp only [go_sem, ir18, fz1, z2]
 ·try simp only [go_sem, n1, n2, n3, n4] at z2
  all_goals
  obtain ⟨z3, h⟩ := ck_some h
  have lz3 := ix_lt z3
  have xz3 := getD_mapD byteAV b lz3
  try simp only [go_sem] at lz3
  try simp only [go_sem] at xz3
  try simp only [go_sem, n1, n2, n3, n4, z2] at z3
  all_goals
  obtain rfl := so_some h
  refine ⟨0, fun L hL => ?_⟩
  simp only [go_sem, ir18, fz1, z2, z3, lz3, xz3]


def ir19_v : List Nat := [0, 2, 3, 4]
def ir19 : AFn := ⟨1, 4, .seq (.region false [ VO 1 2 (.mov (I6 0)), VO 2 3 (.mov (I6 0))]) (.seq (.test false [ PM 5 0, PO 6 (.len false (.s 0)), PO 7 (.bin false .eql (.s 0) (I6 0)), PO 8 (.mov (.s 0)), ⟨.push, 9, (some ((.s 0), false)), .mov (.v 0)⟩, ⟨.push, 10, (some ((.s 1), false)), .ixAddr 1 (.s 0) (I6 0)⟩, ⟨.push, 11, (some ((.s 2), false)), .load false 1 (.s 0)⟩, ⟨.push, 12, (some ((.s 3), false)), .bin false .neq (.s 0) (.c (.int .u8 (69)))⟩, ⟨.push, 13, (some ((.s 4), false)), .mov (.s 0)⟩, ⟨.push, 14, (some ((.s 0), true)), .mov (.v 0)⟩, ⟨.push, 15, (some ((.s 1), true)), .ixAddr 1
 (.s 0) (I6 0)⟩, ⟨.push, 16, (some ((.s 2), true)), .load false 1 (.s 0)⟩, ⟨.push, 17, (some ((.s 3), true)), .bin false .neq (.s 0) (.c (.int .u8 (67)))⟩, ⟨.push, 18, (some ((.s 9), false)), .pick (.s 4) (.s 0) (.c (.bool false))⟩, PO 19 (.pick (.s 10) (.c (.bool true)) (.s 0))] (.s 0) (.seq (.region false [ VO 1 2 (.mov (I6 0)), VO 2 3 (.mov (I6 8))]) (.ret)) (.skip)) (.seq (.region false [ PM 20 0, PM 21 0, PO 22 (.ixAddr 1 (.s 0) (I6 0)), PO 23 (.load false 1 (.s 0)), PO 24 (.conv .i64 (.s 0)), PO 25 (.call 51 [(.s 4), (.s 0)]), VS 3 4 0]) (.seq (.test false [ PM 26 3, PO 27 (.bin false
 .neq (.s 0) (I6 0))] (.s 0) (.seq (.region false [ PM 28 3, VO 1 2 (.mov (I6 0)), VS 2 3 0]) (.ret)) (.skip)) (.seq (.region false [ PM 29 0, PO 30 (.ixAddr 1 (.s 0) (I6 0)), PO 31 (.load false 1 (.s 0)), PO 32 (.conv .i64 (.s 0)), VS 1 2 0, VO 2 3 (.mov (I6 0))]) (.ret))))), [.t 1, .t 2]⟩
noncomputable def t_102 : List (Nat × Ctr) := [(51, c_85)]
theorem lk_102_51 : look t_102 51 = some c_85 := rfl
noncomputable def c_102 : Ctr := mkF t_102 ir19 [.bor]
theorem s_102 : Sound Tryz.prog 19 c_102 := mkF_sound _ rfl (snd_cons s_85 snd_nil) (by kernel_rfl : chkFn Tryz.prog 19 ir19 ir19_v = true)
theorem M_102 : c_102.modes = [.bor] := rfl
theorem Fl_102 : c_102.flat = true := rfl
attribute [go_sem] M_102 Fl_102
attribute [go_sem] lk_102_51
theorem Fs_102 {b : List UInt8} {y_ : Int × Int} (h : spec_KindOfPacked b = some y_) : c_102.F [.sl 1 (List.map byteAV b)] = ⟨true, .tup [.int .i64 y_.1, .int .i64 y_.2], [.any]⟩ := by
 refine mkF_E rfl ?_
 dsimp only [spec_KindOfPacked] at h
 obtain ⟨z1, h⟩ := ck_some h
 rcases or_split z1 with ⟨gz1, z1⟩ | gz1
 ·try simp only [go_sem, n1, n2, n3, n4] at gz1
  all_goals
  have lz1 := ix_lt z1
  have xz1 := getD_mapD byteAV b lz1
  try simp only [go_sem] at lz1
  try simp only [go_sem] at xz1
  try simp only [go_sem, n1, n2, n3, n4, gz1] at z1
  all_goals
  obtain ⟨z2, h⟩ := ck_some h
  rcases or_split z2 with ⟨gz2, z2⟩ | gz2
  ·try simp only [go_sem, n1, n2, n3, n4, gz1, z1] at gz2
   all_goals
   have lz2 := ix_lt z2
   have xz2 := getD_mapD byteAV b lz2
   try simp only [go_sem] at lz2
   try simp only [go_sem] at xz2
   try simp only [go_sem, n1, n2, n3, n4, gz1, z1, gz2] at z2
   all_goals
   rcases it_some h with ⟨z3, h⟩ | ⟨z3, h⟩
   ·try simp only [go_sem, n1, n2, n3, n4, gz1, z1, gz2, z2] at z3
    all_goals
    obtain rfl := so_some h
    refine ⟨0, fun L hL => ?_⟩
    simp only [go_sem, ir19, gz1, z1, lz1, xz1, gz2, z2, lz2, xz2, z3]
   ·try simp only [go_sem, n1, n2, n3, n4, gz1, z1, gz2, z2] at z3
    all_goals
    obtain ⟨z4, h⟩ := ck_some h
    have lz4 := ix_lt z4
    have xz4 := getD_mapD byteAV b lz4
    try simp only [go_sem] at lz4
    try simp only [go_sem] at xz4
    try simp only [go_sem, n1, n2, n3, n4, gz1, z1, gz2, z2, z3] at z4
    all_goals
    obtain ⟨y_5, z5, h⟩ := bd_some h
    have fz5 := Fs_85 z5
    try simp only [go_sem, gz1, z1, gz2, z2, z3, z4] at fz5
    rcases it_some h with ⟨z6, h⟩ | ⟨z6, h⟩
    ·try simp only [go_sem, n1, n2, n3, n4, gz1, z1, gz2, z2, z3, z4] at z6
     all_goals
     obtain rfl := so_some h
     refine ⟨0, fun L hL => ?_⟩
     simp only [go_sem, ir19, gz1, z1, lz1, xz1, gz2, z2, lz2, xz2, z3, z4, lz4, xz4, fz5, z6]
    ·try simp only [go_sem, n1, n2, n3, n4, gz1, z1, gz2, z2, z3, z4] at z6
     all_goals
     obtain rfl := so_some h
     refine ⟨0, fun L hL => ?_⟩
     simp only [go_sem, ir19, gz1, z1, lz1, xz1, gz2, z2, lz2, xz2, z3, z4, lz4, xz4, fz5, z6]
  ·rcases and_f gz2 with gz2a | ⟨gz2a, gz2b⟩
   ·try simp only [go_sem, n1, n2, n3, n4, gz1, z1] at gz2a
    all_goals
    (simp_all)
   ·have gz2an := no_t gz2a
    have gz2bn := no_f gz2b
    try simp only [go_sem, n1, n2, n3, n4, gz1, z1] at gz2an
    all_goals
    try simp only [go_sem, n1, n2, n3, n4, gz1, z1, gz2an] at gz2bn
    all_goals
    rcases it_some h with ⟨z3, h⟩ | ⟨z3, h⟩
    ·try simp only [go_sem, n1, n2, n3, n4, gz1, z1, gz2an, gz2bn] at z3
     all_goals
     (simp_all)
    ·try simp only [go_sem, n1, n2, n3, n4, gz1, z1, gz2an, gz2bn] at z3
     all_goals
     obtain ⟨z4, h⟩ := ck_some h
     have lz4 := ix_lt z4
     have xz4 := getD_mapD byteAV b lz4
     try simp only [go_sem] at lz4
     try simp only [go_sem] at xz4
     try simp only [go_sem, n1, n2, n3, n4, gz1, z1, gz2an, gz2bn, z3] at z4
     all_goals
     obtain ⟨y_5, z5, h⟩ := bd_some h
     have fz5 := Fs_85 z5
     try simp only [go_sem, gz1, z1, gz2an, gz2bn, z3, z4] at fz5
     rcases it_some h with ⟨z6, h⟩ | ⟨z6, h⟩
     ·try simp only [go_sem, n1, n2, n3, n4, gz1, z1, gz2an, gz2bn, z3, z4] at z6
      all_goals
      obtain rfl := so_some h
      refine ⟨0, fun L hL => ?_⟩
      simp only [go_sem, ir19, gz1, z1, lz1, xz1, gz2an, gz2bn, z3, z4, lz4, xz4, fz5, z6]
     ·try simp only [go_sem, n1, n2, n3, n4, gz1, z1, gz2an, gz2bn, z3, z4] at z6
      all_goals
      obtain rfl := so_some h
      refine ⟨0, fun L hL => ?_⟩
      simp only [go_sem, ir19, gz1, z1, lz1, xz1, gz2an, gz2bn, z3, z4, lz4, xz4, fz5, z6]
 ·have gz1n := no_f gz1
  try simp only [go_sem, n1, n2, n3, n4] at gz1n
  all_goals
  obtain ⟨z2, h⟩ := ck_some h
  rcases it_some h with ⟨z3, h⟩ | ⟨z3, h⟩
  ·try simp only [go_sem, n1, n2, n3, n4, gz1n] at z3
   all_goals
   obtain rfl := so_some h
   refine ⟨0, fun L hL => ?_⟩
   simp only [go_sem, ir19, gz1n, z3]
  ·try simp only [go_sem, n1, n2, n3, n4, gz1n] at z3
   all_goals
   (simp_all)


def ir20_b0 : IR := .seq (.test false [ PM 11 3, PM 12 0, PO 13 (.len false (.s 0)), PO 14 (.bin false .lss (.s 2) (.s 0))] (.s 0) (.skip) (.exit 0)) (.seq (.block 1 (.anyo 9 [ SO 0 17 (.mov (.v 0)), SO 1 18 (.mov (.v 3)), SO 2 19 (.ixAddr 5 (.s 0) (.s 1)), SO 3 20 (.load true 5 (.s 2)), SO 4 21 (.mov (.v 1)), SO 5 22 (.mov (.v 3)), SO 6 23 (.ixAddr 5 (.s 4) (.s 5)), SO 7 24 (.load true 5 (.s 6)), SO 8 25 (.eqA true [1, 2, 2, 1, 0] (.s 3) (.s 7))] [] (.cond (.s 8) (.seq (.region false [ VO 2 4 (.mov (.c (.bool false)))]) (.ret)) (.skip)))) (.region false [ PM 15 3, PO 16 (.bin false .add (.s 0)
 (I6 1)), VS 3 5 0]))
def ir20_k0 : List Bool := [true, true, false, true]
def ir20_o0 : List Bool := [false, false, false, false]
def ir20_r0 : List Bool := [false, false, true, false]
def ir20_v : List Nat := [0, 1, 4, 5]
def ir20 : AFn := ⟨2, 4, .seq (.region false [ VO 2 4 (.mov (.c (.bool false)))]) (.seq (.test false [ PM 6 0, PO 7 (.len false (.s 0)), PM 8 1, PO 9 (.len false (.s 0)), PO 10 (.bin false .neq (.s 2) (.s 0))] (.s 0) (.seq (.region false [ VO 2 4 (.mov (.c (.bool false)))]) (.ret)) (.skip)) (.seq (.seq (.region false [ VO 3 5 (.mov (I6 0))]) (.block 0 (.loop ir20_k0 ir20_o0 ir20_r0 ir20_b0))) (.seq (.region false [ VO 2 4 (.mov (.c (.bool true)))]) (.ret)))), [.t 2]⟩
noncomputable def t_103 : List (Nat × Ctr) := []
noncomputable def c_103 : Ctr := mkF t_103 ir20 [.bor, .bor]
theorem s_103 : Sound Tryz.prog 20 c_103 := mkF_sound _ rfl snd_nil (by kernel_rfl : chkFn Tryz.prog 20 ir20 ir20_v = true)
theorem M_103 : c_103.modes = [.bor, .bor] := rfl
theorem Fl_103 : c_103.flat = true := rfl
attribute [go_sem] M_103 Fl_103
def E_103_l1 (a : List Estimate) (b : List Estimate) : Int → St
 | i => ⟨[.sl 5 (List.map Estimate_av a), .sl 5 (List.map Estimate_av b), .any, .int .i64 i], [], [], true⟩
def R_103_l1 (a : List Estimate) (b : List Estimate) : (Unit ⊕ Bool) → Res
 | .inl y => (.exit 0, ⟨[.any, .any, .any, .any], [], [], true⟩)
 | .inr y => (.ret, ⟨[.any, .any, .bool y, .any], [], [], true⟩)
theorem spec_SameEstimates_l1_ex {a : List Estimate} {b : List Estimate} {sgm_ : Int} {rho_ : Unit ⊕ Bool} (h : whileE (spec_SameEstimates_l1 a b) sgm_ = some rho_) : ∃ L0, ∀ L, L0 ≤ L → iter (exec (look t_103) L ir20_b0) ir20_k0 ir20_o0 ir20_r0 L (E_103_l1 a b sgm_) = R_103_l1 a b rho_ := by
 refine loop_ex (E := E_103_l1 a b) (R := R_103_l1 a b) (fun y => by first | (intro c; cases c) | (rcases y with y | y <;> (intro c; cases c)) | (rcases y with y | y | y <;> (intro c; cases c))) ?_ h
 clear h
 intro i o_ h
 dsimp only [spec_SameEstimates_l1] at h
 rcases it_some h with ⟨z2, h⟩ | ⟨z2, h⟩
 ·try simp only [go_sem, n1, n2, n3, n4] at z2
  all_goals
  obtain ⟨z3, h⟩ := ck_some h
  have lz3 := ix_lt z3
  have xz3 := getD_mapD Estimate_av a lz3
  try simp only [go_sem] at lz3
  try simp only [go_sem] at xz3
  try simp only [go_sem, n1, n2, n3, n4, z2] at z3
  all_goals
  obtain ⟨z4, h⟩ := ck_some h
  have lz4 := ix_lt z4
  have xz4 := getD_mapD Estimate_av b lz4
  try simp only [go_sem] at lz4
  try simp only [go_sem] at xz4
  try simp only [go_sem, n1, n2, n3, n4, z2, z3] at z4
  all_goals
  rcases it_some h with ⟨z5, h⟩ | ⟨z5, h⟩
  ·try simp only [go_sem, n1, n2, n3, n4, z2, z3, z4] at z5
   all_goals
   obtain rfl := so_some h
   refine ⟨0, fun L hL => ?_⟩
   simp only [go_sem, ir20, E_103_l1, R_103_l1, ir20_b0, ir20_k0, ir20_o0, ir20_r0, z2, z3, lz3, xz3, z4, lz4, xz4, z5]
  ·try simp only [go_sem, n1, n2, n3, n4, z2, z3, z4] at z5
   all_goals
   obtain rfl := so_some h
   refine ⟨0, fun L hL => ?_⟩
   simp only [go_sem, ir20, E_103_l1, R_103_l1, ir20_b0, ir20_k0, ir20_o0, ir20_r0, z2, z3, lz3, xz3, z4, lz4, xz4, z5]
 ·try simp only [go_sem, n1, n2, n3, n4] at z2
  all_goals
  obtain rfl := so_some h
  refine ⟨0, fun L hL => ?_⟩
  simp only [go_sem, ir20, E_103_l1, R_103_l1, ir20_b0, ir20_k0, ir20_o0, ir20_r0, z2]

theorem Fs_103 {a : List Estimate} {b : List Estimate} {y_ : Bool} (h : spec_SameEstimates a b = some y_) : c_103.F [.sl 5 (List.map Estimate_av a), .sl 5 (List.map Estimate_av b)] = ⟨true, .bool y_, [.any, .any]⟩ := by
 refine mkF_E rfl ?_
 dsimp only [spec_SameEstimates] at h
 rcases it_some h with ⟨z1, h⟩ | ⟨z1, h⟩
 ·try simp only [go_sem, n1, n2, n3, n4] at z1
  all_goals
  obtain rfl := so_some h
  refine ⟨0, fun L hL => ?_⟩
  simp only [go_sem, ir20, E_103_l1, R_103_l1, ir20_k0, ir20_o0, ir20_r0, z1]
 ·try simp only [go_sem, n1, n2, n3, n4] at z1
  all_goals
  obtain ⟨y_6, z6, h⟩ := bd_some h
  obtain ⟨Lz6, ez6⟩ := spec_SameEstimates_l1_ex z6
  rcases y_6 with y_6a | y_6b
  ·dsimp only at h
   obtain rfl := so_some h
   refine ⟨Lz6, fun L hL => ?_⟩
   have ez6 := ez6 L (by omega)
   try simp only [go_sem, E_103_l1, R_103_l1, ir20_k0, ir20_o0, ir20_r0, z1] at ez6
   simp only [go_sem, ir20, E_103_l1, R_103_l1, ir20_k0, ir20_o0, ir20_r0, z1, ez6]
  ·dsimp only at h
   obtain rfl := so_some h
   refine ⟨Lz6, fun L hL => ?_⟩
   have ez6 := ez6 L (by omega)
   try simp only [go_sem, E_103_l1, R_103_l1, ir20_k0, ir20_o0, ir20_r0, z1] at ez6
   simp only [go_sem, ir20, E_103_l1, R_103_l1, ir20_k0, ir20_o0, ir20_r0, z1, ez6]


def ir21_b0 : IR := .seq (.test false [ PM 11 3, PM 12 0, PO 13 (.len false (.s 0)), PO 14 (.bin false .lss (.s 2) (.s 0))] (.s 0) (.skip) (.exit 0)) (.seq (.block 1 (.anyo 9 [ SO 0 17 (.mov (.v 0)), SO 1 18 (.mov (.v 3)), SO 2 19 (.ixAddr 2 (.s 0) (.s 1)), SO 3 20 (.load true 2 (.s 2)), SO 4 21 (.mov (.v 1)), SO 5 22 (.mov (.v 3)), SO 6 23 (.ixAddr 2 (.s 4) (.s 5)), SO 7 24 (.load true 2 (.s 6)), SO 8 25 (.eqA true [1, 1] (.s 3) (.s 7))] [] (.cond (.s 8) (.seq (.region false [ VO 2 4 (.mov (.c (.bool false)))]) (.ret)) (.skip)))) (.region false [ PM 15 3, PO 16 (.bin false .add (.s 0) (I6 1)),
 VS 3 5 0]))
def ir21_k0 : List Bool := [true, true, false, true]
def ir21_o0 : List Bool := [false, false, false, false]
def ir21_r0 : List Bool := [false, false, true, false]
def ir21_v : List Nat := [0, 1, 4, 5]
def ir21 : AFn := ⟨2, 4, .seq (.region false [ VO 2 4 (.mov (.c (.bool false)))]) (.seq (.test false [ PM 6 0, PO 7 (.len false (.s 0)), PM 8 1, PO 9 (.len false (.s 0)), PO 10 (.bin false .neq (.s 2) (.s 0))] (.s 0) (.seq (.region false [ VO 2 4 (.mov (.c (.bool false)))]) (.ret)) (.skip)) (.seq (.seq (.region false [ VO 3 5 (.mov (I6 0))]) (.block 0 (.loop ir21_k0 ir21_o0 ir21_r0 ir21_b0))) (.seq (.region false [ VO 2 4 (.mov (.c (.bool true)))]) (.ret)))), [.t 2]⟩
noncomputable def t_104 : List (Nat × Ctr) := []
noncomputable def c_104 : Ctr := mkF t_104 ir21 [.bor, .bor]
theorem s_104 : Sound Tryz.prog 21 c_104 := mkF_sound _ rfl snd_nil (by kernel_rfl : chkFn Tryz.prog 21 ir21 ir21_v = true)
theorem M_104 : c_104.modes = [.bor, .bor] := rfl
theorem Fl_104 : c_104.flat = true := rfl
attribute [go_sem] M_104 Fl_104
def E_104_l1 (a : List Point) (b : List Point) : Int → St
 | i => ⟨[.sl 2 (List.map Point_av a), .sl 2 (List.map Point_av b), .any, .int .i64 i], [], [], true⟩
def R_104_l1 (a : List Point) (b : List Point) : (Unit ⊕ Bool) → Res
 | .inl y => (.exit 0, ⟨[.any, .any, .any, .any], [], [], true⟩)
 | .inr y => (.ret, ⟨[.any, .any, .bool y, .any], [], [], true⟩)
theorem spec_SameCurve_l1_ex {a : List Point} {b : List Point} {sgm_ : Int} {rho_ : Unit ⊕ Bool} (h : whileE (spec_SameCurve_l1 a b) sgm_ = some rho_) : ∃ L0, ∀ L, L0 ≤ L → iter (exec (look t_104) L ir21_b0) ir21_k0 ir21_o0 ir21_r0 L (E_104_l1 a b sgm_) = R_104_l1 a b rho_ := by
 refine loop_ex (E := E_104_l1 a b) (R := R_104_l1 a b) (fun y => by first | (intro c; cases c) | (rcases y with y | y <;> (intro c; cases c)) | (rcases y with y | y | y <;> (intro c; cases c))) ?_ h
 clear h
 intro i o_ h
 dsimp only [spec_SameCurve_l1] at h
 rcases it_some h with ⟨z2, h⟩ | ⟨z2, h⟩
 ·try simp only [go_sem, n1, n2, n3, n4] at z2
  all_goals
  obtain ⟨z3, h⟩ := ck_some h
  have lz3 := ix_lt z3
  have xz3 := getD_mapD Point_av a lz3
  try simp only [go_sem] at lz3
  try simp only [go_sem] at xz3
  try simp only [go_sem, n1, n2, n3, n4, z2] at z3
  all_goals
  obtain ⟨z4, h⟩ := ck_some h
  have lz4 := ix_lt z4
  have xz4 := getD_mapD Point_av b lz4
  try simp only [go_sem] at lz4
  try simp only [go_sem] at xz4
  try simp only [go_sem, n1, n2, n3, n4, z2, z3] at z4
  all_goals
  rcases it_some h with ⟨z5, h⟩ | ⟨z5, h⟩
  ·try simp only [go_sem, n1, n2, n3, n4, z2, z3, z4] at z5
   all_goals
   obtain rfl := so_some h
   refine ⟨0, fun L hL => ?_⟩
   simp only [go_sem, ir21, E_104_l1, R_104_l1, ir21_b0, ir21_k0, ir21_o0, ir21_r0, z2, z3, lz3, xz3, z4, lz4, xz4, z5]
  ·try simp only [go_sem, n1, n2, n3, n4, z2, z3, z4] at z5
   all_goals
   obtain rfl := so_some h
   refine ⟨0, fun L hL => ?_⟩
   simp only [go_sem, ir21, E_104_l1, R_104_l1, ir21_b0, ir21_k0, ir21_o0, ir21_r0, z2, z3, lz3, xz3, z4, lz4, xz4, z5]
 ·try simp only [go_sem, n1, n2, n3, n4] at z2
  all_goals
  obtain rfl := so_some h
  refine ⟨0, fun L hL => ?_⟩
  simp only [go_sem, ir21, E_104_l1, R_104_l1, ir21_b0, ir21_k0, ir21_o0, ir21_r0, z2]

theorem Fs_104 {a : List Point} {b : List Point} {y_ : Bool} (h : spec_SameCurve a b = some y_) : c_104.F [.sl 2 (List.map Point_av a), .sl 2 (List.map Point_av b)] = ⟨true, .bool y_, [.any, .any]⟩ := by
 refine mkF_E rfl ?_
 dsimp only [spec_SameCurve] at h
 rcases it_some h with ⟨z1, h⟩ | ⟨z1, h⟩
 ·try simp only [go_sem, n1, n2, n3, n4] at z1
  all_goals
  obtain rfl := so_some h
  refine ⟨0, fun L hL => ?_⟩
  simp only [go_sem, ir21, E_104_l1, R_104_l1, ir21_k0, ir21_o0, ir21_r0, z1]
 ·try simp only [go_sem, n1, n2, n3, n4] at z1
  all_goals
  obtain ⟨y_6, z6, h⟩ := bd_some h
  obtain ⟨Lz6, ez6⟩ := spec_SameCurve_l1_ex z6
  rcases y_6 with y_6a | y_6b
  ·dsimp only at h
   obtain rfl := so_some h
   refine ⟨Lz6, fun L hL => ?_⟩
   have ez6 := ez6 L (by omega)
   try simp only [go_sem, E_104_l1, R_104_l1, ir21_k0, ir21_o0, ir21_r0, z1] at ez6
   simp only [go_sem, ir21, E_104_l1, R_104_l1, ir21_k0, ir21_o0, ir21_r0, z1, ez6]
  ·dsimp only at h
   obtain rfl := so_some h
   refine ⟨Lz6, fun L hL => ?_⟩
   have ez6 := ez6 L (by omega)
   try simp only [go_sem, E_104_l1, R_104_l1, ir21_k0, ir21_o0, ir21_r0, z1] at ez6
   simp only [go_sem, ir21, E_104_l1, R_104_l1, ir21_k0, ir21_o0, ir21_r0, z1, ez6]


def ir3_v : List Nat := [0, 2, 3, 4, 5, 6, 7, 8, 9, 10, 11, 12, 13, 14, 15, 16, 17, 18, 19, 20, 21, 22, 23, 24, 25, 26, 27, 28, 29, 30, 31, 32, 33, 34, 35]
def ir3 : AFn := ⟨1, 35, .seq (.region false [ VO 1 2 (.mov (.c (.bool false)))]) (.seq (.test false [ PM 36 0, PO 37 (.call 4 [(.s 0)])] (.s 0) (.seq (.region false [ VO 1 2 (.mov (.c (.bool true)))]) (.ret)) (.skip)) (.seq (.region false [ PM 38 0, PO 39 (.call 5 [(.s 0)]), VS 2 3 0]) (.seq (.region false [ PM 41 2, PO 42 (.call 6 [(.s 0)]), PO 40 (.mov (.s 0)), PO 43 (.ext (.s 0) 0), PO 44 (.ext (.s 1) 1), VS 3 4 1, VS 4 5 0]) (.seq (.region false [ PM 46 2, PO 47 (.call 7 [(.s 0)]), PO 45 (.mov (.s 0)), PO 48 (.ext (.s 0) 0), PO 49 (.ext (.s 1) 1), VS 5 6 1, VS 6 7 0]) (.seq (.region false
 [ PM 50 0, PO 51 (.call 8 [(.s 0)]), VS 7 8 0]) (.seq (.region false [ PM 53 7, PO 54 (.call 9 [(.s 0)]), PO 52 (.mov (.s 0)), PO 55 (.ext (.s 0) 0), PO 56 (.ext (.s 1) 1), VS 8 9 1, VS 9 10 0]) (.seq (.region false [ PM 58 7, PO 59 (.call 10 [(.s 0)]), PO 57 (.mov (.s 0)), PO 60 (.ext (.s 0) 0), PO 61 (.ext (.s 1) 1), VS 10 11 1, VS 11 12 0]) (.seq (.region false [ PM 62 0, PO 63 (.call 11 [(.s 0)]), VS 12 13 0]) (.seq (.region false [ PM 65 12, PO 66 (.call 12 [(.s 0)]), PO 64 (.mov (.s 0)), PO 67 (.ext (.s 0) 0), PO 68 (.ext (.s 1) 1), VS 13 14 1, VS 14 15 0]) (.seq (.region false [ PM 70
 12, PO 71 (.call 13 [(.s 0)]), PO 69 (.mov (.s 0)), PO 72 (.ext (.s 0) 0), PO 73 (.ext (.s 1) 1), VS 15 16 1, VS 16 17 0]) (.seq (.region false [ PM 74 0, PO 75 (.call 14 [(.s 0)]), VS 17 18 0]) (.seq (.region false [ PM 77 17, PO 78 (.call 15 [(.s 0)]), PO 76 (.mov (.s 0)), PO 79 (.ext (.s 0) 0), PO 80 (.ext (.s 1) 1), VS 18 19 1, VS 19 20 0]) (.seq (.region false [ PM 82 17, PO 83 (.call 16 [(.s 0)]), PO 81 (.mov (.s 0)), PO 84 (.ext (.s 0) 0), PO 85 (.ext (.s 1) 1), VS 20 21 1, VS 21 22 0]) (.seq (.region false [ PM 86 0, PO 87 (.call 17 [(.s 0)]), VS 22 23 0]) (.seq (.region false [ PM 89
 22, PO 90 (.call 18 [(.s 0)]), PO 88 (.mov (.s 0)), PO 91 (.ext (.s 0) 0), PO 92 (.ext (.s 1) 1), VS 23 24 1, VS 24 25 0]) (.seq (.region false [ PM 94 22, PO 95 (.call 19 [(.s 0)]), PO 93 (.mov (.s 0)), PO 96 (.ext (.s 0) 0), PO 97 (.ext (.s 1) 1), VS 25 26 1, VS 26 27 0]) (.seq (.test false [ PM 98 4, PM 99 6, PO 100 (.bin false .neq (.s 1) (.s 0)), PO 101 (.mov (.s 0)), ⟨.push, 102, (some ((.s 0), false)), .mov (.v 3)⟩, ⟨.push, 103, (some ((.s 1), false)), .b2s (.s 0)⟩, ⟨.push, 104, (some ((.s 2), false)), .mov (.v 5)⟩, ⟨.push, 105, (some ((.s 3), false)), .b2s (.s 0)⟩, ⟨.push, 106, (some
 ((.s 4), false)), .bin false .neq (.s 2) (.s 0)⟩, PO 107 (.pick (.s 5) (.c (.bool true)) (.s 0)), PO 108 (.mov (.s 0)), ⟨.push, 109, (some ((.s 0), false)), .mov (.v 9)⟩, ⟨.push, 110, (some ((.s 1), false)), .mov (.v 11)⟩, ⟨.push, 111, (some ((.s 2), false)), .bin false .neq (.s 1) (.s 0)⟩, PO 112 (.pick (.s 3) (.c (.bool true)) (.s 0)), PO 113 (.mov (.s 0)), ⟨.push, 114, (some ((.s 0), false)), .mov (.v 8)⟩, ⟨.push, 115, (some ((.s 1), false)), .b2s (.s 0)⟩, ⟨.push, 116, (some ((.s 2), false)), .mov (.v 10)⟩, ⟨.push, 117, (some ((.s 3), false)), .b2s (.s 0)⟩, ⟨.push, 118, (some ((.s 4),
 false)), .bin false .neq (.s 2) (.s 0)⟩, PO 119 (.pick (.s 5) (.c (.bool true)) (.s 0)), PO 120 (.mov (.s 0)), ⟨.push, 121, (some ((.s 0), false)), .mov (.v 14)⟩, ⟨.push, 122, (some ((.s 1), false)), .mov (.v 16)⟩, ⟨.push, 123, (some ((.s 2), false)), .bin false .neq (.s 1) (.s 0)⟩, PO 124 (.pick (.s 3) (.c (.bool true)) (.s 0)), PO 125 (.mov (.s 0)), ⟨.push, 126, (some ((.s 0), false)), .mov (.v 13)⟩, ⟨.push, 127, (some ((.s 1), false)), .mov (.v 15)⟩, ⟨.push, 128, (some ((.s 2), false)), .call 20 [(.s 1), (.s 0)]⟩, ⟨.push, 129, (some ((.s 3), false)), .un .not (.s 0)⟩, PO 130 (.pick (.s 4)
 (.c (.bool true)) (.s 0)), PO 131 (.mov (.s 0)), ⟨.push, 132, (some ((.s 0), false)), .mov (.v 19)⟩, ⟨.push, 133, (some ((.s 1), false)), .mov (.v 21)⟩, ⟨.push, 134, (some ((.s 2), false)), .bin false .neq (.s 1) (.s 0)⟩, PO 135 (.pick (.s 3) (.c (.bool true)) (.s 0)), PO 136 (.mov (.s 0)), ⟨.push, 137, (some ((.s 0), false)), .mov (.v 18)⟩, ⟨.push, 138, (some ((.s 1), false)), .mov (.v 20)⟩, ⟨.push, 139, (some ((.s 2), false)), .call 21 [(.s 1), (.s 0)]⟩, ⟨.push, 140, (some ((.s 3), false)), .un .not (.s 0)⟩, PO 141 (.pick (.s 4) (.c (.bool true)) (.s 0)), PO 142 (.mov (.s 0)), ⟨.push, 143,
 (some ((.s 0), false)), .mov (.v 24)⟩, ⟨.push, 144, (some ((.s 1), false)), .mov (.v 26)⟩, ⟨.push, 145, (some ((.s 2), false)), .bin false .neq (.s 1) (.s 0)⟩, PO 146 (.pick (.s 3) (.c (.bool true)) (.s 0)), PO 147 (.mov (.s 0)), ⟨.push, 148, (some ((.s 0), false)), .mov (.v 23)⟩, ⟨.push, 149, (some ((.s 1), false)), .mov (.v 25)⟩, ⟨.push, 150, (some ((.s 2), false)), .bin false .neq (.s 1) (.s 0)⟩, PO 151 (.pick (.s 3) (.c (.bool true)) (.s 0))] (.s 0) (.seq (.region false [ VO 1 2 (.mov (.c (.bool false)))]) (.ret)) (.skip)) (.seq (.test false [ PM 152 4, PO 153 (.bin false .eql (.s 0) (I6
 0))] (.s 0) (.seq (.region false [ PM 155 3, PO 156 (.call 12 [(.s 0)]), PO 154 (.mov (.s 0)), PO 157 (.ext (.s 0) 0), PO 158 (.ext (.s 1) 1), VS 27 28 1, VS 28 29 0]) (.test false [ PM 159 28, PO 160 (.bin false .neq (.s 0) (I6 0)), PO 161 (.mov (.s 0)), ⟨.push, 162, (some ((.s 0), false)), .mov (.v 27)⟩, ⟨.push, 163, (some ((.s 1), false)), .mov (.v 2)⟩, ⟨.push, 164, (some ((.s 2), false)), .call 20 [(.s 1), (.s 0)]⟩, ⟨.push, 165, (some ((.s 3), false)), .un .not (.s 0)⟩, PO 166 (.pick (.s 4) (.c (.bool true)) (.s 0))] (.s 0) (.seq (.region false [ VO 1 2 (.mov (.c (.bool false)))]) (.ret))
 (.skip))) (.skip)) (.seq (.test false [ PM 167 9, PO 168 (.bin false .eql (.s 0) (I6 0))] (.s 0) (.seq (.region false [ PM 170 8, PO 171 (.call 15 [(.s 0)]), PO 169 (.mov (.s 0)), PO 172 (.ext (.s 0) 0), PO 173 (.ext (.s 1) 1), VS 29 30 1, VS 30 31 0]) (.test false [ PM 174 30, PO 175 (.bin false .neq (.s 0) (I6 0)), PO 176 (.mov (.s 0)), ⟨.push, 177, (some ((.s 0), false)), .mov (.v 29)⟩, ⟨.push, 178, (some ((.s 1), false)), .mov (.v 7)⟩, ⟨.push, 179, (some ((.s 2), false)), .call 21 [(.s 1), (.s 0)]⟩, ⟨.push, 180, (some ((.s 3), false)), .un .not (.s 0)⟩, PO 181 (.pick (.s 4) (.c (.bool
 true)) (.s 0))] (.s 0) (.seq (.region false [ VO 1 2 (.mov (.c (.bool false)))]) (.ret)) (.skip))) (.skip)) (.seq (.test false [ PM 182 14, PO 183 (.bin false .eql (.s 0) (I6 0))] (.s 0) (.seq (.region false [ PM 185 13, PO 186 (.call 6 [(.s 0)]), PO 184 (.mov (.s 0)), PO 187 (.ext (.s 0) 0), PO 188 (.ext (.s 1) 1), VS 31 32 1, VS 32 33 0]) (.test false [ PM 189 32, PO 190 (.bin false .neq (.s 0) (I6 0)), PO 191 (.mov (.s 0)), ⟨.push, 192, (some ((.s 0), false)), .mov (.v 31)⟩, ⟨.push, 193, (some ((.s 1), false)), .b2s (.s 0)⟩, ⟨.push, 194, (some ((.s 2), false)), .mov (.v 12)⟩, ⟨.push, 195,
 (some ((.s 3), false)), .b2s (.s 0)⟩, ⟨.push, 196, (some ((.s 4), false)), .bin false .neq (.s 2) (.s 0)⟩, PO 197 (.pick (.s 5) (.c (.bool true)) (.s 0))] (.s 0) (.seq (.region false [ VO 1 2 (.mov (.c (.bool false)))]) (.ret)) (.skip))) (.skip)) (.seq (.test false [ PM 198 19, PO 199 (.bin false .neq (.s 0) (I6 0))] (.s 0) (.seq (.region false [ VO 1 2 (.mov (.c (.bool true)))]) (.ret)) (.skip)) (.seq (.region false [ PM 201 18, PO 202 (.call 9 [(.s 0)]), PO 200 (.mov (.s 0)), PO 203 (.ext (.s 0) 0), PO 204 (.ext (.s 1) 1), VS 33 34 1, VS 34 35 0]) (.seq (.region false [ PM 205 34, PO 206
 (.bin false .eql (.s 0) (I6 0)), PO 207 (.mov (.s 0)), ⟨.push, 208, (some ((.s 0), true)), .mov (.v 33)⟩, ⟨.push, 209, (some ((.s 1), true)), .b2s (.s 0)⟩, ⟨.push, 210, (some ((.s 2), true)), .mov (.v 17)⟩, ⟨.push, 211, (some ((.s 3), true)), .b2s (.s 0)⟩, ⟨.push, 212, (some ((.s 4), true)), .bin false .eql (.s 2) (.s 0)⟩, PO 213 (.pick (.s 5) (.s 0) (.c (.bool false))), VS 1 2 0]) (.ret)))))))))))))))))))))))), [.t 1]⟩
noncomputable def t_laws_FnPacked : List (Nat × Ctr) := [(4, c_0), (5, c_16), (6, c_47), (7, c_65), (8, c_68), (9, c_71), (10, c_74), (11, c_76), (12, c_84), (13, c_91), (14, c_92), (15, c_95), (16, c_96), (17, c_98), (18, c_101), (19, c_102), (20, c_103), (21, c_104)]
theorem lk_laws_FnPacked_4 : look t_laws_FnPacked 4 = some c_0 := rfl
theorem lk_laws_FnPacked_5 : look t_laws_FnPacked 5 = some c_16 := rfl
theorem lk_laws_FnPacked_6 : look t_laws_FnPacked 6 = some c_47 := rfl
theorem lk_laws_FnPacked_7 : look t_laws_FnPacked 7 = some c_65 := rfl
theorem lk_laws_FnPacked_8 : look t_laws_FnPacked 8 = some c_68 := rfl
theorem lk_laws_FnPacked_9 : look t_laws_FnPacked 9 = some c_71 := rfl
theorem lk_laws_FnPacked_10 : look t_laws_FnPacked 10 = some c_74 := rfl
theorem lk_laws_FnPacked_11 : look t_laws_FnPacked 11 = some c_76 := rfl
theorem lk_laws_FnPacked_12 : look t_laws_FnPacked 12 = some c_84 := rfl
theorem lk_laws_FnPacked_13 : look t_laws_FnPacked 13 = some c_91 := rfl
theorem lk_laws_FnPacked_14 : look t_laws_FnPacked 14 = some c_92 := rfl
theorem lk_laws_FnPacked_15 : look t_laws_FnPacked 15 = some c_95 := rfl
theorem lk_laws_FnPacked_16 : look t_laws_FnPacked 16 = some c_96 := rfl
theorem lk_laws_FnPacked_17 : look t_laws_FnPacked 17 = some c_98 := rfl
theorem lk_laws_FnPacked_18 : look t_laws_FnPacked 18 = some c_101 := rfl
theorem lk_laws_FnPacked_19 : look t_laws_FnPacked 19 = some c_102 := rfl
theorem lk_laws_FnPacked_20 : look t_laws_FnPacked 20 = some c_103 := rfl
theorem lk_laws_FnPacked_21 : look t_laws_FnPacked 21 = some c_104 := rfl
noncomputable def c_laws_FnPacked : Ctr := mkF t_laws_FnPacked ir3 [.bor]
theorem s_laws_FnPacked : Sound Tryz.prog 3 c_laws_FnPacked := mkF_sound _ rfl (snd_cons s_0 (snd_cons s_16 (snd_cons s_47 (snd_cons s_65 (snd_cons s_68 (snd_cons s_71 (snd_cons s_74 (snd_cons s_76 (snd_cons s_84 (snd_cons s_91 (snd_cons s_92 (snd_cons s_95 (snd_cons s_96 (snd_cons s_98 (snd_cons s_101 (snd_cons s_102 (snd_cons s_103 (snd_cons s_104 snd_nil)))))))))))))))))) (by kernel_rfl : chkFn Tryz.prog 3 ir3 ir3_v = true)
theorem M_laws_FnPacked : c_laws_FnPacked.modes = [.bor] := rfl
theorem Fl_laws_FnPacked : c_laws_FnPacked.flat = true := rfl
attribute [go_sem] M_laws_FnPacked Fl_laws_FnPacked
attribute [go_sem] lk_laws_FnPacked_4 lk_laws_FnPacked_5 lk_laws_FnPacked_6 lk_laws_FnPacked_7 lk_laws_FnPacked_8 lk_laws_FnPacked_9 lk_laws_FnPacked_10 lk_laws_FnPacked_11 lk_laws_FnPacked_12 lk_laws_FnPacked_13 lk_laws_FnPacked_14 lk_laws_FnPacked_15 lk_laws_FnPacked_16 lk_laws_FnPacked_17 lk_laws_FnPacked_18 lk_laws_FnPacked_19 lk_laws_FnPacked_20 lk_laws_FnPacked_21
set_option maxHeartbeats 8000000 in
theorem Fs_laws_FnPacked {code : List UInt8} {y_ : Bool} (h : laws_FnPacked code = some y_) : c_laws_FnPacked.F [.sl 1 (List.map byteAV code)] = ⟨true, .bool y_, [.any]⟩ := by
 refine mkF_E rfl ?_
 dsimp only [laws_FnPacked] at h
 obtain ⟨y_1, z1, h⟩ := bd_some h
 have fz1 := Fs_0 z1
 try simp only [go_sem] at fz1
 rcases it_some h with ⟨z2, h⟩ | ⟨z2, h⟩
 ·try simp only [go_sem, n1, n2, n3, n4] at z2
  all_goals
  obtain rfl := so_some h
  refine ⟨0, fun L hL => ?_⟩
  simp only [go_sem, ir3, fz1, z2]
 ·try simp only [go_sem, n1, n2, n3, n4] at z2
  all_goals
  obtain ⟨y_3, z3, h⟩ := bd_some h
  have fz3 := Fs_16 z3
  try simp only [go_sem, z2] at fz3
  obtain ⟨y_4, z4, h⟩ := bd_some h
  have fz4 := Fs_47 z4
  try simp only [go_sem, z2] at fz4
  obtain ⟨y_5, z5, h⟩ := bd_some h
  have fz5 := Fs_65 z5
  try simp only [go_sem, z2] at fz5
  obtain ⟨y_6, z6, h⟩ := bd_some h
  have fz6 := Fs_68 z6
  try simp only [go_sem, z2] at fz6
  obtain ⟨y_7, z7, h⟩ := bd_some h
  have fz7 := Fs_71 z7
  try simp only [go_sem, z2] at fz7
  obtain ⟨y_8, z8, h⟩ := bd_some h
  have fz8 := Fs_74 z8
  try simp only [go_sem, z2] at fz8
  obtain ⟨y_9, z9, h⟩ := bd_some h
  have fz9 := Fs_76 z9
  try simp only [go_sem, z2] at fz9
  obtain ⟨y_10, z10, h⟩ := bd_some h
  have fz10 := Fs_84 z10
  try simp only [go_sem, z2] at fz10
  obtain ⟨y_11, z11, h⟩ := bd_some h
  have fz11 := Fs_91 z11
  try simp only [go_sem, z2] at fz11
  obtain ⟨y_12, z12, h⟩ := bd_some h
  have fz12 := Fs_92 z12
  try simp only [go_sem, z2] at fz12
  obtain ⟨y_13, z13, h⟩ := bd_some h
  have fz13 := Fs_95 z13
  try simp only [go_sem, z2] at fz13
  obtain ⟨y_14, z14, h⟩ := bd_some h
  have fz14 := Fs_96 z14
  try simp only [go_sem, z2] at fz14
  obtain ⟨y_15, z15, h⟩ := bd_some h
  have fz15 := Fs_98 z15
  try simp only [go_sem, z2] at fz15
  obtain ⟨y_16, z16, h⟩ := bd_some h
  have fz16 := Fs_101 z16
  try simp only [go_sem, z2] at fz16
  obtain ⟨y_17, z17, h⟩ := bd_some h
  have fz17 := Fs_102 z17
  try simp only [go_sem, z2] at fz17
  obtain ⟨z18, h⟩ := ck_some h
  rcases or_split z18 with ⟨gz18, z18⟩ | gz18
  ·try simp only [go_sem, n1, n2, n3, n4, z2] at gz18
   all_goals
   obtain ⟨y_18, hz18⟩ := Option.isSome_iff_exists.1 z18
   have fz18 := Fs_103 hz18
   try simp only [go_sem, n1, n2, n3, n4, z2, gz18] at hz18
   all_goals
   try simp only [go_sem, z2, gz18] at fz18
   obtain ⟨z19, h⟩ := ck_some h
   rcases or_split z19 with ⟨gz19, z19⟩ | gz19
   ·try simp only [go_sem, n1, n2, n3, n4, z2, gz18, hz18] at gz19
    all_goals
    obtain ⟨y_19, hz19⟩ := Option.isSome_iff_exists.1 z19
    have fz19 := Fs_104 hz19
    try simp only [go_sem, n1, n2, n3, n4, z2, gz18, hz18, gz19] at hz19
    all_goals
    try simp only [go_sem, z2, gz18, hz18, gz19] at fz19
    rcases it_some h with ⟨z20, h⟩ | ⟨z20, h⟩
    ·try simp only [go_sem, n1, n2, n3, n4, z2, gz18, hz18, gz19, hz19] at z20
     all_goals
     obtain rfl := so_some h
     refine ⟨0, fun L hL => ?_⟩
     simp only [go_sem, ir3, fz1, z2, fz3, fz4, fz5, fz6, fz7, fz8, fz9, fz10, fz11, fz12, fz13, fz14, fz15, fz16, fz17, gz18, hz18, fz18, gz19, hz19, fz19, z20]
    ·try simp only [go_sem, n1, n2, n3, n4, z2, gz18, hz18, gz19, hz19] at z20
     all_goals
     rcases it_some h with ⟨z21, h⟩ | ⟨z21, h⟩
     ·try simp only [go_sem, n1, n2, n3, n4, z2, gz18, hz18, gz19, hz19, z20] at z21
      all_goals
      obtain ⟨y_22, z22, h⟩ := bd_some h
      have fz22 := Fs_84 z22
      try simp only [go_sem, z2, gz18, hz18, gz19, hz19, z20, z21] at fz22
      obtain ⟨z23, h⟩ := ck_some h
      rcases or_split z23 with ⟨gz23, z23⟩ | gz23
      ·try simp only [go_sem, n1, n2, n3, n4, z2, gz18, hz18, gz19, hz19, z20, z21] at gz23
       all_goals
       obtain ⟨y_23, hz23⟩ := Option.isSome_iff_exists.1 z23
       have fz23 := Fs_103 hz23
       try simp only [go_sem, n1, n2, n3, n4, z2, gz18, hz18, gz19, hz19, z20, z21, gz23] at hz23
       all_goals
       try simp only [go_sem, z2, gz18, hz18, gz19, hz19, z20, z21, gz23] at fz23
       rcases it_some h with ⟨z24, h⟩ | ⟨z24, h⟩
       ·try simp only [go_sem, n1, n2, n3, n4, z2, gz18, hz18, gz19, hz19, z20, z21, gz23, hz23] at z24
        all_goals
        obtain rfl := so_some h
        refine ⟨0, fun L hL => ?_⟩
        simp only [go_sem, ir3, fz1, z2, fz3, fz4, fz5, fz6, fz7, fz8, fz9, fz10, fz11, fz12, fz13, fz14, fz15, fz16, fz17, gz18, hz18, fz18, gz19, hz19, fz19, z20, z21, fz22, gz23, hz23, fz23, z24]
       ·try simp only [go_sem, n1, n2, n3, n4, z2, gz18, hz18, gz19, hz19, z20, z21, gz23, hz23] at z24
        all_goals
        rcases it_some h with ⟨z25, h⟩ | ⟨z25, h⟩
        ·try simp only [go_sem, n1, n2, n3, n4, z2, gz18, hz18, gz19, hz19, z20, z21, gz23, hz23, z24] at z25
         all_goals
         obtain ⟨y_26, z26, h⟩ := bd_some h
         have fz26 := Fs_95 z26
         try simp only [go_sem, z2, gz18, hz18, gz19, hz19, z20, z21, gz23, hz23, z24, z25] at fz26
         obtain ⟨z27, h⟩ := ck_some h
         rcases or_split z27 with ⟨gz27, z27⟩ | gz27
         ·try simp only [go_sem, n1, n2, n3, n4, z2, gz18, hz18, gz19, hz19, z20, z21, gz23, hz23, z24, z25] at gz27
          all_goals
          obtain ⟨y_27, hz27⟩ := Option.isSome_iff_exists.1 z27
          have fz27 := Fs_104 hz27
          try simp only [go_sem, n1, n2, n3, n4, z2, gz18, hz18, gz19, hz19, z20, z21, gz23, hz23, z24, z25, gz27] at hz27
          all_goals
          try simp only [go_sem, z2, gz18, hz18, gz19, hz19, z20, z21, gz23, hz23, z24, z25, gz27] at fz27
          rcases it_some h with ⟨z28, h⟩ | ⟨z28, h⟩
          ·try simp only [go_sem, n1, n2, n3, n4, z2, gz18, hz18, gz19, hz19, z20, z21, gz23, hz23, z24, z25, gz27, hz27] at z28
           all_goals
           obtain rfl := so_some h
           refine ⟨0, fun L hL => ?_⟩
           simp only [go_sem, ir3, fz1, z2, fz3, fz4, fz5, fz6, fz7, fz8, fz9, fz10, fz11, fz12, fz13, fz14, fz15, fz16, fz17, gz18, hz18, fz18, gz19, hz19, fz19, z20, z21, fz22, gz23, hz23, fz23, z24, z25, fz26, gz27, hz27, fz27, z28]
          ·try simp only [go_sem, n1, n2, n3, n4, z2, gz18, hz18, gz19, hz19, z20, z21, gz23, hz23, z24, z25, gz27, hz27] at z28
           all_goals
           rcases it_some h with ⟨z29, h⟩ | ⟨z29, h⟩
           ·try simp only [go_sem, n1, n2, n3, n4, z2, gz18, hz18, gz19, hz19, z20, z21, gz23, hz23, z24, z25, gz27, hz27, z28] at z29
            all_goals
            obtain ⟨y_30, z30, h⟩ := bd_some h
            have fz30 := Fs_47 z30
            try simp only [go_sem, z2, gz18, hz18, gz19, hz19, z20, z21, gz23, hz23, z24, z25, gz27, hz27, z28, z29] at fz30
            rcases it_some h with ⟨z31, h⟩ | ⟨z31, h⟩
            ·try simp only [go_sem, n1, n2, n3, n4, z2, gz18, hz18, gz19, hz19, z20, z21, gz23, hz23, z24, z25, gz27, hz27, z28, z29] at z31
             all_goals
             obtain rfl := so_some h
             refine ⟨0, fun L hL => ?_⟩
             simp only [go_sem, ir3, fz1, z2, fz3, fz4, fz5, fz6, fz7, fz8, fz9, fz10, fz11, fz12, fz13, fz14, fz15, fz16, fz17, gz18, hz18, fz18, gz19, hz19, fz19, z20, z21, fz22, gz23, hz23, fz23, z24, z25, fz26, gz27, hz27, fz27, z28, z29, fz30, z31]
            ·try simp only [go_sem, n1, n2, n3, n4, z2, gz18, hz18, gz19, hz19, z20, z21, gz23, hz23, z24, z25, gz27, hz27, z28, z29] at z31
             all_goals
             rcases it_some h with ⟨z32, h⟩ | ⟨z32, h⟩
             ·try simp only [go_sem, n1, n2, n3, n4, z2, gz18, hz18, gz19, hz19, z20, z21, gz23, hz23, z24, z25, gz27, hz27, z28, z29, z31] at z32
              all_goals
              obtain rfl := so_some h
              refine ⟨0, fun L hL => ?_⟩
              simp only [go_sem, ir3, fz1, z2, fz3, fz4, fz5, fz6, fz7, fz8, fz9, fz10, fz11, fz12, fz13, fz14, fz15, fz16, fz17, gz18, hz18, fz18, gz19, hz19, fz19, z20, z21, fz22, gz23, hz23, fz23, z24, z25, fz26, gz27, hz27, fz27, z28, z29, fz30, z31, z32]
             ·try simp only [go_sem, n1, n2, n3, n4, z2, gz18, hz18, gz19, hz19, z20, z21, gz23, hz23, z24, z25, gz27, hz27, z28, z29, z31] at z32
              all_goals
              obtain ⟨y_33, z33, h⟩ := bd_some h
              have fz33 := Fs_71 z33
              try simp only [go_sem, z2, gz18, hz18, gz19, hz19, z20, z21, gz23, hz23, z24, z25, gz27, hz27, z28, z29, z31, z32] at fz33
              obtain rfl := so_some h
              refine ⟨0, fun L hL => ?_⟩
              simp only [go_sem, ir3, fz1, z2, fz3, fz4, fz5, fz6, fz7, fz8, fz9, fz10, fz11, fz12, fz13, fz14, fz15, fz16, fz17, gz18, hz18, fz18, gz19, hz19, fz19, z20, z21, fz22, gz23, hz23, fz23, z24, z25, fz26, gz27, hz27, fz27, z28, z29, fz30, z31, z32, fz33]
           ·try simp only [go_sem, n1, n2, n3, n4, z2, gz18, hz18, gz19, hz19, z20, z21, gz23, hz23, z24, z25, gz27, hz27, z28] at z29
            all_goals
            rcases it_some h with ⟨z34, h⟩ | ⟨z34, h⟩
            ·try simp only [go_sem, n1, n2, n3, n4, z2, gz18, hz18, gz19, hz19, z20, z21, gz23, hz23, z24, z25, gz27, hz27, z28, z29] at z34
             all_goals
             obtain rfl := so_some h
             refine ⟨0, fun L hL => ?_⟩
             simp only [go_sem, ir3, fz1, z2, fz3, fz4, fz5, fz6, fz7, fz8, fz9, fz10, fz11, fz12, fz13, fz14, fz15, fz16, fz17, gz18, hz18, fz18, gz19, hz19, fz19, z20, z21, fz22, gz23, hz23, fz23, z24, z25, fz26, gz27, hz27, fz27, z28, z29, z34]
            ·try simp only [go_sem, n1, n2, n3, n4, z2, gz18, hz18, gz19, hz19, z20, z21, gz23, hz23, z24, z25, gz27, hz27, z28, z29] at z34
             all_goals
             obtain ⟨y_35, z35, h⟩ := bd_some h
             have fz35 := Fs_71 z35
             try simp only [go_sem, z2, gz18, hz18, gz19, hz19, z20, z21, gz23, hz23, z24, z25, gz27, hz27, z28, z29, z34] at fz35
             obtain rfl := so_some h
             refine ⟨0, fun L hL => ?_⟩
             simp only [go_sem, ir3, fz1, z2, fz3, fz4, fz5, fz6, fz7, fz8, fz9, fz10, fz11, fz12, fz13, fz14, fz15, fz16, fz17, gz18, hz18, fz18, gz19, hz19, fz19, z20, z21, fz22, gz23, hz23, fz23, z24, z25, fz26, gz27, hz27, fz27, z28, z29, z34, fz35]
         ·have gz27n := no_f gz27
          have gz27nn := no_t gz27n
          try simp only [go_sem, n1, n2, n3, n4, z2, gz18, hz18, gz19, hz19, z20, z21, gz23, hz23, z24, z25] at gz27nn
          all_goals
          rcases it_some h with ⟨z28, h⟩ | ⟨z28, h⟩
          ·try simp only [go_sem, n1, n2, n3, n4, z2, gz18, hz18, gz19, hz19, z20, z21, gz23, hz23, z24, z25, gz27nn] at z28
           all_goals
           obtain rfl := so_some h
           refine ⟨0, fun L hL => ?_⟩
           simp only [go_sem, ir3, fz1, z2, fz3, fz4, fz5, fz6, fz7, fz8, fz9, fz10, fz11, fz12, fz13, fz14, fz15, fz16, fz17, gz18, hz18, fz18, gz19, hz19, fz19, z20, z21, fz22, gz23, hz23, fz23, z24, z25, fz26, gz27nn, z28]
          ·try simp only [go_sem, n1, n2, n3, n4, z2, gz18, hz18, gz19, hz19, z20, z21, gz23, hz23, z24, z25, gz27nn] at z28
           all_goals
           (simp_all)
        ·try simp only [go_sem, n1, n2, n3, n4, z2, gz18, hz18, gz19, hz19, z20, z21, gz23, hz23, z24] at z25
         all_goals
         rcases it_some h with ⟨z36, h⟩ | ⟨z36, h⟩
         ·try simp only [go_sem, n1, n2, n3, n4, z2, gz18, hz18, gz19, hz19, z20, z21, gz23, hz23, z24, z25] at z36
          all_goals
          obtain ⟨y_37, z37, h⟩ := bd_some h
          have fz37 := Fs_47 z37
          try simp only [go_sem, z2, gz18, hz18, gz19, hz19, z20, z21, gz23, hz23, z24, z25, z36] at fz37
          rcases it_some h with ⟨z38, h⟩ | ⟨z38, h⟩
          ·try simp only [go_sem, n1, n2, n3, n4, z2, gz18, hz18, gz19, hz19, z20, z21, gz23, hz23, z24, z25, z36] at z38
           all_goals
           obtain rfl := so_some h
           refine ⟨0, fun L hL => ?_⟩
           simp only [go_sem, ir3, fz1, z2, fz3, fz4, fz5, fz6, fz7, fz8, fz9, fz10, fz11, fz12, fz13, fz14, fz15, fz16, fz17, gz18, hz18, fz18, gz19, hz19, fz19, z20, z21, fz22, gz23, hz23, fz23, z24, z25, z36, fz37, z38]
          ·try simp only [go_sem, n1, n2, n3, n4, z2, gz18, hz18, gz19, hz19, z20, z21, gz23, hz23, z24, z25, z36] at z38
           all_goals
           rcases it_some h with ⟨z39, h⟩ | ⟨z39, h⟩
           ·try simp only [go_sem, n1, n2, n3, n4, z2, gz18, hz18, gz19, hz19, z20, z21, gz23, hz23, z24, z25, z36, z38] at z39
            all_goals
            obtain rfl := so_some h
            refine ⟨0, fun L hL => ?_⟩
            simp only [go_sem, ir3, fz1, z2, fz3, fz4, fz5, fz6, fz7, fz8, fz9, fz10, fz11, fz12, fz13, fz14, fz15, fz16, fz17, gz18, hz18, fz18, gz19, hz19, fz19, z20, z21, fz22, gz23, hz23, fz23, z24, z25, z36, fz37, z38, z39]
           ·try simp only [go_sem, n1, n2, n3, n4, z2, gz18, hz18, gz19, hz19, z20, z21, gz23, hz23, z24, z25, z36, z38] at z39
            all_goals
            obtain ⟨y_40, z40, h⟩ := bd_some h
            have fz40 := Fs_71 z40
            try simp only [go_sem, z2, gz18, hz18, gz19, hz19, z20, z21, gz23, hz23, z24, z25, z36, z38, z39] at fz40
            obtain rfl := so_some h
            refine ⟨0, fun L hL => ?_⟩
            simp only [go_sem, ir3, fz1, z2, fz3, fz4, fz5, fz6, fz7, fz8, fz9, fz10, fz11, fz12, fz13, fz14, fz15, fz16, fz17, gz18, hz18, fz18, gz19, hz19, fz19, z20, z21, fz22, gz23, hz23, fz23, z24, z25, z36, fz37, z38, z39, fz40]
         ·try simp only [go_sem, n1, n2, n3, n4, z2, gz18, hz18, gz19, hz19, z20, z21, gz23, hz23, z24, z25] at z36
          all_goals
          rcases it_some h with ⟨z41, h⟩ | ⟨z41, h⟩
          ·try simp only [go_sem, n1, n2, n3, n4, z2, gz18, hz18, gz19, hz19, z20, z21, gz23, hz23, z24, z25, z36] at z41
           all_goals
           obtain rfl := so_some h
           refine ⟨0, fun L hL => ?_⟩
           simp only [go_sem, ir3, fz1, z2, fz3, fz4, fz5, fz6, fz7, fz8, fz9, fz10, fz11, fz12, fz13, fz14, fz15, fz16, fz17, gz18, hz18, fz18, gz19, hz19, fz19, z20, z21, fz22, gz23, hz23, fz23, z24, z25, z36, z41]
          ·try simp only [go_sem, n1, n2, n3, n4, z2, gz18, hz18, gz19, hz19, z20, z21, gz23, hz23, z24, z25, z36] at z41
           all_goals
           obtain ⟨y_42, z42, h⟩ := bd_some h
           have fz42 := Fs_71 z42
           try simp only [go_sem, z2, gz18, hz18, gz19, hz19, z20, z21, gz23, hz23, z24, z25, z36, z41] at fz42
           obtain rfl := so_some h
           refine ⟨0, fun L hL => ?_⟩
           simp only [go_sem, ir3, fz1, z2, fz3, fz4, fz5, fz6, fz7, fz8, fz9, fz10, fz11, fz12, fz13, fz14, fz15, fz16, fz17, gz18, hz18, fz18, gz19, hz19, fz19, z20, z21, fz22, gz23, hz23, fz23, z24, z25, z36, z41, fz42]
      ·have gz23n := no_f gz23
       have gz23nn := no_t gz23n
       try simp only [go_sem, n1, n2, n3, n4, z2, gz18, hz18, gz19, hz19, z20, z21] at gz23nn
       all_goals
       rcases it_some h with ⟨z24, h⟩ | ⟨z24, h⟩
       ·try simp only [go_sem, n1, n2, n3, n4, z2, gz18, hz18, gz19, hz19, z20, z21, gz23nn] at z24
        all_goals
        obtain rfl := so_some h
        refine ⟨0, fun L hL => ?_⟩
        simp only [go_sem, ir3, fz1, z2, fz3, fz4, fz5, fz6, fz7, fz8, fz9, fz10, fz11, fz12, fz13, fz14, fz15, fz16, fz17, gz18, hz18, fz18, gz19, hz19, fz19, z20, z21, fz22, gz23nn, z24]
       ·try simp only [go_sem, n1, n2, n3, n4, z2, gz18, hz18, gz19, hz19, z20, z21, gz23nn] at z24
        all_goals
        (simp_all)
     ·try simp only [go_sem, n1, n2, n3, n4, z2, gz18, hz18, gz19, hz19, z20] at z21
      all_goals
      rcases it_some h with ⟨z43, h⟩ | ⟨z43, h⟩
      ·try simp only [go_sem, n1, n2, n3, n4, z2, gz18, hz18, gz19, hz19, z20, z21] at z43
       all_goals
       obtain ⟨y_44, z44, h⟩ := bd_some h
       have fz44 := Fs_95 z44
       try simp only [go_sem, z2, gz18, hz18, gz19, hz19, z20, z21, z43] at fz44
       obtain ⟨z45, h⟩ := ck_some h
       rcases or_split z45 with ⟨gz45, z45⟩ | gz45
       ·try simp only [go_sem, n1, n2, n3, n4, z2, gz18, hz18, gz19, hz19, z20, z21, z43] at gz45
        all_goals
        obtain ⟨y_45, hz45⟩ := Option.isSome_iff_exists.1 z45
        have fz45 := Fs_104 hz45
        try simp only [go_sem, n1, n2, n3, n4, z2, gz18, hz18, gz19, hz19, z20, z21, z43, gz45] at hz45
        all_goals
        try simp only [go_sem, z2, gz18, hz18, gz19, hz19, z20, z21, z43, gz45] at fz45
        rcases it_some h with ⟨z46, h⟩ | ⟨z46, h⟩
        ·try simp only [go_sem, n1, n2, n3, n4, z2, gz18, hz18, gz19, hz19, z20, z21, z43, gz45, hz45] at z46
         all_goals
         obtain rfl := so_some h
         refine ⟨0, fun L hL => ?_⟩
         simp only [go_sem, ir3, fz1, z2, fz3, fz4, fz5, fz6, fz7, fz8, fz9, fz10, fz11, fz12, fz13, fz14, fz15, fz16, fz17, gz18, hz18, fz18, gz19, hz19, fz19, z20, z21, z43, fz44, gz45, hz45, fz45, z46]
        ·try simp only [go_sem, n1, n2, n3, n4, z2, gz18, hz18, gz19, hz19, z20, z21, z43, gz45, hz45] at z46
         all_goals
         rcases it_some h with ⟨z47, h⟩ | ⟨z47, h⟩
         ·try simp only [go_sem, n1, n2, n3, n4, z2, gz18, hz18, gz19, hz19, z20, z21, z43, gz45, hz45, z46] at z47
          all_goals
          obtain ⟨y_48, z48, h⟩ := bd_some h
          have fz48 := Fs_47 z48
          try simp only [go_sem, z2, gz18, hz18, gz19, hz19, z20, z21, z43, gz45, hz45, z46, z47] at fz48
          rcases it_some h with ⟨z49, h⟩ | ⟨z49, h⟩
          ·try simp only [go_sem, n1, n2, n3, n4, z2, gz18, hz18, gz19, hz19, z20, z21, z43, gz45, hz45, z46, z47] at z49
           all_goals
           obtain rfl := so_some h
           refine ⟨0, fun L hL => ?_⟩
           simp only [go_sem, ir3, fz1, z2, fz3, fz4, fz5, fz6, fz7, fz8, fz9, fz10, fz11, fz12, fz13, fz14, fz15, fz16, fz17, gz18, hz18, fz18, gz19, hz19, fz19, z20, z21, z43, fz44, gz45, hz45, fz45, z46, z47, fz48, z49]
          ·try simp only [go_sem, n1, n2, n3, n4, z2, gz18, hz18, gz19, hz19, z20, z21, z43, gz45, hz45, z46, z47] at z49
           all_goals
           rcases it_some h with ⟨z50, h⟩ | ⟨z50, h⟩
           ·try simp only [go_sem, n1, n2, n3, n4, z2, gz18, hz18, gz19, hz19, z20, z21, z43, gz45, hz45, z46, z47, z49] at z50
            all_goals
            obtain rfl := so_some h
            refine ⟨0, fun L hL => ?_⟩
            simp only [go_sem, ir3, fz1, z2, fz3, fz4, fz5, fz6, fz7, fz8, fz9, fz10, fz11, fz12, fz13, fz14, fz15, fz16, fz17, gz18, hz18, fz18, gz19, hz19, fz19, z20, z21, z43, fz44, gz45, hz45, fz45, z46, z47, fz48, z49, z50]
           ·try simp only [go_sem, n1, n2, n3, n4, z2, gz18, hz18, gz19, hz19, z20, z21, z43, gz45, hz45, z46, z47, z49] at z50
            all_goals
            obtain ⟨y_51, z51, h⟩ := bd_some h
            have fz51 := Fs_71 z51
            try simp only [go_sem, z2, gz18, hz18, gz19, hz19, z20, z21, z43, gz45, hz45, z46, z47, z49, z50] at fz51
            obtain rfl := so_some h
            refine ⟨0, fun L hL => ?_⟩
            simp only [go_sem, ir3, fz1, z2, fz3, fz4, fz5, fz6, fz7, fz8, fz9, fz10, fz11, fz12, fz13, fz14, fz15, fz16, fz17, gz18, hz18, fz18, gz19, hz19, fz19, z20, z21, z43, fz44, gz45, hz45, fz45, z46, z47, fz48, z49, z50, fz51]
         ·try simp only [go_sem, n1, n2, n3, n4, z2, gz18, hz18, gz19, hz19, z20, z21, z43, gz45, hz45, z46] at z47
          all_goals
          rcases it_some h with ⟨z52, h⟩ | ⟨z52, h⟩
          ·try simp only [go_sem, n1, n2, n3, n4, z2, gz18, hz18, gz19, hz19, z20, z21, z43, gz45, hz45, z46, z47] at z52
           all_goals
           obtain rfl := so_some h
           refine ⟨0, fun L hL => ?_⟩
           simp only [go_sem, ir3, fz1, z2, fz3, fz4, fz5, fz6, fz7, fz8, fz9, fz10, fz11, fz12, fz13, fz14, fz15, fz16, fz17, gz18, hz18, fz18, gz19, hz19, fz19, z20, z21, z43, fz44, gz45, hz45, fz45, z46, z47, z52]
          ·try simp only [go_sem, n1, n2, n3, n4, z2, gz18, hz18, gz19, hz19, z20, z21, z43, gz45, hz45, z46, z47] at z52
           all_goals
           obtain ⟨y_53, z53, h⟩ := bd_some h
           have fz53 := Fs_71 z53
           try simp only [go_sem, z2, gz18, hz18, gz19, hz19, z20, z21, z43, gz45, hz45, z46, z47, z52] at fz53
           obtain rfl := so_some h
           refine ⟨0, fun L hL => ?_⟩
           simp only [go_sem, ir3, fz1, z2, fz3, fz4, fz5, fz6, fz7, fz8, fz9, fz10, fz11, fz12, fz13, fz14, fz15, fz16, fz17, gz18, hz18, fz18, gz19, hz19, fz19, z20, z21, z43, fz44, gz45, hz45, fz45, z46, z47, z52, fz53]
       ·have gz45n := no_f gz45
        have gz45nn := no_t gz45n
        try simp only [go_sem, n1, n2, n3, n4, z2, gz18, hz18, gz19, hz19, z20, z21, z43] at gz45nn
        all_goals
        rcases it_some h with ⟨z46, h⟩ | ⟨z46, h⟩
        ·try simp only [go_sem, n1, n2, n3, n4, z2, gz18, hz18, gz19, hz19, z20, z21, z43, gz45nn] at z46
         all_goals
         obtain rfl := so_some h
         refine ⟨0, fun L hL => ?_⟩
         simp only [go_sem, ir3, fz1, z2, fz3, fz4, fz5, fz6, fz7, fz8, fz9, fz10, fz11, fz12, fz13, fz14, fz15, fz16, fz17, gz18, hz18, fz18, gz19, hz19, fz19, z20, z21, z43, fz44, gz45nn, z46]
        ·try simp only [go_sem, n1, n2, n3, n4, z2, gz18, hz18, gz19, hz19, z20, z21, z43, gz45nn] at z46
         all_goals
         (simp_all)
      ·try simp only [go_sem, n1, n2, n3, n4, z2, gz18, hz18, gz19, hz19, z20, z21] at z43
       all_goals
       rcases it_some h with ⟨z54, h⟩ | ⟨z54, h⟩
       ·try simp only [go_sem, n1, n2, n3, n4, z2, gz18, hz18, gz19, hz19, z20, z21, z43] at z54
        all_goals
        obtain ⟨y_55, z55, h⟩ := bd_some h
        have fz55 := Fs_47 z55
        try simp only [go_sem, z2, gz18, hz18, gz19, hz19, z20, z21, z43, z54] at fz55
        rcases it_some h with ⟨z56, h⟩ | ⟨z56, h⟩
        ·try simp only [go_sem, n1, n2, n3, n4, z2, gz18, hz18, gz19, hz19, z20, z21, z43, z54] at z56
         all_goals
         obtain rfl := so_some h
         refine ⟨0, fun L hL => ?_⟩
         simp only [go_sem, ir3, fz1, z2, fz3, fz4, fz5, fz6, fz7, fz8, fz9, fz10, fz11, fz12, fz13, fz14, fz15, fz16, fz17, gz18, hz18, fz18, gz19, hz19, fz19, z20, z21, z43, z54, fz55, z56]
        ·try simp only [go_sem, n1, n2, n3, n4, z2, gz18, hz18, gz19, hz19, z20, z21, z43, z54] at z56
         all_goals
         rcases it_some h with ⟨z57, h⟩ | ⟨z57, h⟩
         ·try simp only [go_sem, n1, n2, n3, n4, z2, gz18, hz18, gz19, hz19, z20, z21, z43, z54, z56] at z57
          all_goals
          obtain rfl := so_some h
          refine ⟨0, fun L hL => ?_⟩
          simp only [go_sem, ir3, fz1, z2, fz3, fz4, fz5, fz6, fz7, fz8, fz9, fz10, fz11, fz12, fz13, fz14, fz15, fz16, fz17, gz18, hz18, fz18, gz19, hz19, fz19, z20, z21, z43, z54, fz55, z56, z57]
         ·try simp only [go_sem, n1, n2, n3, n4, z2, gz18, hz18, gz19, hz19, z20, z21, z43, z54, z56] at z57
          all_goals
          obtain ⟨y_58, z58, h⟩ := bd_some h
          have fz58 := Fs_71 z58
          try simp only [go_sem, z2, gz18, hz18, gz19, hz19, z20, z21, z43, z54, z56, z57] at fz58
          obtain rfl := so_some h
          refine ⟨0, fun L hL => ?_⟩
          simp only [go_sem, ir3, fz1, z2, fz3, fz4, fz5, fz6, fz7, fz8, fz9, fz10, fz11, fz12, fz13, fz14, fz15, fz16, fz17, gz18, hz18, fz18, gz19, hz19, fz19, z20, z21, z43, z54, fz55, z56, z57, fz58]
       ·try simp only [go_sem, n1, n2, n3, n4, z2, gz18, hz18, gz19, hz19, z20, z21, z43] at z54
        all_goals
        rcases it_some h with ⟨z59, h⟩ | ⟨z59, h⟩
        ·try simp only [go_sem, n1, n2, n3, n4, z2, gz18, hz18, gz19, hz19, z20, z21, z43, z54] at z59
         all_goals
         obtain rfl := so_some h
         refine ⟨0, fun L hL => ?_⟩
         simp only [go_sem, ir3, fz1, z2, fz3, fz4, fz5, fz6, fz7, fz8, fz9, fz10, fz11, fz12, fz13, fz14, fz15, fz16, fz17, gz18, hz18, fz18, gz19, hz19, fz19, z20, z21, z43, z54, z59]
        ·try simp only [go_sem, n1, n2, n3, n4, z2, gz18, hz18, gz19, hz19, z20, z21, z43, z54] at z59
         all_goals
         obtain ⟨y_60, z60, h⟩ := bd_some h
         have fz60 := Fs_71 z60
         try simp only [go_sem, z2, gz18, hz18, gz19, hz19, z20, z21, z43, z54, z59] at fz60
         obtain rfl := so_some h
         refine ⟨0, fun L hL => ?_⟩
         simp only [go_sem, ir3, fz1, z2, fz3, fz4, fz5, fz6, fz7, fz8, fz9, fz10, fz11, fz12, fz13, fz14, fz15, fz16, fz17, gz18, hz18, fz18, gz19, hz19, fz19, z20, z21, z43, z54, z59, fz60]
   ·have gz19n := no_f gz19
    rcases or_t gz19n with gz19na | ⟨gz19na, gz19nb⟩
    ·rcases or_t gz19na with gz19naa | ⟨gz19naa, gz19nab⟩
     ·try simp only [go_sem, n1, n2, n3, n4, z2, gz18, hz18] at gz19naa
      all_goals
      (simp_all)
     ·obtain ⟨gz19naaa, gz19naab⟩ := or_f gz19naa
      obtain ⟨gz19naaaa, gz19naaab⟩ := or_f gz19naaa
      obtain ⟨gz19naaaaa, gz19naaaab⟩ := or_f gz19naaaa
      obtain ⟨gz19naaaaaa, gz19naaaaab⟩ := or_f gz19naaaaa
      have gz19naaaaaan := no_f gz19naaaaaa
      have gz19naaaaabn := no_f gz19naaaaab
      have gz19naaaabn := no_f gz19naaaab
      have gz19naaabn := no_f gz19naaab
      have gz19naabn := no_f gz19naab
      have gz19nabn := no_t gz19nab
      try simp only [go_sem, n1, n2, n3, n4, z2, gz18, hz18] at gz19naaaaaan
      all_goals
      try simp only [go_sem, n1, n2, n3, n4, z2, gz18, hz18, gz19naaaaaan] at gz19naaaaabn
      all_goals
      try simp only [go_sem, n1, n2, n3, n4, z2, gz18, hz18, gz19naaaaaan, gz19naaaaabn] at gz19naaaabn
      all_goals
      try simp only [go_sem, n1, n2, n3, n4, z2, gz18, hz18, gz19naaaaaan, gz19naaaaabn, gz19naaaabn] at gz19naaabn
      all_goals
      try simp only [go_sem, n1, n2, n3, n4, z2, gz18, hz18, gz19naaaaaan, gz19naaaaabn, gz19naaaabn, gz19naaabn] at gz19naabn
      all_goals
      try simp only [go_sem, n1, n2, n3, n4, z2, gz18, hz18, gz19naaaaaan, gz19naaaaabn, gz19naaaabn, gz19naaabn, gz19naabn] at gz19nabn
      all_goals
      rcases it_some h with ⟨z20, h⟩ | ⟨z20, h⟩
      ·try simp only [go_sem, n1, n2, n3, n4, z2, gz18, hz18, gz19naaaaaan, gz19naaaaabn, gz19naaaabn, gz19naaabn, gz19naabn, gz19nabn] at z20
       all_goals
       obtain rfl := so_some h
       refine ⟨0, fun L hL => ?_⟩
       simp only [go_sem, ir3, fz1, z2, fz3, fz4, fz5, fz6, fz7, fz8, fz9, fz10, fz11, fz12, fz13, fz14, fz15, fz16, fz17, gz18, hz18, fz18, gz19naaaaaan, gz19naaaaabn, gz19naaaabn, gz19naaabn, gz19naabn, gz19nabn, z20]
      ·try simp only [go_sem, n1, n2, n3, n4, z2, gz18, hz18, gz19naaaaaan, gz19naaaaabn, gz19naaaabn, gz19naaabn, gz19naabn, gz19nabn] at z20
       all_goals
       (simp_all)
    ·obtain ⟨gz19naa, gz19nab⟩ := or_f gz19na
     obtain ⟨gz19naaa, gz19naab⟩ := or_f gz19naa
     obtain ⟨gz19naaaa, gz19naaab⟩ := or_f gz19naaa
     obtain ⟨gz19naaaaa, gz19naaaab⟩ := or_f gz19naaaa
     obtain ⟨gz19naaaaaa, gz19naaaaab⟩ := or_f gz19naaaaa
     have gz19naaaaaan := no_f gz19naaaaaa
     have gz19naaaaabn := no_f gz19naaaaab
     have gz19naaaabn := no_f gz19naaaab
     have gz19naaabn := no_f gz19naaab
     have gz19naabn := no_f gz19naab
     have gz19nabn := no_f gz19nab
     have gz19nbn := no_t gz19nb
     try simp only [go_sem, n1, n2, n3, n4, z2, gz18, hz18] at gz19naaaaaan
     all_goals
     try simp only [go_sem, n1, n2, n3, n4, z2, gz18, hz18, gz19naaaaaan] at gz19naaaaabn
     all_goals
     try simp only [go_sem, n1, n2, n3, n4, z2, gz18, hz18, gz19naaaaaan, gz19naaaaabn] at gz19naaaabn
     all_goals
     try simp only [go_sem, n1, n2, n3, n4, z2, gz18, hz18, gz19naaaaaan, gz19naaaaabn, gz19naaaabn] at gz19naaabn
     all_goals
     try simp only [go_sem, n1, n2, n3, n4, z2, gz18, hz18, gz19naaaaaan, gz19naaaaabn, gz19naaaabn, gz19naaabn] at gz19naabn
     all_goals
     try simp only [go_sem, n1, n2, n3, n4, z2, gz18, hz18, gz19naaaaaan, gz19naaaaabn, gz19naaaabn, gz19naaabn, gz19naabn] at gz19nabn
     all_goals
     try simp only [go_sem, n1, n2, n3, n4, z2, gz18, hz18, gz19naaaaaan, gz19naaaaabn, gz19naaaabn, gz19naaabn, gz19naabn, gz19nabn] at gz19nbn
     all_goals
     rcases it_some h with ⟨z20, h⟩ | ⟨z20, h⟩
     ·try simp only [go_sem, n1, n2, n3, n4, z2, gz18, hz18, gz19naaaaaan, gz19naaaaabn, gz19naaaabn, gz19naaabn, gz19naabn, gz19nabn, gz19nbn] at z20
      all_goals
      obtain rfl := so_some h
      refine ⟨0, fun L hL => ?_⟩
      simp only [go_sem, ir3, fz1, z2, fz3, fz4, fz5, fz6, fz7, fz8, fz9, fz10, fz11, fz12, fz13, fz14, fz15, fz16, fz17, gz18, hz18, fz18, gz19naaaaaan, gz19naaaaabn, gz19naaaabn, gz19naaabn, gz19naabn, gz19nabn, gz19nbn, z20]
     ·try simp only [go_sem, n1, n2, n3, n4, z2, gz18, hz18, gz19naaaaaan, gz19naaaaabn, gz19naaaabn, gz19naaabn, gz19naabn, gz19nabn, gz19nbn] at z20
      all_goals
      (simp_all)
  ·have gz18n := no_f gz18
   rcases or_t gz18n with gz18na | ⟨gz18na, gz18nb⟩
   ·rcases or_t gz18na with gz18naa | ⟨gz18naa, gz18nab⟩
    ·rcases or_t gz18naa with gz18naaa | ⟨gz18naaa, gz18naab⟩
     ·rcases or_t gz18naaa with gz18naaaa | ⟨gz18naaaa, gz18naaab⟩
      ·have gz18naaaan := no_t gz18naaaa
       try simp only [go_sem, n1, n2, n3, n4, z2] at gz18naaaan
       all_goals
       obtain ⟨z19, h⟩ := ck_some h
       rcases it_some h with ⟨z20, h⟩ | ⟨z20, h⟩
       ·try simp only [go_sem, n1, n2, n3, n4, z2, gz18naaaan] at z20
        all_goals
        obtain rfl := so_some h
        refine ⟨0, fun L hL => ?_⟩
        simp only [go_sem, ir3, fz1, z2, fz3, fz4, fz5, fz6, fz7, fz8, fz9, fz10, fz11, fz12, fz13, fz14, fz15, fz16, fz17, gz18naaaan, z20]
       ·try simp only [go_sem, n1, n2, n3, n4, z2, gz18naaaan] at z20
        all_goals
        (simp_all)
      ·have gz18naaaan := no_f gz18naaaa
       have gz18naaabn := no_t gz18naaab
       try simp only [go_sem, n1, n2, n3, n4, z2] at gz18naaaan
       all_goals
       try simp only [go_sem, n1, n2, n3, n4, z2, gz18naaaan] at gz18naaabn
       all_goals
       obtain ⟨z19, h⟩ := ck_some h
       rcases it_some h with ⟨z20, h⟩ | ⟨z20, h⟩
       ·try simp only [go_sem, n1, n2, n3, n4, z2, gz18naaaan, gz18naaabn] at z20
        all_goals
        obtain rfl := so_some h
        refine ⟨0, fun L hL => ?_⟩
        simp only [go_sem, ir3, fz1, z2, fz3, fz4, fz5, fz6, fz7, fz8, fz9, fz10, fz11, fz12, fz13, fz14, fz15, fz16, fz17, gz18naaaan, gz18naaabn, z20]
       ·try simp only [go_sem, n1, n2, n3, n4, z2, gz18naaaan, gz18naaabn] at z20
        all_goals
        (simp_all)
     ·obtain ⟨gz18naaaa, gz18naaab⟩ := or_f gz18naaa
      have gz18naaaan := no_f gz18naaaa
      have gz18naaabn := no_f gz18naaab
      have gz18naabn := no_t gz18naab
      try simp only [go_sem, n1, n2, n3, n4, z2] at gz18naaaan
      all_goals
      try simp only [go_sem, n1, n2, n3, n4, z2, gz18naaaan] at gz18naaabn
      all_goals
      try simp only [go_sem, n1, n2, n3, n4, z2, gz18naaaan, gz18naaabn] at gz18naabn
      all_goals
      obtain ⟨z19, h⟩ := ck_some h
      rcases it_some h with ⟨z20, h⟩ | ⟨z20, h⟩
      ·try simp only [go_sem, n1, n2, n3, n4, z2, gz18naaaan, gz18naaabn, gz18naabn] at z20
       all_goals
       obtain rfl := so_some h
       refine ⟨0, fun L hL => ?_⟩
       simp only [go_sem, ir3, fz1, z2, fz3, fz4, fz5, fz6, fz7, fz8, fz9, fz10, fz11, fz12, fz13, fz14, fz15, fz16, fz17, gz18naaaan, gz18naaabn, gz18naabn, z20]
      ·try simp only [go_sem, n1, n2, n3, n4, z2, gz18naaaan, gz18naaabn, gz18naabn] at z20
       all_goals
       (simp_all)
    ·obtain ⟨gz18naaa, gz18naab⟩ := or_f gz18naa
     obtain ⟨gz18naaaa, gz18naaab⟩ := or_f gz18naaa
     have gz18naaaan := no_f gz18naaaa
     have gz18naaabn := no_f gz18naaab
     have gz18naabn := no_f gz18naab
     have gz18nabn := no_t gz18nab
     try simp only [go_sem, n1, n2, n3, n4, z2] at gz18naaaan
     all_goals
     try simp only [go_sem, n1, n2, n3, n4, z2, gz18naaaan] at gz18naaabn
     all_goals
     try simp only [go_sem, n1, n2, n3, n4, z2, gz18naaaan, gz18naaabn] at gz18naabn
     all_goals
     try simp only [go_sem, n1, n2, n3, n4, z2, gz18naaaan, gz18naaabn, gz18naabn] at gz18nabn
     all_goals
     obtain ⟨z19, h⟩ := ck_some h
     rcases it_some h with ⟨z20, h⟩ | ⟨z20, h⟩
     ·try simp only [go_sem, n1, n2, n3, n4, z2, gz18naaaan, gz18naaabn, gz18naabn, gz18nabn] at z20
      all_goals
      obtain rfl := so_some h
      refine ⟨0, fun L hL => ?_⟩
      simp only [go_sem, ir3, fz1, z2, fz3, fz4, fz5, fz6, fz7, fz8, fz9, fz10, fz11, fz12, fz13, fz14, fz15, fz16, fz17, gz18naaaan, gz18naaabn, gz18naabn, gz18nabn, z20]
     ·try simp only [go_sem, n1, n2, n3, n4, z2, gz18naaaan, gz18naaabn, gz18naabn, gz18nabn] at z20
      all_goals
      (simp_all)
   ·obtain ⟨gz18naa, gz18nab⟩ := or_f gz18na
    obtain ⟨gz18naaa, gz18naab⟩ := or_f gz18naa
    obtain ⟨gz18naaaa, gz18naaab⟩ := or_f gz18naaa
    have gz18naaaan := no_f gz18naaaa
    have gz18naaabn := no_f gz18naaab
    have gz18naabn := no_f gz18naab
    have gz18nabn := no_f gz18nab
    have gz18nbn := no_t gz18nb
    try simp only [go_sem, n1, n2, n3, n4, z2] at gz18naaaan
    all_goals
    try simp only [go_sem, n1, n2, n3, n4, z2, gz18naaaan] at gz18naaabn
    all_goals
    try simp only [go_sem, n1, n2, n3, n4, z2, gz18naaaan, gz18naaabn] at gz18naabn
    all_goals
    try simp only [go_sem, n1, n2, n3, n4, z2, gz18naaaan, gz18naaabn, gz18naabn] at gz18nabn
    all_goals
    try simp only [go_sem, n1, n2, n3, n4, z2, gz18naaaan, gz18naaabn, gz18naabn, gz18nabn] at gz18nbn
    all_goals
    obtain ⟨z19, h⟩ := ck_some h
    rcases it_some h with ⟨z20, h⟩ | ⟨z20, h⟩
    ·try simp only [go_sem, n1, n2, n3, n4, z2, gz18naaaan, gz18naaabn, gz18naabn, gz18nabn, gz18nbn] at z20
     all_goals
     obtain rfl := so_some h
     refine ⟨0, fun L hL => ?_⟩
     simp only [go_sem, ir3, fz1, z2, fz3, fz4, fz5, fz6, fz7, fz8, fz9, fz10, fz11, fz12, fz13, fz14, fz15, fz16, fz17, gz18naaaan, gz18naaabn, gz18naabn, gz18nabn, gz18nbn, z20]
    ·try simp only [go_sem, n1, n2, n3, n4, z2, gz18naaaan, gz18naaabn, gz18naabn, gz18nabn, gz18nbn] at z20
     all_goals
     (simp_all)


end Go.Proofs.YtpjpfdoaemoddaaGreat
