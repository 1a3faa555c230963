/- Codes and contracts of the functions that RC reaches, and that their typed forms say what they do. No condition. -/
import Derived.Test.YtpnomhinhcochaaGreatDoorEngEstText
import Derived.Test.YtpnomhinhcochaaGreatDoorRows
import Derived.WalkKit
namespace Go.Proofs.YtpnomhinhcochaaGreatDoor
open Go Go.RowKit
set_option linter.unusedVariables false
set_option linter.unusedSimpArgs false
set_option maxRecDepth 10000

theorem s_hCut : Sound Tryz.prog 27 c_hCut := hCut_is

theorem s_hSplit : Sound Tryz.prog 28 c_hSplit := hSplit_is

def ir72_v : List Nat := [0, 1, 4]
def ir72 : AFn := ⟨2, 3, .seq (.region false [ VO 2 4 (.mov (.c (.bool false)))]) (.seq (.region false [ PM 5 0, PO 6 (.len true (.s 0)), PM 7 1, PO 8 (.len true (.s 0)), PO 9 (.bin false .geq (.s 2) (.s 0)), PO 10 (.mov (.s 0)), ⟨.push, 11, (some ((.s 0), true)), .mov (.v 0)⟩, ⟨.push, 12, (some ((.s 1), true)), .mov (.v 1)⟩, ⟨.push, 13, (some ((.s 2), true)), .len true (.s 0)⟩, ⟨.push, 14, (some ((.s 3), true)), .slice 0 (.s 2) none (some (.s 0))⟩, ⟨.push, 15, (some ((.s 4), true)), .mov (.v 1)⟩, ⟨.push, 16, (some ((.s 5), true)), .bin false .eql (.s 1) (.s 0)⟩, PO 17 (.pick (.s 6) (.s 0) (.c
 (.bool false))), VS 2 4 0]) (.ret)), [.t 2]⟩
noncomputable def t_44 : List (Nat × Ctr) := []
noncomputable def c_44 : Ctr := mkF t_44 ir72 [.bor, .bor]
theorem s_44 : Sound Tryz.prog 72 c_44 := mkF_sound _ rfl snd_nil (by kernel_rfl : chkFn Tryz.prog 72 ir72 ir72_v = true)
theorem M_44 : c_44.modes = [.bor, .bor] := rfl
theorem Fl_44 : c_44.flat = true := rfl
attribute [go_sem] M_44 Fl_44
theorem Fs_44 {s_ : List UInt8} {prefix_ : List UInt8} {y_ : Bool} (h : internal_stringslite_HasPrefix s_ prefix_ = some y_) : c_44.F [.str s_, .str prefix_] = ⟨true, .bool y_, [.any, .any]⟩ := by
 refine mkF_E rfl ?_
 dsimp only [internal_stringslite_HasPrefix] at h
 obtain ⟨z1, h⟩ := ck_some h
 rcases or_split z1 with ⟨gz1, z1⟩ | gz1
 ·try simp only [go_sem, n1, n2, n3, n4] at gz1
  all_goals
  try simp only [go_sem, n1, n2, n3, n4, gz1] at z1
  all_goals
  obtain rfl := so_some h
  refine ⟨0, fun L hL => ?_⟩
  simp only [go_sem, ir72, gz1, z1]
 ·try simp only [go_sem, n1, n2, n3, n4] at gz1
  all_goals
  obtain rfl := so_some h
  refine ⟨0, fun L hL => ?_⟩
  simp only [go_sem, ir72, gz1]


def ir50_v : List Nat := [0, 1, 4, 5]
def ir50 : AFn := ⟨2, 4, .seq (.region false [ VO 2 4 (.mov (.c (.str []))), VO 3 5 (.mov (.c (.bool false)))]) (.seq (.test false [ PM 6 0, PM 7 1, PO 8 (.call 72 [(.s 1), (.s 0)]), PO 9 (.un .not (.s 0))] (.s 0) (.seq (.region false [ PM 10 0, VS 2 4 0, VO 3 5 (.mov (.c (.bool false)))]) (.ret)) (.skip)) (.seq (.region false [ PM 11 0, PM 12 1, PO 13 (.len true (.s 0)), PO 14 (.slice 0 (.s 2) (some (.s 0)) none), VS 2 4 0, VO 3 5 (.mov (.c (.bool true)))]) (.ret))), [.t 2, .t 3]⟩
noncomputable def t_45 : List (Nat × Ctr) := [(72, c_44)]
theorem lk_45_72 : look t_45 72 = some c_44 := rfl
noncomputable def c_45 : Ctr := mkF t_45 ir50 [.bor, .bor]
theorem s_45 : Sound Tryz.prog 50 c_45 := mkF_sound _ rfl (snd_cons s_44 snd_nil) (by kernel_rfl : chkFn Tryz.prog 50 ir50 ir50_v = true)
theorem M_45 : c_45.modes = [.bor, .bor] := rfl
theorem Fl_45 : c_45.flat = true := rfl
attribute [go_sem] M_45 Fl_45
attribute [go_sem] lk_45_72
theorem Fs_45 {s_ : List UInt8} {prefix_ : List UInt8} {y_ : (List UInt8) × Bool} (h : internal_stringslite_CutPrefix s_ prefix_ = some y_) : c_45.F [.str s_, .str prefix_] = ⟨true, .tup [.str y_.1, .bool y_.2], [.any, .any]⟩ := by
 refine mkF_E rfl ?_
 dsimp only [internal_stringslite_CutPrefix] at h
 obtain ⟨y_1, z1, h⟩ := bd_some h
 have fz1 := Fs_44 z1
 try simp only [go_sem] at fz1
 rcases it_some h with ⟨z2, h⟩ | ⟨z2, h⟩
 ·try simp only [go_sem, n1, n2, n3, n4] at z2
  all_goals
  obtain rfl := so_some h
  refine ⟨0, fun L hL => ?_⟩
  simp only [go_sem, ir50, fz1, z2]
 ·try simp only [go_sem, n1, n2, n3, n4] at z2
  all_goals
  obtain ⟨z3, h⟩ := ck_some h
  try simp only [go_sem, n1, n2, n3, n4, z2] at z3
  all_goals
  obtain rfl := so_some h
  refine ⟨0, fun L hL => ?_⟩
  simp only [go_sem, ir50, fz1, z2, z3]


def ir29_v : List Nat := [0, 1, 4, 5]
def ir29 : AFn := ⟨2, 4, .seq (.region false [ VO 2 4 (.mov (.c (.str []))), VO 3 5 (.mov (.c (.bool false)))]) (.seq (.region false [ PM 6 0, PM 7 1, PO 8 (.call 50 [(.s 1), (.s 0)]), PO 9 (.ext (.s 0) 0), PO 10 (.ext (.s 1) 1), VS 2 4 1, VS 3 5 0]) (.ret)), [.t 2, .t 3]⟩
noncomputable def t_46 : List (Nat × Ctr) := [(50, c_45)]
theorem lk_46_50 : look t_46 50 = some c_45 := rfl
noncomputable def c_46 : Ctr := mkF t_46 ir29 [.bor, .bor]
theorem s_46 : Sound Tryz.prog 29 c_46 := mkF_sound _ rfl (snd_cons s_45 snd_nil) (by kernel_rfl : chkFn Tryz.prog 29 ir29 ir29_v = true)
theorem M_46 : c_46.modes = [.bor, .bor] := rfl
theorem Fl_46 : c_46.flat = true := rfl
attribute [go_sem] M_46 Fl_46
attribute [go_sem] lk_46_50
theorem Fs_46 {s_ : List UInt8} {prefix_ : List UInt8} {y_ : (List UInt8) × Bool} (h : strings_CutPrefix s_ prefix_ = some y_) : c_46.F [.str s_, .str prefix_] = ⟨true, .tup [.str y_.1, .bool y_.2], [.any, .any]⟩ := by
 refine mkF_E rfl ?_
 dsimp only [strings_CutPrefix] at h
 obtain ⟨y_1, z1, h⟩ := bd_some h
 have fz1 := Fs_45 z1
 try simp only [go_sem] at fz1
 obtain rfl := so_some h
 refine ⟨0, fun L hL => ?_⟩
 simp only [go_sem, ir29, fz1]


theorem s_hRdDec : Sound Tryz.prog 30 c_hRdDec := hRdDec_is

def ir31_b0 : IR := .seq (.region false [ VO 15 47 (.bin false .lss (.v 14) (.v 13))]) (.seq (.cond (.v 15) (.skip) (.exit 0)) (.seq (.block 1 (.seq (.region false [ PM 48 14, PO 49 (.ixAddr 1 (.v 12) (.v 14)), PO 50 (.load false 1 (.s 0)), VS 10 12 2, VS 11 13 0]) (.region false [ PM 51 9, PM 52 11, PM 53 6, PM 54 10, PO 55 (.ixStr (.s 1) (.s 0)), PO 56 (.bin false .sub (.s 0) (.c (.int .u8 (48)))), PO 57 (.conv .i64 (.s 0)), PO 58 (.bin false .mul (.s 5) (.s 0)), PO 59 (.bin false .add (.s 7) (.s 0)), VS 9 11 0]))) (.region false [ PO 60 (.bin false .add (.v 14) (I6 1)), VS 14 46 0])))
def ir31_k0 : List Bool := [true, false, false, false, true, false, true, false, false, true, false, false, true, true, true, false]
def ir31_o0 : List Bool := [true, false, false, false, true, false, false, false, false, true, false, false, false, false, false, false]
def ir31_r0 : List Bool := [false, true, true, false, false, false, false, false, false, false, false, false, false, false, false, false]
def ir31_v : List Nat := [0, 2, 3, 4, 5, 6, 7, 9, 10, 11, 12, 13, 44, 45, 46, 47]
def ir31 : AFn := ⟨1, 16, .seq (.region false [ VO 1 2 (.mov (I6 0)), VO 2 3 (.mov (.c (.bool false)))]) (.seq (.region false [ PM 15 0, PO 16 (.call 29 [(.s 0), (.c (.str [45]))]), PO 14 (.mov (.s 0)), PO 17 (.ext (.s 0) 0), PO 18 (.ext (.s 1) 1), VS 3 4 1, VS 4 5 0]) (.seq (.region false [ PM 20 3, PO 21 (.call 27 [(.s 0), (.c (.str [46]))]), PO 19 (.mov (.s 0)), PO 22 (.ext (.s 0) 0), PO 23 (.ext (.s 1) 1), PO 24 (.ext (.s 2) 2), VS 5 6 2, VS 6 7 1, PO 8 (.mov (.s 0))]) (.seq (.region false [ PM 26 5, PO 27 (.call 30 [(.s 0)]), PO 25 (.mov (.s 0)), PO 28 (.ext (.s 0) 0), PO 29 (.ext (.s 1)
 1), VS 7 9 1, VS 8 10 0]) (.seq (.test false [ PM 30 8, PO 31 (.un .not (.s 0)), PO 32 (.mov (.s 0)), ⟨.push, 33, (some ((.s 0), false)), .mov (.v 7)⟩, ⟨.push, 34, (some ((.s 1), false)), .call 53 [(.s 0), (I6 0), (I6 20)]⟩, ⟨.push, 35, (some ((.s 2), false)), .un .not (.s 0)⟩, PO 36 (.pick (.s 3) (.c (.bool true)) (.s 0)), PO 37 (.mov (.s 0)), ⟨.push, 38, (some ((.s 0), false)), .mov (.v 6)⟩, ⟨.push, 39, (some ((.s 1), false)), .len true (.s 0)⟩, ⟨.push, 40, (some ((.s 2), false)), .bin false .neq (.s 0) (I6 3)⟩, PO 41 (.pick (.s 3) (.c (.bool true)) (.s 0))] (.s 0) (.seq (.region false [ VO
 1 2 (.mov (I6 0)), VO 2 3 (.mov (.c (.bool false)))]) (.ret)) (.skip)) (.seq (.region false [ PM 42 7, PO 43 (.bin false .mul (.s 0) (I6 1000)), VS 9 11 0]) (.seq (.seq (.region false [ VO 12 44 (.mkSl 1 (.int .i64 (0)) 3 [(0, (I6 100)), (1, (I6 10)), (2, (I6 1))]), VO 13 45 (.len false (.v 12)), VO 14 46 (.mov (I6 0))]) (.block 0 (.loop ir31_k0 ir31_o0 ir31_r0 ir31_b0))) (.seq (.test false [ PM 61 4] (.s 0) (.region false [ PM 62 9, PO 63 (.un .neg (.s 0)), VS 9 11 0]) (.skip)) (.seq (.test false [ PM 64 9, PO 65 (.call 45 [(.s 0)]), PM 66 0, PO 67 (.bin false .neq (.s 1) (.s 0))] (.s 0)
 (.seq (.region false [ VO 1 2 (.mov (I6 0)), VO 2 3 (.mov (.c (.bool false)))]) (.ret)) (.skip)) (.seq (.region false [ PM 68 9, VS 1 2 0, VO 2 3 (.mov (.c (.bool true)))]) (.ret)))))))))), [.t 1, .t 2]⟩
noncomputable def t_48 : List (Nat × Ctr) := [(29, c_46), (27, c_hCut), (30, c_hRdDec), (53, c_13), (45, c_39)]
theorem lk_48_29 : look t_48 29 = some c_46 := rfl
theorem lk_48_27 : look t_48 27 = some c_hCut := rfl
theorem lk_48_30 : look t_48 30 = some c_hRdDec := rfl
theorem lk_48_53 : look t_48 53 = some c_13 := rfl
theorem lk_48_45 : look t_48 45 = some c_39 := rfl
noncomputable def c_48 : Ctr := mkF t_48 ir31 [.bor]
theorem s_48 : Sound Tryz.prog 31 c_48 := mkF_sound _ rfl (snd_cons s_46 (snd_cons s_hCut (snd_cons s_hRdDec (snd_cons s_13 (snd_cons s_39 snd_nil))))) (by kernel_rfl : chkFn Tryz.prog 31 ir31 ir31_v = true)
theorem M_48 : c_48.modes = [.bor] := rfl
theorem Fl_48 : c_48.flat = true := rfl
attribute [go_sem] M_48 Fl_48
attribute [go_sem] lk_48_29 lk_48_27 lk_48_30 lk_48_53 lk_48_45
def E_48_l1 (s_ : List UInt8) (negative : Bool) (rest_ : List UInt8) (t44 : List Int) (t45 : Int) : (Int × Int) → St
 | (m, t46) => ⟨[.str s_, .any, .any, .any, .bool negative, .any, .str rest_, .any, .any, .int .i64 m, .any, .any, .own 3200000, .int .i64 t45, .int .i64 t46, .any], [], [(3200000, ⟨1, List.map (AV.int .i64) t44⟩)], true⟩
def R_48_l1 (s_ : List UInt8) (negative : Bool) (rest_ : List UInt8) (t44 : List Int) (t45 : Int) (y : Int) : Res := (.exit 0, ⟨[.str s_, .any, .any, .any, .bool negative, .any, .any, .any, .any, .int .i64 y, .any, .any, .any, .any, .any, .any], [], [], true⟩)
set_option maxHeartbeats 64000000 in
theorem impl_ReadMag_l1_ex {s_ : List UInt8} {negative : Bool} {rest_ : List UInt8} {t44 : List Int} {t45 : Int} {sgm_ : Int × Int} {rho_ : Int} (h : whileE (impl_ReadMag_l1 s_ negative rest_ t44 t45) sgm_ = some rho_) : ∃ L0, ∀ L, L0 ≤ L → iter (exec (look t_48) L ir31_b0) ir31_k0 ir31_o0 ir31_r0 L (E_48_l1 s_ negative rest_ t44 t45 sgm_) = R_48_l1 s_ negative rest_ t44 t45 rho_ := by
 refine loop_ex (E := E_48_l1 s_ negative rest_ t44 t45) (R := R_48_l1 s_ negative rest_ t44 t45) (fun y => by first | (intro c; cases c) | (rcases y with y | y <;> (intro c; cases c)) | (rcases y with y | y | y <;> (intro c; cases c))) ?_ h
 clear h
 rintro ⟨m, t46⟩ o_ h
 dsimp only [impl_ReadMag_l1] at h
 rcases it_some h with ⟨z6, h⟩ | ⟨z6, h⟩
 ·try simp only [go_sem, n1, n2, n3, n4] at z6
  all_goals
  obtain ⟨z7, h⟩ := ck_some h
  have lz7 := ix_lt z7
  have xz7 := getD_mapD (AV.int .i64) t44 lz7
  try simp only [go_sem] at lz7
  try simp only [go_sem] at xz7
  try simp only [go_sem, n1, n2, n3, n4, z6] at z7
  all_goals
  obtain ⟨z8, h⟩ := ck_some h
  try simp only [go_sem, n1, n2, n3, n4, z6, z7] at z8
  all_goals
  obtain rfl := so_some h
  refine ⟨0, fun L hL => ?_⟩
  simp only [go_sem, ir31, E_48_l1, R_48_l1, ir31_b0, ir31_k0, ir31_o0, ir31_r0, z6, z7, lz7, xz7, z8]
 ·try simp only [go_sem, n1, n2, n3, n4] at z6
  all_goals
  obtain rfl := so_some h
  refine ⟨0, fun L hL => ?_⟩
  simp only [go_sem, ir31, E_48_l1, R_48_l1, ir31_b0, ir31_k0, ir31_o0, ir31_r0, z6]

set_option maxHeartbeats 64000000 in
theorem Fs_48 {s_ : List UInt8} {y_ : Int × Bool} (h : impl_ReadMag s_ = some y_) : c_48.F [.str s_] = ⟨true, .tup [.int .i64 y_.1, .bool y_.2], [.any]⟩ := by
 refine mkF_E rfl ?_
 dsimp only [impl_ReadMag] at h
 obtain ⟨y_1, z1, h⟩ := bd_some h
 have fz1 := Fs_46 z1
 try simp only [go_sem] at fz1
 obtain ⟨y_2, z2, h⟩ := bd_some h
 have fz2 := Fs_hCut z2
 try simp only [go_sem] at fz2
 obtain ⟨y_3, z3, h⟩ := bd_some h
 have fz3 := Fs_hRdDec z3
 try simp only [go_sem] at fz3
 obtain ⟨z4, h⟩ := ck_some h
 rcases or_split z4 with ⟨gz4, z4⟩ | gz4
 ·try simp only [go_sem, n1, n2, n3, n4] at gz4
  all_goals
  obtain ⟨y_4, hz4⟩ := Option.isSome_iff_exists.1 z4
  have fz4 := Fs_13 hz4
  try simp only [go_sem, n1, n2, n3, n4, gz4] at hz4
  all_goals
  try simp only [go_sem, gz4] at fz4
  rcases it_some h with ⟨z5, h⟩ | ⟨z5, h⟩
  ·try simp only [go_sem, n1, n2, n3, n4, gz4, hz4] at z5
   all_goals
   obtain rfl := so_some h
   refine ⟨0, fun L hL => ?_⟩
   simp only [go_sem, ir31, E_48_l1, R_48_l1, ir31_k0, ir31_o0, ir31_r0, fz1, fz2, fz3, gz4, hz4, fz4, z5]
  ·try simp only [go_sem, n1, n2, n3, n4, gz4, hz4] at z5
   all_goals
   obtain ⟨y_9, z9, h⟩ := bd_some h
   obtain ⟨Lz9, ez9⟩ := impl_ReadMag_l1_ex z9
   rcases it_some h with ⟨z10, h⟩ | ⟨z10, h⟩
   ·try simp only [go_sem, n1, n2, n3, n4, gz4, hz4, z5] at z10
    all_goals
    obtain ⟨y_11, z11, h⟩ := bd_some h
    have fz11 := Fs_39 z11
    try simp only [go_sem, gz4, hz4, z5, z10] at fz11
    rcases it_some h with ⟨z12, h⟩ | ⟨z12, h⟩
    ·try simp only [go_sem, n1, n2, n3, n4, gz4, hz4, z5, z10] at z12
     all_goals
     obtain rfl := so_some h
     refine ⟨Lz9, fun L hL => ?_⟩
     have ez9 := ez9 L (by omega)
     try simp only [go_sem, E_48_l1, R_48_l1, ir31_k0, ir31_o0, ir31_r0, gz4, hz4, z5, z10, z12] at ez9
     simp only [go_sem, ir31, E_48_l1, R_48_l1, ir31_k0, ir31_o0, ir31_r0, fz1, fz2, fz3, gz4, hz4, fz4, z5, z10, fz11, z12, ez9]
    ·try simp only [go_sem, n1, n2, n3, n4, gz4, hz4, z5, z10] at z12
     all_goals
     obtain rfl := so_some h
     refine ⟨Lz9, fun L hL => ?_⟩
     have ez9 := ez9 L (by omega)
     try simp only [go_sem, E_48_l1, R_48_l1, ir31_k0, ir31_o0, ir31_r0, gz4, hz4, z5, z10, z12] at ez9
     simp only [go_sem, ir31, E_48_l1, R_48_l1, ir31_k0, ir31_o0, ir31_r0, fz1, fz2, fz3, gz4, hz4, fz4, z5, z10, fz11, z12, ez9]
   ·try simp only [go_sem, n1, n2, n3, n4, gz4, hz4, z5] at z10
    all_goals
    obtain ⟨y_13, z13, h⟩ := bd_some h
    have fz13 := Fs_39 z13
    try simp only [go_sem, gz4, hz4, z5, z10] at fz13
    rcases it_some h with ⟨z14, h⟩ | ⟨z14, h⟩
    ·try simp only [go_sem, n1, n2, n3, n4, gz4, hz4, z5, z10] at z14
     all_goals
     obtain rfl := so_some h
     refine ⟨Lz9, fun L hL => ?_⟩
     have ez9 := ez9 L (by omega)
     try simp only [go_sem, E_48_l1, R_48_l1, ir31_k0, ir31_o0, ir31_r0, gz4, hz4, z5, z10, z14] at ez9
     simp only [go_sem, ir31, E_48_l1, R_48_l1, ir31_k0, ir31_o0, ir31_r0, fz1, fz2, fz3, gz4, hz4, fz4, z5, z10, fz13, z14, ez9]
    ·try simp only [go_sem, n1, n2, n3, n4, gz4, hz4, z5, z10] at z14
     all_goals
     obtain rfl := so_some h
     refine ⟨Lz9, fun L hL => ?_⟩
     have ez9 := ez9 L (by omega)
     try simp only [go_sem, E_48_l1, R_48_l1, ir31_k0, ir31_o0, ir31_r0, gz4, hz4, z5, z10, z14] at ez9
     simp only [go_sem, ir31, E_48_l1, R_48_l1, ir31_k0, ir31_o0, ir31_r0, fz1, fz2, fz3, gz4, hz4, fz4, z5, z10, fz13, z14, ez9]
 ·have gz4n := no_f gz4
  have gz4nn := no_t gz4n
  try simp only [go_sem, n1, n2, n3, n4] at gz4nn
  all_goals
  rcases it_some h with ⟨z5, h⟩ | ⟨z5, h⟩
  ·try simp only [go_sem, n1, n2, n3, n4, gz4nn] at z5
   all_goals
   obtain rfl := so_some h
   refine ⟨0, fun L hL => ?_⟩
   simp only [go_sem, ir31, E_48_l1, R_48_l1, ir31_k0, ir31_o0, ir31_r0, fz1, fz2, fz3, gz4nn, z5]
  ·try simp only [go_sem, n1, n2, n3, n4, gz4nn] at z5
   all_goals
   (simp_all)


def ir11_b0 : IR := .seq (.test false [ PM 18 4, PO 19 (.bin false .neq (.s 0) (.c (.str [])))] (.s 0) (.skip) (.exit 0)) (.block 1 (.seq (.region false [ PM 21 4, PO 22 (.call 27 [(.s 0), (.c (.str [10]))]), PO 20 (.mov (.s 0)), PO 23 (.ext (.s 0) 0), PO 24 (.ext (.s 1) 1), PO 25 (.ext (.s 2) 2), VS 5 6 2, VS 6 7 1, PO 8 (.mov (.s 0))]) (.seq (.region false [ PM 26 5, PO 27 (.call 28 [(.s 0), (.c (.str [32]))]), VS 7 9 0]) (.seq (.test false [ PM 28 7, PO 29 (.len false (.s 0)), PO 30 (.bin false .neq (.s 0) (I6 4)), PO 31 (.mov (.s 0)), ⟨.push, 32, (some ((.s 0), false)), .mov (.v 3)⟩,
 ⟨.push, 33, (some ((.s 1), false)), .len false (.s 0)⟩, ⟨.push, 34, (some ((.s 2), false)), .bin false .eql (.s 0) (I6 100)⟩, PO 35 (.pick (.s 3) (.c (.bool true)) (.s 0))] (.s 0) (.seq (.region false [ VO 1 2 (.newnil 5), VO 2 3 (.mov (.c (.bool false)))]) (.ret)) (.skip)) (.seq (.region false [ PM 37 7, PO 38 (.ixAddr 1 (.s 0) (I6 3)), PO 39 (.load false 1 (.s 0)), PO 40 (.call 29 [(.s 0), (.c (.str [60]))]), PO 36 (.mov (.s 0)), PO 41 (.ext (.s 0) 0), PO 42 (.ext (.s 1) 1), VS 8 10 1, VS 9 11 0]) (.seq (.region false [ PM 44 7, PO 45 (.ixAddr 1 (.s 0) (I6 0)), PO 46 (.load false 1 (.s 0)),
 PO 47 (.call 30 [(.s 0)]), PO 43 (.mov (.s 0)), PO 48 (.ext (.s 0) 0), PO 49 (.ext (.s 1) 1), VS 10 12 1, VS 11 13 0]) (.seq (.region false [ PM 51 8, PO 52 (.call 31 [(.s 0)]), PO 50 (.mov (.s 0)), PO 53 (.ext (.s 0) 0), PO 54 (.ext (.s 1) 1), VS 12 14 1, VS 13 15 0]) (.seq (.test false [ PM 55 11, PO 56 (.un .not (.s 0)), PO 57 (.mov (.s 0)), ⟨.push, 58, (some ((.s 0), false)), .mov (.v 13)⟩, ⟨.push, 59, (some ((.s 1), false)), .un .not (.s 0)⟩, PO 60 (.pick (.s 2) (.c (.bool true)) (.s 0))] (.s 0) (.seq (.region false [ VO 1 2 (.newnil 5), VO 2 3 (.mov (.c (.bool false)))]) (.ret)) (.skip))
 (.seq (.anyo 13 [ SO 0 61 (.mov (.v 3)), SO 1 62 (.mov (.v 10)), SO 2 63 (.mov (.v 7)), SO 3 64 (.ixAddr 1 (.s 2) (I6 1)), SO 4 65 (.load false 1 (.s 3)), SO 5 66 (.mov (.v 7)), SO 6 67 (.ixAddr 1 (.s 5) (I6 2)), SO 7 68 (.load false 1 (.s 6)), SO 8 69 (.mov (.v 12)), SO 9 70 (.mov (.v 9)), SO 10 71 (.pur (.build [.int .i64 (0), .str [], .str [], .int .i64 (0), .bool false] [(0, 1, (.s 1)), (1, 1, (.s 4)), (2, 1, (.s 7)), (3, 1, (.s 8)), (4, 1, (.s 9))])), SO 11 72 (.pur (.mkSl 5 (.agg [.int .i64 (0), .str [], .str [], .int .i64 (0), .bool false]) 1 [(0, (.s 10))])), SO 12 73 (.app 5 56 (.agg
 [.int .i64 (0), .str [], .str [], .int .i64 (0), .bool false]) (.s 0) (.s 11)), VS 3 4 12] [] .skip) (.region false [ PM 74 6, VS 4 5 0]))))))))))
def ir11_k0 : List Bool := [true, false, false, true, true, false, false, false, false, false, false, false, false, false]
def ir11_o0 : List Bool := [true, false, false, true, false, false, false, false, false, false, false, false, false, false]
def ir11_r0 : List Bool := [false, true, true, false, false, false, false, false, false, false, false, false, false, false]
def ir11_v : List Nat := [0, 2, 3, 4, 5, 6, 7, 9, 10, 11, 12, 13, 14, 15]
def ir11 : AFn := ⟨1, 14, .seq (.region false [ VO 1 2 (.newnil 5), VO 2 3 (.mov (.c (.bool false)))]) (.seq (.region false [ PO 16 (.mkSl 5 (.agg [.int .i64 (0), .str [], .str [], .int .i64 (0), .bool false]) 0 []), VS 3 4 0]) (.seq (.seq (.region false [ PM 17 0, VS 4 5 0]) (.block 0 (.loop ir11_k0 ir11_o0 ir11_r0 ir11_b0))) (.seq (.test false [ PM 75 3, PO 76 (.call 14 [(.s 0)]), PO 77 (.un .not (.s 0)), PO 78 (.mov (.s 0)), ⟨.push, 79, (some ((.s 0), false)), .mov (.v 3)⟩, ⟨.push, 80, (some ((.s 1), false)), .call 10 [(.s 0)]⟩, ⟨.push, 81, (some ((.s 2), false)), .mov (.v 0)⟩, ⟨.push, 82,
 (some ((.s 3), false)), .bin false .neq (.s 1) (.s 0)⟩, PO 83 (.pick (.s 4) (.c (.bool true)) (.s 0))] (.s 0) (.seq (.region false [ VO 1 2 (.newnil 5), VO 2 3 (.mov (.c (.bool false)))]) (.ret)) (.skip)) (.seq (.region false [ PM 84 3, VS 1 2 0, VO 2 3 (.mov (.c (.bool true)))]) (.ret))))), [.t 1, .t 2]⟩
noncomputable def t_49 : List (Nat × Ctr) := [(27, c_hCut), (28, c_hSplit), (29, c_46), (30, c_hRdDec), (31, c_48), (14, c_25), (10, c_impl_EstimatesText)]
theorem lk_49_27 : look t_49 27 = some c_hCut := rfl
theorem lk_49_28 : look t_49 28 = some c_hSplit := rfl
theorem lk_49_29 : look t_49 29 = some c_46 := rfl
theorem lk_49_30 : look t_49 30 = some c_hRdDec := rfl
theorem lk_49_31 : look t_49 31 = some c_48 := rfl
theorem lk_49_14 : look t_49 14 = some c_25 := rfl
theorem lk_49_10 : look t_49 10 = some c_impl_EstimatesText := rfl
noncomputable def c_49 : Ctr := mkF t_49 ir11 [.bor]
theorem s_49 : Sound Tryz.prog 11 c_49 := mkF_sound _ rfl (snd_cons s_hCut (snd_cons s_hSplit (snd_cons s_46 (snd_cons s_hRdDec (snd_cons s_48 (snd_cons s_25 (snd_cons s_impl_EstimatesText snd_nil))))))) (by kernel_rfl : chkFn Tryz.prog 11 ir11 ir11_v = true)
theorem M_49 : c_49.modes = [.bor] := rfl
theorem Fl_49 : c_49.flat = true := rfl
attribute [go_sem] M_49 Fl_49
attribute [go_sem] lk_49_27 lk_49_28 lk_49_29 lk_49_30 lk_49_31 lk_49_14 lk_49_10
def E_49_l1 (s_ : List UInt8) : ((List Estimate) × (List UInt8)) → St
 | (list, rest_) => ⟨[.str s_, .any, .any, .own 3200000, .str rest_, .any, .any, .any, .any, .any, .any, .any, .any, .any], [], [(3200000, ⟨5, List.map Estimate_av list⟩)], true⟩
def R_49_l1 (s_ : List UInt8) : ((List Estimate) ⊕ ((List Estimate) × Bool)) → Res
 | .inl y => (.exit 0, ⟨[.str s_, .any, .any, .own 3200000, .any, .any, .any, .any, .any, .any, .any, .any, .any, .any], [], [(3200000, ⟨5, List.map Estimate_av y⟩)], true⟩)
 | .inr y => (.ret, ⟨[.any, .own 3200000, .bool y.2, .any, .any, .any, .any, .any, .any, .any, .any, .any, .any, .any], [], [(3200000, ⟨5, List.map Estimate_av y.1⟩)], true⟩)
set_option maxHeartbeats 64000000 in
theorem impl_ReadEstimates_l1_ex {s_ : List UInt8} {sgm_ : (List Estimate) × (List UInt8)} {rho_ : (List Estimate) ⊕ ((List Estimate) × Bool)} (h : whileE (impl_ReadEstimates_l1 s_) sgm_ = some rho_) : ∃ L0, ∀ L, L0 ≤ L → iter (exec (look t_49) L ir11_b0) ir11_k0 ir11_o0 ir11_r0 L (E_49_l1 s_ sgm_) = R_49_l1 s_ rho_ := by
 refine loop_ex (E := E_49_l1 s_) (R := R_49_l1 s_) (fun y => by first | (intro c; cases c) | (rcases y with y | y <;> (intro c; cases c)) | (rcases y with y | y | y <;> (intro c; cases c))) ?_ h
 clear h
 rintro ⟨list, rest_⟩ o_ h
 dsimp only [impl_ReadEstimates_l1] at h
 rcases it_some h with ⟨z1, h⟩ | ⟨z1, h⟩
 ·try simp only [go_sem, n1, n2, n3, n4] at z1
  all_goals
  obtain ⟨y_2, z2, h⟩ := bd_some h
  have fz2 := Fs_hCut z2
  try simp only [go_sem, z1] at fz2
  obtain ⟨y_3, z3, h⟩ := bd_some h
  have fz3 := Fs_hSplit z3
  try simp only [go_sem, z1] at fz3
  rcases it_some h with ⟨z4, h⟩ | ⟨z4, h⟩
  ·try simp only [go_sem, n1, n2, n3, n4, z1] at z4
   all_goals
   obtain rfl := so_some h
   refine ⟨0, fun L hL => ?_⟩
   simp only [go_sem, ir11, E_49_l1, R_49_l1, ir11_b0, ir11_k0, ir11_o0, ir11_r0, z1, fz2, fz3, z4]
  ·try simp only [go_sem, n1, n2, n3, n4, z1] at z4
   all_goals
   obtain ⟨z5, h⟩ := ck_some h
   have lz5 := ix_lt z5
   have xz5 := getD_mapD AV.str y_3 lz5
   try simp only [go_sem] at lz5
   try simp only [go_sem] at xz5
   try simp only [go_sem, n1, n2, n3, n4, z1, z4] at z5
   all_goals
   obtain ⟨y_6, z6, h⟩ := bd_some h
   have fz6 := Fs_46 z6
   try simp only [go_sem, z1, z4, z5] at fz6
   obtain ⟨z7, h⟩ := ck_some h
   have lz7 := ix_lt z7
   have xz7 := getD_mapD AV.str y_3 lz7
   try simp only [go_sem] at lz7
   try simp only [go_sem] at xz7
   try simp only [go_sem, n1, n2, n3, n4, z1, z4, z5] at z7
   all_goals
   obtain ⟨y_8, z8, h⟩ := bd_some h
   have fz8 := Fs_hRdDec z8
   try simp only [go_sem, z1, z4, z5, z7] at fz8
   obtain ⟨y_9, z9, h⟩ := bd_some h
   have fz9 := Fs_48 z9
   try simp only [go_sem, z1, z4, z5, z7] at fz9
   rcases it_some h with ⟨z10, h⟩ | ⟨z10, h⟩
   ·try simp only [go_sem, n1, n2, n3, n4, z1, z4, z5, z7] at z10
    all_goals
    obtain rfl := so_some h
    refine ⟨0, fun L hL => ?_⟩
    simp only [go_sem, ir11, E_49_l1, R_49_l1, ir11_b0, ir11_k0, ir11_o0, ir11_r0, z1, fz2, fz3, z4, z5, lz5, xz5, fz6, z7, lz7, xz7, fz8, fz9, z10]
   ·try simp only [go_sem, n1, n2, n3, n4, z1, z4, z5, z7] at z10
    all_goals
    obtain ⟨z11, h⟩ := ck_some h
    have lz11 := ix_lt z11
    have xz11 := getD_mapD AV.str y_3 lz11
    try simp only [go_sem] at lz11
    try simp only [go_sem] at xz11
    try simp only [go_sem, n1, n2, n3, n4, z1, z4, z5, z7, z10] at z11
    all_goals
    obtain ⟨z12, h⟩ := ck_some h
    have lz12 := ix_lt z12
    have xz12 := getD_mapD AV.str y_3 lz12
    try simp only [go_sem] at lz12
    try simp only [go_sem] at xz12
    try simp only [go_sem, n1, n2, n3, n4, z1, z4, z5, z7, z10, z11] at z12
    all_goals
    obtain ⟨z13, h⟩ := ck_some h
    try simp only [go_sem, n1, n2, n3, n4, z1, z4, z5, z7, z10, z11, z12] at z13
    all_goals
    obtain rfl := so_some h
    refine ⟨0, fun L hL => ?_⟩
    simp only [go_sem, ir11, E_49_l1, R_49_l1, ir11_b0, ir11_k0, ir11_o0, ir11_r0, z1, fz2, fz3, z4, z5, lz5, xz5, fz6, z7, lz7, xz7, fz8, fz9, z10, z11, lz11, xz11, z12, lz12, xz12, z13]
 ·try simp only [go_sem, n1, n2, n3, n4] at z1
  all_goals
  obtain rfl := so_some h
  refine ⟨0, fun L hL => ?_⟩
  simp only [go_sem, ir11, E_49_l1, R_49_l1, ir11_b0, ir11_k0, ir11_o0, ir11_r0, z1]

set_option maxHeartbeats 64000000 in
theorem Fs_49 {s_ : List UInt8} {y_ : (List Estimate) × Bool} (h : impl_ReadEstimates s_ = some y_) : c_49.F [.str s_] = ⟨true, .tup [.fresh 5 (List.map Estimate_av y_.1), .bool y_.2], [.any]⟩ := by
 refine mkF_E (by simp only [flatA, flatB, flat1, List.all_cons, List.all_nil, Bool.and_self, flatE_map (f := Estimate_av) (fun _ => rfl)]) ?_
 dsimp only [impl_ReadEstimates] at h
 obtain ⟨y_14, z14, h⟩ := bd_some h
 obtain ⟨Lz14, ez14⟩ := impl_ReadEstimates_l1_ex z14
 rcases y_14 with y_14a | y_14b
 ·dsimp only at h
  obtain ⟨y_15, z15, h⟩ := bd_some h
  have fz15 := Fs_25 z15
  try simp only [go_sem] at fz15
  obtain ⟨z16, h⟩ := ck_some h
  rcases or_split z16 with ⟨gz16, z16⟩ | gz16
  ·try simp only [go_sem, n1, n2, n3, n4] at gz16
   all_goals
   obtain ⟨y_16, hz16⟩ := Option.isSome_iff_exists.1 z16
   have fz16 := Fs_impl_EstimatesText hz16
   try simp only [go_sem, n1, n2, n3, n4, gz16] at hz16
   all_goals
   try simp only [go_sem, gz16] at fz16
   rcases it_some h with ⟨z17, h⟩ | ⟨z17, h⟩
   ·try simp only [go_sem, n1, n2, n3, n4, gz16, hz16] at z17
    all_goals
    obtain rfl := so_some h
    refine ⟨Lz14, fun L hL => ?_⟩
    have ez14 := ez14 L (by omega)
    try simp only [go_sem, E_49_l1, R_49_l1, ir11_k0, ir11_o0, ir11_r0, gz16, hz16, z17] at ez14
    simp only [go_sem, ir11, E_49_l1, R_49_l1, ir11_k0, ir11_o0, ir11_r0, fz15, gz16, hz16, fz16, z17, ez14]
   ·try simp only [go_sem, n1, n2, n3, n4, gz16, hz16] at z17
    all_goals
    obtain rfl := so_some h
    refine ⟨Lz14, fun L hL => ?_⟩
    have ez14 := ez14 L (by omega)
    try simp only [go_sem, E_49_l1, R_49_l1, ir11_k0, ir11_o0, ir11_r0, gz16, hz16, z17] at ez14
    simp only [go_sem, ir11, E_49_l1, R_49_l1, ir11_k0, ir11_o0, ir11_r0, fz15, gz16, hz16, fz16, z17, ez14]
  ·have gz16n := no_f gz16
   have gz16nn := no_t gz16n
   try simp only [go_sem, n1, n2, n3, n4] at gz16nn
   all_goals
   rcases it_some h with ⟨z17, h⟩ | ⟨z17, h⟩
   ·try simp only [go_sem, n1, n2, n3, n4, gz16nn] at z17
    all_goals
    obtain rfl := so_some h
    refine ⟨Lz14, fun L hL => ?_⟩
    have ez14 := ez14 L (by omega)
    try simp only [go_sem, E_49_l1, R_49_l1, ir11_k0, ir11_o0, ir11_r0, gz16nn, z17] at ez14
    simp only [go_sem, ir11, E_49_l1, R_49_l1, ir11_k0, ir11_o0, ir11_r0, fz15, gz16nn, z17, ez14]
   ·try simp only [go_sem, n1, n2, n3, n4, gz16nn] at z17
    all_goals
    (simp_all)
 ·dsimp only at h
  obtain rfl := so_some h
  refine ⟨Lz14, fun L hL => ?_⟩
  have ez14 := ez14 L (by omega)
  try simp only [go_sem, E_49_l1, R_49_l1, ir11_k0, ir11_o0, ir11_r0] at ez14
  simp only [go_sem, ir11, E_49_l1, R_49_l1, ir11_k0, ir11_o0, ir11_r0, ez14]


def ir12_v : List Nat := [0, 1, 3, 4, 5, 6, 7]
def ir12 : AFn := ⟨2, 7, .seq (.region false [ VO 2 3 (.box (.v 1)), VO 3 4 (.newnil 5), VO 4 5 (.mov (I6 0))]) (.seq (.block 0 (.test false [ PM 9 0, PO 10 (.call 14 [(.s 0)]), PO 11 (.un .not (.s 0)), PO 8 (.mov (.s 0))] (.s 0) (.seq (.region false [ VO 3 4 (.newnil 5), VO 4 5 (.mov (I6 1))]) (.ret)) (.test false [ PO 13 (.load true 5 (.v 2)), PO 14 (.call 32 [(.s 0)]), PO 15 (.un .not (.s 0)), PO 12 (.mov (.s 0))] (.s 0) (.seq (.region false [ VO 3 4 (.newnil 5), VO 4 5 (.mov (I6 2))]) (.ret)) (.skip)))) (.seq (.region false [ PM 17 0, PO 18 (.load true 5 (.v 2)), PO 19 (.call 19 [(.s 1),
 (.s 0), (.c (.fn (.func 20) [] []))]), PO 16 (.mov (.s 0)), PO 20 (.ext (.s 0) 0), PO 21 (.ext (.s 1) 1), VS 5 6 1, VS 6 7 0]) (.seq (.block 1 (.test false [ PM 23 6, PO 22 (.mov (.s 0))] (.s 0) (.seq (.region false [ VO 3 4 (.newnil 5), VO 4 5 (.mov (I6 4))]) (.ret)) (.test false [ PM 25 0, PO 26 (.len false (.s 0)), PO 27 (.bin false .eql (.s 0) (I6 100)), PO 24 (.mov (.s 0))] (.s 0) (.seq (.region false [ VO 3 4 (.newnil 5), VO 4 5 (.mov (I6 5))]) (.ret)) (.skip)))) (.seq (.anyo 6 [ SO 0 28 (.mov (.v 0)), SO 1 29 (.call 18 [(.s 0)]), SO 2 30 (.flat (.mov (.v 5))), SO 3 31 (.load true 5 (.v
 2)), SO 4 32 (.mkSl 5 (.agg [.int .i64 (0), .str [], .str [], .int .i64 (0), .bool false]) 1 [(0, (.s 3))]), SO 5 33 (.call 21 [(.s 1), (.s 2), (.s 4)]), VS 3 4 5, VO 4 5 (.flat (.mov (I6 0)))] [[2, 0, 1, 3, 4, 5, 6, 7], [2, 0, 3, 1, 4, 5, 6, 7], [2, 0, 3, 4, 1, 5, 6, 7], [2, 3, 0, 1, 4, 5, 6, 7], [2, 3, 0, 4, 1, 5, 6, 7], [2, 3, 4, 0, 1, 5, 6, 7]] .skip) (.ret))))), [.t 3, .t 4]⟩
noncomputable def t_50 : List (Nat × Ctr) := [(14, c_25), (32, c_17), (19, c_27), (18, c_26), (21, c_hInsEstimate)]
theorem lk_50_14 : look t_50 14 = some c_25 := rfl
theorem lk_50_32 : look t_50 32 = some c_17 := rfl
theorem lk_50_19 : look t_50 19 = some c_27 := rfl
theorem lk_50_18 : look t_50 18 = some c_26 := rfl
theorem lk_50_21 : look t_50 21 = some c_hInsEstimate := rfl
noncomputable def c_50 : Ctr := mkF t_50 ir12 [.bor, .bor]
theorem s_50 : Sound Tryz.prog 12 c_50 := mkF_sound _ rfl (snd_cons s_25 (snd_cons s_17 (snd_cons s_27 (snd_cons s_26 (snd_cons s_hInsEstimate snd_nil))))) (by kernel_rfl : chkFn Tryz.prog 12 ir12 ir12_v = true)
theorem M_50 : c_50.modes = [.bor, .bor] := rfl
theorem Fl_50 : c_50.flat = true := rfl
attribute [go_sem] M_50 Fl_50
attribute [go_sem] lk_50_14 lk_50_32 lk_50_19 lk_50_18 lk_50_21
theorem Fs_50 {list : List Estimate} {e_ : Estimate} {y_ : (List Estimate) × Int} (h : impl_AddEstimate list e_ = some y_) : c_50.F [.sl 5 (List.map Estimate_av list), Estimate_av e_] = ⟨true, .tup [.fresh 5 (List.map Estimate_av y_.1), .int .i64 y_.2], [.any, .any]⟩ := by
 refine mkF_E (by simp only [flatA, flatB, flat1, List.all_cons, List.all_nil, Bool.and_self, flatE_map (f := Estimate_av) (fun _ => rfl)]) ?_
 dsimp only [impl_AddEstimate] at h
 obtain ⟨y_1, z1, h⟩ := bd_some h
 have fz1 := Fs_25 z1
 try simp only [go_sem] at fz1
 rcases it_some h with ⟨z2, h⟩ | ⟨z2, h⟩
 ·try simp only [go_sem, n1, n2, n3, n4] at z2
  all_goals
  obtain rfl := so_some h
  refine ⟨0, fun L hL => ?_⟩
  simp only [go_sem, ir12, fz1, z2]
 ·try simp only [go_sem, n1, n2, n3, n4] at z2
  all_goals
  obtain ⟨y_3, z3, h⟩ := bd_some h
  have fz3 := Fs_17 z3
  try simp only [go_sem, z2] at fz3
  rcases it_some h with ⟨z4, h⟩ | ⟨z4, h⟩
  ·try simp only [go_sem, n1, n2, n3, n4, z2] at z4
   all_goals
   obtain rfl := so_some h
   refine ⟨0, fun L hL => ?_⟩
   simp only [go_sem, ir12, fz1, z2, fz3, z4]
  ·try simp only [go_sem, n1, n2, n3, n4, z2] at z4
   all_goals
   obtain ⟨y_5, z5, h⟩ := bd_some h
   have fz5 := Fs_27 z5
   try simp only [go_sem, z2, z4] at fz5
   rcases it_some h with ⟨z6, h⟩ | ⟨z6, h⟩
   ·try simp only [go_sem, n1, n2, n3, n4, z2, z4] at z6
    all_goals
    obtain rfl := so_some h
    refine ⟨0, fun L hL => ?_⟩
    simp only [go_sem, ir12, fz1, z2, fz3, z4, fz5, z6]
   ·try simp only [go_sem, n1, n2, n3, n4, z2, z4] at z6
    all_goals
    rcases it_some h with ⟨z7, h⟩ | ⟨z7, h⟩
    ·try simp only [go_sem, n1, n2, n3, n4, z2, z4, z6] at z7
     all_goals
     obtain rfl := so_some h
     refine ⟨0, fun L hL => ?_⟩
     simp only [go_sem, ir12, fz1, z2, fz3, z4, fz5, z6, z7]
    ·try simp only [go_sem, n1, n2, n3, n4, z2, z4, z6] at z7
     all_goals
     obtain ⟨y_8, z8, h⟩ := bd_some h
     have fz8 := Fs_26 z8
     try simp only [go_sem, z2, z4, z6, z7] at fz8
     obtain ⟨y_9, z9, h⟩ := bd_some h
     have fz9 := (Fs_hInsEstimate Estimate_av) z9
     try simp only [go_sem, z2, z4, z6, z7] at fz9
     obtain rfl := so_some h
     refine ⟨0, fun L hL => ?_⟩
     simp only [go_sem, ir12, fz1, z2, fz3, z4, fz5, z6, z7, fz8, fz9]


def ir95_v : List Nat := [0, 1, 2, 6]
def ir95 : AFn := ⟨3, 4, .seq (.region false [ VO 3 6 (.mov (.c (.bool false)))]) (.seq (.region false [ PM 7 0, PM 8 1, PO 9 (.bin false .geq (.s 1) (.s 0)), PO 10 (.mov (.s 0)), ⟨.push, 11, (some ((.s 0), true)), .mov (.v 0)⟩, ⟨.push, 12, (some ((.s 1), true)), .mov (.v 2)⟩, ⟨.push, 13, (some ((.s 2), true)), .bin false .leq (.s 1) (.s 0)⟩, PO 14 (.pick (.s 3) (.s 0) (.c (.bool false))), VS 3 6 0]) (.ret)), [.t 3]⟩
noncomputable def t_51 : List (Nat × Ctr) := []
noncomputable def c_51 : Ctr := mkF t_51 ir95 [.bor, .bor, .bor]
theorem s_51 : Sound Tryz.prog 95 c_51 := mkF_sound _ rfl snd_nil (by kernel_rfl : chkFn Tryz.prog 95 ir95 ir95_v = true)
theorem M_51 : c_51.modes = [.bor, .bor, .bor] := rfl
theorem Fl_51 : c_51.flat = true := rfl
attribute [go_sem] M_51 Fl_51
theorem Fs_51 {n : Int} {low : Int} {high : Int} {y_ : Bool} (h : spec_l00In n low high = some y_) : c_51.F [.int .i64 n, .int .i64 low, .int .i64 high] = ⟨true, .bool y_, [.any, .any, .any]⟩ := by
 refine mkF_E rfl ?_
 dsimp only [spec_l00In] at h
 obtain rfl := so_some h
 refine ⟨0, fun L hL => ?_⟩
 simp only [go_sem, ir95]


def ir76_v : List Nat := [0, 2]
def ir76 : AFn := ⟨1, 2, .seq (.region false [ VO 1 2 (.mov (.c (.bool false)))]) (.seq (.region false [ PM 3 0, PO 4 (.call 95 [(.s 0), (I6 0), (I6 10000000)]), VS 1 2 0]) (.ret)), [.t 1]⟩
noncomputable def t_52 : List (Nat × Ctr) := [(95, c_51)]
theorem lk_52_95 : look t_52 95 = some c_51 := rfl
noncomputable def c_52 : Ctr := mkF t_52 ir76 [.bor]
theorem s_52 : Sound Tryz.prog 76 c_52 := mkF_sound _ rfl (snd_cons s_51 snd_nil) (by kernel_rfl : chkFn Tryz.prog 76 ir76 ir76_v = true)
theorem M_52 : c_52.modes = [.bor] := rfl
theorem Fl_52 : c_52.flat = true := rfl
attribute [go_sem] M_52 Fl_52
attribute [go_sem] lk_52_95
theorem Fs_52 {n : Int} {y_ : Bool} (h : spec_l06Time n = some y_) : c_52.F [.int .i64 n] = ⟨true, .bool y_, [.any]⟩ := by
 refine mkF_E rfl ?_
 dsimp only [spec_l06Time] at h
 obtain ⟨y_1, z1, h⟩ := bd_some h
 have fz1 := Fs_51 z1
 try simp only [go_sem] at fz1
 obtain rfl := so_some h
 refine ⟨0, fun L hL => ?_⟩
 simp only [go_sem, ir76, fz1]


def ir96_v : List Nat := [0, 2]
def ir96 : AFn := ⟨1, 2, .seq (.region false [ VO 1 2 (.mov (.c (.bool false)))]) (.seq (.region false [ PM 3 0, PO 4 (.bin false .geq (.s 0) (.c (.int .u8 (97)))), PO 5 (.mov (.s 0)), ⟨.push, 6, (some ((.s 0), true)), .mov (.v 0)⟩, ⟨.push, 7, (some ((.s 1), true)), .bin false .leq (.s 0) (.c (.int .u8 (122)))⟩, PO 8 (.pick (.s 2) (.s 0) (.c (.bool false))), VS 1 2 0]) (.ret)), [.t 1]⟩
noncomputable def t_53 : List (Nat × Ctr) := []
noncomputable def c_53 : Ctr := mkF t_53 ir96 [.bor]
theorem s_53 : Sound Tryz.prog 96 c_53 := mkF_sound _ rfl snd_nil (by kernel_rfl : chkFn Tryz.prog 96 ir96 ir96_v = true)
theorem M_53 : c_53.modes = [.bor] := rfl
theorem Fl_53 : c_53.flat = true := rfl
attribute [go_sem] M_53 Fl_53
theorem Fs_53 {c : UInt8} {y_ : Bool} (h : spec_l01Small c = some y_) : c_53.F [.int .u8 (c.toNat : Int)] = ⟨true, .bool y_, [.any]⟩ := by
 refine mkF_E rfl ?_
 dsimp only [spec_l01Small] at h
 obtain rfl := so_some h
 refine ⟨0, fun L hL => ?_⟩
 simp only [go_sem, ir96]


def ir97_v : List Nat := [0, 2]
def ir97 : AFn := ⟨1, 2, .seq (.region false [ VO 1 2 (.mov (.c (.bool false)))]) (.seq (.region false [ PM 3 0, PO 4 (.bin false .geq (.s 0) (.c (.int .u8 (48)))), PO 5 (.mov (.s 0)), ⟨.push, 6, (some ((.s 0), true)), .mov (.v 0)⟩, ⟨.push, 7, (some ((.s 1), true)), .bin false .leq (.s 0) (.c (.int .u8 (57)))⟩, PO 8 (.pick (.s 2) (.s 0) (.c (.bool false))), VS 1 2 0]) (.ret)), [.t 1]⟩
noncomputable def t_54 : List (Nat × Ctr) := []
noncomputable def c_54 : Ctr := mkF t_54 ir97 [.bor]
theorem s_54 : Sound Tryz.prog 97 c_54 := mkF_sound _ rfl snd_nil (by kernel_rfl : chkFn Tryz.prog 97 ir97 ir97_v = true)
theorem M_54 : c_54.modes = [.bor] := rfl
theorem Fl_54 : c_54.flat = true := rfl
attribute [go_sem] M_54 Fl_54
theorem Fs_54 {c : UInt8} {y_ : Bool} (h : spec_l01Digit c = some y_) : c_54.F [.int .u8 (c.toNat : Int)] = ⟨true, .bool y_, [.any]⟩ := by
 refine mkF_E rfl ?_
 dsimp only [spec_l01Digit] at h
 obtain rfl := so_some h
 refine ⟨0, fun L hL => ?_⟩
 simp only [go_sem, ir97]


def ir77_b0 : IR := .seq (.test false [ PM 17 2, PM 18 0, PO 19 (.len true (.s 0)), PO 20 (.bin false .lss (.s 2) (.s 0))] (.s 0) (.skip) (.exit 0)) (.seq (.block 1 (.test false [ PM 23 0, PM 24 2, PO 25 (.ixStr (.s 1) (.s 0)), PO 26 (.call 96 [(.s 0)]), PO 27 (.un .not (.s 0)), PO 28 (.mov (.s 0)), ⟨.push, 29, (some ((.s 0), true)), .mov (.v 0)⟩, ⟨.push, 30, (some ((.s 1), true)), .mov (.v 2)⟩, ⟨.push, 31, (some ((.s 2), true)), .ixStr (.s 1) (.s 0)⟩, ⟨.push, 32, (some ((.s 3), true)), .call 97 [(.s 0)]⟩, ⟨.push, 33, (some ((.s 4), true)), .un .not (.s 0)⟩, PO 34 (.pick (.s 5) (.s 0) (.c
 (.bool false))), PO 35 (.mov (.s 0)), ⟨.push, 36, (some ((.s 0), true)), .mov (.v 0)⟩, ⟨.push, 37, (some ((.s 1), true)), .mov (.v 2)⟩, ⟨.push, 38, (some ((.s 2), true)), .ixStr (.s 1) (.s 0)⟩, ⟨.push, 39, (some ((.s 3), true)), .bin false .neq (.s 0) (.c (.int .u8 (45)))⟩, PO 40 (.pick (.s 4) (.s 0) (.c (.bool false)))] (.s 0) (.seq (.region false [ VO 1 2 (.mov (.c (.bool false)))]) (.ret)) (.skip))) (.region false [ PM 21 2, PO 22 (.bin false .add (.s 0) (I6 1)), VS 2 3 0]))
def ir77_k0 : List Bool := [true, false, true]
def ir77_o0 : List Bool := [false, false, false]
def ir77_r0 : List Bool := [false, true, false]
def ir77_v : List Nat := [0, 2, 3]
def ir77 : AFn := ⟨1, 3, .seq (.region false [ VO 1 2 (.mov (.c (.bool false)))]) (.seq (.test false [ PM 4 0, PO 5 (.bin false .eql (.s 0) (.c (.str []))), PO 6 (.mov (.s 0)), ⟨.push, 7, (some ((.s 0), false)), .mov (.v 0)⟩, ⟨.push, 8, (some ((.s 1), false)), .len true (.s 0)⟩, ⟨.push, 9, (some ((.s 2), false)), .bin false .gtr (.s 0) (I6 12)⟩, PO 10 (.pick (.s 3) (.c (.bool true)) (.s 0)), PO 11 (.mov (.s 0)), ⟨.push, 12, (some ((.s 0), false)), .mov (.v 0)⟩, ⟨.push, 13, (some ((.s 1), false)), .ixStr (.s 0) (I6 0)⟩, ⟨.push, 14, (some ((.s 2), false)), .call 96 [(.s 0)]⟩, ⟨.push, 15, (some
 ((.s 3), false)), .un .not (.s 0)⟩, PO 16 (.pick (.s 4) (.c (.bool true)) (.s 0))] (.s 0) (.seq (.region false [ VO 1 2 (.mov (.c (.bool false)))]) (.ret)) (.skip)) (.seq (.seq (.region false [ VO 2 3 (.mov (I6 0))]) (.block 0 (.loop ir77_k0 ir77_o0 ir77_r0 ir77_b0))) (.seq (.region false [ VO 1 2 (.mov (.c (.bool true)))]) (.ret)))), [.t 1]⟩
noncomputable def t_55 : List (Nat × Ctr) := [(96, c_53), (97, c_54)]
theorem lk_55_96 : look t_55 96 = some c_53 := rfl
theorem lk_55_97 : look t_55 97 = some c_54 := rfl
noncomputable def c_55 : Ctr := mkF t_55 ir77 [.bor]
theorem s_55 : Sound Tryz.prog 77 c_55 := mkF_sound _ rfl (snd_cons s_53 (snd_cons s_54 snd_nil)) (by kernel_rfl : chkFn Tryz.prog 77 ir77 ir77_v = true)
theorem M_55 : c_55.modes = [.bor] := rfl
theorem Fl_55 : c_55.flat = true := rfl
attribute [go_sem] M_55 Fl_55
attribute [go_sem] lk_55_96 lk_55_97
def E_55_l1 (s_ : List UInt8) : Int → St
 | i => ⟨[.str s_, .any, .int .i64 i], [], [], true⟩
def R_55_l1 (s_ : List UInt8) : (Unit ⊕ Bool) → Res
 | .inl y => (.exit 0, ⟨[.any, .any, .any], [], [], true⟩)
 | .inr y => (.ret, ⟨[.any, .bool y, .any], [], [], true⟩)
theorem spec_IsName_l1_ex {s_ : List UInt8} {sgm_ : Int} {rho_ : Unit ⊕ Bool} (h : whileE (spec_IsName_l1 s_) sgm_ = some rho_) : ∃ L0, ∀ L, L0 ≤ L → iter (exec (look t_55) L ir77_b0) ir77_k0 ir77_o0 ir77_r0 L (E_55_l1 s_ sgm_) = R_55_l1 s_ rho_ := by
 refine loop_ex (E := E_55_l1 s_) (R := R_55_l1 s_) (fun y => by first | (intro c; cases c) | (rcases y with y | y <;> (intro c; cases c)) | (rcases y with y | y | y <;> (intro c; cases c))) ?_ h
 clear h
 intro i o_ h
 dsimp only [spec_IsName_l1] at h
 rcases it_some h with ⟨z4, h⟩ | ⟨z4, h⟩
 ·try simp only [go_sem, n1, n2, n3, n4] at z4
  all_goals
  obtain ⟨z5, h⟩ := ck_some h
  try simp only [go_sem, n1, n2, n3, n4, z4] at z5
  all_goals
  obtain ⟨y_6, z6, h⟩ := bd_some h
  have fz6 := Fs_53 z6
  try simp only [go_sem, z4, z5] at fz6
  obtain ⟨z7, h⟩ := ck_some h
  rcases or_split z7 with ⟨gz7, z7⟩ | gz7
  ·try simp only [go_sem, n1, n2, n3, n4, z4, z5] at gz7
   all_goals
   obtain ⟨y_7, hz7⟩ := Option.isSome_iff_exists.1 z7
   have fz7 := Fs_54 hz7
   try simp only [go_sem, n1, n2, n3, n4, z4, z5, gz7] at hz7
   all_goals
   try simp only [go_sem, z4, z5, gz7] at fz7
   rcases it_some h with ⟨z8, h⟩ | ⟨z8, h⟩
   ·try simp only [go_sem, n1, n2, n3, n4, z4, z5, gz7, hz7] at z8
    all_goals
    obtain rfl := so_some h
    refine ⟨0, fun L hL => ?_⟩
    simp only [go_sem, ir77, E_55_l1, R_55_l1, ir77_b0, ir77_k0, ir77_o0, ir77_r0, z4, z5, fz6, gz7, hz7, fz7, z8]
   ·try simp only [go_sem, n1, n2, n3, n4, z4, z5, gz7, hz7] at z8
    all_goals
    obtain rfl := so_some h
    refine ⟨0, fun L hL => ?_⟩
    simp only [go_sem, ir77, E_55_l1, R_55_l1, ir77_b0, ir77_k0, ir77_o0, ir77_r0, z4, z5, fz6, gz7, hz7, fz7, z8]
  ·have gz7n := no_f gz7
   try simp only [go_sem, n1, n2, n3, n4, z4, z5] at gz7n
   all_goals
   rcases it_some h with ⟨z8, h⟩ | ⟨z8, h⟩
   ·try simp only [go_sem, n1, n2, n3, n4, z4, z5, gz7n] at z8
    all_goals
    (simp_all)
   ·try simp only [go_sem, n1, n2, n3, n4, z4, z5, gz7n] at z8
    all_goals
    obtain rfl := so_some h
    refine ⟨0, fun L hL => ?_⟩
    simp only [go_sem, ir77, E_55_l1, R_55_l1, ir77_b0, ir77_k0, ir77_o0, ir77_r0, z4, z5, fz6, gz7n, z8]
 ·try simp only [go_sem, n1, n2, n3, n4] at z4
  all_goals
  obtain rfl := so_some h
  refine ⟨0, fun L hL => ?_⟩
  simp only [go_sem, ir77, E_55_l1, R_55_l1, ir77_b0, ir77_k0, ir77_o0, ir77_r0, z4]

theorem Fs_55 {s_ : List UInt8} {y_ : Bool} (h : spec_IsName s_ = some y_) : c_55.F [.str s_] = ⟨true, .bool y_, [.any]⟩ := by
 refine mkF_E rfl ?_
 dsimp only [spec_IsName] at h
 obtain ⟨z1, h⟩ := ck_some h
 rcases or_split z1 with ⟨gz1, z1⟩ | gz1
 ·try simp only [go_sem, n1, n2, n3, n4] at gz1
  all_goals
  try simp only [go_sem, n1, n2, n3, n4, gz1] at z1
  all_goals
  obtain ⟨z2, h⟩ := ck_some h
  rcases or_split z2 with ⟨gz2, z2⟩ | gz2
  ·try simp only [go_sem, n1, n2, n3, n4, gz1, z1] at gz2
   all_goals
   obtain ⟨y_2, hz2⟩ := Option.isSome_iff_exists.1 z2
   have fz2 := Fs_53 hz2
   try simp only [go_sem, n1, n2, n3, n4, gz1, z1, gz2] at hz2
   all_goals
   try simp only [go_sem, gz1, z1, gz2] at fz2
   rcases it_some h with ⟨z3, h⟩ | ⟨z3, h⟩
   ·try simp only [go_sem, n1, n2, n3, n4, gz1, z1, gz2, hz2] at z3
    all_goals
    obtain rfl := so_some h
    refine ⟨0, fun L hL => ?_⟩
    simp only [go_sem, ir77, E_55_l1, R_55_l1, ir77_k0, ir77_o0, ir77_r0, gz1, z1, gz2, hz2, fz2, z3]
   ·try simp only [go_sem, n1, n2, n3, n4, gz1, z1, gz2, hz2] at z3
    all_goals
    obtain ⟨y_9, z9, h⟩ := bd_some h
    obtain ⟨Lz9, ez9⟩ := spec_IsName_l1_ex z9
    rcases y_9 with y_9a | y_9b
    ·dsimp only at h
     obtain rfl := so_some h
     refine ⟨Lz9, fun L hL => ?_⟩
     have ez9 := ez9 L (by omega)
     try simp only [go_sem, E_55_l1, R_55_l1, ir77_k0, ir77_o0, ir77_r0, gz1, z1, gz2, hz2, z3] at ez9
     simp only [go_sem, ir77, E_55_l1, R_55_l1, ir77_k0, ir77_o0, ir77_r0, gz1, z1, gz2, hz2, fz2, z3, ez9]
    ·dsimp only at h
     obtain rfl := so_some h
     refine ⟨Lz9, fun L hL => ?_⟩
     have ez9 := ez9 L (by omega)
     try simp only [go_sem, E_55_l1, R_55_l1, ir77_k0, ir77_o0, ir77_r0, gz1, z1, gz2, hz2, z3] at ez9
     simp only [go_sem, ir77, E_55_l1, R_55_l1, ir77_k0, ir77_o0, ir77_r0, gz1, z1, gz2, hz2, fz2, z3, ez9]
  ·have gz2n := no_f gz2
   rcases or_t gz2n with gz2na | ⟨gz2na, gz2nb⟩
   ·try simp only [go_sem, n1, n2, n3, n4, gz1, z1] at gz2na
    all_goals
    (simp_all)
   ·try simp only [go_sem, n1, n2, n3, n4, gz1, z1] at gz2na
    all_goals
    try simp only [go_sem, n1, n2, n3, n4, gz1, z1, gz2na] at gz2nb
    all_goals
    rcases it_some h with ⟨z3, h⟩ | ⟨z3, h⟩
    ·try simp only [go_sem, n1, n2, n3, n4, gz1, z1, gz2na, gz2nb] at z3
     all_goals
     obtain rfl := so_some h
     refine ⟨0, fun L hL => ?_⟩
     simp only [go_sem, ir77, E_55_l1, R_55_l1, ir77_k0, ir77_o0, ir77_r0, gz1, z1, gz2na, gz2nb, z3]
    ·try simp only [go_sem, n1, n2, n3, n4, gz1, z1, gz2na, gz2nb] at z3
     all_goals
     obtain ⟨y_9, z9, h⟩ := bd_some h
     obtain ⟨Lz9, ez9⟩ := spec_IsName_l1_ex z9
     rcases y_9 with y_9a | y_9b
     ·dsimp only at h
      obtain rfl := so_some h
      refine ⟨Lz9, fun L hL => ?_⟩
      have ez9 := ez9 L (by omega)
      try simp only [go_sem, E_55_l1, R_55_l1, ir77_k0, ir77_o0, ir77_r0, gz1, z1, gz2na, gz2nb, z3] at ez9
      simp only [go_sem, ir77, E_55_l1, R_55_l1, ir77_k0, ir77_o0, ir77_r0, gz1, z1, gz2na, gz2nb, z3, ez9]
     ·dsimp only at h
      obtain rfl := so_some h
      refine ⟨Lz9, fun L hL => ?_⟩
      have ez9 := ez9 L (by omega)
      try simp only [go_sem, E_55_l1, R_55_l1, ir77_k0, ir77_o0, ir77_r0, gz1, z1, gz2na, gz2nb, z3] at ez9
      simp only [go_sem, ir77, E_55_l1, R_55_l1, ir77_k0, ir77_o0, ir77_r0, gz1, z1, gz2na, gz2nb, z3, ez9]
 ·have gz1n := no_f gz1
  rcases or_t gz1n with gz1na | ⟨gz1na, gz1nb⟩
  ·try simp only [go_sem, n1, n2, n3, n4] at gz1na
   all_goals
   obtain ⟨z2, h⟩ := ck_some h
   rcases it_some h with ⟨z3, h⟩ | ⟨z3, h⟩
   ·try simp only [go_sem, n1, n2, n3, n4, gz1na] at z3
    all_goals
    obtain rfl := so_some h
    refine ⟨0, fun L hL => ?_⟩
    simp only [go_sem, ir77, E_55_l1, R_55_l1, ir77_k0, ir77_o0, ir77_r0, gz1na, z3]
   ·try simp only [go_sem, n1, n2, n3, n4, gz1na] at z3
    all_goals
    (simp_all)
  ·try simp only [go_sem, n1, n2, n3, n4] at gz1na
   all_goals
   try simp only [go_sem, n1, n2, n3, n4, gz1na] at gz1nb
   all_goals
   obtain ⟨z2, h⟩ := ck_some h
   rcases it_some h with ⟨z3, h⟩ | ⟨z3, h⟩
   ·try simp only [go_sem, n1, n2, n3, n4, gz1na, gz1nb] at z3
    all_goals
    obtain rfl := so_some h
    refine ⟨0, fun L hL => ?_⟩
    simp only [go_sem, ir77, E_55_l1, R_55_l1, ir77_k0, ir77_o0, ir77_r0, gz1na, gz1nb, z3]
   ·try simp only [go_sem, n1, n2, n3, n4, gz1na, gz1nb] at z3
    all_goals
    (simp_all)


def ir78_v : List Nat := [0, 2]
def ir78 : AFn := ⟨1, 2, .seq (.region false [ VO 1 2 (.mov (.c (.bool false)))]) (.seq (.region false [ PM 3 0, PO 4 (.call 95 [(.s 0), (.c (.int .i64 (-2000))), (I6 20000)]), VS 1 2 0]) (.ret)), [.t 1]⟩
noncomputable def t_56 : List (Nat × Ctr) := [(95, c_51)]
theorem lk_56_95 : look t_56 95 = some c_51 := rfl
noncomputable def c_56 : Ctr := mkF t_56 ir78 [.bor]
theorem s_56 : Sound Tryz.prog 78 c_56 := mkF_sound _ rfl (snd_cons s_51 snd_nil) (by kernel_rfl : chkFn Tryz.prog 78 ir78 ir78_v = true)
theorem M_56 : c_56.modes = [.bor] := rfl
theorem Fl_56 : c_56.flat = true := rfl
attribute [go_sem] M_56 Fl_56
attribute [go_sem] lk_56_95
theorem Fs_56 {m : Int} {y_ : Bool} (h : spec_l02Mag m = some y_) : c_56.F [.int .i64 m] = ⟨true, .bool y_, [.any]⟩ := by
 refine mkF_E rfl ?_
 dsimp only [spec_l02Mag] at h
 obtain ⟨y_1, z1, h⟩ := bd_some h
 have fz1 := Fs_51 z1
 try simp only [go_sem] at fz1
 obtain rfl := so_some h
 refine ⟨0, fun L hL => ?_⟩
 simp only [go_sem, ir78, fz1]


def ir57_v : List Nat := [0, 2]
def ir57 : AFn := ⟨1, 2, .seq (.region false [ VO 1 2 (.mov (.c (.bool false)))]) (.seq (.region false [ PM 3 0, PO 4 (.nilck (.s 0)), PO 5 (.fldAddr 0 (.s 0)), PO 6 (.load false 1 (.s 0)), PO 7 (.call 76 [(.s 0)]), PO 8 (.mov (.s 0)), ⟨.push, 9, (some ((.s 0), true)), .mov (.v 0)⟩, ⟨.push, 10, (some ((.s 1), true)), .nilck (.s 0)⟩, ⟨.push, 11, (some ((.s 2), true)), .fldAddr 1 (.s 0)⟩, ⟨.push, 12, (some ((.s 3), true)), .load false 1 (.s 0)⟩, ⟨.push, 13, (some ((.s 4), true)), .call 77 [(.s 0)]⟩, PO 14 (.pick (.s 5) (.s 0) (.c (.bool false))), PO 15 (.mov (.s 0)), ⟨.push, 16, (some ((.s 0),
 true)), .mov (.v 0)⟩, ⟨.push, 17, (some ((.s 1), true)), .nilck (.s 0)⟩, ⟨.push, 18, (some ((.s 2), true)), .fldAddr 2 (.s 0)⟩, ⟨.push, 19, (some ((.s 3), true)), .load false 1 (.s 0)⟩, ⟨.push, 20, (some ((.s 4), true)), .call 77 [(.s 0)]⟩, PO 21 (.pick (.s 5) (.s 0) (.c (.bool false))), PO 22 (.mov (.s 0)), ⟨.push, 23, (some ((.s 0), true)), .mov (.v 0)⟩, ⟨.push, 24, (some ((.s 1), true)), .nilck (.s 0)⟩, ⟨.push, 25, (some ((.s 2), true)), .fldAddr 3 (.s 0)⟩, ⟨.push, 26, (some ((.s 3), true)), .load false 1 (.s 0)⟩, ⟨.push, 27, (some ((.s 4), true)), .call 78 [(.s 0)]⟩, PO 28 (.pick (.s 5)
 (.s 0) (.c (.bool false))), VS 1 2 0]) (.ret)), [.t 1]⟩
noncomputable def t_57 : List (Nat × Ctr) := [(76, c_52), (77, c_55), (78, c_56)]
theorem lk_57_76 : look t_57 76 = some c_52 := rfl
theorem lk_57_77 : look t_57 77 = some c_55 := rfl
theorem lk_57_78 : look t_57 78 = some c_56 := rfl
noncomputable def c_57 : Ctr := mkF t_57 ir57 [.bor]
theorem s_57 : Sound Tryz.prog 57 c_57 := mkF_sound _ rfl (snd_cons s_52 (snd_cons s_55 (snd_cons s_56 snd_nil))) (by kernel_rfl : chkFn Tryz.prog 57 ir57 ir57_v = true)
theorem M_57 : c_57.modes = [.bor] := rfl
theorem Fl_57 : c_57.flat = true := rfl
attribute [go_sem] M_57 Fl_57
attribute [go_sem] lk_57_76 lk_57_77 lk_57_78
theorem Fs_57 {e_ : Estimate} {y_ : Bool} (h : spec_l06One e_ = some y_) : c_57.F [.ptr 5 [Estimate_av e_] 0 0] = ⟨true, .bool y_, [.any]⟩ := by
 refine mkF_E rfl ?_
 dsimp only [spec_l06One] at h
 obtain ⟨y_1, z1, h⟩ := bd_some h
 have fz1 := Fs_52 z1
 try simp only [go_sem] at fz1
 obtain ⟨z2, h⟩ := ck_some h
 rcases or_split z2 with ⟨gz2, z2⟩ | gz2
 ·try simp only [go_sem, n1, n2, n3, n4] at gz2
  all_goals
  obtain ⟨y_2, hz2⟩ := Option.isSome_iff_exists.1 z2
  have fz2 := Fs_55 hz2
  try simp only [go_sem, n1, n2, n3, n4, gz2] at hz2
  all_goals
  try simp only [go_sem, gz2] at fz2
  obtain ⟨z3, h⟩ := ck_some h
  rcases or_split z3 with ⟨gz3, z3⟩ | gz3
  ·try simp only [go_sem, n1, n2, n3, n4, gz2, hz2] at gz3
   all_goals
   obtain ⟨y_3, hz3⟩ := Option.isSome_iff_exists.1 z3
   have fz3 := Fs_55 hz3
   try simp only [go_sem, n1, n2, n3, n4, gz2, hz2, gz3] at hz3
   all_goals
   try simp only [go_sem, gz2, hz2, gz3] at fz3
   obtain ⟨z4, h⟩ := ck_some h
   rcases or_split z4 with ⟨gz4, z4⟩ | gz4
   ·try simp only [go_sem, n1, n2, n3, n4, gz2, hz2, gz3, hz3] at gz4
    all_goals
    obtain ⟨y_4, hz4⟩ := Option.isSome_iff_exists.1 z4
    have fz4 := Fs_56 hz4
    try simp only [go_sem, n1, n2, n3, n4, gz2, hz2, gz3, hz3, gz4] at hz4
    all_goals
    try simp only [go_sem, gz2, hz2, gz3, hz3, gz4] at fz4
    obtain rfl := so_some h
    refine ⟨0, fun L hL => ?_⟩
    simp only [go_sem, ir57, fz1, gz2, hz2, fz2, gz3, hz3, fz3, gz4, hz4, fz4]
   ·rcases and_f gz4 with gz4a | ⟨gz4a, gz4b⟩
    ·try simp only [go_sem, n1, n2, n3, n4, gz2, hz2, gz3, hz3] at gz4a
     all_goals
     (simp_all)
    ·obtain ⟨gz4aa, gz4ab⟩ := and_t gz4a
     try simp only [go_sem, n1, n2, n3, n4, gz2, hz2, gz3, hz3] at gz4aa
     all_goals
     try simp only [go_sem, n1, n2, n3, n4, gz2, hz2, gz3, hz3, gz4aa] at gz4ab
     all_goals
     try simp only [go_sem, n1, n2, n3, n4, gz2, hz2, gz3, hz3, gz4aa, gz4ab] at gz4b
     all_goals
     obtain rfl := so_some h
     refine ⟨0, fun L hL => ?_⟩
     simp only [go_sem, ir57, fz1, gz2, hz2, fz2, gz3, hz3, fz3, gz4aa, gz4ab, gz4b]
  ·rcases and_f gz3 with gz3a | ⟨gz3a, gz3b⟩
   ·try simp only [go_sem, n1, n2, n3, n4, gz2, hz2] at gz3a
    all_goals
    (simp_all)
   ·try simp only [go_sem, n1, n2, n3, n4, gz2, hz2] at gz3a
    all_goals
    try simp only [go_sem, n1, n2, n3, n4, gz2, hz2, gz3a] at gz3b
    all_goals
    obtain ⟨z4, h⟩ := ck_some h
    obtain rfl := so_some h
    refine ⟨0, fun L hL => ?_⟩
    simp only [go_sem, ir57, fz1, gz2, hz2, fz2, gz3a, gz3b]
 ·try simp only [go_sem, n1, n2, n3, n4] at gz2
  all_goals
  obtain ⟨z3, h⟩ := ck_some h
  obtain ⟨z4, h⟩ := ck_some h
  obtain rfl := so_some h
  refine ⟨0, fun L hL => ?_⟩
  simp only [go_sem, ir57, fz1, gz2]


def ir33_b0 : IR := .seq (.test false [ PM 4 2, PM 5 0, PO 6 (.len false (.s 0)), PO 7 (.bin false .lss (.s 2) (.s 0))] (.s 0) (.skip) (.exit 0)) (.seq (.block 1 (.anyo 20 [ SO 0 10 (.mov (.v 0)), SO 1 11 (.mov (.v 2)), SO 2 12 (.ixAddr 5 (.s 0) (.s 1)), SO 3 13 (.callp 57 [(.s 2)]), SO 4 14 (.un .not (.s 3)), SO 5 15 (.mov (.s 4)), ⟨.slot 6, 16, (some ((.s 5), false)), .mov (.v 2)⟩, ⟨.slot 7, 17, (some ((.s 5), false)), .bin false .gtr (.s 6) (I6 0)⟩, ⟨.slot 8, 18, (some ((.s 5), false)), .mov (.s 7)⟩, ⟨.slot 9, 19, (some ((.s 8), true)), .mov (.v 0)⟩, ⟨.slot 10, 20, (some ((.s 8), true)),
 .mov (.v 2)⟩, ⟨.slot 11, 21, (some ((.s 8), true)), .bin false .sub (.s 10) (I6 1)⟩, ⟨.slot 12, 22, (some ((.s 8), true)), .ixAddr 5 (.s 9) (.s 11)⟩, ⟨.slot 13, 23, (some ((.s 8), true)), .mov (.v 0)⟩, ⟨.slot 14, 24, (some ((.s 8), true)), .mov (.v 2)⟩, ⟨.slot 15, 25, (some ((.s 8), true)), .ixAddr 5 (.s 13) (.s 14)⟩, ⟨.slot 16, 26, (some ((.s 8), true)), .call 58 [(.s 12), (.s 15)]⟩, ⟨.slot 17, 27, (some ((.s 8), true)), .un .not (.s 16)⟩, ⟨.slot 18, 28, (some ((.s 5), false)), .pick (.s 8) (.s 17) (.c (.bool false))⟩, SO 19 29 (.pick (.s 5) (.c (.bool true)) (.s 18))] [] (.cond (.s 19) (.seq
 (.region false [ VO 1 2 (.mov (.c (.bool false)))]) (.ret)) (.skip)))) (.region false [ PM 8 2, PO 9 (.bin false .add (.s 0) (I6 1)), VS 2 3 0]))
def ir33_k0 : List Bool := [true, false, true]
def ir33_o0 : List Bool := [true, false, false]
def ir33_r0 : List Bool := [false, true, false]
def ir33_v : List Nat := [0, 2, 3]
def ir33 : AFn := ⟨1, 3, .seq (.region false [ VO 1 2 (.mov (.c (.bool false)))]) (.seq (.seq (.region false [ VO 2 3 (.mov (I6 0))]) (.block 0 (.loop ir33_k0 ir33_o0 ir33_r0 ir33_b0))) (.seq (.region false [ PM 30 0, PO 31 (.len false (.s 0)), PO 32 (.bin false .leq (.s 0) (I6 100)), VS 1 2 0]) (.ret))), [.t 1]⟩
noncomputable def t_58 : List (Nat × Ctr) := [(57, c_57), (58, c_7)]
theorem lk_58_57 : look t_58 57 = some c_57 := rfl
theorem lk_58_58 : look t_58 58 = some c_7 := rfl
noncomputable def c_58 : Ctr := mkF t_58 ir33 [.bor]
theorem s_58 : Sound Tryz.prog 33 c_58 := mkF_sound _ rfl (snd_cons s_57 (snd_cons s_7 snd_nil)) (by kernel_rfl : chkFn Tryz.prog 33 ir33 ir33_v = true)
theorem M_58 : c_58.modes = [.bor] := rfl
theorem Fl_58 : c_58.flat = true := rfl
attribute [go_sem] M_58 Fl_58
attribute [go_sem] lk_58_57 lk_58_58
def E_58_l1 (list : List Estimate) : Int → St
 | i => ⟨[.sl 5 (List.map Estimate_av list), .any, .int .i64 i], [], [], true⟩
def R_58_l1 (list : List Estimate) : (Unit ⊕ Bool) → Res
 | .inl y => (.exit 0, ⟨[.sl 5 (List.map Estimate_av list), .any, .any], [], [], true⟩)
 | .inr y => (.ret, ⟨[.any, .bool y, .any], [], [], true⟩)
theorem spec_l06Ok_l1_ex {list : List Estimate} {sgm_ : Int} {rho_ : Unit ⊕ Bool} (h : whileE (spec_l06Ok_l1 list) sgm_ = some rho_) : ∃ L0, ∀ L, L0 ≤ L → iter (exec (look t_58) L ir33_b0) ir33_k0 ir33_o0 ir33_r0 L (E_58_l1 list sgm_) = R_58_l1 list rho_ := by
 refine loop_ex (E := E_58_l1 list) (R := R_58_l1 list) (fun y => by first | (intro c; cases c) | (rcases y with y | y <;> (intro c; cases c)) | (rcases y with y | y | y <;> (intro c; cases c))) ?_ h
 clear h
 intro i o_ h
 dsimp only [spec_l06Ok_l1] at h
 rcases it_some h with ⟨z1, h⟩ | ⟨z1, h⟩
 ·try simp only [go_sem, n1, n2, n3, n4] at z1
  all_goals
  obtain ⟨z2, h⟩ := ck_some h
  have lz2 := ix_lt z2
  have xz2 := getD_mapD Estimate_av list lz2
  try simp only [go_sem] at lz2
  try simp only [go_sem] at xz2
  try simp only [go_sem, n1, n2, n3, n4, z1] at z2
  all_goals
  obtain ⟨y_3, z3, h⟩ := bd_some h
  have fz3 := Fs_57 z3
  try simp only [go_sem, z1, z2] at fz3
  obtain ⟨z4, h⟩ := ck_some h
  rcases or_split z4 with ⟨gz4, z4⟩ | gz4
  ·try simp only [go_sem, n1, n2, n3, n4, z1, z2] at gz4
   all_goals
   have lz4 := ix_lt z4
   have xz4 := getD_mapD Estimate_av list lz4
   try simp only [go_sem] at lz4
   try simp only [go_sem] at xz4
   try simp only [go_sem, n1, n2, n3, n4, z1, z2, gz4] at z4
   all_goals
   obtain ⟨z5, h⟩ := ck_some h
   rcases or_split z5 with ⟨gz5, z5⟩ | gz5
   ·try simp only [go_sem, n1, n2, n3, n4, z1, z2, gz4, z4] at gz5
    all_goals
    obtain ⟨y_5, hz5⟩ := Option.isSome_iff_exists.1 z5
    have fz5 := Fs_7 hz5
    try simp only [go_sem, n1, n2, n3, n4, z1, z2, gz4, z4, gz5] at hz5
    all_goals
    try simp only [go_sem, z1, z2, gz4, z4, gz5] at fz5
    rcases it_some h with ⟨z6, h⟩ | ⟨z6, h⟩
    ·try simp only [go_sem, n1, n2, n3, n4, z1, z2, gz4, z4, gz5, hz5] at z6
     all_goals
     obtain rfl := so_some h
     refine ⟨0, fun L hL => ?_⟩
     simp only [go_sem, ir33, E_58_l1, R_58_l1, ir33_b0, ir33_k0, ir33_o0, ir33_r0, z1, z2, lz2, xz2, fz3, gz4, z4, lz4, xz4, gz5, hz5, fz5, z6]
    ·try simp only [go_sem, n1, n2, n3, n4, z1, z2, gz4, z4, gz5, hz5] at z6
     all_goals
     obtain rfl := so_some h
     refine ⟨0, fun L hL => ?_⟩
     simp only [go_sem, ir33, E_58_l1, R_58_l1, ir33_b0, ir33_k0, ir33_o0, ir33_r0, z1, z2, lz2, xz2, fz3, gz4, z4, lz4, xz4, gz5, hz5, fz5, z6]
   ·rcases and_f gz5 with gz5a | ⟨gz5a, gz5b⟩
    ·try simp only [go_sem, n1, n2, n3, n4, z1, z2, gz4, z4] at gz5a
     all_goals
     (simp_all)
    ·have gz5an := no_t gz5a
     have gz5ann := no_f gz5an
     try simp only [go_sem, n1, n2, n3, n4, z1, z2, gz4, z4] at gz5ann
     all_goals
     try simp only [go_sem, n1, n2, n3, n4, z1, z2, gz4, z4, gz5ann] at gz5b
     all_goals
     rcases it_some h with ⟨z6, h⟩ | ⟨z6, h⟩
     ·try simp only [go_sem, n1, n2, n3, n4, z1, z2, gz4, z4, gz5ann, gz5b] at z6
      all_goals
      (simp_all)
     ·try simp only [go_sem, n1, n2, n3, n4, z1, z2, gz4, z4, gz5ann, gz5b] at z6
      all_goals
      obtain rfl := so_some h
      refine ⟨0, fun L hL => ?_⟩
      simp only [go_sem, ir33, E_58_l1, R_58_l1, ir33_b0, ir33_k0, ir33_o0, ir33_r0, z1, z2, lz2, xz2, fz3, gz4, z4, lz4, xz4, gz5ann, gz5b, z6]
  ·rcases and_f gz4 with gz4a | ⟨gz4a, gz4b⟩
   ·have gz4an := no_f gz4a
    have gz4ann := no_t gz4an
    try simp only [go_sem, n1, n2, n3, n4, z1, z2] at gz4ann
    all_goals
    obtain ⟨z5, h⟩ := ck_some h
    rcases it_some h with ⟨z6, h⟩ | ⟨z6, h⟩
    ·try simp only [go_sem, n1, n2, n3, n4, z1, z2, gz4ann] at z6
     all_goals
     obtain rfl := so_some h
     refine ⟨0, fun L hL => ?_⟩
     simp only [go_sem, ir33, E_58_l1, R_58_l1, ir33_b0, ir33_k0, ir33_o0, ir33_r0, z1, z2, lz2, xz2, fz3, gz4ann, z6]
    ·try simp only [go_sem, n1, n2, n3, n4, z1, z2, gz4ann] at z6
     all_goals
     (simp_all)
   ·have gz4an := no_t gz4a
    have gz4ann := no_f gz4an
    try simp only [go_sem, n1, n2, n3, n4, z1, z2] at gz4ann
    all_goals
    try simp only [go_sem, n1, n2, n3, n4, z1, z2, gz4ann] at gz4b
    all_goals
    obtain ⟨z5, h⟩ := ck_some h
    rcases it_some h with ⟨z6, h⟩ | ⟨z6, h⟩
    ·try simp only [go_sem, n1, n2, n3, n4, z1, z2, gz4ann, gz4b] at z6
     all_goals
     (simp_all)
    ·try simp only [go_sem, n1, n2, n3, n4, z1, z2, gz4ann, gz4b] at z6
     all_goals
     obtain rfl := so_some h
     refine ⟨0, fun L hL => ?_⟩
     simp only [go_sem, ir33, E_58_l1, R_58_l1, ir33_b0, ir33_k0, ir33_o0, ir33_r0, z1, z2, lz2, xz2, fz3, gz4ann, gz4b, z6]
 ·try simp only [go_sem, n1, n2, n3, n4] at z1
  all_goals
  obtain rfl := so_some h
  refine ⟨0, fun L hL => ?_⟩
  simp only [go_sem, ir33, E_58_l1, R_58_l1, ir33_b0, ir33_k0, ir33_o0, ir33_r0, z1]

theorem Fs_58 {list : List Estimate} {y_ : Bool} (h : spec_l06Ok list = some y_) : c_58.F [.sl 5 (List.map Estimate_av list)] = ⟨true, .bool y_, [.any]⟩ := by
 refine mkF_E rfl ?_
 dsimp only [spec_l06Ok] at h
 obtain ⟨y_7, z7, h⟩ := bd_some h
 obtain ⟨Lz7, ez7⟩ := spec_l06Ok_l1_ex z7
 rcases y_7 with y_7a | y_7b
 ·dsimp only at h
  obtain rfl := so_some h
  refine ⟨Lz7, fun L hL => ?_⟩
  have ez7 := ez7 L (by omega)
  try simp only [go_sem, E_58_l1, R_58_l1, ir33_k0, ir33_o0, ir33_r0] at ez7
  simp only [go_sem, ir33, E_58_l1, R_58_l1, ir33_k0, ir33_o0, ir33_r0, ez7]
 ·dsimp only at h
  obtain rfl := so_some h
  refine ⟨Lz7, fun L hL => ?_⟩
  have ez7 := ez7 L (by omega)
  try simp only [go_sem, E_58_l1, R_58_l1, ir33_k0, ir33_o0, ir33_r0] at ez7
  simp only [go_sem, ir33, E_58_l1, R_58_l1, ir33_k0, ir33_o0, ir33_r0, ez7]


def ir13_v : List Nat := [0, 2]
def ir13 : AFn := ⟨1, 2, .seq (.region false [ VO 1 2 (.mov (.c (.bool false)))]) (.seq (.region false [ PM 3 0, PO 4 (.call 33 [(.s 0)]), VS 1 2 0]) (.ret)), [.t 1]⟩
noncomputable def t_59 : List (Nat × Ctr) := [(33, c_58)]
theorem lk_59_33 : look t_59 33 = some c_58 := rfl
noncomputable def c_59 : Ctr := mkF t_59 ir13 [.bor]
theorem s_59 : Sound Tryz.prog 13 c_59 := mkF_sound _ rfl (snd_cons s_58 snd_nil) (by kernel_rfl : chkFn Tryz.prog 13 ir13 ir13_v = true)
theorem M_59 : c_59.modes = [.bor] := rfl
theorem Fl_59 : c_59.flat = true := rfl
attribute [go_sem] M_59 Fl_59
attribute [go_sem] lk_59_33
theorem Fs_59 {list : List Estimate} {y_ : Bool} (h : spec_ValidEstimates list = some y_) : c_59.F [.sl 5 (List.map Estimate_av list)] = ⟨true, .bool y_, [.any]⟩ := by
 refine mkF_E rfl ?_
 dsimp only [spec_ValidEstimates] at h
 obtain ⟨y_1, z1, h⟩ := bd_some h
 have fz1 := Fs_58 z1
 try simp only [go_sem] at fz1
 obtain rfl := so_some h
 refine ⟨0, fun L hL => ?_⟩
 simp only [go_sem, ir13, fz1]


def ir3_v : List Nat := [0, 1, 4, 5, 6, 7, 8, 9, 10, 11, 12, 13, 14, 15]
def ir3 : AFn := ⟨2, 14, .seq (.region false [ VO 2 4 (.mov (.c (.bool false)))]) (.seq (.test false [ PM 16 0, PM 17 1, PO 18 (.call 4 [(.s 1), (.s 0)])] (.s 0) (.seq (.region false [ VO 2 4 (.mov (.c (.bool true)))]) (.ret)) (.skip)) (.seq (.region false [ PM 19 0, PO 20 (.call 5 [(.s 0)]), VS 3 5 0]) (.seq (.region false [ PM 21 1, PO 22 (.call 6 [(.s 0)]), VO 4 6 (.alloc (.agg [.int .i64 (0), .str [], .str [], .int .i64 (0), .bool false])), ⟨.no, 0, none, .store 5 (.v 4) (.s 0)⟩]) (.seq (.region false [ PM 24 3, PM 25 3, PO 26 (.call 7 [(.s 1), (.s 0)]), PO 23 (.mov (.s 0)), PO 27 (.ext (.s
 0) 0), PO 28 (.ext (.s 1) 1), VS 5 7 1, VS 6 8 0]) (.seq (.test false [ PM 29 6, PO 30 (.bin false .neq (.s 0) (I6 0)), PO 31 (.mov (.s 0)), ⟨.push, 32, (some ((.s 0), false)), .mov (.v 5)⟩, ⟨.push, 33, (some ((.s 1), false)), .mov (.v 3)⟩, ⟨.push, 34, (some ((.s 2), false)), .call 8 [(.s 1), (.s 0)]⟩, ⟨.push, 35, (some ((.s 3), false)), .un .not (.s 0)⟩, PO 36 (.pick (.s 4) (.c (.bool true)) (.s 0)), PO 37 (.mov (.s 0)), ⟨.push, 38, (some ((.s 0), false)), .mov (.v 5)⟩, ⟨.push, 39, (some ((.s 1), false)), .mov (.v 3)⟩, ⟨.push, 40, (some ((.s 2), false)), .call 9 [(.s 1), (.s 0)]⟩, ⟨.push, 41,
 (some ((.s 3), false)), .un .not (.s 0)⟩, PO 42 (.pick (.s 4) (.c (.bool true)) (.s 0))] (.s 0) (.seq (.region false [ VO 2 4 (.mov (.c (.bool false)))]) (.ret)) (.skip)) (.seq (.region false [ PM 43 3, PO 44 (.call 10 [(.s 0)]), VS 7 9 0]) (.seq (.region false [ PM 46 7, PO 47 (.call 11 [(.s 0)]), PO 45 (.mov (.s 0)), PO 48 (.ext (.s 0) 0), PO 49 (.ext (.s 1) 1), VS 8 10 1, VS 9 11 0]) (.seq (.test false [ PM 50 9, PO 51 (.un .not (.s 0)), PO 52 (.mov (.s 0)), ⟨.push, 53, (some ((.s 0), false)), .mov (.v 8)⟩, ⟨.push, 54, (some ((.s 1), false)), .mov (.v 3)⟩, ⟨.push, 55, (some ((.s 2),
 false)), .call 8 [(.s 1), (.s 0)]⟩, ⟨.push, 56, (some ((.s 3), false)), .un .not (.s 0)⟩, PO 57 (.pick (.s 4) (.c (.bool true)) (.s 0))] (.s 0) (.seq (.region false [ VO 2 4 (.mov (.c (.bool false)))]) (.ret)) (.skip)) (.seq (.region false [ PM 59 3, PO 60 (.load true 5 (.v 4)), PO 61 (.call 12 [(.s 1), (.s 0)]), PO 58 (.mov (.s 0)), PO 62 (.ext (.s 0) 0), PO 63 (.ext (.s 1) 1), VS 10 12 1, VS 11 13 0]) (.seq (.test false [ PM 64 11, PO 65 (.bin false .neq (.s 0) (I6 0))] (.s 0) (.seq (.region false [ PM 66 11, PO 67 (.bin false .eql (.s 0) (I6 4)), VS 2 4 0]) (.ret)) (.skip)) (.seq (.region
 false [ PM 69 3, PO 70 (.load true 5 (.v 4)), PO 71 (.mkSl 5 (.agg [.int .i64 (0), .str [], .str [], .int .i64 (0), .bool false]) 1 [(0, (.s 0))]), PO 72 (.call 7 [(.s 2), (.s 0)]), PO 68 (.mov (.s 0)), PO 73 (.ext (.s 0) 0), PO 74 (.ext (.s 1) 1), VS 12 14 1, VS 13 15 0]) (.seq (.region false [ PM 75 10, PO 76 (.call 13 [(.s 0)]), PO 77 (.mov (.s 0)), ⟨.push, 78, (some ((.s 0), true)), .mov (.v 10)⟩, ⟨.push, 79, (some ((.s 1), true)), .call 14 [(.s 0)]⟩, PO 80 (.pick (.s 2) (.s 0) (.c (.bool false))), PO 81 (.mov (.s 0)), ⟨.push, 82, (some ((.s 0), true)), .mov (.v 10)⟩, ⟨.push, 83, (some
 ((.s 1), true)), .len false (.s 0)⟩, ⟨.push, 84, (some ((.s 2), true)), .mov (.v 3)⟩, ⟨.push, 85, (some ((.s 3), true)), .len false (.s 0)⟩, ⟨.push, 86, (some ((.s 4), true)), .bin false .add (.s 0) (I6 1)⟩, ⟨.push, 87, (some ((.s 5), true)), .bin false .eql (.s 3) (.s 0)⟩, PO 88 (.pick (.s 6) (.s 0) (.c (.bool false))), PO 89 (.mov (.s 0)), ⟨.push, 90, (some ((.s 0), true)), .mov (.v 13)⟩, ⟨.push, 91, (some ((.s 1), true)), .bin false .eql (.s 0) (I6 0)⟩, PO 92 (.pick (.s 2) (.s 0) (.c (.bool false))), PO 93 (.mov (.s 0)), ⟨.push, 94, (some ((.s 0), true)), .mov (.v 12)⟩, ⟨.push, 95, (some
 ((.s 1), true)), .mov (.v 10)⟩, ⟨.push, 96, (some ((.s 2), true)), .call 8 [(.s 1), (.s 0)]⟩, PO 97 (.pick (.s 3) (.s 0) (.c (.bool false))), VS 2 4 0]) (.ret))))))))))))), [.t 2]⟩
noncomputable def t_laws_FnRecords : List (Nat × Ctr) := [(4, c_0), (5, c_11), (6, c_12), (7, c_29), (8, c_30), (9, c_32), (10, c_impl_EstimatesText), (11, c_49), (12, c_50), (13, c_59), (14, c_25)]
theorem lk_laws_FnRecords_4 : look t_laws_FnRecords 4 = some c_0 := rfl
theorem lk_laws_FnRecords_5 : look t_laws_FnRecords 5 = some c_11 := rfl
theorem lk_laws_FnRecords_6 : look t_laws_FnRecords 6 = some c_12 := rfl
theorem lk_laws_FnRecords_7 : look t_laws_FnRecords 7 = some c_29 := rfl
theorem lk_laws_FnRecords_8 : look t_laws_FnRecords 8 = some c_30 := rfl
theorem lk_laws_FnRecords_9 : look t_laws_FnRecords 9 = some c_32 := rfl
theorem lk_laws_FnRecords_10 : look t_laws_FnRecords 10 = some c_impl_EstimatesText := rfl
theorem lk_laws_FnRecords_11 : look t_laws_FnRecords 11 = some c_49 := rfl
theorem lk_laws_FnRecords_12 : look t_laws_FnRecords 12 = some c_50 := rfl
theorem lk_laws_FnRecords_13 : look t_laws_FnRecords 13 = some c_59 := rfl
theorem lk_laws_FnRecords_14 : look t_laws_FnRecords 14 = some c_25 := rfl
noncomputable def c_laws_FnRecords : Ctr := mkF t_laws_FnRecords ir3 [.bor, .bor]
theorem s_laws_FnRecords : Sound Tryz.prog 3 c_laws_FnRecords := mkF_sound _ rfl (snd_cons s_0 (snd_cons s_11 (snd_cons s_12 (snd_cons s_29 (snd_cons s_30 (snd_cons s_32 (snd_cons s_impl_EstimatesText (snd_cons s_49 (snd_cons s_50 (snd_cons s_59 (snd_cons s_25 snd_nil))))))))))) (by kernel_rfl : chkFn Tryz.prog 3 ir3 ir3_v = true)
theorem M_laws_FnRecords : c_laws_FnRecords.modes = [.bor, .bor] := rfl
theorem Fl_laws_FnRecords : c_laws_FnRecords.flat = true := rfl
attribute [go_sem] M_laws_FnRecords Fl_laws_FnRecords
attribute [go_sem] lk_laws_FnRecords_4 lk_laws_FnRecords_5 lk_laws_FnRecords_6 lk_laws_FnRecords_7 lk_laws_FnRecords_8 lk_laws_FnRecords_9 lk_laws_FnRecords_10 lk_laws_FnRecords_11 lk_laws_FnRecords_12 lk_laws_FnRecords_13 lk_laws_FnRecords_14
set_option maxHeartbeats 64000000 in
theorem Fs_laws_FnRecords {code : List UInt8} {more : List UInt8} {y_ : Bool} (h : laws_FnRecords code more = some y_) : c_laws_FnRecords.F [.sl 1 (List.map byteAV code), .sl 1 (List.map byteAV more)] = ⟨true, .bool y_, [.any, .any]⟩ := by
 refine mkF_E rfl ?_
 dsimp only [laws_FnRecords] at h
 obtain ⟨y_1, z1, h⟩ := bd_some h
 have fz1 := Fs_0 z1
 try simp only [go_sem] at fz1
 rcases it_some h with ⟨z2, h⟩ | ⟨z2, h⟩
 ·try simp only [go_sem, n1, n2, n3, n4] at z2
  all_goals
  obtain rfl := so_some h
  refine ⟨0, fun L hL => ?_⟩
  simp only [go_sem, ir3, fz1, z2]
 ·try simp only [go_sem, n1, n2, n3, n4] at z2
  all_goals
  obtain ⟨y_3, z3, h⟩ := bd_some h
  have fz3 := Fs_11 z3
  try simp only [go_sem, z2] at fz3
  obtain ⟨y_4, z4, h⟩ := bd_some h
  have fz4 := Fs_12 z4
  try simp only [go_sem, z2] at fz4
  obtain ⟨y_5, z5, h⟩ := bd_some h
  have fz5 := Fs_29 z5
  try simp only [go_sem, z2] at fz5
  obtain ⟨z6, h⟩ := ck_some h
  rcases or_split z6 with ⟨gz6, z6⟩ | gz6
  ·try simp only [go_sem, n1, n2, n3, n4, z2] at gz6
   all_goals
   obtain ⟨y_6, hz6⟩ := Option.isSome_iff_exists.1 z6
   have fz6 := Fs_30 hz6
   try simp only [go_sem, n1, n2, n3, n4, z2, gz6] at hz6
   all_goals
   try simp only [go_sem, z2, gz6] at fz6
   obtain ⟨z7, h⟩ := ck_some h
   rcases or_split z7 with ⟨gz7, z7⟩ | gz7
   ·try simp only [go_sem, n1, n2, n3, n4, z2, gz6, hz6] at gz7
    all_goals
    obtain ⟨y_7, hz7⟩ := Option.isSome_iff_exists.1 z7
    have fz7 := Fs_32 hz7
    try simp only [go_sem, n1, n2, n3, n4, z2, gz6, hz6, gz7] at hz7
    all_goals
    try simp only [go_sem, z2, gz6, hz6, gz7] at fz7
    rcases it_some h with ⟨z8, h⟩ | ⟨z8, h⟩
    ·try simp only [go_sem, n1, n2, n3, n4, z2, gz6, hz6, gz7, hz7] at z8
     all_goals
     obtain rfl := so_some h
     refine ⟨0, fun L hL => ?_⟩
     simp only [go_sem, ir3, fz1, z2, fz3, fz4, fz5, gz6, hz6, fz6, gz7, hz7, fz7, z8]
    ·try simp only [go_sem, n1, n2, n3, n4, z2, gz6, hz6, gz7, hz7] at z8
     all_goals
     obtain ⟨y_9, z9, h⟩ := bd_some h
     have fz9 := Fs_impl_EstimatesText z9
     try simp only [go_sem, z2, gz6, hz6, gz7, hz7, z8] at fz9
     obtain ⟨y_10, z10, h⟩ := bd_some h
     have fz10 := Fs_49 z10
     try simp only [go_sem, z2, gz6, hz6, gz7, hz7, z8] at fz10
     obtain ⟨z11, h⟩ := ck_some h
     rcases or_split z11 with ⟨gz11, z11⟩ | gz11
     ·try simp only [go_sem, n1, n2, n3, n4, z2, gz6, hz6, gz7, hz7, z8] at gz11
      all_goals
      obtain ⟨y_11, hz11⟩ := Option.isSome_iff_exists.1 z11
      have fz11 := Fs_30 hz11
      try simp only [go_sem, n1, n2, n3, n4, z2, gz6, hz6, gz7, hz7, z8, gz11] at hz11
      all_goals
      try simp only [go_sem, z2, gz6, hz6, gz7, hz7, z8, gz11] at fz11
      rcases it_some h with ⟨z12, h⟩ | ⟨z12, h⟩
      ·try simp only [go_sem, n1, n2, n3, n4, z2, gz6, hz6, gz7, hz7, z8, gz11, hz11] at z12
       all_goals
       obtain rfl := so_some h
       refine ⟨0, fun L hL => ?_⟩
       simp only [go_sem, ir3, fz1, z2, fz3, fz4, fz5, gz6, hz6, fz6, gz7, hz7, fz7, z8, fz9, fz10, gz11, hz11, fz11, z12]
      ·try simp only [go_sem, n1, n2, n3, n4, z2, gz6, hz6, gz7, hz7, z8, gz11, hz11] at z12
       all_goals
       obtain ⟨y_13, z13, h⟩ := bd_some h
       have fz13 := Fs_50 z13
       try simp only [go_sem, z2, gz6, hz6, gz7, hz7, z8, gz11, hz11, z12] at fz13
       rcases it_some h with ⟨z14, h⟩ | ⟨z14, h⟩
       ·try simp only [go_sem, n1, n2, n3, n4, z2, gz6, hz6, gz7, hz7, z8, gz11, hz11, z12] at z14
        all_goals
        obtain rfl := so_some h
        refine ⟨0, fun L hL => ?_⟩
        simp only [go_sem, ir3, fz1, z2, fz3, fz4, fz5, gz6, hz6, fz6, gz7, hz7, fz7, z8, fz9, fz10, gz11, hz11, fz11, z12, fz13, z14]
       ·try simp only [go_sem, n1, n2, n3, n4, z2, gz6, hz6, gz7, hz7, z8, gz11, hz11, z12] at z14
        all_goals
        obtain ⟨y_15, z15, h⟩ := bd_some h
        have fz15 := Fs_29 z15
        try simp only [go_sem, z2, gz6, hz6, gz7, hz7, z8, gz11, hz11, z12, z14] at fz15
        obtain ⟨y_16, z16, h⟩ := bd_some h
        have fz16 := Fs_59 z16
        try simp only [go_sem, z2, gz6, hz6, gz7, hz7, z8, gz11, hz11, z12, z14] at fz16
        obtain ⟨z17, h⟩ := ck_some h
        rcases or_split z17 with ⟨gz17, z17⟩ | gz17
        ·try simp only [go_sem, n1, n2, n3, n4, z2, gz6, hz6, gz7, hz7, z8, gz11, hz11, z12, z14] at gz17
         all_goals
         obtain ⟨y_17, hz17⟩ := Option.isSome_iff_exists.1 z17
         have fz17 := Fs_25 hz17
         try simp only [go_sem, n1, n2, n3, n4, z2, gz6, hz6, gz7, hz7, z8, gz11, hz11, z12, z14, gz17] at hz17
         all_goals
         try simp only [go_sem, z2, gz6, hz6, gz7, hz7, z8, gz11, hz11, z12, z14, gz17] at fz17
         obtain ⟨z18, h⟩ := ck_some h
         rcases or_split z18 with ⟨gz18, z18⟩ | gz18
         ·try simp only [go_sem, n1, n2, n3, n4, z2, gz6, hz6, gz7, hz7, z8, gz11, hz11, z12, z14, gz17, hz17] at gz18
          all_goals
          obtain ⟨y_18, hz18⟩ := Option.isSome_iff_exists.1 z18
          have fz18 := Fs_30 hz18
          try simp only [go_sem, n1, n2, n3, n4, z2, gz6, hz6, gz7, hz7, z8, gz11, hz11, z12, z14, gz17, hz17, gz18] at hz18
          all_goals
          try simp only [go_sem, z2, gz6, hz6, gz7, hz7, z8, gz11, hz11, z12, z14, gz17, hz17, gz18] at fz18
          obtain rfl := so_some h
          refine ⟨0, fun L hL => ?_⟩
          simp only [go_sem, ir3, fz1, z2, fz3, fz4, fz5, gz6, hz6, fz6, gz7, hz7, fz7, z8, fz9, fz10, gz11, hz11, fz11, z12, fz13, z14, fz15, fz16, gz17, hz17, fz17, gz18, hz18, fz18]
         ·rcases and_f gz18 with gz18a | ⟨gz18a, gz18b⟩
          ·rcases and_f gz18a with gz18aa | ⟨gz18aa, gz18ab⟩
           ·rcases and_f gz18aa with gz18aaa | ⟨gz18aaa, gz18aab⟩
            ·try simp only [go_sem, n1, n2, n3, n4, z2, gz6, hz6, gz7, hz7, z8, gz11, hz11, z12, z14, gz17, hz17] at gz18aaa
             all_goals
             (simp_all)
            ·try simp only [go_sem, n1, n2, n3, n4, z2, gz6, hz6, gz7, hz7, z8, gz11, hz11, z12, z14, gz17, hz17] at gz18aaa
             all_goals
             try simp only [go_sem, n1, n2, n3, n4, z2, gz6, hz6, gz7, hz7, z8, gz11, hz11, z12, z14, gz17, hz17, gz18aaa] at gz18aab
             all_goals
             obtain rfl := so_some h
             refine ⟨0, fun L hL => ?_⟩
             simp only [go_sem, ir3, fz1, z2, fz3, fz4, fz5, gz6, hz6, fz6, gz7, hz7, fz7, z8, fz9, fz10, gz11, hz11, fz11, z12, fz13, z14, fz15, fz16, gz17, hz17, fz17, gz18aaa, gz18aab]
           ·obtain ⟨gz18aaa, gz18aab⟩ := and_t gz18aa
            try simp only [go_sem, n1, n2, n3, n4, z2, gz6, hz6, gz7, hz7, z8, gz11, hz11, z12, z14, gz17, hz17] at gz18aaa
            all_goals
            try simp only [go_sem, n1, n2, n3, n4, z2, gz6, hz6, gz7, hz7, z8, gz11, hz11, z12, z14, gz17, hz17, gz18aaa] at gz18aab
            all_goals
            try simp only [go_sem, n1, n2, n3, n4, z2, gz6, hz6, gz7, hz7, z8, gz11, hz11, z12, z14, gz17, hz17, gz18aaa, gz18aab] at gz18ab
            all_goals
            obtain rfl := so_some h
            refine ⟨0, fun L hL => ?_⟩
            simp only [go_sem, ir3, fz1, z2, fz3, fz4, fz5, gz6, hz6, fz6, gz7, hz7, fz7, z8, fz9, fz10, gz11, hz11, fz11, z12, fz13, z14, fz15, fz16, gz17, hz17, fz17, gz18aaa, gz18aab, gz18ab]
          ·obtain ⟨gz18aa, gz18ab⟩ := and_t gz18a
           obtain ⟨gz18aaa, gz18aab⟩ := and_t gz18aa
           try simp only [go_sem, n1, n2, n3, n4, z2, gz6, hz6, gz7, hz7, z8, gz11, hz11, z12, z14, gz17, hz17] at gz18aaa
           all_goals
           try simp only [go_sem, n1, n2, n3, n4, z2, gz6, hz6, gz7, hz7, z8, gz11, hz11, z12, z14, gz17, hz17, gz18aaa] at gz18aab
           all_goals
           try simp only [go_sem, n1, n2, n3, n4, z2, gz6, hz6, gz7, hz7, z8, gz11, hz11, z12, z14, gz17, hz17, gz18aaa, gz18aab] at gz18ab
           all_goals
           try simp only [go_sem, n1, n2, n3, n4, z2, gz6, hz6, gz7, hz7, z8, gz11, hz11, z12, z14, gz17, hz17, gz18aaa, gz18aab, gz18ab] at gz18b
           all_goals
           obtain rfl := so_some h
           refine ⟨0, fun L hL => ?_⟩
           simp only [go_sem, ir3, fz1, z2, fz3, fz4, fz5, gz6, hz6, fz6, gz7, hz7, fz7, z8, fz9, fz10, gz11, hz11, fz11, z12, fz13, z14, fz15, fz16, gz17, hz17, fz17, gz18aaa, gz18aab, gz18ab, gz18b]
        ·try simp only [go_sem, n1, n2, n3, n4, z2, gz6, hz6, gz7, hz7, z8, gz11, hz11, z12, z14] at gz17
         all_goals
         obtain ⟨z18, h⟩ := ck_some h
         obtain rfl := so_some h
         refine ⟨0, fun L hL => ?_⟩
         simp only [go_sem, ir3, fz1, z2, fz3, fz4, fz5, gz6, hz6, fz6, gz7, hz7, fz7, z8, fz9, fz10, gz11, hz11, fz11, z12, fz13, z14, fz15, fz16, gz17]
     ·have gz11n := no_f gz11
      have gz11nn := no_t gz11n
      try simp only [go_sem, n1, n2, n3, n4, z2, gz6, hz6, gz7, hz7, z8] at gz11nn
      all_goals
      rcases it_some h with ⟨z12, h⟩ | ⟨z12, h⟩
      ·try simp only [go_sem, n1, n2, n3, n4, z2, gz6, hz6, gz7, hz7, z8, gz11nn] at z12
       all_goals
       obtain rfl := so_some h
       refine ⟨0, fun L hL => ?_⟩
       simp only [go_sem, ir3, fz1, z2, fz3, fz4, fz5, gz6, hz6, fz6, gz7, hz7, fz7, z8, fz9, fz10, gz11nn, z12]
      ·try simp only [go_sem, n1, n2, n3, n4, z2, gz6, hz6, gz7, hz7, z8, gz11nn] at z12
       all_goals
       (simp_all)
   ·have gz7n := no_f gz7
    rcases or_t gz7n with gz7na | ⟨gz7na, gz7nb⟩
    ·try simp only [go_sem, n1, n2, n3, n4, z2, gz6, hz6] at gz7na
     all_goals
     (simp_all)
    ·have gz7nan := no_f gz7na
     have gz7nbn := no_t gz7nb
     try simp only [go_sem, n1, n2, n3, n4, z2, gz6, hz6] at gz7nan
     all_goals
     try simp only [go_sem, n1, n2, n3, n4, z2, gz6, hz6, gz7nan] at gz7nbn
     all_goals
     rcases it_some h with ⟨z8, h⟩ | ⟨z8, h⟩
     ·try simp only [go_sem, n1, n2, n3, n4, z2, gz6, hz6, gz7nan, gz7nbn] at z8
      all_goals
      obtain rfl := so_some h
      refine ⟨0, fun L hL => ?_⟩
      simp only [go_sem, ir3, fz1, z2, fz3, fz4, fz5, gz6, hz6, fz6, gz7nan, gz7nbn, z8]
     ·try simp only [go_sem, n1, n2, n3, n4, z2, gz6, hz6, gz7nan, gz7nbn] at z8
      all_goals
      (simp_all)
  ·have gz6n := no_f gz6
   have gz6nn := no_t gz6n
   try simp only [go_sem, n1, n2, n3, n4, z2] at gz6nn
   all_goals
   obtain ⟨z7, h⟩ := ck_some h
   rcases it_some h with ⟨z8, h⟩ | ⟨z8, h⟩
   ·try simp only [go_sem, n1, n2, n3, n4, z2, gz6nn] at z8
    all_goals
    obtain rfl := so_some h
    refine ⟨0, fun L hL => ?_⟩
    simp only [go_sem, ir3, fz1, z2, fz3, fz4, fz5, gz6nn, z8]
   ·try simp only [go_sem, n1, n2, n3, n4, z2, gz6nn] at z8
    all_goals
    (simp_all)


end Go.Proofs.YtpnomhinhcochaaGreatDoor
