/- Codes and contracts of the functions that CA reaches, and that their typed forms say what they do. No condition. -/
import Derived.Test.YtfmhpfmibopkeaaDoorCAT
import Derived.Test.YtfmhpfmibopkeaaDoorEngInsStar
import Derived.Test.YtfmhpfmibopkeaaDoorEngSF
import Derived.Test.YtfmhpfmibopkeaaDoorEngSJ
import Derived.Test.YtfmhpfmibopkeaaDoorRows
import Derived.WalkKit
namespace Go.Proofs.YtfmhpfmibopkeaaDoor
open Go Go.RowKit
set_option linter.unusedVariables false
set_option linter.unusedSimpArgs false
set_option maxRecDepth 10000

def ir66_v : List Nat := [0, 2]
def ir66 : AFn := ⟨1, 2, .seq (.region false [ VO 1 2 (.mov (.c (.bool false)))]) (.seq (.region false [ PM 3 0, PO 4 (.bin false .geq (.s 0) (.c (.int .u8 (97)))), PO 5 (.mov (.s 0)), ⟨.push, 6, (some ((.s 0), true)), .mov (.v 0)⟩, ⟨.push, 7, (some ((.s 1), true)), .bin false .leq (.s 0) (.c (.int .u8 (122)))⟩, PO 8 (.pick (.s 2) (.s 0) (.c (.bool false))), VS 1 2 0]) (.ret)), [.t 1]⟩
noncomputable def t_0 : List (Nat × Ctr) := []
noncomputable def c_0 : Ctr := mkF t_0 ir66 [.bor]
theorem s_0 : Sound Tryd.prog 66 c_0 := mkF_sound _ rfl snd_nil (by kernel_rfl : chkFn Tryd.prog 66 ir66 ir66_v = true)
theorem M_0 : c_0.modes = [.bor] := rfl
theorem Fl_0 : c_0.flat = true := rfl
attribute [go_sem] M_0 Fl_0
theorem Fs_0 {c : UInt8} {y_ : Bool} (h : spec_l01Small c = some y_) : c_0.F [.int .u8 (c.toNat : Int)] = ⟨true, .bool y_, [.any]⟩ := by
 refine mkF_E rfl ?_
 dsimp only [spec_l01Small] at h
 obtain rfl := so_some h
 refine ⟨0, fun L hL => ?_⟩
 simp only [go_sem, ir66]


def ir67_v : List Nat := [0, 2]
def ir67 : AFn := ⟨1, 2, .seq (.region false [ VO 1 2 (.mov (.c (.bool false)))]) (.seq (.region false [ PM 3 0, PO 4 (.bin false .geq (.s 0) (.c (.int .u8 (48)))), PO 5 (.mov (.s 0)), ⟨.push, 6, (some ((.s 0), true)), .mov (.v 0)⟩, ⟨.push, 7, (some ((.s 1), true)), .bin false .leq (.s 0) (.c (.int .u8 (57)))⟩, PO 8 (.pick (.s 2) (.s 0) (.c (.bool false))), VS 1 2 0]) (.ret)), [.t 1]⟩
noncomputable def t_1 : List (Nat × Ctr) := []
noncomputable def c_1 : Ctr := mkF t_1 ir67 [.bor]
theorem s_1 : Sound Tryd.prog 67 c_1 := mkF_sound _ rfl snd_nil (by kernel_rfl : chkFn Tryd.prog 67 ir67 ir67_v = true)
theorem M_1 : c_1.modes = [.bor] := rfl
theorem Fl_1 : c_1.flat = true := rfl
attribute [go_sem] M_1 Fl_1
theorem Fs_1 {c : UInt8} {y_ : Bool} (h : spec_l01Digit c = some y_) : c_1.F [.int .u8 (c.toNat : Int)] = ⟨true, .bool y_, [.any]⟩ := by
 refine mkF_E rfl ?_
 dsimp only [spec_l01Digit] at h
 obtain rfl := so_some h
 refine ⟨0, fun L hL => ?_⟩
 simp only [go_sem, ir67]


def ir56_b0 : IR := .seq (.test false [ PM 17 2, PM 18 0, PO 19 (.len true (.s 0)), PO 20 (.bin false .lss (.s 2) (.s 0))] (.s 0) (.skip) (.exit 0)) (.seq (.block 1 (.test false [ PM 23 0, PM 24 2, PO 25 (.ixStr (.s 1) (.s 0)), PO 26 (.call 66 [(.s 0)]), PO 27 (.un .not (.s 0)), PO 28 (.mov (.s 0)), ⟨.push, 29, (some ((.s 0), true)), .mov (.v 0)⟩, ⟨.push, 30, (some ((.s 1), true)), .mov (.v 2)⟩, ⟨.push, 31, (some ((.s 2), true)), .ixStr (.s 1) (.s 0)⟩, ⟨.push, 32, (some ((.s 3), true)), .call 67 [(.s 0)]⟩, ⟨.push, 33, (some ((.s 4), true)), .un .not (.s 0)⟩, PO 34 (.pick (.s 5) (.s 0) (.c
 (.bool false))), PO 35 (.mov (.s 0)), ⟨.push, 36, (some ((.s 0), true)), .mov (.v 0)⟩, ⟨.push, 37, (some ((.s 1), true)), .mov (.v 2)⟩, ⟨.push, 38, (some ((.s 2), true)), .ixStr (.s 1) (.s 0)⟩, ⟨.push, 39, (some ((.s 3), true)), .bin false .neq (.s 0) (.c (.int .u8 (45)))⟩, PO 40 (.pick (.s 4) (.s 0) (.c (.bool false)))] (.s 0) (.seq (.region false [ VO 1 2 (.mov (.c (.bool false)))]) (.ret)) (.skip))) (.region false [ PM 21 2, PO 22 (.bin false .add (.s 0) (I6 1)), VS 2 3 0]))
def ir56_k0 : List Bool := [true, false, true]
def ir56_o0 : List Bool := [false, false, false]
def ir56_r0 : List Bool := [false, true, false]
def ir56_v : List Nat := [0, 2, 3]
def ir56 : AFn := ⟨1, 3, .seq (.region false [ VO 1 2 (.mov (.c (.bool false)))]) (.seq (.test false [ PM 4 0, PO 5 (.bin false .eql (.s 0) (.c (.str []))), PO 6 (.mov (.s 0)), ⟨.push, 7, (some ((.s 0), false)), .mov (.v 0)⟩, ⟨.push, 8, (some ((.s 1), false)), .len true (.s 0)⟩, ⟨.push, 9, (some ((.s 2), false)), .bin false .gtr (.s 0) (I6 12)⟩, PO 10 (.pick (.s 3) (.c (.bool true)) (.s 0)), PO 11 (.mov (.s 0)), ⟨.push, 12, (some ((.s 0), false)), .mov (.v 0)⟩, ⟨.push, 13, (some ((.s 1), false)), .ixStr (.s 0) (I6 0)⟩, ⟨.push, 14, (some ((.s 2), false)), .call 66 [(.s 0)]⟩, ⟨.push, 15, (some
 ((.s 3), false)), .un .not (.s 0)⟩, PO 16 (.pick (.s 4) (.c (.bool true)) (.s 0))] (.s 0) (.seq (.region false [ VO 1 2 (.mov (.c (.bool false)))]) (.ret)) (.skip)) (.seq (.seq (.region false [ VO 2 3 (.mov (I6 0))]) (.block 0 (.loop ir56_k0 ir56_o0 ir56_r0 ir56_b0))) (.seq (.region false [ VO 1 2 (.mov (.c (.bool true)))]) (.ret)))), [.t 1]⟩
noncomputable def t_2 : List (Nat × Ctr) := [(66, c_0), (67, c_1)]
theorem lk_2_66 : look t_2 66 = some c_0 := rfl
theorem lk_2_67 : look t_2 67 = some c_1 := rfl
noncomputable def c_2 : Ctr := mkF t_2 ir56 [.bor]
theorem s_2 : Sound Tryd.prog 56 c_2 := mkF_sound _ rfl (snd_cons s_0 (snd_cons s_1 snd_nil)) (by kernel_rfl : chkFn Tryd.prog 56 ir56 ir56_v = true)
theorem M_2 : c_2.modes = [.bor] := rfl
theorem Fl_2 : c_2.flat = true := rfl
attribute [go_sem] M_2 Fl_2
attribute [go_sem] lk_2_66 lk_2_67
def E_2_l1 (s_ : List UInt8) : Int → St
 | i => ⟨[.str s_, .any, .int .i64 i], [], [], true⟩
def R_2_l1 (s_ : List UInt8) : (Unit ⊕ Bool) → Res
 | .inl y => (.exit 0, ⟨[.any, .any, .any], [], [], true⟩)
 | .inr y => (.ret, ⟨[.any, .bool y, .any], [], [], true⟩)
theorem spec_IsName_l1_ex {s_ : List UInt8} {sgm_ : Int} {rho_ : Unit ⊕ Bool} (h : whileE (spec_IsName_l1 s_) sgm_ = some rho_) : ∃ L0, ∀ L, L0 ≤ L → iter (exec (look t_2) L ir56_b0) ir56_k0 ir56_o0 ir56_r0 L (E_2_l1 s_ sgm_) = R_2_l1 s_ rho_ := by
 refine loop_ex (E := E_2_l1 s_) (R := R_2_l1 s_) (fun y => by first | (intro c; cases c) | (rcases y with y | y <;> (intro c; cases c)) | (rcases y with y | y | y <;> (intro c; cases c))) ?_ h
 clear h
 intro i o_ h
 dsimp only [spec_IsName_l1] at h
 rcases it_some h with ⟨z4, h⟩ | ⟨z4, h⟩
 ·try simp only [go_sem, n1, n2, n3, n4] at z4
  all_goals
  obtain ⟨z5, h⟩ := ck_some h
  try simp only [go_sem, n1, n2, n3, n4, z4] at z5
  all_goals
  obtain ⟨y_6, z6, h⟩ := bd_some h
  have fz6 := Fs_0 z6
  try simp only [go_sem, z4, z5] at fz6
  obtain ⟨z7, h⟩ := ck_some h
  rcases or_split z7 with ⟨gz7, z7⟩ | gz7
  ·try simp only [go_sem, n1, n2, n3, n4, z4, z5] at gz7
   all_goals
   obtain ⟨y_7, hz7⟩ := Option.isSome_iff_exists.1 z7
   have fz7 := Fs_1 hz7
   try simp only [go_sem, n1, n2, n3, n4, z4, z5, gz7] at hz7
   all_goals
   try simp only [go_sem, z4, z5, gz7] at fz7
   rcases it_some h with ⟨z8, h⟩ | ⟨z8, h⟩
   ·try simp only [go_sem, n1, n2, n3, n4, z4, z5, gz7, hz7] at z8
    all_goals
    obtain rfl := so_some h
    refine ⟨0, fun L hL => ?_⟩
    simp only [go_sem, ir56, E_2_l1, R_2_l1, ir56_b0, ir56_k0, ir56_o0, ir56_r0, z4, z5, fz6, gz7, hz7, fz7, z8]
   ·try simp only [go_sem, n1, n2, n3, n4, z4, z5, gz7, hz7] at z8
    all_goals
    obtain rfl := so_some h
    refine ⟨0, fun L hL => ?_⟩
    simp only [go_sem, ir56, E_2_l1, R_2_l1, ir56_b0, ir56_k0, ir56_o0, ir56_r0, z4, z5, fz6, gz7, hz7, fz7, z8]
  ·have gz7n := no_f gz7
   try simp only [go_sem, n1, n2, n3, n4, z4, z5] at gz7n
   all_goals
   rcases it_some h with ⟨z8, h⟩ | ⟨z8, h⟩
   ·try simp only [go_sem, n1, n2, n3, n4, z4, z5, gz7n] at z8
    all_goals
    (simp_all)
   ·try simp only [go_sem, n1, n2, n3, n4, z4, z5, gz7n] at z8
    all_goals
    obtain rfl := so_some h
    refine ⟨0, fun L hL => ?_⟩
    simp only [go_sem, ir56, E_2_l1, R_2_l1, ir56_b0, ir56_k0, ir56_o0, ir56_r0, z4, z5, fz6, gz7n, z8]
 ·try simp only [go_sem, n1, n2, n3, n4] at z4
  all_goals
  obtain rfl := so_some h
  refine ⟨0, fun L hL => ?_⟩
  simp only [go_sem, ir56, E_2_l1, R_2_l1, ir56_b0, ir56_k0, ir56_o0, ir56_r0, z4]

theorem Fs_2 {s_ : List UInt8} {y_ : Bool} (h : spec_IsName s_ = some y_) : c_2.F [.str s_] = ⟨true, .bool y_, [.any]⟩ := by
 refine mkF_E rfl ?_
 dsimp only [spec_IsName] at h
 obtain ⟨z1, h⟩ := ck_some h
 rcases or_split z1 with ⟨gz1, z1⟩ | gz1
 ·try simp only [go_sem, n1, n2, n3, n4] at gz1
  all_goals
  try simp only [go_sem, n1, n2, n3, n4, gz1] at z1
  all_goals
  obtain ⟨z2, h⟩ := ck_some h
  rcases or_split z2 with ⟨gz2, z2⟩ | gz2
  ·try simp only [go_sem, n1, n2, n3, n4, gz1, z1] at gz2
   all_goals
   obtain ⟨y_2, hz2⟩ := Option.isSome_iff_exists.1 z2
   have fz2 := Fs_0 hz2
   try simp only [go_sem, n1, n2, n3, n4, gz1, z1, gz2] at hz2
   all_goals
   try simp only [go_sem, gz1, z1, gz2] at fz2
   rcases it_some h with ⟨z3, h⟩ | ⟨z3, h⟩
   ·try simp only [go_sem, n1, n2, n3, n4, gz1, z1, gz2, hz2] at z3
    all_goals
    obtain rfl := so_some h
    refine ⟨0, fun L hL => ?_⟩
    simp only [go_sem, ir56, E_2_l1, R_2_l1, ir56_k0, ir56_o0, ir56_r0, gz1, z1, gz2, hz2, fz2, z3]
   ·try simp only [go_sem, n1, n2, n3, n4, gz1, z1, gz2, hz2] at z3
    all_goals
    obtain ⟨y_9, z9, h⟩ := bd_some h
    obtain ⟨Lz9, ez9⟩ := spec_IsName_l1_ex z9
    rcases y_9 with y_9a | y_9b
    ·dsimp only at h
     obtain rfl := so_some h
     refine ⟨Lz9, fun L hL => ?_⟩
     have ez9 := ez9 L (by omega)
     try simp only [go_sem, E_2_l1, R_2_l1, ir56_k0, ir56_o0, ir56_r0, gz1, z1, gz2, hz2, z3] at ez9
     simp only [go_sem, ir56, E_2_l1, R_2_l1, ir56_k0, ir56_o0, ir56_r0, gz1, z1, gz2, hz2, fz2, z3, ez9]
    ·dsimp only at h
     obtain rfl := so_some h
     refine ⟨Lz9, fun L hL => ?_⟩
     have ez9 := ez9 L (by omega)
     try simp only [go_sem, E_2_l1, R_2_l1, ir56_k0, ir56_o0, ir56_r0, gz1, z1, gz2, hz2, z3] at ez9
     simp only [go_sem, ir56, E_2_l1, R_2_l1, ir56_k0, ir56_o0, ir56_r0, gz1, z1, gz2, hz2, fz2, z3, ez9]
  ·have gz2n := no_f gz2
   rcases or_t gz2n with gz2na | ⟨gz2na, gz2nb⟩
   ·try simp only [go_sem, n1, n2, n3, n4, gz1, z1] at gz2na
    all_goals
    (simp_all)
   ·try simp only [go_sem, n1, n2, n3, n4, gz1, z1] at gz2na
    all_goals
    try simp only [go_sem, n1, n2, n3, n4, gz1, z1, gz2na] at gz2nb
    all_goals
    rcases it_some h with ⟨z3, h⟩ | ⟨z3, h⟩
    ·try simp only [go_sem, n1, n2, n3, n4, gz1, z1, gz2na, gz2nb] at z3
     all_goals
     obtain rfl := so_some h
     refine ⟨0, fun L hL => ?_⟩
     simp only [go_sem, ir56, E_2_l1, R_2_l1, ir56_k0, ir56_o0, ir56_r0, gz1, z1, gz2na, gz2nb, z3]
    ·try simp only [go_sem, n1, n2, n3, n4, gz1, z1, gz2na, gz2nb] at z3
     all_goals
     obtain ⟨y_9, z9, h⟩ := bd_some h
     obtain ⟨Lz9, ez9⟩ := spec_IsName_l1_ex z9
     rcases y_9 with y_9a | y_9b
     ·dsimp only at h
      obtain rfl := so_some h
      refine ⟨Lz9, fun L hL => ?_⟩
      have ez9 := ez9 L (by omega)
      try simp only [go_sem, E_2_l1, R_2_l1, ir56_k0, ir56_o0, ir56_r0, gz1, z1, gz2na, gz2nb, z3] at ez9
      simp only [go_sem, ir56, E_2_l1, R_2_l1, ir56_k0, ir56_o0, ir56_r0, gz1, z1, gz2na, gz2nb, z3, ez9]
     ·dsimp only at h
      obtain rfl := so_some h
      refine ⟨Lz9, fun L hL => ?_⟩
      have ez9 := ez9 L (by omega)
      try simp only [go_sem, E_2_l1, R_2_l1, ir56_k0, ir56_o0, ir56_r0, gz1, z1, gz2na, gz2nb, z3] at ez9
      simp only [go_sem, ir56, E_2_l1, R_2_l1, ir56_k0, ir56_o0, ir56_r0, gz1, z1, gz2na, gz2nb, z3, ez9]
 ·have gz1n := no_f gz1
  rcases or_t gz1n with gz1na | ⟨gz1na, gz1nb⟩
  ·try simp only [go_sem, n1, n2, n3, n4] at gz1na
   all_goals
   obtain ⟨z2, h⟩ := ck_some h
   rcases it_some h with ⟨z3, h⟩ | ⟨z3, h⟩
   ·try simp only [go_sem, n1, n2, n3, n4, gz1na] at z3
    all_goals
    obtain rfl := so_some h
    refine ⟨0, fun L hL => ?_⟩
    simp only [go_sem, ir56, E_2_l1, R_2_l1, ir56_k0, ir56_o0, ir56_r0, gz1na, z3]
   ·try simp only [go_sem, n1, n2, n3, n4, gz1na] at z3
    all_goals
    (simp_all)
  ·try simp only [go_sem, n1, n2, n3, n4] at gz1na
   all_goals
   try simp only [go_sem, n1, n2, n3, n4, gz1na] at gz1nb
   all_goals
   obtain ⟨z2, h⟩ := ck_some h
   rcases it_some h with ⟨z3, h⟩ | ⟨z3, h⟩
   ·try simp only [go_sem, n1, n2, n3, n4, gz1na, gz1nb] at z3
    all_goals
    obtain rfl := so_some h
    refine ⟨0, fun L hL => ?_⟩
    simp only [go_sem, ir56, E_2_l1, R_2_l1, ir56_k0, ir56_o0, ir56_r0, gz1na, gz1nb, z3]
   ·try simp only [go_sem, n1, n2, n3, n4, gz1na, gz1nb] at z3
    all_goals
    (simp_all)


def ir68_v : List Nat := [0, 1, 2, 6]
def ir68 : AFn := ⟨3, 4, .seq (.region false [ VO 3 6 (.mov (.c (.bool false)))]) (.seq (.region false [ PM 7 0, PM 8 1, PO 9 (.bin false .geq (.s 1) (.s 0)), PO 10 (.mov (.s 0)), ⟨.push, 11, (some ((.s 0), true)), .mov (.v 0)⟩, ⟨.push, 12, (some ((.s 1), true)), .mov (.v 2)⟩, ⟨.push, 13, (some ((.s 2), true)), .bin false .leq (.s 1) (.s 0)⟩, PO 14 (.pick (.s 3) (.s 0) (.c (.bool false))), VS 3 6 0]) (.ret)), [.t 3]⟩
noncomputable def t_3 : List (Nat × Ctr) := []
noncomputable def c_3 : Ctr := mkF t_3 ir68 [.bor, .bor, .bor]
theorem s_3 : Sound Tryd.prog 68 c_3 := mkF_sound _ rfl snd_nil (by kernel_rfl : chkFn Tryd.prog 68 ir68 ir68_v = true)
theorem M_3 : c_3.modes = [.bor, .bor, .bor] := rfl
theorem Fl_3 : c_3.flat = true := rfl
attribute [go_sem] M_3 Fl_3
theorem Fs_3 {n : Int} {low : Int} {high : Int} {y_ : Bool} (h : spec_l00In n low high = some y_) : c_3.F [.int .i64 n, .int .i64 low, .int .i64 high] = ⟨true, .bool y_, [.any, .any, .any]⟩ := by
 refine mkF_E rfl ?_
 dsimp only [spec_l00In] at h
 obtain rfl := so_some h
 refine ⟨0, fun L hL => ?_⟩
 simp only [go_sem, ir68]


def ir57_v : List Nat := [0, 2]
def ir57 : AFn := ⟨1, 2, .seq (.region false [ VO 1 2 (.mov (.c (.bool false)))]) (.seq (.region false [ PM 3 0, PO 4 (.call 68 [(.s 0), (I6 0), (I6 86399)]), VS 1 2 0]) (.ret)), [.t 1]⟩
noncomputable def t_4 : List (Nat × Ctr) := [(68, c_3)]
theorem lk_4_68 : look t_4 68 = some c_3 := rfl
noncomputable def c_4 : Ctr := mkF t_4 ir57 [.bor]
theorem s_4 : Sound Tryd.prog 57 c_4 := mkF_sound _ rfl (snd_cons s_3 snd_nil) (by kernel_rfl : chkFn Tryd.prog 57 ir57 ir57_v = true)
theorem M_4 : c_4.modes = [.bor] := rfl
theorem Fl_4 : c_4.flat = true := rfl
attribute [go_sem] M_4 Fl_4
attribute [go_sem] lk_4_68
theorem Fs_4 {n : Int} {y_ : Bool} (h : spec_l04Ascend n = some y_) : c_4.F [.int .i64 n] = ⟨true, .bool y_, [.any]⟩ := by
 refine mkF_E rfl ?_
 dsimp only [spec_l04Ascend] at h
 obtain ⟨y_1, z1, h⟩ := bd_some h
 have fz1 := Fs_3 z1
 try simp only [go_sem] at fz1
 obtain rfl := so_some h
 refine ⟨0, fun L hL => ?_⟩
 simp only [go_sem, ir57, fz1]


def ir58_v : List Nat := [0, 2]
def ir58 : AFn := ⟨1, 2, .seq (.region false [ VO 1 2 (.mov (.c (.bool false)))]) (.seq (.region false [ PM 3 0, PO 4 (.call 68 [(.s 0), (.c (.int .i64 (-324000))), (I6 324000)]), VS 1 2 0]) (.ret)), [.t 1]⟩
noncomputable def t_5 : List (Nat × Ctr) := [(68, c_3)]
theorem lk_5_68 : look t_5 68 = some c_3 := rfl
noncomputable def c_5 : Ctr := mkF t_5 ir58 [.bor]
theorem s_5 : Sound Tryd.prog 58 c_5 := mkF_sound _ rfl (snd_cons s_3 snd_nil) (by kernel_rfl : chkFn Tryd.prog 58 ir58 ir58_v = true)
theorem M_5 : c_5.modes = [.bor] := rfl
theorem Fl_5 : c_5.flat = true := rfl
attribute [go_sem] M_5 Fl_5
attribute [go_sem] lk_5_68
theorem Fs_5 {n : Int} {y_ : Bool} (h : spec_l04Decl n = some y_) : c_5.F [.int .i64 n] = ⟨true, .bool y_, [.any]⟩ := by
 refine mkF_E rfl ?_
 dsimp only [spec_l04Decl] at h
 obtain ⟨y_1, z1, h⟩ := bd_some h
 have fz1 := Fs_3 z1
 try simp only [go_sem] at fz1
 obtain rfl := so_some h
 refine ⟨0, fun L hL => ?_⟩
 simp only [go_sem, ir58, fz1]


def ir59_v : List Nat := [0, 2]
def ir59 : AFn := ⟨1, 2, .seq (.region false [ VO 1 2 (.mov (.c (.bool false)))]) (.seq (.region false [ PM 3 0, PO 4 (.call 68 [(.s 0), (.c (.int .i64 (-2000))), (I6 20000)]), VS 1 2 0]) (.ret)), [.t 1]⟩
noncomputable def t_6 : List (Nat × Ctr) := [(68, c_3)]
theorem lk_6_68 : look t_6 68 = some c_3 := rfl
noncomputable def c_6 : Ctr := mkF t_6 ir59 [.bor]
theorem s_6 : Sound Tryd.prog 59 c_6 := mkF_sound _ rfl (snd_cons s_3 snd_nil) (by kernel_rfl : chkFn Tryd.prog 59 ir59 ir59_v = true)
theorem M_6 : c_6.modes = [.bor] := rfl
theorem Fl_6 : c_6.flat = true := rfl
attribute [go_sem] M_6 Fl_6
attribute [go_sem] lk_6_68
theorem Fs_6 {m : Int} {y_ : Bool} (h : spec_l02Mag m = some y_) : c_6.F [.int .i64 m] = ⟨true, .bool y_, [.any]⟩ := by
 refine mkF_E rfl ?_
 dsimp only [spec_l02Mag] at h
 obtain ⟨y_1, z1, h⟩ := bd_some h
 have fz1 := Fs_3 z1
 try simp only [go_sem] at fz1
 obtain rfl := so_some h
 refine ⟨0, fun L hL => ?_⟩
 simp only [go_sem, ir59, fz1]


def ir47_v : List Nat := [0, 2]
def ir47 : AFn := ⟨1, 2, .seq (.region false [ VO 1 2 (.mov (.c (.bool false)))]) (.seq (.anyo 44 [ SO 0 3 (.mov (.v 0)), SO 1 4 (.nilck (.s 0)), SO 2 5 (.fldAddr 0 (.s 1)), SO 3 6 (.load false 1 (.s 2)), SO 4 7 (.callp 56 [(.s 3)]), SO 5 8 (.mov (.s 4)), ⟨.slot 6, 9, (some ((.s 5), true)), .mov (.v 0)⟩, ⟨.slot 7, 10, (some ((.s 5), true)), .nilck (.s 6)⟩, ⟨.slot 8, 11, (some ((.s 5), true)), .fldAddr 1 (.s 7)⟩, ⟨.slot 9, 12, (some ((.s 5), true)), .load false 1 (.s 8)⟩, ⟨.slot 10, 13, (some ((.s 5), true)), .call 57 [(.s 9)]⟩, SO 11 14 (.pick (.s 5) (.s 10) (.c (.bool false))), SO 12 15 (.mov
 (.s 11)), ⟨.slot 13, 16, (some ((.s 12), true)), .mov (.v 0)⟩, ⟨.slot 14, 17, (some ((.s 12), true)), .nilck (.s 13)⟩, ⟨.slot 15, 18, (some ((.s 12), true)), .fldAddr 2 (.s 14)⟩, ⟨.slot 16, 19, (some ((.s 12), true)), .load false 1 (.s 15)⟩, ⟨.slot 17, 20, (some ((.s 12), true)), .call 58 [(.s 16)]⟩, SO 18 21 (.pick (.s 12) (.s 17) (.c (.bool false))), SO 19 22 (.mov (.s 18)), ⟨.slot 20, 23, (some ((.s 19), true)), .mov (.v 0)⟩, ⟨.slot 21, 24, (some ((.s 19), true)), .nilck (.s 20)⟩, ⟨.slot 22, 25, (some ((.s 19), true)), .fldAddr 3 (.s 21)⟩, ⟨.slot 23, 26, (some ((.s 19), true)), .load false
 1 (.s 22)⟩, ⟨.slot 24, 27, (some ((.s 19), true)), .call 59 [(.s 23)]⟩, SO 25 28 (.pick (.s 19) (.s 24) (.c (.bool false))), SO 26 29 (.mov (.s 25)), ⟨.slot 27, 30, (some ((.s 26), true)), .mov (.v 0)⟩, ⟨.slot 28, 31, (some ((.s 26), true)), .nilck (.s 27)⟩, ⟨.slot 29, 32, (some ((.s 26), true)), .fldAddr 4 (.s 28)⟩, ⟨.slot 30, 33, (some ((.s 26), true)), .load false 1 (.s 29)⟩, ⟨.slot 31, 34, (some ((.s 26), true)), .call 59 [(.s 30)]⟩, SO 32 35 (.pick (.s 26) (.s 31) (.c (.bool false))), SO 33 36 (.mov (.s 32)), ⟨.slot 34, 37, (some ((.s 33), true)), .mov (.v 0)⟩, ⟨.slot 35, 38, (some ((.s
 33), true)), .nilck (.s 34)⟩, ⟨.slot 36, 39, (some ((.s 33), true)), .fldAddr 3 (.s 35)⟩, ⟨.slot 37, 40, (some ((.s 33), true)), .load false 1 (.s 36)⟩, ⟨.slot 38, 41, (some ((.s 33), true)), .mov (.v 0)⟩, ⟨.slot 39, 42, (some ((.s 33), true)), .nilck (.s 38)⟩, ⟨.slot 40, 43, (some ((.s 33), true)), .fldAddr 4 (.s 39)⟩, ⟨.slot 41, 44, (some ((.s 33), true)), .load false 1 (.s 40)⟩, ⟨.slot 42, 45, (some ((.s 33), true)), .bin false .leq (.s 37) (.s 41)⟩, SO 43 46 (.pick (.s 33) (.s 42) (.c (.bool false))), VS 1 2 43] [] .skip) (.ret)), [.t 1]⟩
noncomputable def t_7 : List (Nat × Ctr) := [(56, c_2), (57, c_4), (58, c_5), (59, c_6)]
theorem lk_7_56 : look t_7 56 = some c_2 := rfl
theorem lk_7_57 : look t_7 57 = some c_4 := rfl
theorem lk_7_58 : look t_7 58 = some c_5 := rfl
theorem lk_7_59 : look t_7 59 = some c_6 := rfl
noncomputable def c_7 : Ctr := mkF t_7 ir47 [.bor]
theorem s_7 : Sound Tryd.prog 47 c_7 := mkF_sound _ rfl (snd_cons s_2 (snd_cons s_4 (snd_cons s_5 (snd_cons s_6 snd_nil)))) (by kernel_rfl : chkFn Tryd.prog 47 ir47 ir47_v = true)
theorem M_7 : c_7.modes = [.bor] := rfl
theorem Fl_7 : c_7.flat = true := rfl
attribute [go_sem] M_7 Fl_7
attribute [go_sem] lk_7_56 lk_7_57 lk_7_58 lk_7_59
theorem Fs_7 {x : Star} {y_ : Bool} (h : spec_l04One x = some y_) : c_7.F [.ptr 5 [Star_av x] 0 0] = ⟨true, .bool y_, [.any]⟩ := by
 refine mkF_E rfl ?_
 dsimp only [spec_l04One] at h
 obtain ⟨y_1, z1, h⟩ := bd_some h
 have fz1 := Fs_2 z1
 try simp only [go_sem] at fz1
 obtain ⟨z2, h⟩ := ck_some h
 rcases or_split z2 with ⟨gz2, z2⟩ | gz2
 ·try simp only [go_sem, n1, n2, n3, n4] at gz2
  all_goals
  obtain ⟨y_2, hz2⟩ := Option.isSome_iff_exists.1 z2
  have fz2 := Fs_4 hz2
  try simp only [go_sem, n1, n2, n3, n4, gz2] at hz2
  all_goals
  try simp only [go_sem, gz2] at fz2
  obtain ⟨z3, h⟩ := ck_some h
  rcases or_split z3 with ⟨gz3, z3⟩ | gz3
  ·try simp only [go_sem, n1, n2, n3, n4, gz2, hz2] at gz3
   all_goals
   obtain ⟨y_3, hz3⟩ := Option.isSome_iff_exists.1 z3
   have fz3 := Fs_5 hz3
   try simp only [go_sem, n1, n2, n3, n4, gz2, hz2, gz3] at hz3
   all_goals
   try simp only [go_sem, gz2, hz2, gz3] at fz3
   obtain ⟨z4, h⟩ := ck_some h
   rcases or_split z4 with ⟨gz4, z4⟩ | gz4
   ·try simp only [go_sem, n1, n2, n3, n4, gz2, hz2, gz3, hz3] at gz4
    all_goals
    obtain ⟨y_4, hz4⟩ := Option.isSome_iff_exists.1 z4
    have fz4 := Fs_6 hz4
    try simp only [go_sem, n1, n2, n3, n4, gz2, hz2, gz3, hz3, gz4] at hz4
    all_goals
    try simp only [go_sem, gz2, hz2, gz3, hz3, gz4] at fz4
    obtain ⟨z5, h⟩ := ck_some h
    rcases or_split z5 with ⟨gz5, z5⟩ | gz5
    ·try simp only [go_sem, n1, n2, n3, n4, gz2, hz2, gz3, hz3, gz4, hz4] at gz5
     all_goals
     obtain ⟨y_5, hz5⟩ := Option.isSome_iff_exists.1 z5
     have fz5 := Fs_6 hz5
     try simp only [go_sem, n1, n2, n3, n4, gz2, hz2, gz3, hz3, gz4, hz4, gz5] at hz5
     all_goals
     try simp only [go_sem, gz2, hz2, gz3, hz3, gz4, hz4, gz5] at fz5
     obtain rfl := so_some h
     refine ⟨0, fun L hL => ?_⟩
     simp only [go_sem, ir47, fz1, gz2, hz2, fz2, gz3, hz3, fz3, gz4, hz4, fz4, gz5, hz5, fz5]
    ·rcases and_f gz5 with gz5a | ⟨gz5a, gz5b⟩
     ·try simp only [go_sem, n1, n2, n3, n4, gz2, hz2, gz3, hz3, gz4, hz4] at gz5a
      all_goals
      (simp_all)
     ·obtain ⟨gz5aa, gz5ab⟩ := and_t gz5a
      obtain ⟨gz5aaa, gz5aab⟩ := and_t gz5aa
      try simp only [go_sem, n1, n2, n3, n4, gz2, hz2, gz3, hz3, gz4, hz4] at gz5aaa
      all_goals
      try simp only [go_sem, n1, n2, n3, n4, gz2, hz2, gz3, hz3, gz4, hz4, gz5aaa] at gz5aab
      all_goals
      try simp only [go_sem, n1, n2, n3, n4, gz2, hz2, gz3, hz3, gz4, hz4, gz5aaa, gz5aab] at gz5ab
      all_goals
      try simp only [go_sem, n1, n2, n3, n4, gz2, hz2, gz3, hz3, gz4, hz4, gz5aaa, gz5aab, gz5ab] at gz5b
      all_goals
      obtain rfl := so_some h
      refine ⟨0, fun L hL => ?_⟩
      simp only [go_sem, ir47, fz1, gz2, hz2, fz2, gz3, hz3, fz3, gz4, hz4, fz4, gz5aaa, gz5aab, gz5ab, gz5b]
   ·rcases and_f gz4 with gz4a | ⟨gz4a, gz4b⟩
    ·try simp only [go_sem, n1, n2, n3, n4, gz2, hz2, gz3, hz3] at gz4a
     all_goals
     (simp_all)
    ·obtain ⟨gz4aa, gz4ab⟩ := and_t gz4a
     try simp only [go_sem, n1, n2, n3, n4, gz2, hz2, gz3, hz3] at gz4aa
     all_goals
     try simp only [go_sem, n1, n2, n3, n4, gz2, hz2, gz3, hz3, gz4aa] at gz4ab
     all_goals
     try simp only [go_sem, n1, n2, n3, n4, gz2, hz2, gz3, hz3, gz4aa, gz4ab] at gz4b
     all_goals
     obtain ⟨z5, h⟩ := ck_some h
     obtain rfl := so_some h
     refine ⟨0, fun L hL => ?_⟩
     simp only [go_sem, ir47, fz1, gz2, hz2, fz2, gz3, hz3, fz3, gz4aa, gz4ab, gz4b]
  ·rcases and_f gz3 with gz3a | ⟨gz3a, gz3b⟩
   ·try simp only [go_sem, n1, n2, n3, n4, gz2, hz2] at gz3a
    all_goals
    (simp_all)
   ·try simp only [go_sem, n1, n2, n3, n4, gz2, hz2] at gz3a
    all_goals
    try simp only [go_sem, n1, n2, n3, n4, gz2, hz2, gz3a] at gz3b
    all_goals
    obtain ⟨z4, h⟩ := ck_some h
    obtain ⟨z5, h⟩ := ck_some h
    obtain rfl := so_some h
    refine ⟨0, fun L hL => ?_⟩
    simp only [go_sem, ir47, fz1, gz2, hz2, fz2, gz3a, gz3b]
 ·try simp only [go_sem, n1, n2, n3, n4] at gz2
  all_goals
  obtain ⟨z3, h⟩ := ck_some h
  obtain ⟨z4, h⟩ := ck_some h
  obtain ⟨z5, h⟩ := ck_some h
  obtain rfl := so_some h
  refine ⟨0, fun L hL => ?_⟩
  simp only [go_sem, ir47, fz1, gz2]


def ir26_b0 : IR := .seq (.test false [ PM 4 2, PM 5 0, PO 6 (.len false (.s 0)), PO 7 (.bin false .lss (.s 2) (.s 0))] (.s 0) (.skip) (.exit 0)) (.seq (.block 1 (.anyo 23 [ SO 0 10 (.mov (.v 0)), SO 1 11 (.mov (.v 2)), SO 2 12 (.ixAddr 5 (.s 0) (.s 1)), SO 3 13 (.callp 47 [(.s 2)]), SO 4 14 (.un .not (.s 3)), SO 5 15 (.mov (.s 4)), ⟨.slot 6, 16, (some ((.s 5), false)), .mov (.v 2)⟩, ⟨.slot 7, 17, (some ((.s 5), false)), .bin false .gtr (.s 6) (I6 0)⟩, ⟨.slot 8, 18, (some ((.s 5), false)), .mov (.s 7)⟩, ⟨.slot 9, 19, (some ((.s 8), true)), .mov (.v 0)⟩, ⟨.slot 10, 20, (some ((.s 8), true)),
 .mov (.v 2)⟩, ⟨.slot 11, 21, (some ((.s 8), true)), .bin false .sub (.s 10) (I6 1)⟩, ⟨.slot 12, 22, (some ((.s 8), true)), .ixAddr 5 (.s 9) (.s 11)⟩, ⟨.slot 13, 23, (some ((.s 8), true)), .fldAddr 0 (.s 12)⟩, ⟨.slot 14, 24, (some ((.s 8), true)), .load false 1 (.s 13)⟩, ⟨.slot 15, 25, (some ((.s 8), true)), .mov (.v 0)⟩, ⟨.slot 16, 26, (some ((.s 8), true)), .mov (.v 2)⟩, ⟨.slot 17, 27, (some ((.s 8), true)), .ixAddr 5 (.s 15) (.s 16)⟩, ⟨.slot 18, 28, (some ((.s 8), true)), .fldAddr 0 (.s 17)⟩, ⟨.slot 19, 29, (some ((.s 8), true)), .load false 1 (.s 18)⟩, ⟨.slot 20, 30, (some ((.s 8), true)),
 .bin false .geq (.s 14) (.s 19)⟩, ⟨.slot 21, 31, (some ((.s 5), false)), .pick (.s 8) (.s 20) (.c (.bool false))⟩, SO 22 32 (.pick (.s 5) (.c (.bool true)) (.s 21))] [] (.cond (.s 22) (.seq (.region false [ VO 1 2 (.mov (.c (.bool false)))]) (.ret)) (.skip)))) (.region false [ PM 8 2, PO 9 (.bin false .add (.s 0) (I6 1)), VS 2 3 0]))
def ir26_k0 : List Bool := [true, false, true]
def ir26_o0 : List Bool := [true, false, false]
def ir26_r0 : List Bool := [false, true, false]
def ir26_v : List Nat := [0, 2, 3]
def ir26 : AFn := ⟨1, 3, .seq (.region false [ VO 1 2 (.mov (.c (.bool false)))]) (.seq (.seq (.region false [ VO 2 3 (.mov (I6 0))]) (.block 0 (.loop ir26_k0 ir26_o0 ir26_r0 ir26_b0))) (.seq (.region false [ PM 33 0, PO 34 (.len false (.s 0)), PO 35 (.bin false .leq (.s 0) (I6 60)), VS 1 2 0]) (.ret))), [.t 1]⟩
noncomputable def t_8 : List (Nat × Ctr) := [(47, c_7)]
theorem lk_8_47 : look t_8 47 = some c_7 := rfl
noncomputable def c_8 : Ctr := mkF t_8 ir26 [.bor]
theorem s_8 : Sound Tryd.prog 26 c_8 := mkF_sound _ rfl (snd_cons s_7 snd_nil) (by kernel_rfl : chkFn Tryd.prog 26 ir26 ir26_v = true)
theorem M_8 : c_8.modes = [.bor] := rfl
theorem Fl_8 : c_8.flat = true := rfl
attribute [go_sem] M_8 Fl_8
attribute [go_sem] lk_8_47
def E_8_l1 (list : List Star) : Int → St
 | i => ⟨[.sl 5 (List.map Star_av list), .any, .int .i64 i], [], [], true⟩
def R_8_l1 (list : List Star) : (Unit ⊕ Bool) → Res
 | .inl y => (.exit 0, ⟨[.sl 5 (List.map Star_av list), .any, .any], [], [], true⟩)
 | .inr y => (.ret, ⟨[.any, .bool y, .any], [], [], true⟩)
theorem spec_l04Ok_l1_ex {list : List Star} {sgm_ : Int} {rho_ : Unit ⊕ Bool} (h : whileE (spec_l04Ok_l1 list) sgm_ = some rho_) : ∃ L0, ∀ L, L0 ≤ L → iter (exec (look t_8) L ir26_b0) ir26_k0 ir26_o0 ir26_r0 L (E_8_l1 list sgm_) = R_8_l1 list rho_ := by
 refine loop_ex (E := E_8_l1 list) (R := R_8_l1 list) (fun y => by first | (intro c; cases c) | (rcases y with y | y <;> (intro c; cases c)) | (rcases y with y | y | y <;> (intro c; cases c))) ?_ h
 clear h
 intro i o_ h
 dsimp only [spec_l04Ok_l1] at h
 rcases it_some h with ⟨z1, h⟩ | ⟨z1, h⟩
 ·try simp only [go_sem, n1, n2, n3, n4] at z1
  all_goals
  obtain ⟨z2, h⟩ := ck_some h
  have lz2 := ix_lt z2
  have xz2 := getD_mapD Star_av list lz2
  try simp only [go_sem] at lz2
  try simp only [go_sem] at xz2
  try simp only [go_sem, n1, n2, n3, n4, z1] at z2
  all_goals
  obtain ⟨y_3, z3, h⟩ := bd_some h
  have fz3 := Fs_7 z3
  try simp only [go_sem, z1, z2] at fz3
  obtain ⟨z4, h⟩ := ck_some h
  rcases or_split z4 with ⟨gz4, z4⟩ | gz4
  ·try simp only [go_sem, n1, n2, n3, n4, z1, z2] at gz4
   all_goals
   have lz4 := ix_lt z4
   have xz4 := getD_mapD Star_av list lz4
   try simp only [go_sem] at lz4
   try simp only [go_sem] at xz4
   try simp only [go_sem, n1, n2, n3, n4, z1, z2, gz4] at z4
   all_goals
   rcases it_some h with ⟨z5, h⟩ | ⟨z5, h⟩
   ·try simp only [go_sem, n1, n2, n3, n4, z1, z2, gz4, z4] at z5
    all_goals
    obtain rfl := so_some h
    refine ⟨0, fun L hL => ?_⟩
    simp only [go_sem, ir26, E_8_l1, R_8_l1, ir26_b0, ir26_k0, ir26_o0, ir26_r0, z1, z2, lz2, xz2, fz3, gz4, z4, lz4, xz4, z5]
   ·try simp only [go_sem, n1, n2, n3, n4, z1, z2, gz4, z4] at z5
    all_goals
    obtain rfl := so_some h
    refine ⟨0, fun L hL => ?_⟩
    simp only [go_sem, ir26, E_8_l1, R_8_l1, ir26_b0, ir26_k0, ir26_o0, ir26_r0, z1, z2, lz2, xz2, fz3, gz4, z4, lz4, xz4, z5]
  ·rcases and_f gz4 with gz4a | ⟨gz4a, gz4b⟩
   ·have gz4an := no_f gz4a
    have gz4ann := no_t gz4an
    try simp only [go_sem, n1, n2, n3, n4, z1, z2] at gz4ann
    all_goals
    rcases it_some h with ⟨z5, h⟩ | ⟨z5, h⟩
    ·try simp only [go_sem, n1, n2, n3, n4, z1, z2, gz4ann] at z5
     all_goals
     obtain rfl := so_some h
     refine ⟨0, fun L hL => ?_⟩
     simp only [go_sem, ir26, E_8_l1, R_8_l1, ir26_b0, ir26_k0, ir26_o0, ir26_r0, z1, z2, lz2, xz2, fz3, gz4ann, z5]
    ·try simp only [go_sem, n1, n2, n3, n4, z1, z2, gz4ann] at z5
     all_goals
     (simp_all)
   ·have gz4an := no_t gz4a
    have gz4ann := no_f gz4an
    try simp only [go_sem, n1, n2, n3, n4, z1, z2] at gz4ann
    all_goals
    try simp only [go_sem, n1, n2, n3, n4, z1, z2, gz4ann] at gz4b
    all_goals
    rcases it_some h with ⟨z5, h⟩ | ⟨z5, h⟩
    ·try simp only [go_sem, n1, n2, n3, n4, z1, z2, gz4ann, gz4b] at z5
     all_goals
     (simp_all)
    ·try simp only [go_sem, n1, n2, n3, n4, z1, z2, gz4ann, gz4b] at z5
     all_goals
     obtain rfl := so_some h
     refine ⟨0, fun L hL => ?_⟩
     simp only [go_sem, ir26, E_8_l1, R_8_l1, ir26_b0, ir26_k0, ir26_o0, ir26_r0, z1, z2, lz2, xz2, fz3, gz4ann, gz4b, z5]
 ·try simp only [go_sem, n1, n2, n3, n4] at z1
  all_goals
  obtain rfl := so_some h
  refine ⟨0, fun L hL => ?_⟩
  simp only [go_sem, ir26, E_8_l1, R_8_l1, ir26_b0, ir26_k0, ir26_o0, ir26_r0, z1]

theorem Fs_8 {list : List Star} {y_ : Bool} (h : spec_l04Ok list = some y_) : c_8.F [.sl 5 (List.map Star_av list)] = ⟨true, .bool y_, [.any]⟩ := by
 refine mkF_E rfl ?_
 dsimp only [spec_l04Ok] at h
 obtain ⟨y_6, z6, h⟩ := bd_some h
 obtain ⟨Lz6, ez6⟩ := spec_l04Ok_l1_ex z6
 rcases y_6 with y_6a | y_6b
 ·dsimp only at h
  obtain rfl := so_some h
  refine ⟨Lz6, fun L hL => ?_⟩
  have ez6 := ez6 L (by omega)
  try simp only [go_sem, E_8_l1, R_8_l1, ir26_k0, ir26_o0, ir26_r0] at ez6
  simp only [go_sem, ir26, E_8_l1, R_8_l1, ir26_k0, ir26_o0, ir26_r0, ez6]
 ·dsimp only at h
  obtain rfl := so_some h
  refine ⟨Lz6, fun L hL => ?_⟩
  have ez6 := ez6 L (by omega)
  try simp only [go_sem, E_8_l1, R_8_l1, ir26_k0, ir26_o0, ir26_r0] at ez6
  simp only [go_sem, ir26, E_8_l1, R_8_l1, ir26_k0, ir26_o0, ir26_r0, ez6]


def ir9_v : List Nat := [0, 2]
def ir9 : AFn := ⟨1, 2, .seq (.region false [ VO 1 2 (.mov (.c (.bool false)))]) (.seq (.region false [ PM 3 0, PO 4 (.call 26 [(.s 0)]), VS 1 2 0]) (.ret)), [.t 1]⟩
noncomputable def t_9 : List (Nat × Ctr) := [(26, c_8)]
theorem lk_9_26 : look t_9 26 = some c_8 := rfl
noncomputable def c_9 : Ctr := mkF t_9 ir9 [.bor]
theorem s_9 : Sound Tryd.prog 9 c_9 := mkF_sound _ rfl (snd_cons s_8 snd_nil) (by kernel_rfl : chkFn Tryd.prog 9 ir9 ir9_v = true)
theorem M_9 : c_9.modes = [.bor] := rfl
theorem Fl_9 : c_9.flat = true := rfl
attribute [go_sem] M_9 Fl_9
attribute [go_sem] lk_9_26
theorem Fs_9 {list : List Star} {y_ : Bool} (h : spec_ValidStars list = some y_) : c_9.F [.sl 5 (List.map Star_av list)] = ⟨true, .bool y_, [.any]⟩ := by
 refine mkF_E rfl ?_
 dsimp only [spec_ValidStars] at h
 obtain ⟨y_1, z1, h⟩ := bd_some h
 have fz1 := Fs_8 z1
 try simp only [go_sem] at fz1
 obtain rfl := so_some h
 refine ⟨0, fun L hL => ?_⟩
 simp only [go_sem, ir9, fz1]


def ir4_v : List Nat := [0, 1, 4]
def ir4 : AFn := ⟨2, 3, .seq (.region false [ VO 2 4 (.mov (.c (.bool false)))]) (.seq (.region false [ PM 5 0, PO 6 (.len false (.s 0)), PO 7 (.bin false .gtr (.s 0) (I6 3000)), PO 8 (.mov (.s 0)), ⟨.push, 9, (some ((.s 0), false)), .mov (.v 1)⟩, ⟨.push, 10, (some ((.s 1), false)), .len false (.s 0)⟩, ⟨.push, 11, (some ((.s 2), false)), .bin false .gtr (.s 0) (I6 3000)⟩, PO 12 (.pick (.s 3) (.c (.bool true)) (.s 0)), VS 2 4 0]) (.ret)), [.t 2]⟩
noncomputable def t_10 : List (Nat × Ctr) := []
noncomputable def c_10 : Ctr := mkF t_10 ir4 [.bor, .bor]
theorem s_10 : Sound Tryd.prog 4 c_10 := mkF_sound _ rfl snd_nil (by kernel_rfl : chkFn Tryd.prog 4 ir4 ir4_v = true)
theorem M_10 : c_10.modes = [.bor, .bor] := rfl
theorem Fl_10 : c_10.flat = true := rfl
attribute [go_sem] M_10 Fl_10
theorem Fs_10 {code : List UInt8} {more : List UInt8} {y_ : Bool} (h : laws_a2Long code more = some y_) : c_10.F [.sl 1 (List.map byteAV code), .sl 1 (List.map byteAV more)] = ⟨true, .bool y_, [.any, .any]⟩ := by
 refine mkF_E rfl ?_
 dsimp only [laws_a2Long] at h
 obtain rfl := so_some h
 refine ⟨0, fun L hL => ?_⟩
 simp only [go_sem, ir4]


def ir16_v : List Nat := [0, 2]
def ir16 : AFn := ⟨1, 2, .seq (.region false [ VO 1 2 (.mov (.c (.cv (.pointer none))))]) (.seq (.region false [ PM 3 0, PO 4 (.build [.sl 1 [], .int .i64 (0), .int .u64 (0)] [(0, 1, (.s 0))]), PO 5 (.box (.s 0)), VS 1 2 0]) (.ret)), [.t 1]⟩
noncomputable def t_11 : List (Nat × Ctr) := []
noncomputable def c_11 : Ctr := mkN t_11 ir16 [.bor]
theorem s_11 : Sound Tryd.prog 16 c_11 := mkN_sound _ snd_nil (by kernel_rfl : chkFn Tryd.prog 16 ir16 ir16_v = true)
theorem M_11 : c_11.modes = [.bor] := rfl
theorem Fl_11 : c_11.flat = false := rfl
attribute [go_sem] M_11 Fl_11
theorem Fs_11 {code : List UInt8} {y_ : L00Src} (h : spec_l00From code = some y_) : c_11.F [.sl 1 (List.map byteAV code)] = ⟨true, .mem 3 [L00Src_av y_] 0, [.any]⟩ := by
 refine mkN_E ?_
 dsimp only [spec_l00From] at h
 obtain rfl := so_some h
 refine ⟨0, fun L hL => ?_⟩
 simp only [go_sem, ir16]


def ir19_v : List Nat := [0]
def ir19 : AFn := ⟨0, 1, .seq (.region false [ VO 0 0 (.newnil 1)]) (.seq (.region false [ PO 1 (.mkSl 1 (.str []) 6 [(0, (.c (.str [98, 101, 116, 97, 45, 108, 121, 114]))), (1, (.c (.str [100, 101, 108, 45, 99, 101, 112]))), (2, (.c (.str [109, 105, 114, 97]))), (3, (.c (.str [114, 45, 99, 114, 98]))), (4, (.c (.str [114, 114, 45, 108, 121, 114]))), (5, (.c (.str [115, 115, 45, 99, 121, 103])))]), VS 0 0 0]) (.ret)), [.t 0]⟩
noncomputable def t_12 : List (Nat × Ctr) := []
noncomputable def c_12 : Ctr := mkF t_12 ir19 []
theorem s_12 : Sound Tryd.prog 19 c_12 := mkF_sound _ rfl snd_nil (by kernel_rfl : chkFn Tryd.prog 19 ir19 ir19_v = true)
theorem M_12 : c_12.modes = [] := rfl
theorem Fl_12 : c_12.flat = true := rfl
attribute [go_sem] M_12 Fl_12
theorem Fs_12  {y_ : (List (List UInt8))} (h : spec_l04Names = some y_) : c_12.F [] = ⟨true, .fresh 1 (List.map AV.str y_), []⟩ := by
 refine mkF_E (by simp only [flatA, flatB, flat1, List.all_cons, List.all_nil, Bool.and_self, flatE_map (f := AV.str) (fun _ => rfl)]) ?_
 dsimp only [spec_l04Names] at h
 obtain rfl := so_some h
 refine ⟨0, fun L hL => ?_⟩
 simp only [go_sem, ir19]


def ir53_v : List Nat := [0, 2, 3]
def ir53 : AFn := ⟨1, 3, .seq (.region false [ VO 1 2 (.mov (I6 0))]) (.seq (.region false [ VO 2 3 (.mov (I6 0))]) (.seq (.anyo 10 [ SO 0 4 (.mov (.v 0)), SO 1 5 (.nilck (.s 0)), SO 2 6 (.fldAddr 1 (.s 1)), SO 3 7 (.load false 1 (.s 2)), SO 4 8 (.mov (.v 0)), SO 5 9 (.nilck (.s 4)), SO 6 10 (.fldAddr 0 (.s 5)), SO 7 11 (.load false 1 (.s 6)), SO 8 12 (.len false (.s 7)), SO 9 13 (.bin false .lss (.s 3) (.s 8))] [] (.cond (.s 9) (.anyo 11 [ SO 0 14 (.mov (.v 0)), SO 1 15 (.nilck (.s 0)), SO 2 16 (.fldAddr 0 (.s 1)), SO 3 17 (.load false 1 (.s 2)), SO 4 18 (.mov (.v 0)), SO 5 19 (.nilck (.s 4)),
 SO 6 20 (.fldAddr 1 (.s 5)), SO 7 21 (.load false 1 (.s 6)), SO 8 22 (.ixAddr 1 (.s 3) (.s 7)), SO 9 23 (.load false 1 (.s 8)), SO 10 24 (.conv .i64 (.s 9)), VS 2 3 10] [] .skip) (.skip))) (.seq (.region false [ PM 25 0, PO 26 (.nilck (.s 0)), PO 27 (.fldAddr 1 (.s 0)), PO 28 (.load false 1 (.s 0)), PO 29 (.bin false .add (.s 0) (I6 1)), PO 30 (.nilck (.s 4)), PO 31 (.fldAddr 1 (.s 0)), ⟨.no, 0, none, .store 1 (.s 0) (.s 2)⟩]) (.seq (.region false [ PM 32 0, PM 33 0, PO 34 (.nilck (.s 0)), PO 35 (.fldAddr 2 (.s 0)), PO 36 (.load false 1 (.s 0)), PO 37 (.bin false .mul (.s 0) (.c (.int .u64
 (6364136223846793005)))), PM 38 2, PO 39 (.conv .u64 (.s 0)), PO 40 (.bin false .add (.s 2) (.s 0)), PO 41 (.bin false .add (.s 0) (.c (.int .u64 (1442695040888963407)))), PO 42 (.nilck (.s 9)), PO 43 (.fldAddr 2 (.s 0)), ⟨.no, 0, none, .store 1 (.s 0) (.s 2)⟩]) (.seq (.anyo 10 [ SO 0 44 (.mov (.v 0)), SO 1 45 (.nilck (.s 0)), SO 2 46 (.fldAddr 1 (.s 1)), SO 3 47 (.load false 1 (.s 2)), SO 4 48 (.mov (.v 0)), SO 5 49 (.nilck (.s 4)), SO 6 50 (.fldAddr 0 (.s 5)), SO 7 51 (.load false 1 (.s 6)), SO 8 52 (.len false (.s 7)), SO 9 53 (.bin false .leq (.s 3) (.s 8))] [] (.cond (.s 9) (.seq (.region
 false [ PM 54 2, VS 1 2 0]) (.ret)) (.skip))) (.seq (.region false [ PM 55 0, PO 56 (.nilck (.s 0)), PO 57 (.fldAddr 2 (.s 0)), PO 58 (.load false 1 (.s 0)), PO 59 (.bin false .shr (.s 0) (.c (.int .u64 (40)))), PO 60 (.bin false .and (.s 0) (.c (.int .u64 (255)))), PO 61 (.conv .i64 (.s 0)), VS 1 2 0]) (.ret))))))), [.t 1]⟩
noncomputable def t_13 : List (Nat × Ctr) := []
noncomputable def c_13 : Ctr := mkN t_13 ir53 [.io]
theorem s_13 : Sound Tryd.prog 53 c_13 := mkN_sound _ snd_nil (by kernel_rfl : chkFn Tryd.prog 53 ir53 ir53_v = true)
theorem M_13 : c_13.modes = [.io] := rfl
theorem Fl_13 : c_13.flat = false := rfl
attribute [go_sem] M_13 Fl_13
theorem Fs_13 {s_ : L00Src} {y_ : Int × L00Src} (h : spec_l00Src_next s_ = some y_) : c_13.F [.mem 3 [L00Src_av s_] 0] = ⟨true, .int .i64 y_.1, [.mem 3 [L00Src_av y_.2] 0]⟩ := by
 refine mkN_E ?_
 dsimp only [spec_l00Src_next] at h
 rcases it_some h with ⟨z1, h⟩ | ⟨z1, h⟩
 ·try simp only [go_sem, n1, n2, n3, n4] at z1
  all_goals
  obtain ⟨z2, h⟩ := ck_some h
  have lz2 := ix_lt z2
  have xz2 := getD_mapD byteAV s_.code_ lz2
  try simp only [go_sem] at lz2
  try simp only [go_sem] at xz2
  try simp only [go_sem, n1, n2, n3, n4, z1] at z2
  all_goals
  rcases it_some h with ⟨z3, h⟩ | ⟨z3, h⟩
  ·try simp only [go_sem, n1, n2, n3, n4, z1, z2] at z3
   all_goals
   obtain rfl := so_some h
   refine ⟨0, fun L hL => ?_⟩
   simp only [go_sem, ir53, z1, z2, lz2, xz2, z3]
  ·try simp only [go_sem, n1, n2, n3, n4, z1, z2] at z3
   all_goals
   obtain ⟨z4, h⟩ := ck_some h
   try simp only [go_sem, n1, n2, n3, n4, z1, z2, z3] at z4
   all_goals
   obtain rfl := so_some h
   refine ⟨0, fun L hL => ?_⟩
   simp only [go_sem, ir53, z1, z2, lz2, xz2, z3, z4]
 ·try simp only [go_sem, n1, n2, n3, n4] at z1
  all_goals
  rcases it_some h with ⟨z5, h⟩ | ⟨z5, h⟩
  ·try simp only [go_sem, n1, n2, n3, n4, z1] at z5
   all_goals
   obtain rfl := so_some h
   refine ⟨0, fun L hL => ?_⟩
   simp only [go_sem, ir53, z1, z5]
  ·try simp only [go_sem, n1, n2, n3, n4, z1] at z5
   all_goals
   obtain ⟨z6, h⟩ := ck_some h
   try simp only [go_sem, n1, n2, n3, n4, z1, z5] at z6
   all_goals
   obtain rfl := so_some h
   refine ⟨0, fun L hL => ?_⟩
   simp only [go_sem, ir53, z1, z5, z6]


def ir37_v : List Nat := [0, 1, 4, 5]
def ir37 : AFn := ⟨2, 4, .seq (.region false [ VO 2 4 (.mov (I6 0))]) (.seq (.test false [ PM 6 1, PO 7 (.bin false .leq (.s 0) (I6 1))] (.s 0) (.seq (.region false [ VO 2 4 (.mov (I6 0))]) (.ret)) (.skip)) (.seq (.region false [ PM 8 0, PO 9 (.call 53 [(.s 0)]), VS 3 5 0]) (.seq (.test false [ PM 10 1, PO 11 (.bin false .gtr (.s 0) (I6 200))] (.s 0) (.region false [ PM 12 3, PO 13 (.bin false .mul (.s 0) (I6 256)), PM 14 0, PO 15 (.call 53 [(.s 0)]), PO 16 (.bin false .add (.s 2) (.s 0)), VS 3 5 0]) (.skip)) (.seq (.region false [ PM 17 3, PM 18 1, PO 19 (.bin false .rem (.s 1) (.s 0)), VS 2 4
 0]) (.ret))))), [.t 2]⟩
noncomputable def t_14 : List (Nat × Ctr) := [(53, c_13)]
theorem lk_14_53 : look t_14 53 = some c_13 := rfl
noncomputable def c_14 : Ctr := mkN t_14 ir37 [.io, .bor]
theorem s_14 : Sound Tryd.prog 37 c_14 := mkN_sound _ (snd_cons s_13 snd_nil) (by kernel_rfl : chkFn Tryd.prog 37 ir37 ir37_v = true)
theorem M_14 : c_14.modes = [.io, .bor] := rfl
theorem Fl_14 : c_14.flat = false := rfl
attribute [go_sem] M_14 Fl_14
attribute [go_sem] lk_14_53
theorem Fs_14 {s_ : L00Src} {n : Int} {y_ : Int × L00Src} (h : spec_l00Src_pick s_ n = some y_) : c_14.F [.mem 3 [L00Src_av s_] 0, .int .i64 n] = ⟨true, .int .i64 y_.1, [.mem 3 [L00Src_av y_.2] 0, .any]⟩ := by
 refine mkN_E ?_
 dsimp only [spec_l00Src_pick] at h
 rcases it_some h with ⟨z1, h⟩ | ⟨z1, h⟩
 ·try simp only [go_sem, n1, n2, n3, n4] at z1
  all_goals
  obtain rfl := so_some h
  refine ⟨0, fun L hL => ?_⟩
  simp only [go_sem, ir37, z1]
 ·try simp only [go_sem, n1, n2, n3, n4] at z1
  all_goals
  obtain ⟨y_2, z2, h⟩ := bd_some h
  have fz2 := Fs_13 z2
  try simp only [go_sem, z1] at fz2
  rcases it_some h with ⟨z3, h⟩ | ⟨z3, h⟩
  ·try simp only [go_sem, n1, n2, n3, n4, z1] at z3
   all_goals
   obtain ⟨y_4, z4, h⟩ := bd_some h
   have fz4 := Fs_13 z4
   try simp only [go_sem, z1, z3] at fz4
   obtain ⟨z5, h⟩ := ck_some h
   try simp only [go_sem, n1, n2, n3, n4, z1, z3] at z5
   all_goals
   obtain rfl := so_some h
   refine ⟨0, fun L hL => ?_⟩
   simp only [go_sem, ir37, z1, fz2, z3, fz4, z5]
  ·try simp only [go_sem, n1, n2, n3, n4, z1] at z3
   all_goals
   obtain ⟨z6, h⟩ := ck_some h
   try simp only [go_sem, n1, n2, n3, n4, z1, z3] at z6
   all_goals
   obtain rfl := so_some h
   refine ⟨0, fun L hL => ?_⟩
   simp only [go_sem, ir37, z1, fz2, z3, z6]


def ir36_v : List Nat := [0, 1, 4]
def ir36 : AFn := ⟨2, 3, .seq (.region false [ VO 2 4 (.mov (.c (.bool false)))]) (.seq (.region false [ PM 5 0, PM 6 1, PO 7 (.call 37 [(.s 1), (.s 0)]), PO 8 (.bin false .eql (.s 0) (I6 0)), VS 2 4 0]) (.ret)), [.t 2]⟩
noncomputable def t_15 : List (Nat × Ctr) := [(37, c_14)]
theorem lk_15_37 : look t_15 37 = some c_14 := rfl
noncomputable def c_15 : Ctr := mkN t_15 ir36 [.io, .bor]
theorem s_15 : Sound Tryd.prog 36 c_15 := mkN_sound _ (snd_cons s_14 snd_nil) (by kernel_rfl : chkFn Tryd.prog 36 ir36 ir36_v = true)
theorem M_15 : c_15.modes = [.io, .bor] := rfl
theorem Fl_15 : c_15.flat = false := rfl
attribute [go_sem] M_15 Fl_15
attribute [go_sem] lk_15_37
theorem Fs_15 {s_ : L00Src} {n : Int} {y_ : Bool × L00Src} (h : spec_l00Src_one s_ n = some y_) : c_15.F [.mem 3 [L00Src_av s_] 0, .int .i64 n] = ⟨true, .bool y_.1, [.mem 3 [L00Src_av y_.2] 0, .any]⟩ := by
 refine mkN_E ?_
 dsimp only [spec_l00Src_one] at h
 obtain ⟨y_1, z1, h⟩ := bd_some h
 have fz1 := Fs_14 z1
 try simp only [go_sem] at fz1
 obtain rfl := so_some h
 refine ⟨0, fun L hL => ?_⟩
 simp only [go_sem, ir36, fz1]


def ir40_v : List Nat := [0, 1, 4]
def ir40 : AFn := ⟨2, 3, .seq (.region false [ VO 2 4 (.mov (I6 0))]) (.seq (.test false [ PM 5 0, PM 6 1, PO 7 (.bin false .lss (.s 1) (.s 0))] (.s 0) (.seq (.region false [ PM 8 0, VS 2 4 0]) (.ret)) (.skip)) (.seq (.region false [ PM 9 1, VS 2 4 0]) (.ret))), [.t 2]⟩
noncomputable def t_16 : List (Nat × Ctr) := []
noncomputable def c_16 : Ctr := mkF t_16 ir40 [.bor, .bor]
theorem s_16 : Sound Tryd.prog 40 c_16 := mkF_sound _ rfl snd_nil (by kernel_rfl : chkFn Tryd.prog 40 ir40 ir40_v = true)
theorem M_16 : c_16.modes = [.bor, .bor] := rfl
theorem Fl_16 : c_16.flat = true := rfl
attribute [go_sem] M_16 Fl_16
theorem Fs_16 {a : Int} {b : Int} {y_ : Int} (h : spec_l00Min a b = some y_) : c_16.F [.int .i64 a, .int .i64 b] = ⟨true, .int .i64 y_, [.any, .any]⟩ := by
 refine mkF_E rfl ?_
 dsimp only [spec_l00Min] at h
 rcases it_some h with ⟨z1, h⟩ | ⟨z1, h⟩
 ·try simp only [go_sem, n1, n2, n3, n4] at z1
  all_goals
  obtain rfl := so_some h
  refine ⟨0, fun L hL => ?_⟩
  simp only [go_sem, ir40, z1]
 ·try simp only [go_sem, n1, n2, n3, n4] at z1
  all_goals
  obtain rfl := so_some h
  refine ⟨0, fun L hL => ?_⟩
  simp only [go_sem, ir40, z1]


def ir38_v : List Nat := [0, 1, 4]
def ir38 : AFn := ⟨2, 3, .seq (.region false [ VO 2 4 (.mov (I6 0))]) (.seq (.region false [ PM 5 1, PM 6 0, PM 7 1, PO 8 (.len false (.s 0)), PO 9 (.call 37 [(.s 2), (.s 0)]), PO 10 (.ixAddr 1 (.s 4) (.s 0)), PO 11 (.load false 1 (.s 0)), VS 2 4 0]) (.ret)), [.t 2]⟩
noncomputable def t_17 : List (Nat × Ctr) := [(37, c_14)]
theorem lk_17_37 : look t_17 37 = some c_14 := rfl
noncomputable def c_17 : Ctr := mkN t_17 ir38 [.io, .bor]
theorem s_17 : Sound Tryd.prog 38 c_17 := mkN_sound _ (snd_cons s_14 snd_nil) (by kernel_rfl : chkFn Tryd.prog 38 ir38 ir38_v = true)
theorem M_17 : c_17.modes = [.io, .bor] := rfl
theorem Fl_17 : c_17.flat = false := rfl
attribute [go_sem] M_17 Fl_17
attribute [go_sem] lk_17_37
theorem Fs_17 {s_ : L00Src} {list : List Int} {y_ : Int × L00Src} (h : spec_l00Src_among s_ list = some y_) : c_17.F [.mem 3 [L00Src_av s_] 0, .sl 1 (List.map (AV.int .i64) list)] = ⟨true, .int .i64 y_.1, [.mem 3 [L00Src_av y_.2] 0, .any]⟩ := by
 refine mkN_E ?_
 dsimp only [spec_l00Src_among] at h
 obtain ⟨y_1, z1, h⟩ := bd_some h
 have fz1 := Fs_14 z1
 try simp only [go_sem] at fz1
 obtain ⟨z2, h⟩ := ck_some h
 have lz2 := ix_lt z2
 have xz2 := getD_mapD (AV.int .i64) list lz2
 try simp only [go_sem] at lz2
 try simp only [go_sem] at xz2
 try simp only [go_sem, n1, n2, n3, n4] at z2
 all_goals
 obtain rfl := so_some h
 refine ⟨0, fun L hL => ?_⟩
 simp only [go_sem, ir38, fz1, z2, lz2, xz2]


def ir39_v : List Nat := [0, 2]
def ir39 : AFn := ⟨1, 2, .seq (.region false [ VO 1 2 (.mov (I6 0))]) (.seq (.test false [ PM 3 0, PO 4 (.call 36 [(.s 0), (I6 8)])] (.s 0) (.seq (.region false [ PM 5 0, PO 6 (.call 37 [(.s 0), (I6 22001)]), PO 7 (.bin false .add (.s 0) (.c (.int .i64 (-2000)))), VS 1 2 0]) (.ret)) (.skip)) (.seq (.region false [ PM 8 0, PO 9 (.call 37 [(.s 0), (I6 60)]), PO 10 (.bin false .mul (I6 50) (.s 0)), PO 11 (.bin false .add (I6 8000) (.s 0)), VS 1 2 0]) (.ret))), [.t 1]⟩
noncomputable def t_18 : List (Nat × Ctr) := [(36, c_15), (37, c_14)]
theorem lk_18_36 : look t_18 36 = some c_15 := rfl
theorem lk_18_37 : look t_18 37 = some c_14 := rfl
noncomputable def c_18 : Ctr := mkN t_18 ir39 [.io]
theorem s_18 : Sound Tryd.prog 39 c_18 := mkN_sound _ (snd_cons s_15 (snd_cons s_14 snd_nil)) (by kernel_rfl : chkFn Tryd.prog 39 ir39 ir39_v = true)
theorem M_18 : c_18.modes = [.io] := rfl
theorem Fl_18 : c_18.flat = false := rfl
attribute [go_sem] M_18 Fl_18
attribute [go_sem] lk_18_36 lk_18_37
theorem Fs_18 {s_ : L00Src} {y_ : Int × L00Src} (h : spec_l02Draw s_ = some y_) : c_18.F [.mem 3 [L00Src_av s_] 0] = ⟨true, .int .i64 y_.1, [.mem 3 [L00Src_av y_.2] 0]⟩ := by
 refine mkN_E ?_
 dsimp only [spec_l02Draw] at h
 obtain ⟨y_1, z1, h⟩ := bd_some h
 have fz1 := Fs_15 z1
 try simp only [go_sem] at fz1
 rcases it_some h with ⟨z2, h⟩ | ⟨z2, h⟩
 ·try simp only [go_sem, n1, n2, n3, n4] at z2
  all_goals
  obtain ⟨y_3, z3, h⟩ := bd_some h
  have fz3 := Fs_14 z3
  try simp only [go_sem, z2] at fz3
  obtain rfl := so_some h
  refine ⟨0, fun L hL => ?_⟩
  simp only [go_sem, ir39, fz1, z2, fz3]
 ·try simp only [go_sem, n1, n2, n3, n4] at z2
  all_goals
  obtain ⟨y_4, z4, h⟩ := bd_some h
  have fz4 := Fs_14 z4
  try simp only [go_sem, z2] at fz4
  obtain rfl := so_some h
  refine ⟨0, fun L hL => ?_⟩
  simp only [go_sem, ir39, fz1, z2, fz4]


def ir17_v : List Nat := [0, 1, 4, 5]
def ir17 : AFn := ⟨2, 4, .seq (.region false [ VO 2 4 (.alloc (.agg [.str [], .int .i64 (0), .int .i64 (0), .int .i64 (0), .int .i64 (0)]))]) (.seq (.region false [ PM 6 1, PM 7 0, PO 8 (.call 37 [(.s 0), (I6 86400)]), PO 9 (.build [.str [], .int .i64 (0), .int .i64 (0), .int .i64 (0), .int .i64 (0)] [(0, 1, (.s 2)), (1, 1, (.s 0))]), VO 3 5 (.alloc (.agg [.str [], .int .i64 (0), .int .i64 (0), .int .i64 (0), .int .i64 (0)])), ⟨.no, 0, none, .store 5 (.v 3) (.s 0)⟩]) (.seq (.test false [ PM 10 0, PO 11 (.call 36 [(.s 0), (I6 3)])] (.s 0) (.region false [ PM 12 0, PO 13 (.mkSl 1 (.int .i64 (0))
 5 [(0, (I6 0)), (1, (I6 10)), (2, (I6 100)), (3, (I6 86300)), (4, (I6 86399))]), PO 14 (.call 38 [(.s 1), (.s 0)]), PO 15 (.fldAddr 1 (.v 3)), ⟨.no, 0, none, .store 1 (.s 0) (.s 1)⟩]) (.skip)) (.seq (.region false [ PM 16 0, PO 17 (.call 37 [(.s 0), (I6 648001)]), PO 18 (.bin false .sub (.s 0) (I6 324000)), PO 19 (.fldAddr 2 (.v 3)), ⟨.no, 0, none, .store 1 (.s 0) (.s 1)⟩]) (.seq (.test false [ PM 20 0, PO 21 (.call 36 [(.s 0), (I6 3)])] (.s 0) (.region false [ PM 22 0, PO 23 (.call 37 [(.s 0), (I6 9)]), PO 24 (.bin false .sub (.s 0) (I6 4)), PO 25 (.bin false .mul (I6 3600) (.s 0)), PO 26
 (.fldAddr 2 (.v 3)), ⟨.no, 0, none, .store 1 (.s 0) (.s 1)⟩]) (.skip)) (.seq (.region false [ PM 27 0, PO 28 (.call 39 [(.s 0)]), PO 29 (.fldAddr 3 (.v 3)), ⟨.no, 0, none, .store 1 (.s 0) (.s 1)⟩]) (.seq (.anyo 8 [ SO 0 30 (.fldAddr 3 (.v 3)), SO 1 31 (.load false 1 (.s 0)), SO 2 32 (.mov (.v 0)), SO 3 33 (.call 37 [(.s 2), (I6 40)]), SO 4 34 (.bin false .mul (I6 100) (.s 3)), SO 5 35 (.bin false .add (.s 1) (.s 4)), SO 6 36 (.callp 40 [(I6 20000), (.s 5)]), SO 7 37 (.fldAddr 4 (.v 3)), ⟨.no, 0, none, .store 1 (.s 7) (.s 6)⟩] [[2, 0, 1, 3, 4, 5, 6, 7, 8], [2, 0, 3, 1, 4, 5, 6, 7, 8], [2, 3, 0,
 1, 4, 5, 6, 7, 8]] .skip) (.seq (.region false [ PO 38 (.load true 5 (.v 3)), ⟨.no, 0, none, .store 5 (.v 2) (.s 0)⟩]) (.ret)))))))), [.cell true 5 2]⟩
noncomputable def t_19 : List (Nat × Ctr) := [(37, c_14), (36, c_15), (38, c_17), (39, c_18), (40, c_16)]
theorem lk_19_37 : look t_19 37 = some c_14 := rfl
theorem lk_19_36 : look t_19 36 = some c_15 := rfl
theorem lk_19_38 : look t_19 38 = some c_17 := rfl
theorem lk_19_39 : look t_19 39 = some c_18 := rfl
theorem lk_19_40 : look t_19 40 = some c_16 := rfl
noncomputable def c_19 : Ctr := mkN t_19 ir17 [.io, .bor]
theorem s_19 : Sound Tryd.prog 17 c_19 := mkN_sound _ (snd_cons s_14 (snd_cons s_15 (snd_cons s_17 (snd_cons s_18 (snd_cons s_16 snd_nil))))) (by kernel_rfl : chkFn Tryd.prog 17 ir17 ir17_v = true)
theorem M_19 : c_19.modes = [.io, .bor] := rfl
theorem Fl_19 : c_19.flat = false := rfl
attribute [go_sem] M_19 Fl_19
attribute [go_sem] lk_19_37 lk_19_36 lk_19_38 lk_19_39 lk_19_40
theorem Fs_19 {s_ : L00Src} {name : List UInt8} {y_ : Star × L00Src} (h : spec_l04New s_ name = some y_) : c_19.F [.mem 3 [L00Src_av s_] 0, .str name] = ⟨true, Star_av y_.1, [.mem 3 [L00Src_av y_.2] 0, .any]⟩ := by
 refine mkN_E ?_
 dsimp only [spec_l04New] at h
 obtain ⟨y_1, z1, h⟩ := bd_some h
 have fz1 := Fs_14 z1
 try simp only [go_sem] at fz1
 obtain ⟨y_2, z2, h⟩ := bd_some h
 have fz2 := Fs_15 z2
 try simp only [go_sem] at fz2
 rcases it_some h with ⟨z3, h⟩ | ⟨z3, h⟩
 ·try simp only [go_sem, n1, n2, n3, n4] at z3
  all_goals
  obtain ⟨y_4, z4, h⟩ := bd_some h
  have fz4 := Fs_17 z4
  try simp only [go_sem, z3] at fz4
  obtain ⟨y_5, z5, h⟩ := bd_some h
  have fz5 := Fs_14 z5
  try simp only [go_sem, z3] at fz5
  obtain ⟨y_6, z6, h⟩ := bd_some h
  have fz6 := Fs_15 z6
  try simp only [go_sem, z3] at fz6
  rcases it_some h with ⟨z7, h⟩ | ⟨z7, h⟩
  ·try simp only [go_sem, n1, n2, n3, n4, z3] at z7
   all_goals
   obtain ⟨y_8, z8, h⟩ := bd_some h
   have fz8 := Fs_14 z8
   try simp only [go_sem, z3, z7] at fz8
   obtain ⟨y_9, z9, h⟩ := bd_some h
   have fz9 := Fs_18 z9
   try simp only [go_sem, z3, z7] at fz9
   obtain ⟨y_10, z10, h⟩ := bd_some h
   have fz10 := Fs_14 z10
   try simp only [go_sem, z3, z7] at fz10
   obtain ⟨y_11, z11, h⟩ := bd_some h
   have fz11 := Fs_16 z11
   try simp only [go_sem, z3, z7] at fz11
   obtain rfl := so_some h
   refine ⟨0, fun L hL => ?_⟩
   simp only [go_sem, ir17, fz1, fz2, z3, fz4, fz5, fz6, z7, fz8, fz9, fz10, fz11]
  ·try simp only [go_sem, n1, n2, n3, n4, z3] at z7
   all_goals
   obtain ⟨y_12, z12, h⟩ := bd_some h
   have fz12 := Fs_18 z12
   try simp only [go_sem, z3, z7] at fz12
   obtain ⟨y_13, z13, h⟩ := bd_some h
   have fz13 := Fs_14 z13
   try simp only [go_sem, z3, z7] at fz13
   obtain ⟨y_14, z14, h⟩ := bd_some h
   have fz14 := Fs_16 z14
   try simp only [go_sem, z3, z7] at fz14
   obtain rfl := so_some h
   refine ⟨0, fun L hL => ?_⟩
   simp only [go_sem, ir17, fz1, fz2, z3, fz4, fz5, fz6, z7, fz12, fz13, fz14]
 ·try simp only [go_sem, n1, n2, n3, n4] at z3
  all_goals
  obtain ⟨y_15, z15, h⟩ := bd_some h
  have fz15 := Fs_14 z15
  try simp only [go_sem, z3] at fz15
  obtain ⟨y_16, z16, h⟩ := bd_some h
  have fz16 := Fs_15 z16
  try simp only [go_sem, z3] at fz16
  rcases it_some h with ⟨z17, h⟩ | ⟨z17, h⟩
  ·try simp only [go_sem, n1, n2, n3, n4, z3] at z17
   all_goals
   obtain ⟨y_18, z18, h⟩ := bd_some h
   have fz18 := Fs_14 z18
   try simp only [go_sem, z3, z17] at fz18
   obtain ⟨y_19, z19, h⟩ := bd_some h
   have fz19 := Fs_18 z19
   try simp only [go_sem, z3, z17] at fz19
   obtain ⟨y_20, z20, h⟩ := bd_some h
   have fz20 := Fs_14 z20
   try simp only [go_sem, z3, z17] at fz20
   obtain ⟨y_21, z21, h⟩ := bd_some h
   have fz21 := Fs_16 z21
   try simp only [go_sem, z3, z17] at fz21
   obtain rfl := so_some h
   refine ⟨0, fun L hL => ?_⟩
   simp only [go_sem, ir17, fz1, fz2, z3, fz15, fz16, z17, fz18, fz19, fz20, fz21]
  ·try simp only [go_sem, n1, n2, n3, n4, z3] at z17
   all_goals
   obtain ⟨y_22, z22, h⟩ := bd_some h
   have fz22 := Fs_18 z22
   try simp only [go_sem, z3, z17] at fz22
   obtain ⟨y_23, z23, h⟩ := bd_some h
   have fz23 := Fs_14 z23
   try simp only [go_sem, z3, z17] at fz23
   obtain ⟨y_24, z24, h⟩ := bd_some h
   have fz24 := Fs_16 z24
   try simp only [go_sem, z3, z17] at fz24
   obtain rfl := so_some h
   refine ⟨0, fun L hL => ?_⟩
   simp only [go_sem, ir17, fz1, fz2, z3, fz15, fz16, z17, fz22, fz23, fz24]


def ir15_b0 : IR := .seq (.test false [ PM 8 4, PM 9 2, PO 10 (.len false (.s 0)), PO 11 (.bin false .lss (.s 2) (.s 0))] (.s 0) (.skip) (.exit 0)) (.seq (.block 1 (.test false [ PM 14 0, PO 15 (.call 36 [(.s 0), (I6 2)])] (.s 0) (.region false [ PM 16 3, PM 17 0, PM 18 2, PM 19 4, PO 20 (.ixAddr 1 (.s 1) (.s 0)), PO 21 (.load false 1 (.s 0)), PO 22 (.call 17 [(.s 4), (.s 0)]), PO 23 (.mkSl 5 (.agg [.str [], .int .i64 (0), .int .i64 (0), .int .i64 (0), .int .i64 (0)]) 1 [(0, (.s 0))]), PO 24 (.app 5 48 (.agg [.str [], .int .i64 (0), .int .i64 (0), .int .i64 (0), .int .i64 (0)]) (.s 7) (.s 0)),
 VS 3 4 0]) (.skip))) (.region false [ PM 12 4, PO 13 (.bin false .add (.s 0) (I6 1)), VS 4 5 0]))
def ir15_k0 : List Bool := [true, false, true, true, true]
def ir15_o0 : List Bool := [true, false, false, true, false]
def ir15_r0 : List Bool := [true, true, false, false, false]
def ir15_v : List Nat := [0, 2, 3, 4, 5]
def ir15 : AFn := ⟨1, 5, .seq (.region false [ VO 1 2 (.newnil 5)]) (.seq (.region false [ PO 6 (.call 19 []), VS 2 3 0]) (.seq (.region false [ PO 7 (.mkSl 5 (.agg [.str [], .int .i64 (0), .int .i64 (0), .int .i64 (0), .int .i64 (0)]) 0 []), VS 3 4 0]) (.seq (.seq (.region false [ VO 4 5 (.mov (I6 0))]) (.block 0 (.loop ir15_k0 ir15_o0 ir15_r0 ir15_b0))) (.seq (.region false [ PM 25 3, VS 1 2 0]) (.ret))))), [.t 1]⟩
noncomputable def t_20 : List (Nat × Ctr) := [(19, c_12), (36, c_15), (17, c_19)]
theorem lk_20_19 : look t_20 19 = some c_12 := rfl
theorem lk_20_36 : look t_20 36 = some c_15 := rfl
theorem lk_20_17 : look t_20 17 = some c_19 := rfl
noncomputable def c_20 : Ctr := mkN t_20 ir15 [.io]
theorem s_20 : Sound Tryd.prog 15 c_20 := mkN_sound _ (snd_cons s_12 (snd_cons s_15 (snd_cons s_19 snd_nil))) (by kernel_rfl : chkFn Tryd.prog 15 ir15 ir15_v = true)
theorem M_20 : c_20.modes = [.io] := rfl
theorem Fl_20 : c_20.flat = false := rfl
attribute [go_sem] M_20 Fl_20
attribute [go_sem] lk_20_19 lk_20_36 lk_20_17
def E_20_l1 (names : List (List UInt8)) : (L00Src × (List Star) × Int) → St
 | (s_, out, k) => ⟨[.ref 31 0 0, .any, .own 3200032, .own 3200064, .int .i64 k], [], [(31, ⟨3, [L00Src_av s_]⟩), (3200032, ⟨1, List.map AV.str names⟩), (3200064, ⟨5, List.map Star_av out⟩)], true⟩
def R_20_l1 (names : List (List UInt8)) (y : L00Src × (List Star)) : Res := (.exit 0, ⟨[.ref 31 0 0, .any, .any, .own 3200032, .any], [], [(31, ⟨3, [L00Src_av y.1]⟩), (3200032, ⟨5, List.map Star_av y.2⟩)], true⟩)
theorem spec_l04Draw_l1_ex {names : List (List UInt8)} {sgm_ : L00Src × (List Star) × Int} {rho_ : L00Src × (List Star)} (h : whileE (spec_l04Draw_l1 names) sgm_ = some rho_) : ∃ L0, ∀ L, L0 ≤ L → iter (exec (look t_20) L ir15_b0) ir15_k0 ir15_o0 ir15_r0 L (E_20_l1 names sgm_) = R_20_l1 names rho_ := by
 refine loop_ex (E := E_20_l1 names) (R := R_20_l1 names) (fun y => by first | (intro c; cases c) | (rcases y with y | y <;> (intro c; cases c)) | (rcases y with y | y | y <;> (intro c; cases c))) ?_ h
 clear h
 rintro ⟨s_, out, k⟩ o_ h
 dsimp only [spec_l04Draw_l1] at h
 rcases it_some h with ⟨z2, h⟩ | ⟨z2, h⟩
 ·try simp only [go_sem, n1, n2, n3, n4] at z2
  all_goals
  obtain ⟨y_3, z3, h⟩ := bd_some h
  have fz3 := Fs_15 z3
  try simp only [go_sem, z2] at fz3
  rcases it_some h with ⟨z4, h⟩ | ⟨z4, h⟩
  ·try simp only [go_sem, n1, n2, n3, n4, z2] at z4
   all_goals
   obtain ⟨z5, h⟩ := ck_some h
   have lz5 := ix_lt z5
   have xz5 := getD_mapD AV.str names lz5
   try simp only [go_sem] at lz5
   try simp only [go_sem] at xz5
   try simp only [go_sem, n1, n2, n3, n4, z2, z4] at z5
   all_goals
   obtain ⟨y_6, z6, h⟩ := bd_some h
   have fz6 := Fs_19 z6
   try simp only [go_sem, z2, z4, z5] at fz6
   obtain ⟨z7, h⟩ := ck_some h
   try simp only [go_sem, n1, n2, n3, n4, z2, z4, z5] at z7
   all_goals
   obtain rfl := so_some h
   refine ⟨0, fun L hL => ?_⟩
   simp only [go_sem, ir15, E_20_l1, R_20_l1, ir15_b0, ir15_k0, ir15_o0, ir15_r0, z2, fz3, z4, z5, lz5, xz5, fz6, z7]
  ·try simp only [go_sem, n1, n2, n3, n4, z2] at z4
   all_goals
   obtain rfl := so_some h
   refine ⟨0, fun L hL => ?_⟩
   simp only [go_sem, ir15, E_20_l1, R_20_l1, ir15_b0, ir15_k0, ir15_o0, ir15_r0, z2, fz3, z4]
 ·try simp only [go_sem, n1, n2, n3, n4] at z2
  all_goals
  obtain rfl := so_some h
  refine ⟨0, fun L hL => ?_⟩
  simp only [go_sem, ir15, E_20_l1, R_20_l1, ir15_b0, ir15_k0, ir15_o0, ir15_r0, z2]

theorem Fs_20 {s_ : L00Src} {y_ : (List Star) × L00Src} (h : spec_l04Draw s_ = some y_) : c_20.F [.mem 3 [L00Src_av s_] 0] = ⟨true, .fresh 5 (List.map Star_av y_.1), [.mem 3 [L00Src_av y_.2] 0]⟩ := by
 refine mkN_E ?_
 dsimp only [spec_l04Draw] at h
 obtain ⟨y_1, z1, h⟩ := bd_some h
 have fz1 := Fs_12 z1
 try simp only [go_sem] at fz1
 obtain ⟨y_8, z8, h⟩ := bd_some h
 obtain ⟨Lz8, ez8⟩ := spec_l04Draw_l1_ex z8
 obtain rfl := so_some h
 refine ⟨Lz8, fun L hL => ?_⟩
 have ez8 := ez8 L (by omega)
 try simp only [go_sem, E_20_l1, R_20_l1, ir15_k0, ir15_o0, ir15_r0] at ez8
 simp only [go_sem, ir15, E_20_l1, R_20_l1, ir15_k0, ir15_o0, ir15_r0, fz1, ez8]


def ir5_v : List Nat := [0, 2]
def ir5 : AFn := ⟨1, 2, .seq (.region false [ VO 1 2 (.newnil 5)]) (.seq (.region false [ PM 3 0, PO 4 (.call 16 [(.s 0)]), PO 5 (.call 15 [(.s 0)]), VS 1 2 0]) (.ret)), [.t 1]⟩
noncomputable def t_21 : List (Nat × Ctr) := [(16, c_11), (15, c_20)]
theorem lk_21_16 : look t_21 16 = some c_11 := rfl
theorem lk_21_15 : look t_21 15 = some c_20 := rfl
noncomputable def c_21 : Ctr := mkF t_21 ir5 [.bor]
theorem s_21 : Sound Tryd.prog 5 c_21 := mkF_sound _ rfl (snd_cons s_11 (snd_cons s_20 snd_nil)) (by kernel_rfl : chkFn Tryd.prog 5 ir5 ir5_v = true)
theorem M_21 : c_21.modes = [.bor] := rfl
theorem Fl_21 : c_21.flat = true := rfl
attribute [go_sem] M_21 Fl_21
attribute [go_sem] lk_21_16 lk_21_15
theorem Fs_21 {code : List UInt8} {y_ : (List Star)} (h : spec_A2Stars code = some y_) : c_21.F [.sl 1 (List.map byteAV code)] = ⟨true, .fresh 5 (List.map Star_av y_), [.any]⟩ := by
 refine mkF_E (by simp only [flatA, flatB, flat1, List.all_cons, List.all_nil, Bool.and_self, flatE_map (f := Star_av) (fun _ => rfl)]) ?_
 dsimp only [spec_A2Stars] at h
 obtain ⟨y_1, z1, h⟩ := bd_some h
 have fz1 := Fs_11 z1
 try simp only [go_sem] at fz1
 obtain ⟨y_2, z2, h⟩ := bd_some h
 have fz2 := Fs_20 z2
 try simp only [go_sem] at fz2
 obtain rfl := so_some h
 refine ⟨0, fun L hL => ?_⟩
 simp only [go_sem, ir5, fz1, fz2]


def ir18_v : List Nat := [0, 1, 4]
def ir18 : AFn := ⟨2, 3, .seq (.region false [ VO 2 4 (.mov (.c (.str [])))]) (.seq (.region false [ PM 5 1, PM 6 0, PM 7 1, PO 8 (.len false (.s 0)), PO 9 (.call 37 [(.s 2), (.s 0)]), PO 10 (.ixAddr 1 (.s 4) (.s 0)), PO 11 (.load false 1 (.s 0)), VS 2 4 0]) (.ret)), [.t 2]⟩
noncomputable def t_22 : List (Nat × Ctr) := [(37, c_14)]
theorem lk_22_37 : look t_22 37 = some c_14 := rfl
noncomputable def c_22 : Ctr := mkN t_22 ir18 [.io, .bor]
theorem s_22 : Sound Tryd.prog 18 c_22 := mkN_sound _ (snd_cons s_14 snd_nil) (by kernel_rfl : chkFn Tryd.prog 18 ir18 ir18_v = true)
theorem M_22 : c_22.modes = [.io, .bor] := rfl
theorem Fl_22 : c_22.flat = false := rfl
attribute [go_sem] M_22 Fl_22
attribute [go_sem] lk_22_37
theorem Fs_22 {s_ : L00Src} {list : List (List UInt8)} {y_ : (List UInt8) × L00Src} (h : spec_l00Src_text s_ list = some y_) : c_22.F [.mem 3 [L00Src_av s_] 0, .sl 1 (List.map AV.str list)] = ⟨true, .str y_.1, [.mem 3 [L00Src_av y_.2] 0, .any]⟩ := by
 refine mkN_E ?_
 dsimp only [spec_l00Src_text] at h
 obtain ⟨y_1, z1, h⟩ := bd_some h
 have fz1 := Fs_14 z1
 try simp only [go_sem] at fz1
 obtain ⟨z2, h⟩ := ck_some h
 have lz2 := ix_lt z2
 have xz2 := getD_mapD AV.str list lz2
 try simp only [go_sem] at lz2
 try simp only [go_sem] at xz2
 try simp only [go_sem, n1, n2, n3, n4] at z2
 all_goals
 obtain rfl := so_some h
 refine ⟨0, fun L hL => ?_⟩
 simp only [go_sem, ir18, fz1, z2, lz2, xz2]


def ir6_v : List Nat := [0, 2, 3]
def ir6 : AFn := ⟨1, 3, .seq (.region false [ VO 1 2 (.alloc (.agg [.str [], .int .i64 (0), .int .i64 (0), .int .i64 (0), .int .i64 (0)]))]) (.seq (.region false [ PM 4 0, PO 5 (.call 16 [(.s 0)]), VS 2 3 0]) (.seq (.region false [ PM 6 2, PM 7 2, PO 8 (.call 19 []), PO 9 (.call 18 [(.s 1), (.s 0)]), PO 10 (.call 17 [(.s 3), (.s 0)]), ⟨.no, 0, none, .store 5 (.v 1) (.s 0)⟩]) (.ret))), [.cell true 5 1]⟩
noncomputable def t_23 : List (Nat × Ctr) := [(16, c_11), (19, c_12), (18, c_22), (17, c_19)]
theorem lk_23_16 : look t_23 16 = some c_11 := rfl
theorem lk_23_19 : look t_23 19 = some c_12 := rfl
theorem lk_23_18 : look t_23 18 = some c_22 := rfl
theorem lk_23_17 : look t_23 17 = some c_19 := rfl
noncomputable def c_23 : Ctr := mkN t_23 ir6 [.bor]
theorem s_23 : Sound Tryd.prog 6 c_23 := mkN_sound _ (snd_cons s_11 (snd_cons s_12 (snd_cons s_22 (snd_cons s_19 snd_nil)))) (by kernel_rfl : chkFn Tryd.prog 6 ir6 ir6_v = true)
theorem M_23 : c_23.modes = [.bor] := rfl
theorem Fl_23 : c_23.flat = false := rfl
attribute [go_sem] M_23 Fl_23
attribute [go_sem] lk_23_16 lk_23_19 lk_23_18 lk_23_17
theorem Fs_23 {code : List UInt8} {y_ : Star} (h : spec_A2Star code = some y_) : c_23.F [.sl 1 (List.map byteAV code)] = ⟨true, Star_av y_, [.any]⟩ := by
 refine mkN_E ?_
 dsimp only [spec_A2Star] at h
 obtain ⟨y_1, z1, h⟩ := bd_some h
 have fz1 := Fs_11 z1
 try simp only [go_sem] at fz1
 obtain ⟨y_2, z2, h⟩ := bd_some h
 have fz2 := Fs_12 z2
 try simp only [go_sem] at fz2
 obtain ⟨y_3, z3, h⟩ := bd_some h
 have fz3 := Fs_22 z3
 try simp only [go_sem] at fz3
 obtain ⟨y_4, z4, h⟩ := bd_some h
 have fz4 := Fs_19 z4
 try simp only [go_sem] at fz4
 obtain rfl := so_some h
 refine ⟨0, fun L hL => ?_⟩
 simp only [go_sem, ir6, fz1, fz2, fz3, fz4]


def ir33_v : List Nat := [0, 1, 2, 6]
def ir33 : AFn := ⟨3, 4, .seq (.region false [ VO 3 6 (.mov (.c (.bool false)))]) (.seq (.region false [ PM 7 0, PM 8 1, PO 9 (.bin false .geq (.s 1) (.s 0)), PO 10 (.mov (.s 0)), ⟨.push, 11, (some ((.s 0), true)), .mov (.v 0)⟩, ⟨.push, 12, (some ((.s 1), true)), .mov (.v 2)⟩, ⟨.push, 13, (some ((.s 2), true)), .bin false .leq (.s 1) (.s 0)⟩, PO 14 (.pick (.s 3) (.s 0) (.c (.bool false))), VS 3 6 0]) (.ret)), [.t 3]⟩
noncomputable def t_24 : List (Nat × Ctr) := []
noncomputable def c_24 : Ctr := mkF t_24 ir33 [.bor, .bor, .bor]
theorem s_24 : Sound Tryd.prog 33 c_24 := mkF_sound _ rfl snd_nil (by kernel_rfl : chkFn Tryd.prog 33 ir33 ir33_v = true)
theorem M_24 : c_24.modes = [.bor, .bor, .bor] := rfl
theorem Fl_24 : c_24.flat = true := rfl
attribute [go_sem] M_24 Fl_24
theorem Fs_24 {n : Int} {low : Int} {high : Int} {y_ : Bool} (h : impl_in n low high = some y_) : c_24.F [.int .i64 n, .int .i64 low, .int .i64 high] = ⟨true, .bool y_, [.any, .any, .any]⟩ := by
 refine mkF_E rfl ?_
 dsimp only [impl_in] at h
 obtain rfl := so_some h
 refine ⟨0, fun L hL => ?_⟩
 simp only [go_sem, ir33]


def ir41_b0 : IR := .seq (.region false [ VO 7 17 (.bin false .lss (.v 6) (.v 5))]) (.seq (.cond (.v 7) (.skip) (.exit 0)) (.seq (.block 1 (.seq (.region false [ PM 18 6, VS 2 3 0]) (.seq (.region false [ PM 19 0, PM 20 2, PO 21 (.ixStr (.s 1) (.s 0)), PO 22 (.bin false .geq (.s 0) (.c (.int .u8 (97)))), PO 23 (.mov (.s 0)), ⟨.push, 24, (some ((.s 0), true)), .mov (.v 0)⟩, ⟨.push, 25, (some ((.s 1), true)), .mov (.v 2)⟩, ⟨.push, 26, (some ((.s 2), true)), .ixStr (.s 1) (.s 0)⟩, ⟨.push, 27, (some ((.s 3), true)), .bin false .leq (.s 0) (.c (.int .u8 (122)))⟩, PO 28 (.pick (.s 4) (.s 0) (.c
 (.bool false))), VS 3 4 0]) (.seq (.region false [ PM 29 0, PM 30 2, PO 31 (.ixStr (.s 1) (.s 0)), PO 32 (.bin false .geq (.s 0) (.c (.int .u8 (48)))), PO 33 (.mov (.s 0)), ⟨.push, 34, (some ((.s 0), true)), .mov (.v 0)⟩, ⟨.push, 35, (some ((.s 1), true)), .mov (.v 2)⟩, ⟨.push, 36, (some ((.s 2), true)), .ixStr (.s 1) (.s 0)⟩, ⟨.push, 37, (some ((.s 3), true)), .bin false .leq (.s 0) (.c (.int .u8 (57)))⟩, PO 38 (.pick (.s 4) (.s 0) (.c (.bool false))), PO 39 (.mov (.s 0)), ⟨.push, 40, (some ((.s 0), false)), .mov (.v 0)⟩, ⟨.push, 41, (some ((.s 1), false)), .mov (.v 2)⟩, ⟨.push, 42, (some
 ((.s 2), false)), .ixStr (.s 1) (.s 0)⟩, ⟨.push, 43, (some ((.s 3), false)), .bin false .eql (.s 0) (.c (.int .u8 (45)))⟩, PO 44 (.pick (.s 4) (.c (.bool true)) (.s 0)), VS 4 5 0]) (.test false [ PM 45 3, PO 46 (.un .not (.s 0)), PO 47 (.mov (.s 0)), ⟨.push, 48, (some ((.s 0), true)), .mov (.v 2)⟩, ⟨.push, 49, (some ((.s 1), true)), .bin false .eql (.s 0) (I6 0)⟩, ⟨.push, 50, (some ((.s 2), true)), .mov (.s 0)⟩, ⟨.push, 51, (some ((.s 0), false)), .mov (.v 4)⟩, ⟨.push, 52, (some ((.s 1), false)), .un .not (.s 0)⟩, ⟨.push, 53, (some ((.s 5), true)), .pick (.s 2) (.c (.bool true)) (.s 0)⟩, PO 54
 (.pick (.s 6) (.s 0) (.c (.bool false)))] (.s 0) (.seq (.region false [ VO 1 2 (.mov (.c (.bool false)))]) (.ret)) (.skip)))))) (.region false [ PO 55 (.bin false .add (.v 6) (I6 1)), VS 6 16 0])))
def ir41_k0 : List Bool := [true, false, false, false, false, true, true, false]
def ir41_o0 : List Bool := [false, false, false, false, false, false, false, false]
def ir41_r0 : List Bool := [false, true, false, false, false, false, false, false]
def ir41_v : List Nat := [0, 2, 3, 4, 5, 15, 16, 17]
def ir41 : AFn := ⟨1, 8, .seq (.region false [ VO 1 2 (.mov (.c (.bool false)))]) (.seq (.test false [ PM 6 0, PO 7 (.len true (.s 0)), PO 8 (.bin false .lss (.s 0) (I6 1)), PO 9 (.mov (.s 0)), ⟨.push, 10, (some ((.s 0), false)), .mov (.v 0)⟩, ⟨.push, 11, (some ((.s 1), false)), .len true (.s 0)⟩, ⟨.push, 12, (some ((.s 2), false)), .bin false .gtr (.s 0) (I6 12)⟩, PO 13 (.pick (.s 3) (.c (.bool true)) (.s 0))] (.s 0) (.seq (.region false [ VO 1 2 (.mov (.c (.bool false)))]) (.ret)) (.skip)) (.seq (.seq (.region false [ PM 14 0, VO 5 15 (.len true (.s 0)), VO 6 16 (.mov (I6 0))]) (.block 0
 (.loop ir41_k0 ir41_o0 ir41_r0 ir41_b0))) (.seq (.region false [ VO 1 2 (.mov (.c (.bool true)))]) (.ret)))), [.t 1]⟩
noncomputable def t_25 : List (Nat × Ctr) := []
noncomputable def c_25 : Ctr := mkF t_25 ir41 [.bor]
theorem s_25 : Sound Tryd.prog 41 c_25 := mkF_sound _ rfl snd_nil (by kernel_rfl : chkFn Tryd.prog 41 ir41 ir41_v = true)
theorem M_25 : c_25.modes = [.bor] := rfl
theorem Fl_25 : c_25.flat = true := rfl
attribute [go_sem] M_25 Fl_25
def E_25_l1 (s_ : List UInt8) (t15 : Int) : Int → St
 | t16 => ⟨[.str s_, .any, .any, .any, .any, .int .i64 t15, .int .i64 t16, .any], [], [], true⟩
def R_25_l1 (s_ : List UInt8) (t15 : Int) : (Unit ⊕ Bool) → Res
 | .inl y => (.exit 0, ⟨[.any, .any, .any, .any, .any, .any, .any, .any], [], [], true⟩)
 | .inr y => (.ret, ⟨[.any, .bool y, .any, .any, .any, .any, .any, .any], [], [], true⟩)
theorem impl_IsName_l1_ex {s_ : List UInt8} {t15 : Int} {sgm_ : Int} {rho_ : Unit ⊕ Bool} (h : whileE (impl_IsName_l1 s_ t15) sgm_ = some rho_) : ∃ L0, ∀ L, L0 ≤ L → iter (exec (look t_25) L ir41_b0) ir41_k0 ir41_o0 ir41_r0 L (E_25_l1 s_ t15 sgm_) = R_25_l1 s_ t15 rho_ := by
 refine loop_ex (E := E_25_l1 s_ t15) (R := R_25_l1 s_ t15) (fun y => by first | (intro c; cases c) | (rcases y with y | y <;> (intro c; cases c)) | (rcases y with y | y | y <;> (intro c; cases c))) ?_ h
 clear h
 intro t16 o_ h
 dsimp only [impl_IsName_l1] at h
 rcases it_some h with ⟨z2, h⟩ | ⟨z2, h⟩
 ·try simp only [go_sem, n1, n2, n3, n4] at z2
  all_goals
  obtain ⟨z3, h⟩ := ck_some h
  try simp only [go_sem, n1, n2, n3, n4, z2] at z3
  all_goals
  rcases it_some h with ⟨z4, h⟩ | ⟨z4, h⟩
  ·try simp only [go_sem, n1, n2, n3, n4, z2, z3] at z4
   all_goals
   obtain rfl := so_some h
   refine ⟨0, fun L hL => ?_⟩
   simp only [go_sem, ir41, E_25_l1, R_25_l1, ir41_b0, ir41_k0, ir41_o0, ir41_r0, z2, z3, z4]
  ·try simp only [go_sem, n1, n2, n3, n4, z2, z3] at z4
   all_goals
   obtain rfl := so_some h
   refine ⟨0, fun L hL => ?_⟩
   simp only [go_sem, ir41, E_25_l1, R_25_l1, ir41_b0, ir41_k0, ir41_o0, ir41_r0, z2, z3, z4]
 ·try simp only [go_sem, n1, n2, n3, n4] at z2
  all_goals
  obtain rfl := so_some h
  refine ⟨0, fun L hL => ?_⟩
  simp only [go_sem, ir41, E_25_l1, R_25_l1, ir41_b0, ir41_k0, ir41_o0, ir41_r0, z2]

theorem Fs_25 {s_ : List UInt8} {y_ : Bool} (h : impl_IsName s_ = some y_) : c_25.F [.str s_] = ⟨true, .bool y_, [.any]⟩ := by
 refine mkF_E rfl ?_
 dsimp only [impl_IsName] at h
 rcases it_some h with ⟨z1, h⟩ | ⟨z1, h⟩
 ·try simp only [go_sem, n1, n2, n3, n4] at z1
  all_goals
  obtain rfl := so_some h
  refine ⟨0, fun L hL => ?_⟩
  simp only [go_sem, ir41, E_25_l1, R_25_l1, ir41_k0, ir41_o0, ir41_r0, z1]
 ·try simp only [go_sem, n1, n2, n3, n4] at z1
  all_goals
  obtain ⟨y_5, z5, h⟩ := bd_some h
  obtain ⟨Lz5, ez5⟩ := impl_IsName_l1_ex z5
  rcases y_5 with y_5a | y_5b
  ·dsimp only at h
   obtain rfl := so_some h
   refine ⟨Lz5, fun L hL => ?_⟩
   have ez5 := ez5 L (by omega)
   try simp only [go_sem, E_25_l1, R_25_l1, ir41_k0, ir41_o0, ir41_r0, z1] at ez5
   simp only [go_sem, ir41, E_25_l1, R_25_l1, ir41_k0, ir41_o0, ir41_r0, z1, ez5]
  ·dsimp only at h
   obtain rfl := so_some h
   refine ⟨Lz5, fun L hL => ?_⟩
   have ez5 := ez5 L (by omega)
   try simp only [go_sem, E_25_l1, R_25_l1, ir41_k0, ir41_o0, ir41_r0, z1] at ez5
   simp only [go_sem, ir41, E_25_l1, R_25_l1, ir41_k0, ir41_o0, ir41_r0, z1, ez5]


def ir30_v : List Nat := [0, 2]
def ir30 : AFn := ⟨1, 2, .seq (.region false [ VO 1 2 (.mov (.c (.bool false)))]) (.seq (.region false [ PM 3 0, PO 4 (.call 33 [(.s 0), (.c (.int .i64 (-2000))), (I6 20000)]), VS 1 2 0]) (.ret)), [.t 1]⟩
noncomputable def t_26 : List (Nat × Ctr) := [(33, c_24)]
theorem lk_26_33 : look t_26 33 = some c_24 := rfl
noncomputable def c_26 : Ctr := mkF t_26 ir30 [.bor]
theorem s_26 : Sound Tryd.prog 30 c_26 := mkF_sound _ rfl (snd_cons s_24 snd_nil) (by kernel_rfl : chkFn Tryd.prog 30 ir30 ir30_v = true)
theorem M_26 : c_26.modes = [.bor] := rfl
theorem Fl_26 : c_26.flat = true := rfl
attribute [go_sem] M_26 Fl_26
attribute [go_sem] lk_26_33
theorem Fs_26 {m : Int} {y_ : Bool} (h : impl_ValidMag m = some y_) : c_26.F [.int .i64 m] = ⟨true, .bool y_, [.any]⟩ := by
 refine mkF_E rfl ?_
 dsimp only [impl_ValidMag] at h
 obtain ⟨y_1, z1, h⟩ := bd_some h
 have fz1 := Fs_24 z1
 try simp only [go_sem] at fz1
 obtain rfl := so_some h
 refine ⟨0, fun L hL => ?_⟩
 simp only [go_sem, ir30, fz1]


def ir20_v : List Nat := [0, 1, 2, 3]
def ir20 : AFn := ⟨1, 4, .seq (.region false [ VO 1 1 (.box (.v 0)), VO 2 2 (.mov (.c (.bool false)))]) (.seq (.region false [ PO 4 (.fldAddr 1 (.v 1)), PO 5 (.load false 1 (.s 0)), PO 6 (.call 33 [(.s 0), (I6 0), (I6 86399)]), PO 7 (.mov (.s 0)), ⟨.push, 8, (some ((.s 0), true)), .fldAddr 2 (.v 1)⟩, ⟨.push, 9, (some ((.s 1), true)), .load false 1 (.s 0)⟩, ⟨.push, 10, (some ((.s 2), true)), .call 33 [(.s 0), (.c (.int .i64 (-324000))), (I6 324000)]⟩, PO 11 (.pick (.s 3) (.s 0) (.c (.bool false))), VS 3 3 0]) (.seq (.region false [ PO 12 (.fldAddr 0 (.v 1)), PO 13 (.load false 1 (.s 0)), PO 14
 (.call 41 [(.s 0)]), PO 15 (.mov (.s 0)), ⟨.push, 16, (some ((.s 0), true)), .mov (.v 3)⟩, PO 17 (.pick (.s 1) (.s 0) (.c (.bool false))), PO 18 (.mov (.s 0)), ⟨.push, 19, (some ((.s 0), true)), .fldAddr 3 (.v 1)⟩, ⟨.push, 20, (some ((.s 1), true)), .load false 1 (.s 0)⟩, ⟨.push, 21, (some ((.s 2), true)), .call 30 [(.s 0)]⟩, PO 22 (.pick (.s 3) (.s 0) (.c (.bool false))), PO 23 (.mov (.s 0)), ⟨.push, 24, (some ((.s 0), true)), .fldAddr 4 (.v 1)⟩, ⟨.push, 25, (some ((.s 1), true)), .load false 1 (.s 0)⟩, ⟨.push, 26, (some ((.s 2), true)), .call 30 [(.s 0)]⟩, PO 27 (.pick (.s 3) (.s 0) (.c
 (.bool false))), PO 28 (.mov (.s 0)), ⟨.push, 29, (some ((.s 0), true)), .fldAddr 3 (.v 1)⟩, ⟨.push, 30, (some ((.s 1), true)), .load false 1 (.s 0)⟩, ⟨.push, 31, (some ((.s 2), true)), .fldAddr 4 (.v 1)⟩, ⟨.push, 32, (some ((.s 3), true)), .load false 1 (.s 0)⟩, ⟨.push, 33, (some ((.s 4), true)), .bin false .leq (.s 2) (.s 0)⟩, PO 34 (.pick (.s 5) (.s 0) (.c (.bool false))), VS 2 2 0]) (.ret))), [.t 2]⟩
noncomputable def t_27 : List (Nat × Ctr) := [(33, c_24), (41, c_25), (30, c_26)]
theorem lk_27_33 : look t_27 33 = some c_24 := rfl
theorem lk_27_41 : look t_27 41 = some c_25 := rfl
theorem lk_27_30 : look t_27 30 = some c_26 := rfl
noncomputable def c_27 : Ctr := mkF t_27 ir20 [.bor]
theorem s_27 : Sound Tryd.prog 20 c_27 := mkF_sound _ rfl (snd_cons s_24 (snd_cons s_25 (snd_cons s_26 snd_nil))) (by kernel_rfl : chkFn Tryd.prog 20 ir20 ir20_v = true)
theorem M_27 : c_27.modes = [.bor] := rfl
theorem Fl_27 : c_27.flat = true := rfl
attribute [go_sem] M_27 Fl_27
attribute [go_sem] lk_27_33 lk_27_41 lk_27_30
theorem Fs_27 {x : Star} {y_ : Bool} (h : impl_isStar x = some y_) : c_27.F [Star_av x] = ⟨true, .bool y_, [.any]⟩ := by
 refine mkF_E rfl ?_
 dsimp only [impl_isStar] at h
 obtain ⟨y_1, z1, h⟩ := bd_some h
 have fz1 := Fs_24 z1
 try simp only [go_sem] at fz1
 obtain ⟨z2, h⟩ := ck_some h
 rcases or_split z2 with ⟨gz2, z2⟩ | gz2
 ·try simp only [go_sem, n1, n2, n3, n4] at gz2
  all_goals
  obtain ⟨y_2, hz2⟩ := Option.isSome_iff_exists.1 z2
  have fz2 := Fs_24 hz2
  try simp only [go_sem, n1, n2, n3, n4, gz2] at hz2
  all_goals
  try simp only [go_sem, gz2] at fz2
  obtain ⟨y_3, z3, h⟩ := bd_some h
  have fz3 := Fs_25 z3
  try simp only [go_sem, gz2, hz2] at fz3
  obtain ⟨z4, h⟩ := ck_some h
  rcases or_split z4 with ⟨gz4, z4⟩ | gz4
  ·try simp only [go_sem, n1, n2, n3, n4, gz2, hz2] at gz4
   all_goals
   obtain ⟨y_4, hz4⟩ := Option.isSome_iff_exists.1 z4
   have fz4 := Fs_26 hz4
   try simp only [go_sem, n1, n2, n3, n4, gz2, hz2, gz4] at hz4
   all_goals
   try simp only [go_sem, gz2, hz2, gz4] at fz4
   obtain ⟨z5, h⟩ := ck_some h
   rcases or_split z5 with ⟨gz5, z5⟩ | gz5
   ·try simp only [go_sem, n1, n2, n3, n4, gz2, hz2, gz4, hz4] at gz5
    all_goals
    obtain ⟨y_5, hz5⟩ := Option.isSome_iff_exists.1 z5
    have fz5 := Fs_26 hz5
    try simp only [go_sem, n1, n2, n3, n4, gz2, hz2, gz4, hz4, gz5] at hz5
    all_goals
    try simp only [go_sem, gz2, hz2, gz4, hz4, gz5] at fz5
    obtain rfl := so_some h
    refine ⟨0, fun L hL => ?_⟩
    simp only [go_sem, ir20, fz1, gz2, hz2, fz2, fz3, gz4, hz4, fz4, gz5, hz5, fz5]
   ·rcases and_f gz5 with gz5a | ⟨gz5a, gz5b⟩
    ·try simp only [go_sem, n1, n2, n3, n4, gz2, hz2, gz4, hz4] at gz5a
     all_goals
     (simp_all)
    ·obtain ⟨gz5aa, gz5ab⟩ := and_t gz5a
     obtain ⟨gz5aba, gz5abb⟩ := and_t gz5ab
     try simp only [go_sem, n1, n2, n3, n4, gz2, hz2, gz4, hz4] at gz5aa
     all_goals
     try simp only [go_sem, n1, n2, n3, n4, gz2, hz2, gz4, hz4, gz5aa] at gz5aba
     all_goals
     try simp only [go_sem, n1, n2, n3, n4, gz2, hz2, gz4, hz4, gz5aa, gz5aba] at gz5abb
     all_goals
     try simp only [go_sem, n1, n2, n3, n4, gz2, hz2, gz4, hz4, gz5aa, gz5aba, gz5abb] at gz5b
     all_goals
     obtain rfl := so_some h
     refine ⟨0, fun L hL => ?_⟩
     simp only [go_sem, ir20, fz1, gz2, hz2, fz2, fz3, gz4, hz4, fz4, gz5aa, gz5aba, gz5abb, gz5b]
  ·rcases and_f gz4 with gz4a | ⟨gz4a, gz4b⟩
   ·try simp only [go_sem, n1, n2, n3, n4, gz2, hz2] at gz4a
    all_goals
    obtain ⟨z5, h⟩ := ck_some h
    obtain rfl := so_some h
    refine ⟨0, fun L hL => ?_⟩
    simp only [go_sem, ir20, fz1, gz2, hz2, fz2, fz3, gz4a]
   ·rcases and_f gz4b with gz4ba | ⟨gz4ba, gz4bb⟩
    ·try simp only [go_sem, n1, n2, n3, n4, gz2, hz2, gz4a] at gz4ba
     all_goals
     (simp_all)
    ·try simp only [go_sem, n1, n2, n3, n4, gz2, hz2] at gz4a
     all_goals
     try simp only [go_sem, n1, n2, n3, n4, gz2, hz2, gz4a] at gz4ba
     all_goals
     try simp only [go_sem, n1, n2, n3, n4, gz2, hz2, gz4a, gz4ba] at gz4bb
     all_goals
     obtain ⟨z5, h⟩ := ck_some h
     obtain rfl := so_some h
     refine ⟨0, fun L hL => ?_⟩
     simp only [go_sem, ir20, fz1, gz2, hz2, fz2, fz3, gz4a, gz4ba, gz4bb]
 ·try simp only [go_sem, n1, n2, n3, n4] at gz2
  all_goals
  obtain ⟨y_3, z3, h⟩ := bd_some h
  have fz3 := Fs_25 z3
  try simp only [go_sem, gz2] at fz3
  obtain ⟨z4, h⟩ := ck_some h
  obtain ⟨z5, h⟩ := ck_some h
  obtain rfl := so_some h
  refine ⟨0, fun L hL => ?_⟩
  simp only [go_sem, ir20, fz1, gz2, fz3]


def ir23_v : List Nat := [0, 1, 2]
def ir23 : AFn := ⟨1, 3, .seq (.region false [ VO 1 1 (.box (.v 0)), VO 2 2 (.mov (.c (.str [])))]) (.seq (.region false [ PO 3 (.fldAddr 0 (.v 1)), PO 4 (.load false 1 (.s 0)), VS 2 2 0]) (.ret)), [.t 2]⟩
noncomputable def t_28 : List (Nat × Ctr) := []
noncomputable def c_28 : Ctr := mkF t_28 ir23 [.bor]
theorem s_28 : Sound Tryd.prog 23 c_28 := mkF_sound _ rfl snd_nil (by kernel_rfl : chkFn Tryd.prog 23 ir23 ir23_v = true)
theorem M_28 : c_28.modes = [.bor] := rfl
theorem Fl_28 : c_28.flat = true := rfl
attribute [go_sem] M_28 Fl_28
theorem Fs_28 {x : Star} {y_ : (List UInt8)} (h : impl_starName x = some y_) : c_28.F [Star_av x] = ⟨true, .str y_, [.any]⟩ := by
 refine mkF_E rfl ?_
 dsimp only [impl_starName] at h
 obtain rfl := so_some h
 refine ⟨0, fun L hL => ?_⟩
 simp only [go_sem, ir23]


def ir27_b0 : IR := .seq (.region false [ VO 10 18 (.bin false .lss (.v 9) (.v 8))]) (.seq (.cond (.v 10) (.skip) (.exit 0)) (.seq (.block 1 (.seq (.region false [ PM 19 9, PO 20 (.ixAddr 5 (.v 7) (.v 9)), PO 21 (.load true 5 (.s 0)), VO 6 10 (.alloc (.agg [.str [], .int .i64 (0), .int .i64 (0), .int .i64 (0), .int .i64 (0)])), VS 5 9 2, ⟨.no, 0, none, .store 5 (.v 6) (.s 0)⟩]) (.anyo 21 [ SO 0 22 (.mov (.v 2)), SO 1 23 (.load true 5 (.v 6)), SO 2 24 (.pur (.callv (.s 0) [(.s 1)])), SO 3 25 (.un .not (.s 2)), SO 4 26 (.mov (.s 3)), ⟨.slot 5, 27, (some ((.s 4), false)), .mov (.v 5)⟩, ⟨.slot 6,
 28, (some ((.s 4), false)), .bin false .gtr (.s 5) (I6 0)⟩, ⟨.slot 7, 29, (some ((.s 4), false)), .mov (.s 6)⟩, ⟨.slot 8, 30, (some ((.s 7), true)), .mov (.v 3)⟩, ⟨.slot 9, 31, (some ((.s 7), true)), .mov (.v 0)⟩, ⟨.slot 10, 32, (some ((.s 7), true)), .mov (.v 5)⟩, ⟨.slot 11, 33, (some ((.s 7), true)), .bin false .sub (.s 10) (I6 1)⟩, ⟨.slot 12, 34, (some ((.s 7), true)), .ixAddr 5 (.s 9) (.s 11)⟩, ⟨.slot 13, 35, (some ((.s 7), true)), .load true 5 (.s 12)⟩, ⟨.slot 14, 36, (some ((.s 7), true)), .callv (.s 8) [(.s 13)]⟩, ⟨.slot 15, 37, (some ((.s 7), true)), .mov (.v 3)⟩, ⟨.slot 16, 38, (some
 ((.s 7), true)), .load true 5 (.v 6)⟩, ⟨.slot 17, 39, (some ((.s 7), true)), .callv (.s 15) [(.s 16)]⟩, ⟨.slot 18, 40, (some ((.s 7), true)), .bin false .geq (.s 14) (.s 17)⟩, ⟨.slot 19, 41, (some ((.s 4), false)), .pick (.s 7) (.s 18) (.c (.bool false))⟩, SO 20 42 (.pick (.s 4) (.c (.bool true)) (.s 19))] [] (.cond (.s 20) (.seq (.region false [ VO 4 8 (.mov (.c (.bool false)))]) (.ret)) (.skip))))) (.region false [ PO 43 (.bin false .add (.v 9) (I6 1)), VS 9 17 0])))
def ir27_k0 : List Bool := [true, false, true, true, false, false, false, true, true, true, false]
def ir27_o0 : List Bool := [false, false, false, false, false, false, false, false, false, false, false]
def ir27_r0 : List Bool := [false, false, false, false, true, false, false, false, false, false, false]
def ir27_v : List Nat := [0, 1, 2, 3, 8, 9, 10, 15, 16, 17, 18]
def ir27 : AFn := ⟨4, 11, .seq (.region false [ VO 4 8 (.mov (.c (.bool false)))]) (.seq (.test false [ PM 11 0, PO 12 (.len false (.s 0)), PM 13 1, PO 14 (.bin false .gtr (.s 1) (.s 0))] (.s 0) (.seq (.region false [ VO 4 8 (.mov (.c (.bool false)))]) (.ret)) (.skip)) (.seq (.seq (.region false [ VO 7 15 (.mov (.v 0)), VO 8 16 (.len false (.v 7)), VO 9 17 (.mov (I6 0))]) (.block 0 (.loop ir27_k0 ir27_o0 ir27_r0 ir27_b0))) (.seq (.region false [ VO 4 8 (.mov (.c (.bool true)))]) (.ret)))), [.t 4]⟩
noncomputable def t_29 : List (Nat × Ctr) := [(20, c_27), (23, c_28)]
theorem lk_29_20 : look t_29 20 = some c_27 := rfl
theorem lk_29_23 : look t_29 23 = some c_28 := rfl
noncomputable def c_29 : Ctr := mkF t_29 ir27 [.bor, .bor, .bor, .bor]
theorem s_29 : Sound Tryd.prog 27 c_29 := mkF_sound _ rfl (snd_cons s_27 (snd_cons s_28 snd_nil)) (by kernel_rfl : chkFn Tryd.prog 27 ir27 ir27_v = true)
theorem M_29 : c_29.modes = [.bor, .bor, .bor, .bor] := rfl
theorem Fl_29 : c_29.flat = true := rfl
attribute [go_sem] M_29 Fl_29
attribute [go_sem] lk_29_20 lk_29_23
def E_29_l1 (list : List Star) (t15 : List Star) (t16 : Int) : Int → St
 | t17 => ⟨[.sl 5 (List.map Star_av list), .any, .fn (.func 20) [] [], .fn (.func 23) [] [], .any, .any, .any, .sl 5 (List.map Star_av t15), .int .i64 t16, .int .i64 t17, .any], [], [], true⟩
def R_29_l1 (list : List Star) (t15 : List Star) (t16 : Int) : (Unit ⊕ Bool) → Res
 | .inl y => (.exit 0, ⟨[.any, .any, .any, .any, .any, .any, .any, .any, .any, .any, .any], [], [], true⟩)
 | .inr y => (.ret, ⟨[.any, .any, .any, .any, .bool y, .any, .any, .any, .any, .any, .any], [], [], true⟩)
set_option maxHeartbeats 64000000 in
theorem impl_rising_impl_Star__impl_isStar__impl_starName_l1_ex {list : List Star} {t15 : List Star} {t16 : Int} {sgm_ : Int} {rho_ : Unit ⊕ Bool} (h : whileE (impl_rising_impl_Star__impl_isStar__impl_starName_l1 list t15 t16) sgm_ = some rho_) : ∃ L0, ∀ L, L0 ≤ L → iter (exec (look t_29) L ir27_b0) ir27_k0 ir27_o0 ir27_r0 L (E_29_l1 list t15 t16 sgm_) = R_29_l1 list t15 t16 rho_ := by
 refine loop_ex (E := E_29_l1 list t15 t16) (R := R_29_l1 list t15 t16) (fun y => by first | (intro c; cases c) | (rcases y with y | y <;> (intro c; cases c)) | (rcases y with y | y | y <;> (intro c; cases c))) ?_ h
 clear h
 intro t17 o_ h
 dsimp only [impl_rising_impl_Star__impl_isStar__impl_starName_l1] at h
 rcases it_some h with ⟨z2, h⟩ | ⟨z2, h⟩
 ·try simp only [go_sem, n1, n2, n3, n4] at z2
  all_goals
  obtain ⟨z3, h⟩ := ck_some h
  have lz3 := ix_lt z3
  have xz3 := getD_mapD Star_av t15 lz3
  try simp only [go_sem] at lz3
  try simp only [go_sem] at xz3
  try simp only [go_sem, n1, n2, n3, n4, z2] at z3
  all_goals
  obtain ⟨y_4, z4, h⟩ := bd_some h
  have fz4 := Fs_27 z4
  try simp only [go_sem, z2, z3] at fz4
  obtain ⟨z5, h⟩ := ck_some h
  rcases or_split z5 with ⟨gz5, z5⟩ | gz5
  ·try simp only [go_sem, n1, n2, n3, n4, z2, z3] at gz5
   all_goals
   have lz5 := ix_lt z5
   have xz5 := getD_mapD Star_av list lz5
   try simp only [go_sem] at lz5
   try simp only [go_sem] at xz5
   try simp only [go_sem, n1, n2, n3, n4, z2, z3, gz5] at z5
   all_goals
   obtain ⟨z6, h⟩ := ck_some h
   rcases or_split z6 with ⟨gz6, z6⟩ | gz6
   ·try simp only [go_sem, n1, n2, n3, n4, z2, z3, gz5, z5] at gz6
    all_goals
    obtain ⟨y_6, hz6⟩ := Option.isSome_iff_exists.1 z6
    have fz6 := Fs_28 hz6
    try simp only [go_sem, n1, n2, n3, n4, z2, z3, gz5, z5, gz6] at hz6
    all_goals
    try simp only [go_sem, z2, z3, gz5, z5, gz6] at fz6
    obtain ⟨z7, h⟩ := ck_some h
    rcases or_split z7 with ⟨gz7, z7⟩ | gz7
    ·try simp only [go_sem, n1, n2, n3, n4, z2, z3, gz5, z5, gz6, hz6] at gz7
     all_goals
     obtain ⟨y_7, hz7⟩ := Option.isSome_iff_exists.1 z7
     have fz7 := Fs_28 hz7
     try simp only [go_sem, n1, n2, n3, n4, z2, z3, gz5, z5, gz6, hz6, gz7] at hz7
     all_goals
     try simp only [go_sem, z2, z3, gz5, z5, gz6, hz6, gz7] at fz7
     rcases it_some h with ⟨z8, h⟩ | ⟨z8, h⟩
     ·try simp only [go_sem, n1, n2, n3, n4, z2, z3, gz5, z5, gz6, hz6, gz7, hz7] at z8
      all_goals
      obtain rfl := so_some h
      refine ⟨0, fun L hL => ?_⟩
      simp only [go_sem, ir27, E_29_l1, R_29_l1, ir27_b0, ir27_k0, ir27_o0, ir27_r0, z2, z3, lz3, xz3, fz4, gz5, z5, lz5, xz5, gz6, hz6, fz6, gz7, hz7, fz7, z8]
     ·try simp only [go_sem, n1, n2, n3, n4, z2, z3, gz5, z5, gz6, hz6, gz7, hz7] at z8
      all_goals
      obtain rfl := so_some h
      refine ⟨0, fun L hL => ?_⟩
      simp only [go_sem, ir27, E_29_l1, R_29_l1, ir27_b0, ir27_k0, ir27_o0, ir27_r0, z2, z3, lz3, xz3, fz4, gz5, z5, lz5, xz5, gz6, hz6, fz6, gz7, hz7, fz7, z8]
    ·rcases and_f gz7 with gz7a | ⟨gz7a, gz7b⟩
     ·try simp only [go_sem, n1, n2, n3, n4, z2, z3, gz5, z5, gz6, hz6] at gz7a
      all_goals
      (simp_all)
     ·have gz7an := no_t gz7a
      have gz7ann := no_f gz7an
      try simp only [go_sem, n1, n2, n3, n4, z2, z3, gz5, z5, gz6, hz6] at gz7ann
      all_goals
      try simp only [go_sem, n1, n2, n3, n4, z2, z3, gz5, z5, gz6, hz6, gz7ann] at gz7b
      all_goals
      rcases it_some h with ⟨z8, h⟩ | ⟨z8, h⟩
      ·try simp only [go_sem, n1, n2, n3, n4, z2, z3, gz5, z5, gz6, hz6, gz7ann, gz7b] at z8
       all_goals
       (simp_all)
      ·try simp only [go_sem, n1, n2, n3, n4, z2, z3, gz5, z5, gz6, hz6, gz7ann, gz7b] at z8
       all_goals
       obtain rfl := so_some h
       refine ⟨0, fun L hL => ?_⟩
       simp only [go_sem, ir27, E_29_l1, R_29_l1, ir27_b0, ir27_k0, ir27_o0, ir27_r0, z2, z3, lz3, xz3, fz4, gz5, z5, lz5, xz5, gz6, hz6, fz6, gz7ann, gz7b, z8]
   ·rcases and_f gz6 with gz6a | ⟨gz6a, gz6b⟩
    ·try simp only [go_sem, n1, n2, n3, n4, z2, z3, gz5, z5] at gz6a
     all_goals
     (simp_all)
    ·have gz6an := no_t gz6a
     have gz6ann := no_f gz6an
     try simp only [go_sem, n1, n2, n3, n4, z2, z3, gz5, z5] at gz6ann
     all_goals
     try simp only [go_sem, n1, n2, n3, n4, z2, z3, gz5, z5, gz6ann] at gz6b
     all_goals
     obtain ⟨z7, h⟩ := ck_some h
     rcases or_split z7 with ⟨gz7, z7⟩ | gz7
     ·try simp only [go_sem, n1, n2, n3, n4, z2, z3, gz5, z5, gz6ann, gz6b] at gz7
      all_goals
      obtain ⟨y_7, hz7⟩ := Option.isSome_iff_exists.1 z7
      have fz7 := Fs_28 hz7
      try simp only [go_sem, n1, n2, n3, n4, z2, z3, gz5, z5, gz6ann, gz6b, gz7] at hz7
      all_goals
      try simp only [go_sem, z2, z3, gz5, z5, gz6ann, gz6b, gz7] at fz7
      rcases it_some h with ⟨z8, h⟩ | ⟨z8, h⟩
      ·try simp only [go_sem, n1, n2, n3, n4, z2, z3, gz5, z5, gz6ann, gz6b, gz7, hz7] at z8
       all_goals
       obtain rfl := so_some h
       refine ⟨0, fun L hL => ?_⟩
       simp only [go_sem, ir27, E_29_l1, R_29_l1, ir27_b0, ir27_k0, ir27_o0, ir27_r0, z2, z3, lz3, xz3, fz4, gz5, z5, lz5, xz5, gz6ann, gz6b, gz7, hz7, fz7, z8]
      ·try simp only [go_sem, n1, n2, n3, n4, z2, z3, gz5, z5, gz6ann, gz6b, gz7, hz7] at z8
       all_goals
       obtain rfl := so_some h
       refine ⟨0, fun L hL => ?_⟩
       simp only [go_sem, ir27, E_29_l1, R_29_l1, ir27_b0, ir27_k0, ir27_o0, ir27_r0, z2, z3, lz3, xz3, fz4, gz5, z5, lz5, xz5, gz6ann, gz6b, gz7, hz7, fz7, z8]
     ·rcases and_f gz7 with gz7a | ⟨gz7a, gz7b⟩
      ·try simp only [go_sem, n1, n2, n3, n4, z2, z3, gz5, z5, gz6ann, gz6b] at gz7a
       all_goals
       (simp_all)
      ·have gz7an := no_t gz7a
       have gz7ann := no_f gz7an
       try simp only [go_sem, n1, n2, n3, n4, z2, z3, gz5, z5, gz6ann, gz6b] at gz7ann
       all_goals
       try simp only [go_sem, n1, n2, n3, n4, z2, z3, gz5, z5, gz6ann, gz6b, gz7ann] at gz7b
       all_goals
       rcases it_some h with ⟨z8, h⟩ | ⟨z8, h⟩
       ·try simp only [go_sem, n1, n2, n3, n4, z2, z3, gz5, z5, gz6ann, gz6b, gz7ann, gz7b] at z8
        all_goals
        (simp_all)
       ·try simp only [go_sem, n1, n2, n3, n4, z2, z3, gz5, z5, gz6ann, gz6b, gz7ann, gz7b] at z8
        all_goals
        obtain rfl := so_some h
        refine ⟨0, fun L hL => ?_⟩
        simp only [go_sem, ir27, E_29_l1, R_29_l1, ir27_b0, ir27_k0, ir27_o0, ir27_r0, z2, z3, lz3, xz3, fz4, gz5, z5, lz5, xz5, gz6ann, gz6b, gz7ann, gz7b, z8]
  ·rcases and_f gz5 with gz5a | ⟨gz5a, gz5b⟩
   ·have gz5an := no_f gz5a
    have gz5ann := no_t gz5an
    try simp only [go_sem, n1, n2, n3, n4, z2, z3] at gz5ann
    all_goals
    obtain ⟨z6, h⟩ := ck_some h
    obtain ⟨z7, h⟩ := ck_some h
    rcases it_some h with ⟨z8, h⟩ | ⟨z8, h⟩
    ·try simp only [go_sem, n1, n2, n3, n4, z2, z3, gz5ann] at z8
     all_goals
     obtain rfl := so_some h
     refine ⟨0, fun L hL => ?_⟩
     simp only [go_sem, ir27, E_29_l1, R_29_l1, ir27_b0, ir27_k0, ir27_o0, ir27_r0, z2, z3, lz3, xz3, fz4, gz5ann, z8]
    ·try simp only [go_sem, n1, n2, n3, n4, z2, z3, gz5ann] at z8
     all_goals
     (simp_all)
   ·have gz5an := no_t gz5a
    have gz5ann := no_f gz5an
    try simp only [go_sem, n1, n2, n3, n4, z2, z3] at gz5ann
    all_goals
    try simp only [go_sem, n1, n2, n3, n4, z2, z3, gz5ann] at gz5b
    all_goals
    obtain ⟨z6, h⟩ := ck_some h
    obtain ⟨z7, h⟩ := ck_some h
    rcases it_some h with ⟨z8, h⟩ | ⟨z8, h⟩
    ·try simp only [go_sem, n1, n2, n3, n4, z2, z3, gz5ann, gz5b] at z8
     all_goals
     (simp_all)
    ·try simp only [go_sem, n1, n2, n3, n4, z2, z3, gz5ann, gz5b] at z8
     all_goals
     obtain rfl := so_some h
     refine ⟨0, fun L hL => ?_⟩
     simp only [go_sem, ir27, E_29_l1, R_29_l1, ir27_b0, ir27_k0, ir27_o0, ir27_r0, z2, z3, lz3, xz3, fz4, gz5ann, gz5b, z8]
 ·try simp only [go_sem, n1, n2, n3, n4] at z2
  all_goals
  obtain rfl := so_some h
  refine ⟨0, fun L hL => ?_⟩
  simp only [go_sem, ir27, E_29_l1, R_29_l1, ir27_b0, ir27_k0, ir27_o0, ir27_r0, z2]

set_option maxHeartbeats 64000000 in
theorem Fs_29 {list : List Star} {most : Int} {y_ : Bool} (h : impl_rising_impl_Star__impl_isStar__impl_starName list most = some y_) : c_29.F [.sl 5 (List.map Star_av list), .int .i64 most, .fn (.func 20) [] [], .fn (.func 23) [] []] = ⟨true, .bool y_, [.any, .any, .any, .any]⟩ := by
 refine mkF_E rfl ?_
 dsimp only [impl_rising_impl_Star__impl_isStar__impl_starName] at h
 rcases it_some h with ⟨z1, h⟩ | ⟨z1, h⟩
 ·try simp only [go_sem, n1, n2, n3, n4] at z1
  all_goals
  obtain rfl := so_some h
  refine ⟨0, fun L hL => ?_⟩
  simp only [go_sem, ir27, E_29_l1, R_29_l1, ir27_k0, ir27_o0, ir27_r0, z1]
 ·try simp only [go_sem, n1, n2, n3, n4] at z1
  all_goals
  obtain ⟨y_9, z9, h⟩ := bd_some h
  obtain ⟨Lz9, ez9⟩ := impl_rising_impl_Star__impl_isStar__impl_starName_l1_ex z9
  rcases y_9 with y_9a | y_9b
  ·dsimp only at h
   obtain rfl := so_some h
   refine ⟨Lz9, fun L hL => ?_⟩
   have ez9 := ez9 L (by omega)
   try simp only [go_sem, E_29_l1, R_29_l1, ir27_k0, ir27_o0, ir27_r0, z1] at ez9
   simp only [go_sem, ir27, E_29_l1, R_29_l1, ir27_k0, ir27_o0, ir27_r0, z1, ez9]
  ·dsimp only at h
   obtain rfl := so_some h
   refine ⟨Lz9, fun L hL => ?_⟩
   have ez9 := ez9 L (by omega)
   try simp only [go_sem, E_29_l1, R_29_l1, ir27_k0, ir27_o0, ir27_r0, z1] at ez9
   simp only [go_sem, ir27, E_29_l1, R_29_l1, ir27_k0, ir27_o0, ir27_r0, z1, ez9]


def ir10_v : List Nat := [0, 2]
def ir10 : AFn := ⟨1, 2, .seq (.region false [ VO 1 2 (.mov (.c (.bool false)))]) (.seq (.region false [ PM 3 0, PO 4 (.call 27 [(.s 0), (I6 60), (.c (.fn (.func 20) [] [])), (.c (.fn (.func 23) [] []))]), VS 1 2 0]) (.ret)), [.t 1]⟩
noncomputable def t_30 : List (Nat × Ctr) := [(27, c_29)]
theorem lk_30_27 : look t_30 27 = some c_29 := rfl
noncomputable def c_30 : Ctr := mkF t_30 ir10 [.bor]
theorem s_30 : Sound Tryd.prog 10 c_30 := mkF_sound _ rfl (snd_cons s_29 snd_nil) (by kernel_rfl : chkFn Tryd.prog 10 ir10 ir10_v = true)
theorem M_30 : c_30.modes = [.bor] := rfl
theorem Fl_30 : c_30.flat = true := rfl
attribute [go_sem] M_30 Fl_30
attribute [go_sem] lk_30_27
theorem Fs_30 {list : List Star} {y_ : Bool} (h : impl_ValidStars list = some y_) : c_30.F [.sl 5 (List.map Star_av list)] = ⟨true, .bool y_, [.any]⟩ := by
 refine mkF_E rfl ?_
 dsimp only [impl_ValidStars] at h
 obtain ⟨y_1, z1, h⟩ := bd_some h
 have fz1 := Fs_29 z1
 try simp only [go_sem] at fz1
 obtain rfl := so_some h
 refine ⟨0, fun L hL => ?_⟩
 simp only [go_sem, ir10, fz1]


def ir43_v : List Nat := [0, 1, 2, 3]
def ir43 : AFn := ⟨2, 4, .seq (.region false [ VO 2 2 (.box (.v 0)), VO 3 3 (.mov (.c (.bool false)))]) (.seq (.region false [ PO 4 (.fldAddr 0 (.v 2)), PO 5 (.load false 1 (.s 0)), PO 6 (.load false 1 (.v 1)), PO 7 (.bin false .eql (.s 1) (.s 0)), VS 3 3 0]) (.ret)), [.t 3]⟩
noncomputable def t_31 : List (Nat × Ctr) := []
noncomputable def c_31 : Ctr := mkF t_31 ir43 [.bor, .bor]
theorem s_31 : Sound Tryd.prog 43 c_31 := mkF_sound _ rfl snd_nil (by kernel_rfl : chkFn Tryd.prog 43 ir43 ir43_v = true)
theorem M_31 : c_31.modes = [.bor, .bor] := rfl
theorem Fl_31 : c_31.flat = true := rfl
attribute [go_sem] M_31 Fl_31
theorem Fs_31 {x : Star} {t1 : List UInt8} {y_ : Bool} (h : impl_hasStar_c1 x t1 = some y_) : c_31.F [Star_av x, .ptr 1 [.str t1] 0 0] = ⟨true, .bool y_, [.any, .any]⟩ := by
 refine mkF_E rfl ?_
 dsimp only [impl_hasStar_c1] at h
 obtain rfl := so_some h
 refine ⟨0, fun L hL => ?_⟩
 simp only [go_sem, ir43]


def ir46_b0 : IR := .seq (.region false [ VO 6 9 (.bin false .lss (.v 5) (.v 4))]) (.seq (.cond (.v 6) (.skip) (.exit 0)) (.seq (.block 1 (.seq (.region false [ PM 10 5, VS 3 5 0]) (.test false [ PM 11 1, PM 12 0, PM 13 3, PO 14 (.ixAddr 5 (.s 1) (.s 0)), PO 15 (.load true 5 (.s 0)), PO 16 (.callv (.s 4) [(.s 0)])] (.s 0) (.seq (.region false [ PM 17 3, VS 2 4 0]) (.ret)) (.skip)))) (.region false [ PO 18 (.bin false .add (.v 5) (I6 1)), VS 5 8 0])))
def ir46_k0 : List Bool := [true, true, false, false, true, true, false]
def ir46_o0 : List Bool := [false, false, false, false, false, false, false]
def ir46_r0 : List Bool := [false, false, true, false, false, false, false]
def ir46_v : List Nat := [0, 1, 4, 5, 7, 8, 9]
def ir46 : AFn := ⟨2, 7, .seq (.region false [ VO 2 4 (.mov (I6 0))]) (.seq (.seq (.region false [ PM 6 0, VO 4 7 (.len false (.s 0)), VO 5 8 (.mov (I6 0))]) (.block 0 (.loop ir46_k0 ir46_o0 ir46_r0 ir46_b0))) (.seq (.region false [ VO 2 4 (.mov (.c (.int .i64 (-1))))]) (.ret))), [.t 2]⟩
noncomputable def t_32 : List (Nat × Ctr) := [(43, c_31)]
theorem lk_32_43 : look t_32 43 = some c_31 := rfl
noncomputable def c_32 : Ctr := mkF t_32 ir46 [.bor, .bor]
theorem s_32 : Sound Tryd.prog 46 c_32 := mkF_sound _ rfl (snd_cons s_31 snd_nil) (by kernel_rfl : chkFn Tryd.prog 46 ir46 ir46_v = true)
theorem M_32 : c_32.modes = [.bor, .bor] := rfl
theorem Fl_32 : c_32.flat = true := rfl
attribute [go_sem] M_32 Fl_32
attribute [go_sem] lk_32_43
def E_32_l1 (s_ : List Star) (c : List UInt8) (t7 : Int) : Int → St
 | t8 => ⟨[.sl 5 (List.map Star_av s_), .fn (.func 43) [] [.ptr 1 [.str c] 0 0], .any, .any, .int .i64 t7, .int .i64 t8, .any], [], [], true⟩
def R_32_l1 (s_ : List Star) (c : List UInt8) (t7 : Int) : (Unit ⊕ Int) → Res
 | .inl y => (.exit 0, ⟨[.any, .any, .any, .any, .any, .any, .any], [], [], true⟩)
 | .inr y => (.ret, ⟨[.any, .any, .int .i64 y, .any, .any, .any, .any], [], [], true⟩)
theorem slices_IndexFunc_impl_Star_impl_Star__impl_hasStar_c1_l1_ex {s_ : List Star} {c : List UInt8} {t7 : Int} {sgm_ : Int} {rho_ : Unit ⊕ Int} (h : whileE (slices_IndexFunc_impl_Star_impl_Star__impl_hasStar_c1_l1 s_ c t7) sgm_ = some rho_) : ∃ L0, ∀ L, L0 ≤ L → iter (exec (look t_32) L ir46_b0) ir46_k0 ir46_o0 ir46_r0 L (E_32_l1 s_ c t7 sgm_) = R_32_l1 s_ c t7 rho_ := by
 refine loop_ex (E := E_32_l1 s_ c t7) (R := R_32_l1 s_ c t7) (fun y => by first | (intro c; cases c) | (rcases y with y | y <;> (intro c; cases c)) | (rcases y with y | y | y <;> (intro c; cases c))) ?_ h
 clear h
 intro t8 o_ h
 dsimp only [slices_IndexFunc_impl_Star_impl_Star__impl_hasStar_c1_l1] at h
 rcases it_some h with ⟨z1, h⟩ | ⟨z1, h⟩
 ·try simp only [go_sem, n1, n2, n3, n4] at z1
  all_goals
  obtain ⟨z2, h⟩ := ck_some h
  have lz2 := ix_lt z2
  have xz2 := getD_mapD Star_av s_ lz2
  try simp only [go_sem] at lz2
  try simp only [go_sem] at xz2
  try simp only [go_sem, n1, n2, n3, n4, z1] at z2
  all_goals
  obtain ⟨y_3, z3, h⟩ := bd_some h
  have fz3 := Fs_31 z3
  try simp only [go_sem, z1, z2] at fz3
  rcases it_some h with ⟨z4, h⟩ | ⟨z4, h⟩
  ·try simp only [go_sem, n1, n2, n3, n4, z1, z2] at z4
   all_goals
   obtain rfl := so_some h
   refine ⟨0, fun L hL => ?_⟩
   simp only [go_sem, ir46, E_32_l1, R_32_l1, ir46_b0, ir46_k0, ir46_o0, ir46_r0, z1, z2, lz2, xz2, fz3, z4]
  ·try simp only [go_sem, n1, n2, n3, n4, z1, z2] at z4
   all_goals
   obtain rfl := so_some h
   refine ⟨0, fun L hL => ?_⟩
   simp only [go_sem, ir46, E_32_l1, R_32_l1, ir46_b0, ir46_k0, ir46_o0, ir46_r0, z1, z2, lz2, xz2, fz3, z4]
 ·try simp only [go_sem, n1, n2, n3, n4] at z1
  all_goals
  obtain rfl := so_some h
  refine ⟨0, fun L hL => ?_⟩
  simp only [go_sem, ir46, E_32_l1, R_32_l1, ir46_b0, ir46_k0, ir46_o0, ir46_r0, z1]

theorem Fs_32 {s_ : List Star} {f_c0 : List UInt8} {y_ : Int} (h : slices_IndexFunc_impl_Star_impl_Star__impl_hasStar_c1 s_ f_c0 = some y_) : c_32.F [.sl 5 (List.map Star_av s_), .fn (.func 43) [] [.ptr 1 [.str f_c0] 0 0]] = ⟨true, .int .i64 y_, [.any, .any]⟩ := by
 refine mkF_E rfl ?_
 dsimp only [slices_IndexFunc_impl_Star_impl_Star__impl_hasStar_c1] at h
 obtain ⟨y_5, z5, h⟩ := bd_some h
 obtain ⟨Lz5, ez5⟩ := slices_IndexFunc_impl_Star_impl_Star__impl_hasStar_c1_l1_ex z5
 rcases y_5 with y_5a | y_5b
 ·dsimp only at h
  obtain rfl := so_some h
  refine ⟨Lz5, fun L hL => ?_⟩
  have ez5 := ez5 L (by omega)
  try simp only [go_sem, E_32_l1, R_32_l1, ir46_k0, ir46_o0, ir46_r0] at ez5
  simp only [go_sem, ir46, E_32_l1, R_32_l1, ir46_k0, ir46_o0, ir46_r0, ez5]
 ·dsimp only at h
  obtain rfl := so_some h
  refine ⟨Lz5, fun L hL => ?_⟩
  have ez5 := ez5 L (by omega)
  try simp only [go_sem, E_32_l1, R_32_l1, ir46_k0, ir46_o0, ir46_r0] at ez5
  simp only [go_sem, ir46, E_32_l1, R_32_l1, ir46_k0, ir46_o0, ir46_r0, ez5]


def ir42_v : List Nat := [0, 1, 4]
def ir42 : AFn := ⟨2, 3, .seq (.region false [ VO 2 4 (.mov (.c (.bool false)))]) (.seq (.region false [ PM 5 0, PM 6 1, PO 7 (.call 46 [(.s 1), (.s 0)]), PO 8 (.bin false .geq (.s 0) (I6 0)), VS 2 4 0]) (.ret)), [.t 2]⟩
noncomputable def t_33 : List (Nat × Ctr) := [(46, c_32)]
theorem lk_33_46 : look t_33 46 = some c_32 := rfl
noncomputable def c_33 : Ctr := mkF t_33 ir42 [.bor, .bor]
theorem s_33 : Sound Tryd.prog 42 c_33 := mkF_sound _ rfl (snd_cons s_32 snd_nil) (by kernel_rfl : chkFn Tryd.prog 42 ir42 ir42_v = true)
theorem M_33 : c_33.modes = [.bor, .bor] := rfl
theorem Fl_33 : c_33.flat = true := rfl
attribute [go_sem] M_33 Fl_33
attribute [go_sem] lk_33_46
theorem Fs_33 {s_ : List Star} {f_c0 : List UInt8} {y_ : Bool} (h : slices_ContainsFunc_impl_Star_impl_Star__impl_hasStar_c1 s_ f_c0 = some y_) : c_33.F [.sl 5 (List.map Star_av s_), .fn (.func 43) [] [.ptr 1 [.str f_c0] 0 0]] = ⟨true, .bool y_, [.any, .any]⟩ := by
 refine mkF_E rfl ?_
 dsimp only [slices_ContainsFunc_impl_Star_impl_Star__impl_hasStar_c1] at h
 obtain ⟨y_1, z1, h⟩ := bd_some h
 have fz1 := Fs_32 z1
 try simp only [go_sem] at fz1
 obtain rfl := so_some h
 refine ⟨0, fun L hL => ?_⟩
 simp only [go_sem, ir42, fz1]


def ir21_v : List Nat := [0, 1, 3, 4]
def ir21 : AFn := ⟨2, 4, .seq (.region false [ VO 2 3 (.box (.v 1)), VO 3 4 (.mov (.c (.bool false)))]) (.seq (.region false [ PM 5 0, PO 6 (.mkFn (.func 43) [] [(.v 2)]), PO 7 (.call 42 [(.s 1), (.s 0)]), VS 3 4 0]) (.ret)), [.t 3]⟩
noncomputable def t_34 : List (Nat × Ctr) := [(42, c_33)]
theorem lk_34_42 : look t_34 42 = some c_33 := rfl
noncomputable def c_34 : Ctr := mkF t_34 ir21 [.bor, .bor]
theorem s_34 : Sound Tryd.prog 21 c_34 := mkF_sound _ rfl (snd_cons s_33 snd_nil) (by kernel_rfl : chkFn Tryd.prog 21 ir21 ir21_v = true)
theorem M_34 : c_34.modes = [.bor, .bor] := rfl
theorem Fl_34 : c_34.flat = true := rfl
attribute [go_sem] M_34 Fl_34
attribute [go_sem] lk_34_42
theorem Fs_34 {list : List Star} {name : List UInt8} {y_ : Bool} (h : impl_hasStar list name = some y_) : c_34.F [.sl 5 (List.map Star_av list), .str name] = ⟨true, .bool y_, [.any, .any]⟩ := by
 refine mkF_E rfl ?_
 dsimp only [impl_hasStar] at h
 obtain ⟨y_1, z1, h⟩ := bd_some h
 have fz1 := Fs_33 z1
 try simp only [go_sem] at fz1
 obtain rfl := so_some h
 refine ⟨0, fun L hL => ?_⟩
 simp only [go_sem, ir21, fz1]


def ir45_v : List Nat := [0, 2]
def ir45 : AFn := ⟨1, 2, .seq (.region false [ VO 1 2 (.newnil 5)]) (.seq (.region false [ PO 3 (.mkSl 5 (.agg [.str [], .int .i64 (0), .int .i64 (0), .int .i64 (0), .int .i64 (0)]) 0 []), PM 4 0, PO 5 (.app 5 48 (.agg [.str [], .int .i64 (0), .int .i64 (0), .int .i64 (0), .int .i64 (0)]) (.s 1) (.s 0)), VS 1 2 0]) (.ret)), [.t 1]⟩
noncomputable def t_35 : List (Nat × Ctr) := []
noncomputable def c_35 : Ctr := mkF t_35 ir45 [.bor]
theorem s_35 : Sound Tryd.prog 45 c_35 := mkF_sound _ rfl snd_nil (by kernel_rfl : chkFn Tryd.prog 45 ir45 ir45_v = true)
theorem M_35 : c_35.modes = [.bor] := rfl
theorem Fl_35 : c_35.flat = true := rfl
attribute [go_sem] M_35 Fl_35
theorem Fs_35 {list : List Star} {y_ : (List Star)} (h : impl_copyOf_impl_Star list = some y_) : c_35.F [.sl 5 (List.map Star_av list)] = ⟨true, .fresh 5 (List.map Star_av y_), [.any]⟩ := by
 refine mkF_E (by simp only [flatA, flatB, flat1, List.all_cons, List.all_nil, Bool.and_self, flatE_map (f := Star_av) (fun _ => rfl)]) ?_
 dsimp only [impl_copyOf_impl_Star] at h
 obtain ⟨z1, h⟩ := ck_some h
 try simp only [go_sem, n1, n2, n3, n4] at z1
 all_goals
 obtain rfl := so_some h
 refine ⟨0, fun L hL => ?_⟩
 simp only [go_sem, ir45, z1]


theorem s_hInsStar : Sound Tryd.prog 44 c_hInsStar := hInsStar_is

def ir22_b0 : IR := .seq (.anyo 16 [ SO 0 8 (.mov (.v 5)), SO 1 9 (.mov (.v 0)), SO 2 10 (.len false (.s 1)), SO 3 11 (.bin false .lss (.s 0) (.s 2)), SO 4 12 (.mov (.s 3)), ⟨.slot 5, 13, (some ((.s 4), true)), .mov (.v 2)⟩, ⟨.slot 6, 14, (some ((.s 4), true)), .mov (.v 0)⟩, ⟨.slot 7, 15, (some ((.s 4), true)), .mov (.v 5)⟩, ⟨.slot 8, 16, (some ((.s 4), true)), .ixAddr 5 (.s 6) (.s 7)⟩, ⟨.slot 9, 17, (some ((.s 4), true)), .load true 5 (.s 8)⟩, ⟨.slot 10, 18, (some ((.s 4), true)), .callv (.s 5) [(.s 9)]⟩, ⟨.slot 11, 19, (some ((.s 4), true)), .mov (.v 2)⟩, ⟨.slot 12, 20, (some ((.s 4), true)),
 .load true 5 (.v 3)⟩, ⟨.slot 13, 21, (some ((.s 4), true)), .callv (.s 11) [(.s 12)]⟩, ⟨.slot 14, 22, (some ((.s 4), true)), .bin false .lss (.s 10) (.s 13)⟩, SO 15 23 (.pick (.s 4) (.s 14) (.c (.bool false)))] [] (.cond (.s 15) (.skip) (.exit 0))) (.block 1 (.region false [ PM 24 5, PO 25 (.bin false .add (.s 0) (I6 1)), VS 5 7 0]))
def ir22_k0 : List Bool := [true, false, true, true, false, true]
def ir22_o0 : List Bool := [true, false, false, true, false, true]
def ir22_r0 : List Bool := [false, false, false, false, true, false]
def ir22_v : List Nat := [0, 1, 2, 4, 6, 7]
def ir22 : AFn := ⟨3, 6, .seq (.region false [ VO 3 4 (.box (.v 1)), VO 4 6 (.newnil 5)]) (.seq (.region false [ VO 5 7 (.mov (I6 0))]) (.seq (.block 0 (.loop ir22_k0 ir22_o0 ir22_r0 ir22_b0)) (.seq (.anyo 6 [ SO 0 26 (.mov (.v 0)), SO 1 27 (.call 45 [(.s 0)]), SO 2 28 (.flat (.mov (.v 5))), SO 3 29 (.load true 5 (.v 3)), SO 4 30 (.mkSl 5 (.agg [.str [], .int .i64 (0), .int .i64 (0), .int .i64 (0), .int .i64 (0)]) 1 [(0, (.s 3))]), SO 5 31 (.call 44 [(.s 1), (.s 2), (.s 4)]), VS 4 6 5] [[2, 0, 1, 3, 4, 5, 6], [2, 0, 3, 1, 4, 5, 6], [2, 0, 3, 4, 1, 5, 6], [2, 3, 0, 1, 4, 5, 6], [2, 3, 0, 4, 1,
 5, 6], [2, 3, 4, 0, 1, 5, 6]] .skip) (.ret)))), [.t 4]⟩
noncomputable def t_37 : List (Nat × Ctr) := [(23, c_28), (45, c_35), (44, c_hInsStar)]
theorem lk_37_23 : look t_37 23 = some c_28 := rfl
theorem lk_37_45 : look t_37 45 = some c_35 := rfl
theorem lk_37_44 : look t_37 44 = some c_hInsStar := rfl
noncomputable def c_37 : Ctr := mkF t_37 ir22 [.bor, .bor, .bor]
theorem s_37 : Sound Tryd.prog 22 c_37 := mkF_sound _ rfl (snd_cons s_28 (snd_cons s_35 (snd_cons s_hInsStar snd_nil))) (by kernel_rfl : chkFn Tryd.prog 22 ir22 ir22_v = true)
theorem M_37 : c_37.modes = [.bor, .bor, .bor] := rfl
theorem Fl_37 : c_37.flat = true := rfl
attribute [go_sem] M_37 Fl_37
attribute [go_sem] lk_37_23 lk_37_45 lk_37_44
def E_37_l1 (list : List Star) (x : Star) : Int → St
 | k => ⟨[.sl 5 (List.map Star_av list), .any, .fn (.func 23) [] [], .ref 3200000 0 0, .any, .int .i64 k], [], [(3200000, ⟨5, [Star_av x]⟩)], true⟩
def R_37_l1 (list : List Star) (x : Star) (y : Int) : Res := (.exit 0, ⟨[.sl 5 (List.map Star_av list), .any, .any, .ref 3200000 0 0, .any, .int .i64 y], [], [(3200000, ⟨5, [Star_av x]⟩)], true⟩)
theorem impl_inserted_impl_Star__impl_starName_l1_ex {list : List Star} {x : Star} {sgm_ : Int} {rho_ : Int} (h : whileE (impl_inserted_impl_Star__impl_starName_l1 list x) sgm_ = some rho_) : ∃ L0, ∀ L, L0 ≤ L → iter (exec (look t_37) L ir22_b0) ir22_k0 ir22_o0 ir22_r0 L (E_37_l1 list x sgm_) = R_37_l1 list x rho_ := by
 refine loop_ex (E := E_37_l1 list x) (R := R_37_l1 list x) (fun y => by first | (intro c; cases c) | (rcases y with y | y <;> (intro c; cases c)) | (rcases y with y | y | y <;> (intro c; cases c))) ?_ h
 clear h
 intro k o_ h
 dsimp only [impl_inserted_impl_Star__impl_starName_l1] at h
 obtain ⟨z1, h⟩ := ck_some h
 rcases or_split z1 with ⟨gz1, z1⟩ | gz1
 ·try simp only [go_sem, n1, n2, n3, n4] at gz1
  all_goals
  have lz1 := ix_lt z1
  have xz1 := getD_mapD Star_av list lz1
  try simp only [go_sem] at lz1
  try simp only [go_sem] at xz1
  try simp only [go_sem, n1, n2, n3, n4, gz1] at z1
  all_goals
  obtain ⟨z2, h⟩ := ck_some h
  rcases or_split z2 with ⟨gz2, z2⟩ | gz2
  ·try simp only [go_sem, n1, n2, n3, n4, gz1, z1] at gz2
   all_goals
   obtain ⟨y_2, hz2⟩ := Option.isSome_iff_exists.1 z2
   have fz2 := Fs_28 hz2
   try simp only [go_sem, n1, n2, n3, n4, gz1, z1, gz2] at hz2
   all_goals
   try simp only [go_sem, gz1, z1, gz2] at fz2
   obtain ⟨z3, h⟩ := ck_some h
   rcases or_split z3 with ⟨gz3, z3⟩ | gz3
   ·try simp only [go_sem, n1, n2, n3, n4, gz1, z1, gz2, hz2] at gz3
    all_goals
    obtain ⟨y_3, hz3⟩ := Option.isSome_iff_exists.1 z3
    have fz3 := Fs_28 hz3
    try simp only [go_sem, n1, n2, n3, n4, gz1, z1, gz2, hz2, gz3] at hz3
    all_goals
    try simp only [go_sem, gz1, z1, gz2, hz2, gz3] at fz3
    rcases it_some h with ⟨z4, h⟩ | ⟨z4, h⟩
    ·try simp only [go_sem, n1, n2, n3, n4, gz1, z1, gz2, hz2, gz3, hz3] at z4
     all_goals
     obtain rfl := so_some h
     refine ⟨0, fun L hL => ?_⟩
     simp only [go_sem, ir22, E_37_l1, R_37_l1, ir22_b0, ir22_k0, ir22_o0, ir22_r0, gz1, z1, lz1, xz1, gz2, hz2, fz2, gz3, hz3, fz3, z4]
    ·try simp only [go_sem, n1, n2, n3, n4, gz1, z1, gz2, hz2, gz3, hz3] at z4
     all_goals
     obtain rfl := so_some h
     refine ⟨0, fun L hL => ?_⟩
     simp only [go_sem, ir22, E_37_l1, R_37_l1, ir22_b0, ir22_k0, ir22_o0, ir22_r0, gz1, z1, lz1, xz1, gz2, hz2, fz2, gz3, hz3, fz3, z4]
   ·try simp only [go_sem, n1, n2, n3, n4, gz1, z1, gz2, hz2] at gz3
    all_goals
    rcases it_some h with ⟨z4, h⟩ | ⟨z4, h⟩
    ·try simp only [go_sem, n1, n2, n3, n4, gz1, z1, gz2, hz2, gz3] at z4
     all_goals
     (simp_all)
    ·try simp only [go_sem, n1, n2, n3, n4, gz1, z1, gz2, hz2, gz3] at z4
     all_goals
     obtain rfl := so_some h
     refine ⟨0, fun L hL => ?_⟩
     simp only [go_sem, ir22, E_37_l1, R_37_l1, ir22_b0, ir22_k0, ir22_o0, ir22_r0, gz1, z1, lz1, xz1, gz2, hz2, fz2, gz3, z4]
  ·try simp only [go_sem, n1, n2, n3, n4, gz1, z1] at gz2
   all_goals
   obtain ⟨z3, h⟩ := ck_some h
   rcases it_some h with ⟨z4, h⟩ | ⟨z4, h⟩
   ·try simp only [go_sem, n1, n2, n3, n4, gz1, z1, gz2] at z4
    all_goals
    (simp_all)
   ·try simp only [go_sem, n1, n2, n3, n4, gz1, z1, gz2] at z4
    all_goals
    obtain rfl := so_some h
    refine ⟨0, fun L hL => ?_⟩
    simp only [go_sem, ir22, E_37_l1, R_37_l1, ir22_b0, ir22_k0, ir22_o0, ir22_r0, gz1, z1, lz1, xz1, gz2, z4]
 ·try simp only [go_sem, n1, n2, n3, n4] at gz1
  all_goals
  obtain ⟨z2, h⟩ := ck_some h
  obtain ⟨z3, h⟩ := ck_some h
  rcases it_some h with ⟨z4, h⟩ | ⟨z4, h⟩
  ·try simp only [go_sem, n1, n2, n3, n4, gz1] at z4
   all_goals
   (simp_all)
  ·try simp only [go_sem, n1, n2, n3, n4, gz1] at z4
   all_goals
   obtain rfl := so_some h
   refine ⟨0, fun L hL => ?_⟩
   simp only [go_sem, ir22, E_37_l1, R_37_l1, ir22_b0, ir22_k0, ir22_o0, ir22_r0, gz1, z4]

theorem Fs_37 {list : List Star} {x : Star} {y_ : (List Star)} (h : impl_inserted_impl_Star__impl_starName list x = some y_) : c_37.F [.sl 5 (List.map Star_av list), Star_av x, .fn (.func 23) [] []] = ⟨true, .fresh 5 (List.map Star_av y_), [.any, .any, .any]⟩ := by
 refine mkF_E (by simp only [flatA, flatB, flat1, List.all_cons, List.all_nil, Bool.and_self, flatE_map (f := Star_av) (fun _ => rfl)]) ?_
 dsimp only [impl_inserted_impl_Star__impl_starName] at h
 obtain ⟨y_5, z5, h⟩ := bd_some h
 obtain ⟨Lz5, ez5⟩ := impl_inserted_impl_Star__impl_starName_l1_ex z5
 obtain ⟨y_6, z6, h⟩ := bd_some h
 have fz6 := Fs_35 z6
 try simp only [go_sem] at fz6
 obtain ⟨y_7, z7, h⟩ := bd_some h
 have fz7 := (Fs_hInsStar Star_av) z7
 try simp only [go_sem] at fz7
 obtain rfl := so_some h
 refine ⟨Lz5, fun L hL => ?_⟩
 have ez5 := ez5 L (by omega)
 try simp only [go_sem, E_37_l1, R_37_l1, ir22_k0, ir22_o0, ir22_r0] at ez5
 simp only [go_sem, ir22, E_37_l1, R_37_l1, ir22_k0, ir22_o0, ir22_r0, fz6, fz7, ez5]


def ir7_v : List Nat := [0, 1, 3, 4, 5]
def ir7 : AFn := ⟨2, 5, .seq (.region false [ VO 2 3 (.box (.v 1)), VO 3 4 (.newnil 5), VO 4 5 (.mov (I6 0))]) (.seq (.block 0 (.test false [ PM 7 0, PO 8 (.call 10 [(.s 0)]), PO 9 (.un .not (.s 0)), PO 6 (.mov (.s 0))] (.s 0) (.seq (.region false [ VO 3 4 (.newnil 5), VO 4 5 (.mov (I6 1))]) (.ret)) (.test false [ PO 11 (.load true 5 (.v 2)), PO 12 (.call 20 [(.s 0)]), PO 13 (.un .not (.s 0)), PO 10 (.mov (.s 0))] (.s 0) (.seq (.region false [ VO 3 4 (.newnil 5), VO 4 5 (.mov (I6 2))]) (.ret)) (.test false [ PM 15 0, PO 16 (.fldAddr 0 (.v 2)), PO 17 (.load false 1 (.s 0)), PO 18 (.call 21 [(.s
 2), (.s 0)]), PO 14 (.mov (.s 0))] (.s 0) (.seq (.region false [ VO 3 4 (.newnil 5), VO 4 5 (.mov (I6 4))]) (.ret)) (.test false [ PM 20 0, PO 21 (.len false (.s 0)), PO 22 (.bin false .eql (.s 0) (I6 60)), PO 19 (.mov (.s 0))] (.s 0) (.seq (.region false [ VO 3 4 (.newnil 5), VO 4 5 (.mov (I6 5))]) (.ret)) (.skip)))))) (.seq (.region false [ PM 23 0, PO 24 (.load true 5 (.v 2)), PO 25 (.call 22 [(.s 1), (.s 0), (.c (.fn (.func 23) [] []))]), VS 3 4 0, VO 4 5 (.mov (I6 0))]) (.ret))), [.t 3, .t 4]⟩
noncomputable def t_38 : List (Nat × Ctr) := [(10, c_30), (20, c_27), (21, c_34), (22, c_37)]
theorem lk_38_10 : look t_38 10 = some c_30 := rfl
theorem lk_38_20 : look t_38 20 = some c_27 := rfl
theorem lk_38_21 : look t_38 21 = some c_34 := rfl
theorem lk_38_22 : look t_38 22 = some c_37 := rfl
noncomputable def c_38 : Ctr := mkF t_38 ir7 [.bor, .bor]
theorem s_38 : Sound Tryd.prog 7 c_38 := mkF_sound _ rfl (snd_cons s_30 (snd_cons s_27 (snd_cons s_34 (snd_cons s_37 snd_nil)))) (by kernel_rfl : chkFn Tryd.prog 7 ir7 ir7_v = true)
theorem M_38 : c_38.modes = [.bor, .bor] := rfl
theorem Fl_38 : c_38.flat = true := rfl
attribute [go_sem] M_38 Fl_38
attribute [go_sem] lk_38_10 lk_38_20 lk_38_21 lk_38_22
theorem Fs_38 {list : List Star} {x : Star} {y_ : (List Star) × Int} (h : impl_AddStar list x = some y_) : c_38.F [.sl 5 (List.map Star_av list), Star_av x] = ⟨true, .tup [.fresh 5 (List.map Star_av y_.1), .int .i64 y_.2], [.any, .any]⟩ := by
 refine mkF_E (by simp only [flatA, flatB, flat1, List.all_cons, List.all_nil, Bool.and_self, flatE_map (f := Star_av) (fun _ => rfl)]) ?_
 dsimp only [impl_AddStar] at h
 obtain ⟨y_1, z1, h⟩ := bd_some h
 have fz1 := Fs_30 z1
 try simp only [go_sem] at fz1
 rcases it_some h with ⟨z2, h⟩ | ⟨z2, h⟩
 ·try simp only [go_sem, n1, n2, n3, n4] at z2
  all_goals
  obtain rfl := so_some h
  refine ⟨0, fun L hL => ?_⟩
  simp only [go_sem, ir7, fz1, z2]
 ·try simp only [go_sem, n1, n2, n3, n4] at z2
  all_goals
  obtain ⟨y_3, z3, h⟩ := bd_some h
  have fz3 := Fs_27 z3
  try simp only [go_sem, z2] at fz3
  rcases it_some h with ⟨z4, h⟩ | ⟨z4, h⟩
  ·try simp only [go_sem, n1, n2, n3, n4, z2] at z4
   all_goals
   obtain rfl := so_some h
   refine ⟨0, fun L hL => ?_⟩
   simp only [go_sem, ir7, fz1, z2, fz3, z4]
  ·try simp only [go_sem, n1, n2, n3, n4, z2] at z4
   all_goals
   obtain ⟨y_5, z5, h⟩ := bd_some h
   have fz5 := Fs_34 z5
   try simp only [go_sem, z2, z4] at fz5
   rcases it_some h with ⟨z6, h⟩ | ⟨z6, h⟩
   ·try simp only [go_sem, n1, n2, n3, n4, z2, z4] at z6
    all_goals
    obtain rfl := so_some h
    refine ⟨0, fun L hL => ?_⟩
    simp only [go_sem, ir7, fz1, z2, fz3, z4, fz5, z6]
   ·try simp only [go_sem, n1, n2, n3, n4, z2, z4] at z6
    all_goals
    rcases it_some h with ⟨z7, h⟩ | ⟨z7, h⟩
    ·try simp only [go_sem, n1, n2, n3, n4, z2, z4, z6] at z7
     all_goals
     obtain rfl := so_some h
     refine ⟨0, fun L hL => ?_⟩
     simp only [go_sem, ir7, fz1, z2, fz3, z4, fz5, z6, z7]
    ·try simp only [go_sem, n1, n2, n3, n4, z2, z4, z6] at z7
     all_goals
     obtain ⟨y_8, z8, h⟩ := bd_some h
     have fz8 := Fs_37 z8
     try simp only [go_sem, z2, z4, z6, z7] at fz8
     obtain rfl := so_some h
     refine ⟨0, fun L hL => ?_⟩
     simp only [go_sem, ir7, fz1, z2, fz3, z4, fz5, z6, z7, fz8]


def ir25_v : List Nat := [0, 1, 2, 3]
def ir25 : AFn := ⟨2, 4, .seq (.region false [ VO 2 2 (.box (.v 0)), VO 3 3 (.mov (.c (.bool false)))]) (.seq (.region false [ PO 4 (.fldAddr 0 (.v 2)), PO 5 (.load false 1 (.s 0)), PO 6 (.load false 1 (.v 1)), PO 7 (.bin false .eql (.s 1) (.s 0)), VS 3 3 0]) (.ret)), [.t 3]⟩
noncomputable def t_39 : List (Nat × Ctr) := []
noncomputable def c_39 : Ctr := mkF t_39 ir25 [.bor, .bor]
theorem s_39 : Sound Tryd.prog 25 c_39 := mkF_sound _ rfl snd_nil (by kernel_rfl : chkFn Tryd.prog 25 ir25 ir25_v = true)
theorem M_39 : c_39.modes = [.bor, .bor] := rfl
theorem Fl_39 : c_39.flat = true := rfl
attribute [go_sem] M_39 Fl_39
theorem Fs_39 {x : Star} {t1 : List UInt8} {y_ : Bool} (h : impl_StarNamed_c1 x t1 = some y_) : c_39.F [Star_av x, .ptr 1 [.str t1] 0 0] = ⟨true, .bool y_, [.any, .any]⟩ := by
 refine mkF_E rfl ?_
 dsimp only [impl_StarNamed_c1] at h
 obtain rfl := so_some h
 refine ⟨0, fun L hL => ?_⟩
 simp only [go_sem, ir25]


noncomputable def t_40 : List (Nat × Ctr) := [(25, c_39)]
theorem lk_40_25 : look t_40 25 = some c_39 := rfl
noncomputable def c_40 : Ctr := mkF t_40 ir46 [.bor, .bor]
theorem s_40 : Sound Tryd.prog 46 c_40 := mkF_sound _ rfl (snd_cons s_39 snd_nil) (by kernel_rfl : chkFn Tryd.prog 46 ir46 ir46_v = true)
theorem M_40 : c_40.modes = [.bor, .bor] := rfl
theorem Fl_40 : c_40.flat = true := rfl
attribute [go_sem] M_40 Fl_40
attribute [go_sem] lk_40_25
def E_40_l1 (s_ : List Star) (c : List UInt8) (t7 : Int) : Int → St
 | t8 => ⟨[.sl 5 (List.map Star_av s_), .fn (.func 25) [] [.ptr 1 [.str c] 0 0], .any, .any, .int .i64 t7, .int .i64 t8, .any], [], [], true⟩
def R_40_l1 (s_ : List Star) (c : List UInt8) (t7 : Int) : (Unit ⊕ Int) → Res
 | .inl y => (.exit 0, ⟨[.any, .any, .any, .any, .any, .any, .any], [], [], true⟩)
 | .inr y => (.ret, ⟨[.any, .any, .int .i64 y, .any, .any, .any, .any], [], [], true⟩)
theorem slices_IndexFunc_impl_Star_impl_Star__impl_StarNamed_c1_l1_ex {s_ : List Star} {c : List UInt8} {t7 : Int} {sgm_ : Int} {rho_ : Unit ⊕ Int} (h : whileE (slices_IndexFunc_impl_Star_impl_Star__impl_StarNamed_c1_l1 s_ c t7) sgm_ = some rho_) : ∃ L0, ∀ L, L0 ≤ L → iter (exec (look t_40) L ir46_b0) ir46_k0 ir46_o0 ir46_r0 L (E_40_l1 s_ c t7 sgm_) = R_40_l1 s_ c t7 rho_ := by
 refine loop_ex (E := E_40_l1 s_ c t7) (R := R_40_l1 s_ c t7) (fun y => by first | (intro c; cases c) | (rcases y with y | y <;> (intro c; cases c)) | (rcases y with y | y | y <;> (intro c; cases c))) ?_ h
 clear h
 intro t8 o_ h
 dsimp only [slices_IndexFunc_impl_Star_impl_Star__impl_StarNamed_c1_l1] at h
 rcases it_some h with ⟨z1, h⟩ | ⟨z1, h⟩
 ·try simp only [go_sem, n1, n2, n3, n4] at z1
  all_goals
  obtain ⟨z2, h⟩ := ck_some h
  have lz2 := ix_lt z2
  have xz2 := getD_mapD Star_av s_ lz2
  try simp only [go_sem] at lz2
  try simp only [go_sem] at xz2
  try simp only [go_sem, n1, n2, n3, n4, z1] at z2
  all_goals
  obtain ⟨y_3, z3, h⟩ := bd_some h
  have fz3 := Fs_39 z3
  try simp only [go_sem, z1, z2] at fz3
  rcases it_some h with ⟨z4, h⟩ | ⟨z4, h⟩
  ·try simp only [go_sem, n1, n2, n3, n4, z1, z2] at z4
   all_goals
   obtain rfl := so_some h
   refine ⟨0, fun L hL => ?_⟩
   simp only [go_sem, ir46, E_40_l1, R_40_l1, ir46_b0, ir46_k0, ir46_o0, ir46_r0, z1, z2, lz2, xz2, fz3, z4]
  ·try simp only [go_sem, n1, n2, n3, n4, z1, z2] at z4
   all_goals
   obtain rfl := so_some h
   refine ⟨0, fun L hL => ?_⟩
   simp only [go_sem, ir46, E_40_l1, R_40_l1, ir46_b0, ir46_k0, ir46_o0, ir46_r0, z1, z2, lz2, xz2, fz3, z4]
 ·try simp only [go_sem, n1, n2, n3, n4] at z1
  all_goals
  obtain rfl := so_some h
  refine ⟨0, fun L hL => ?_⟩
  simp only [go_sem, ir46, E_40_l1, R_40_l1, ir46_b0, ir46_k0, ir46_o0, ir46_r0, z1]

theorem Fs_40 {s_ : List Star} {f_c0 : List UInt8} {y_ : Int} (h : slices_IndexFunc_impl_Star_impl_Star__impl_StarNamed_c1 s_ f_c0 = some y_) : c_40.F [.sl 5 (List.map Star_av s_), .fn (.func 25) [] [.ptr 1 [.str f_c0] 0 0]] = ⟨true, .int .i64 y_, [.any, .any]⟩ := by
 refine mkF_E rfl ?_
 dsimp only [slices_IndexFunc_impl_Star_impl_Star__impl_StarNamed_c1] at h
 obtain ⟨y_5, z5, h⟩ := bd_some h
 obtain ⟨Lz5, ez5⟩ := slices_IndexFunc_impl_Star_impl_Star__impl_StarNamed_c1_l1_ex z5
 rcases y_5 with y_5a | y_5b
 ·dsimp only at h
  obtain rfl := so_some h
  refine ⟨Lz5, fun L hL => ?_⟩
  have ez5 := ez5 L (by omega)
  try simp only [go_sem, E_40_l1, R_40_l1, ir46_k0, ir46_o0, ir46_r0] at ez5
  simp only [go_sem, ir46, E_40_l1, R_40_l1, ir46_k0, ir46_o0, ir46_r0, ez5]
 ·dsimp only at h
  obtain rfl := so_some h
  refine ⟨Lz5, fun L hL => ?_⟩
  have ez5 := ez5 L (by omega)
  try simp only [go_sem, E_40_l1, R_40_l1, ir46_k0, ir46_o0, ir46_r0] at ez5
  simp only [go_sem, ir46, E_40_l1, R_40_l1, ir46_k0, ir46_o0, ir46_r0, ez5]


def ir24_v : List Nat := [0, 1, 4, 5, 6]
def ir24 : AFn := ⟨2, 5, .seq (.region false [ VO 2 4 (.mov (I6 0)), VO 3 5 (.mov (I6 0))]) (.seq (.seq (.region false [ PM 7 0, PM 8 1, PO 9 (.call 46 [(.s 1), (.s 0)]), VS 4 6 0]) (.test false [ PM 10 4, PO 11 (.bin false .geq (.s 0) (I6 0))] (.s 0) (.seq (.region false [ PM 12 4, VS 2 4 0, VO 3 5 (.mov (I6 0))]) (.ret)) (.skip))) (.seq (.region false [ VO 2 4 (.mov (I6 0)), VO 3 5 (.mov (I6 3))]) (.ret))), [.t 2, .t 3]⟩
noncomputable def t_41 : List (Nat × Ctr) := [(46, c_40)]
theorem lk_41_46 : look t_41 46 = some c_40 := rfl
noncomputable def c_41 : Ctr := mkF t_41 ir24 [.bor, .bor]
theorem s_41 : Sound Tryd.prog 24 c_41 := mkF_sound _ rfl (snd_cons s_40 snd_nil) (by kernel_rfl : chkFn Tryd.prog 24 ir24 ir24_v = true)
theorem M_41 : c_41.modes = [.bor, .bor] := rfl
theorem Fl_41 : c_41.flat = true := rfl
attribute [go_sem] M_41 Fl_41
attribute [go_sem] lk_41_46
theorem Fs_41 {list : List Star} {wanted_c0 : List UInt8} {y_ : Int × Int} (h : impl_indexOf_impl_Star__impl_StarNamed_c1 list wanted_c0 = some y_) : c_41.F [.sl 5 (List.map Star_av list), .fn (.func 25) [] [.ptr 1 [.str wanted_c0] 0 0]] = ⟨true, .tup [.int .i64 y_.1, .int .i64 y_.2], [.any, .any]⟩ := by
 refine mkF_E rfl ?_
 dsimp only [impl_indexOf_impl_Star__impl_StarNamed_c1] at h
 obtain ⟨y_1, z1, h⟩ := bd_some h
 have fz1 := Fs_40 z1
 try simp only [go_sem] at fz1
 rcases it_some h with ⟨z2, h⟩ | ⟨z2, h⟩
 ·try simp only [go_sem, n1, n2, n3, n4] at z2
  all_goals
  obtain rfl := so_some h
  refine ⟨0, fun L hL => ?_⟩
  simp only [go_sem, ir24, fz1, z2]
 ·try simp only [go_sem, n1, n2, n3, n4] at z2
  all_goals
  obtain rfl := so_some h
  refine ⟨0, fun L hL => ?_⟩
  simp only [go_sem, ir24, fz1, z2]


def ir8_v : List Nat := [0, 1, 3, 4, 5]
def ir8 : AFn := ⟨2, 5, .seq (.region false [ VO 2 3 (.box (.v 1)), VO 3 4 (.mov (I6 0)), VO 4 5 (.mov (I6 0))]) (.seq (.test false [ PM 6 0, PO 7 (.call 10 [(.s 0)]), PO 8 (.un .not (.s 0))] (.s 0) (.seq (.region false [ VO 3 4 (.mov (I6 0)), VO 4 5 (.mov (I6 1))]) (.ret)) (.skip)) (.seq (.region false [ PM 9 0, PO 10 (.mkFn (.func 25) [] [(.v 2)]), PO 11 (.call 24 [(.s 1), (.s 0)]), PO 12 (.ext (.s 0) 0), PO 13 (.ext (.s 1) 1), VS 3 4 1, VS 4 5 0]) (.ret))), [.t 3, .t 4]⟩
noncomputable def t_42 : List (Nat × Ctr) := [(10, c_30), (24, c_41)]
theorem lk_42_10 : look t_42 10 = some c_30 := rfl
theorem lk_42_24 : look t_42 24 = some c_41 := rfl
noncomputable def c_42 : Ctr := mkF t_42 ir8 [.bor, .bor]
theorem s_42 : Sound Tryd.prog 8 c_42 := mkF_sound _ rfl (snd_cons s_30 (snd_cons s_41 snd_nil)) (by kernel_rfl : chkFn Tryd.prog 8 ir8 ir8_v = true)
theorem M_42 : c_42.modes = [.bor, .bor] := rfl
theorem Fl_42 : c_42.flat = true := rfl
attribute [go_sem] M_42 Fl_42
attribute [go_sem] lk_42_10 lk_42_24
theorem Fs_42 {list : List Star} {name : List UInt8} {y_ : Int × Int} (h : impl_StarNamed list name = some y_) : c_42.F [.sl 5 (List.map Star_av list), .str name] = ⟨true, .tup [.int .i64 y_.1, .int .i64 y_.2], [.any, .any]⟩ := by
 refine mkF_E rfl ?_
 dsimp only [impl_StarNamed] at h
 obtain ⟨y_1, z1, h⟩ := bd_some h
 have fz1 := Fs_30 z1
 try simp only [go_sem] at fz1
 rcases it_some h with ⟨z2, h⟩ | ⟨z2, h⟩
 ·try simp only [go_sem, n1, n2, n3, n4] at z2
  all_goals
  obtain rfl := so_some h
  refine ⟨0, fun L hL => ?_⟩
  simp only [go_sem, ir8, fz1, z2]
 ·try simp only [go_sem, n1, n2, n3, n4] at z2
  all_goals
  obtain ⟨y_3, z3, h⟩ := bd_some h
  have fz3 := Fs_41 z3
  try simp only [go_sem, z2] at fz3
  obtain rfl := so_some h
  refine ⟨0, fun L hL => ?_⟩
  simp only [go_sem, ir8, fz1, z2, fz3]


def ir48_v : List Nat := [0, 2]
def ir48 : AFn := ⟨1, 2, .seq (.region false [ VO 1 2 (.mov (.c (.bool false)))]) (.seq (.region false [ VO 1 2 (.mov (.c (.bool true)))]) (.ret)), [.t 1]⟩
noncomputable def t_43 : List (Nat × Ctr) := []
noncomputable def c_43 : Ctr := mkF t_43 ir48 [.bor]
theorem s_43 : Sound Tryd.prog 48 c_43 := mkF_sound _ rfl snd_nil (by kernel_rfl : chkFn Tryd.prog 48 ir48 ir48_v = true)
theorem M_43 : c_43.modes = [.bor] := rfl
theorem Fl_43 : c_43.flat = true := rfl
attribute [go_sem] M_43 Fl_43
theorem Fs_43 {t0 : Int} {y_ : Bool} (h : impl_orderBy_c1 t0 = some y_) : c_43.F [.int .i64 t0] = ⟨true, .bool y_, [.any]⟩ := by
 refine mkF_E rfl ?_
 dsimp only [impl_orderBy_c1] at h
 obtain rfl := so_some h
 refine ⟨0, fun L hL => ?_⟩
 simp only [go_sem, ir48]


def ir31_b0 : IR := .seq (.region false [ VO 7 10 (.bin false .lss (.v 6) (.v 5))]) (.seq (.cond (.v 7) (.skip) (.exit 0)) (.seq (.block 1 (.seq (.region false [ PM 11 6, VS 4 6 0]) (.test false [ PM 12 1, PM 13 4, PO 14 (.callv (.s 1) [(.s 0)])] (.s 0) (.region false [ PM 15 3, PM 16 4, PO 17 (.mkSl 1 (.int .i64 (0)) 1 [(0, (.s 0))]), PO 18 (.app 1 8 (.int .i64 (0)) (.s 2) (.s 0)), VS 3 5 0]) (.skip)))) (.region false [ PO 19 (.bin false .add (.v 6) (I6 1)), VS 6 9 0])))
def ir31_k0 : List Bool := [false, true, false, true, false, true, true, false]
def ir31_o0 : List Bool := [false, false, false, true, false, false, false, false]
def ir31_r0 : List Bool := [false, false, true, false, false, false, false, false]
def ir31_v : List Nat := [0, 1, 4, 5, 6, 8, 9, 10]
def ir31 : AFn := ⟨2, 8, .seq (.region false [ VO 2 4 (.newnil 1)]) (.seq (.region false [ PO 7 (.mkSl 1 (.int .i64 (0)) 0 []), VS 3 5 0]) (.seq (.seq (.region false [ VO 5 8 (.mov (.v 0)), VO 6 9 (.mov (I6 0))]) (.block 0 (.loop ir31_k0 ir31_o0 ir31_r0 ir31_b0))) (.seq (.region false [ PM 20 3, VS 2 4 0]) (.ret)))), [.t 2]⟩
noncomputable def t_44 : List (Nat × Ctr) := [(48, c_43)]
theorem lk_44_48 : look t_44 48 = some c_43 := rfl
noncomputable def c_44 : Ctr := mkF t_44 ir31 [.bor, .bor]
theorem s_44 : Sound Tryd.prog 31 c_44 := mkF_sound _ rfl (snd_cons s_43 snd_nil) (by kernel_rfl : chkFn Tryd.prog 31 ir31 ir31_v = true)
theorem M_44 : c_44.modes = [.bor, .bor] := rfl
theorem Fl_44 : c_44.flat = true := rfl
attribute [go_sem] M_44 Fl_44
attribute [go_sem] lk_44_48
def E_44_l1 (t8 : Int) : ((List Int) × Int) → St
 | (out, t9) => ⟨[.any, .fn (.func 48) [] [], .any, .own 3200000, .any, .int .i64 t8, .int .i64 t9, .any], [], [(3200000, ⟨1, List.map (AV.int .i64) out⟩)], true⟩
def R_44_l1 (t8 : Int) (y : (List Int)) : Res := (.exit 0, ⟨[.any, .any, .any, .own 3200000, .any, .any, .any, .any], [], [(3200000, ⟨1, List.map (AV.int .i64) y⟩)], true⟩)
theorem impl_indicesWhere__impl_orderBy_c1_l1_ex {t8 : Int} {sgm_ : (List Int) × Int} {rho_ : (List Int)} (h : whileE (impl_indicesWhere__impl_orderBy_c1_l1 t8) sgm_ = some rho_) : ∃ L0, ∀ L, L0 ≤ L → iter (exec (look t_44) L ir31_b0) ir31_k0 ir31_o0 ir31_r0 L (E_44_l1 t8 sgm_) = R_44_l1 t8 rho_ := by
 refine loop_ex (E := E_44_l1 t8) (R := R_44_l1 t8) (fun y => by first | (intro c; cases c) | (rcases y with y | y <;> (intro c; cases c)) | (rcases y with y | y | y <;> (intro c; cases c))) ?_ h
 clear h
 rintro ⟨out, t9⟩ o_ h
 dsimp only [impl_indicesWhere__impl_orderBy_c1_l1] at h
 rcases it_some h with ⟨z1, h⟩ | ⟨z1, h⟩
 ·try simp only [go_sem, n1, n2, n3, n4] at z1
  all_goals
  obtain ⟨y_2, z2, h⟩ := bd_some h
  have fz2 := Fs_43 z2
  try simp only [go_sem, z1] at fz2
  rcases it_some h with ⟨z3, h⟩ | ⟨z3, h⟩
  ·try simp only [go_sem, n1, n2, n3, n4, z1] at z3
   all_goals
   obtain ⟨z4, h⟩ := ck_some h
   try simp only [go_sem, n1, n2, n3, n4, z1, z3] at z4
   all_goals
   obtain rfl := so_some h
   refine ⟨0, fun L hL => ?_⟩
   simp only [go_sem, ir31, E_44_l1, R_44_l1, ir31_b0, ir31_k0, ir31_o0, ir31_r0, z1, fz2, z3, z4]
  ·try simp only [go_sem, n1, n2, n3, n4, z1] at z3
   all_goals
   obtain rfl := so_some h
   refine ⟨0, fun L hL => ?_⟩
   simp only [go_sem, ir31, E_44_l1, R_44_l1, ir31_b0, ir31_k0, ir31_o0, ir31_r0, z1, fz2, z3]
 ·try simp only [go_sem, n1, n2, n3, n4] at z1
  all_goals
  obtain rfl := so_some h
  refine ⟨0, fun L hL => ?_⟩
  simp only [go_sem, ir31, E_44_l1, R_44_l1, ir31_b0, ir31_k0, ir31_o0, ir31_r0, z1]

theorem Fs_44 {n : Int} {y_ : (List Int)} (h : impl_indicesWhere__impl_orderBy_c1 n = some y_) : c_44.F [.int .i64 n, .fn (.func 48) [] []] = ⟨true, .fresh 1 (List.map (AV.int .i64) y_), [.any, .any]⟩ := by
 refine mkF_E (by simp only [flatA, flatB, flat1, List.all_cons, List.all_nil, Bool.and_self, flatE_map (f := (AV.int .i64)) (fun _ => rfl)]) ?_
 dsimp only [impl_indicesWhere__impl_orderBy_c1] at h
 obtain ⟨y_5, z5, h⟩ := bd_some h
 obtain ⟨Lz5, ez5⟩ := impl_indicesWhere__impl_orderBy_c1_l1_ex z5
 obtain rfl := so_some h
 refine ⟨Lz5, fun L hL => ?_⟩
 have ez5 := ez5 L (by omega)
 try simp only [go_sem, E_44_l1, R_44_l1, ir31_k0, ir31_o0, ir31_r0] at ez5
 simp only [go_sem, ir31, E_44_l1, R_44_l1, ir31_k0, ir31_o0, ir31_r0, ez5]


def ir29_v : List Nat := [0, 1, 3]
def ir29 : AFn := ⟨2, 3, .seq (.region false [ VO 2 3 (.mov (I6 0))]) (.seq (.anyo 11 [ SO 0 4 (.load false 1 (.v 1)), SO 1 5 (.mov (.v 0)), SO 2 6 (.ixAddr 5 (.s 0) (.s 1)), SO 3 7 (.fldAddr 3 (.s 2)), SO 4 8 (.load false 1 (.s 3)), SO 5 9 (.load false 1 (.v 1)), SO 6 10 (.mov (.v 0)), SO 7 11 (.ixAddr 5 (.s 5) (.s 6)), SO 8 12 (.fldAddr 4 (.s 7)), SO 9 13 (.load false 1 (.s 8)), SO 10 14 (.bin false .sub (.s 4) (.s 9)), VS 2 3 10] [] .skip) (.ret)), [.t 2]⟩
noncomputable def t_45 : List (Nat × Ctr) := []
noncomputable def c_45 : Ctr := mkF t_45 ir29 [.bor, .bor]
theorem s_45 : Sound Tryd.prog 29 c_45 := mkF_sound _ rfl snd_nil (by kernel_rfl : chkFn Tryd.prog 29 ir29 ir29_v = true)
theorem M_45 : c_45.modes = [.bor, .bor] := rfl
theorem Fl_45 : c_45.flat = true := rfl
attribute [go_sem] M_45 Fl_45
theorem Fs_45 {i : Int} {t1 : List Star} {y_ : Int} (h : impl_ByAmplitude_c1 i t1 = some y_) : c_45.F [.int .i64 i, .ptr 1 [.sl 5 (List.map Star_av t1)] 0 0] = ⟨true, .int .i64 y_, [.any, .any]⟩ := by
 refine mkF_E rfl ?_
 dsimp only [impl_ByAmplitude_c1] at h
 obtain ⟨z1, h⟩ := ck_some h
 have lz1 := ix_lt z1
 have xz1 := getD_mapD Star_av t1 lz1
 try simp only [go_sem] at lz1
 try simp only [go_sem] at xz1
 try simp only [go_sem, n1, n2, n3, n4] at z1
 all_goals
 obtain rfl := so_some h
 refine ⟨0, fun L hL => ?_⟩
 simp only [go_sem, ir29, z1, lz1, xz1]


def ir50_v : List Nat := [0, 1, 2, 5, 6, 7]
def ir50 : AFn := ⟨3, 6, .seq (.region false [ VO 3 5 (.mov (I6 0))]) (.seq (.seq (.anyo 6 [ SO 0 8 (.load false 1 (.v 2)), SO 1 9 (.mov (.v 0)), SO 2 10 (.pur (.callv (.s 0) [(.s 1)])), SO 3 11 (.load false 1 (.v 2)), SO 4 12 (.mov (.v 1)), SO 5 13 (.pur (.callv (.s 3) [(.s 4)])), VS 4 6 2, VS 5 7 5] [] .skip) (.test false [ PM 14 4, PM 15 5, PO 16 (.bin false .neq (.s 1) (.s 0))] (.s 0) (.seq (.test false [ PM 17 4, PM 18 5, PO 19 (.bin false .lss (.s 1) (.s 0))] (.s 0) (.seq (.region false [ VO 3 5 (.mov (.c (.int .i64 (-1))))]) (.ret)) (.skip)) (.seq (.region false [ VO 3 5 (.mov (I6 1))])
 (.ret))) (.skip))) (.seq (.region false [ VO 3 5 (.mov (I6 0))]) (.ret))), [.t 3]⟩
noncomputable def t_46 : List (Nat × Ctr) := [(29, c_45)]
theorem lk_46_29 : look t_46 29 = some c_45 := rfl
noncomputable def c_46 : Ctr := mkF t_46 ir50 [.bor, .bor, .bor]
theorem s_46 : Sound Tryd.prog 50 c_46 := mkF_sound _ rfl (snd_cons s_45 snd_nil) (by kernel_rfl : chkFn Tryd.prog 50 ir50 ir50_v = true)
theorem M_46 : c_46.modes = [.bor, .bor, .bor] := rfl
theorem Fl_46 : c_46.flat = true := rfl
attribute [go_sem] M_46 Fl_46
attribute [go_sem] lk_46_29
theorem Fs_46 {a : Int} {b : Int} {t2_0 : List Star} {y_ : Int} (h : impl_orderBy_c2 a b t2_0 = some y_) : c_46.F [.int .i64 a, .int .i64 b, .ptr 1 [.fn (.func 29) [] [.ptr 1 [.sl 5 (List.map Star_av t2_0)] 0 0]] 0 0] = ⟨true, .int .i64 y_, [.any, .any, .any]⟩ := by
 refine mkF_E rfl ?_
 dsimp only [impl_orderBy_c2] at h
 obtain ⟨y_1, z1, h⟩ := bd_some h
 have fz1 := Fs_45 z1
 try simp only [go_sem] at fz1
 obtain ⟨y_2, z2, h⟩ := bd_some h
 have fz2 := Fs_45 z2
 try simp only [go_sem] at fz2
 rcases it_some h with ⟨z3, h⟩ | ⟨z3, h⟩
 ·try simp only [go_sem, n1, n2, n3, n4] at z3
  all_goals
  rcases it_some h with ⟨z4, h⟩ | ⟨z4, h⟩
  ·try simp only [go_sem, n1, n2, n3, n4, z3] at z4
   all_goals
   obtain rfl := so_some h
   refine ⟨0, fun L hL => ?_⟩
   simp only [go_sem, ir50, fz1, fz2, z3, z4]
  ·try simp only [go_sem, n1, n2, n3, n4, z3] at z4
   all_goals
   obtain rfl := so_some h
   refine ⟨0, fun L hL => ?_⟩
   simp only [go_sem, ir50, fz1, fz2, z3, z4]
 ·try simp only [go_sem, n1, n2, n3, n4] at z3
  all_goals
  obtain rfl := so_some h
  refine ⟨0, fun L hL => ?_⟩
  simp only [go_sem, ir50, fz1, fz2, z3]


def ir69_b1 : IR := .seq (.anyo 17 [ SO 0 18 (.mov (.v 5)), SO 1 19 (.mov (.v 1)), SO 2 20 (.bin false .gtr (.s 0) (.s 1)), SO 3 21 (.mov (.s 2)), ⟨.slot 4, 22, (some ((.s 3), true)), .mov (.v 3)⟩, ⟨.slot 5, 23, (some ((.s 3), true)), .mov (.v 0)⟩, ⟨.slot 6, 24, (some ((.s 3), true)), .mov (.v 5)⟩, ⟨.slot 7, 25, (some ((.s 3), true)), .ixAddr 1 (.s 5) (.s 6)⟩, ⟨.slot 8, 26, (some ((.s 3), true)), .load false 1 (.s 7)⟩, ⟨.slot 9, 27, (some ((.s 3), true)), .mov (.v 0)⟩, ⟨.slot 10, 28, (some ((.s 3), true)), .mov (.v 5)⟩, ⟨.slot 11, 29, (some ((.s 3), true)), .bin false .sub (.s 10) (I6 1)⟩,
 ⟨.slot 12, 30, (some ((.s 3), true)), .ixAddr 1 (.s 9) (.s 11)⟩, ⟨.slot 13, 31, (some ((.s 3), true)), .load false 1 (.s 12)⟩, ⟨.slot 14, 32, (some ((.s 3), true)), .callv (.s 4) [(.s 8), (.s 13)]⟩, ⟨.slot 15, 33, (some ((.s 3), true)), .bin false .lss (.s 14) (I6 0)⟩, SO 16 34 (.pick (.s 3) (.s 15) (.c (.bool false)))] [] (.cond (.s 16) (.skip) (.exit 2))) (.seq (.block 3 (.anyo 16 [ SO 0 37 (.mov (.v 0)), SO 1 38 (.flat (.mov (.v 5))), SO 2 39 (.mov (.v 0)), SO 3 40 (.flat (.mov (.v 5))), SO 4 41 (.flat (.bin false .sub (.s 3) (I6 1))), SO 5 42 (.mov (.v 0)), SO 6 43 (.flat (.mov (.v 5))),
 SO 7 44 (.flat (.bin false .sub (.s 6) (I6 1))), SO 8 45 (.ixAddr 1 (.s 5) (.s 7)), SO 9 46 (.load false 1 (.s 8)), SO 10 47 (.mov (.v 0)), SO 11 48 (.flat (.mov (.v 5))), SO 12 49 (.ixAddr 1 (.s 10) (.s 11)), SO 13 50 (.load false 1 (.s 12)), SO 14 51 (.ixAddr 1 (.s 0) (.s 1)), ⟨.no, 0, none, .store 1 (.s 14) (.s 9)⟩, SO 15 52 (.ixAddr 1 (.s 2) (.s 4)), ⟨.no, 0, none, .store 1 (.s 15) (.s 13)⟩] [[0, 1, 3, 4, 5, 6, 7, 8, 9, 10, 11, 12, 13, 14, 2, 15, 16, 17], [0, 1, 3, 4, 5, 6, 7, 8, 9, 10, 11, 12, 13, 14, 15, 2, 16, 17]] .skip)) (.region false [ PM 35 5, PO 36 (.bin false .sub (.s 0) (I6 1)),
 VS 5 9 0]))
def ir69_k1 : List Bool := [true, true, true, true, true, true]
def ir69_o1 : List Bool := [true, true, true, true, true, false]
def ir69_r1 : List Bool := [true, false, false, false, false, false]
def ir69_b0 : IR := .seq (.test false [ PM 12 4, PM 13 2, PO 14 (.bin false .lss (.s 1) (.s 0))] (.s 0) (.skip) (.exit 0)) (.seq (.block 1 (.seq (.region false [ PM 17 4, VS 5 9 0]) (.block 2 (.loop ir69_k1 ir69_o1 ir69_r1 ir69_b1)))) (.region false [ PM 15 4, PO 16 (.bin false .add (.s 0) (I6 1)), VS 4 8 0]))
def ir69_k0 : List Bool := [true, true, true, true, true, false]
def ir69_o0 : List Bool := [true, false, false, false, false, false]
def ir69_r0 : List Bool := [true, false, false, false, false, false]
def ir69_v : List Nat := [0, 1, 2, 3, 8, 9]
def ir69 : AFn := ⟨4, 6, .seq (.region false [ PM 10 1, PO 11 (.bin false .add (.s 0) (I6 1)), VS 4 8 0]) (.block 0 (.loop ir69_k0 ir69_o0 ir69_r0 ir69_b0)), []⟩
noncomputable def t_47 : List (Nat × Ctr) := [(50, c_46)]
theorem lk_47_50 : look t_47 50 = some c_46 := rfl
noncomputable def c_47 : Ctr := mkN t_47 ir69 [.io, .bor, .bor, .bor]
theorem s_47 : Sound Tryd.prog 69 c_47 := mkN_sound _ (snd_cons s_46 snd_nil) (by kernel_rfl : chkFn Tryd.prog 69 ir69 ir69_v = true)
theorem M_47 : c_47.modes = [.io, .bor, .bor, .bor] := rfl
theorem Fl_47 : c_47.flat = false := rfl
attribute [go_sem] M_47 Fl_47
attribute [go_sem] lk_47_50
def E_47_l2 (a : Int) (b : Int) (c : List Star) (i : Int) : ((List Int) × Int) → St
 | (data, j) => ⟨[.own 31, .int .i64 a, .int .i64 b, .fn (.func 50) [] [.ptr 1 [.fn (.func 29) [] [.ptr 1 [.sl 5 (List.map Star_av c)] 0 0]] 0 0], .int .i64 i, .int .i64 j], [], [(31, ⟨1, List.map (AV.int .i64) data⟩)], true⟩
def R_47_l2 (a : Int) (b : Int) (c : List Star) (i : Int) (y : (List Int)) : Res := (.exit 2, ⟨[.own 31, .int .i64 a, .int .i64 b, .fn (.func 50) [] [.ptr 1 [.fn (.func 29) [] [.ptr 1 [.sl 5 (List.map Star_av c)] 0 0]] 0 0], .int .i64 i, .any], [], [(31, ⟨1, List.map (AV.int .i64) y⟩)], true⟩)
set_option maxHeartbeats 64000000 in
theorem slices_insertionSortCmpFunc_int64__impl_orderBy_c2_l2_ex {a : Int} {b : Int} {c : List Star} {i : Int} {sgm_ : (List Int) × Int} {rho_ : (List Int)} (h : whileE (slices_insertionSortCmpFunc_int64__impl_orderBy_c2_l2 a b c i) sgm_ = some rho_) : ∃ L0, ∀ L, L0 ≤ L → iter (exec (look t_47) L ir69_b1) ir69_k1 ir69_o1 ir69_r1 L (E_47_l2 a b c i sgm_) = R_47_l2 a b c i rho_ := by
 refine loop_ex (E := E_47_l2 a b c i) (R := R_47_l2 a b c i) (fun y => by first | (intro c; cases c) | (rcases y with y | y <;> (intro c; cases c)) | (rcases y with y | y | y <;> (intro c; cases c))) ?_ h
 clear h
 rintro ⟨data, j⟩ o_ h
 dsimp only [slices_insertionSortCmpFunc_int64__impl_orderBy_c2_l2] at h
 obtain ⟨z2, h⟩ := ck_some h
 rcases or_split z2 with ⟨gz2, z2⟩ | gz2
 ·try simp only [go_sem, n1, n2, n3, n4] at gz2
  all_goals
  have lz2 := ix_lt z2
  have xz2 := getD_mapD (AV.int .i64) data lz2
  try simp only [go_sem] at lz2
  try simp only [go_sem] at xz2
  try simp only [go_sem, n1, n2, n3, n4, gz2] at z2
  all_goals
  obtain ⟨z3, h⟩ := ck_some h
  rcases or_split z3 with ⟨gz3, z3⟩ | gz3
  ·try simp only [go_sem, n1, n2, n3, n4, gz2, z2] at gz3
   all_goals
   have lz3 := ix_lt z3
   have xz3 := getD_mapD (AV.int .i64) data lz3
   try simp only [go_sem] at lz3
   try simp only [go_sem] at xz3
   try simp only [go_sem, n1, n2, n3, n4, gz2, z2, gz3] at z3
   all_goals
   obtain ⟨z4, h⟩ := ck_some h
   rcases or_split z4 with ⟨gz4, z4⟩ | gz4
   ·try simp only [go_sem, n1, n2, n3, n4, gz2, z2, gz3, z3] at gz4
    all_goals
    obtain ⟨y_4, hz4⟩ := Option.isSome_iff_exists.1 z4
    have fz4 := Fs_46 hz4
    try simp only [go_sem, n1, n2, n3, n4, gz2, z2, gz3, z3, gz4] at hz4
    all_goals
    try simp only [go_sem, gz2, z2, gz3, z3, gz4] at fz4
    rcases it_some h with ⟨z5, h⟩ | ⟨z5, h⟩
    ·try simp only [go_sem, n1, n2, n3, n4, gz2, z2, gz3, z3, gz4, hz4] at z5
     all_goals
     obtain ⟨z6, h⟩ := ck_some h
     have lz6 := ix_lt z6
     have xz6 := getD_mapD (AV.int .i64) data lz6
     try simp only [go_sem] at lz6
     try simp only [go_sem] at xz6
     try simp only [go_sem, n1, n2, n3, n4, gz2, z2, gz3, z3, gz4, hz4, z5] at z6
     all_goals
     obtain ⟨z7, h⟩ := ck_some h
     have lz7 := ix_lt z7
     have xz7 := getD_mapD (AV.int .i64) data lz7
     try simp only [go_sem] at lz7
     try simp only [go_sem] at xz7
     try simp only [go_sem, n1, n2, n3, n4, gz2, z2, gz3, z3, gz4, hz4, z5, z6] at z7
     all_goals
     have xz8 := (by rw [← List.map_set]; exact getD_mapD (AV.int .i64) (data.set j.toNat (data.getD (IntKind.i64.wrap (j - 1)).toNat default)) (by first | (rw [List.length_set]; exact lz6) | (simp; omega)) : ((List.map (AV.int .i64) data).set j.toNat ((AV.int .i64) (data.getD (IntKind.i64.wrap (j - 1)).toNat default))).getD ((IntKind.i64.wrap (j - 1)).toNat) .any = (AV.int .i64) ((data.set j.toNat (data.getD (IntKind.i64.wrap (j - 1)).toNat default)).getD ((IntKind.i64.wrap (j - 1)).toNat) default))
     try simp only [go_sem] at xz8
     obtain rfl := so_some h
     refine ⟨0, fun L hL => ?_⟩
     simp only [go_sem, ir69, E_47_l2, R_47_l2, ir69_b1, ir69_k1, ir69_o1, ir69_r1, gz2, z2, lz2, xz2, gz3, z3, lz3, xz3, gz4, hz4, fz4, z5, z6, lz6, xz6, z7, lz7, xz7, xz8]
    ·try simp only [go_sem, n1, n2, n3, n4, gz2, z2, gz3, z3, gz4, hz4] at z5
     all_goals
     obtain rfl := so_some h
     refine ⟨0, fun L hL => ?_⟩
     simp only [go_sem, ir69, E_47_l2, R_47_l2, ir69_b1, ir69_k1, ir69_o1, ir69_r1, gz2, z2, lz2, xz2, gz3, z3, lz3, xz3, gz4, hz4, fz4, z5]
   ·try simp only [go_sem, n1, n2, n3, n4, gz2, z2, gz3, z3] at gz4
    all_goals
    rcases it_some h with ⟨z5, h⟩ | ⟨z5, h⟩
    ·try simp only [go_sem, n1, n2, n3, n4, gz2, z2, gz3, z3, gz4] at z5
     all_goals
     (simp_all)
    ·try simp only [go_sem, n1, n2, n3, n4, gz2, z2, gz3, z3, gz4] at z5
     all_goals
     obtain rfl := so_some h
     refine ⟨0, fun L hL => ?_⟩
     simp only [go_sem, ir69, E_47_l2, R_47_l2, ir69_b1, ir69_k1, ir69_o1, ir69_r1, gz2, z2, lz2, xz2, gz3, z3, lz3, xz3, gz4, z5]
  ·try simp only [go_sem, n1, n2, n3, n4, gz2, z2] at gz3
   all_goals
   obtain ⟨z4, h⟩ := ck_some h
   rcases it_some h with ⟨z5, h⟩ | ⟨z5, h⟩
   ·try simp only [go_sem, n1, n2, n3, n4, gz2, z2, gz3] at z5
    all_goals
    (simp_all)
   ·try simp only [go_sem, n1, n2, n3, n4, gz2, z2, gz3] at z5
    all_goals
    obtain rfl := so_some h
    refine ⟨0, fun L hL => ?_⟩
    simp only [go_sem, ir69, E_47_l2, R_47_l2, ir69_b1, ir69_k1, ir69_o1, ir69_r1, gz2, z2, lz2, xz2, gz3, z5]
 ·try simp only [go_sem, n1, n2, n3, n4] at gz2
  all_goals
  obtain ⟨z3, h⟩ := ck_some h
  obtain ⟨z4, h⟩ := ck_some h
  rcases it_some h with ⟨z5, h⟩ | ⟨z5, h⟩
  ·try simp only [go_sem, n1, n2, n3, n4, gz2] at z5
   all_goals
   (simp_all)
  ·try simp only [go_sem, n1, n2, n3, n4, gz2] at z5
   all_goals
   obtain rfl := so_some h
   refine ⟨0, fun L hL => ?_⟩
   simp only [go_sem, ir69, E_47_l2, R_47_l2, ir69_b1, ir69_k1, ir69_o1, ir69_r1, gz2, z5]

def E_47_l1 (a : Int) (b : Int) (c : List Star) : ((List Int) × Int) → St
 | (data, i) => ⟨[.own 31, .int .i64 a, .int .i64 b, .fn (.func 50) [] [.ptr 1 [.fn (.func 29) [] [.ptr 1 [.sl 5 (List.map Star_av c)] 0 0]] 0 0], .int .i64 i, .any], [], [(31, ⟨1, List.map (AV.int .i64) data⟩)], true⟩
def R_47_l1 (a : Int) (b : Int) (c : List Star) (y : (List Int)) : Res := (.exit 0, ⟨[.own 31, .any, .any, .any, .any, .any], [], [(31, ⟨1, List.map (AV.int .i64) y⟩)], true⟩)
set_option maxHeartbeats 64000000 in
theorem slices_insertionSortCmpFunc_int64__impl_orderBy_c2_l1_ex {a : Int} {b : Int} {c : List Star} {sgm_ : (List Int) × Int} {rho_ : (List Int)} (h : whileE (slices_insertionSortCmpFunc_int64__impl_orderBy_c2_l1 a b c) sgm_ = some rho_) : ∃ L0, ∀ L, L0 ≤ L → iter (exec (look t_47) L ir69_b0) ir69_k0 ir69_o0 ir69_r0 L (E_47_l1 a b c sgm_) = R_47_l1 a b c rho_ := by
 refine loop_ex (E := E_47_l1 a b c) (R := R_47_l1 a b c) (fun y => by first | (intro c; cases c) | (rcases y with y | y <;> (intro c; cases c)) | (rcases y with y | y | y <;> (intro c; cases c))) ?_ h
 clear h
 rintro ⟨data, i⟩ o_ h
 dsimp only [slices_insertionSortCmpFunc_int64__impl_orderBy_c2_l1] at h
 rcases it_some h with ⟨z1, h⟩ | ⟨z1, h⟩
 ·try simp only [go_sem, n1, n2, n3, n4] at z1
  all_goals
  obtain ⟨y_9, z9, h⟩ := bd_some h
  obtain ⟨Lz9, ez9⟩ := slices_insertionSortCmpFunc_int64__impl_orderBy_c2_l2_ex z9
  obtain rfl := so_some h
  refine ⟨Lz9, fun L hL => ?_⟩
  have ez9 := ez9 L (by omega)
  try simp only [go_sem, E_47_l1, R_47_l1, ir69_b0, ir69_k0, ir69_o0, ir69_r0, E_47_l2, R_47_l2, ir69_k1, ir69_o1, ir69_r1, z1] at ez9
  simp only [go_sem, ir69, E_47_l1, R_47_l1, ir69_b0, ir69_k0, ir69_o0, ir69_r0, E_47_l2, R_47_l2, ir69_k1, ir69_o1, ir69_r1, z1, ez9]
 ·try simp only [go_sem, n1, n2, n3, n4] at z1
  all_goals
  obtain rfl := so_some h
  refine ⟨0, fun L hL => ?_⟩
  simp only [go_sem, ir69, E_47_l1, R_47_l1, ir69_b0, ir69_k0, ir69_o0, ir69_r0, E_47_l2, R_47_l2, ir69_k1, ir69_o1, ir69_r1, z1]

set_option maxHeartbeats 64000000 in
theorem Fs_47 {data : List Int} {a : Int} {b : Int} {cmp_c0_f_0 : List Star} {y_ : (List Int)} (h : slices_insertionSortCmpFunc_int64__impl_orderBy_c2 data a b cmp_c0_f_0 = some y_) : c_47.F [.fresh 1 (List.map (AV.int .i64) data), .int .i64 a, .int .i64 b, .fn (.func 50) [] [.ptr 1 [.fn (.func 29) [] [.ptr 1 [.sl 5 (List.map Star_av cmp_c0_f_0)] 0 0]] 0 0]] = ⟨true, .cv undef, [.fresh 1 (List.map (AV.int .i64) y_), .any, .any, .any]⟩ := by
 refine mkN_E ?_
 dsimp only [slices_insertionSortCmpFunc_int64__impl_orderBy_c2] at h
 obtain ⟨y_10, z10, h⟩ := bd_some h
 obtain ⟨Lz10, ez10⟩ := slices_insertionSortCmpFunc_int64__impl_orderBy_c2_l1_ex z10
 obtain ⟨z11, h⟩ := ck_some h
 try simp only [go_sem, n1, n2, n3, n4] at z11
 all_goals
 obtain rfl := so_some h
 refine ⟨Lz10, fun L hL => ?_⟩
 have ez10 := ez10 L (by omega)
 try simp only [go_sem, E_47_l2, R_47_l2, ir69_k1, ir69_o1, ir69_r1, E_47_l1, R_47_l1, ir69_k0, ir69_o0, ir69_r0, z11] at ez10
 simp only [go_sem, ir69, E_47_l2, R_47_l2, ir69_k1, ir69_o1, ir69_r1, E_47_l1, R_47_l1, ir69_k0, ir69_o0, ir69_r0, z11, ez10]


def ir79_b0 : IR := .seq (.test false [ PM 11 5, PM 12 3, PO 13 (.bin false .lss (.s 1) (.s 0))] (.s 0) (.skip) (.exit 0)) (.seq (.block 1 (.anyo 22 [ SO 0 16 (.mov (.v 0)), SO 1 17 (.flat (.mov (.v 1))), SO 2 18 (.flat (.mov (.v 5))), SO 3 19 (.flat (.bin false .add (.s 1) (.s 2))), SO 4 20 (.mov (.v 0)), SO 5 21 (.flat (.mov (.v 2))), SO 6 22 (.flat (.mov (.v 5))), SO 7 23 (.flat (.bin false .add (.s 5) (.s 6))), SO 8 24 (.mov (.v 0)), SO 9 25 (.flat (.mov (.v 2))), SO 10 26 (.flat (.mov (.v 5))), SO 11 27 (.flat (.bin false .add (.s 9) (.s 10))), SO 12 28 (.ixAddr 1 (.s 8) (.s 11)), SO 13 29
 (.load false 1 (.s 12)), SO 14 30 (.mov (.v 0)), SO 15 31 (.flat (.mov (.v 1))), SO 16 32 (.flat (.mov (.v 5))), SO 17 33 (.flat (.bin false .add (.s 15) (.s 16))), SO 18 34 (.ixAddr 1 (.s 14) (.s 17)), SO 19 35 (.load false 1 (.s 18)), SO 20 36 (.ixAddr 1 (.s 0) (.s 3)), ⟨.no, 0, none, .store 1 (.s 20) (.s 13)⟩, SO 21 37 (.ixAddr 1 (.s 4) (.s 7)), ⟨.no, 0, none, .store 1 (.s 21) (.s 19)⟩] [[0, 1, 2, 3, 5, 6, 7, 8, 9, 10, 11, 12, 13, 14, 15, 16, 17, 18, 19, 20, 4, 21, 22, 23], [0, 1, 2, 3, 5, 6, 7, 8, 9, 10, 11, 12, 13, 14, 15, 16, 17, 18, 19, 20, 21, 4, 22, 23]] .skip)) (.region false [ PM 14
 5, PO 15 (.bin false .add (.s 0) (I6 1)), VS 5 10 0]))
def ir79_k0 : List Bool := [true, true, true, true, false, true]
def ir79_o0 : List Bool := [true, false, false, false, false, false]
def ir79_r0 : List Bool := [true, false, false, false, false, false]
def ir79_v : List Nat := [0, 1, 2, 3, 4, 10]
def ir79 : AFn := ⟨5, 6, .seq (.region false [ VO 5 10 (.mov (I6 0))]) (.block 0 (.loop ir79_k0 ir79_o0 ir79_r0 ir79_b0)), []⟩
noncomputable def t_48 : List (Nat × Ctr) := []
noncomputable def c_48 : Ctr := mkN t_48 ir79 [.io, .bor, .bor, .bor, .bor]
theorem s_48 : Sound Tryd.prog 79 c_48 := mkN_sound _ snd_nil (by kernel_rfl : chkFn Tryd.prog 79 ir79 ir79_v = true)
theorem M_48 : c_48.modes = [.io, .bor, .bor, .bor, .bor] := rfl
theorem Fl_48 : c_48.flat = false := rfl
attribute [go_sem] M_48 Fl_48
def E_48_l1 (a : Int) (b : Int) (n : Int) : ((List Int) × Int) → St
 | (data, i) => ⟨[.own 31, .int .i64 a, .int .i64 b, .int .i64 n, .any, .int .i64 i], [], [(31, ⟨1, List.map (AV.int .i64) data⟩)], true⟩
def R_48_l1 (a : Int) (b : Int) (n : Int) (y : (List Int)) : Res := (.exit 0, ⟨[.own 31, .any, .any, .any, .any, .any], [], [(31, ⟨1, List.map (AV.int .i64) y⟩)], true⟩)
theorem slices_swapRangeCmpFunc_int64__impl_orderBy_c2_l1_ex {a : Int} {b : Int} {n : Int} {sgm_ : (List Int) × Int} {rho_ : (List Int)} (h : whileE (slices_swapRangeCmpFunc_int64__impl_orderBy_c2_l1 a b n) sgm_ = some rho_) : ∃ L0, ∀ L, L0 ≤ L → iter (exec (look t_48) L ir79_b0) ir79_k0 ir79_o0 ir79_r0 L (E_48_l1 a b n sgm_) = R_48_l1 a b n rho_ := by
 refine loop_ex (E := E_48_l1 a b n) (R := R_48_l1 a b n) (fun y => by first | (intro c; cases c) | (rcases y with y | y <;> (intro c; cases c)) | (rcases y with y | y | y <;> (intro c; cases c))) ?_ h
 clear h
 rintro ⟨data, i⟩ o_ h
 dsimp only [slices_swapRangeCmpFunc_int64__impl_orderBy_c2_l1] at h
 rcases it_some h with ⟨z1, h⟩ | ⟨z1, h⟩
 ·try simp only [go_sem, n1, n2, n3, n4] at z1
  all_goals
  obtain ⟨z2, h⟩ := ck_some h
  have lz2 := ix_lt z2
  have xz2 := getD_mapD (AV.int .i64) data lz2
  try simp only [go_sem] at lz2
  try simp only [go_sem] at xz2
  try simp only [go_sem, n1, n2, n3, n4, z1] at z2
  all_goals
  obtain ⟨z3, h⟩ := ck_some h
  have lz3 := ix_lt z3
  have xz3 := getD_mapD (AV.int .i64) data lz3
  try simp only [go_sem] at lz3
  try simp only [go_sem] at xz3
  try simp only [go_sem, n1, n2, n3, n4, z1, z2] at z3
  all_goals
  have xz4 := (by rw [← List.map_set]; exact getD_mapD (AV.int .i64) (data.set ((IntKind.i64.wrap (a + i)).toNat) (data.getD (IntKind.i64.wrap (b + i)).toNat default)) (by first | (rw [List.length_set]; exact lz2) | (simp; omega)) : ((List.map (AV.int .i64) data).set ((IntKind.i64.wrap (a + i)).toNat) ((AV.int .i64) (data.getD (IntKind.i64.wrap (b + i)).toNat default))).getD ((IntKind.i64.wrap (b + i)).toNat) .any = (AV.int .i64) ((data.set ((IntKind.i64.wrap (a + i)).toNat) (data.getD (IntKind.i64.wrap (b + i)).toNat default)).getD ((IntKind.i64.wrap (b + i)).toNat) default))
  try simp only [go_sem] at xz4
  obtain rfl := so_some h
  refine ⟨0, fun L hL => ?_⟩
  simp only [go_sem, ir79, E_48_l1, R_48_l1, ir79_b0, ir79_k0, ir79_o0, ir79_r0, z1, z2, lz2, xz2, z3, lz3, xz3, xz4]
 ·try simp only [go_sem, n1, n2, n3, n4] at z1
  all_goals
  obtain rfl := so_some h
  refine ⟨0, fun L hL => ?_⟩
  simp only [go_sem, ir79, E_48_l1, R_48_l1, ir79_b0, ir79_k0, ir79_o0, ir79_r0, z1]

theorem Fs_48 {data : List Int} {a : Int} {b : Int} {n : Int} {cmp_c0_f_0 : List Star} {y_ : (List Int)} (h : slices_swapRangeCmpFunc_int64__impl_orderBy_c2 data a b n cmp_c0_f_0 = some y_) : c_48.F [.fresh 1 (List.map (AV.int .i64) data), .int .i64 a, .int .i64 b, .int .i64 n, .fn (.func 50) [] [.ptr 1 [.fn (.func 29) [] [.ptr 1 [.sl 5 (List.map Star_av cmp_c0_f_0)] 0 0]] 0 0]] = ⟨true, .cv undef, [.fresh 1 (List.map (AV.int .i64) y_), .any, .any, .any, .any]⟩ := by
 refine mkN_E ?_
 dsimp only [slices_swapRangeCmpFunc_int64__impl_orderBy_c2] at h
 obtain ⟨y_5, z5, h⟩ := bd_some h
 obtain ⟨Lz5, ez5⟩ := slices_swapRangeCmpFunc_int64__impl_orderBy_c2_l1_ex z5
 obtain ⟨z6, h⟩ := ck_some h
 try simp only [go_sem, n1, n2, n3, n4] at z6
 all_goals
 obtain rfl := so_some h
 refine ⟨Lz5, fun L hL => ?_⟩
 have ez5 := ez5 L (by omega)
 try simp only [go_sem, E_48_l1, R_48_l1, ir79_k0, ir79_o0, ir79_r0, z6] at ez5
 simp only [go_sem, ir79, E_48_l1, R_48_l1, ir79_k0, ir79_o0, ir79_r0, z6, ez5]


def ir75_b0 : IR := .seq (.test false [ PM 18 5, PM 19 6, PO 20 (.bin false .neq (.s 1) (.s 0))] (.s 0) (.skip) (.exit 0)) (.block 1 (.test false [ PM 21 5, PM 22 6, PO 23 (.bin false .gtr (.s 1) (.s 0))] (.s 0) (.seq (.region false [ PM 24 0, PM 25 2, PM 26 5, PO 27 (.bin false .sub (.s 1) (.s 0)), PM 28 2, PM 29 6, PM 30 4, PO 31 (.call 79 [(.s 6), (.s 3), (.s 2), (.s 1), (.s 0)])]) (.region false [ PM 32 5, PM 33 6, PO 34 (.bin false .sub (.s 1) (.s 0)), VS 5 10 0])) (.seq (.region false [ PM 35 0, PM 36 2, PM 37 5, PO 38 (.bin false .sub (.s 1) (.s 0)), PM 39 2, PM 40 6, PO 41 (.bin false
 .add (.s 1) (.s 0)), PM 42 5, PO 43 (.bin false .sub (.s 1) (.s 0)), PM 44 5, PM 45 4, PO 46 (.call 79 [(.s 10), (.s 7), (.s 2), (.s 1), (.s 0)])]) (.region false [ PM 47 6, PM 48 5, PO 49 (.bin false .sub (.s 1) (.s 0)), VS 6 11 0]))))
def ir75_k0 : List Bool := [true, false, true, false, true, true, true]
def ir75_o0 : List Bool := [true, false, true, false, true, true, false]
def ir75_r0 : List Bool := [true, false, false, false, false, false, false]
def ir75_v : List Nat := [0, 1, 2, 3, 4, 10, 11]
def ir75 : AFn := ⟨5, 7, .seq (.region false [ PM 12 2, PM 13 1, PO 14 (.bin false .sub (.s 1) (.s 0)), VS 5 10 0]) (.seq (.region false [ PM 15 3, PM 16 2, PO 17 (.bin false .sub (.s 1) (.s 0)), VS 6 11 0]) (.seq (.block 0 (.loop ir75_k0 ir75_o0 ir75_r0 ir75_b0)) (.region false [ PM 50 0, PM 51 2, PM 52 5, PO 53 (.bin false .sub (.s 1) (.s 0)), PM 54 2, PM 55 5, PM 56 4, PO 57 (.call 79 [(.s 6), (.s 3), (.s 2), (.s 1), (.s 0)])]))), []⟩
noncomputable def t_49 : List (Nat × Ctr) := [(79, c_48)]
theorem lk_49_79 : look t_49 79 = some c_48 := rfl
noncomputable def c_49 : Ctr := mkN t_49 ir75 [.io, .bor, .bor, .bor, .bor]
theorem s_49 : Sound Tryd.prog 75 c_49 := mkN_sound _ (snd_cons s_48 snd_nil) (by kernel_rfl : chkFn Tryd.prog 75 ir75 ir75_v = true)
theorem M_49 : c_49.modes = [.io, .bor, .bor, .bor, .bor] := rfl
theorem Fl_49 : c_49.flat = false := rfl
attribute [go_sem] M_49 Fl_49
attribute [go_sem] lk_49_79
def E_49_l1 (m : Int) (c : List Star) : ((List Int) × Int × Int) → St
 | (data, i, j) => ⟨[.own 31, .any, .int .i64 m, .any, .fn (.func 50) [] [.ptr 1 [.fn (.func 29) [] [.ptr 1 [.sl 5 (List.map Star_av c)] 0 0]] 0 0], .int .i64 i, .int .i64 j], [], [(31, ⟨1, List.map (AV.int .i64) data⟩)], true⟩
def R_49_l1 (m : Int) (c : List Star) (y : (List Int) × Int) : Res := (.exit 0, ⟨[.own 31, .any, .int .i64 m, .any, .fn (.func 50) [] [.ptr 1 [.fn (.func 29) [] [.ptr 1 [.sl 5 (List.map Star_av c)] 0 0]] 0 0], .int .i64 y.2, .any], [], [(31, ⟨1, List.map (AV.int .i64) y.1⟩)], true⟩)
theorem slices_rotateCmpFunc_int64__impl_orderBy_c2_l1_ex {m : Int} {c : List Star} {sgm_ : (List Int) × Int × Int} {rho_ : (List Int) × Int} (h : whileE (slices_rotateCmpFunc_int64__impl_orderBy_c2_l1 m c) sgm_ = some rho_) : ∃ L0, ∀ L, L0 ≤ L → iter (exec (look t_49) L ir75_b0) ir75_k0 ir75_o0 ir75_r0 L (E_49_l1 m c sgm_) = R_49_l1 m c rho_ := by
 refine loop_ex (E := E_49_l1 m c) (R := R_49_l1 m c) (fun y => by first | (intro c; cases c) | (rcases y with y | y <;> (intro c; cases c)) | (rcases y with y | y | y <;> (intro c; cases c))) ?_ h
 clear h
 rintro ⟨data, i, j⟩ o_ h
 dsimp only [slices_rotateCmpFunc_int64__impl_orderBy_c2_l1] at h
 rcases it_some h with ⟨z1, h⟩ | ⟨z1, h⟩
 ·try simp only [go_sem, n1, n2, n3, n4] at z1
  all_goals
  rcases it_some h with ⟨z2, h⟩ | ⟨z2, h⟩
  ·try simp only [go_sem, n1, n2, n3, n4, z1] at z2
   all_goals
   obtain ⟨y_3, z3, h⟩ := bd_some h
   have fz3 := Fs_48 z3
   try simp only [go_sem, z1, z2] at fz3
   obtain rfl := so_some h
   refine ⟨0, fun L hL => ?_⟩
   simp only [go_sem, ir75, E_49_l1, R_49_l1, ir75_b0, ir75_k0, ir75_o0, ir75_r0, z1, z2, fz3]
  ·try simp only [go_sem, n1, n2, n3, n4, z1] at z2
   all_goals
   obtain ⟨y_4, z4, h⟩ := bd_some h
   have fz4 := Fs_48 z4
   try simp only [go_sem, z1, z2] at fz4
   obtain rfl := so_some h
   refine ⟨0, fun L hL => ?_⟩
   simp only [go_sem, ir75, E_49_l1, R_49_l1, ir75_b0, ir75_k0, ir75_o0, ir75_r0, z1, z2, fz4]
 ·try simp only [go_sem, n1, n2, n3, n4] at z1
  all_goals
  obtain rfl := so_some h
  refine ⟨0, fun L hL => ?_⟩
  simp only [go_sem, ir75, E_49_l1, R_49_l1, ir75_b0, ir75_k0, ir75_o0, ir75_r0, z1]

theorem Fs_49 {data : List Int} {a : Int} {m : Int} {b : Int} {cmp_c0_f_0 : List Star} {y_ : (List Int)} (h : slices_rotateCmpFunc_int64__impl_orderBy_c2 data a m b cmp_c0_f_0 = some y_) : c_49.F [.fresh 1 (List.map (AV.int .i64) data), .int .i64 a, .int .i64 m, .int .i64 b, .fn (.func 50) [] [.ptr 1 [.fn (.func 29) [] [.ptr 1 [.sl 5 (List.map Star_av cmp_c0_f_0)] 0 0]] 0 0]] = ⟨true, .cv undef, [.fresh 1 (List.map (AV.int .i64) y_), .any, .any, .any, .any]⟩ := by
 refine mkN_E ?_
 dsimp only [slices_rotateCmpFunc_int64__impl_orderBy_c2] at h
 obtain ⟨y_5, z5, h⟩ := bd_some h
 obtain ⟨Lz5, ez5⟩ := slices_rotateCmpFunc_int64__impl_orderBy_c2_l1_ex z5
 obtain ⟨y_6, z6, h⟩ := bd_some h
 have fz6 := Fs_48 z6
 try simp only [go_sem] at fz6
 obtain ⟨z7, h⟩ := ck_some h
 try simp only [go_sem, n1, n2, n3, n4] at z7
 all_goals
 obtain rfl := so_some h
 refine ⟨Lz5, fun L hL => ?_⟩
 have ez5 := ez5 L (by omega)
 try simp only [go_sem, E_49_l1, R_49_l1, ir75_k0, ir75_o0, ir75_r0, z7] at ez5
 simp only [go_sem, ir75, E_49_l1, R_49_l1, ir75_k0, ir75_o0, ir75_r0, fz6, z7, ez5]


def ir70_b0 : IR := .seq (.test false [ PM 31 5, PM 32 6, PO 33 (.bin false .lss (.s 1) (.s 0))] (.s 0) (.skip) (.exit 0)) (.block 1 (.seq (.region false [ PM 34 5, PM 35 6, PO 36 (.bin false .add (.s 1) (.s 0)), PO 37 (.conv .u64 (.s 0)), PO 38 (.bin false .shr (.s 0) (.c (.int .u64 (1)))), PO 39 (.conv .i64 (.s 0)), VS 7 12 0]) (.anyo 11 [ SO 0 40 (.mov (.v 4)), SO 1 41 (.mov (.v 0)), SO 2 42 (.mov (.v 7)), SO 3 43 (.ixAddr 1 (.s 1) (.s 2)), SO 4 44 (.load false 1 (.s 3)), SO 5 45 (.mov (.v 0)), SO 6 46 (.mov (.v 1)), SO 7 47 (.ixAddr 1 (.s 5) (.s 6)), SO 8 48 (.load false 1 (.s 7)), SO 9 49
 (.pur (.callv (.s 0) [(.s 4), (.s 8)])), SO 10 50 (.bin false .lss (.s 9) (I6 0))] [] (.cond (.s 10) (.region false [ PM 51 7, PO 52 (.bin false .add (.s 0) (I6 1)), VS 5 10 0]) (.region false [ PM 53 7, VS 6 11 0])))))
def ir70_k0 : List Bool := [true, true, false, false, true, true, true, false, false, false, false, false, false, false, false, false, false, false, false, false]
def ir70_o0 : List Bool := [true, true, false, false, false, true, false, false, false, false, false, false, false, false, false, false, false, false, false, false]
def ir70_r0 : List Bool := [true, false, false, false, false, false, false, false, false, false, false, false, false, false, false, false, false, false, false, false]
def ir70_b1 : IR := .seq (.test false [ PM 55 8, PM 56 5, PO 57 (.bin false .sub (.s 0) (I6 1)), PO 58 (.bin false .lss (.s 2) (.s 0))] (.s 0) (.skip) (.exit 2)) (.seq (.block 3 (.anyo 16 [ SO 0 61 (.mov (.v 0)), SO 1 62 (.flat (.mov (.v 8))), SO 2 63 (.mov (.v 0)), SO 3 64 (.flat (.mov (.v 8))), SO 4 65 (.flat (.bin false .add (.s 3) (I6 1))), SO 5 66 (.mov (.v 0)), SO 6 67 (.flat (.mov (.v 8))), SO 7 68 (.flat (.bin false .add (.s 6) (I6 1))), SO 8 69 (.ixAddr 1 (.s 5) (.s 7)), SO 9 70 (.load false 1 (.s 8)), SO 10 71 (.mov (.v 0)), SO 11 72 (.flat (.mov (.v 8))), SO 12 73 (.ixAddr 1 (.s 10)
 (.s 11)), SO 13 74 (.load false 1 (.s 12)), SO 14 75 (.ixAddr 1 (.s 0) (.s 1)), ⟨.no, 0, none, .store 1 (.s 14) (.s 9)⟩, SO 15 76 (.ixAddr 1 (.s 2) (.s 4)), ⟨.no, 0, none, .store 1 (.s 15) (.s 13)⟩] [[0, 1, 3, 4, 5, 6, 7, 8, 9, 10, 11, 12, 13, 14, 2, 15, 16, 17], [0, 1, 3, 4, 5, 6, 7, 8, 9, 10, 11, 12, 13, 14, 15, 2, 16, 17]] .skip)) (.region false [ PM 59 8, PO 60 (.bin false .add (.s 0) (I6 1)), VS 8 13 0]))
def ir70_k1 : List Bool := [true, false, false, false, false, true, false, false, true, false, false, false, false, false, false, false, false, false, false, false]
def ir70_o1 : List Bool := [true, false, false, false, false, false, false, false, false, false, false, false, false, false, false, false, false, false, false, false]
def ir70_r1 : List Bool := [true, false, false, false, false, false, false, false, false, false, false, false, false, false, false, false, false, false, false, false]
def ir70_b2 : IR := .seq (.test false [ PM 83 9, PM 84 10, PO 85 (.bin false .lss (.s 1) (.s 0))] (.s 0) (.skip) (.exit 4)) (.block 5 (.seq (.region false [ PM 86 9, PM 87 10, PO 88 (.bin false .add (.s 1) (.s 0)), PO 89 (.conv .u64 (.s 0)), PO 90 (.bin false .shr (.s 0) (.c (.int .u64 (1)))), PO 91 (.conv .i64 (.s 0)), VS 11 16 0]) (.anyo 12 [ SO 0 92 (.mov (.v 4)), SO 1 93 (.mov (.v 0)), SO 2 94 (.mov (.v 2)), SO 3 95 (.ixAddr 1 (.s 1) (.s 2)), SO 4 96 (.load false 1 (.s 3)), SO 5 97 (.mov (.v 0)), SO 6 98 (.mov (.v 11)), SO 7 99 (.ixAddr 1 (.s 5) (.s 6)), SO 8 100 (.load false 1 (.s 7)), SO
 9 101 (.pur (.callv (.s 0) [(.s 4), (.s 8)])), SO 10 102 (.bin false .lss (.s 9) (I6 0)), SO 11 103 (.un .not (.s 10))] [] (.cond (.s 11) (.region false [ PM 104 11, PO 105 (.bin false .add (.s 0) (I6 1)), VS 9 14 0]) (.region false [ PM 106 11, VS 10 15 0])))))
def ir70_k2 : List Bool := [true, false, true, false, true, false, false, false, false, true, true, false, false, false, false, false, false, false, false, false]
def ir70_o2 : List Bool := [true, false, true, false, false, false, false, false, false, true, false, false, false, false, false, false, false, false, false, false]
def ir70_r2 : List Bool := [true, false, false, false, false, false, false, false, false, false, false, false, false, false, false, false, false, false, false, false]
def ir70_b3 : IR := .seq (.test false [ PM 108 12, PM 109 9, PO 110 (.bin false .gtr (.s 1) (.s 0))] (.s 0) (.skip) (.exit 6)) (.seq (.block 7 (.anyo 16 [ SO 0 113 (.mov (.v 0)), SO 1 114 (.flat (.mov (.v 12))), SO 2 115 (.mov (.v 0)), SO 3 116 (.flat (.mov (.v 12))), SO 4 117 (.flat (.bin false .sub (.s 3) (I6 1))), SO 5 118 (.mov (.v 0)), SO 6 119 (.flat (.mov (.v 12))), SO 7 120 (.flat (.bin false .sub (.s 6) (I6 1))), SO 8 121 (.ixAddr 1 (.s 5) (.s 7)), SO 9 122 (.load false 1 (.s 8)), SO 10 123 (.mov (.v 0)), SO 11 124 (.flat (.mov (.v 12))), SO 12 125 (.ixAddr 1 (.s 10) (.s 11)), SO 13
 126 (.load false 1 (.s 12)), SO 14 127 (.ixAddr 1 (.s 0) (.s 1)), ⟨.no, 0, none, .store 1 (.s 14) (.s 9)⟩, SO 15 128 (.ixAddr 1 (.s 2) (.s 4)), ⟨.no, 0, none, .store 1 (.s 15) (.s 13)⟩] [[0, 1, 3, 4, 5, 6, 7, 8, 9, 10, 11, 12, 13, 14, 2, 15, 16, 17], [0, 1, 3, 4, 5, 6, 7, 8, 9, 10, 11, 12, 13, 14, 15, 2, 16, 17]] .skip)) (.region false [ PM 111 12, PO 112 (.bin false .sub (.s 0) (I6 1)), VS 12 17 0]))
def ir70_k3 : List Bool := [true, false, false, false, false, false, false, false, false, true, false, false, true, false, false, false, false, false, false, false]
def ir70_o3 : List Bool := [true, false, false, false, false, false, false, false, false, false, false, false, false, false, false, false, false, false, false, false]
def ir70_r3 : List Bool := [true, false, false, false, false, false, false, false, false, false, false, false, false, false, false, false, false, false, false, false]
def ir70_b4 : IR := .seq (.test false [ PM 149 15, PM 150 16, PO 151 (.bin false .lss (.s 1) (.s 0))] (.s 0) (.skip) (.exit 8)) (.block 9 (.seq (.region false [ PM 152 15, PM 153 16, PO 154 (.bin false .add (.s 1) (.s 0)), PO 155 (.conv .u64 (.s 0)), PO 156 (.bin false .shr (.s 0) (.c (.int .u64 (1)))), PO 157 (.conv .i64 (.s 0)), VS 18 23 0]) (.anyo 14 [ SO 0 158 (.mov (.v 4)), SO 1 159 (.mov (.v 0)), SO 2 160 (.mov (.v 17)), SO 3 161 (.mov (.v 18)), SO 4 162 (.bin false .sub (.s 2) (.s 3)), SO 5 163 (.ixAddr 1 (.s 1) (.s 4)), SO 6 164 (.load false 1 (.s 5)), SO 7 165 (.mov (.v 0)), SO 8 166
 (.mov (.v 18)), SO 9 167 (.ixAddr 1 (.s 7) (.s 8)), SO 10 168 (.load false 1 (.s 9)), SO 11 169 (.pur (.callv (.s 0) [(.s 6), (.s 10)])), SO 12 170 (.bin false .lss (.s 11) (I6 0)), SO 13 171 (.un .not (.s 12))] [] (.cond (.s 13) (.region false [ PM 172 18, PO 173 (.bin false .add (.s 0) (I6 1)), VS 15 20 0]) (.region false [ PM 174 18, VS 16 21 0])))))
def ir70_k4 : List Bool := [true, true, true, true, true, false, false, false, false, false, false, false, false, true, true, true, true, true, false, false]
def ir70_o4 : List Bool := [true, true, true, true, true, false, false, false, false, false, false, false, false, true, true, true, false, false, false, false]
def ir70_r4 : List Bool := [true, false, false, false, false, false, false, false, false, false, false, false, false, false, false, false, false, false, false, false]
def ir70_v : List Nat := [0, 1, 2, 3, 4, 10, 11, 12, 13, 14, 15, 16, 17, 18, 19, 20, 21, 22, 23, 24]
def ir70 : AFn := ⟨5, 20, .seq (.test false [ PM 25 2, PM 26 1, PO 27 (.bin false .sub (.s 1) (.s 0)), PO 28 (.bin false .eql (.s 0) (I6 1))] (.s 0) (.seq (.region false [ PM 29 2, VS 5 10 0]) (.seq (.region false [ PM 30 3, VS 6 11 0]) (.seq (.block 0 (.loop ir70_k0 ir70_o0 ir70_r0 ir70_b0)) (.seq (.seq (.region false [ PM 54 1, VS 8 13 0]) (.block 2 (.loop ir70_k1 ir70_o1 ir70_r1 ir70_b1))) (.ret))))) (.skip)) (.seq (.test false [ PM 77 3, PM 78 2, PO 79 (.bin false .sub (.s 1) (.s 0)), PO 80 (.bin false .eql (.s 0) (I6 1))] (.s 0) (.seq (.region false [ PM 81 1, VS 9 14 0]) (.seq (.region
 false [ PM 82 2, VS 10 15 0]) (.seq (.block 4 (.loop ir70_k2 ir70_o2 ir70_r2 ir70_b2)) (.seq (.seq (.region false [ PM 107 2, VS 12 17 0]) (.block 6 (.loop ir70_k3 ir70_o3 ir70_r3 ir70_b3))) (.ret))))) (.skip)) (.seq (.region false [ PM 129 1, PM 130 3, PO 131 (.bin false .add (.s 1) (.s 0)), PO 132 (.conv .u64 (.s 0)), PO 133 (.bin false .shr (.s 0) (.c (.int .u64 (1)))), PO 134 (.conv .i64 (.s 0)), VS 13 18 0]) (.seq (.region false [ PM 135 13, PM 136 2, PO 137 (.bin false .add (.s 1) (.s 0)), VS 14 19 0]) (.seq (.region false [ VO 15 20 (.mov (I6 0)), VO 16 21 (.mov (I6 0))]) (.seq (.test
 false [ PM 138 2, PM 139 13, PO 140 (.bin false .gtr (.s 1) (.s 0))] (.s 0) (.seq (.region false [ PM 141 14, PM 142 3, PO 143 (.bin false .sub (.s 1) (.s 0)), VS 15 20 0]) (.region false [ PM 144 13, VS 16 21 0])) (.seq (.region false [ PM 145 1, VS 15 20 0]) (.region false [ PM 146 2, VS 16 21 0]))) (.seq (.region false [ PM 147 14, PO 148 (.bin false .sub (.s 0) (I6 1)), VS 17 22 0]) (.seq (.block 8 (.loop ir70_k4 ir70_o4 ir70_r4 ir70_b4)) (.seq (.region false [ PM 175 14, PM 176 15, PO 177 (.bin false .sub (.s 1) (.s 0)), VS 19 24 0]) (.seq (.test false [ PM 178 15, PM 179 2, PO 180 (.bin
 false .lss (.s 1) (.s 0)), PO 181 (.mov (.s 0)), ⟨.push, 182, (some ((.s 0), true)), .mov (.v 2)⟩, ⟨.push, 183, (some ((.s 1), true)), .mov (.v 19)⟩, ⟨.push, 184, (some ((.s 2), true)), .bin false .lss (.s 1) (.s 0)⟩, PO 185 (.pick (.s 3) (.s 0) (.c (.bool false)))] (.s 0) (.region false [ PM 186 0, PM 187 15, PM 188 2, PM 189 19, PM 190 4, PO 191 (.call 75 [(.s 4), (.s 3), (.s 2), (.s 1), (.s 0)])]) (.skip)) (.seq (.test false [ PM 192 1, PM 193 15, PO 194 (.bin false .lss (.s 1) (.s 0)), PO 195 (.mov (.s 0)), ⟨.push, 196, (some ((.s 0), true)), .mov (.v 15)⟩, ⟨.push, 197, (some ((.s 1),
 true)), .mov (.v 13)⟩, ⟨.push, 198, (some ((.s 2), true)), .bin false .lss (.s 1) (.s 0)⟩, PO 199 (.pick (.s 3) (.s 0) (.c (.bool false)))] (.s 0) (.region false [ PM 200 0, PM 201 1, PM 202 15, PM 203 13, PM 204 4, PO 205 (.call 70 [(.s 4), (.s 3), (.s 2), (.s 1), (.s 0)])]) (.skip)) (.test false [ PM 206 13, PM 207 19, PO 208 (.bin false .lss (.s 1) (.s 0)), PO 209 (.mov (.s 0)), ⟨.push, 210, (some ((.s 0), true)), .mov (.v 19)⟩, ⟨.push, 211, (some ((.s 1), true)), .mov (.v 3)⟩, ⟨.push, 212, (some ((.s 2), true)), .bin false .lss (.s 1) (.s 0)⟩, PO 213 (.pick (.s 3) (.s 0) (.c (.bool
 false)))] (.s 0) (.region false [ PM 214 0, PM 215 13, PM 216 19, PM 217 3, PM 218 4, PO 219 (.call 70 [(.s 4), (.s 3), (.s 2), (.s 1), (.s 0)])]) (.skip)))))))))))), []⟩
noncomputable def cn_slices_symMergeCmpFunc_int64__impl_orderBy_c2 : Nat → Ctr
 | 0 => badC [.io, .bor, .bor, .bor, .bor]
 | n_ + 1 => mkN [(50, c_46), (75, c_49), (70, (cn_slices_symMergeCmpFunc_int64__impl_orderBy_c2 n_))] ir70 [.io, .bor, .bor, .bor, .bor]
theorem Mn_slices_symMergeCmpFunc_int64__impl_orderBy_c2 (n_ : Nat) : (cn_slices_symMergeCmpFunc_int64__impl_orderBy_c2 n_).modes = [.io, .bor, .bor, .bor, .bor] := by cases n_ <;> rfl
theorem Fln_slices_symMergeCmpFunc_int64__impl_orderBy_c2 (n_ : Nat) : (cn_slices_symMergeCmpFunc_int64__impl_orderBy_c2 n_).flat = false := by cases n_ <;> rfl
attribute [go_sem] Mn_slices_symMergeCmpFunc_int64__impl_orderBy_c2 Fln_slices_symMergeCmpFunc_int64__impl_orderBy_c2
noncomputable def t_50 (n_ : Nat) : List (Nat × Ctr) := [(50, c_46), (75, c_49), (70, (cn_slices_symMergeCmpFunc_int64__impl_orderBy_c2 n_))]
theorem lk_50_50 (n_ : Nat) : look (t_50 n_) 50 = some c_46 := rfl
theorem lk_50_75 (n_ : Nat) : look (t_50 n_) 75 = some c_49 := rfl
theorem lk_50_70 (n_ : Nat) : look (t_50 n_) 70 = some (cn_slices_symMergeCmpFunc_int64__impl_orderBy_c2 n_) := rfl
theorem csn_slices_symMergeCmpFunc_int64__impl_orderBy_c2 (n_ : Nat) : cn_slices_symMergeCmpFunc_int64__impl_orderBy_c2 (n_ + 1) = mkN (t_50 n_) ir70 [.io, .bor, .bor, .bor, .bor] := rfl
theorem sn_slices_symMergeCmpFunc_int64__impl_orderBy_c2 : ∀ n_ : Nat, Sound Tryd.prog 70 (cn_slices_symMergeCmpFunc_int64__impl_orderBy_c2 n_)
 | 0 => badC_sound
 | n_ + 1 => mkN_sound _ (snd_cons s_46 (snd_cons s_49 (snd_cons (sn_slices_symMergeCmpFunc_int64__impl_orderBy_c2 n_) snd_nil))) (by kernel_rfl : chkFn Tryd.prog 70 ir70 ir70_v = true)
noncomputable def c_50 : Ctr := cn_slices_symMergeCmpFunc_int64__impl_orderBy_c2 64
theorem s_50 : Sound Tryd.prog 70 c_50 := sn_slices_symMergeCmpFunc_int64__impl_orderBy_c2 64
theorem M_50 : c_50.modes = [.io, .bor, .bor, .bor, .bor] := Mn_slices_symMergeCmpFunc_int64__impl_orderBy_c2 64
theorem Fl_50 : c_50.flat = false := Fln_slices_symMergeCmpFunc_int64__impl_orderBy_c2 64
attribute [go_sem] M_50 Fl_50
attribute [go_sem] lk_50_50 lk_50_75 lk_50_70
def E_50_l1 (data : List Int) (a : Int) (c : List Star) : (Int × Int) → St
 | (i, j) => ⟨[.own 31, .int .i64 a, .any, .any, .fn (.func 50) [] [.ptr 1 [.fn (.func 29) [] [.ptr 1 [.sl 5 (List.map Star_av c)] 0 0]] 0 0], .int .i64 i, .int .i64 j, .any, .any, .any, .any, .any, .any, .any, .any, .any, .any, .any, .any, .any], [], [(31, ⟨1, List.map (AV.int .i64) data⟩)], true⟩
def R_50_l1 (data : List Int) (a : Int) (c : List Star) (y : Int) : Res := (.exit 0, ⟨[.own 31, .int .i64 a, .any, .any, .any, .int .i64 y, .any, .any, .any, .any, .any, .any, .any, .any, .any, .any, .any, .any, .any, .any], [], [(31, ⟨1, List.map (AV.int .i64) data⟩)], true⟩)
set_option maxHeartbeats 64000000 in
theorem slices_symMergeCmpFunc_int64__impl_orderBy_c2_l1_ex (n_ : Nat) {data : List Int} {a : Int} {c : List Star} {sgm_ : Int × Int} {rho_ : Int} (h : whileE (slices_symMergeCmpFunc_int64__impl_orderBy_c2_l1 data a c) sgm_ = some rho_) : ∃ L0, ∀ L, L0 ≤ L → iter (exec (look (t_50 n_)) L ir70_b0) ir70_k0 ir70_o0 ir70_r0 L (E_50_l1 data a c sgm_) = R_50_l1 data a c rho_ := by
 refine loop_ex (E := E_50_l1 data a c) (R := R_50_l1 data a c) (fun y => by first | (intro c; cases c) | (rcases y with y | y <;> (intro c; cases c)) | (rcases y with y | y | y <;> (intro c; cases c))) ?_ h
 clear h
 rintro ⟨i, j⟩ o_ h
 dsimp only [slices_symMergeCmpFunc_int64__impl_orderBy_c2_l1] at h
 rcases it_some h with ⟨z2, h⟩ | ⟨z2, h⟩
 ·try simp only [go_sem, n1, n2, n3, n4] at z2
  all_goals
  obtain ⟨z3, h⟩ := ck_some h
  try simp only [go_sem, n1, n2, n3, n4, z2] at z3
  all_goals
  obtain ⟨z4, h⟩ := ck_some h
  have lz4 := ix_lt z4
  have xz4 := getD_mapD (AV.int .i64) data lz4
  try simp only [go_sem] at lz4
  try simp only [go_sem] at xz4
  try simp only [go_sem, n1, n2, n3, n4, z2, z3] at z4
  all_goals
  obtain ⟨z5, h⟩ := ck_some h
  have lz5 := ix_lt z5
  have xz5 := getD_mapD (AV.int .i64) data lz5
  try simp only [go_sem] at lz5
  try simp only [go_sem] at xz5
  try simp only [go_sem, n1, n2, n3, n4, z2, z3, z4] at z5
  all_goals
  obtain ⟨y_6, z6, h⟩ := bd_some h
  have fz6 := Fs_46 z6
  try simp only [go_sem, z2, z3, z4, z5] at fz6
  rcases it_some h with ⟨z7, h⟩ | ⟨z7, h⟩
  ·try simp only [go_sem, n1, n2, n3, n4, z2, z3, z4, z5] at z7
   all_goals
   obtain rfl := so_some h
   refine ⟨0, fun L hL => ?_⟩
   simp only [go_sem, ir70, E_50_l1, R_50_l1, ir70_b0, ir70_k0, ir70_o0, ir70_r0, z2, z3, z4, lz4, xz4, z5, lz5, xz5, fz6, z7]
  ·try simp only [go_sem, n1, n2, n3, n4, z2, z3, z4, z5] at z7
   all_goals
   obtain rfl := so_some h
   refine ⟨0, fun L hL => ?_⟩
   simp only [go_sem, ir70, E_50_l1, R_50_l1, ir70_b0, ir70_k0, ir70_o0, ir70_r0, z2, z3, z4, lz4, xz4, z5, lz5, xz5, fz6, z7]
 ·try simp only [go_sem, n1, n2, n3, n4] at z2
  all_goals
  obtain rfl := so_some h
  refine ⟨0, fun L hL => ?_⟩
  simp only [go_sem, ir70, E_50_l1, R_50_l1, ir70_b0, ir70_k0, ir70_o0, ir70_r0, z2]

def E_50_l2 (i : Int) : ((List Int) × Int) → St
 | (data, k) => ⟨[.own 31, .any, .any, .any, .any, .int .i64 i, .any, .any, .int .i64 k, .any, .any, .any, .any, .any, .any, .any, .any, .any, .any, .any], [], [(31, ⟨1, List.map (AV.int .i64) data⟩)], true⟩
def R_50_l2 (i : Int) (y : (List Int)) : Res := (.exit 2, ⟨[.own 31, .any, .any, .any, .any, .any, .any, .any, .any, .any, .any, .any, .any, .any, .any, .any, .any, .any, .any, .any], [], [(31, ⟨1, List.map (AV.int .i64) y⟩)], true⟩)
set_option maxHeartbeats 64000000 in
theorem slices_symMergeCmpFunc_int64__impl_orderBy_c2_l2_ex (n_ : Nat) {i : Int} {sgm_ : (List Int) × Int} {rho_ : (List Int)} (h : whileE (slices_symMergeCmpFunc_int64__impl_orderBy_c2_l2 i) sgm_ = some rho_) : ∃ L0, ∀ L, L0 ≤ L → iter (exec (look (t_50 n_)) L ir70_b1) ir70_k1 ir70_o1 ir70_r1 L (E_50_l2 i sgm_) = R_50_l2 i rho_ := by
 refine loop_ex (E := E_50_l2 i) (R := R_50_l2 i) (fun y => by first | (intro c; cases c) | (rcases y with y | y <;> (intro c; cases c)) | (rcases y with y | y | y <;> (intro c; cases c))) ?_ h
 clear h
 rintro ⟨data, k⟩ o_ h
 dsimp only [slices_symMergeCmpFunc_int64__impl_orderBy_c2_l2] at h
 rcases it_some h with ⟨z9, h⟩ | ⟨z9, h⟩
 ·try simp only [go_sem, n1, n2, n3, n4] at z9
  all_goals
  obtain ⟨z10, h⟩ := ck_some h
  have lz10 := ix_lt z10
  have xz10 := getD_mapD (AV.int .i64) data lz10
  try simp only [go_sem] at lz10
  try simp only [go_sem] at xz10
  try simp only [go_sem, n1, n2, n3, n4, z9] at z10
  all_goals
  obtain ⟨z11, h⟩ := ck_some h
  have lz11 := ix_lt z11
  have xz11 := getD_mapD (AV.int .i64) data lz11
  try simp only [go_sem] at lz11
  try simp only [go_sem] at xz11
  try simp only [go_sem, n1, n2, n3, n4, z9, z10] at z11
  all_goals
  have xz12 := (by rw [← List.map_set]; exact getD_mapD (AV.int .i64) (data.set k.toNat (data.getD (IntKind.i64.wrap (k + 1)).toNat default)) (by first | (rw [List.length_set]; exact lz10) | (simp; omega)) : ((List.map (AV.int .i64) data).set k.toNat ((AV.int .i64) (data.getD (IntKind.i64.wrap (k + 1)).toNat default))).getD ((IntKind.i64.wrap (k + 1)).toNat) .any = (AV.int .i64) ((data.set k.toNat (data.getD (IntKind.i64.wrap (k + 1)).toNat default)).getD ((IntKind.i64.wrap (k + 1)).toNat) default))
  try simp only [go_sem] at xz12
  obtain rfl := so_some h
  refine ⟨0, fun L hL => ?_⟩
  simp only [go_sem, ir70, E_50_l2, R_50_l2, ir70_b1, ir70_k1, ir70_o1, ir70_r1, E_50_l1, R_50_l1, ir70_k0, ir70_o0, ir70_r0, z9, z10, lz10, xz10, z11, lz11, xz11, xz12]
 ·try simp only [go_sem, n1, n2, n3, n4] at z9
  all_goals
  obtain rfl := so_some h
  refine ⟨0, fun L hL => ?_⟩
  simp only [go_sem, ir70, E_50_l2, R_50_l2, ir70_b1, ir70_k1, ir70_o1, ir70_r1, E_50_l1, R_50_l1, ir70_k0, ir70_o0, ir70_r0, z9]

def E_50_l3 (data : List Int) (m : Int) (c : List Star) : (Int × Int) → St
 | (i, j) => ⟨[.own 31, .any, .int .i64 m, .any, .fn (.func 50) [] [.ptr 1 [.fn (.func 29) [] [.ptr 1 [.sl 5 (List.map Star_av c)] 0 0]] 0 0], .any, .any, .any, .any, .int .i64 i, .int .i64 j, .any, .any, .any, .any, .any, .any, .any, .any, .any], [], [(31, ⟨1, List.map (AV.int .i64) data⟩)], true⟩
def R_50_l3 (data : List Int) (m : Int) (c : List Star) (y : Int) : Res := (.exit 4, ⟨[.own 31, .any, .int .i64 m, .any, .any, .any, .any, .any, .any, .int .i64 y, .any, .any, .any, .any, .any, .any, .any, .any, .any, .any], [], [(31, ⟨1, List.map (AV.int .i64) data⟩)], true⟩)
set_option maxHeartbeats 64000000 in
theorem slices_symMergeCmpFunc_int64__impl_orderBy_c2_l3_ex (n_ : Nat) {data : List Int} {m : Int} {c : List Star} {sgm_ : Int × Int} {rho_ : Int} (h : whileE (slices_symMergeCmpFunc_int64__impl_orderBy_c2_l3 data m c) sgm_ = some rho_) : ∃ L0, ∀ L, L0 ≤ L → iter (exec (look (t_50 n_)) L ir70_b2) ir70_k2 ir70_o2 ir70_r2 L (E_50_l3 data m c sgm_) = R_50_l3 data m c rho_ := by
 refine loop_ex (E := E_50_l3 data m c) (R := R_50_l3 data m c) (fun y => by first | (intro c; cases c) | (rcases y with y | y <;> (intro c; cases c)) | (rcases y with y | y | y <;> (intro c; cases c))) ?_ h
 clear h
 rintro ⟨i, j⟩ o_ h
 dsimp only [slices_symMergeCmpFunc_int64__impl_orderBy_c2_l3] at h
 rcases it_some h with ⟨z16, h⟩ | ⟨z16, h⟩
 ·try simp only [go_sem, n1, n2, n3, n4] at z16
  all_goals
  obtain ⟨z17, h⟩ := ck_some h
  try simp only [go_sem, n1, n2, n3, n4, z16] at z17
  all_goals
  obtain ⟨z18, h⟩ := ck_some h
  have lz18 := ix_lt z18
  have xz18 := getD_mapD (AV.int .i64) data lz18
  try simp only [go_sem] at lz18
  try simp only [go_sem] at xz18
  try simp only [go_sem, n1, n2, n3, n4, z16, z17] at z18
  all_goals
  obtain ⟨z19, h⟩ := ck_some h
  have lz19 := ix_lt z19
  have xz19 := getD_mapD (AV.int .i64) data lz19
  try simp only [go_sem] at lz19
  try simp only [go_sem] at xz19
  try simp only [go_sem, n1, n2, n3, n4, z16, z17, z18] at z19
  all_goals
  obtain ⟨y_20, z20, h⟩ := bd_some h
  have fz20 := Fs_46 z20
  try simp only [go_sem, z16, z17, z18, z19] at fz20
  rcases it_some h with ⟨z21, h⟩ | ⟨z21, h⟩
  ·try simp only [go_sem, n1, n2, n3, n4, z16, z17, z18, z19] at z21
   all_goals
   obtain rfl := so_some h
   refine ⟨0, fun L hL => ?_⟩
   simp only [go_sem, ir70, E_50_l3, R_50_l3, ir70_b2, ir70_k2, ir70_o2, ir70_r2, E_50_l1, R_50_l1, ir70_k0, ir70_o0, ir70_r0, E_50_l2, R_50_l2, ir70_k1, ir70_o1, ir70_r1, z16, z17, z18, lz18, xz18, z19, lz19, xz19, fz20, z21]
  ·try simp only [go_sem, n1, n2, n3, n4, z16, z17, z18, z19] at z21
   all_goals
   obtain rfl := so_some h
   refine ⟨0, fun L hL => ?_⟩
   simp only [go_sem, ir70, E_50_l3, R_50_l3, ir70_b2, ir70_k2, ir70_o2, ir70_r2, E_50_l1, R_50_l1, ir70_k0, ir70_o0, ir70_r0, E_50_l2, R_50_l2, ir70_k1, ir70_o1, ir70_r1, z16, z17, z18, lz18, xz18, z19, lz19, xz19, fz20, z21]
 ·try simp only [go_sem, n1, n2, n3, n4] at z16
  all_goals
  obtain rfl := so_some h
  refine ⟨0, fun L hL => ?_⟩
  simp only [go_sem, ir70, E_50_l3, R_50_l3, ir70_b2, ir70_k2, ir70_o2, ir70_r2, E_50_l1, R_50_l1, ir70_k0, ir70_o0, ir70_r0, E_50_l2, R_50_l2, ir70_k1, ir70_o1, ir70_r1, z16]

def E_50_l4 (i : Int) : ((List Int) × Int) → St
 | (data, k) => ⟨[.own 31, .any, .any, .any, .any, .any, .any, .any, .any, .int .i64 i, .any, .any, .int .i64 k, .any, .any, .any, .any, .any, .any, .any], [], [(31, ⟨1, List.map (AV.int .i64) data⟩)], true⟩
def R_50_l4 (i : Int) (y : (List Int)) : Res := (.exit 6, ⟨[.own 31, .any, .any, .any, .any, .any, .any, .any, .any, .any, .any, .any, .any, .any, .any, .any, .any, .any, .any, .any], [], [(31, ⟨1, List.map (AV.int .i64) y⟩)], true⟩)
set_option maxHeartbeats 64000000 in
theorem slices_symMergeCmpFunc_int64__impl_orderBy_c2_l4_ex (n_ : Nat) {i : Int} {sgm_ : (List Int) × Int} {rho_ : (List Int)} (h : whileE (slices_symMergeCmpFunc_int64__impl_orderBy_c2_l4 i) sgm_ = some rho_) : ∃ L0, ∀ L, L0 ≤ L → iter (exec (look (t_50 n_)) L ir70_b3) ir70_k3 ir70_o3 ir70_r3 L (E_50_l4 i sgm_) = R_50_l4 i rho_ := by
 refine loop_ex (E := E_50_l4 i) (R := R_50_l4 i) (fun y => by first | (intro c; cases c) | (rcases y with y | y <;> (intro c; cases c)) | (rcases y with y | y | y <;> (intro c; cases c))) ?_ h
 clear h
 rintro ⟨data, k⟩ o_ h
 dsimp only [slices_symMergeCmpFunc_int64__impl_orderBy_c2_l4] at h
 rcases it_some h with ⟨z23, h⟩ | ⟨z23, h⟩
 ·try simp only [go_sem, n1, n2, n3, n4] at z23
  all_goals
  obtain ⟨z24, h⟩ := ck_some h
  have lz24 := ix_lt z24
  have xz24 := getD_mapD (AV.int .i64) data lz24
  try simp only [go_sem] at lz24
  try simp only [go_sem] at xz24
  try simp only [go_sem, n1, n2, n3, n4, z23] at z24
  all_goals
  obtain ⟨z25, h⟩ := ck_some h
  have lz25 := ix_lt z25
  have xz25 := getD_mapD (AV.int .i64) data lz25
  try simp only [go_sem] at lz25
  try simp only [go_sem] at xz25
  try simp only [go_sem, n1, n2, n3, n4, z23, z24] at z25
  all_goals
  have xz26 := (by rw [← List.map_set]; exact getD_mapD (AV.int .i64) (data.set k.toNat (data.getD (IntKind.i64.wrap (k - 1)).toNat default)) (by first | (rw [List.length_set]; exact lz24) | (simp; omega)) : ((List.map (AV.int .i64) data).set k.toNat ((AV.int .i64) (data.getD (IntKind.i64.wrap (k - 1)).toNat default))).getD ((IntKind.i64.wrap (k - 1)).toNat) .any = (AV.int .i64) ((data.set k.toNat (data.getD (IntKind.i64.wrap (k - 1)).toNat default)).getD ((IntKind.i64.wrap (k - 1)).toNat) default))
  try simp only [go_sem] at xz26
  obtain rfl := so_some h
  refine ⟨0, fun L hL => ?_⟩
  simp only [go_sem, ir70, E_50_l4, R_50_l4, ir70_b3, ir70_k3, ir70_o3, ir70_r3, E_50_l1, R_50_l1, ir70_k0, ir70_o0, ir70_r0, E_50_l2, R_50_l2, ir70_k1, ir70_o1, ir70_r1, E_50_l3, R_50_l3, ir70_k2, ir70_o2, ir70_r2, z23, z24, lz24, xz24, z25, lz25, xz25, xz26]
 ·try simp only [go_sem, n1, n2, n3, n4] at z23
  all_goals
  obtain rfl := so_some h
  refine ⟨0, fun L hL => ?_⟩
  simp only [go_sem, ir70, E_50_l4, R_50_l4, ir70_b3, ir70_k3, ir70_o3, ir70_r3, E_50_l1, R_50_l1, ir70_k0, ir70_o0, ir70_r0, E_50_l2, R_50_l2, ir70_k1, ir70_o1, ir70_r1, E_50_l3, R_50_l3, ir70_k2, ir70_o2, ir70_r2, z23]

def E_50_l5 (data : List Int) (a : Int) (m : Int) (b : Int) (c : List Star) (mid : Int) (n : Int) (p : Int) : (Int × Int) → St
 | (start, r) => ⟨[.own 31, .int .i64 a, .int .i64 m, .int .i64 b, .fn (.func 50) [] [.ptr 1 [.fn (.func 29) [] [.ptr 1 [.sl 5 (List.map Star_av c)] 0 0]] 0 0], .any, .any, .any, .any, .any, .any, .any, .any, .int .i64 mid, .int .i64 n, .int .i64 start, .int .i64 r, .int .i64 p, .any, .any], [], [(31, ⟨1, List.map (AV.int .i64) data⟩)], true⟩
def R_50_l5 (data : List Int) (a : Int) (m : Int) (b : Int) (c : List Star) (mid : Int) (n : Int) (p : Int) (y : Int) : Res := (.exit 8, ⟨[.own 31, .int .i64 a, .int .i64 m, .int .i64 b, .fn (.func 50) [] [.ptr 1 [.fn (.func 29) [] [.ptr 1 [.sl 5 (List.map Star_av c)] 0 0]] 0 0], .any, .any, .any, .any, .any, .any, .any, .any, .int .i64 mid, .int .i64 n, .int .i64 y, .any, .any, .any, .any], [], [(31, ⟨1, List.map (AV.int .i64) data⟩)], true⟩)
set_option maxHeartbeats 64000000 in
theorem slices_symMergeCmpFunc_int64__impl_orderBy_c2_l5_ex (n_ : Nat) {data : List Int} {a : Int} {m : Int} {b : Int} {c : List Star} {mid : Int} {n : Int} {p : Int} {sgm_ : Int × Int} {rho_ : Int} (h : whileE (slices_symMergeCmpFunc_int64__impl_orderBy_c2_l5 data a m b c mid n p) sgm_ = some rho_) : ∃ L0, ∀ L, L0 ≤ L → iter (exec (look (t_50 n_)) L ir70_b4) ir70_k4 ir70_o4 ir70_r4 L (E_50_l5 data a m b c mid n p sgm_) = R_50_l5 data a m b c mid n p rho_ := by
 refine loop_ex (E := E_50_l5 data a m b c mid n p) (R := R_50_l5 data a m b c mid n p) (fun y => by first | (intro c; cases c) | (rcases y with y | y <;> (intro c; cases c)) | (rcases y with y | y | y <;> (intro c; cases c))) ?_ h
 clear h
 rintro ⟨start, r⟩ o_ h
 dsimp only [slices_symMergeCmpFunc_int64__impl_orderBy_c2_l5] at h
 rcases it_some h with ⟨z31, h⟩ | ⟨z31, h⟩
 ·try simp only [go_sem, n1, n2, n3, n4] at z31
  all_goals
  obtain ⟨z32, h⟩ := ck_some h
  try simp only [go_sem, n1, n2, n3, n4, z31] at z32
  all_goals
  obtain ⟨z33, h⟩ := ck_some h
  have lz33 := ix_lt z33
  have xz33 := getD_mapD (AV.int .i64) data lz33
  try simp only [go_sem] at lz33
  try simp only [go_sem] at xz33
  try simp only [go_sem, n1, n2, n3, n4, z31, z32] at z33
  all_goals
  obtain ⟨z34, h⟩ := ck_some h
  have lz34 := ix_lt z34
  have xz34 := getD_mapD (AV.int .i64) data lz34
  try simp only [go_sem] at lz34
  try simp only [go_sem] at xz34
  try simp only [go_sem, n1, n2, n3, n4, z31, z32, z33] at z34
  all_goals
  obtain ⟨y_35, z35, h⟩ := bd_some h
  have fz35 := Fs_46 z35
  try simp only [go_sem, z31, z32, z33, z34] at fz35
  rcases it_some h with ⟨z36, h⟩ | ⟨z36, h⟩
  ·try simp only [go_sem, n1, n2, n3, n4, z31, z32, z33, z34] at z36
   all_goals
   obtain rfl := so_some h
   refine ⟨0, fun L hL => ?_⟩
   simp only [go_sem, ir70, E_50_l5, R_50_l5, ir70_b4, ir70_k4, ir70_o4, ir70_r4, E_50_l1, R_50_l1, ir70_k0, ir70_o0, ir70_r0, E_50_l2, R_50_l2, ir70_k1, ir70_o1, ir70_r1, E_50_l3, R_50_l3, ir70_k2, ir70_o2, ir70_r2, E_50_l4, R_50_l4, ir70_k3, ir70_o3, ir70_r3, z31, z32, z33, lz33, xz33, z34, lz34, xz34, fz35, z36]
  ·try simp only [go_sem, n1, n2, n3, n4, z31, z32, z33, z34] at z36
   all_goals
   obtain rfl := so_some h
   refine ⟨0, fun L hL => ?_⟩
   simp only [go_sem, ir70, E_50_l5, R_50_l5, ir70_b4, ir70_k4, ir70_o4, ir70_r4, E_50_l1, R_50_l1, ir70_k0, ir70_o0, ir70_r0, E_50_l2, R_50_l2, ir70_k1, ir70_o1, ir70_r1, E_50_l3, R_50_l3, ir70_k2, ir70_o2, ir70_r2, E_50_l4, R_50_l4, ir70_k3, ir70_o3, ir70_r3, z31, z32, z33, lz33, xz33, z34, lz34, xz34, fz35, z36]
 ·try simp only [go_sem, n1, n2, n3, n4] at z31
  all_goals
  obtain rfl := so_some h
  refine ⟨0, fun L hL => ?_⟩
  simp only [go_sem, ir70, E_50_l5, R_50_l5, ir70_b4, ir70_k4, ir70_o4, ir70_r4, E_50_l1, R_50_l1, ir70_k0, ir70_o0, ir70_r0, E_50_l2, R_50_l2, ir70_k1, ir70_o1, ir70_r1, E_50_l3, R_50_l3, ir70_k2, ir70_o2, ir70_r2, E_50_l4, R_50_l4, ir70_k3, ir70_o3, ir70_r3, z31]

def E_50_l6 (data : List Int) (a : Int) (m : Int) (b : Int) (c : List Star) (mid : Int) (n : Int) (p : Int) : (Int × Int) → St
 | (start, r) => ⟨[.own 31, .int .i64 a, .int .i64 m, .int .i64 b, .fn (.func 50) [] [.ptr 1 [.fn (.func 29) [] [.ptr 1 [.sl 5 (List.map Star_av c)] 0 0]] 0 0], .any, .any, .any, .any, .any, .any, .any, .any, .int .i64 mid, .int .i64 n, .int .i64 start, .int .i64 r, .int .i64 p, .any, .any], [], [(31, ⟨1, List.map (AV.int .i64) data⟩)], true⟩
def R_50_l6 (data : List Int) (a : Int) (m : Int) (b : Int) (c : List Star) (mid : Int) (n : Int) (p : Int) (y : Int) : Res := (.exit 8, ⟨[.own 31, .int .i64 a, .int .i64 m, .int .i64 b, .fn (.func 50) [] [.ptr 1 [.fn (.func 29) [] [.ptr 1 [.sl 5 (List.map Star_av c)] 0 0]] 0 0], .any, .any, .any, .any, .any, .any, .any, .any, .int .i64 mid, .int .i64 n, .int .i64 y, .any, .any, .any, .any], [], [(31, ⟨1, List.map (AV.int .i64) data⟩)], true⟩)
set_option maxHeartbeats 64000000 in
theorem slices_symMergeCmpFunc_int64__impl_orderBy_c2_l6_ex (n_ : Nat) {data : List Int} {a : Int} {m : Int} {b : Int} {c : List Star} {mid : Int} {n : Int} {p : Int} {sgm_ : Int × Int} {rho_ : Int} (h : whileE (slices_symMergeCmpFunc_int64__impl_orderBy_c2_l6 data a m b c mid n p) sgm_ = some rho_) : ∃ L0, ∀ L, L0 ≤ L → iter (exec (look (t_50 n_)) L ir70_b4) ir70_k4 ir70_o4 ir70_r4 L (E_50_l6 data a m b c mid n p sgm_) = R_50_l6 data a m b c mid n p rho_ := by
 refine loop_ex (E := E_50_l6 data a m b c mid n p) (R := R_50_l6 data a m b c mid n p) (fun y => by first | (intro c; cases c) | (rcases y with y | y <;> (intro c; cases c)) | (rcases y with y | y | y <;> (intro c; cases c))) ?_ h
 clear h
 rintro ⟨start, r⟩ o_ h
 dsimp only [slices_symMergeCmpFunc_int64__impl_orderBy_c2_l6] at h
 rcases it_some h with ⟨z59, h⟩ | ⟨z59, h⟩
 ·try simp only [go_sem, n1, n2, n3, n4] at z59
  all_goals
  obtain ⟨z60, h⟩ := ck_some h
  try simp only [go_sem, n1, n2, n3, n4, z59] at z60
  all_goals
  obtain ⟨z61, h⟩ := ck_some h
  have lz61 := ix_lt z61
  have xz61 := getD_mapD (AV.int .i64) data lz61
  try simp only [go_sem] at lz61
  try simp only [go_sem] at xz61
  try simp only [go_sem, n1, n2, n3, n4, z59, z60] at z61
  all_goals
  obtain ⟨z62, h⟩ := ck_some h
  have lz62 := ix_lt z62
  have xz62 := getD_mapD (AV.int .i64) data lz62
  try simp only [go_sem] at lz62
  try simp only [go_sem] at xz62
  try simp only [go_sem, n1, n2, n3, n4, z59, z60, z61] at z62
  all_goals
  obtain ⟨y_63, z63, h⟩ := bd_some h
  have fz63 := Fs_46 z63
  try simp only [go_sem, z59, z60, z61, z62] at fz63
  rcases it_some h with ⟨z64, h⟩ | ⟨z64, h⟩
  ·try simp only [go_sem, n1, n2, n3, n4, z59, z60, z61, z62] at z64
   all_goals
   obtain rfl := so_some h
   refine ⟨0, fun L hL => ?_⟩
   simp only [go_sem, ir70, E_50_l6, R_50_l6, ir70_b4, ir70_k4, ir70_o4, ir70_r4, E_50_l1, R_50_l1, ir70_k0, ir70_o0, ir70_r0, E_50_l2, R_50_l2, ir70_k1, ir70_o1, ir70_r1, E_50_l3, R_50_l3, ir70_k2, ir70_o2, ir70_r2, E_50_l4, R_50_l4, ir70_k3, ir70_o3, ir70_r3, E_50_l5, R_50_l5, ir70_k4, ir70_o4, ir70_r4, z59, z60, z61, lz61, xz61, z62, lz62, xz62, fz63, z64]
  ·try simp only [go_sem, n1, n2, n3, n4, z59, z60, z61, z62] at z64
   all_goals
   obtain rfl := so_some h
   refine ⟨0, fun L hL => ?_⟩
   simp only [go_sem, ir70, E_50_l6, R_50_l6, ir70_b4, ir70_k4, ir70_o4, ir70_r4, E_50_l1, R_50_l1, ir70_k0, ir70_o0, ir70_r0, E_50_l2, R_50_l2, ir70_k1, ir70_o1, ir70_r1, E_50_l3, R_50_l3, ir70_k2, ir70_o2, ir70_r2, E_50_l4, R_50_l4, ir70_k3, ir70_o3, ir70_r3, E_50_l5, R_50_l5, ir70_k4, ir70_o4, ir70_r4, z59, z60, z61, lz61, xz61, z62, lz62, xz62, fz63, z64]
 ·try simp only [go_sem, n1, n2, n3, n4] at z59
  all_goals
  obtain rfl := so_some h
  refine ⟨0, fun L hL => ?_⟩
  simp only [go_sem, ir70, E_50_l6, R_50_l6, ir70_b4, ir70_k4, ir70_o4, ir70_r4, E_50_l1, R_50_l1, ir70_k0, ir70_o0, ir70_r0, E_50_l2, R_50_l2, ir70_k1, ir70_o1, ir70_r1, E_50_l3, R_50_l3, ir70_k2, ir70_o2, ir70_r2, E_50_l4, R_50_l4, ir70_k3, ir70_o3, ir70_r3, E_50_l5, R_50_l5, ir70_k4, ir70_o4, ir70_r4, z59]

set_option maxHeartbeats 64000000 in
theorem Fsn_slices_symMergeCmpFunc_int64__impl_orderBy_c2 : ∀ (n_ : Nat) {data : List Int} {a : Int} {m : Int} {b : Int} {cmp_c0_f_0 : List Star} {y_ : (List Int)} (h : slices_symMergeCmpFunc_int64__impl_orderBy_c2_n n_ data a m b cmp_c0_f_0 = some y_), (cn_slices_symMergeCmpFunc_int64__impl_orderBy_c2 n_).F [.fresh 1 (List.map (AV.int .i64) data), .int .i64 a, .int .i64 m, .int .i64 b, .fn (.func 50) [] [.ptr 1 [.fn (.func 29) [] [.ptr 1 [.sl 5 (List.map Star_av cmp_c0_f_0)] 0 0]] 0 0]] = ⟨true, .cv undef, [.fresh 1 (List.map (AV.int .i64) y_), .any, .any, .any, .any]⟩ := by
 intro n_
 induction n_ with
 | zero => intro data a m b cmp_c0_f_0 y_ h; cases h
 | succ n_ ih_ =>
 intro data a m b cmp_c0_f_0 y_ h
 rw [csn_slices_symMergeCmpFunc_int64__impl_orderBy_c2]
 refine mkN_E ?_
 dsimp only [slices_symMergeCmpFunc_int64__impl_orderBy_c2_n] at h
 rcases it_some h with ⟨z1, h⟩ | ⟨z1, h⟩
 ·try simp only [go_sem, n1, n2, n3, n4] at z1
  all_goals
  obtain ⟨y_8, z8, h⟩ := bd_some h
  obtain ⟨Lz8, ez8⟩ := slices_symMergeCmpFunc_int64__impl_orderBy_c2_l1_ex n_ z8
  obtain ⟨y_13, z13, h⟩ := bd_some h
  obtain ⟨Lz13, ez13⟩ := slices_symMergeCmpFunc_int64__impl_orderBy_c2_l2_ex n_ z13
  obtain ⟨z14, h⟩ := ck_some h
  try simp only [go_sem, n1, n2, n3, n4, z1] at z14
  all_goals
  obtain rfl := so_some h
  refine ⟨Lz8 + Lz13, fun L hL => ?_⟩
  have ez8 := ez8 L (by omega)
  have ez13 := ez13 L (by omega)
  try simp only [go_sem, E_50_l1, R_50_l1, ir70_k0, ir70_o0, ir70_r0, E_50_l2, R_50_l2, ir70_k1, ir70_o1, ir70_r1, E_50_l3, R_50_l3, ir70_k2, ir70_o2, ir70_r2, E_50_l4, R_50_l4, ir70_k3, ir70_o3, ir70_r3, E_50_l5, R_50_l5, ir70_k4, ir70_o4, ir70_r4, E_50_l6, R_50_l6, ir70_k4, ir70_o4, ir70_r4, z1, z14] at ez8
  try simp only [go_sem, E_50_l1, R_50_l1, ir70_k0, ir70_o0, ir70_r0, E_50_l2, R_50_l2, ir70_k1, ir70_o1, ir70_r1, E_50_l3, R_50_l3, ir70_k2, ir70_o2, ir70_r2, E_50_l4, R_50_l4, ir70_k3, ir70_o3, ir70_r3, E_50_l5, R_50_l5, ir70_k4, ir70_o4, ir70_r4, E_50_l6, R_50_l6, ir70_k4, ir70_o4, ir70_r4, z1, z14] at ez13
  simp only [go_sem, ir70, E_50_l1, R_50_l1, ir70_k0, ir70_o0, ir70_r0, E_50_l2, R_50_l2, ir70_k1, ir70_o1, ir70_r1, E_50_l3, R_50_l3, ir70_k2, ir70_o2, ir70_r2, E_50_l4, R_50_l4, ir70_k3, ir70_o3, ir70_r3, E_50_l5, R_50_l5, ir70_k4, ir70_o4, ir70_r4, E_50_l6, R_50_l6, ir70_k4, ir70_o4, ir70_r4, z1, z14, ez8, ez13]
 ·try simp only [go_sem, n1, n2, n3, n4] at z1
  all_goals
  rcases it_some h with ⟨z15, h⟩ | ⟨z15, h⟩
  ·try simp only [go_sem, n1, n2, n3, n4, z1] at z15
   all_goals
   obtain ⟨y_22, z22, h⟩ := bd_some h
   obtain ⟨Lz22, ez22⟩ := slices_symMergeCmpFunc_int64__impl_orderBy_c2_l3_ex n_ z22
   obtain ⟨y_27, z27, h⟩ := bd_some h
   obtain ⟨Lz27, ez27⟩ := slices_symMergeCmpFunc_int64__impl_orderBy_c2_l4_ex n_ z27
   obtain ⟨z28, h⟩ := ck_some h
   try simp only [go_sem, n1, n2, n3, n4, z1, z15] at z28
   all_goals
   obtain rfl := so_some h
   refine ⟨Lz22 + Lz27, fun L hL => ?_⟩
   have ez22 := ez22 L (by omega)
   have ez27 := ez27 L (by omega)
   try simp only [go_sem, E_50_l1, R_50_l1, ir70_k0, ir70_o0, ir70_r0, E_50_l2, R_50_l2, ir70_k1, ir70_o1, ir70_r1, E_50_l3, R_50_l3, ir70_k2, ir70_o2, ir70_r2, E_50_l4, R_50_l4, ir70_k3, ir70_o3, ir70_r3, E_50_l5, R_50_l5, ir70_k4, ir70_o4, ir70_r4, E_50_l6, R_50_l6, ir70_k4, ir70_o4, ir70_r4, z1, z15, z28] at ez22
   try simp only [go_sem, E_50_l1, R_50_l1, ir70_k0, ir70_o0, ir70_r0, E_50_l2, R_50_l2, ir70_k1, ir70_o1, ir70_r1, E_50_l3, R_50_l3, ir70_k2, ir70_o2, ir70_r2, E_50_l4, R_50_l4, ir70_k3, ir70_o3, ir70_r3, E_50_l5, R_50_l5, ir70_k4, ir70_o4, ir70_r4, E_50_l6, R_50_l6, ir70_k4, ir70_o4, ir70_r4, z1, z15, z28] at ez27
   simp only [go_sem, ir70, E_50_l1, R_50_l1, ir70_k0, ir70_o0, ir70_r0, E_50_l2, R_50_l2, ir70_k1, ir70_o1, ir70_r1, E_50_l3, R_50_l3, ir70_k2, ir70_o2, ir70_r2, E_50_l4, R_50_l4, ir70_k3, ir70_o3, ir70_r3, E_50_l5, R_50_l5, ir70_k4, ir70_o4, ir70_r4, E_50_l6, R_50_l6, ir70_k4, ir70_o4, ir70_r4, z1, z15, z28, ez22, ez27]
  ·try simp only [go_sem, n1, n2, n3, n4, z1] at z15
   all_goals
   obtain ⟨z29, h⟩ := ck_some h
   try simp only [go_sem, n1, n2, n3, n4, z1, z15] at z29
   all_goals
   rcases it_some h with ⟨z30, h⟩ | ⟨z30, h⟩
   ·try simp only [go_sem, n1, n2, n3, n4, z1, z15, z29] at z30
    all_goals
    obtain ⟨y_37, z37, h⟩ := bd_some h
    obtain ⟨Lz37, ez37⟩ := slices_symMergeCmpFunc_int64__impl_orderBy_c2_l5_ex n_ z37
    rcases it_some h with ⟨z38, h⟩ | ⟨z38, h⟩
    ·try simp only [go_sem, n1, n2, n3, n4, z1, z15, z29, z30] at z38
     all_goals
     obtain ⟨y_39, z39, h⟩ := bd_some h
     have fz39 := Fs_49 z39
     try simp only [go_sem, z1, z15, z29, z30, z38] at fz39
     rcases it_some h with ⟨z40, h⟩ | ⟨z40, h⟩
     ·try simp only [go_sem, n1, n2, n3, n4, z1, z15, z29, z30, z38] at z40
      all_goals
      obtain ⟨y_41, z41, h⟩ := bd_some h
      have fz41 := ih_ z41
      try simp only [go_sem, z1, z15, z29, z30, z38, z40] at fz41
      rcases it_some h with ⟨z42, h⟩ | ⟨z42, h⟩
      ·try simp only [go_sem, n1, n2, n3, n4, z1, z15, z29, z30, z38, z40] at z42
       all_goals
       obtain ⟨y_43, z43, h⟩ := bd_some h
       have fz43 := ih_ z43
       try simp only [go_sem, z1, z15, z29, z30, z38, z40, z42] at fz43
       obtain ⟨z44, h⟩ := ck_some h
       try simp only [go_sem, n1, n2, n3, n4, z1, z15, z29, z30, z38, z40, z42] at z44
       all_goals
       obtain rfl := so_some h
       refine ⟨Lz37, fun L hL => ?_⟩
       have ez37 := ez37 L (by omega)
       try simp only [go_sem, E_50_l1, R_50_l1, ir70_k0, ir70_o0, ir70_r0, E_50_l2, R_50_l2, ir70_k1, ir70_o1, ir70_r1, E_50_l3, R_50_l3, ir70_k2, ir70_o2, ir70_r2, E_50_l4, R_50_l4, ir70_k3, ir70_o3, ir70_r3, E_50_l5, R_50_l5, ir70_k4, ir70_o4, ir70_r4, E_50_l6, R_50_l6, ir70_k4, ir70_o4, ir70_r4, z1, z15, z29, z30, z38, z40, z42, z44] at ez37
       simp only [go_sem, ir70, E_50_l1, R_50_l1, ir70_k0, ir70_o0, ir70_r0, E_50_l2, R_50_l2, ir70_k1, ir70_o1, ir70_r1, E_50_l3, R_50_l3, ir70_k2, ir70_o2, ir70_r2, E_50_l4, R_50_l4, ir70_k3, ir70_o3, ir70_r3, E_50_l5, R_50_l5, ir70_k4, ir70_o4, ir70_r4, E_50_l6, R_50_l6, ir70_k4, ir70_o4, ir70_r4, z1, z15, z29, z30, z38, fz39, z40, fz41, z42, fz43, z44, ez37]
      ·try simp only [go_sem, n1, n2, n3, n4, z1, z15, z29, z30, z38, z40] at z42
       all_goals
       obtain ⟨z45, h⟩ := ck_some h
       try simp only [go_sem, n1, n2, n3, n4, z1, z15, z29, z30, z38, z40, z42] at z45
       all_goals
       obtain rfl := so_some h
       refine ⟨Lz37, fun L hL => ?_⟩
       have ez37 := ez37 L (by omega)
       try simp only [go_sem, E_50_l1, R_50_l1, ir70_k0, ir70_o0, ir70_r0, E_50_l2, R_50_l2, ir70_k1, ir70_o1, ir70_r1, E_50_l3, R_50_l3, ir70_k2, ir70_o2, ir70_r2, E_50_l4, R_50_l4, ir70_k3, ir70_o3, ir70_r3, E_50_l5, R_50_l5, ir70_k4, ir70_o4, ir70_r4, E_50_l6, R_50_l6, ir70_k4, ir70_o4, ir70_r4, z1, z15, z29, z30, z38, z40, z42, z45] at ez37
       simp only [go_sem, ir70, E_50_l1, R_50_l1, ir70_k0, ir70_o0, ir70_r0, E_50_l2, R_50_l2, ir70_k1, ir70_o1, ir70_r1, E_50_l3, R_50_l3, ir70_k2, ir70_o2, ir70_r2, E_50_l4, R_50_l4, ir70_k3, ir70_o3, ir70_r3, E_50_l5, R_50_l5, ir70_k4, ir70_o4, ir70_r4, E_50_l6, R_50_l6, ir70_k4, ir70_o4, ir70_r4, z1, z15, z29, z30, z38, fz39, z40, fz41, z42, z45, ez37]
     ·try simp only [go_sem, n1, n2, n3, n4, z1, z15, z29, z30, z38] at z40
      all_goals
      rcases it_some h with ⟨z46, h⟩ | ⟨z46, h⟩
      ·try simp only [go_sem, n1, n2, n3, n4, z1, z15, z29, z30, z38, z40] at z46
       all_goals
       obtain ⟨y_47, z47, h⟩ := bd_some h
       have fz47 := ih_ z47
       try simp only [go_sem, z1, z15, z29, z30, z38, z40, z46] at fz47
       obtain ⟨z48, h⟩ := ck_some h
       try simp only [go_sem, n1, n2, n3, n4, z1, z15, z29, z30, z38, z40, z46] at z48
       all_goals
       obtain rfl := so_some h
       refine ⟨Lz37, fun L hL => ?_⟩
       have ez37 := ez37 L (by omega)
       try simp only [go_sem, E_50_l1, R_50_l1, ir70_k0, ir70_o0, ir70_r0, E_50_l2, R_50_l2, ir70_k1, ir70_o1, ir70_r1, E_50_l3, R_50_l3, ir70_k2, ir70_o2, ir70_r2, E_50_l4, R_50_l4, ir70_k3, ir70_o3, ir70_r3, E_50_l5, R_50_l5, ir70_k4, ir70_o4, ir70_r4, E_50_l6, R_50_l6, ir70_k4, ir70_o4, ir70_r4, z1, z15, z29, z30, z38, z40, z46, z48] at ez37
       simp only [go_sem, ir70, E_50_l1, R_50_l1, ir70_k0, ir70_o0, ir70_r0, E_50_l2, R_50_l2, ir70_k1, ir70_o1, ir70_r1, E_50_l3, R_50_l3, ir70_k2, ir70_o2, ir70_r2, E_50_l4, R_50_l4, ir70_k3, ir70_o3, ir70_r3, E_50_l5, R_50_l5, ir70_k4, ir70_o4, ir70_r4, E_50_l6, R_50_l6, ir70_k4, ir70_o4, ir70_r4, z1, z15, z29, z30, z38, fz39, z40, z46, fz47, z48, ez37]
      ·try simp only [go_sem, n1, n2, n3, n4, z1, z15, z29, z30, z38, z40] at z46
       all_goals
       obtain ⟨z49, h⟩ := ck_some h
       try simp only [go_sem, n1, n2, n3, n4, z1, z15, z29, z30, z38, z40, z46] at z49
       all_goals
       obtain rfl := so_some h
       refine ⟨Lz37, fun L hL => ?_⟩
       have ez37 := ez37 L (by omega)
       try simp only [go_sem, E_50_l1, R_50_l1, ir70_k0, ir70_o0, ir70_r0, E_50_l2, R_50_l2, ir70_k1, ir70_o1, ir70_r1, E_50_l3, R_50_l3, ir70_k2, ir70_o2, ir70_r2, E_50_l4, R_50_l4, ir70_k3, ir70_o3, ir70_r3, E_50_l5, R_50_l5, ir70_k4, ir70_o4, ir70_r4, E_50_l6, R_50_l6, ir70_k4, ir70_o4, ir70_r4, z1, z15, z29, z30, z38, z40, z46, z49] at ez37
       simp only [go_sem, ir70, E_50_l1, R_50_l1, ir70_k0, ir70_o0, ir70_r0, E_50_l2, R_50_l2, ir70_k1, ir70_o1, ir70_r1, E_50_l3, R_50_l3, ir70_k2, ir70_o2, ir70_r2, E_50_l4, R_50_l4, ir70_k3, ir70_o3, ir70_r3, E_50_l5, R_50_l5, ir70_k4, ir70_o4, ir70_r4, E_50_l6, R_50_l6, ir70_k4, ir70_o4, ir70_r4, z1, z15, z29, z30, z38, fz39, z40, z46, z49, ez37]
    ·try simp only [go_sem, n1, n2, n3, n4, z1, z15, z29, z30] at z38
     all_goals
     rcases it_some h with ⟨z50, h⟩ | ⟨z50, h⟩
     ·try simp only [go_sem, n1, n2, n3, n4, z1, z15, z29, z30, z38] at z50
      all_goals
      obtain ⟨y_51, z51, h⟩ := bd_some h
      have fz51 := ih_ z51
      try simp only [go_sem, z1, z15, z29, z30, z38, z50] at fz51
      rcases it_some h with ⟨z52, h⟩ | ⟨z52, h⟩
      ·try simp only [go_sem, n1, n2, n3, n4, z1, z15, z29, z30, z38, z50] at z52
       all_goals
       obtain ⟨y_53, z53, h⟩ := bd_some h
       have fz53 := ih_ z53
       try simp only [go_sem, z1, z15, z29, z30, z38, z50, z52] at fz53
       obtain ⟨z54, h⟩ := ck_some h
       try simp only [go_sem, n1, n2, n3, n4, z1, z15, z29, z30, z38, z50, z52] at z54
       all_goals
       obtain rfl := so_some h
       refine ⟨Lz37, fun L hL => ?_⟩
       have ez37 := ez37 L (by omega)
       try simp only [go_sem, E_50_l1, R_50_l1, ir70_k0, ir70_o0, ir70_r0, E_50_l2, R_50_l2, ir70_k1, ir70_o1, ir70_r1, E_50_l3, R_50_l3, ir70_k2, ir70_o2, ir70_r2, E_50_l4, R_50_l4, ir70_k3, ir70_o3, ir70_r3, E_50_l5, R_50_l5, ir70_k4, ir70_o4, ir70_r4, E_50_l6, R_50_l6, ir70_k4, ir70_o4, ir70_r4, z1, z15, z29, z30, z38, z50, z52, z54] at ez37
       simp only [go_sem, ir70, E_50_l1, R_50_l1, ir70_k0, ir70_o0, ir70_r0, E_50_l2, R_50_l2, ir70_k1, ir70_o1, ir70_r1, E_50_l3, R_50_l3, ir70_k2, ir70_o2, ir70_r2, E_50_l4, R_50_l4, ir70_k3, ir70_o3, ir70_r3, E_50_l5, R_50_l5, ir70_k4, ir70_o4, ir70_r4, E_50_l6, R_50_l6, ir70_k4, ir70_o4, ir70_r4, z1, z15, z29, z30, z38, z50, fz51, z52, fz53, z54, ez37]
      ·try simp only [go_sem, n1, n2, n3, n4, z1, z15, z29, z30, z38, z50] at z52
       all_goals
       obtain ⟨z55, h⟩ := ck_some h
       try simp only [go_sem, n1, n2, n3, n4, z1, z15, z29, z30, z38, z50, z52] at z55
       all_goals
       obtain rfl := so_some h
       refine ⟨Lz37, fun L hL => ?_⟩
       have ez37 := ez37 L (by omega)
       try simp only [go_sem, E_50_l1, R_50_l1, ir70_k0, ir70_o0, ir70_r0, E_50_l2, R_50_l2, ir70_k1, ir70_o1, ir70_r1, E_50_l3, R_50_l3, ir70_k2, ir70_o2, ir70_r2, E_50_l4, R_50_l4, ir70_k3, ir70_o3, ir70_r3, E_50_l5, R_50_l5, ir70_k4, ir70_o4, ir70_r4, E_50_l6, R_50_l6, ir70_k4, ir70_o4, ir70_r4, z1, z15, z29, z30, z38, z50, z52, z55] at ez37
       simp only [go_sem, ir70, E_50_l1, R_50_l1, ir70_k0, ir70_o0, ir70_r0, E_50_l2, R_50_l2, ir70_k1, ir70_o1, ir70_r1, E_50_l3, R_50_l3, ir70_k2, ir70_o2, ir70_r2, E_50_l4, R_50_l4, ir70_k3, ir70_o3, ir70_r3, E_50_l5, R_50_l5, ir70_k4, ir70_o4, ir70_r4, E_50_l6, R_50_l6, ir70_k4, ir70_o4, ir70_r4, z1, z15, z29, z30, z38, z50, fz51, z52, z55, ez37]
     ·try simp only [go_sem, n1, n2, n3, n4, z1, z15, z29, z30, z38] at z50
      all_goals
      rcases it_some h with ⟨z56, h⟩ | ⟨z56, h⟩
      ·try simp only [go_sem, n1, n2, n3, n4, z1, z15, z29, z30, z38, z50] at z56
       all_goals
       obtain ⟨y_57, z57, h⟩ := bd_some h
       have fz57 := ih_ z57
       try simp only [go_sem, z1, z15, z29, z30, z38, z50, z56] at fz57
       obtain ⟨z58, h⟩ := ck_some h
       try simp only [go_sem, n1, n2, n3, n4, z1, z15, z29, z30, z38, z50, z56] at z58
       all_goals
       obtain rfl := so_some h
       refine ⟨Lz37, fun L hL => ?_⟩
       have ez37 := ez37 L (by omega)
       try simp only [go_sem, E_50_l1, R_50_l1, ir70_k0, ir70_o0, ir70_r0, E_50_l2, R_50_l2, ir70_k1, ir70_o1, ir70_r1, E_50_l3, R_50_l3, ir70_k2, ir70_o2, ir70_r2, E_50_l4, R_50_l4, ir70_k3, ir70_o3, ir70_r3, E_50_l5, R_50_l5, ir70_k4, ir70_o4, ir70_r4, E_50_l6, R_50_l6, ir70_k4, ir70_o4, ir70_r4, z1, z15, z29, z30, z38, z50, z56, z58] at ez37
       simp only [go_sem, ir70, E_50_l1, R_50_l1, ir70_k0, ir70_o0, ir70_r0, E_50_l2, R_50_l2, ir70_k1, ir70_o1, ir70_r1, E_50_l3, R_50_l3, ir70_k2, ir70_o2, ir70_r2, E_50_l4, R_50_l4, ir70_k3, ir70_o3, ir70_r3, E_50_l5, R_50_l5, ir70_k4, ir70_o4, ir70_r4, E_50_l6, R_50_l6, ir70_k4, ir70_o4, ir70_r4, z1, z15, z29, z30, z38, z50, z56, fz57, z58, ez37]
      ·try simp only [go_sem, n1, n2, n3, n4, z1, z15, z29, z30, z38, z50] at z56
       all_goals
       obtain rfl := so_some h
       refine ⟨Lz37, fun L hL => ?_⟩
       have ez37 := ez37 L (by omega)
       try simp only [go_sem, E_50_l1, R_50_l1, ir70_k0, ir70_o0, ir70_r0, E_50_l2, R_50_l2, ir70_k1, ir70_o1, ir70_r1, E_50_l3, R_50_l3, ir70_k2, ir70_o2, ir70_r2, E_50_l4, R_50_l4, ir70_k3, ir70_o3, ir70_r3, E_50_l5, R_50_l5, ir70_k4, ir70_o4, ir70_r4, E_50_l6, R_50_l6, ir70_k4, ir70_o4, ir70_r4, z1, z15, z29, z30, z38, z50, z56] at ez37
       simp only [go_sem, ir70, E_50_l1, R_50_l1, ir70_k0, ir70_o0, ir70_r0, E_50_l2, R_50_l2, ir70_k1, ir70_o1, ir70_r1, E_50_l3, R_50_l3, ir70_k2, ir70_o2, ir70_r2, E_50_l4, R_50_l4, ir70_k3, ir70_o3, ir70_r3, E_50_l5, R_50_l5, ir70_k4, ir70_o4, ir70_r4, E_50_l6, R_50_l6, ir70_k4, ir70_o4, ir70_r4, z1, z15, z29, z30, z38, z50, z56, ez37]
   ·try simp only [go_sem, n1, n2, n3, n4, z1, z15, z29] at z30
    all_goals
    obtain ⟨y_65, z65, h⟩ := bd_some h
    obtain ⟨Lz65, ez65⟩ := slices_symMergeCmpFunc_int64__impl_orderBy_c2_l6_ex n_ z65
    rcases it_some h with ⟨z66, h⟩ | ⟨z66, h⟩
    ·try simp only [go_sem, n1, n2, n3, n4, z1, z15, z29, z30] at z66
     all_goals
     obtain ⟨y_67, z67, h⟩ := bd_some h
     have fz67 := Fs_49 z67
     try simp only [go_sem, z1, z15, z29, z30, z66] at fz67
     rcases it_some h with ⟨z68, h⟩ | ⟨z68, h⟩
     ·try simp only [go_sem, n1, n2, n3, n4, z1, z15, z29, z30, z66] at z68
      all_goals
      obtain ⟨y_69, z69, h⟩ := bd_some h
      have fz69 := ih_ z69
      try simp only [go_sem, z1, z15, z29, z30, z66, z68] at fz69
      rcases it_some h with ⟨z70, h⟩ | ⟨z70, h⟩
      ·try simp only [go_sem, n1, n2, n3, n4, z1, z15, z29, z30, z66, z68] at z70
       all_goals
       obtain ⟨y_71, z71, h⟩ := bd_some h
       have fz71 := ih_ z71
       try simp only [go_sem, z1, z15, z29, z30, z66, z68, z70] at fz71
       obtain ⟨z72, h⟩ := ck_some h
       try simp only [go_sem, n1, n2, n3, n4, z1, z15, z29, z30, z66, z68, z70] at z72
       all_goals
       obtain rfl := so_some h
       refine ⟨Lz65, fun L hL => ?_⟩
       have ez65 := ez65 L (by omega)
       try simp only [go_sem, E_50_l1, R_50_l1, ir70_k0, ir70_o0, ir70_r0, E_50_l2, R_50_l2, ir70_k1, ir70_o1, ir70_r1, E_50_l3, R_50_l3, ir70_k2, ir70_o2, ir70_r2, E_50_l4, R_50_l4, ir70_k3, ir70_o3, ir70_r3, E_50_l5, R_50_l5, ir70_k4, ir70_o4, ir70_r4, E_50_l6, R_50_l6, ir70_k4, ir70_o4, ir70_r4, z1, z15, z29, z30, z66, z68, z70, z72] at ez65
       simp only [go_sem, ir70, E_50_l1, R_50_l1, ir70_k0, ir70_o0, ir70_r0, E_50_l2, R_50_l2, ir70_k1, ir70_o1, ir70_r1, E_50_l3, R_50_l3, ir70_k2, ir70_o2, ir70_r2, E_50_l4, R_50_l4, ir70_k3, ir70_o3, ir70_r3, E_50_l5, R_50_l5, ir70_k4, ir70_o4, ir70_r4, E_50_l6, R_50_l6, ir70_k4, ir70_o4, ir70_r4, z1, z15, z29, z30, z66, fz67, z68, fz69, z70, fz71, z72, ez65]
      ·try simp only [go_sem, n1, n2, n3, n4, z1, z15, z29, z30, z66, z68] at z70
       all_goals
       obtain ⟨z73, h⟩ := ck_some h
       try simp only [go_sem, n1, n2, n3, n4, z1, z15, z29, z30, z66, z68, z70] at z73
       all_goals
       obtain rfl := so_some h
       refine ⟨Lz65, fun L hL => ?_⟩
       have ez65 := ez65 L (by omega)
       try simp only [go_sem, E_50_l1, R_50_l1, ir70_k0, ir70_o0, ir70_r0, E_50_l2, R_50_l2, ir70_k1, ir70_o1, ir70_r1, E_50_l3, R_50_l3, ir70_k2, ir70_o2, ir70_r2, E_50_l4, R_50_l4, ir70_k3, ir70_o3, ir70_r3, E_50_l5, R_50_l5, ir70_k4, ir70_o4, ir70_r4, E_50_l6, R_50_l6, ir70_k4, ir70_o4, ir70_r4, z1, z15, z29, z30, z66, z68, z70, z73] at ez65
       simp only [go_sem, ir70, E_50_l1, R_50_l1, ir70_k0, ir70_o0, ir70_r0, E_50_l2, R_50_l2, ir70_k1, ir70_o1, ir70_r1, E_50_l3, R_50_l3, ir70_k2, ir70_o2, ir70_r2, E_50_l4, R_50_l4, ir70_k3, ir70_o3, ir70_r3, E_50_l5, R_50_l5, ir70_k4, ir70_o4, ir70_r4, E_50_l6, R_50_l6, ir70_k4, ir70_o4, ir70_r4, z1, z15, z29, z30, z66, fz67, z68, fz69, z70, z73, ez65]
     ·try simp only [go_sem, n1, n2, n3, n4, z1, z15, z29, z30, z66] at z68
      all_goals
      rcases it_some h with ⟨z74, h⟩ | ⟨z74, h⟩
      ·try simp only [go_sem, n1, n2, n3, n4, z1, z15, z29, z30, z66, z68] at z74
       all_goals
       obtain ⟨y_75, z75, h⟩ := bd_some h
       have fz75 := ih_ z75
       try simp only [go_sem, z1, z15, z29, z30, z66, z68, z74] at fz75
       obtain ⟨z76, h⟩ := ck_some h
       try simp only [go_sem, n1, n2, n3, n4, z1, z15, z29, z30, z66, z68, z74] at z76
       all_goals
       obtain rfl := so_some h
       refine ⟨Lz65, fun L hL => ?_⟩
       have ez65 := ez65 L (by omega)
       try simp only [go_sem, E_50_l1, R_50_l1, ir70_k0, ir70_o0, ir70_r0, E_50_l2, R_50_l2, ir70_k1, ir70_o1, ir70_r1, E_50_l3, R_50_l3, ir70_k2, ir70_o2, ir70_r2, E_50_l4, R_50_l4, ir70_k3, ir70_o3, ir70_r3, E_50_l5, R_50_l5, ir70_k4, ir70_o4, ir70_r4, E_50_l6, R_50_l6, ir70_k4, ir70_o4, ir70_r4, z1, z15, z29, z30, z66, z68, z74, z76] at ez65
       simp only [go_sem, ir70, E_50_l1, R_50_l1, ir70_k0, ir70_o0, ir70_r0, E_50_l2, R_50_l2, ir70_k1, ir70_o1, ir70_r1, E_50_l3, R_50_l3, ir70_k2, ir70_o2, ir70_r2, E_50_l4, R_50_l4, ir70_k3, ir70_o3, ir70_r3, E_50_l5, R_50_l5, ir70_k4, ir70_o4, ir70_r4, E_50_l6, R_50_l6, ir70_k4, ir70_o4, ir70_r4, z1, z15, z29, z30, z66, fz67, z68, z74, fz75, z76, ez65]
      ·try simp only [go_sem, n1, n2, n3, n4, z1, z15, z29, z30, z66, z68] at z74
       all_goals
       obtain ⟨z77, h⟩ := ck_some h
       try simp only [go_sem, n1, n2, n3, n4, z1, z15, z29, z30, z66, z68, z74] at z77
       all_goals
       obtain rfl := so_some h
       refine ⟨Lz65, fun L hL => ?_⟩
       have ez65 := ez65 L (by omega)
       try simp only [go_sem, E_50_l1, R_50_l1, ir70_k0, ir70_o0, ir70_r0, E_50_l2, R_50_l2, ir70_k1, ir70_o1, ir70_r1, E_50_l3, R_50_l3, ir70_k2, ir70_o2, ir70_r2, E_50_l4, R_50_l4, ir70_k3, ir70_o3, ir70_r3, E_50_l5, R_50_l5, ir70_k4, ir70_o4, ir70_r4, E_50_l6, R_50_l6, ir70_k4, ir70_o4, ir70_r4, z1, z15, z29, z30, z66, z68, z74, z77] at ez65
       simp only [go_sem, ir70, E_50_l1, R_50_l1, ir70_k0, ir70_o0, ir70_r0, E_50_l2, R_50_l2, ir70_k1, ir70_o1, ir70_r1, E_50_l3, R_50_l3, ir70_k2, ir70_o2, ir70_r2, E_50_l4, R_50_l4, ir70_k3, ir70_o3, ir70_r3, E_50_l5, R_50_l5, ir70_k4, ir70_o4, ir70_r4, E_50_l6, R_50_l6, ir70_k4, ir70_o4, ir70_r4, z1, z15, z29, z30, z66, fz67, z68, z74, z77, ez65]
    ·try simp only [go_sem, n1, n2, n3, n4, z1, z15, z29, z30] at z66
     all_goals
     rcases it_some h with ⟨z78, h⟩ | ⟨z78, h⟩
     ·try simp only [go_sem, n1, n2, n3, n4, z1, z15, z29, z30, z66] at z78
      all_goals
      obtain ⟨y_79, z79, h⟩ := bd_some h
      have fz79 := ih_ z79
      try simp only [go_sem, z1, z15, z29, z30, z66, z78] at fz79
      rcases it_some h with ⟨z80, h⟩ | ⟨z80, h⟩
      ·try simp only [go_sem, n1, n2, n3, n4, z1, z15, z29, z30, z66, z78] at z80
       all_goals
       obtain ⟨y_81, z81, h⟩ := bd_some h
       have fz81 := ih_ z81
       try simp only [go_sem, z1, z15, z29, z30, z66, z78, z80] at fz81
       obtain ⟨z82, h⟩ := ck_some h
       try simp only [go_sem, n1, n2, n3, n4, z1, z15, z29, z30, z66, z78, z80] at z82
       all_goals
       obtain rfl := so_some h
       refine ⟨Lz65, fun L hL => ?_⟩
       have ez65 := ez65 L (by omega)
       try simp only [go_sem, E_50_l1, R_50_l1, ir70_k0, ir70_o0, ir70_r0, E_50_l2, R_50_l2, ir70_k1, ir70_o1, ir70_r1, E_50_l3, R_50_l3, ir70_k2, ir70_o2, ir70_r2, E_50_l4, R_50_l4, ir70_k3, ir70_o3, ir70_r3, E_50_l5, R_50_l5, ir70_k4, ir70_o4, ir70_r4, E_50_l6, R_50_l6, ir70_k4, ir70_o4, ir70_r4, z1, z15, z29, z30, z66, z78, z80, z82] at ez65
       simp only [go_sem, ir70, E_50_l1, R_50_l1, ir70_k0, ir70_o0, ir70_r0, E_50_l2, R_50_l2, ir70_k1, ir70_o1, ir70_r1, E_50_l3, R_50_l3, ir70_k2, ir70_o2, ir70_r2, E_50_l4, R_50_l4, ir70_k3, ir70_o3, ir70_r3, E_50_l5, R_50_l5, ir70_k4, ir70_o4, ir70_r4, E_50_l6, R_50_l6, ir70_k4, ir70_o4, ir70_r4, z1, z15, z29, z30, z66, z78, fz79, z80, fz81, z82, ez65]
      ·try simp only [go_sem, n1, n2, n3, n4, z1, z15, z29, z30, z66, z78] at z80
       all_goals
       obtain ⟨z83, h⟩ := ck_some h
       try simp only [go_sem, n1, n2, n3, n4, z1, z15, z29, z30, z66, z78, z80] at z83
       all_goals
       obtain rfl := so_some h
       refine ⟨Lz65, fun L hL => ?_⟩
       have ez65 := ez65 L (by omega)
       try simp only [go_sem, E_50_l1, R_50_l1, ir70_k0, ir70_o0, ir70_r0, E_50_l2, R_50_l2, ir70_k1, ir70_o1, ir70_r1, E_50_l3, R_50_l3, ir70_k2, ir70_o2, ir70_r2, E_50_l4, R_50_l4, ir70_k3, ir70_o3, ir70_r3, E_50_l5, R_50_l5, ir70_k4, ir70_o4, ir70_r4, E_50_l6, R_50_l6, ir70_k4, ir70_o4, ir70_r4, z1, z15, z29, z30, z66, z78, z80, z83] at ez65
       simp only [go_sem, ir70, E_50_l1, R_50_l1, ir70_k0, ir70_o0, ir70_r0, E_50_l2, R_50_l2, ir70_k1, ir70_o1, ir70_r1, E_50_l3, R_50_l3, ir70_k2, ir70_o2, ir70_r2, E_50_l4, R_50_l4, ir70_k3, ir70_o3, ir70_r3, E_50_l5, R_50_l5, ir70_k4, ir70_o4, ir70_r4, E_50_l6, R_50_l6, ir70_k4, ir70_o4, ir70_r4, z1, z15, z29, z30, z66, z78, fz79, z80, z83, ez65]
     ·try simp only [go_sem, n1, n2, n3, n4, z1, z15, z29, z30, z66] at z78
      all_goals
      rcases it_some h with ⟨z84, h⟩ | ⟨z84, h⟩
      ·try simp only [go_sem, n1, n2, n3, n4, z1, z15, z29, z30, z66, z78] at z84
       all_goals
       obtain ⟨y_85, z85, h⟩ := bd_some h
       have fz85 := ih_ z85
       try simp only [go_sem, z1, z15, z29, z30, z66, z78, z84] at fz85
       obtain ⟨z86, h⟩ := ck_some h
       try simp only [go_sem, n1, n2, n3, n4, z1, z15, z29, z30, z66, z78, z84] at z86
       all_goals
       obtain rfl := so_some h
       refine ⟨Lz65, fun L hL => ?_⟩
       have ez65 := ez65 L (by omega)
       try simp only [go_sem, E_50_l1, R_50_l1, ir70_k0, ir70_o0, ir70_r0, E_50_l2, R_50_l2, ir70_k1, ir70_o1, ir70_r1, E_50_l3, R_50_l3, ir70_k2, ir70_o2, ir70_r2, E_50_l4, R_50_l4, ir70_k3, ir70_o3, ir70_r3, E_50_l5, R_50_l5, ir70_k4, ir70_o4, ir70_r4, E_50_l6, R_50_l6, ir70_k4, ir70_o4, ir70_r4, z1, z15, z29, z30, z66, z78, z84, z86] at ez65
       simp only [go_sem, ir70, E_50_l1, R_50_l1, ir70_k0, ir70_o0, ir70_r0, E_50_l2, R_50_l2, ir70_k1, ir70_o1, ir70_r1, E_50_l3, R_50_l3, ir70_k2, ir70_o2, ir70_r2, E_50_l4, R_50_l4, ir70_k3, ir70_o3, ir70_r3, E_50_l5, R_50_l5, ir70_k4, ir70_o4, ir70_r4, E_50_l6, R_50_l6, ir70_k4, ir70_o4, ir70_r4, z1, z15, z29, z30, z66, z78, z84, fz85, z86, ez65]
      ·try simp only [go_sem, n1, n2, n3, n4, z1, z15, z29, z30, z66, z78] at z84
       all_goals
       obtain rfl := so_some h
       refine ⟨Lz65, fun L hL => ?_⟩
       have ez65 := ez65 L (by omega)
       try simp only [go_sem, E_50_l1, R_50_l1, ir70_k0, ir70_o0, ir70_r0, E_50_l2, R_50_l2, ir70_k1, ir70_o1, ir70_r1, E_50_l3, R_50_l3, ir70_k2, ir70_o2, ir70_r2, E_50_l4, R_50_l4, ir70_k3, ir70_o3, ir70_r3, E_50_l5, R_50_l5, ir70_k4, ir70_o4, ir70_r4, E_50_l6, R_50_l6, ir70_k4, ir70_o4, ir70_r4, z1, z15, z29, z30, z66, z78, z84] at ez65
       simp only [go_sem, ir70, E_50_l1, R_50_l1, ir70_k0, ir70_o0, ir70_r0, E_50_l2, R_50_l2, ir70_k1, ir70_o1, ir70_r1, E_50_l3, R_50_l3, ir70_k2, ir70_o2, ir70_r2, E_50_l4, R_50_l4, ir70_k3, ir70_o3, ir70_r3, E_50_l5, R_50_l5, ir70_k4, ir70_o4, ir70_r4, E_50_l6, R_50_l6, ir70_k4, ir70_o4, ir70_r4, z1, z15, z29, z30, z66, z78, z84, ez65]
set_option maxHeartbeats 64000000 in
theorem Fs_50 {data : List Int} {a : Int} {m : Int} {b : Int} {cmp_c0_f_0 : List Star} {y_ : (List Int)} (h : slices_symMergeCmpFunc_int64__impl_orderBy_c2 data a m b cmp_c0_f_0 = some y_) : c_50.F [.fresh 1 (List.map (AV.int .i64) data), .int .i64 a, .int .i64 m, .int .i64 b, .fn (.func 50) [] [.ptr 1 [.fn (.func 29) [] [.ptr 1 [.sl 5 (List.map Star_av cmp_c0_f_0)] 0 0]] 0 0]] = ⟨true, .cv undef, [.fresh 1 (List.map (AV.int .i64) y_), .any, .any, .any, .any]⟩ := Fsn_slices_symMergeCmpFunc_int64__impl_orderBy_c2 64 h


def ir60_b0 : IR := .seq (.test false [ PM 11 5, PM 12 1, PO 13 (.bin false .leq (.s 1) (.s 0))] (.s 0) (.skip) (.exit 0)) (.block 1 (.seq (.region false [ PM 14 0, PM 15 4, PM 16 5, PM 17 2, PO 18 (.call 69 [(.s 3), (.s 2), (.s 1), (.s 0)])]) (.seq (.region false [ PM 19 5, VS 4 7 0]) (.region false [ PM 20 5, PM 21 3, PO 22 (.bin false .add (.s 1) (.s 0)), VS 5 8 0]))))
def ir60_k0 : List Bool := [true, true, true, true, true, true, false]
def ir60_o0 : List Bool := [true, true, true, true, true, false, false]
def ir60_r0 : List Bool := [true, false, false, false, false, false, false]
def ir60_b2 : IR := .seq (.test false [ PM 33 5, PM 34 1, PO 35 (.bin false .leq (.s 1) (.s 0))] (.s 0) (.skip) (.exit 4)) (.block 5 (.seq (.region false [ PM 36 0, PM 37 4, PM 38 4, PM 39 3, PO 40 (.bin false .add (.s 1) (.s 0)), PM 41 5, PM 42 2, PO 43 (.call 70 [(.s 6), (.s 5), (.s 2), (.s 1), (.s 0)])]) (.seq (.region false [ PM 44 5, VS 4 7 0]) (.region false [ PM 45 5, PM 46 3, PO 47 (.bin false .mul (I6 2) (.s 0)), PO 48 (.bin false .add (.s 2) (.s 0)), VS 5 8 0]))))
def ir60_k2 : List Bool := [true, true, true, true, true, true, false]
def ir60_o2 : List Bool := [true, true, true, true, true, false, false]
def ir60_r2 : List Bool := [true, false, false, false, false, false, false]
def ir60_b1 : IR := .seq (.test false [ PM 28 3, PM 29 1, PO 30 (.bin false .lss (.s 1) (.s 0))] (.s 0) (.skip) (.exit 2)) (.block 3 (.seq (.region false [ PM 31 3, PO 32 (.bin false .mul (I6 2) (.s 0)), VO 4 7 (.mov (I6 0)), VS 5 8 0]) (.seq (.block 4 (.loop ir60_k2 ir60_o2 ir60_r2 ir60_b2)) (.seq (.seq (.region false [ PM 49 4, PM 50 3, PO 51 (.bin false .add (.s 1) (.s 0)), VS 6 9 0]) (.test false [ PM 52 6, PM 53 1, PO 54 (.bin false .lss (.s 1) (.s 0))] (.s 0) (.region false [ PM 55 0, PM 56 4, PM 57 6, PM 58 1, PM 59 2, PO 60 (.call 70 [(.s 4), (.s 3), (.s 2), (.s 1), (.s 0)])]) (.skip)))
 (.region false [ PM 61 3, PO 62 (.bin false .mul (.s 0) (I6 2)), VS 3 6 0])))))
def ir60_k1 : List Bool := [true, true, true, true, false, false, false]
def ir60_o1 : List Bool := [true, false, false, false, false, false, false]
def ir60_r1 : List Bool := [true, false, false, false, false, false, false]
def ir60_v : List Nat := [0, 1, 2, 6, 7, 8, 9]
def ir60 : AFn := ⟨3, 7, .seq (.region false [ VO 3 6 (.mov (I6 20))]) (.seq (.region false [ PM 10 3, VO 4 7 (.mov (I6 0)), VS 5 8 0]) (.seq (.block 0 (.loop ir60_k0 ir60_o0 ir60_r0 ir60_b0)) (.seq (.region false [ PM 23 0, PM 24 4, PM 25 1, PM 26 2, PO 27 (.call 69 [(.s 3), (.s 2), (.s 1), (.s 0)])]) (.block 2 (.loop ir60_k1 ir60_o1 ir60_r1 ir60_b1))))), []⟩
noncomputable def t_51 : List (Nat × Ctr) := [(69, c_47), (70, c_50)]
theorem lk_51_69 : look t_51 69 = some c_47 := rfl
theorem lk_51_70 : look t_51 70 = some c_50 := rfl
noncomputable def c_51 : Ctr := mkN t_51 ir60 [.io, .bor, .bor]
theorem s_51 : Sound Tryd.prog 60 c_51 := mkN_sound _ (snd_cons s_47 (snd_cons s_50 snd_nil)) (by kernel_rfl : chkFn Tryd.prog 60 ir60 ir60_v = true)
theorem M_51 : c_51.modes = [.io, .bor, .bor] := rfl
theorem Fl_51 : c_51.flat = false := rfl
attribute [go_sem] M_51 Fl_51
attribute [go_sem] lk_51_69 lk_51_70
def E_51_l1 (n : Int) (c : List Star) (blockSize : Int) : ((List Int) × Int × Int) → St
 | (data, a, b) => ⟨[.own 31, .int .i64 n, .fn (.func 50) [] [.ptr 1 [.fn (.func 29) [] [.ptr 1 [.sl 5 (List.map Star_av c)] 0 0]] 0 0], .int .i64 blockSize, .int .i64 a, .int .i64 b, .any], [], [(31, ⟨1, List.map (AV.int .i64) data⟩)], true⟩
def R_51_l1 (n : Int) (c : List Star) (blockSize : Int) (y : (List Int) × Int) : Res := (.exit 0, ⟨[.own 31, .int .i64 n, .fn (.func 50) [] [.ptr 1 [.fn (.func 29) [] [.ptr 1 [.sl 5 (List.map Star_av c)] 0 0]] 0 0], .int .i64 blockSize, .int .i64 y.2, .any, .any], [], [(31, ⟨1, List.map (AV.int .i64) y.1⟩)], true⟩)
set_option maxHeartbeats 64000000 in
theorem slices_stableCmpFunc_int64__impl_orderBy_c2_l1_ex {n : Int} {c : List Star} {blockSize : Int} {sgm_ : (List Int) × Int × Int} {rho_ : (List Int) × Int} (h : whileE (slices_stableCmpFunc_int64__impl_orderBy_c2_l1 n c blockSize) sgm_ = some rho_) : ∃ L0, ∀ L, L0 ≤ L → iter (exec (look t_51) L ir60_b0) ir60_k0 ir60_o0 ir60_r0 L (E_51_l1 n c blockSize sgm_) = R_51_l1 n c blockSize rho_ := by
 refine loop_ex (E := E_51_l1 n c blockSize) (R := R_51_l1 n c blockSize) (fun y => by first | (intro c; cases c) | (rcases y with y | y <;> (intro c; cases c)) | (rcases y with y | y | y <;> (intro c; cases c))) ?_ h
 clear h
 rintro ⟨data, a, b⟩ o_ h
 dsimp only [slices_stableCmpFunc_int64__impl_orderBy_c2_l1] at h
 rcases it_some h with ⟨z1, h⟩ | ⟨z1, h⟩
 ·try simp only [go_sem, n1, n2, n3, n4] at z1
  all_goals
  obtain ⟨y_2, z2, h⟩ := bd_some h
  have fz2 := Fs_47 z2
  try simp only [go_sem, z1] at fz2
  obtain rfl := so_some h
  refine ⟨0, fun L hL => ?_⟩
  simp only [go_sem, ir60, E_51_l1, R_51_l1, ir60_b0, ir60_k0, ir60_o0, ir60_r0, z1, fz2]
 ·try simp only [go_sem, n1, n2, n3, n4] at z1
  all_goals
  obtain rfl := so_some h
  refine ⟨0, fun L hL => ?_⟩
  simp only [go_sem, ir60, E_51_l1, R_51_l1, ir60_b0, ir60_k0, ir60_o0, ir60_r0, z1]

def E_51_l3 (n : Int) (c : List Star) (blockSize : Int) : ((List Int) × Int × Int) → St
 | (data, a, b) => ⟨[.own 31, .int .i64 n, .fn (.func 50) [] [.ptr 1 [.fn (.func 29) [] [.ptr 1 [.sl 5 (List.map Star_av c)] 0 0]] 0 0], .int .i64 blockSize, .int .i64 a, .int .i64 b, .any], [], [(31, ⟨1, List.map (AV.int .i64) data⟩)], true⟩
def R_51_l3 (n : Int) (c : List Star) (blockSize : Int) (y : (List Int) × Int) : Res := (.exit 4, ⟨[.own 31, .int .i64 n, .fn (.func 50) [] [.ptr 1 [.fn (.func 29) [] [.ptr 1 [.sl 5 (List.map Star_av c)] 0 0]] 0 0], .int .i64 blockSize, .int .i64 y.2, .any, .any], [], [(31, ⟨1, List.map (AV.int .i64) y.1⟩)], true⟩)
set_option maxHeartbeats 64000000 in
theorem slices_stableCmpFunc_int64__impl_orderBy_c2_l3_ex {n : Int} {c : List Star} {blockSize : Int} {sgm_ : (List Int) × Int × Int} {rho_ : (List Int) × Int} (h : whileE (slices_stableCmpFunc_int64__impl_orderBy_c2_l3 n c blockSize) sgm_ = some rho_) : ∃ L0, ∀ L, L0 ≤ L → iter (exec (look t_51) L ir60_b2) ir60_k2 ir60_o2 ir60_r2 L (E_51_l3 n c blockSize sgm_) = R_51_l3 n c blockSize rho_ := by
 refine loop_ex (E := E_51_l3 n c blockSize) (R := R_51_l3 n c blockSize) (fun y => by first | (intro c; cases c) | (rcases y with y | y <;> (intro c; cases c)) | (rcases y with y | y | y <;> (intro c; cases c))) ?_ h
 clear h
 rintro ⟨data, a, b⟩ o_ h
 dsimp only [slices_stableCmpFunc_int64__impl_orderBy_c2_l3] at h
 rcases it_some h with ⟨z6, h⟩ | ⟨z6, h⟩
 ·try simp only [go_sem, n1, n2, n3, n4] at z6
  all_goals
  obtain ⟨y_7, z7, h⟩ := bd_some h
  have fz7 := Fs_50 z7
  try simp only [go_sem, z6] at fz7
  obtain rfl := so_some h
  refine ⟨0, fun L hL => ?_⟩
  simp only [go_sem, ir60, E_51_l3, R_51_l3, ir60_b2, ir60_k2, ir60_o2, ir60_r2, E_51_l1, R_51_l1, ir60_k0, ir60_o0, ir60_r0, z6, fz7]
 ·try simp only [go_sem, n1, n2, n3, n4] at z6
  all_goals
  obtain rfl := so_some h
  refine ⟨0, fun L hL => ?_⟩
  simp only [go_sem, ir60, E_51_l3, R_51_l3, ir60_b2, ir60_k2, ir60_o2, ir60_r2, E_51_l1, R_51_l1, ir60_k0, ir60_o0, ir60_r0, z6]

def E_51_l2 (n : Int) (c : List Star) : ((List Int) × Int) → St
 | (data, blockSize) => ⟨[.own 31, .int .i64 n, .fn (.func 50) [] [.ptr 1 [.fn (.func 29) [] [.ptr 1 [.sl 5 (List.map Star_av c)] 0 0]] 0 0], .int .i64 blockSize, .any, .any, .any], [], [(31, ⟨1, List.map (AV.int .i64) data⟩)], true⟩
def R_51_l2 (n : Int) (c : List Star) (y : (List Int)) : Res := (.exit 2, ⟨[.own 31, .any, .any, .any, .any, .any, .any], [], [(31, ⟨1, List.map (AV.int .i64) y⟩)], true⟩)
set_option maxHeartbeats 64000000 in
theorem slices_stableCmpFunc_int64__impl_orderBy_c2_l2_ex {n : Int} {c : List Star} {sgm_ : (List Int) × Int} {rho_ : (List Int)} (h : whileE (slices_stableCmpFunc_int64__impl_orderBy_c2_l2 n c) sgm_ = some rho_) : ∃ L0, ∀ L, L0 ≤ L → iter (exec (look t_51) L ir60_b1) ir60_k1 ir60_o1 ir60_r1 L (E_51_l2 n c sgm_) = R_51_l2 n c rho_ := by
 refine loop_ex (E := E_51_l2 n c) (R := R_51_l2 n c) (fun y => by first | (intro c; cases c) | (rcases y with y | y <;> (intro c; cases c)) | (rcases y with y | y | y <;> (intro c; cases c))) ?_ h
 clear h
 rintro ⟨data, blockSize⟩ o_ h
 dsimp only [slices_stableCmpFunc_int64__impl_orderBy_c2_l2] at h
 rcases it_some h with ⟨z5, h⟩ | ⟨z5, h⟩
 ·try simp only [go_sem, n1, n2, n3, n4] at z5
  all_goals
  obtain ⟨y_8, z8, h⟩ := bd_some h
  obtain ⟨Lz8, ez8⟩ := slices_stableCmpFunc_int64__impl_orderBy_c2_l3_ex z8
  rcases it_some h with ⟨z9, h⟩ | ⟨z9, h⟩
  ·try simp only [go_sem, n1, n2, n3, n4, z5] at z9
   all_goals
   obtain ⟨y_10, z10, h⟩ := bd_some h
   have fz10 := Fs_50 z10
   try simp only [go_sem, z5, z9] at fz10
   obtain rfl := so_some h
   refine ⟨Lz8, fun L hL => ?_⟩
   have ez8 := ez8 L (by omega)
   try simp only [go_sem, E_51_l2, R_51_l2, ir60_b1, ir60_k1, ir60_o1, ir60_r1, E_51_l1, R_51_l1, ir60_k0, ir60_o0, ir60_r0, E_51_l3, R_51_l3, ir60_k2, ir60_o2, ir60_r2, z5, z9] at ez8
   simp only [go_sem, ir60, E_51_l2, R_51_l2, ir60_b1, ir60_k1, ir60_o1, ir60_r1, E_51_l1, R_51_l1, ir60_k0, ir60_o0, ir60_r0, E_51_l3, R_51_l3, ir60_k2, ir60_o2, ir60_r2, z5, z9, fz10, ez8]
  ·try simp only [go_sem, n1, n2, n3, n4, z5] at z9
   all_goals
   obtain rfl := so_some h
   refine ⟨Lz8, fun L hL => ?_⟩
   have ez8 := ez8 L (by omega)
   try simp only [go_sem, E_51_l2, R_51_l2, ir60_b1, ir60_k1, ir60_o1, ir60_r1, E_51_l1, R_51_l1, ir60_k0, ir60_o0, ir60_r0, E_51_l3, R_51_l3, ir60_k2, ir60_o2, ir60_r2, z5, z9] at ez8
   simp only [go_sem, ir60, E_51_l2, R_51_l2, ir60_b1, ir60_k1, ir60_o1, ir60_r1, E_51_l1, R_51_l1, ir60_k0, ir60_o0, ir60_r0, E_51_l3, R_51_l3, ir60_k2, ir60_o2, ir60_r2, z5, z9, ez8]
 ·try simp only [go_sem, n1, n2, n3, n4] at z5
  all_goals
  obtain rfl := so_some h
  refine ⟨0, fun L hL => ?_⟩
  simp only [go_sem, ir60, E_51_l2, R_51_l2, ir60_b1, ir60_k1, ir60_o1, ir60_r1, E_51_l1, R_51_l1, ir60_k0, ir60_o0, ir60_r0, E_51_l3, R_51_l3, ir60_k2, ir60_o2, ir60_r2, z5]

set_option maxHeartbeats 64000000 in
theorem Fs_51 {data : List Int} {n : Int} {cmp_c0_f_0 : List Star} {y_ : (List Int)} (h : slices_stableCmpFunc_int64__impl_orderBy_c2 data n cmp_c0_f_0 = some y_) : c_51.F [.fresh 1 (List.map (AV.int .i64) data), .int .i64 n, .fn (.func 50) [] [.ptr 1 [.fn (.func 29) [] [.ptr 1 [.sl 5 (List.map Star_av cmp_c0_f_0)] 0 0]] 0 0]] = ⟨true, .cv undef, [.fresh 1 (List.map (AV.int .i64) y_), .any, .any]⟩ := by
 refine mkN_E ?_
 dsimp only [slices_stableCmpFunc_int64__impl_orderBy_c2] at h
 obtain ⟨y_3, z3, h⟩ := bd_some h
 obtain ⟨Lz3, ez3⟩ := slices_stableCmpFunc_int64__impl_orderBy_c2_l1_ex z3
 obtain ⟨y_4, z4, h⟩ := bd_some h
 have fz4 := Fs_47 z4
 try simp only [go_sem] at fz4
 obtain ⟨y_11, z11, h⟩ := bd_some h
 obtain ⟨Lz11, ez11⟩ := slices_stableCmpFunc_int64__impl_orderBy_c2_l2_ex z11
 obtain ⟨z12, h⟩ := ck_some h
 try simp only [go_sem, n1, n2, n3, n4] at z12
 all_goals
 obtain rfl := so_some h
 refine ⟨Lz3 + Lz11, fun L hL => ?_⟩
 have ez3 := ez3 L (by omega)
 have ez11 := ez11 L (by omega)
 try simp only [go_sem, E_51_l1, R_51_l1, ir60_k0, ir60_o0, ir60_r0, E_51_l3, R_51_l3, ir60_k2, ir60_o2, ir60_r2, E_51_l2, R_51_l2, ir60_k1, ir60_o1, ir60_r1, z12] at ez3
 try simp only [go_sem, E_51_l1, R_51_l1, ir60_k0, ir60_o0, ir60_r0, E_51_l3, R_51_l3, ir60_k2, ir60_o2, ir60_r2, E_51_l2, R_51_l2, ir60_k1, ir60_o1, ir60_r1, z12] at ez11
 simp only [go_sem, ir60, E_51_l1, R_51_l1, ir60_k0, ir60_o0, ir60_r0, E_51_l3, R_51_l3, ir60_k2, ir60_o2, ir60_r2, E_51_l2, R_51_l2, ir60_k1, ir60_o1, ir60_r1, fz4, z12, ez3, ez11]


def ir49_v : List Nat := [0, 1]
def ir49 : AFn := ⟨2, 2, .region false [ PM 4 0, PM 5 0, PO 6 (.len false (.s 0)), PM 7 1, PO 8 (.call 60 [(.s 3), (.s 1), (.s 0)])], []⟩
noncomputable def t_52 : List (Nat × Ctr) := [(60, c_51)]
theorem lk_52_60 : look t_52 60 = some c_51 := rfl
noncomputable def c_52 : Ctr := mkN t_52 ir49 [.io, .bor]
theorem s_52 : Sound Tryd.prog 49 c_52 := mkN_sound _ (snd_cons s_51 snd_nil) (by kernel_rfl : chkFn Tryd.prog 49 ir49 ir49_v = true)
theorem M_52 : c_52.modes = [.io, .bor] := rfl
theorem Fl_52 : c_52.flat = false := rfl
attribute [go_sem] M_52 Fl_52
attribute [go_sem] lk_52_60
theorem Fs_52 {x : List Int} {cmp_c0_f_0 : List Star} {y_ : (List Int)} (h : slices_SortStableFunc_int64_int64__impl_orderBy_c2 x cmp_c0_f_0 = some y_) : c_52.F [.fresh 1 (List.map (AV.int .i64) x), .fn (.func 50) [] [.ptr 1 [.fn (.func 29) [] [.ptr 1 [.sl 5 (List.map Star_av cmp_c0_f_0)] 0 0]] 0 0]] = ⟨true, .cv undef, [.fresh 1 (List.map (AV.int .i64) y_), .any]⟩ := by
 refine mkN_E ?_
 dsimp only [slices_SortStableFunc_int64_int64__impl_orderBy_c2] at h
 obtain ⟨y_1, z1, h⟩ := bd_some h
 have fz1 := Fs_51 z1
 try simp only [go_sem] at fz1
 obtain ⟨z2, h⟩ := ck_some h
 try simp only [go_sem, n1, n2, n3, n4] at z2
 all_goals
 obtain rfl := so_some h
 refine ⟨0, fun L hL => ?_⟩
 simp only [go_sem, ir49, fz1, z2]


def ir28_v : List Nat := [0, 1, 3, 4, 5]
def ir28 : AFn := ⟨2, 5, .seq (.region false [ VO 2 3 (.box (.v 1)), VO 3 4 (.newnil 1)]) (.seq (.region false [ PM 6 0, PO 7 (.call 31 [(.s 0), (.c (.fn (.func 48) [] []))]), VS 4 5 0]) (.seq (.region false [ PM 8 4, PO 9 (.mkFn (.func 50) [] [(.v 2)]), PO 10 (.call 49 [(.s 1), (.s 0)])]) (.seq (.region false [ PM 11 4, VS 3 4 0]) (.ret)))), [.t 3]⟩
noncomputable def t_53 : List (Nat × Ctr) := [(31, c_44), (49, c_52)]
theorem lk_53_31 : look t_53 31 = some c_44 := rfl
theorem lk_53_49 : look t_53 49 = some c_52 := rfl
noncomputable def c_53 : Ctr := mkF t_53 ir28 [.bor, .bor]
theorem s_53 : Sound Tryd.prog 28 c_53 := mkF_sound _ rfl (snd_cons s_44 (snd_cons s_52 snd_nil)) (by kernel_rfl : chkFn Tryd.prog 28 ir28 ir28_v = true)
theorem M_53 : c_53.modes = [.bor, .bor] := rfl
theorem Fl_53 : c_53.flat = true := rfl
attribute [go_sem] M_53 Fl_53
attribute [go_sem] lk_53_31 lk_53_49
theorem Fs_53 {n : Int} {number_c0 : List Star} {y_ : (List Int)} (h : impl_orderBy__impl_ByAmplitude_c1 n number_c0 = some y_) : c_53.F [.int .i64 n, .fn (.func 29) [] [.ptr 1 [.sl 5 (List.map Star_av number_c0)] 0 0]] = ⟨true, .fresh 1 (List.map (AV.int .i64) y_), [.any, .any]⟩ := by
 refine mkF_E (by simp only [flatA, flatB, flat1, List.all_cons, List.all_nil, Bool.and_self, flatE_map (f := (AV.int .i64)) (fun _ => rfl)]) ?_
 dsimp only [impl_orderBy__impl_ByAmplitude_c1] at h
 obtain ⟨y_1, z1, h⟩ := bd_some h
 have fz1 := Fs_44 z1
 try simp only [go_sem] at fz1
 obtain ⟨y_2, z2, h⟩ := bd_some h
 have fz2 := Fs_52 z2
 try simp only [go_sem] at fz2
 obtain rfl := so_some h
 refine ⟨0, fun L hL => ?_⟩
 simp only [go_sem, ir28, fz1, fz2]


def ir11_v : List Nat := [0, 1, 2, 3]
def ir11 : AFn := ⟨1, 4, .seq (.region false [ VO 1 1 (.box (.v 0)), VO 2 2 (.newnil 1), VO 3 3 (.mov (I6 0))]) (.seq (.test false [ PO 4 (.load false 1 (.v 1)), PO 5 (.call 10 [(.s 0)]), PO 6 (.un .not (.s 0))] (.s 0) (.seq (.region false [ VO 2 2 (.newnil 1), VO 3 3 (.mov (I6 1))]) (.ret)) (.skip)) (.seq (.region false [ PO 7 (.load false 1 (.v 1)), PO 8 (.len false (.s 0)), PO 9 (.mkFn (.func 29) [] [(.v 1)]), PO 10 (.call 28 [(.s 1), (.s 0)]), VS 2 2 0, VO 3 3 (.mov (I6 0))]) (.ret))), [.t 2, .t 3]⟩
noncomputable def t_54 : List (Nat × Ctr) := [(10, c_30), (28, c_53)]
theorem lk_54_10 : look t_54 10 = some c_30 := rfl
theorem lk_54_28 : look t_54 28 = some c_53 := rfl
noncomputable def c_54 : Ctr := mkF t_54 ir11 [.bor]
theorem s_54 : Sound Tryd.prog 11 c_54 := mkF_sound _ rfl (snd_cons s_30 (snd_cons s_53 snd_nil)) (by kernel_rfl : chkFn Tryd.prog 11 ir11 ir11_v = true)
theorem M_54 : c_54.modes = [.bor] := rfl
theorem Fl_54 : c_54.flat = true := rfl
attribute [go_sem] M_54 Fl_54
attribute [go_sem] lk_54_10 lk_54_28
theorem Fs_54 {list : List Star} {y_ : (List Int) × Int} (h : impl_ByAmplitude list = some y_) : c_54.F [.sl 5 (List.map Star_av list)] = ⟨true, .tup [.fresh 1 (List.map (AV.int .i64) y_.1), .int .i64 y_.2], [.any]⟩ := by
 refine mkF_E (by simp only [flatA, flatB, flat1, List.all_cons, List.all_nil, Bool.and_self, flatE_map (f := (AV.int .i64)) (fun _ => rfl)]) ?_
 dsimp only [impl_ByAmplitude] at h
 obtain ⟨y_1, z1, h⟩ := bd_some h
 have fz1 := Fs_30 z1
 try simp only [go_sem] at fz1
 rcases it_some h with ⟨z2, h⟩ | ⟨z2, h⟩
 ·try simp only [go_sem, n1, n2, n3, n4] at z2
  all_goals
  obtain rfl := so_some h
  refine ⟨0, fun L hL => ?_⟩
  simp only [go_sem, ir11, fz1, z2]
 ·try simp only [go_sem, n1, n2, n3, n4] at z2
  all_goals
  obtain ⟨y_3, z3, h⟩ := bd_some h
  have fz3 := Fs_53 z3
  try simp only [go_sem, z2] at fz3
  obtain rfl := so_some h
  refine ⟨0, fun L hL => ?_⟩
  simp only [go_sem, ir11, fz1, z2, fz3]


def ir12_b0 : IR := .seq (.test false [ PM 6 3, PM 7 0, PO 8 (.len false (.s 0)), PO 9 (.bin false .lss (.s 2) (.s 0))] (.s 0) (.skip) (.exit 0)) (.seq (.block 1 (.test false [ PM 12 0, PM 13 3, PO 14 (.ixAddr 1 (.s 1) (.s 0)), PO 15 (.load false 1 (.s 0)), PM 16 1, PO 17 (.bin false .eql (.s 1) (.s 0))] (.s 0) (.seq (.region false [ VO 2 4 (.mov (.c (.bool true)))]) (.ret)) (.skip))) (.region false [ PM 10 3, PO 11 (.bin false .add (.s 0) (I6 1)), VS 3 5 0]))
def ir12_k0 : List Bool := [true, true, false, true]
def ir12_o0 : List Bool := [false, false, false, false]
def ir12_r0 : List Bool := [false, false, true, false]
def ir12_v : List Nat := [0, 1, 4, 5]
def ir12 : AFn := ⟨2, 4, .seq (.region false [ VO 2 4 (.mov (.c (.bool false)))]) (.seq (.seq (.region false [ VO 3 5 (.mov (I6 0))]) (.block 0 (.loop ir12_k0 ir12_o0 ir12_r0 ir12_b0))) (.seq (.region false [ VO 2 4 (.mov (.c (.bool false)))]) (.ret))), [.t 2]⟩
noncomputable def t_55 : List (Nat × Ctr) := []
noncomputable def c_55 : Ctr := mkF t_55 ir12 [.bor, .bor]
theorem s_55 : Sound Tryd.prog 12 c_55 := mkF_sound _ rfl snd_nil (by kernel_rfl : chkFn Tryd.prog 12 ir12 ir12_v = true)
theorem M_55 : c_55.modes = [.bor, .bor] := rfl
theorem Fl_55 : c_55.flat = true := rfl
attribute [go_sem] M_55 Fl_55
def E_55_l1 (list : List Int) (n : Int) : Int → St
 | i => ⟨[.sl 1 (List.map (AV.int .i64) list), .int .i64 n, .any, .int .i64 i], [], [], true⟩
def R_55_l1 (list : List Int) (n : Int) : (Unit ⊕ Bool) → Res
 | .inl y => (.exit 0, ⟨[.any, .any, .any, .any], [], [], true⟩)
 | .inr y => (.ret, ⟨[.any, .any, .bool y, .any], [], [], true⟩)
theorem laws_a2Has_l1_ex {list : List Int} {n : Int} {sgm_ : Int} {rho_ : Unit ⊕ Bool} (h : whileE (laws_a2Has_l1 list n) sgm_ = some rho_) : ∃ L0, ∀ L, L0 ≤ L → iter (exec (look t_55) L ir12_b0) ir12_k0 ir12_o0 ir12_r0 L (E_55_l1 list n sgm_) = R_55_l1 list n rho_ := by
 refine loop_ex (E := E_55_l1 list n) (R := R_55_l1 list n) (fun y => by first | (intro c; cases c) | (rcases y with y | y <;> (intro c; cases c)) | (rcases y with y | y | y <;> (intro c; cases c))) ?_ h
 clear h
 intro i o_ h
 dsimp only [laws_a2Has_l1] at h
 rcases it_some h with ⟨z1, h⟩ | ⟨z1, h⟩
 ·try simp only [go_sem, n1, n2, n3, n4] at z1
  all_goals
  obtain ⟨z2, h⟩ := ck_some h
  have lz2 := ix_lt z2
  have xz2 := getD_mapD (AV.int .i64) list lz2
  try simp only [go_sem] at lz2
  try simp only [go_sem] at xz2
  try simp only [go_sem, n1, n2, n3, n4, z1] at z2
  all_goals
  rcases it_some h with ⟨z3, h⟩ | ⟨z3, h⟩
  ·try simp only [go_sem, n1, n2, n3, n4, z1, z2] at z3
   all_goals
   obtain rfl := so_some h
   refine ⟨0, fun L hL => ?_⟩
   simp only [go_sem, ir12, E_55_l1, R_55_l1, ir12_b0, ir12_k0, ir12_o0, ir12_r0, z1, z2, lz2, xz2, z3]
  ·try simp only [go_sem, n1, n2, n3, n4, z1, z2] at z3
   all_goals
   obtain rfl := so_some h
   refine ⟨0, fun L hL => ?_⟩
   simp only [go_sem, ir12, E_55_l1, R_55_l1, ir12_b0, ir12_k0, ir12_o0, ir12_r0, z1, z2, lz2, xz2, z3]
 ·try simp only [go_sem, n1, n2, n3, n4] at z1
  all_goals
  obtain rfl := so_some h
  refine ⟨0, fun L hL => ?_⟩
  simp only [go_sem, ir12, E_55_l1, R_55_l1, ir12_b0, ir12_k0, ir12_o0, ir12_r0, z1]

theorem Fs_55 {list : List Int} {n : Int} {y_ : Bool} (h : laws_a2Has list n = some y_) : c_55.F [.sl 1 (List.map (AV.int .i64) list), .int .i64 n] = ⟨true, .bool y_, [.any, .any]⟩ := by
 refine mkF_E rfl ?_
 dsimp only [laws_a2Has] at h
 obtain ⟨y_4, z4, h⟩ := bd_some h
 obtain ⟨Lz4, ez4⟩ := laws_a2Has_l1_ex z4
 rcases y_4 with y_4a | y_4b
 ·dsimp only at h
  obtain rfl := so_some h
  refine ⟨Lz4, fun L hL => ?_⟩
  have ez4 := ez4 L (by omega)
  try simp only [go_sem, E_55_l1, R_55_l1, ir12_k0, ir12_o0, ir12_r0] at ez4
  simp only [go_sem, ir12, E_55_l1, R_55_l1, ir12_k0, ir12_o0, ir12_r0, ez4]
 ·dsimp only at h
  obtain rfl := so_some h
  refine ⟨Lz4, fun L hL => ?_⟩
  have ez4 := ez4 L (by omega)
  try simp only [go_sem, E_55_l1, R_55_l1, ir12_k0, ir12_o0, ir12_r0] at ez4
  simp only [go_sem, ir12, E_55_l1, R_55_l1, ir12_k0, ir12_o0, ir12_r0, ez4]


def ir32_v : List Nat := [0, 1, 2, 4]
def ir32 : AFn := ⟨3, 4, .seq (.region false [ VO 3 4 (.mov (.c (.bool false)))]) (.seq (.anyo 12 [ SO 0 5 (.load false 1 (.v 1)), SO 1 6 (.load false 1 (.v 2)), SO 2 7 (.mov (.v 0)), SO 3 8 (.ixAddr 5 (.s 1) (.s 2)), SO 4 9 (.fldAddr 3 (.s 3)), SO 5 10 (.load false 1 (.s 4)), SO 6 11 (.load false 1 (.v 2)), SO 7 12 (.mov (.v 0)), SO 8 13 (.ixAddr 5 (.s 6) (.s 7)), SO 9 14 (.fldAddr 4 (.s 8)), SO 10 15 (.load false 1 (.s 9)), SO 11 16 (.callp 33 [(.s 0), (.s 5), (.s 10)]), VS 3 4 11] [] .skip) (.ret)), [.t 3]⟩
noncomputable def t_56 : List (Nat × Ctr) := [(33, c_24)]
theorem lk_56_33 : look t_56 33 = some c_24 := rfl
noncomputable def c_56 : Ctr := mkF t_56 ir32 [.bor, .bor, .bor]
theorem s_56 : Sound Tryd.prog 32 c_56 := mkF_sound _ rfl (snd_cons s_24 snd_nil) (by kernel_rfl : chkFn Tryd.prog 32 ir32 ir32_v = true)
theorem M_56 : c_56.modes = [.bor, .bor, .bor] := rfl
theorem Fl_56 : c_56.flat = true := rfl
attribute [go_sem] M_56 Fl_56
attribute [go_sem] lk_56_33
theorem Fs_56 {i : Int} {t1 : Int} {t2 : List Star} {y_ : Bool} (h : impl_VisibleAt_c1 i t1 t2 = some y_) : c_56.F [.int .i64 i, .ptr 1 [.int .i64 t1] 0 0, .ptr 1 [.sl 5 (List.map Star_av t2)] 0 0] = ⟨true, .bool y_, [.any, .any, .any]⟩ := by
 refine mkF_E rfl ?_
 dsimp only [impl_VisibleAt_c1] at h
 obtain ⟨z1, h⟩ := ck_some h
 have lz1 := ix_lt z1
 have xz1 := getD_mapD Star_av t2 lz1
 try simp only [go_sem] at lz1
 try simp only [go_sem] at xz1
 try simp only [go_sem, n1, n2, n3, n4] at z1
 all_goals
 obtain ⟨y_2, z2, h⟩ := bd_some h
 have fz2 := Fs_24 z2
 try simp only [go_sem, z1] at fz2
 obtain rfl := so_some h
 refine ⟨0, fun L hL => ?_⟩
 simp only [go_sem, ir32, z1, lz1, xz1, fz2]


noncomputable def t_57 : List (Nat × Ctr) := [(32, c_56)]
theorem lk_57_32 : look t_57 32 = some c_56 := rfl
noncomputable def c_57 : Ctr := mkF t_57 ir31 [.bor, .bor]
theorem s_57 : Sound Tryd.prog 31 c_57 := mkF_sound _ rfl (snd_cons s_56 snd_nil) (by kernel_rfl : chkFn Tryd.prog 31 ir31 ir31_v = true)
theorem M_57 : c_57.modes = [.bor, .bor] := rfl
theorem Fl_57 : c_57.flat = true := rfl
attribute [go_sem] M_57 Fl_57
attribute [go_sem] lk_57_32
def E_57_l1 (c : Int) (c2 : List Star) (t8 : Int) : ((List Int) × Int) → St
 | (out, t9) => ⟨[.any, .fn (.func 32) [] [.ptr 1 [.int .i64 c] 0 0, .ptr 1 [.sl 5 (List.map Star_av c2)] 0 0], .any, .own 3200000, .any, .int .i64 t8, .int .i64 t9, .any], [], [(3200000, ⟨1, List.map (AV.int .i64) out⟩)], true⟩
def R_57_l1 (c : Int) (c2 : List Star) (t8 : Int) (y : (List Int)) : Res := (.exit 0, ⟨[.any, .any, .any, .own 3200000, .any, .any, .any, .any], [], [(3200000, ⟨1, List.map (AV.int .i64) y⟩)], true⟩)
theorem impl_indicesWhere__impl_VisibleAt_c1_l1_ex {c : Int} {c2 : List Star} {t8 : Int} {sgm_ : (List Int) × Int} {rho_ : (List Int)} (h : whileE (impl_indicesWhere__impl_VisibleAt_c1_l1 c c2 t8) sgm_ = some rho_) : ∃ L0, ∀ L, L0 ≤ L → iter (exec (look t_57) L ir31_b0) ir31_k0 ir31_o0 ir31_r0 L (E_57_l1 c c2 t8 sgm_) = R_57_l1 c c2 t8 rho_ := by
 refine loop_ex (E := E_57_l1 c c2 t8) (R := R_57_l1 c c2 t8) (fun y => by first | (intro c; cases c) | (rcases y with y | y <;> (intro c; cases c)) | (rcases y with y | y | y <;> (intro c; cases c))) ?_ h
 clear h
 rintro ⟨out, t9⟩ o_ h
 dsimp only [impl_indicesWhere__impl_VisibleAt_c1_l1] at h
 rcases it_some h with ⟨z1, h⟩ | ⟨z1, h⟩
 ·try simp only [go_sem, n1, n2, n3, n4] at z1
  all_goals
  obtain ⟨y_2, z2, h⟩ := bd_some h
  have fz2 := Fs_56 z2
  try simp only [go_sem, z1] at fz2
  rcases it_some h with ⟨z3, h⟩ | ⟨z3, h⟩
  ·try simp only [go_sem, n1, n2, n3, n4, z1] at z3
   all_goals
   obtain ⟨z4, h⟩ := ck_some h
   try simp only [go_sem, n1, n2, n3, n4, z1, z3] at z4
   all_goals
   obtain rfl := so_some h
   refine ⟨0, fun L hL => ?_⟩
   simp only [go_sem, ir31, E_57_l1, R_57_l1, ir31_b0, ir31_k0, ir31_o0, ir31_r0, z1, fz2, z3, z4]
  ·try simp only [go_sem, n1, n2, n3, n4, z1] at z3
   all_goals
   obtain rfl := so_some h
   refine ⟨0, fun L hL => ?_⟩
   simp only [go_sem, ir31, E_57_l1, R_57_l1, ir31_b0, ir31_k0, ir31_o0, ir31_r0, z1, fz2, z3]
 ·try simp only [go_sem, n1, n2, n3, n4] at z1
  all_goals
  obtain rfl := so_some h
  refine ⟨0, fun L hL => ?_⟩
  simp only [go_sem, ir31, E_57_l1, R_57_l1, ir31_b0, ir31_k0, ir31_o0, ir31_r0, z1]

theorem Fs_57 {n : Int} {wanted_c0 : Int} {wanted_c1 : List Star} {y_ : (List Int)} (h : impl_indicesWhere__impl_VisibleAt_c1 n wanted_c0 wanted_c1 = some y_) : c_57.F [.int .i64 n, .fn (.func 32) [] [.ptr 1 [.int .i64 wanted_c0] 0 0, .ptr 1 [.sl 5 (List.map Star_av wanted_c1)] 0 0]] = ⟨true, .fresh 1 (List.map (AV.int .i64) y_), [.any, .any]⟩ := by
 refine mkF_E (by simp only [flatA, flatB, flat1, List.all_cons, List.all_nil, Bool.and_self, flatE_map (f := (AV.int .i64)) (fun _ => rfl)]) ?_
 dsimp only [impl_indicesWhere__impl_VisibleAt_c1] at h
 obtain ⟨y_5, z5, h⟩ := bd_some h
 obtain ⟨Lz5, ez5⟩ := impl_indicesWhere__impl_VisibleAt_c1_l1_ex z5
 obtain rfl := so_some h
 refine ⟨Lz5, fun L hL => ?_⟩
 have ez5 := ez5 L (by omega)
 try simp only [go_sem, E_57_l1, R_57_l1, ir31_k0, ir31_o0, ir31_r0] at ez5
 simp only [go_sem, ir31, E_57_l1, R_57_l1, ir31_k0, ir31_o0, ir31_r0, ez5]


def ir13_v : List Nat := [0, 1, 2, 3, 4, 5]
def ir13 : AFn := ⟨2, 6, .seq (.region false [ VO 2 2 (.box (.v 0)), VO 3 3 (.box (.v 1)), VO 4 4 (.newnil 1), VO 5 5 (.mov (I6 0))]) (.seq (.block 0 (.test false [ PO 7 (.load false 1 (.v 2)), PO 8 (.call 10 [(.s 0)]), PO 9 (.un .not (.s 0)), PO 6 (.mov (.s 0))] (.s 0) (.seq (.region false [ VO 4 4 (.newnil 1), VO 5 5 (.mov (I6 1))]) (.ret)) (.test false [ PO 11 (.load false 1 (.v 3)), PO 12 (.call 30 [(.s 0)]), PO 13 (.un .not (.s 0)), PO 10 (.mov (.s 0))] (.s 0) (.seq (.region false [ VO 4 4 (.newnil 1), VO 5 5 (.mov (I6 2))]) (.ret)) (.skip)))) (.seq (.region false [ PO 14 (.load false 1
 (.v 2)), PO 15 (.len false (.s 0)), PO 16 (.mkFn (.func 32) [] [(.v 3), (.v 2)]), PO 17 (.call 31 [(.s 1), (.s 0)]), VS 4 4 0, VO 5 5 (.mov (I6 0))]) (.ret))), [.t 4, .t 5]⟩
noncomputable def t_58 : List (Nat × Ctr) := [(10, c_30), (30, c_26), (31, c_57)]
theorem lk_58_10 : look t_58 10 = some c_30 := rfl
theorem lk_58_30 : look t_58 30 = some c_26 := rfl
theorem lk_58_31 : look t_58 31 = some c_57 := rfl
noncomputable def c_58 : Ctr := mkF t_58 ir13 [.bor, .bor]
theorem s_58 : Sound Tryd.prog 13 c_58 := mkF_sound _ rfl (snd_cons s_30 (snd_cons s_26 (snd_cons s_57 snd_nil))) (by kernel_rfl : chkFn Tryd.prog 13 ir13 ir13_v = true)
theorem M_58 : c_58.modes = [.bor, .bor] := rfl
theorem Fl_58 : c_58.flat = true := rfl
attribute [go_sem] M_58 Fl_58
attribute [go_sem] lk_58_10 lk_58_30 lk_58_31
theorem Fs_58 {list : List Star} {m : Int} {y_ : (List Int) × Int} (h : impl_VisibleAt list m = some y_) : c_58.F [.sl 5 (List.map Star_av list), .int .i64 m] = ⟨true, .tup [.fresh 1 (List.map (AV.int .i64) y_.1), .int .i64 y_.2], [.any, .any]⟩ := by
 refine mkF_E (by simp only [flatA, flatB, flat1, List.all_cons, List.all_nil, Bool.and_self, flatE_map (f := (AV.int .i64)) (fun _ => rfl)]) ?_
 dsimp only [impl_VisibleAt] at h
 obtain ⟨y_1, z1, h⟩ := bd_some h
 have fz1 := Fs_30 z1
 try simp only [go_sem] at fz1
 rcases it_some h with ⟨z2, h⟩ | ⟨z2, h⟩
 ·try simp only [go_sem, n1, n2, n3, n4] at z2
  all_goals
  obtain rfl := so_some h
  refine ⟨0, fun L hL => ?_⟩
  simp only [go_sem, ir13, fz1, z2]
 ·try simp only [go_sem, n1, n2, n3, n4] at z2
  all_goals
  obtain ⟨y_3, z3, h⟩ := bd_some h
  have fz3 := Fs_26 z3
  try simp only [go_sem, z2] at fz3
  rcases it_some h with ⟨z4, h⟩ | ⟨z4, h⟩
  ·try simp only [go_sem, n1, n2, n3, n4, z2] at z4
   all_goals
   obtain rfl := so_some h
   refine ⟨0, fun L hL => ?_⟩
   simp only [go_sem, ir13, fz1, z2, fz3, z4]
  ·try simp only [go_sem, n1, n2, n3, n4, z2] at z4
   all_goals
   obtain ⟨y_5, z5, h⟩ := bd_some h
   have fz5 := Fs_57 z5
   try simp only [go_sem, z2, z4] at fz5
   obtain rfl := so_some h
   refine ⟨0, fun L hL => ?_⟩
   simp only [go_sem, ir13, fz1, z2, fz3, z4, fz5]


theorem s_hFmt : Sound Tryd.prog 78 c_hFmt := hFmt_is

def ir73_v : List Nat := [0, 1, 4]
def ir73 : AFn := ⟨2, 3, .seq (.region false [ VO 2 4 (.mov (.c (.str [])))]) (.seq (.region false [ PM 5 0, PM 6 1, PO 7 (.call 78 [(.s 1), (.s 0)]), VS 2 4 0]) (.ret)), [.t 2]⟩
noncomputable def t_60 : List (Nat × Ctr) := [(78, c_hFmt)]
theorem lk_60_78 : look t_60 78 = some c_hFmt := rfl
noncomputable def c_60 : Ctr := mkF t_60 ir73 [.bor, .bor]
theorem s_60 : Sound Tryd.prog 73 c_60 := mkF_sound _ rfl (snd_cons s_hFmt snd_nil) (by kernel_rfl : chkFn Tryd.prog 73 ir73 ir73_v = true)
theorem M_60 : c_60.modes = [.bor, .bor] := rfl
theorem Fl_60 : c_60.flat = true := rfl
attribute [go_sem] M_60 Fl_60
attribute [go_sem] lk_60_78
theorem Fs_60 {i : Int} {base : Int} {y_ : (List UInt8)} (h : strconv_FormatInt i base = some y_) : c_60.F [.int .i64 i, .int .i64 base] = ⟨true, .str y_, [.any, .any]⟩ := by
 refine mkF_E rfl ?_
 dsimp only [strconv_FormatInt] at h
 obtain ⟨y_1, z1, h⟩ := bd_some h
 have fz1 := Fs_hFmt z1
 try simp only [go_sem] at fz1
 obtain rfl := so_some h
 refine ⟨0, fun L hL => ?_⟩
 simp only [go_sem, ir73, fz1]


def ir64_v : List Nat := [0, 2]
def ir64 : AFn := ⟨1, 2, .seq (.region false [ VO 1 2 (.mov (.c (.str [])))]) (.seq (.region false [ PM 3 0, PO 4 (.call 73 [(.s 0), (I6 10)]), VS 1 2 0]) (.ret)), [.t 1]⟩
noncomputable def t_61 : List (Nat × Ctr) := [(73, c_60)]
theorem lk_61_73 : look t_61 73 = some c_60 := rfl
noncomputable def c_61 : Ctr := mkF t_61 ir64 [.bor]
theorem s_61 : Sound Tryd.prog 64 c_61 := mkF_sound _ rfl (snd_cons s_60 snd_nil) (by kernel_rfl : chkFn Tryd.prog 64 ir64 ir64_v = true)
theorem M_61 : c_61.modes = [.bor] := rfl
theorem Fl_61 : c_61.flat = true := rfl
attribute [go_sem] M_61 Fl_61
attribute [go_sem] lk_61_73
theorem Fs_61 {n : Int} {y_ : (List UInt8)} (h : impl_Decimal n = some y_) : c_61.F [.int .i64 n] = ⟨true, .str y_, [.any]⟩ := by
 refine mkF_E rfl ?_
 dsimp only [impl_Decimal] at h
 obtain ⟨y_1, z1, h⟩ := bd_some h
 have fz1 := Fs_60 z1
 try simp only [go_sem] at fz1
 obtain rfl := so_some h
 refine ⟨0, fun L hL => ?_⟩
 simp only [go_sem, ir64, fz1]


def ir52_b0 : IR := .seq (.test false [ PM 8 3, PO 9 (.len true (.s 0)), PM 10 1, PO 11 (.bin false .lss (.s 1) (.s 0))] (.s 0) (.skip) (.exit 0)) (.block 1 (.region false [ PM 12 3, PO 13 (.bin false .add (.c (.str [48])) (.s 0)), VS 3 5 0]))
def ir52_k0 : List Bool := [false, true, false, true]
def ir52_o0 : List Bool := [false, false, false, true]
def ir52_r0 : List Bool := [false, false, true, false]
def ir52_v : List Nat := [0, 1, 4, 5]
def ir52 : AFn := ⟨2, 4, .seq (.region false [ VO 2 4 (.mov (.c (.str [])))]) (.seq (.region false [ PM 6 0, PO 7 (.call 64 [(.s 0)]), VS 3 5 0]) (.seq (.block 0 (.loop ir52_k0 ir52_o0 ir52_r0 ir52_b0)) (.seq (.region false [ PM 14 3, VS 2 4 0]) (.ret)))), [.t 2]⟩
noncomputable def t_62 : List (Nat × Ctr) := [(64, c_61)]
theorem lk_62_64 : look t_62 64 = some c_61 := rfl
noncomputable def c_62 : Ctr := mkF t_62 ir52 [.bor, .bor]
theorem s_62 : Sound Tryd.prog 52 c_62 := mkF_sound _ rfl (snd_cons s_61 snd_nil) (by kernel_rfl : chkFn Tryd.prog 52 ir52 ir52_v = true)
theorem M_62 : c_62.modes = [.bor, .bor] := rfl
theorem Fl_62 : c_62.flat = true := rfl
attribute [go_sem] M_62 Fl_62
attribute [go_sem] lk_62_64
def E_62_l1 (digits : Int) : (List UInt8) → St
 | s_ => ⟨[.any, .int .i64 digits, .any, .str s_], [], [], true⟩
def R_62_l1 (digits : Int) (y : (List UInt8)) : Res := (.exit 0, ⟨[.any, .any, .any, .str y], [], [], true⟩)
theorem impl_padded_l1_ex {digits : Int} {sgm_ : (List UInt8)} {rho_ : (List UInt8)} (h : whileE (impl_padded_l1 digits) sgm_ = some rho_) : ∃ L0, ∀ L, L0 ≤ L → iter (exec (look t_62) L ir52_b0) ir52_k0 ir52_o0 ir52_r0 L (E_62_l1 digits sgm_) = R_62_l1 digits rho_ := by
 refine loop_ex (E := E_62_l1 digits) (R := R_62_l1 digits) (fun y => by first | (intro c; cases c) | (rcases y with y | y <;> (intro c; cases c)) | (rcases y with y | y | y <;> (intro c; cases c))) ?_ h
 clear h
 intro s_ o_ h
 dsimp only [impl_padded_l1] at h
 rcases it_some h with ⟨z2, h⟩ | ⟨z2, h⟩
 ·try simp only [go_sem, n1, n2, n3, n4] at z2
  all_goals
  obtain ⟨z3, h⟩ := ck_some h
  try simp only [go_sem, n1, n2, n3, n4, z2] at z3
  all_goals
  obtain rfl := so_some h
  refine ⟨0, fun L hL => ?_⟩
  simp only [go_sem, ir52, E_62_l1, R_62_l1, ir52_b0, ir52_k0, ir52_o0, ir52_r0, z2, z3]
 ·try simp only [go_sem, n1, n2, n3, n4] at z2
  all_goals
  obtain rfl := so_some h
  refine ⟨0, fun L hL => ?_⟩
  simp only [go_sem, ir52, E_62_l1, R_62_l1, ir52_b0, ir52_k0, ir52_o0, ir52_r0, z2]

theorem Fs_62 {n : Int} {digits : Int} {y_ : (List UInt8)} (h : impl_padded n digits = some y_) : c_62.F [.int .i64 n, .int .i64 digits] = ⟨true, .str y_, [.any, .any]⟩ := by
 refine mkF_E rfl ?_
 dsimp only [impl_padded] at h
 obtain ⟨y_1, z1, h⟩ := bd_some h
 have fz1 := Fs_61 z1
 try simp only [go_sem] at fz1
 obtain ⟨y_4, z4, h⟩ := bd_some h
 obtain ⟨Lz4, ez4⟩ := impl_padded_l1_ex z4
 obtain rfl := so_some h
 refine ⟨Lz4, fun L hL => ?_⟩
 have ez4 := ez4 L (by omega)
 try simp only [go_sem, E_62_l1, R_62_l1, ir52_k0, ir52_o0, ir52_r0] at ez4
 simp only [go_sem, ir52, E_62_l1, R_62_l1, ir52_k0, ir52_o0, ir52_r0, fz1, ez4]


theorem s_hJoin : Sound Tryd.prog 51 c_hJoin := hJoin_is

def ir34_v : List Nat := [0, 2]
def ir34 : AFn := ⟨1, 2, .seq (.region false [ VO 1 2 (.mov (.c (.str [])))]) (.seq (.region false [ PM 3 0, PO 4 (.bin false .quo (.s 0) (I6 3600)), PO 5 (.call 52 [(.s 0), (I6 2)]), PM 6 0, PO 7 (.bin false .quo (.s 0) (I6 60)), PO 8 (.bin false .rem (.s 0) (I6 60)), PO 9 (.call 52 [(.s 0), (I6 2)]), PM 10 0, PO 11 (.bin false .rem (.s 0) (I6 60)), PO 12 (.call 52 [(.s 0), (I6 2)]), PO 13 (.mkSl 1 (.str []) 3 [(0, (.s 7)), (1, (.s 3)), (2, (.s 0))]), PO 14 (.call 51 [(.s 0), (.c (.str [58]))]), VS 1 2 0]) (.ret)), [.t 1]⟩
noncomputable def t_64 : List (Nat × Ctr) := [(52, c_62), (51, c_hJoin)]
theorem lk_64_52 : look t_64 52 = some c_62 := rfl
theorem lk_64_51 : look t_64 51 = some c_hJoin := rfl
noncomputable def c_64 : Ctr := mkF t_64 ir34 [.bor]
theorem s_64 : Sound Tryd.prog 34 c_64 := mkF_sound _ rfl (snd_cons s_62 (snd_cons s_hJoin snd_nil)) (by kernel_rfl : chkFn Tryd.prog 34 ir34 ir34_v = true)
theorem M_64 : c_64.modes = [.bor] := rfl
theorem Fl_64 : c_64.flat = true := rfl
attribute [go_sem] M_64 Fl_64
attribute [go_sem] lk_64_52 lk_64_51
theorem Fs_64 {n : Int} {y_ : (List UInt8)} (h : impl_sexagesimal n = some y_) : c_64.F [.int .i64 n] = ⟨true, .str y_, [.any]⟩ := by
 refine mkF_E rfl ?_
 dsimp only [impl_sexagesimal] at h
 obtain ⟨z1, h⟩ := ck_some h
 try simp only [go_sem, n1, n2, n3, n4] at z1
 all_goals
 obtain ⟨y_2, z2, h⟩ := bd_some h
 have fz2 := Fs_62 z2
 try simp only [go_sem, z1] at fz2
 obtain ⟨z3, h⟩ := ck_some h
 try simp only [go_sem, n1, n2, n3, n4, z1] at z3
 all_goals
 obtain ⟨y_4, z4, h⟩ := bd_some h
 have fz4 := Fs_62 z4
 try simp only [go_sem, z1, z3] at fz4
 obtain ⟨y_5, z5, h⟩ := bd_some h
 have fz5 := Fs_62 z5
 try simp only [go_sem, z1, z3] at fz5
 obtain ⟨y_6, z6, h⟩ := bd_some h
 have fz6 := Fs_hJoin z6
 try simp only [go_sem, z1, z3] at fz6
 obtain rfl := so_some h
 refine ⟨0, fun L hL => ?_⟩
 simp only [go_sem, ir34, z1, fz2, z3, fz4, fz5, fz6]


def ir35_v : List Nat := [0, 2]
def ir35 : AFn := ⟨1, 2, .seq (.region false [ VO 1 2 (.mov (I6 0))]) (.seq (.test false [ PM 3 0, PO 4 (.bin false .lss (.s 0) (I6 0))] (.s 0) (.seq (.region false [ PM 5 0, PO 6 (.un .neg (.s 0)), VS 1 2 0]) (.ret)) (.skip)) (.seq (.region false [ PM 7 0, VS 1 2 0]) (.ret))), [.t 1]⟩
noncomputable def t_65 : List (Nat × Ctr) := []
noncomputable def c_65 : Ctr := mkF t_65 ir35 [.bor]
theorem s_65 : Sound Tryd.prog 35 c_65 := mkF_sound _ rfl snd_nil (by kernel_rfl : chkFn Tryd.prog 35 ir35 ir35_v = true)
theorem M_65 : c_65.modes = [.bor] := rfl
theorem Fl_65 : c_65.flat = true := rfl
attribute [go_sem] M_65 Fl_65
theorem Fs_65 {n : Int} {y_ : Int} (h : impl_abs n = some y_) : c_65.F [.int .i64 n] = ⟨true, .int .i64 y_, [.any]⟩ := by
 refine mkF_E rfl ?_
 dsimp only [impl_abs] at h
 rcases it_some h with ⟨z1, h⟩ | ⟨z1, h⟩
 ·try simp only [go_sem, n1, n2, n3, n4] at z1
  all_goals
  obtain rfl := so_some h
  refine ⟨0, fun L hL => ?_⟩
  simp only [go_sem, ir35, z1]
 ·try simp only [go_sem, n1, n2, n3, n4] at z1
  all_goals
  obtain rfl := so_some h
  refine ⟨0, fun L hL => ?_⟩
  simp only [go_sem, ir35, z1]


def ir14_v : List Nat := [0, 1, 2, 3]
def ir14 : AFn := ⟨1, 4, .seq (.region false [ VO 1 1 (.box (.v 0)), VO 2 2 (.mov (.c (.str [])))]) (.seq (.test false [ PO 4 (.load true 5 (.v 1)), PO 5 (.call 20 [(.s 0)]), PO 6 (.un .not (.s 0))] (.s 0) (.seq (.region false [ VO 2 2 (.mov (.c (.str [])))]) (.ret)) (.skip)) (.seq (.region false [ VO 3 3 (.mov (.c (.str [32, 43])))]) (.seq (.test false [ PO 7 (.fldAddr 2 (.v 1)), PO 8 (.load false 1 (.s 0)), PO 9 (.bin false .lss (.s 0) (I6 0))] (.s 0) (.region false [ VO 3 3 (.mov (.c (.str [32, 45])))]) (.skip)) (.seq (.anyo 10 [ SO 0 10 (.fldAddr 1 (.v 1)), SO 1 11 (.load false 1 (.s 0)),
 SO 2 12 (.callp 34 [(.s 1)]), SO 3 13 (.mov (.v 3)), SO 4 14 (.bin false .add (.s 2) (.s 3)), SO 5 15 (.fldAddr 2 (.v 1)), SO 6 16 (.load false 1 (.s 5)), SO 7 17 (.callp 35 [(.s 6)]), SO 8 18 (.callp 34 [(.s 7)]), SO 9 19 (.bin false .add (.s 4) (.s 8)), VS 2 2 9] [] .skip) (.ret))))), [.t 2]⟩
noncomputable def t_66 : List (Nat × Ctr) := [(20, c_27), (34, c_64), (35, c_65)]
theorem lk_66_20 : look t_66 20 = some c_27 := rfl
theorem lk_66_34 : look t_66 34 = some c_64 := rfl
theorem lk_66_35 : look t_66 35 = some c_65 := rfl
noncomputable def c_66 : Ctr := mkF t_66 ir14 [.bor]
theorem s_66 : Sound Tryd.prog 14 c_66 := mkF_sound _ rfl (snd_cons s_27 (snd_cons s_64 (snd_cons s_65 snd_nil))) (by kernel_rfl : chkFn Tryd.prog 14 ir14 ir14_v = true)
theorem M_66 : c_66.modes = [.bor] := rfl
theorem Fl_66 : c_66.flat = true := rfl
attribute [go_sem] M_66 Fl_66
attribute [go_sem] lk_66_20 lk_66_34 lk_66_35
theorem Fs_66 {x : Star} {y_ : (List UInt8)} (h : impl_PositionText x = some y_) : c_66.F [Star_av x] = ⟨true, .str y_, [.any]⟩ := by
 refine mkF_E rfl ?_
 dsimp only [impl_PositionText] at h
 obtain ⟨y_1, z1, h⟩ := bd_some h
 have fz1 := Fs_27 z1
 try simp only [go_sem] at fz1
 rcases it_some h with ⟨z2, h⟩ | ⟨z2, h⟩
 ·try simp only [go_sem, n1, n2, n3, n4] at z2
  all_goals
  obtain rfl := so_some h
  refine ⟨0, fun L hL => ?_⟩
  simp only [go_sem, ir14, fz1, z2]
 ·try simp only [go_sem, n1, n2, n3, n4] at z2
  all_goals
  rcases it_some h with ⟨z3, h⟩ | ⟨z3, h⟩
  ·try simp only [go_sem, n1, n2, n3, n4, z2] at z3
   all_goals
   obtain ⟨y_4, z4, h⟩ := bd_some h
   have fz4 := Fs_64 z4
   try simp only [go_sem, z2, z3] at fz4
   obtain ⟨z5, h⟩ := ck_some h
   try simp only [go_sem, n1, n2, n3, n4, z2, z3] at z5
   all_goals
   obtain ⟨y_6, z6, h⟩ := bd_some h
   have fz6 := Fs_65 z6
   try simp only [go_sem, z2, z3, z5] at fz6
   obtain ⟨y_7, z7, h⟩ := bd_some h
   have fz7 := Fs_64 z7
   try simp only [go_sem, z2, z3, z5] at fz7
   obtain ⟨z8, h⟩ := ck_some h
   try simp only [go_sem, n1, n2, n3, n4, z2, z3, z5] at z8
   all_goals
   obtain rfl := so_some h
   refine ⟨0, fun L hL => ?_⟩
   simp only [go_sem, ir14, fz1, z2, z3, fz4, z5, fz6, fz7, z8]
  ·try simp only [go_sem, n1, n2, n3, n4, z2] at z3
   all_goals
   obtain ⟨y_9, z9, h⟩ := bd_some h
   have fz9 := Fs_64 z9
   try simp only [go_sem, z2, z3] at fz9
   obtain ⟨z10, h⟩ := ck_some h
   try simp only [go_sem, n1, n2, n3, n4, z2, z3] at z10
   all_goals
   obtain ⟨y_11, z11, h⟩ := bd_some h
   have fz11 := Fs_65 z11
   try simp only [go_sem, z2, z3, z10] at fz11
   obtain ⟨y_12, z12, h⟩ := bd_some h
   have fz12 := Fs_64 z12
   try simp only [go_sem, z2, z3, z10] at fz12
   obtain ⟨z13, h⟩ := ck_some h
   try simp only [go_sem, n1, n2, n3, n4, z2, z3, z10] at z13
   all_goals
   obtain rfl := so_some h
   refine ⟨0, fun L hL => ?_⟩
   simp only [go_sem, ir14, fz1, z2, z3, fz9, z10, fz11, fz12, z13]


end Go.Proofs.YtfmhpfmibopkeaaDoor
