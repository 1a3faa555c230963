/- Codes and contracts of the functions that RE reaches, and that their typed forms say what they do. No condition. -/
import Derived.Test.YtlnpnpjkpkdoeaaRET
import Derived.Test.YtlnpnpjkpkdoeaaEngSGI
import Derived.Test.YtlnpnpjkpkdoeaaRows
import Derived.WalkKit
namespace Go.Proofs.Ytlnpnpjkpkdoeaa
open Go Go.RowKit
set_option linter.unusedVariables false
set_option linter.unusedSimpArgs false
set_option maxRecDepth 10000

def ir57_b0 : IR := .seq (.region false [ VO 7 17 (.bin false .lss (.v 6) (.v 5))]) (.seq (.cond (.v 7) (.skip) (.exit 0)) (.seq (.block 1 (.seq (.region false [ PM 18 6, VS 2 3 0]) (.seq (.region false [ PM 19 0, PM 20 2, PO 21 (.ixStr (.s 1) (.s 0)), PO 22 (.bin false .geq (.s 0) (.c (.int .u8 (97)))), PO 23 (.mov (.s 0)), ⟨.push, 24, (some ((.s 0), true)), .mov (.v 0)⟩, ⟨.push, 25, (some ((.s 1), true)), .mov (.v 2)⟩, ⟨.push, 26, (some ((.s 2), true)), .ixStr (.s 1) (.s 0)⟩, ⟨.push, 27, (some ((.s 3), true)), .bin false .leq (.s 0) (.c (.int .u8 (122)))⟩, PO 28 (.pick (.s 4) (.s 0) (.c
 (.bool false))), VS 3 4 0]) (.seq (.region false [ PM 29 0, PM 30 2, PO 31 (.ixStr (.s 1) (.s 0)), PO 32 (.bin false .geq (.s 0) (.c (.int .u8 (48)))), PO 33 (.mov (.s 0)), ⟨.push, 34, (some ((.s 0), true)), .mov (.v 0)⟩, ⟨.push, 35, (some ((.s 1), true)), .mov (.v 2)⟩, ⟨.push, 36, (some ((.s 2), true)), .ixStr (.s 1) (.s 0)⟩, ⟨.push, 37, (some ((.s 3), true)), .bin false .leq (.s 0) (.c (.int .u8 (57)))⟩, PO 38 (.pick (.s 4) (.s 0) (.c (.bool false))), PO 39 (.mov (.s 0)), ⟨.push, 40, (some ((.s 0), false)), .mov (.v 0)⟩, ⟨.push, 41, (some ((.s 1), false)), .mov (.v 2)⟩, ⟨.push, 42, (some
 ((.s 2), false)), .ixStr (.s 1) (.s 0)⟩, ⟨.push, 43, (some ((.s 3), false)), .bin false .eql (.s 0) (.c (.int .u8 (45)))⟩, PO 44 (.pick (.s 4) (.c (.bool true)) (.s 0)), VS 4 5 0]) (.test false [ PM 45 3, PO 46 (.un .not (.s 0)), PO 47 (.mov (.s 0)), ⟨.push, 48, (some ((.s 0), true)), .mov (.v 2)⟩, ⟨.push, 49, (some ((.s 1), true)), .bin false .eql (.s 0) (I6 0)⟩, ⟨.push, 50, (some ((.s 2), true)), .mov (.s 0)⟩, ⟨.push, 51, (some ((.s 0), false)), .mov (.v 4)⟩, ⟨.push, 52, (some ((.s 1), false)), .un .not (.s 0)⟩, ⟨.push, 53, (some ((.s 5), true)), .pick (.s 2) (.c (.bool true)) (.s 0)⟩, PO 54
 (.pick (.s 6) (.s 0) (.c (.bool false)))] (.s 0) (.seq (.region false [ VO 1 2 (.mov (.c (.bool false)))]) (.ret)) (.skip)))))) (.region false [ PO 55 (.bin false .add (.v 6) (I6 1)), VS 6 16 0])))
def ir57_k0 : List Bool := [true, false, false, false, false, true, true, false]
def ir57_o0 : List Bool := [false, false, false, false, false, false, false, false]
def ir57_r0 : List Bool := [false, true, false, false, false, false, false, false]
def ir57_v : List Nat := [0, 2, 3, 4, 5, 15, 16, 17]
def ir57 : AFn := ⟨1, 8, .seq (.region false [ VO 1 2 (.mov (.c (.bool false)))]) (.seq (.test false [ PM 6 0, PO 7 (.len true (.s 0)), PO 8 (.bin false .lss (.s 0) (I6 1)), PO 9 (.mov (.s 0)), ⟨.push, 10, (some ((.s 0), false)), .mov (.v 0)⟩, ⟨.push, 11, (some ((.s 1), false)), .len true (.s 0)⟩, ⟨.push, 12, (some ((.s 2), false)), .bin false .gtr (.s 0) (I6 12)⟩, PO 13 (.pick (.s 3) (.c (.bool true)) (.s 0))] (.s 0) (.seq (.region false [ VO 1 2 (.mov (.c (.bool false)))]) (.ret)) (.skip)) (.seq (.seq (.region false [ PM 14 0, VO 5 15 (.len true (.s 0)), VO 6 16 (.mov (I6 0))]) (.block 0
 (.loop ir57_k0 ir57_o0 ir57_r0 ir57_b0))) (.seq (.region false [ VO 1 2 (.mov (.c (.bool true)))]) (.ret)))), [.t 1]⟩
noncomputable def t_0 : List (Nat × Ctr) := []
noncomputable def c_0 : Ctr := mkF t_0 ir57 [.bor]
theorem s_0 : Sound Try.prog 57 c_0 := mkF_sound _ rfl snd_nil (by kernel_rfl : chkFn Try.prog 57 ir57 ir57_v = true)
theorem M_0 : c_0.modes = [.bor] := rfl
theorem Fl_0 : c_0.flat = true := rfl
attribute [go_sem] M_0 Fl_0
def E_0_l1 (s_ : List UInt8) (t15 : Int) : Int → St
 | t16 => ⟨[.str s_, .any, .any, .any, .any, .int .i64 t15, .int .i64 t16, .any], [], [], true⟩
def R_0_l1 (s_ : List UInt8) (t15 : Int) : (Unit ⊕ Bool) → Res
 | .inl y => (.exit 0, ⟨[.any, .any, .any, .any, .any, .any, .any, .any], [], [], true⟩)
 | .inr y => (.ret, ⟨[.any, .bool y, .any, .any, .any, .any, .any, .any], [], [], true⟩)
theorem impl_IsName_l1_ex {s_ : List UInt8} {t15 : Int} {sgm_ : Int} {rho_ : Unit ⊕ Bool} (h : whileE (impl_IsName_l1 s_ t15) sgm_ = some rho_) : ∃ L0, ∀ L, L0 ≤ L → iter (exec (look t_0) L ir57_b0) ir57_k0 ir57_o0 ir57_r0 L (E_0_l1 s_ t15 sgm_) = R_0_l1 s_ t15 rho_ := by
 refine loop_ex (E := E_0_l1 s_ t15) (R := R_0_l1 s_ t15) (fun y => by first | (intro c; cases c) | (rcases y with y | y <;> (intro c; cases c)) | (rcases y with y | y | y <;> (intro c; cases c))) ?_ h
 clear h
 intro t16 o_ h
 dsimp only [impl_IsName_l1] at h
 rcases it_some h with ⟨z2, h⟩ | ⟨z2, h⟩
 ·try simp only [go_sem, n1, n2, n3, n4] at z2
  all_goals
  obtain ⟨z3, h⟩ := ck_some h
  try simp only [go_sem, n1, n2, n3, n4, z2] at z3
  all_goals
  rcases it_some h with ⟨z4, h⟩ | ⟨z4, h⟩
  ·try simp only [go_sem, n1, n2, n3, n4, z2, z3] at z4
   all_goals
   obtain rfl := so_some h
   refine ⟨0, fun L hL => ?_⟩
   simp only [go_sem, ir57, E_0_l1, R_0_l1, ir57_b0, ir57_k0, ir57_o0, ir57_r0, z2, z3, z4]
  ·try simp only [go_sem, n1, n2, n3, n4, z2, z3] at z4
   all_goals
   obtain rfl := so_some h
   refine ⟨0, fun L hL => ?_⟩
   simp only [go_sem, ir57, E_0_l1, R_0_l1, ir57_b0, ir57_k0, ir57_o0, ir57_r0, z2, z3, z4]
 ·try simp only [go_sem, n1, n2, n3, n4] at z2
  all_goals
  obtain rfl := so_some h
  refine ⟨0, fun L hL => ?_⟩
  simp only [go_sem, ir57, E_0_l1, R_0_l1, ir57_b0, ir57_k0, ir57_o0, ir57_r0, z2]

theorem Fs_0 {s_ : List UInt8} {y_ : Bool} (h : impl_IsName s_ = some y_) : c_0.F [.str s_] = ⟨true, .bool y_, [.any]⟩ := by
 refine mkF_E rfl ?_
 dsimp only [impl_IsName] at h
 rcases it_some h with ⟨z1, h⟩ | ⟨z1, h⟩
 ·try simp only [go_sem, n1, n2, n3, n4] at z1
  all_goals
  obtain rfl := so_some h
  refine ⟨0, fun L hL => ?_⟩
  simp only [go_sem, ir57, E_0_l1, R_0_l1, ir57_k0, ir57_o0, ir57_r0, z1]
 ·try simp only [go_sem, n1, n2, n3, n4] at z1
  all_goals
  obtain ⟨y_5, z5, h⟩ := bd_some h
  obtain ⟨Lz5, ez5⟩ := impl_IsName_l1_ex z5
  rcases y_5 with y_5a | y_5b
  ·dsimp only at h
   obtain rfl := so_some h
   refine ⟨Lz5, fun L hL => ?_⟩
   have ez5 := ez5 L (by omega)
   try simp only [go_sem, E_0_l1, R_0_l1, ir57_k0, ir57_o0, ir57_r0, z1] at ez5
   simp only [go_sem, ir57, E_0_l1, R_0_l1, ir57_k0, ir57_o0, ir57_r0, z1, ez5]
  ·dsimp only at h
   obtain rfl := so_some h
   refine ⟨Lz5, fun L hL => ?_⟩
   have ez5 := ez5 L (by omega)
   try simp only [go_sem, E_0_l1, R_0_l1, ir57_k0, ir57_o0, ir57_r0, z1] at ez5
   simp only [go_sem, ir57, E_0_l1, R_0_l1, ir57_k0, ir57_o0, ir57_r0, z1, ez5]


def ir21_v : List Nat := [0, 1, 2, 6]
def ir21 : AFn := ⟨3, 4, .seq (.region false [ VO 3 6 (.mov (.c (.bool false)))]) (.seq (.region false [ PM 7 0, PM 8 1, PO 9 (.bin false .geq (.s 1) (.s 0)), PO 10 (.mov (.s 0)), ⟨.push, 11, (some ((.s 0), true)), .mov (.v 0)⟩, ⟨.push, 12, (some ((.s 1), true)), .mov (.v 2)⟩, ⟨.push, 13, (some ((.s 2), true)), .bin false .leq (.s 1) (.s 0)⟩, PO 14 (.pick (.s 3) (.s 0) (.c (.bool false))), VS 3 6 0]) (.ret)), [.t 3]⟩
noncomputable def t_1 : List (Nat × Ctr) := []
noncomputable def c_1 : Ctr := mkF t_1 ir21 [.bor, .bor, .bor]
theorem s_1 : Sound Try.prog 21 c_1 := mkF_sound _ rfl snd_nil (by kernel_rfl : chkFn Try.prog 21 ir21 ir21_v = true)
theorem M_1 : c_1.modes = [.bor, .bor, .bor] := rfl
theorem Fl_1 : c_1.flat = true := rfl
attribute [go_sem] M_1 Fl_1
theorem Fs_1 {n : Int} {low : Int} {high : Int} {y_ : Bool} (h : impl_in n low high = some y_) : c_1.F [.int .i64 n, .int .i64 low, .int .i64 high] = ⟨true, .bool y_, [.any, .any, .any]⟩ := by
 refine mkF_E rfl ?_
 dsimp only [impl_in] at h
 obtain rfl := so_some h
 refine ⟨0, fun L hL => ?_⟩
 simp only [go_sem, ir21]


def ir41_v : List Nat := [0, 1, 2, 3, 4]
def ir41 : AFn := ⟨1, 5, .seq (.region false [ VO 1 1 (.box (.v 0)), VO 2 2 (.mov (.c (.bool false)))]) (.seq (.region false [ PO 5 (.fldAddr 1 (.v 1)), PO 6 (.load false 1 (.s 0)), PO 7 (.bin false .geq (.s 0) (I6 0)), PO 8 (.mov (.s 0)), ⟨.push, 9, (some ((.s 0), true)), .fldAddr 1 (.v 1)⟩, ⟨.push, 10, (some ((.s 1), true)), .load false 1 (.s 0)⟩, ⟨.push, 11, (some ((.s 2), true)), .fldAddr 2 (.v 1)⟩, ⟨.push, 12, (some ((.s 3), true)), .load false 1 (.s 0)⟩, ⟨.push, 13, (some ((.s 4), true)), .bin false .leq (.s 2) (.s 0)⟩, PO 14 (.pick (.s 5) (.s 0) (.c (.bool false))), PO 15 (.mov (.s 0)),
 ⟨.push, 16, (some ((.s 0), true)), .fldAddr 2 (.v 1)⟩, ⟨.push, 17, (some ((.s 1), true)), .load false 1 (.s 0)⟩, ⟨.push, 18, (some ((.s 2), true)), .bin false .leq (.s 0) (I6 20000)⟩, PO 19 (.pick (.s 3) (.s 0) (.c (.bool false))), VS 3 3 0]) (.seq (.region false [ PO 20 (.fldAddr 3 (.v 1)), PO 21 (.load false 1 (.s 0)), PO 22 (.bin false .geq (.s 0) (I6 0)), PO 23 (.mov (.s 0)), ⟨.push, 24, (some ((.s 0), true)), .fldAddr 3 (.v 1)⟩, ⟨.push, 25, (some ((.s 1), true)), .load false 1 (.s 0)⟩, ⟨.push, 26, (some ((.s 2), true)), .fldAddr 4 (.v 1)⟩, ⟨.push, 27, (some ((.s 3), true)), .load false 1
 (.s 0)⟩, ⟨.push, 28, (some ((.s 4), true)), .bin false .leq (.s 2) (.s 0)⟩, PO 29 (.pick (.s 5) (.s 0) (.c (.bool false))), PO 30 (.mov (.s 0)), ⟨.push, 31, (some ((.s 0), true)), .fldAddr 4 (.v 1)⟩, ⟨.push, 32, (some ((.s 1), true)), .load false 1 (.s 0)⟩, ⟨.push, 33, (some ((.s 2), true)), .bin false .leq (.s 0) (I6 1000000)⟩, PO 34 (.pick (.s 3) (.s 0) (.c (.bool false))), VS 4 4 0]) (.seq (.region false [ PO 35 (.fldAddr 0 (.v 1)), PO 36 (.load false 1 (.s 0)), PO 37 (.call 57 [(.s 0)]), PO 38 (.mov (.s 0)), ⟨.push, 39, (some ((.s 0), true)), .mov (.v 3)⟩, PO 40 (.pick (.s 1) (.s 0) (.c
 (.bool false))), PO 41 (.mov (.s 0)), ⟨.push, 42, (some ((.s 0), true)), .mov (.v 4)⟩, PO 43 (.pick (.s 1) (.s 0) (.c (.bool false))), PO 44 (.mov (.s 0)), ⟨.push, 45, (some ((.s 0), true)), .fldAddr 5 (.v 1)⟩, ⟨.push, 46, (some ((.s 1), true)), .load false 1 (.s 0)⟩, ⟨.push, 47, (some ((.s 2), true)), .call 21 [(.s 0), (I6 0), (I6 3)]⟩, PO 48 (.pick (.s 3) (.s 0) (.c (.bool false))), VS 2 2 0]) (.ret)))), [.t 2]⟩
noncomputable def t_2 : List (Nat × Ctr) := [(57, c_0), (21, c_1)]
theorem lk_2_57 : look t_2 57 = some c_0 := rfl
theorem lk_2_21 : look t_2 21 = some c_1 := rfl
noncomputable def c_2 : Ctr := mkF t_2 ir41 [.bor]
theorem s_2 : Sound Try.prog 41 c_2 := mkF_sound _ rfl (snd_cons s_0 (snd_cons s_1 snd_nil)) (by kernel_rfl : chkFn Try.prog 41 ir41 ir41_v = true)
theorem M_2 : c_2.modes = [.bor] := rfl
theorem Fl_2 : c_2.flat = true := rfl
attribute [go_sem] M_2 Fl_2
attribute [go_sem] lk_2_57 lk_2_21
theorem Fs_2 {r : Rule} {y_ : Bool} (h : impl_isRule r = some y_) : c_2.F [Rule_av r] = ⟨true, .bool y_, [.any]⟩ := by
 refine mkF_E rfl ?_
 dsimp only [impl_isRule] at h
 obtain ⟨y_1, z1, h⟩ := bd_some h
 have fz1 := Fs_0 z1
 try simp only [go_sem] at fz1
 obtain ⟨z2, h⟩ := ck_some h
 rcases or_split z2 with ⟨gz2, z2⟩ | gz2
 ·try simp only [go_sem, n1, n2, n3, n4] at gz2
  all_goals
  obtain ⟨y_2, hz2⟩ := Option.isSome_iff_exists.1 z2
  have fz2 := Fs_1 hz2
  try simp only [go_sem, n1, n2, n3, n4, gz2] at hz2
  all_goals
  try simp only [go_sem, gz2] at fz2
  obtain rfl := so_some h
  refine ⟨0, fun L hL => ?_⟩
  simp only [go_sem, ir41, fz1, gz2, hz2, fz2]
 ·try simp only [go_sem, n1, n2, n3, n4] at gz2
  all_goals
  obtain rfl := so_some h
  refine ⟨0, fun L hL => ?_⟩
  simp only [go_sem, ir41, fz1, gz2]


def ir40_v : List Nat := [0, 1, 2]
def ir40 : AFn := ⟨1, 3, .seq (.region false [ VO 1 1 (.box (.v 0)), VO 2 2 (.mov (.c (.bool false)))]) (.seq (.region false [ PO 3 (.load true 6 (.v 1)), PO 4 (.call 41 [(.s 0)]), PO 5 (.un .not (.s 0)), VS 2 2 0]) (.ret)), [.t 2]⟩
noncomputable def t_3 : List (Nat × Ctr) := [(41, c_2)]
theorem lk_3_41 : look t_3 41 = some c_2 := rfl
noncomputable def c_3 : Ctr := mkF t_3 ir40 [.bor]
theorem s_3 : Sound Try.prog 40 c_3 := mkF_sound _ rfl (snd_cons s_2 snd_nil) (by kernel_rfl : chkFn Try.prog 40 ir40 ir40_v = true)
theorem M_3 : c_3.modes = [.bor] := rfl
theorem Fl_3 : c_3.flat = true := rfl
attribute [go_sem] M_3 Fl_3
attribute [go_sem] lk_3_41
theorem Fs_3 {r : Rule} {y_ : Bool} (h : impl_ValidRules_c1 r = some y_) : c_3.F [Rule_av r] = ⟨true, .bool y_, [.any]⟩ := by
 refine mkF_E rfl ?_
 dsimp only [impl_ValidRules_c1] at h
 obtain ⟨y_1, z1, h⟩ := bd_some h
 have fz1 := Fs_2 z1
 try simp only [go_sem] at fz1
 obtain rfl := so_some h
 refine ⟨0, fun L hL => ?_⟩
 simp only [go_sem, ir40, fz1]


def ir56_b0 : IR := .seq (.region false [ VO 6 9 (.bin false .lss (.v 5) (.v 4))]) (.seq (.cond (.v 6) (.skip) (.exit 0)) (.seq (.block 1 (.seq (.region false [ PM 10 5, VS 3 5 0]) (.test false [ PM 11 1, PM 12 0, PM 13 3, PO 14 (.ixAddr 6 (.s 1) (.s 0)), PO 15 (.load true 6 (.s 0)), PO 16 (.callv (.s 4) [(.s 0)])] (.s 0) (.seq (.region false [ PM 17 3, VS 2 4 0]) (.ret)) (.skip)))) (.region false [ PO 18 (.bin false .add (.v 5) (I6 1)), VS 5 8 0])))
def ir56_k0 : List Bool := [true, true, false, false, true, true, false]
def ir56_o0 : List Bool := [false, false, false, false, false, false, false]
def ir56_r0 : List Bool := [false, false, true, false, false, false, false]
def ir56_v : List Nat := [0, 1, 4, 5, 7, 8, 9]
def ir56 : AFn := ⟨2, 7, .seq (.region false [ VO 2 4 (.mov (I6 0))]) (.seq (.seq (.region false [ PM 6 0, VO 4 7 (.len false (.s 0)), VO 5 8 (.mov (I6 0))]) (.block 0 (.loop ir56_k0 ir56_o0 ir56_r0 ir56_b0))) (.seq (.region false [ VO 2 4 (.mov (.c (.int .i64 (-1))))]) (.ret))), [.t 2]⟩
noncomputable def t_4 : List (Nat × Ctr) := [(40, c_3)]
theorem lk_4_40 : look t_4 40 = some c_3 := rfl
noncomputable def c_4 : Ctr := mkF t_4 ir56 [.bor, .bor]
theorem s_4 : Sound Try.prog 56 c_4 := mkF_sound _ rfl (snd_cons s_3 snd_nil) (by kernel_rfl : chkFn Try.prog 56 ir56 ir56_v = true)
theorem M_4 : c_4.modes = [.bor, .bor] := rfl
theorem Fl_4 : c_4.flat = true := rfl
attribute [go_sem] M_4 Fl_4
attribute [go_sem] lk_4_40
def E_4_l1 (s_ : List Rule) (t7 : Int) : Int → St
 | t8 => ⟨[.sl 6 (List.map Rule_av s_), .fn (.func 40) [] [], .any, .any, .int .i64 t7, .int .i64 t8, .any], [], [], true⟩
def R_4_l1 (s_ : List Rule) (t7 : Int) : (Unit ⊕ Int) → Res
 | .inl y => (.exit 0, ⟨[.any, .any, .any, .any, .any, .any, .any], [], [], true⟩)
 | .inr y => (.ret, ⟨[.any, .any, .int .i64 y, .any, .any, .any, .any], [], [], true⟩)
theorem slices_IndexFunc_impl_Rule_impl_Rule__impl_ValidRules_c1_l1_ex {s_ : List Rule} {t7 : Int} {sgm_ : Int} {rho_ : Unit ⊕ Int} (h : whileE (slices_IndexFunc_impl_Rule_impl_Rule__impl_ValidRules_c1_l1 s_ t7) sgm_ = some rho_) : ∃ L0, ∀ L, L0 ≤ L → iter (exec (look t_4) L ir56_b0) ir56_k0 ir56_o0 ir56_r0 L (E_4_l1 s_ t7 sgm_) = R_4_l1 s_ t7 rho_ := by
 refine loop_ex (E := E_4_l1 s_ t7) (R := R_4_l1 s_ t7) (fun y => by first | (intro c; cases c) | (rcases y with y | y <;> (intro c; cases c)) | (rcases y with y | y | y <;> (intro c; cases c))) ?_ h
 clear h
 intro t8 o_ h
 dsimp only [slices_IndexFunc_impl_Rule_impl_Rule__impl_ValidRules_c1_l1] at h
 rcases it_some h with ⟨z1, h⟩ | ⟨z1, h⟩
 ·try simp only [go_sem, n1, n2, n3, n4] at z1
  all_goals
  obtain ⟨z2, h⟩ := ck_some h
  have lz2 := ix_lt z2
  have xz2 := getD_mapD Rule_av s_ lz2
  try simp only [go_sem] at lz2
  try simp only [go_sem] at xz2
  try simp only [go_sem, n1, n2, n3, n4, z1] at z2
  all_goals
  obtain ⟨y_3, z3, h⟩ := bd_some h
  have fz3 := Fs_3 z3
  try simp only [go_sem, z1, z2] at fz3
  rcases it_some h with ⟨z4, h⟩ | ⟨z4, h⟩
  ·try simp only [go_sem, n1, n2, n3, n4, z1, z2] at z4
   all_goals
   obtain rfl := so_some h
   refine ⟨0, fun L hL => ?_⟩
   simp only [go_sem, ir56, E_4_l1, R_4_l1, ir56_b0, ir56_k0, ir56_o0, ir56_r0, z1, z2, lz2, xz2, fz3, z4]
  ·try simp only [go_sem, n1, n2, n3, n4, z1, z2] at z4
   all_goals
   obtain rfl := so_some h
   refine ⟨0, fun L hL => ?_⟩
   simp only [go_sem, ir56, E_4_l1, R_4_l1, ir56_b0, ir56_k0, ir56_o0, ir56_r0, z1, z2, lz2, xz2, fz3, z4]
 ·try simp only [go_sem, n1, n2, n3, n4] at z1
  all_goals
  obtain rfl := so_some h
  refine ⟨0, fun L hL => ?_⟩
  simp only [go_sem, ir56, E_4_l1, R_4_l1, ir56_b0, ir56_k0, ir56_o0, ir56_r0, z1]

theorem Fs_4 {s_ : List Rule} {y_ : Int} (h : slices_IndexFunc_impl_Rule_impl_Rule__impl_ValidRules_c1 s_ = some y_) : c_4.F [.sl 6 (List.map Rule_av s_), .fn (.func 40) [] []] = ⟨true, .int .i64 y_, [.any, .any]⟩ := by
 refine mkF_E rfl ?_
 dsimp only [slices_IndexFunc_impl_Rule_impl_Rule__impl_ValidRules_c1] at h
 obtain ⟨y_5, z5, h⟩ := bd_some h
 obtain ⟨Lz5, ez5⟩ := slices_IndexFunc_impl_Rule_impl_Rule__impl_ValidRules_c1_l1_ex z5
 rcases y_5 with y_5a | y_5b
 ·dsimp only at h
  obtain rfl := so_some h
  refine ⟨Lz5, fun L hL => ?_⟩
  have ez5 := ez5 L (by omega)
  try simp only [go_sem, E_4_l1, R_4_l1, ir56_k0, ir56_o0, ir56_r0] at ez5
  simp only [go_sem, ir56, E_4_l1, R_4_l1, ir56_k0, ir56_o0, ir56_r0, ez5]
 ·dsimp only at h
  obtain rfl := so_some h
  refine ⟨Lz5, fun L hL => ?_⟩
  have ez5 := ez5 L (by omega)
  try simp only [go_sem, E_4_l1, R_4_l1, ir56_k0, ir56_o0, ir56_r0] at ez5
  simp only [go_sem, ir56, E_4_l1, R_4_l1, ir56_k0, ir56_o0, ir56_r0, ez5]


def ir39_v : List Nat := [0, 1, 4]
def ir39 : AFn := ⟨2, 3, .seq (.region false [ VO 2 4 (.mov (.c (.bool false)))]) (.seq (.region false [ PM 5 0, PM 6 1, PO 7 (.call 56 [(.s 1), (.s 0)]), PO 8 (.bin false .geq (.s 0) (I6 0)), VS 2 4 0]) (.ret)), [.t 2]⟩
noncomputable def t_5 : List (Nat × Ctr) := [(56, c_4)]
theorem lk_5_56 : look t_5 56 = some c_4 := rfl
noncomputable def c_5 : Ctr := mkF t_5 ir39 [.bor, .bor]
theorem s_5 : Sound Try.prog 39 c_5 := mkF_sound _ rfl (snd_cons s_4 snd_nil) (by kernel_rfl : chkFn Try.prog 39 ir39 ir39_v = true)
theorem M_5 : c_5.modes = [.bor, .bor] := rfl
theorem Fl_5 : c_5.flat = true := rfl
attribute [go_sem] M_5 Fl_5
attribute [go_sem] lk_5_56
theorem Fs_5 {s_ : List Rule} {y_ : Bool} (h : slices_ContainsFunc_impl_Rule_impl_Rule__impl_ValidRules_c1 s_ = some y_) : c_5.F [.sl 6 (List.map Rule_av s_), .fn (.func 40) [] []] = ⟨true, .bool y_, [.any, .any]⟩ := by
 refine mkF_E rfl ?_
 dsimp only [slices_ContainsFunc_impl_Rule_impl_Rule__impl_ValidRules_c1] at h
 obtain ⟨y_1, z1, h⟩ := bd_some h
 have fz1 := Fs_4 z1
 try simp only [go_sem] at fz1
 obtain rfl := so_some h
 refine ⟨0, fun L hL => ?_⟩
 simp only [go_sem, ir39, fz1]


def ir20_v : List Nat := [0, 2]
def ir20 : AFn := ⟨1, 2, .seq (.region false [ VO 1 2 (.mov (.c (.bool false)))]) (.seq (.region false [ PM 3 0, PO 4 (.len false (.s 0)), PO 5 (.bin false .leq (.s 0) (I6 12)), PO 6 (.mov (.s 0)), ⟨.push, 7, (some ((.s 0), true)), .mov (.v 0)⟩, ⟨.push, 8, (some ((.s 1), true)), .call 39 [(.s 0), (.c (.fn (.func 40) [] []))]⟩, ⟨.push, 9, (some ((.s 2), true)), .un .not (.s 0)⟩, PO 10 (.pick (.s 3) (.s 0) (.c (.bool false))), VS 1 2 0]) (.ret)), [.t 1]⟩
noncomputable def t_6 : List (Nat × Ctr) := [(39, c_5)]
theorem lk_6_39 : look t_6 39 = some c_5 := rfl
noncomputable def c_6 : Ctr := mkF t_6 ir20 [.bor]
theorem s_6 : Sound Try.prog 20 c_6 := mkF_sound _ rfl (snd_cons s_5 snd_nil) (by kernel_rfl : chkFn Try.prog 20 ir20 ir20_v = true)
theorem M_6 : c_6.modes = [.bor] := rfl
theorem Fl_6 : c_6.flat = true := rfl
attribute [go_sem] M_6 Fl_6
attribute [go_sem] lk_6_39
theorem Fs_6 {list : List Rule} {y_ : Bool} (h : impl_ValidRules list = some y_) : c_6.F [.sl 6 (List.map Rule_av list)] = ⟨true, .bool y_, [.any]⟩ := by
 refine mkF_E rfl ?_
 dsimp only [impl_ValidRules] at h
 obtain ⟨z1, h⟩ := ck_some h
 rcases or_split z1 with ⟨gz1, z1⟩ | gz1
 ·try simp only [go_sem, n1, n2, n3, n4] at gz1
  all_goals
  obtain ⟨y_1, hz1⟩ := Option.isSome_iff_exists.1 z1
  have fz1 := Fs_5 hz1
  try simp only [go_sem, n1, n2, n3, n4, gz1] at hz1
  all_goals
  try simp only [go_sem, gz1] at fz1
  obtain rfl := so_some h
  refine ⟨0, fun L hL => ?_⟩
  simp only [go_sem, ir20, gz1, hz1, fz1]
 ·try simp only [go_sem, n1, n2, n3, n4] at gz1
  all_goals
  obtain rfl := so_some h
  refine ⟨0, fun L hL => ?_⟩
  simp only [go_sem, ir20, gz1]


def ir22_v : List Nat := [0, 2]
def ir22 : AFn := ⟨1, 2, .seq (.region false [ VO 1 2 (.mov (I6 0))]) (.seq (.region false [ PM 3 0, PO 4 (.len false (.s 0)), VS 1 2 0]) (.ret)), [.t 1]⟩
noncomputable def t_7 : List (Nat × Ctr) := []
noncomputable def c_7 : Ctr := mkF t_7 ir22 [.bor]
theorem s_7 : Sound Try.prog 22 c_7 := mkF_sound _ rfl snd_nil (by kernel_rfl : chkFn Try.prog 22 ir22 ir22_v = true)
theorem M_7 : c_7.modes = [.bor] := rfl
theorem Fl_7 : c_7.flat = true := rfl
attribute [go_sem] M_7 Fl_7
theorem Fs_7 {list : List Rule} {y_ : Int} (h : impl_count_impl_Rule list = some y_) : c_7.F [.sl 6 (List.map Rule_av list)] = ⟨true, .int .i64 y_, [.any]⟩ := by
 refine mkF_E rfl ?_
 dsimp only [impl_count_impl_Rule] at h
 obtain rfl := so_some h
 refine ⟨0, fun L hL => ?_⟩
 simp only [go_sem, ir22]


def ir13_v : List Nat := [0, 1, 2, 6, 7, 8, 9, 10, 11]
def ir13 : AFn := ⟨3, 9, .seq (.region false [ VO 3 6 (.mov (.c (.bool false))), VO 4 7 (.mov (I6 0))]) (.seq (.block 0 (.test false [ PM 13 0, PO 14 (.call 20 [(.s 0)]), PO 15 (.un .not (.s 0)), PO 12 (.mov (.s 0))] (.s 0) (.seq (.region false [ VO 3 6 (.mov (.c (.bool false))), VO 4 7 (.mov (I6 1))]) (.ret)) (.test false [ PM 17 1, PM 18 0, PO 19 (.call 22 [(.s 0)]), PO 20 (.bin false .sub (.s 0) (I6 1)), PO 21 (.call 21 [(.s 3), (I6 0), (.s 0)]), PO 22 (.un .not (.s 0)), PO 23 (.mov (.s 0)), ⟨.push, 24, (some ((.s 0), false)), .mov (.v 2)⟩, ⟨.push, 25, (some ((.s 1), false)), .mov (.v 0)⟩,
 ⟨.push, 26, (some ((.s 2), false)), .call 22 [(.s 0)]⟩, ⟨.push, 27, (some ((.s 3), false)), .bin false .sub (.s 0) (I6 1)⟩, ⟨.push, 28, (some ((.s 4), false)), .call 21 [(.s 3), (I6 0), (.s 0)]⟩, ⟨.push, 29, (some ((.s 5), false)), .un .not (.s 0)⟩, PO 30 (.pick (.s 6) (.c (.bool true)) (.s 0)), PO 16 (.mov (.s 0))] (.s 0) (.seq (.region false [ VO 3 6 (.mov (.c (.bool false))), VO 4 7 (.mov (I6 2))]) (.ret)) (.skip)))) (.seq (.anyo 8 [ SO 0 31 (.safe [8, 9] (.mov (.v 0))), SO 1 32 (.flat (.mov (.v 1))), SO 2 33 (.safe [8, 9] (.ixAddr 6 (.s 0) (.s 1))), SO 3 34 (.safe [8, 9] (.load true 6 (.s
 2))), SO 4 35 (.safe [8, 9] (.mov (.v 0))), SO 5 36 (.flat (.mov (.v 2))), SO 6 37 (.safe [8, 9] (.ixAddr 6 (.s 4) (.s 5))), SO 7 38 (.safe [8, 9] (.load true 6 (.s 6))), VO 5 8 (.alloc (.agg [.str [], .int .i64 (0), .int .i64 (0), .int .i64 (0), .int .i64 (0), .int .i64 (0)])), VO 6 9 (.alloc (.agg [.str [], .int .i64 (0), .int .i64 (0), .int .i64 (0), .int .i64 (0), .int .i64 (0)])), ⟨.no, 0, none, .store 6 (.v 5) (.s 3)⟩, ⟨.no, 0, none, .store 6 (.v 6) (.s 7)⟩] [[0, 1, 2, 3, 5, 4, 6, 7, 8, 9, 10, 11], [0, 1, 2, 3, 5, 4, 6, 7, 9, 8, 10, 11], [0, 1, 2, 3, 5, 4, 6, 8, 9, 7, 10, 11], [0, 1, 2,
 3, 5, 4, 6, 8, 9, 10, 7, 11], [0, 1, 2, 3, 5, 4, 6, 9, 8, 7, 10, 11], [0, 1, 2, 3, 5, 4, 6, 9, 8, 10, 7, 11], [0, 1, 2, 3, 5, 4, 8, 9, 6, 7, 10, 11], [0, 1, 2, 3, 5, 4, 8, 9, 6, 10, 7, 11], [0, 1, 2, 3, 5, 4, 8, 9, 10, 6, 7, 11], [0, 1, 2, 3, 5, 4, 9, 8, 6, 7, 10, 11], [0, 1, 2, 3, 5, 4, 9, 8, 6, 10, 7, 11], [0, 1, 2, 3, 5, 4, 9, 8, 10, 6, 7, 11], [0, 1, 2, 3, 5, 8, 9, 4, 6, 7, 10, 11], [0, 1, 2, 3, 5, 8, 9, 4, 6, 10, 7, 11], [0, 1, 2, 3, 5, 8, 9, 4, 10, 6, 7, 11], [0, 1, 2, 3, 5, 8, 9, 10, 4, 6, 7, 11], [0, 1, 2, 3, 5, 9, 8, 4, 6, 7, 10, 11], [0, 1, 2, 3, 5, 9, 8, 4, 6, 10, 7, 11], [0, 1, 2,
 3, 5, 9, 8, 4, 10, 6, 7, 11], [0, 1, 2, 3, 5, 9, 8, 10, 4, 6, 7, 11]] .skip) (.seq (.region false [ PO 39 (.fldAddr 1 (.v 5)), PO 40 (.load false 1 (.s 0)), PO 41 (.fldAddr 1 (.v 6)), PO 42 (.load false 1 (.s 0)), PO 43 (.minmax true [(.s 2), (.s 0)]), PO 44 (.fldAddr 2 (.v 5)), PO 45 (.load false 1 (.s 0)), PO 46 (.fldAddr 2 (.v 6)), PO 47 (.load false 1 (.s 0)), PO 48 (.minmax false [(.s 2), (.s 0)]), PO 49 (.bin false .leq (.s 5) (.s 0)), VS 7 10 0]) (.seq (.region false [ PO 50 (.fldAddr 3 (.v 5)), PO 51 (.load false 1 (.s 0)), PO 52 (.fldAddr 3 (.v 6)), PO 53 (.load false 1 (.s 0)), PO 54
 (.minmax true [(.s 2), (.s 0)]), PO 55 (.fldAddr 4 (.v 5)), PO 56 (.load false 1 (.s 0)), PO 57 (.fldAddr 4 (.v 6)), PO 58 (.load false 1 (.s 0)), PO 59 (.minmax false [(.s 2), (.s 0)]), PO 60 (.bin false .leq (.s 5) (.s 0)), VS 8 11 0]) (.seq (.region false [ PM 61 7, PO 62 (.mov (.s 0)), ⟨.push, 63, (some ((.s 0), true)), .mov (.v 8)⟩, PO 64 (.pick (.s 1) (.s 0) (.c (.bool false))), PO 65 (.mov (.s 0)), ⟨.push, 66, (some ((.s 0), true)), .fldAddr 5 (.v 5)⟩, ⟨.push, 67, (some ((.s 1), true)), .load false 1 (.s 0)⟩, ⟨.push, 68, (some ((.s 2), true)), .fldAddr 5 (.v 6)⟩, ⟨.push, 69, (some ((.s
 3), true)), .load false 1 (.s 0)⟩, ⟨.push, 70, (some ((.s 4), true)), .bin false .eql (.s 2) (.s 0)⟩, ⟨.push, 71, (some ((.s 5), true)), .mov (.s 0)⟩, ⟨.push, 72, (some ((.s 0), false)), .fldAddr 5 (.v 5)⟩, ⟨.push, 73, (some ((.s 1), false)), .load false 1 (.s 0)⟩, ⟨.push, 74, (some ((.s 2), false)), .bin false .eql (.s 0) (I6 0)⟩, ⟨.push, 75, (some ((.s 9), true)), .pick (.s 3) (.c (.bool true)) (.s 0)⟩, ⟨.push, 76, (some ((.s 10), true)), .mov (.s 0)⟩, ⟨.push, 77, (some ((.s 0), false)), .fldAddr 5 (.v 6)⟩, ⟨.push, 78, (some ((.s 1), false)), .load false 1 (.s 0)⟩, ⟨.push, 79, (some ((.s 2),
 false)), .bin false .eql (.s 0) (I6 0)⟩, ⟨.push, 80, (some ((.s 14), true)), .pick (.s 3) (.c (.bool true)) (.s 0)⟩, PO 81 (.pick (.s 15) (.s 0) (.c (.bool false))), VS 3 6 0, VO 4 7 (.mov (I6 0))]) (.ret)))))), [.t 3, .t 4]⟩
noncomputable def t_8 : List (Nat × Ctr) := [(20, c_6), (22, c_7), (21, c_1)]
theorem lk_8_20 : look t_8 20 = some c_6 := rfl
theorem lk_8_22 : look t_8 22 = some c_7 := rfl
theorem lk_8_21 : look t_8 21 = some c_1 := rfl
noncomputable def c_8 : Ctr := mkF t_8 ir13 [.bor, .bor, .bor]
theorem s_8 : Sound Try.prog 13 c_8 := mkF_sound _ rfl (snd_cons s_6 (snd_cons s_7 (snd_cons s_1 snd_nil))) (by kernel_rfl : chkFn Try.prog 13 ir13 ir13_v = true)
theorem M_8 : c_8.modes = [.bor, .bor, .bor] := rfl
theorem Fl_8 : c_8.flat = true := rfl
attribute [go_sem] M_8 Fl_8
attribute [go_sem] lk_8_20 lk_8_22 lk_8_21
theorem Fs_8 {list : List Rule} {a : Int} {b : Int} {y_ : Bool × Int} (h : impl_RulesOverlap list a b = some y_) : c_8.F [.sl 6 (List.map Rule_av list), .int .i64 a, .int .i64 b] = ⟨true, .tup [.bool y_.1, .int .i64 y_.2], [.any, .any, .any]⟩ := by
 refine mkF_E rfl ?_
 dsimp only [impl_RulesOverlap] at h
 obtain ⟨y_1, z1, h⟩ := bd_some h
 have fz1 := Fs_6 z1
 try simp only [go_sem] at fz1
 rcases it_some h with ⟨z2, h⟩ | ⟨z2, h⟩
 ·try simp only [go_sem, n1, n2, n3, n4] at z2
  all_goals
  obtain rfl := so_some h
  refine ⟨0, fun L hL => ?_⟩
  simp only [go_sem, ir13, fz1, z2]
 ·try simp only [go_sem, n1, n2, n3, n4] at z2
  all_goals
  obtain ⟨y_3, z3, h⟩ := bd_some h
  have fz3 := Fs_7 z3
  try simp only [go_sem, z2] at fz3
  obtain ⟨y_4, z4, h⟩ := bd_some h
  have fz4 := Fs_1 z4
  try simp only [go_sem, z2] at fz4
  obtain ⟨z6, h⟩ := ck_some h
  rcases or_split z6 with ⟨gz6, z6⟩ | gz6
  ·try simp only [go_sem, n1, n2, n3, n4, z2] at gz6
   all_goals
   obtain ⟨y_6, hz6⟩ := Option.isSome_iff_exists.1 z6
   have fz6 := Fs_1 hz6
   try simp only [go_sem, n1, n2, n3, n4, z2, gz6] at hz6
   all_goals
   try simp only [go_sem, z2, gz6] at fz6
   rcases it_some h with ⟨z7, h⟩ | ⟨z7, h⟩
   ·try simp only [go_sem, n1, n2, n3, n4, z2, gz6, hz6] at z7
    all_goals
    obtain rfl := so_some h
    refine ⟨0, fun L hL => ?_⟩
    simp only [go_sem, ir13, fz1, z2, fz3, fz4, gz6, hz6, fz6, z7]
   ·try simp only [go_sem, n1, n2, n3, n4, z2, gz6, hz6] at z7
    all_goals
    obtain ⟨z8, h⟩ := ck_some h
    have lz8 := ix_lt z8
    have xz8 := getD_mapD Rule_av list lz8
    try simp only [go_sem] at lz8
    try simp only [go_sem] at xz8
    try simp only [go_sem, n1, n2, n3, n4, z2, gz6, hz6, z7] at z8
    all_goals
    obtain ⟨z9, h⟩ := ck_some h
    have lz9 := ix_lt z9
    have xz9 := getD_mapD Rule_av list lz9
    try simp only [go_sem] at lz9
    try simp only [go_sem] at xz9
    try simp only [go_sem, n1, n2, n3, n4, z2, gz6, hz6, z7, z8] at z9
    all_goals
    obtain rfl := so_some h
    refine ⟨0, fun L hL => ?_⟩
    simp only [go_sem, ir13, fz1, z2, fz3, fz4, gz6, hz6, fz6, z7, z8, lz8, xz8, z9, lz9, xz9]
  ·have gz6n := no_f gz6
   have gz6nn := no_t gz6n
   try simp only [go_sem, n1, n2, n3, n4, z2] at gz6nn
   all_goals
   rcases it_some h with ⟨z7, h⟩ | ⟨z7, h⟩
   ·try simp only [go_sem, n1, n2, n3, n4, z2, gz6nn] at z7
    all_goals
    obtain rfl := so_some h
    refine ⟨0, fun L hL => ?_⟩
    simp only [go_sem, ir13, fz1, z2, fz3, fz4, gz6nn, z7]
   ·try simp only [go_sem, n1, n2, n3, n4, z2, gz6nn] at z7
    all_goals
    (simp_all)


def ir4_v : List Nat := [0, 2]
def ir4 : AFn := ⟨1, 2, .seq (.region false [ VO 1 2 (.mov (.c (.bool false)))]) (.seq (.region false [ PM 3 0, PO 4 (.len false (.s 0)), PO 5 (.bin false .gtr (.s 0) (I6 4096)), VS 1 2 0]) (.ret)), [.t 1]⟩
noncomputable def t_9 : List (Nat × Ctr) := []
noncomputable def c_9 : Ctr := mkF t_9 ir4 [.bor]
theorem s_9 : Sound Try.prog 4 c_9 := mkF_sound _ rfl snd_nil (by kernel_rfl : chkFn Try.prog 4 ir4 ir4_v = true)
theorem M_9 : c_9.modes = [.bor] := rfl
theorem Fl_9 : c_9.flat = true := rfl
attribute [go_sem] M_9 Fl_9
theorem Fs_9 {code : List UInt8} {y_ : Bool} (h : laws_f6big code = some y_) : c_9.F [.sl 1 (List.map byteAV code)] = ⟨true, .bool y_, [.any]⟩ := by
 refine mkF_E rfl ?_
 dsimp only [laws_f6big] at h
 obtain rfl := so_some h
 refine ⟨0, fun L hL => ?_⟩
 simp only [go_sem, ir4]


def ir36_v : List Nat := [0, 2]
def ir36 : AFn := ⟨1, 2, .seq (.region false [ VO 1 2 (.mov (.c (.cv (.pointer none))))]) (.seq (.region false [ PM 3 0, PO 4 (.build [.sl 1 [], .int .i64 (0), .int .u64 (0)] [(0, 1, (.s 0))]), PO 5 (.box (.s 0)), VS 1 2 0]) (.ret)), [.t 1]⟩
noncomputable def t_10 : List (Nat × Ctr) := []
noncomputable def c_10 : Ctr := mkN t_10 ir36 [.bor]
theorem s_10 : Sound Try.prog 36 c_10 := mkN_sound _ snd_nil (by kernel_rfl : chkFn Try.prog 36 ir36 ir36_v = true)
theorem M_10 : c_10.modes = [.bor] := rfl
theorem Fl_10 : c_10.flat = false := rfl
attribute [go_sem] M_10 Fl_10
theorem Fs_10 {code : List UInt8} {y_ : L00Src} (h : spec_l00From code = some y_) : c_10.F [.sl 1 (List.map byteAV code)] = ⟨true, .mem 3 [L00Src_av y_] 0, [.any]⟩ := by
 refine mkN_E ?_
 dsimp only [spec_l00From] at h
 obtain rfl := so_some h
 refine ⟨0, fun L hL => ?_⟩
 simp only [go_sem, ir36]


def ir55_v : List Nat := [0, 2, 3]
def ir55 : AFn := ⟨1, 3, .seq (.region false [ VO 1 2 (.mov (I6 0))]) (.seq (.region false [ VO 2 3 (.mov (I6 0))]) (.seq (.anyo 10 [ SO 0 4 (.mov (.v 0)), SO 1 5 (.nilck (.s 0)), SO 2 6 (.fldAddr 1 (.s 1)), SO 3 7 (.load false 1 (.s 2)), SO 4 8 (.mov (.v 0)), SO 5 9 (.nilck (.s 4)), SO 6 10 (.fldAddr 0 (.s 5)), SO 7 11 (.load false 1 (.s 6)), SO 8 12 (.len false (.s 7)), SO 9 13 (.bin false .lss (.s 3) (.s 8))] [] (.cond (.s 9) (.anyo 11 [ SO 0 14 (.mov (.v 0)), SO 1 15 (.nilck (.s 0)), SO 2 16 (.fldAddr 0 (.s 1)), SO 3 17 (.load false 1 (.s 2)), SO 4 18 (.mov (.v 0)), SO 5 19 (.nilck (.s 4)),
 SO 6 20 (.fldAddr 1 (.s 5)), SO 7 21 (.load false 1 (.s 6)), SO 8 22 (.ixAddr 1 (.s 3) (.s 7)), SO 9 23 (.load false 1 (.s 8)), SO 10 24 (.conv .i64 (.s 9)), VS 2 3 10] [] .skip) (.skip))) (.seq (.region false [ PM 25 0, PO 26 (.nilck (.s 0)), PO 27 (.fldAddr 1 (.s 0)), PO 28 (.load false 1 (.s 0)), PO 29 (.bin false .add (.s 0) (I6 1)), PO 30 (.nilck (.s 4)), PO 31 (.fldAddr 1 (.s 0)), ⟨.no, 0, none, .store 1 (.s 0) (.s 2)⟩]) (.seq (.region false [ PM 32 0, PM 33 0, PO 34 (.nilck (.s 0)), PO 35 (.fldAddr 2 (.s 0)), PO 36 (.load false 1 (.s 0)), PO 37 (.bin false .mul (.s 0) (.c (.int .u64
 (6364136223846793005)))), PM 38 2, PO 39 (.conv .u64 (.s 0)), PO 40 (.bin false .add (.s 2) (.s 0)), PO 41 (.bin false .add (.s 0) (.c (.int .u64 (1442695040888963407)))), PO 42 (.nilck (.s 9)), PO 43 (.fldAddr 2 (.s 0)), ⟨.no, 0, none, .store 1 (.s 0) (.s 2)⟩]) (.seq (.anyo 10 [ SO 0 44 (.mov (.v 0)), SO 1 45 (.nilck (.s 0)), SO 2 46 (.fldAddr 1 (.s 1)), SO 3 47 (.load false 1 (.s 2)), SO 4 48 (.mov (.v 0)), SO 5 49 (.nilck (.s 4)), SO 6 50 (.fldAddr 0 (.s 5)), SO 7 51 (.load false 1 (.s 6)), SO 8 52 (.len false (.s 7)), SO 9 53 (.bin false .leq (.s 3) (.s 8))] [] (.cond (.s 9) (.seq (.region
 false [ PM 54 2, VS 1 2 0]) (.ret)) (.skip))) (.seq (.region false [ PM 55 0, PO 56 (.nilck (.s 0)), PO 57 (.fldAddr 2 (.s 0)), PO 58 (.load false 1 (.s 0)), PO 59 (.bin false .shr (.s 0) (.c (.int .u64 (40)))), PO 60 (.bin false .and (.s 0) (.c (.int .u64 (255)))), PO 61 (.conv .i64 (.s 0)), VS 1 2 0]) (.ret))))))), [.t 1]⟩
noncomputable def t_11 : List (Nat × Ctr) := []
noncomputable def c_11 : Ctr := mkN t_11 ir55 [.io]
theorem s_11 : Sound Try.prog 55 c_11 := mkN_sound _ snd_nil (by kernel_rfl : chkFn Try.prog 55 ir55 ir55_v = true)
theorem M_11 : c_11.modes = [.io] := rfl
theorem Fl_11 : c_11.flat = false := rfl
attribute [go_sem] M_11 Fl_11
theorem Fs_11 {s_ : L00Src} {y_ : Int × L00Src} (h : spec_l00Src_next s_ = some y_) : c_11.F [.mem 3 [L00Src_av s_] 0] = ⟨true, .int .i64 y_.1, [.mem 3 [L00Src_av y_.2] 0]⟩ := by
 refine mkN_E ?_
 dsimp only [spec_l00Src_next] at h
 rcases it_some h with ⟨z1, h⟩ | ⟨z1, h⟩
 ·try simp only [go_sem, n1, n2, n3, n4] at z1
  all_goals
  obtain ⟨z2, h⟩ := ck_some h
  have lz2 := ix_lt z2
  have xz2 := getD_mapD byteAV s_.code_ lz2
  try simp only [go_sem] at lz2
  try simp only [go_sem] at xz2
  try simp only [go_sem, n1, n2, n3, n4, z1] at z2
  all_goals
  rcases it_some h with ⟨z3, h⟩ | ⟨z3, h⟩
  ·try simp only [go_sem, n1, n2, n3, n4, z1, z2] at z3
   all_goals
   obtain rfl := so_some h
   refine ⟨0, fun L hL => ?_⟩
   simp only [go_sem, ir55, z1, z2, lz2, xz2, z3]
  ·try simp only [go_sem, n1, n2, n3, n4, z1, z2] at z3
   all_goals
   obtain ⟨z4, h⟩ := ck_some h
   try simp only [go_sem, n1, n2, n3, n4, z1, z2, z3] at z4
   all_goals
   obtain rfl := so_some h
   refine ⟨0, fun L hL => ?_⟩
   simp only [go_sem, ir55, z1, z2, lz2, xz2, z3, z4]
 ·try simp only [go_sem, n1, n2, n3, n4] at z1
  all_goals
  rcases it_some h with ⟨z5, h⟩ | ⟨z5, h⟩
  ·try simp only [go_sem, n1, n2, n3, n4, z1] at z5
   all_goals
   obtain rfl := so_some h
   refine ⟨0, fun L hL => ?_⟩
   simp only [go_sem, ir55, z1, z5]
  ·try simp only [go_sem, n1, n2, n3, n4, z1] at z5
   all_goals
   obtain ⟨z6, h⟩ := ck_some h
   try simp only [go_sem, n1, n2, n3, n4, z1, z5] at z6
   all_goals
   obtain rfl := so_some h
   refine ⟨0, fun L hL => ?_⟩
   simp only [go_sem, ir55, z1, z5, z6]


def ir38_v : List Nat := [0, 1, 4, 5]
def ir38 : AFn := ⟨2, 4, .seq (.region false [ VO 2 4 (.mov (I6 0))]) (.seq (.test false [ PM 6 1, PO 7 (.bin false .leq (.s 0) (I6 1))] (.s 0) (.seq (.region false [ VO 2 4 (.mov (I6 0))]) (.ret)) (.skip)) (.seq (.region false [ PM 8 0, PO 9 (.call 55 [(.s 0)]), VS 3 5 0]) (.seq (.test false [ PM 10 1, PO 11 (.bin false .gtr (.s 0) (I6 200))] (.s 0) (.region false [ PM 12 3, PO 13 (.bin false .mul (.s 0) (I6 256)), PM 14 0, PO 15 (.call 55 [(.s 0)]), PO 16 (.bin false .add (.s 2) (.s 0)), VS 3 5 0]) (.skip)) (.seq (.region false [ PM 17 3, PM 18 1, PO 19 (.bin false .rem (.s 1) (.s 0)), VS 2 4
 0]) (.ret))))), [.t 2]⟩
noncomputable def t_12 : List (Nat × Ctr) := [(55, c_11)]
theorem lk_12_55 : look t_12 55 = some c_11 := rfl
noncomputable def c_12 : Ctr := mkN t_12 ir38 [.io, .bor]
theorem s_12 : Sound Try.prog 38 c_12 := mkN_sound _ (snd_cons s_11 snd_nil) (by kernel_rfl : chkFn Try.prog 38 ir38 ir38_v = true)
theorem M_12 : c_12.modes = [.io, .bor] := rfl
theorem Fl_12 : c_12.flat = false := rfl
attribute [go_sem] M_12 Fl_12
attribute [go_sem] lk_12_55
theorem Fs_12 {s_ : L00Src} {n : Int} {y_ : Int × L00Src} (h : spec_l00Src_pick s_ n = some y_) : c_12.F [.mem 3 [L00Src_av s_] 0, .int .i64 n] = ⟨true, .int .i64 y_.1, [.mem 3 [L00Src_av y_.2] 0, .any]⟩ := by
 refine mkN_E ?_
 dsimp only [spec_l00Src_pick] at h
 rcases it_some h with ⟨z1, h⟩ | ⟨z1, h⟩
 ·try simp only [go_sem, n1, n2, n3, n4] at z1
  all_goals
  obtain rfl := so_some h
  refine ⟨0, fun L hL => ?_⟩
  simp only [go_sem, ir38, z1]
 ·try simp only [go_sem, n1, n2, n3, n4] at z1
  all_goals
  obtain ⟨y_2, z2, h⟩ := bd_some h
  have fz2 := Fs_11 z2
  try simp only [go_sem, z1] at fz2
  rcases it_some h with ⟨z3, h⟩ | ⟨z3, h⟩
  ·try simp only [go_sem, n1, n2, n3, n4, z1] at z3
   all_goals
   obtain ⟨y_4, z4, h⟩ := bd_some h
   have fz4 := Fs_11 z4
   try simp only [go_sem, z1, z3] at fz4
   obtain ⟨z5, h⟩ := ck_some h
   try simp only [go_sem, n1, n2, n3, n4, z1, z3] at z5
   all_goals
   obtain rfl := so_some h
   refine ⟨0, fun L hL => ?_⟩
   simp only [go_sem, ir38, z1, fz2, z3, fz4, z5]
  ·try simp only [go_sem, n1, n2, n3, n4, z1] at z3
   all_goals
   obtain ⟨z6, h⟩ := ck_some h
   try simp only [go_sem, n1, n2, n3, n4, z1, z3] at z6
   all_goals
   obtain rfl := so_some h
   refine ⟨0, fun L hL => ?_⟩
   simp only [go_sem, ir38, z1, fz2, z3, z6]


def ir54_v : List Nat := [0, 1, 4]
def ir54 : AFn := ⟨2, 3, .seq (.region false [ VO 2 4 (.mov (I6 0))]) (.seq (.region false [ PM 5 1, PM 6 0, PM 7 1, PO 8 (.len false (.s 0)), PO 9 (.call 38 [(.s 2), (.s 0)]), PO 10 (.ixAddr 1 (.s 4) (.s 0)), PO 11 (.load false 1 (.s 0)), VS 2 4 0]) (.ret)), [.t 2]⟩
noncomputable def t_13 : List (Nat × Ctr) := [(38, c_12)]
theorem lk_13_38 : look t_13 38 = some c_12 := rfl
noncomputable def c_13 : Ctr := mkN t_13 ir54 [.io, .bor]
theorem s_13 : Sound Try.prog 54 c_13 := mkN_sound _ (snd_cons s_12 snd_nil) (by kernel_rfl : chkFn Try.prog 54 ir54 ir54_v = true)
theorem M_13 : c_13.modes = [.io, .bor] := rfl
theorem Fl_13 : c_13.flat = false := rfl
attribute [go_sem] M_13 Fl_13
attribute [go_sem] lk_13_38
theorem Fs_13 {s_ : L00Src} {list : List Int} {y_ : Int × L00Src} (h : spec_l00Src_among s_ list = some y_) : c_13.F [.mem 3 [L00Src_av s_] 0, .sl 1 (List.map (AV.int .i64) list)] = ⟨true, .int .i64 y_.1, [.mem 3 [L00Src_av y_.2] 0, .any]⟩ := by
 refine mkN_E ?_
 dsimp only [spec_l00Src_among] at h
 obtain ⟨y_1, z1, h⟩ := bd_some h
 have fz1 := Fs_12 z1
 try simp only [go_sem] at fz1
 obtain ⟨z2, h⟩ := ck_some h
 have lz2 := ix_lt z2
 have xz2 := getD_mapD (AV.int .i64) list lz2
 try simp only [go_sem] at lz2
 try simp only [go_sem] at xz2
 try simp only [go_sem, n1, n2, n3, n4] at z2
 all_goals
 obtain rfl := so_some h
 refine ⟨0, fun L hL => ?_⟩
 simp only [go_sem, ir54, fz1, z2, lz2, xz2]


def ir51_v : List Nat := [0, 1, 4]
def ir51 : AFn := ⟨2, 3, .seq (.region false [ VO 2 4 (.mov (.c (.bool false)))]) (.seq (.region false [ PM 5 0, PM 6 1, PO 7 (.call 38 [(.s 1), (.s 0)]), PO 8 (.bin false .eql (.s 0) (I6 0)), VS 2 4 0]) (.ret)), [.t 2]⟩
noncomputable def t_14 : List (Nat × Ctr) := [(38, c_12)]
theorem lk_14_38 : look t_14 38 = some c_12 := rfl
noncomputable def c_14 : Ctr := mkN t_14 ir51 [.io, .bor]
theorem s_14 : Sound Try.prog 51 c_14 := mkN_sound _ (snd_cons s_12 snd_nil) (by kernel_rfl : chkFn Try.prog 51 ir51 ir51_v = true)
theorem M_14 : c_14.modes = [.io, .bor] := rfl
theorem Fl_14 : c_14.flat = false := rfl
attribute [go_sem] M_14 Fl_14
attribute [go_sem] lk_14_38
theorem Fs_14 {s_ : L00Src} {n : Int} {y_ : Bool × L00Src} (h : spec_l00Src_one s_ n = some y_) : c_14.F [.mem 3 [L00Src_av s_] 0, .int .i64 n] = ⟨true, .bool y_.1, [.mem 3 [L00Src_av y_.2] 0, .any]⟩ := by
 refine mkN_E ?_
 dsimp only [spec_l00Src_one] at h
 obtain ⟨y_1, z1, h⟩ := bd_some h
 have fz1 := Fs_12 z1
 try simp only [go_sem] at fz1
 obtain rfl := so_some h
 refine ⟨0, fun L hL => ?_⟩
 simp only [go_sem, ir51, fz1]


def ir53_v : List Nat := [0, 1, 4]
def ir53 : AFn := ⟨2, 3, .seq (.region false [ VO 2 4 (.mov (.c (.str [])))]) (.seq (.region false [ PM 5 1, PM 6 0, PM 7 1, PO 8 (.len false (.s 0)), PO 9 (.call 38 [(.s 2), (.s 0)]), PO 10 (.ixAddr 1 (.s 4) (.s 0)), PO 11 (.load false 1 (.s 0)), VS 2 4 0]) (.ret)), [.t 2]⟩
noncomputable def t_15 : List (Nat × Ctr) := [(38, c_12)]
theorem lk_15_38 : look t_15 38 = some c_12 := rfl
noncomputable def c_15 : Ctr := mkN t_15 ir53 [.io, .bor]
theorem s_15 : Sound Try.prog 53 c_15 := mkN_sound _ (snd_cons s_12 snd_nil) (by kernel_rfl : chkFn Try.prog 53 ir53 ir53_v = true)
theorem M_15 : c_15.modes = [.io, .bor] := rfl
theorem Fl_15 : c_15.flat = false := rfl
attribute [go_sem] M_15 Fl_15
attribute [go_sem] lk_15_38
theorem Fs_15 {s_ : L00Src} {list : List (List UInt8)} {y_ : (List UInt8) × L00Src} (h : spec_l00Src_text s_ list = some y_) : c_15.F [.mem 3 [L00Src_av s_] 0, .sl 1 (List.map AV.str list)] = ⟨true, .str y_.1, [.mem 3 [L00Src_av y_.2] 0, .any]⟩ := by
 refine mkN_E ?_
 dsimp only [spec_l00Src_text] at h
 obtain ⟨y_1, z1, h⟩ := bd_some h
 have fz1 := Fs_12 z1
 try simp only [go_sem] at fz1
 obtain ⟨z2, h⟩ := ck_some h
 have lz2 := ix_lt z2
 have xz2 := getD_mapD AV.str list lz2
 try simp only [go_sem] at lz2
 try simp only [go_sem] at xz2
 try simp only [go_sem, n1, n2, n3, n4] at z2
 all_goals
 obtain rfl := so_some h
 refine ⟨0, fun L hL => ?_⟩
 simp only [go_sem, ir53, fz1, z2, lz2, xz2]


def ir52_v : List Nat := [0, 2, 3]
def ir52 : AFn := ⟨1, 3, .seq (.region false [ VO 1 2 (.alloc (.agg [.str [], .int .i64 (0), .int .i64 (0), .int .i64 (0), .int .i64 (0), .int .i64 (0)]))]) (.seq (.region false [ PM 4 0, PO 5 (.mkSl 1 (.str []) 4 [(0, (.c (.str [99, 101, 112, 104, 101, 105, 100]))), (1, (.c (.str [109, 105, 114, 97]))), (2, (.c (.str [101, 99, 108, 105, 112, 115, 105, 110, 103]))), (3, (.c (.str [114, 114, 45, 108, 121, 114, 97, 101])))]), PO 6 (.call 53 [(.s 1), (.s 0)]), PO 7 (.build [.str [], .int .i64 (0), .int .i64 (0), .int .i64 (0), .int .i64 (0), .int .i64 (0)] [(0, 1, (.s 0))]), VO 2 3 (.alloc (.agg
 [.str [], .int .i64 (0), .int .i64 (0), .int .i64 (0), .int .i64 (0), .int .i64 (0)])), ⟨.no, 0, none, .store 6 (.v 2) (.s 0)⟩]) (.seq (.region false [ PM 8 0, PO 9 (.call 38 [(.s 0), (I6 4)]), PO 10 (.bin false .mul (I6 500) (.s 0)), PO 11 (.fldAddr 1 (.v 2)), ⟨.no, 0, none, .store 1 (.s 0) (.s 1)⟩]) (.seq (.anyo 7 [ SO 0 12 (.fldAddr 1 (.v 2)), SO 1 13 (.load false 1 (.s 0)), SO 2 14 (.mov (.v 0)), SO 3 15 (.call 38 [(.s 2), (I6 5)]), SO 4 16 (.bin false .mul (I6 500) (.s 3)), SO 5 17 (.bin false .add (.s 1) (.s 4)), SO 6 18 (.fldAddr 2 (.v 2)), ⟨.no, 0, none, .store 1 (.s 6) (.s 5)⟩] [[2,
 0, 1, 3, 4, 5, 6, 7], [2, 0, 3, 1, 4, 5, 6, 7], [2, 3, 0, 1, 4, 5, 6, 7]] .skip) (.seq (.region false [ PM 19 0, PO 20 (.call 38 [(.s 0), (I6 4)]), PO 21 (.bin false .mul (I6 10000) (.s 0)), PO 22 (.fldAddr 3 (.v 2)), ⟨.no, 0, none, .store 1 (.s 0) (.s 1)⟩]) (.seq (.anyo 7 [ SO 0 23 (.fldAddr 3 (.v 2)), SO 1 24 (.load false 1 (.s 0)), SO 2 25 (.mov (.v 0)), SO 3 26 (.call 38 [(.s 2), (I6 5)]), SO 4 27 (.bin false .mul (I6 10000) (.s 3)), SO 5 28 (.bin false .add (.s 1) (.s 4)), SO 6 29 (.fldAddr 4 (.v 2)), ⟨.no, 0, none, .store 1 (.s 6) (.s 5)⟩] [[2, 0, 1, 3, 4, 5, 6, 7], [2, 0, 3, 1, 4, 5, 6,
 7], [2, 3, 0, 1, 4, 5, 6, 7]] .skip) (.seq (.region false [ PM 30 0, PO 31 (.call 38 [(.s 0), (I6 4)]), PO 32 (.fldAddr 5 (.v 2)), ⟨.no, 0, none, .store 1 (.s 0) (.s 1)⟩]) (.seq (.region false [ PO 33 (.load true 6 (.v 2)), ⟨.no, 0, none, .store 6 (.v 1) (.s 0)⟩]) (.ret)))))))), [.cell true 6 1]⟩
noncomputable def t_16 : List (Nat × Ctr) := [(53, c_15), (38, c_12)]
theorem lk_16_53 : look t_16 53 = some c_15 := rfl
theorem lk_16_38 : look t_16 38 = some c_12 := rfl
noncomputable def c_16 : Ctr := mkN t_16 ir52 [.io]
theorem s_16 : Sound Try.prog 52 c_16 := mkN_sound _ (snd_cons s_15 (snd_cons s_12 snd_nil)) (by kernel_rfl : chkFn Try.prog 52 ir52 ir52_v = true)
theorem M_16 : c_16.modes = [.io] := rfl
theorem Fl_16 : c_16.flat = false := rfl
attribute [go_sem] M_16 Fl_16
attribute [go_sem] lk_16_53 lk_16_38
theorem Fs_16 {s_ : L00Src} {y_ : Rule × L00Src} (h : spec_l18New s_ = some y_) : c_16.F [.mem 3 [L00Src_av s_] 0] = ⟨true, Rule_av y_.1, [.mem 3 [L00Src_av y_.2] 0]⟩ := by
 refine mkN_E ?_
 dsimp only [spec_l18New] at h
 obtain ⟨y_1, z1, h⟩ := bd_some h
 have fz1 := Fs_15 z1
 try simp only [go_sem] at fz1
 obtain ⟨y_2, z2, h⟩ := bd_some h
 have fz2 := Fs_12 z2
 try simp only [go_sem] at fz2
 obtain ⟨y_3, z3, h⟩ := bd_some h
 have fz3 := Fs_12 z3
 try simp only [go_sem] at fz3
 obtain ⟨y_4, z4, h⟩ := bd_some h
 have fz4 := Fs_12 z4
 try simp only [go_sem] at fz4
 obtain ⟨y_5, z5, h⟩ := bd_some h
 have fz5 := Fs_12 z5
 try simp only [go_sem] at fz5
 obtain ⟨y_6, z6, h⟩ := bd_some h
 have fz6 := Fs_12 z6
 try simp only [go_sem] at fz6
 obtain rfl := so_some h
 refine ⟨0, fun L hL => ?_⟩
 simp only [go_sem, ir52, fz1, fz2, fz3, fz4, fz5, fz6]


def ir37_b0 : IR := .seq (.test false [ PM 16 4, PO 17 (.bin false .gtr (.s 0) (I6 0))] (.s 0) (.skip) (.exit 0)) (.seq (.block 1 (.region false [ PM 20 2, PM 21 0, PO 22 (.call 52 [(.s 0)]), PO 23 (.mkSl 6 (.agg [.str [], .int .i64 (0), .int .i64 (0), .int .i64 (0), .int .i64 (0), .int .i64 (0)]) 1 [(0, (.s 0))]), PO 24 (.app 6 56 (.agg [.str [], .int .i64 (0), .int .i64 (0), .int .i64 (0), .int .i64 (0), .int .i64 (0)]) (.s 3) (.s 0)), VS 2 3 0])) (.region false [ PM 18 4, PO 19 (.bin false .sub (.s 0) (I6 1)), VS 4 5 0]))
def ir37_k0 : List Bool := [true, false, true, false, true, false, false]
def ir37_o0 : List Bool := [true, false, true, false, false, false, false]
def ir37_r0 : List Bool := [true, true, false, false, false, false, false]
def ir37_v : List Nat := [0, 2, 3, 4, 5, 6, 42]
def ir37 : AFn := ⟨1, 7, .seq (.region false [ VO 1 2 (.newnil 6)]) (.seq (.region false [ PO 7 (.mkSl 6 (.agg [.str [], .int .i64 (0), .int .i64 (0), .int .i64 (0), .int .i64 (0), .int .i64 (0)]) 0 []), VS 2 3 0]) (.seq (.region false [ PM 8 0, PO 9 (.call 38 [(.s 0), (I6 7)]), VS 3 4 0]) (.seq (.test false [ PM 10 0, PO 11 (.call 51 [(.s 0), (I6 24)])] (.s 0) (.region false [ PM 12 0, PO 13 (.call 38 [(.s 0), (I6 2)]), PO 14 (.bin false .add (I6 12) (.s 0)), VS 3 4 0]) (.skip)) (.seq (.seq (.region false [ PM 15 3, VS 4 5 0]) (.block 0 (.loop ir37_k0 ir37_o0 ir37_r0 ir37_b0))) (.seq (.test
 false [ PM 25 0, PO 26 (.call 51 [(.s 0), (I6 4)])] (.s 0) (.region false [ PM 27 2, PO 28 (.build [.str [], .int .i64 (0), .int .i64 (0), .int .i64 (0), .int .i64 (0), .int .i64 (0)] [(0, 1, (.c (.str [114, 101, 115, 116]))), (2, 1, (I6 20000)), (4, 1, (I6 1000000))]), PO 29 (.mkSl 6 (.agg [.str [], .int .i64 (0), .int .i64 (0), .int .i64 (0), .int .i64 (0), .int .i64 (0)]) 1 [(0, (.s 0))]), PO 30 (.app 6 56 (.agg [.str [], .int .i64 (0), .int .i64 (0), .int .i64 (0), .int .i64 (0), .int .i64 (0)]) (.s 2) (.s 0)), VS 2 3 0]) (.skip)) (.seq (.test false [ PM 31 2, PO 32 (.len false (.s 0)), PO
 33 (.bin false .eql (.s 0) (I6 0))] (.s 0) (.seq (.region false [ PM 34 2, VS 1 2 0]) (.ret)) (.skip)) (.seq (.region false [ PM 35 2, PM 36 0, PM 37 2, PO 38 (.len false (.s 0)), PO 39 (.call 38 [(.s 2), (.s 0)]), PO 40 (.ixAddr 6 (.s 4) (.s 0)), VS 5 6 0]) (.seq (.seq (.region false [ PM 41 0, VO 6 42 (.call 38 [(.s 0), (I6 30)])]) (.block 2 (.test false [ PO 44 (.bin false .eql (.v 6) (I6 0)), PO 43 (.mov (.s 0))] (.s 0) (.region false [ PM 45 5, PM 46 0, PO 47 (.mkSl 1 (.str []) 3 [(0, (.c (.str []))), (1, (.c (.str [77, 105, 114, 97]))), (2, (.c (.str [109])))]), PO 48 (.call 53 [(.s 1),
 (.s 0)]), PO 49 (.nilck (.s 3)), PO 50 (.fldAddr 0 (.s 0)), ⟨.no, 0, none, .store 1 (.s 0) (.s 2)⟩]) (.test false [ PO 52 (.bin false .eql (.v 6) (I6 1)), PO 51 (.mov (.s 0))] (.s 0) (.anyo 15 [ SO 0 53 (.mov (.v 5)), SO 1 54 (.mov (.v 0)), SO 2 55 (.mov (.v 5)), SO 3 56 (.nilck (.s 2)), SO 4 57 (.fldAddr 2 (.s 3)), SO 5 58 (.load false 1 (.s 4)), SO 6 59 (.mov (.v 5)), SO 7 60 (.nilck (.s 6)), SO 8 61 (.fldAddr 2 (.s 7)), SO 9 62 (.load false 1 (.s 8)), SO 10 63 (.bin false .add (.s 9) (I6 1)), SO 11 64 (.pur (.mkSl 1 (.int .i64 (0)) 4 [(0, (.c (.int .i64 (-1)))), (1, (I6 0)), (2, (.s 5)),
 (3, (.s 10))])), SO 12 65 (.call 54 [(.s 1), (.s 11)]), SO 13 66 (.nilck (.s 0)), SO 14 67 (.fldAddr 1 (.s 13)), ⟨.no, 0, none, .store 1 (.s 14) (.s 12)⟩] [[1, 2, 3, 4, 5, 6, 7, 8, 9, 10, 11, 0, 12, 13, 14, 15], [1, 2, 3, 4, 5, 6, 7, 8, 9, 10, 11, 12, 0, 13, 14, 15]] .skip) (.test false [ PO 69 (.bin false .eql (.v 6) (I6 2)), PO 68 (.mov (.s 0))] (.s 0) (.region false [ PM 70 5, PM 71 0, PO 72 (.mkSl 1 (.int .i64 (0)) 3 [(0, (I6 20000)), (1, (I6 20001)), (2, (.c (.int .i64 (-9223372036854775808))))]), PO 73 (.call 54 [(.s 1), (.s 0)]), PO 74 (.nilck (.s 3)), PO 75 (.fldAddr 2 (.s 0)), ⟨.no,
 0, none, .store 1 (.s 0) (.s 2)⟩]) (.test false [ PO 77 (.bin false .eql (.v 6) (I6 3)), PO 76 (.mov (.s 0))] (.s 0) (.region false [ PM 78 5, PM 79 0, PO 80 (.mkSl 1 (.int .i64 (0)) 3 [(0, (I6 1000000)), (1, (I6 1000001)), (2, (I6 9223372036854775807))]), PO 81 (.call 54 [(.s 1), (.s 0)]), PO 82 (.nilck (.s 3)), PO 83 (.fldAddr 4 (.s 0)), ⟨.no, 0, none, .store 1 (.s 0) (.s 2)⟩]) (.test false [ PO 85 (.bin false .eql (.v 6) (I6 4)), PO 84 (.mov (.s 0))] (.s 0) (.region false [ PM 86 5, PM 87 0, PO 88 (.mkSl 1 (.int .i64 (0)) 4 [(0, (.c (.int .i64 (-1)))), (1, (I6 0)), (2, (I6 3)), (3, (I6
 4))]), PO 89 (.call 54 [(.s 1), (.s 0)]), PO 90 (.nilck (.s 3)), PO 91 (.fldAddr 5 (.s 0)), ⟨.no, 0, none, .store 1 (.s 0) (.s 2)⟩]) (.skip)))))))) (.seq (.region false [ PM 92 2, VS 1 2 0]) (.ret)))))))))), [.t 1]⟩
noncomputable def t_17 : List (Nat × Ctr) := [(38, c_12), (51, c_14), (52, c_16), (53, c_15), (54, c_13)]
theorem lk_17_38 : look t_17 38 = some c_12 := rfl
theorem lk_17_51 : look t_17 51 = some c_14 := rfl
theorem lk_17_52 : look t_17 52 = some c_16 := rfl
theorem lk_17_53 : look t_17 53 = some c_15 := rfl
theorem lk_17_54 : look t_17 54 = some c_13 := rfl
noncomputable def c_17 : Ctr := mkN t_17 ir37 [.io]
theorem s_17 : Sound Try.prog 37 c_17 := mkN_sound _ (snd_cons s_12 (snd_cons s_14 (snd_cons s_16 (snd_cons s_15 (snd_cons s_13 snd_nil))))) (by kernel_rfl : chkFn Try.prog 37 ir37 ir37_v = true)
theorem M_17 : c_17.modes = [.io] := rfl
theorem Fl_17 : c_17.flat = false := rfl
attribute [go_sem] M_17 Fl_17
attribute [go_sem] lk_17_38 lk_17_51 lk_17_52 lk_17_53 lk_17_54
def E_17_l1  : (L00Src × (List Rule) × Int) → St
 | (s_, list, k) => ⟨[.ref 31 0 0, .any, .own 3200032, .any, .int .i64 k, .any, .any], [], [(31, ⟨3, [L00Src_av s_]⟩), (3200032, ⟨6, List.map Rule_av list⟩)], true⟩
def R_17_l1  (y : L00Src × (List Rule)) : Res := (.exit 0, ⟨[.ref 31 0 0, .any, .own 3200032, .any, .any, .any, .any], [], [(31, ⟨3, [L00Src_av y.1]⟩), (3200032, ⟨6, List.map Rule_av y.2⟩)], true⟩)
theorem spec_l18Bent_l1_ex  {sgm_ : L00Src × (List Rule) × Int} {rho_ : L00Src × (List Rule)} (h : whileE (spec_l18Bent_l1) sgm_ = some rho_) : ∃ L0, ∀ L, L0 ≤ L → iter (exec (look t_17) L ir37_b0) ir37_k0 ir37_o0 ir37_r0 L (E_17_l1 sgm_) = R_17_l1 rho_ := by
 refine loop_ex (E := E_17_l1) (R := R_17_l1) (fun y => by first | (intro c; cases c) | (rcases y with y | y <;> (intro c; cases c)) | (rcases y with y | y | y <;> (intro c; cases c))) ?_ h
 clear h
 rintro ⟨s_, list, k⟩ o_ h
 dsimp only [spec_l18Bent_l1] at h
 rcases it_some h with ⟨z5, h⟩ | ⟨z5, h⟩
 ·try simp only [go_sem, n1, n2, n3, n4] at z5
  all_goals
  obtain ⟨y_6, z6, h⟩ := bd_some h
  have fz6 := Fs_16 z6
  try simp only [go_sem, z5] at fz6
  obtain ⟨z7, h⟩ := ck_some h
  try simp only [go_sem, n1, n2, n3, n4, z5] at z7
  all_goals
  obtain rfl := so_some h
  refine ⟨0, fun L hL => ?_⟩
  simp only [go_sem, ir37, E_17_l1, R_17_l1, ir37_b0, ir37_k0, ir37_o0, ir37_r0, z5, fz6, z7]
 ·try simp only [go_sem, n1, n2, n3, n4] at z5
  all_goals
  obtain rfl := so_some h
  refine ⟨0, fun L hL => ?_⟩
  simp only [go_sem, ir37, E_17_l1, R_17_l1, ir37_b0, ir37_k0, ir37_o0, ir37_r0, z5]

def E_17_l2  : (L00Src × (List Rule) × Int) → St
 | (s_, list, k) => ⟨[.ref 31 0 0, .any, .own 3200032, .any, .int .i64 k, .any, .any], [], [(31, ⟨3, [L00Src_av s_]⟩), (3200032, ⟨6, List.map Rule_av list⟩)], true⟩
def R_17_l2  (y : L00Src × (List Rule)) : Res := (.exit 0, ⟨[.ref 31 0 0, .any, .own 3200032, .any, .any, .any, .any], [], [(31, ⟨3, [L00Src_av y.1]⟩), (3200032, ⟨6, List.map Rule_av y.2⟩)], true⟩)
theorem spec_l18Bent_l2_ex  {sgm_ : L00Src × (List Rule) × Int} {rho_ : L00Src × (List Rule)} (h : whileE (spec_l18Bent_l2) sgm_ = some rho_) : ∃ L0, ∀ L, L0 ≤ L → iter (exec (look t_17) L ir37_b0) ir37_k0 ir37_o0 ir37_r0 L (E_17_l2 sgm_) = R_17_l2 rho_ := by
 refine loop_ex (E := E_17_l2) (R := R_17_l2) (fun y => by first | (intro c; cases c) | (rcases y with y | y <;> (intro c; cases c)) | (rcases y with y | y | y <;> (intro c; cases c))) ?_ h
 clear h
 rintro ⟨s_, list, k⟩ o_ h
 dsimp only [spec_l18Bent_l2] at h
 rcases it_some h with ⟨z40, h⟩ | ⟨z40, h⟩
 ·try simp only [go_sem, n1, n2, n3, n4] at z40
  all_goals
  obtain ⟨y_41, z41, h⟩ := bd_some h
  have fz41 := Fs_16 z41
  try simp only [go_sem, z40] at fz41
  obtain ⟨z42, h⟩ := ck_some h
  try simp only [go_sem, n1, n2, n3, n4, z40] at z42
  all_goals
  obtain rfl := so_some h
  refine ⟨0, fun L hL => ?_⟩
  simp only [go_sem, ir37, E_17_l2, R_17_l2, ir37_b0, ir37_k0, ir37_o0, ir37_r0, E_17_l1, R_17_l1, ir37_k0, ir37_o0, ir37_r0, z40, fz41, z42]
 ·try simp only [go_sem, n1, n2, n3, n4] at z40
  all_goals
  obtain rfl := so_some h
  refine ⟨0, fun L hL => ?_⟩
  simp only [go_sem, ir37, E_17_l2, R_17_l2, ir37_b0, ir37_k0, ir37_o0, ir37_r0, E_17_l1, R_17_l1, ir37_k0, ir37_o0, ir37_r0, z40]

set_option maxHeartbeats 8000000 in
theorem Fs_17 {s_ : L00Src} {y_ : (List Rule) × L00Src} (h : spec_l18Bent s_ = some y_) : c_17.F [.mem 3 [L00Src_av s_] 0] = ⟨true, .fresh 6 (List.map Rule_av y_.1), [.mem 3 [L00Src_av y_.2] 0]⟩ := by
 refine mkN_E ?_
 dsimp only [spec_l18Bent] at h
 obtain ⟨y_1, z1, h⟩ := bd_some h
 have fz1 := Fs_12 z1
 try simp only [go_sem] at fz1
 obtain ⟨y_2, z2, h⟩ := bd_some h
 have fz2 := Fs_14 z2
 try simp only [go_sem] at fz2
 rcases it_some h with ⟨z3, h⟩ | ⟨z3, h⟩
 ·try simp only [go_sem, n1, n2, n3, n4] at z3
  all_goals
  obtain ⟨y_4, z4, h⟩ := bd_some h
  have fz4 := Fs_12 z4
  try simp only [go_sem, z3] at fz4
  obtain ⟨y_8, z8, h⟩ := bd_some h
  obtain ⟨Lz8, ez8⟩ := spec_l18Bent_l1_ex z8
  obtain ⟨y_9, z9, h⟩ := bd_some h
  have fz9 := Fs_14 z9
  try simp only [go_sem, z3] at fz9
  rcases it_some h with ⟨z10, h⟩ | ⟨z10, h⟩
  ·try simp only [go_sem, n1, n2, n3, n4, z3] at z10
   all_goals
   obtain ⟨z11, h⟩ := ck_some h
   try simp only [go_sem, n1, n2, n3, n4, z3, z10] at z11
   all_goals
   rcases it_some h with ⟨z12, h⟩ | ⟨z12, h⟩
   ·try simp only [go_sem, n1, n2, n3, n4, z3, z10, z11] at z12
    all_goals
    obtain rfl := so_some h
    refine ⟨Lz8, fun L hL => ?_⟩
    have ez8 := ez8 L (by omega)
    try simp only [go_sem, E_17_l1, R_17_l1, ir37_k0, ir37_o0, ir37_r0, E_17_l2, R_17_l2, ir37_k0, ir37_o0, ir37_r0, z3, z10, z11, z12] at ez8
    simp only [go_sem, ir37, E_17_l1, R_17_l1, ir37_k0, ir37_o0, ir37_r0, E_17_l2, R_17_l2, ir37_k0, ir37_o0, ir37_r0, fz1, fz2, z3, fz4, fz9, z10, z11, z12, ez8]
   ·try simp only [go_sem, n1, n2, n3, n4, z3, z10, z11] at z12
    all_goals
    obtain ⟨y_13, z13, h⟩ := bd_some h
    have fz13 := Fs_12 z13
    try simp only [go_sem, z3, z10, z11, z12] at fz13
    obtain ⟨z14, h⟩ := ck_some h
    have lz14 := ix_lt z14
    have xz14 := getD_mapD Rule_av (y_8.2 ++ ([(Rule.mk ([114, 101, 115, 116] : List UInt8) 0 20000 0 1000000 0)] : List Rule)) lz14
    try simp only [go_sem] at lz14
    try simp only [go_sem] at xz14
    try simp only [go_sem, n1, n2, n3, n4, z3, z10, z11, z12] at z14
    all_goals
    obtain ⟨y_15, z15, h⟩ := bd_some h
    have fz15 := Fs_12 z15
    try simp only [go_sem, z3, z10, z11, z12, z14] at fz15
    rcases it_some h with ⟨z16, h⟩ | ⟨z16, h⟩
    ·try simp only [go_sem, n1, n2, n3, n4, z3, z10, z11, z12, z14] at z16
     all_goals
     obtain ⟨y_17, z17, h⟩ := bd_some h
     have fz17 := Fs_15 z17
     try simp only [go_sem, z3, z10, z11, z12, z14, z16] at fz17
     obtain rfl := so_some h
     refine ⟨Lz8, fun L hL => ?_⟩
     have ez8 := ez8 L (by omega)
     try simp only [go_sem, E_17_l1, R_17_l1, ir37_k0, ir37_o0, ir37_r0, E_17_l2, R_17_l2, ir37_k0, ir37_o0, ir37_r0, z3, z10, z11, z12, z14, z16] at ez8
     simp only [go_sem, ir37, E_17_l1, R_17_l1, ir37_k0, ir37_o0, ir37_r0, E_17_l2, R_17_l2, ir37_k0, ir37_o0, ir37_r0, fz1, fz2, z3, fz4, fz9, z10, z11, z12, fz13, z14, lz14, xz14, fz15, z16, fz17, ez8]
    ·try simp only [go_sem, n1, n2, n3, n4, z3, z10, z11, z12, z14] at z16
     all_goals
     rcases it_some h with ⟨z18, h⟩ | ⟨z18, h⟩
     ·try simp only [go_sem, n1, n2, n3, n4, z3, z10, z11, z12, z14, z16] at z18
      all_goals
      obtain ⟨y_19, z19, h⟩ := bd_some h
      have fz19 := Fs_13 z19
      try simp only [go_sem, z3, z10, z11, z12, z14, z16, z18] at fz19
      obtain rfl := so_some h
      refine ⟨Lz8, fun L hL => ?_⟩
      have ez8 := ez8 L (by omega)
      try simp only [go_sem, E_17_l1, R_17_l1, ir37_k0, ir37_o0, ir37_r0, E_17_l2, R_17_l2, ir37_k0, ir37_o0, ir37_r0, z3, z10, z11, z12, z14, z16, z18] at ez8
      simp only [go_sem, ir37, E_17_l1, R_17_l1, ir37_k0, ir37_o0, ir37_r0, E_17_l2, R_17_l2, ir37_k0, ir37_o0, ir37_r0, fz1, fz2, z3, fz4, fz9, z10, z11, z12, fz13, z14, lz14, xz14, fz15, z16, z18, fz19, ez8]
     ·try simp only [go_sem, n1, n2, n3, n4, z3, z10, z11, z12, z14, z16] at z18
      all_goals
      rcases it_some h with ⟨z20, h⟩ | ⟨z20, h⟩
      ·try simp only [go_sem, n1, n2, n3, n4, z3, z10, z11, z12, z14, z16, z18] at z20
       all_goals
       obtain ⟨y_21, z21, h⟩ := bd_some h
       have fz21 := Fs_13 z21
       try simp only [go_sem, z3, z10, z11, z12, z14, z16, z18, z20] at fz21
       obtain rfl := so_some h
       refine ⟨Lz8, fun L hL => ?_⟩
       have ez8 := ez8 L (by omega)
       try simp only [go_sem, E_17_l1, R_17_l1, ir37_k0, ir37_o0, ir37_r0, E_17_l2, R_17_l2, ir37_k0, ir37_o0, ir37_r0, z3, z10, z11, z12, z14, z16, z18, z20] at ez8
       simp only [go_sem, ir37, E_17_l1, R_17_l1, ir37_k0, ir37_o0, ir37_r0, E_17_l2, R_17_l2, ir37_k0, ir37_o0, ir37_r0, fz1, fz2, z3, fz4, fz9, z10, z11, z12, fz13, z14, lz14, xz14, fz15, z16, z18, z20, fz21, ez8]
      ·try simp only [go_sem, n1, n2, n3, n4, z3, z10, z11, z12, z14, z16, z18] at z20
       all_goals
       rcases it_some h with ⟨z22, h⟩ | ⟨z22, h⟩
       ·try simp only [go_sem, n1, n2, n3, n4, z3, z10, z11, z12, z14, z16, z18, z20] at z22
        all_goals
        obtain ⟨y_23, z23, h⟩ := bd_some h
        have fz23 := Fs_13 z23
        try simp only [go_sem, z3, z10, z11, z12, z14, z16, z18, z20, z22] at fz23
        obtain rfl := so_some h
        refine ⟨Lz8, fun L hL => ?_⟩
        have ez8 := ez8 L (by omega)
        try simp only [go_sem, E_17_l1, R_17_l1, ir37_k0, ir37_o0, ir37_r0, E_17_l2, R_17_l2, ir37_k0, ir37_o0, ir37_r0, z3, z10, z11, z12, z14, z16, z18, z20, z22] at ez8
        simp only [go_sem, ir37, E_17_l1, R_17_l1, ir37_k0, ir37_o0, ir37_r0, E_17_l2, R_17_l2, ir37_k0, ir37_o0, ir37_r0, fz1, fz2, z3, fz4, fz9, z10, z11, z12, fz13, z14, lz14, xz14, fz15, z16, z18, z20, z22, fz23, ez8]
       ·try simp only [go_sem, n1, n2, n3, n4, z3, z10, z11, z12, z14, z16, z18, z20] at z22
        all_goals
        rcases it_some h with ⟨z24, h⟩ | ⟨z24, h⟩
        ·try simp only [go_sem, n1, n2, n3, n4, z3, z10, z11, z12, z14, z16, z18, z20, z22] at z24
         all_goals
         obtain ⟨y_25, z25, h⟩ := bd_some h
         have fz25 := Fs_13 z25
         try simp only [go_sem, z3, z10, z11, z12, z14, z16, z18, z20, z22, z24] at fz25
         obtain rfl := so_some h
         refine ⟨Lz8, fun L hL => ?_⟩
         have ez8 := ez8 L (by omega)
         try simp only [go_sem, E_17_l1, R_17_l1, ir37_k0, ir37_o0, ir37_r0, E_17_l2, R_17_l2, ir37_k0, ir37_o0, ir37_r0, z3, z10, z11, z12, z14, z16, z18, z20, z22, z24] at ez8
         simp only [go_sem, ir37, E_17_l1, R_17_l1, ir37_k0, ir37_o0, ir37_r0, E_17_l2, R_17_l2, ir37_k0, ir37_o0, ir37_r0, fz1, fz2, z3, fz4, fz9, z10, z11, z12, fz13, z14, lz14, xz14, fz15, z16, z18, z20, z22, z24, fz25, ez8]
        ·try simp only [go_sem, n1, n2, n3, n4, z3, z10, z11, z12, z14, z16, z18, z20, z22] at z24
         all_goals
         obtain rfl := so_some h
         refine ⟨Lz8, fun L hL => ?_⟩
         have ez8 := ez8 L (by omega)
         try simp only [go_sem, E_17_l1, R_17_l1, ir37_k0, ir37_o0, ir37_r0, E_17_l2, R_17_l2, ir37_k0, ir37_o0, ir37_r0, z3, z10, z11, z12, z14, z16, z18, z20, z22, z24] at ez8
         simp only [go_sem, ir37, E_17_l1, R_17_l1, ir37_k0, ir37_o0, ir37_r0, E_17_l2, R_17_l2, ir37_k0, ir37_o0, ir37_r0, fz1, fz2, z3, fz4, fz9, z10, z11, z12, fz13, z14, lz14, xz14, fz15, z16, z18, z20, z22, z24, ez8]
  ·try simp only [go_sem, n1, n2, n3, n4, z3] at z10
   all_goals
   rcases it_some h with ⟨z26, h⟩ | ⟨z26, h⟩
   ·try simp only [go_sem, n1, n2, n3, n4, z3, z10] at z26
    all_goals
    obtain rfl := so_some h
    refine ⟨Lz8, fun L hL => ?_⟩
    have ez8 := ez8 L (by omega)
    try simp only [go_sem, E_17_l1, R_17_l1, ir37_k0, ir37_o0, ir37_r0, E_17_l2, R_17_l2, ir37_k0, ir37_o0, ir37_r0, z3, z10, z26] at ez8
    simp only [go_sem, ir37, E_17_l1, R_17_l1, ir37_k0, ir37_o0, ir37_r0, E_17_l2, R_17_l2, ir37_k0, ir37_o0, ir37_r0, fz1, fz2, z3, fz4, fz9, z10, z26, ez8]
   ·try simp only [go_sem, n1, n2, n3, n4, z3, z10] at z26
    all_goals
    obtain ⟨y_27, z27, h⟩ := bd_some h
    have fz27 := Fs_12 z27
    try simp only [go_sem, z3, z10, z26] at fz27
    obtain ⟨z28, h⟩ := ck_some h
    have lz28 := ix_lt z28
    have xz28 := getD_mapD Rule_av y_8.2 lz28
    try simp only [go_sem] at lz28
    try simp only [go_sem] at xz28
    try simp only [go_sem, n1, n2, n3, n4, z3, z10, z26] at z28
    all_goals
    obtain ⟨y_29, z29, h⟩ := bd_some h
    have fz29 := Fs_12 z29
    try simp only [go_sem, z3, z10, z26, z28] at fz29
    rcases it_some h with ⟨z30, h⟩ | ⟨z30, h⟩
    ·try simp only [go_sem, n1, n2, n3, n4, z3, z10, z26, z28] at z30
     all_goals
     obtain ⟨y_31, z31, h⟩ := bd_some h
     have fz31 := Fs_15 z31
     try simp only [go_sem, z3, z10, z26, z28, z30] at fz31
     obtain rfl := so_some h
     refine ⟨Lz8, fun L hL => ?_⟩
     have ez8 := ez8 L (by omega)
     try simp only [go_sem, E_17_l1, R_17_l1, ir37_k0, ir37_o0, ir37_r0, E_17_l2, R_17_l2, ir37_k0, ir37_o0, ir37_r0, z3, z10, z26, z28, z30] at ez8
     simp only [go_sem, ir37, E_17_l1, R_17_l1, ir37_k0, ir37_o0, ir37_r0, E_17_l2, R_17_l2, ir37_k0, ir37_o0, ir37_r0, fz1, fz2, z3, fz4, fz9, z10, z26, fz27, z28, lz28, xz28, fz29, z30, fz31, ez8]
    ·try simp only [go_sem, n1, n2, n3, n4, z3, z10, z26, z28] at z30
     all_goals
     rcases it_some h with ⟨z32, h⟩ | ⟨z32, h⟩
     ·try simp only [go_sem, n1, n2, n3, n4, z3, z10, z26, z28, z30] at z32
      all_goals
      obtain ⟨y_33, z33, h⟩ := bd_some h
      have fz33 := Fs_13 z33
      try simp only [go_sem, z3, z10, z26, z28, z30, z32] at fz33
      obtain rfl := so_some h
      refine ⟨Lz8, fun L hL => ?_⟩
      have ez8 := ez8 L (by omega)
      try simp only [go_sem, E_17_l1, R_17_l1, ir37_k0, ir37_o0, ir37_r0, E_17_l2, R_17_l2, ir37_k0, ir37_o0, ir37_r0, z3, z10, z26, z28, z30, z32] at ez8
      simp only [go_sem, ir37, E_17_l1, R_17_l1, ir37_k0, ir37_o0, ir37_r0, E_17_l2, R_17_l2, ir37_k0, ir37_o0, ir37_r0, fz1, fz2, z3, fz4, fz9, z10, z26, fz27, z28, lz28, xz28, fz29, z30, z32, fz33, ez8]
     ·try simp only [go_sem, n1, n2, n3, n4, z3, z10, z26, z28, z30] at z32
      all_goals
      rcases it_some h with ⟨z34, h⟩ | ⟨z34, h⟩
      ·try simp only [go_sem, n1, n2, n3, n4, z3, z10, z26, z28, z30, z32] at z34
       all_goals
       obtain ⟨y_35, z35, h⟩ := bd_some h
       have fz35 := Fs_13 z35
       try simp only [go_sem, z3, z10, z26, z28, z30, z32, z34] at fz35
       obtain rfl := so_some h
       refine ⟨Lz8, fun L hL => ?_⟩
       have ez8 := ez8 L (by omega)
       try simp only [go_sem, E_17_l1, R_17_l1, ir37_k0, ir37_o0, ir37_r0, E_17_l2, R_17_l2, ir37_k0, ir37_o0, ir37_r0, z3, z10, z26, z28, z30, z32, z34] at ez8
       simp only [go_sem, ir37, E_17_l1, R_17_l1, ir37_k0, ir37_o0, ir37_r0, E_17_l2, R_17_l2, ir37_k0, ir37_o0, ir37_r0, fz1, fz2, z3, fz4, fz9, z10, z26, fz27, z28, lz28, xz28, fz29, z30, z32, z34, fz35, ez8]
      ·try simp only [go_sem, n1, n2, n3, n4, z3, z10, z26, z28, z30, z32] at z34
       all_goals
       rcases it_some h with ⟨z36, h⟩ | ⟨z36, h⟩
       ·try simp only [go_sem, n1, n2, n3, n4, z3, z10, z26, z28, z30, z32, z34] at z36
        all_goals
        obtain ⟨y_37, z37, h⟩ := bd_some h
        have fz37 := Fs_13 z37
        try simp only [go_sem, z3, z10, z26, z28, z30, z32, z34, z36] at fz37
        obtain rfl := so_some h
        refine ⟨Lz8, fun L hL => ?_⟩
        have ez8 := ez8 L (by omega)
        try simp only [go_sem, E_17_l1, R_17_l1, ir37_k0, ir37_o0, ir37_r0, E_17_l2, R_17_l2, ir37_k0, ir37_o0, ir37_r0, z3, z10, z26, z28, z30, z32, z34, z36] at ez8
        simp only [go_sem, ir37, E_17_l1, R_17_l1, ir37_k0, ir37_o0, ir37_r0, E_17_l2, R_17_l2, ir37_k0, ir37_o0, ir37_r0, fz1, fz2, z3, fz4, fz9, z10, z26, fz27, z28, lz28, xz28, fz29, z30, z32, z34, z36, fz37, ez8]
       ·try simp only [go_sem, n1, n2, n3, n4, z3, z10, z26, z28, z30, z32, z34] at z36
        all_goals
        rcases it_some h with ⟨z38, h⟩ | ⟨z38, h⟩
        ·try simp only [go_sem, n1, n2, n3, n4, z3, z10, z26, z28, z30, z32, z34, z36] at z38
         all_goals
         obtain ⟨y_39, z39, h⟩ := bd_some h
         have fz39 := Fs_13 z39
         try simp only [go_sem, z3, z10, z26, z28, z30, z32, z34, z36, z38] at fz39
         obtain rfl := so_some h
         refine ⟨Lz8, fun L hL => ?_⟩
         have ez8 := ez8 L (by omega)
         try simp only [go_sem, E_17_l1, R_17_l1, ir37_k0, ir37_o0, ir37_r0, E_17_l2, R_17_l2, ir37_k0, ir37_o0, ir37_r0, z3, z10, z26, z28, z30, z32, z34, z36, z38] at ez8
         simp only [go_sem, ir37, E_17_l1, R_17_l1, ir37_k0, ir37_o0, ir37_r0, E_17_l2, R_17_l2, ir37_k0, ir37_o0, ir37_r0, fz1, fz2, z3, fz4, fz9, z10, z26, fz27, z28, lz28, xz28, fz29, z30, z32, z34, z36, z38, fz39, ez8]
        ·try simp only [go_sem, n1, n2, n3, n4, z3, z10, z26, z28, z30, z32, z34, z36] at z38
         all_goals
         obtain rfl := so_some h
         refine ⟨Lz8, fun L hL => ?_⟩
         have ez8 := ez8 L (by omega)
         try simp only [go_sem, E_17_l1, R_17_l1, ir37_k0, ir37_o0, ir37_r0, E_17_l2, R_17_l2, ir37_k0, ir37_o0, ir37_r0, z3, z10, z26, z28, z30, z32, z34, z36, z38] at ez8
         simp only [go_sem, ir37, E_17_l1, R_17_l1, ir37_k0, ir37_o0, ir37_r0, E_17_l2, R_17_l2, ir37_k0, ir37_o0, ir37_r0, fz1, fz2, z3, fz4, fz9, z10, z26, fz27, z28, lz28, xz28, fz29, z30, z32, z34, z36, z38, ez8]
 ·try simp only [go_sem, n1, n2, n3, n4] at z3
  all_goals
  obtain ⟨y_43, z43, h⟩ := bd_some h
  obtain ⟨Lz43, ez43⟩ := spec_l18Bent_l2_ex z43
  obtain ⟨y_44, z44, h⟩ := bd_some h
  have fz44 := Fs_14 z44
  try simp only [go_sem, z3] at fz44
  rcases it_some h with ⟨z45, h⟩ | ⟨z45, h⟩
  ·try simp only [go_sem, n1, n2, n3, n4, z3] at z45
   all_goals
   obtain ⟨z46, h⟩ := ck_some h
   try simp only [go_sem, n1, n2, n3, n4, z3, z45] at z46
   all_goals
   rcases it_some h with ⟨z47, h⟩ | ⟨z47, h⟩
   ·try simp only [go_sem, n1, n2, n3, n4, z3, z45, z46] at z47
    all_goals
    obtain rfl := so_some h
    refine ⟨Lz43, fun L hL => ?_⟩
    have ez43 := ez43 L (by omega)
    try simp only [go_sem, E_17_l1, R_17_l1, ir37_k0, ir37_o0, ir37_r0, E_17_l2, R_17_l2, ir37_k0, ir37_o0, ir37_r0, z3, z45, z46, z47] at ez43
    simp only [go_sem, ir37, E_17_l1, R_17_l1, ir37_k0, ir37_o0, ir37_r0, E_17_l2, R_17_l2, ir37_k0, ir37_o0, ir37_r0, fz1, fz2, z3, fz44, z45, z46, z47, ez43]
   ·try simp only [go_sem, n1, n2, n3, n4, z3, z45, z46] at z47
    all_goals
    obtain ⟨y_48, z48, h⟩ := bd_some h
    have fz48 := Fs_12 z48
    try simp only [go_sem, z3, z45, z46, z47] at fz48
    obtain ⟨z49, h⟩ := ck_some h
    have lz49 := ix_lt z49
    have xz49 := getD_mapD Rule_av (y_43.2 ++ ([(Rule.mk ([114, 101, 115, 116] : List UInt8) 0 20000 0 1000000 0)] : List Rule)) lz49
    try simp only [go_sem] at lz49
    try simp only [go_sem] at xz49
    try simp only [go_sem, n1, n2, n3, n4, z3, z45, z46, z47] at z49
    all_goals
    obtain ⟨y_50, z50, h⟩ := bd_some h
    have fz50 := Fs_12 z50
    try simp only [go_sem, z3, z45, z46, z47, z49] at fz50
    rcases it_some h with ⟨z51, h⟩ | ⟨z51, h⟩
    ·try simp only [go_sem, n1, n2, n3, n4, z3, z45, z46, z47, z49] at z51
     all_goals
     obtain ⟨y_52, z52, h⟩ := bd_some h
     have fz52 := Fs_15 z52
     try simp only [go_sem, z3, z45, z46, z47, z49, z51] at fz52
     obtain rfl := so_some h
     refine ⟨Lz43, fun L hL => ?_⟩
     have ez43 := ez43 L (by omega)
     try simp only [go_sem, E_17_l1, R_17_l1, ir37_k0, ir37_o0, ir37_r0, E_17_l2, R_17_l2, ir37_k0, ir37_o0, ir37_r0, z3, z45, z46, z47, z49, z51] at ez43
     simp only [go_sem, ir37, E_17_l1, R_17_l1, ir37_k0, ir37_o0, ir37_r0, E_17_l2, R_17_l2, ir37_k0, ir37_o0, ir37_r0, fz1, fz2, z3, fz44, z45, z46, z47, fz48, z49, lz49, xz49, fz50, z51, fz52, ez43]
    ·try simp only [go_sem, n1, n2, n3, n4, z3, z45, z46, z47, z49] at z51
     all_goals
     rcases it_some h with ⟨z53, h⟩ | ⟨z53, h⟩
     ·try simp only [go_sem, n1, n2, n3, n4, z3, z45, z46, z47, z49, z51] at z53
      all_goals
      obtain ⟨y_54, z54, h⟩ := bd_some h
      have fz54 := Fs_13 z54
      try simp only [go_sem, z3, z45, z46, z47, z49, z51, z53] at fz54
      obtain rfl := so_some h
      refine ⟨Lz43, fun L hL => ?_⟩
      have ez43 := ez43 L (by omega)
      try simp only [go_sem, E_17_l1, R_17_l1, ir37_k0, ir37_o0, ir37_r0, E_17_l2, R_17_l2, ir37_k0, ir37_o0, ir37_r0, z3, z45, z46, z47, z49, z51, z53] at ez43
      simp only [go_sem, ir37, E_17_l1, R_17_l1, ir37_k0, ir37_o0, ir37_r0, E_17_l2, R_17_l2, ir37_k0, ir37_o0, ir37_r0, fz1, fz2, z3, fz44, z45, z46, z47, fz48, z49, lz49, xz49, fz50, z51, z53, fz54, ez43]
     ·try simp only [go_sem, n1, n2, n3, n4, z3, z45, z46, z47, z49, z51] at z53
      all_goals
      rcases it_some h with ⟨z55, h⟩ | ⟨z55, h⟩
      ·try simp only [go_sem, n1, n2, n3, n4, z3, z45, z46, z47, z49, z51, z53] at z55
       all_goals
       obtain ⟨y_56, z56, h⟩ := bd_some h
       have fz56 := Fs_13 z56
       try simp only [go_sem, z3, z45, z46, z47, z49, z51, z53, z55] at fz56
       obtain rfl := so_some h
       refine ⟨Lz43, fun L hL => ?_⟩
       have ez43 := ez43 L (by omega)
       try simp only [go_sem, E_17_l1, R_17_l1, ir37_k0, ir37_o0, ir37_r0, E_17_l2, R_17_l2, ir37_k0, ir37_o0, ir37_r0, z3, z45, z46, z47, z49, z51, z53, z55] at ez43
       simp only [go_sem, ir37, E_17_l1, R_17_l1, ir37_k0, ir37_o0, ir37_r0, E_17_l2, R_17_l2, ir37_k0, ir37_o0, ir37_r0, fz1, fz2, z3, fz44, z45, z46, z47, fz48, z49, lz49, xz49, fz50, z51, z53, z55, fz56, ez43]
      ·try simp only [go_sem, n1, n2, n3, n4, z3, z45, z46, z47, z49, z51, z53] at z55
       all_goals
       rcases it_some h with ⟨z57, h⟩ | ⟨z57, h⟩
       ·try simp only [go_sem, n1, n2, n3, n4, z3, z45, z46, z47, z49, z51, z53, z55] at z57
        all_goals
        obtain ⟨y_58, z58, h⟩ := bd_some h
        have fz58 := Fs_13 z58
        try simp only [go_sem, z3, z45, z46, z47, z49, z51, z53, z55, z57] at fz58
        obtain rfl := so_some h
        refine ⟨Lz43, fun L hL => ?_⟩
        have ez43 := ez43 L (by omega)
        try simp only [go_sem, E_17_l1, R_17_l1, ir37_k0, ir37_o0, ir37_r0, E_17_l2, R_17_l2, ir37_k0, ir37_o0, ir37_r0, z3, z45, z46, z47, z49, z51, z53, z55, z57] at ez43
        simp only [go_sem, ir37, E_17_l1, R_17_l1, ir37_k0, ir37_o0, ir37_r0, E_17_l2, R_17_l2, ir37_k0, ir37_o0, ir37_r0, fz1, fz2, z3, fz44, z45, z46, z47, fz48, z49, lz49, xz49, fz50, z51, z53, z55, z57, fz58, ez43]
       ·try simp only [go_sem, n1, n2, n3, n4, z3, z45, z46, z47, z49, z51, z53, z55] at z57
        all_goals
        rcases it_some h with ⟨z59, h⟩ | ⟨z59, h⟩
        ·try simp only [go_sem, n1, n2, n3, n4, z3, z45, z46, z47, z49, z51, z53, z55, z57] at z59
         all_goals
         obtain ⟨y_60, z60, h⟩ := bd_some h
         have fz60 := Fs_13 z60
         try simp only [go_sem, z3, z45, z46, z47, z49, z51, z53, z55, z57, z59] at fz60
         obtain rfl := so_some h
         refine ⟨Lz43, fun L hL => ?_⟩
         have ez43 := ez43 L (by omega)
         try simp only [go_sem, E_17_l1, R_17_l1, ir37_k0, ir37_o0, ir37_r0, E_17_l2, R_17_l2, ir37_k0, ir37_o0, ir37_r0, z3, z45, z46, z47, z49, z51, z53, z55, z57, z59] at ez43
         simp only [go_sem, ir37, E_17_l1, R_17_l1, ir37_k0, ir37_o0, ir37_r0, E_17_l2, R_17_l2, ir37_k0, ir37_o0, ir37_r0, fz1, fz2, z3, fz44, z45, z46, z47, fz48, z49, lz49, xz49, fz50, z51, z53, z55, z57, z59, fz60, ez43]
        ·try simp only [go_sem, n1, n2, n3, n4, z3, z45, z46, z47, z49, z51, z53, z55, z57] at z59
         all_goals
         obtain rfl := so_some h
         refine ⟨Lz43, fun L hL => ?_⟩
         have ez43 := ez43 L (by omega)
         try simp only [go_sem, E_17_l1, R_17_l1, ir37_k0, ir37_o0, ir37_r0, E_17_l2, R_17_l2, ir37_k0, ir37_o0, ir37_r0, z3, z45, z46, z47, z49, z51, z53, z55, z57, z59] at ez43
         simp only [go_sem, ir37, E_17_l1, R_17_l1, ir37_k0, ir37_o0, ir37_r0, E_17_l2, R_17_l2, ir37_k0, ir37_o0, ir37_r0, fz1, fz2, z3, fz44, z45, z46, z47, fz48, z49, lz49, xz49, fz50, z51, z53, z55, z57, z59, ez43]
  ·try simp only [go_sem, n1, n2, n3, n4, z3] at z45
   all_goals
   rcases it_some h with ⟨z61, h⟩ | ⟨z61, h⟩
   ·try simp only [go_sem, n1, n2, n3, n4, z3, z45] at z61
    all_goals
    obtain rfl := so_some h
    refine ⟨Lz43, fun L hL => ?_⟩
    have ez43 := ez43 L (by omega)
    try simp only [go_sem, E_17_l1, R_17_l1, ir37_k0, ir37_o0, ir37_r0, E_17_l2, R_17_l2, ir37_k0, ir37_o0, ir37_r0, z3, z45, z61] at ez43
    simp only [go_sem, ir37, E_17_l1, R_17_l1, ir37_k0, ir37_o0, ir37_r0, E_17_l2, R_17_l2, ir37_k0, ir37_o0, ir37_r0, fz1, fz2, z3, fz44, z45, z61, ez43]
   ·try simp only [go_sem, n1, n2, n3, n4, z3, z45] at z61
    all_goals
    obtain ⟨y_62, z62, h⟩ := bd_some h
    have fz62 := Fs_12 z62
    try simp only [go_sem, z3, z45, z61] at fz62
    obtain ⟨z63, h⟩ := ck_some h
    have lz63 := ix_lt z63
    have xz63 := getD_mapD Rule_av y_43.2 lz63
    try simp only [go_sem] at lz63
    try simp only [go_sem] at xz63
    try simp only [go_sem, n1, n2, n3, n4, z3, z45, z61] at z63
    all_goals
    obtain ⟨y_64, z64, h⟩ := bd_some h
    have fz64 := Fs_12 z64
    try simp only [go_sem, z3, z45, z61, z63] at fz64
    rcases it_some h with ⟨z65, h⟩ | ⟨z65, h⟩
    ·try simp only [go_sem, n1, n2, n3, n4, z3, z45, z61, z63] at z65
     all_goals
     obtain ⟨y_66, z66, h⟩ := bd_some h
     have fz66 := Fs_15 z66
     try simp only [go_sem, z3, z45, z61, z63, z65] at fz66
     obtain rfl := so_some h
     refine ⟨Lz43, fun L hL => ?_⟩
     have ez43 := ez43 L (by omega)
     try simp only [go_sem, E_17_l1, R_17_l1, ir37_k0, ir37_o0, ir37_r0, E_17_l2, R_17_l2, ir37_k0, ir37_o0, ir37_r0, z3, z45, z61, z63, z65] at ez43
     simp only [go_sem, ir37, E_17_l1, R_17_l1, ir37_k0, ir37_o0, ir37_r0, E_17_l2, R_17_l2, ir37_k0, ir37_o0, ir37_r0, fz1, fz2, z3, fz44, z45, z61, fz62, z63, lz63, xz63, fz64, z65, fz66, ez43]
    ·try simp only [go_sem, n1, n2, n3, n4, z3, z45, z61, z63] at z65
     all_goals
     rcases it_some h with ⟨z67, h⟩ | ⟨z67, h⟩
     ·try simp only [go_sem, n1, n2, n3, n4, z3, z45, z61, z63, z65] at z67
      all_goals
      obtain ⟨y_68, z68, h⟩ := bd_some h
      have fz68 := Fs_13 z68
      try simp only [go_sem, z3, z45, z61, z63, z65, z67] at fz68
      obtain rfl := so_some h
      refine ⟨Lz43, fun L hL => ?_⟩
      have ez43 := ez43 L (by omega)
      try simp only [go_sem, E_17_l1, R_17_l1, ir37_k0, ir37_o0, ir37_r0, E_17_l2, R_17_l2, ir37_k0, ir37_o0, ir37_r0, z3, z45, z61, z63, z65, z67] at ez43
      simp only [go_sem, ir37, E_17_l1, R_17_l1, ir37_k0, ir37_o0, ir37_r0, E_17_l2, R_17_l2, ir37_k0, ir37_o0, ir37_r0, fz1, fz2, z3, fz44, z45, z61, fz62, z63, lz63, xz63, fz64, z65, z67, fz68, ez43]
     ·try simp only [go_sem, n1, n2, n3, n4, z3, z45, z61, z63, z65] at z67
      all_goals
      rcases it_some h with ⟨z69, h⟩ | ⟨z69, h⟩
      ·try simp only [go_sem, n1, n2, n3, n4, z3, z45, z61, z63, z65, z67] at z69
       all_goals
       obtain ⟨y_70, z70, h⟩ := bd_some h
       have fz70 := Fs_13 z70
       try simp only [go_sem, z3, z45, z61, z63, z65, z67, z69] at fz70
       obtain rfl := so_some h
       refine ⟨Lz43, fun L hL => ?_⟩
       have ez43 := ez43 L (by omega)
       try simp only [go_sem, E_17_l1, R_17_l1, ir37_k0, ir37_o0, ir37_r0, E_17_l2, R_17_l2, ir37_k0, ir37_o0, ir37_r0, z3, z45, z61, z63, z65, z67, z69] at ez43
       simp only [go_sem, ir37, E_17_l1, R_17_l1, ir37_k0, ir37_o0, ir37_r0, E_17_l2, R_17_l2, ir37_k0, ir37_o0, ir37_r0, fz1, fz2, z3, fz44, z45, z61, fz62, z63, lz63, xz63, fz64, z65, z67, z69, fz70, ez43]
      ·try simp only [go_sem, n1, n2, n3, n4, z3, z45, z61, z63, z65, z67] at z69
       all_goals
       rcases it_some h with ⟨z71, h⟩ | ⟨z71, h⟩
       ·try simp only [go_sem, n1, n2, n3, n4, z3, z45, z61, z63, z65, z67, z69] at z71
        all_goals
        obtain ⟨y_72, z72, h⟩ := bd_some h
        have fz72 := Fs_13 z72
        try simp only [go_sem, z3, z45, z61, z63, z65, z67, z69, z71] at fz72
        obtain rfl := so_some h
        refine ⟨Lz43, fun L hL => ?_⟩
        have ez43 := ez43 L (by omega)
        try simp only [go_sem, E_17_l1, R_17_l1, ir37_k0, ir37_o0, ir37_r0, E_17_l2, R_17_l2, ir37_k0, ir37_o0, ir37_r0, z3, z45, z61, z63, z65, z67, z69, z71] at ez43
        simp only [go_sem, ir37, E_17_l1, R_17_l1, ir37_k0, ir37_o0, ir37_r0, E_17_l2, R_17_l2, ir37_k0, ir37_o0, ir37_r0, fz1, fz2, z3, fz44, z45, z61, fz62, z63, lz63, xz63, fz64, z65, z67, z69, z71, fz72, ez43]
       ·try simp only [go_sem, n1, n2, n3, n4, z3, z45, z61, z63, z65, z67, z69] at z71
        all_goals
        rcases it_some h with ⟨z73, h⟩ | ⟨z73, h⟩
        ·try simp only [go_sem, n1, n2, n3, n4, z3, z45, z61, z63, z65, z67, z69, z71] at z73
         all_goals
         obtain ⟨y_74, z74, h⟩ := bd_some h
         have fz74 := Fs_13 z74
         try simp only [go_sem, z3, z45, z61, z63, z65, z67, z69, z71, z73] at fz74
         obtain rfl := so_some h
         refine ⟨Lz43, fun L hL => ?_⟩
         have ez43 := ez43 L (by omega)
         try simp only [go_sem, E_17_l1, R_17_l1, ir37_k0, ir37_o0, ir37_r0, E_17_l2, R_17_l2, ir37_k0, ir37_o0, ir37_r0, z3, z45, z61, z63, z65, z67, z69, z71, z73] at ez43
         simp only [go_sem, ir37, E_17_l1, R_17_l1, ir37_k0, ir37_o0, ir37_r0, E_17_l2, R_17_l2, ir37_k0, ir37_o0, ir37_r0, fz1, fz2, z3, fz44, z45, z61, fz62, z63, lz63, xz63, fz64, z65, z67, z69, z71, z73, fz74, ez43]
        ·try simp only [go_sem, n1, n2, n3, n4, z3, z45, z61, z63, z65, z67, z69, z71] at z73
         all_goals
         obtain rfl := so_some h
         refine ⟨Lz43, fun L hL => ?_⟩
         have ez43 := ez43 L (by omega)
         try simp only [go_sem, E_17_l1, R_17_l1, ir37_k0, ir37_o0, ir37_r0, E_17_l2, R_17_l2, ir37_k0, ir37_o0, ir37_r0, z3, z45, z61, z63, z65, z67, z69, z71, z73] at ez43
         simp only [go_sem, ir37, E_17_l1, R_17_l1, ir37_k0, ir37_o0, ir37_r0, E_17_l2, R_17_l2, ir37_k0, ir37_o0, ir37_r0, fz1, fz2, z3, fz44, z45, z61, fz62, z63, lz63, xz63, fz64, z65, z67, z69, z71, z73, ez43]


def ir19_v : List Nat := [0, 2, 3, 4, 5, 6, 7, 8]
def ir19 : AFn := ⟨1, 8, .seq (.region false [ VO 1 2 (.newnil 6), VO 2 3 (.mov (I6 0)), VO 3 4 (.mov (I6 0))]) (.seq (.region false [ PM 9 0, PO 10 (.call 36 [(.s 0)]), VS 4 5 0]) (.seq (.region false [ PM 11 4, PO 12 (.call 37 [(.s 0)]), VS 5 6 0]) (.seq (.region false [ PM 13 5, PO 14 (.len false (.s 0)), VS 6 7 0]) (.seq (.region false [ PM 15 4, PM 16 6, PO 17 (.bin false .add (.s 0) (I6 1)), PO 18 (.call 38 [(.s 2), (.s 0)]), PM 19 4, PO 20 (.call 38 [(.s 0), (I6 16)]), PO 21 (.bin false .quo (.s 0) (I6 15)), PO 22 (.bin false .sub (.s 3) (.s 0)), VS 7 8 0]) (.seq (.region false [ PM 23
 5, PM 24 7, PM 25 4, PM 26 6, PO 27 (.bin false .add (.s 0) (I6 1)), PO 28 (.call 38 [(.s 2), (.s 0)]), PM 29 4, PO 30 (.call 38 [(.s 0), (I6 16)]), PO 31 (.bin false .quo (.s 0) (I6 15)), PO 32 (.bin false .sub (.s 3) (.s 0)), VS 1 2 9, VS 2 3 8, VS 3 4 0]) (.ret)))))), [.t 1, .t 2, .t 3]⟩
noncomputable def t_18 : List (Nat × Ctr) := [(36, c_10), (37, c_17), (38, c_12)]
theorem lk_18_36 : look t_18 36 = some c_10 := rfl
theorem lk_18_37 : look t_18 37 = some c_17 := rfl
theorem lk_18_38 : look t_18 38 = some c_12 := rfl
noncomputable def c_18 : Ctr := mkF t_18 ir19 [.bor]
theorem s_18 : Sound Try.prog 19 c_18 := mkF_sound _ rfl (snd_cons s_10 (snd_cons s_17 (snd_cons s_12 snd_nil))) (by kernel_rfl : chkFn Try.prog 19 ir19 ir19_v = true)
theorem M_18 : c_18.modes = [.bor] := rfl
theorem Fl_18 : c_18.flat = true := rfl
attribute [go_sem] M_18 Fl_18
attribute [go_sem] lk_18_36 lk_18_37 lk_18_38
theorem Fs_18 {code : List UInt8} {y_ : (List Rule) × Int × Int} (h : spec_l18Two code = some y_) : c_18.F [.sl 1 (List.map byteAV code)] = ⟨true, .tup [.fresh 6 (List.map Rule_av y_.1), .int .i64 y_.2.1, .int .i64 y_.2.2], [.any]⟩ := by
 refine mkF_E (by simp only [flatA, flatB, flat1, List.all_cons, List.all_nil, Bool.and_self, flatE_map (f := Rule_av) (fun _ => rfl)]) ?_
 dsimp only [spec_l18Two] at h
 obtain ⟨y_1, z1, h⟩ := bd_some h
 have fz1 := Fs_10 z1
 try simp only [go_sem] at fz1
 obtain ⟨y_2, z2, h⟩ := bd_some h
 have fz2 := Fs_17 z2
 try simp only [go_sem] at fz2
 obtain ⟨y_3, z3, h⟩ := bd_some h
 have fz3 := Fs_12 z3
 try simp only [go_sem] at fz3
 obtain ⟨y_4, z4, h⟩ := bd_some h
 have fz4 := Fs_12 z4
 try simp only [go_sem] at fz4
 obtain ⟨z5, h⟩ := ck_some h
 try simp only [go_sem, n1, n2, n3, n4] at z5
 all_goals
 obtain ⟨y_6, z6, h⟩ := bd_some h
 have fz6 := Fs_12 z6
 try simp only [go_sem, z5] at fz6
 obtain ⟨y_7, z7, h⟩ := bd_some h
 have fz7 := Fs_12 z7
 try simp only [go_sem, z5] at fz7
 obtain rfl := so_some h
 refine ⟨0, fun L hL => ?_⟩
 simp only [go_sem, ir19, fz1, fz2, fz3, fz4, z5, fz6, fz7]


def ir5_v : List Nat := [0, 2, 3, 4, 5]
def ir5 : AFn := ⟨1, 5, .seq (.region false [ VO 1 2 (.newnil 6), VO 2 3 (.mov (I6 0))]) (.seq (.region false [ PM 8 0, PO 9 (.call 19 [(.s 0)]), PO 7 (.mov (.s 0)), PO 10 (.ext (.s 0) 0), PO 11 (.ext (.s 1) 1), PO 12 (.ext (.s 2) 2), VS 3 4 2, VS 4 5 1, PO 6 (.mov (.s 0))]) (.seq (.region false [ PM 13 3, PM 14 4, VS 1 2 1, VS 2 3 0]) (.ret))), [.t 1, .t 2]⟩
noncomputable def t_19 : List (Nat × Ctr) := [(19, c_18)]
theorem lk_19_19 : look t_19 19 = some c_18 := rfl
noncomputable def c_19 : Ctr := mkF t_19 ir5 [.bor]
theorem s_19 : Sound Try.prog 5 c_19 := mkF_sound _ rfl (snd_cons s_18 snd_nil) (by kernel_rfl : chkFn Try.prog 5 ir5 ir5_v = true)
theorem M_19 : c_19.modes = [.bor] := rfl
theorem Fl_19 : c_19.flat = true := rfl
attribute [go_sem] M_19 Fl_19
attribute [go_sem] lk_19_19
theorem Fs_19 {code : List UInt8} {y_ : (List Rule) × Int} (h : spec_DrawFactsFor code = some y_) : c_19.F [.sl 1 (List.map byteAV code)] = ⟨true, .tup [.fresh 6 (List.map Rule_av y_.1), .int .i64 y_.2], [.any]⟩ := by
 refine mkF_E (by simp only [flatA, flatB, flat1, List.all_cons, List.all_nil, Bool.and_self, flatE_map (f := Rule_av) (fun _ => rfl)]) ?_
 dsimp only [spec_DrawFactsFor] at h
 obtain ⟨y_1, z1, h⟩ := bd_some h
 have fz1 := Fs_18 z1
 try simp only [go_sem] at fz1
 obtain rfl := so_some h
 refine ⟨0, fun L hL => ?_⟩
 simp only [go_sem, ir5, fz1]


def ir43_v : List Nat := [0, 1, 2, 3]
def ir43 : AFn := ⟨1, 4, .seq (.region false [ VO 1 1 (.box (.v 0)), VO 2 2 (.mov (I6 0)), VO 3 3 (.mov (I6 0))]) (.seq (.anyo 4 [ SO 0 4 (.fldAddr 1 (.v 1)), SO 1 5 (.load false 1 (.s 0)), SO 2 6 (.fldAddr 2 (.v 1)), SO 3 7 (.load false 1 (.s 2)), VS 2 2 1, VS 3 3 3] [] .skip) (.ret)), [.t 2, .t 3]⟩
noncomputable def t_20 : List (Nat × Ctr) := []
noncomputable def c_20 : Ctr := mkF t_20 ir43 [.bor]
theorem s_20 : Sound Try.prog 43 c_20 := mkF_sound _ rfl snd_nil (by kernel_rfl : chkFn Try.prog 43 ir43 ir43_v = true)
theorem M_20 : c_20.modes = [.bor] := rfl
theorem Fl_20 : c_20.flat = true := rfl
attribute [go_sem] M_20 Fl_20
theorem Fs_20 {r : Rule} {y_ : Int × Int} (h : impl_factsFor_c1 r = some y_) : c_20.F [Rule_av r] = ⟨true, .tup [.int .i64 y_.1, .int .i64 y_.2], [.any]⟩ := by
 refine mkF_E rfl ?_
 dsimp only [impl_factsFor_c1] at h
 obtain rfl := so_some h
 refine ⟨0, fun L hL => ?_⟩
 simp only [go_sem, ir43]


def ir59_v : List Nat := [0, 1, 3]
def ir59 : AFn := ⟨2, 3, .seq (.region false [ VO 2 3 (.mov (.c (.bool false)))]) (.seq (.region false [ PM 4 0, PO 5 (.load false 1 (.v 1)), PO 6 (.bin false .leq (.s 1) (.s 0)), VS 2 3 0]) (.ret)), [.t 2]⟩
noncomputable def t_21 : List (Nat × Ctr) := []
noncomputable def c_21 : Ctr := mkF t_21 ir59 [.bor, .bor]
theorem s_21 : Sound Try.prog 59 c_21 := mkF_sound _ rfl snd_nil (by kernel_rfl : chkFn Try.prog 59 ir59 ir59_v = true)
theorem M_21 : c_21.modes = [.bor, .bor] := rfl
theorem Fl_21 : c_21.flat = true := rfl
attribute [go_sem] M_21 Fl_21
theorem Fs_21 {n : Int} {t1 : Int} {y_ : Bool} (h : impl_corners_c1 n t1 = some y_) : c_21.F [.int .i64 n, .ptr 1 [.int .i64 t1] 0 0] = ⟨true, .bool y_, [.any, .any]⟩ := by
 refine mkF_E rfl ?_
 dsimp only [impl_corners_c1] at h
 obtain rfl := so_some h
 refine ⟨0, fun L hL => ?_⟩
 simp only [go_sem, ir59]


def ir58_b0 : IR := .seq (.region false [ VO 8 12 (.bin false .lss (.v 7) (.v 6))]) (.seq (.cond (.v 8) (.skip) (.exit 0)) (.seq (.block 1 (.seq (.region false [ PO 13 (.ixAddr 1 (.v 5) (.v 7)), PO 14 (.load false 1 (.s 0)), VS 4 7 0]) (.test false [ PM 15 1, PM 16 4, PO 17 (.callv (.s 1) [(.s 0)])] (.s 0) (.region false [ PM 18 3, PM 19 4, PO 20 (.mkSl 1 (.int .i64 (0)) 1 [(0, (.s 0))]), PO 21 (.app 1 8 (.int .i64 (0)) (.s 2) (.s 0)), VS 3 5 0]) (.skip)))) (.region false [ PO 22 (.bin false .add (.v 7) (I6 1)), VS 7 11 0])))
def ir58_k0 : List Bool := [false, true, false, true, false, true, true, true, false]
def ir58_o0 : List Bool := [false, false, false, true, false, false, false, false, false]
def ir58_r0 : List Bool := [false, false, true, false, false, false, false, false, false]
def ir58_v : List Nat := [0, 1, 4, 5, 7, 9, 10, 11, 12]
def ir58 : AFn := ⟨2, 9, .seq (.region false [ VO 2 4 (.newnil 1)]) (.seq (.region false [ PO 8 (.mkSl 1 (.int .i64 (0)) 0 []), VS 3 5 0]) (.seq (.seq (.region false [ VO 5 9 (.mov (.v 0)), VO 6 10 (.len false (.v 5)), VO 7 11 (.mov (I6 0))]) (.block 0 (.loop ir58_k0 ir58_o0 ir58_r0 ir58_b0))) (.seq (.region false [ PM 23 3, VS 2 4 0]) (.ret)))), [.t 2]⟩
noncomputable def t_22 : List (Nat × Ctr) := [(59, c_21)]
theorem lk_22_59 : look t_22 59 = some c_21 := rfl
noncomputable def c_22 : Ctr := mkF t_22 ir58 [.bor, .bor]
theorem s_22 : Sound Try.prog 58 c_22 := mkF_sound _ rfl (snd_cons s_21 snd_nil) (by kernel_rfl : chkFn Try.prog 58 ir58 ir58_v = true)
theorem M_22 : c_22.modes = [.bor, .bor] := rfl
theorem Fl_22 : c_22.flat = true := rfl
attribute [go_sem] M_22 Fl_22
attribute [go_sem] lk_22_59
def E_22_l1 (c : Int) (t9 : List Int) (t10 : Int) : ((List Int) × Int) → St
 | (out, t11) => ⟨[.any, .fn (.func 59) [] [.ptr 1 [.int .i64 c] 0 0], .any, .own 3200000, .any, .sl 1 (List.map (AV.int .i64) t9), .int .i64 t10, .int .i64 t11, .any], [], [(3200000, ⟨1, List.map (AV.int .i64) out⟩)], true⟩
def R_22_l1 (c : Int) (t9 : List Int) (t10 : Int) (y : (List Int)) : Res := (.exit 0, ⟨[.any, .any, .any, .own 3200000, .any, .any, .any, .any, .any], [], [(3200000, ⟨1, List.map (AV.int .i64) y⟩)], true⟩)
theorem impl_chosen_int64__impl_corners_c1_l1_ex {c : Int} {t9 : List Int} {t10 : Int} {sgm_ : (List Int) × Int} {rho_ : (List Int)} (h : whileE (impl_chosen_int64__impl_corners_c1_l1 c t9 t10) sgm_ = some rho_) : ∃ L0, ∀ L, L0 ≤ L → iter (exec (look t_22) L ir58_b0) ir58_k0 ir58_o0 ir58_r0 L (E_22_l1 c t9 t10 sgm_) = R_22_l1 c t9 t10 rho_ := by
 refine loop_ex (E := E_22_l1 c t9 t10) (R := R_22_l1 c t9 t10) (fun y => by first | (intro c; cases c) | (rcases y with y | y <;> (intro c; cases c)) | (rcases y with y | y | y <;> (intro c; cases c))) ?_ h
 clear h
 rintro ⟨out, t11⟩ o_ h
 dsimp only [impl_chosen_int64__impl_corners_c1_l1] at h
 rcases it_some h with ⟨z1, h⟩ | ⟨z1, h⟩
 ·try simp only [go_sem, n1, n2, n3, n4] at z1
  all_goals
  obtain ⟨z2, h⟩ := ck_some h
  have lz2 := ix_lt z2
  have xz2 := getD_mapD (AV.int .i64) t9 lz2
  try simp only [go_sem] at lz2
  try simp only [go_sem] at xz2
  try simp only [go_sem, n1, n2, n3, n4, z1] at z2
  all_goals
  obtain ⟨y_3, z3, h⟩ := bd_some h
  have fz3 := Fs_21 z3
  try simp only [go_sem, z1, z2] at fz3
  rcases it_some h with ⟨z4, h⟩ | ⟨z4, h⟩
  ·try simp only [go_sem, n1, n2, n3, n4, z1, z2] at z4
   all_goals
   obtain ⟨z5, h⟩ := ck_some h
   try simp only [go_sem, n1, n2, n3, n4, z1, z2, z4] at z5
   all_goals
   obtain rfl := so_some h
   refine ⟨0, fun L hL => ?_⟩
   simp only [go_sem, ir58, E_22_l1, R_22_l1, ir58_b0, ir58_k0, ir58_o0, ir58_r0, z1, z2, lz2, xz2, fz3, z4, z5]
  ·try simp only [go_sem, n1, n2, n3, n4, z1, z2] at z4
   all_goals
   obtain rfl := so_some h
   refine ⟨0, fun L hL => ?_⟩
   simp only [go_sem, ir58, E_22_l1, R_22_l1, ir58_b0, ir58_k0, ir58_o0, ir58_r0, z1, z2, lz2, xz2, fz3, z4]
 ·try simp only [go_sem, n1, n2, n3, n4] at z1
  all_goals
  obtain rfl := so_some h
  refine ⟨0, fun L hL => ?_⟩
  simp only [go_sem, ir58, E_22_l1, R_22_l1, ir58_b0, ir58_k0, ir58_o0, ir58_r0, z1]

theorem Fs_22 {list : List Int} {wanted_c0 : Int} {y_ : (List Int)} (h : impl_chosen_int64__impl_corners_c1 list wanted_c0 = some y_) : c_22.F [.sl 1 (List.map (AV.int .i64) list), .fn (.func 59) [] [.ptr 1 [.int .i64 wanted_c0] 0 0]] = ⟨true, .fresh 1 (List.map (AV.int .i64) y_), [.any, .any]⟩ := by
 refine mkF_E (by simp only [flatA, flatB, flat1, List.all_cons, List.all_nil, Bool.and_self, flatE_map (f := (AV.int .i64)) (fun _ => rfl)]) ?_
 dsimp only [impl_chosen_int64__impl_corners_c1] at h
 obtain ⟨y_6, z6, h⟩ := bd_some h
 obtain ⟨Lz6, ez6⟩ := impl_chosen_int64__impl_corners_c1_l1_ex z6
 obtain rfl := so_some h
 refine ⟨Lz6, fun L hL => ?_⟩
 have ez6 := ez6 L (by omega)
 try simp only [go_sem, E_22_l1, R_22_l1, ir58_k0, ir58_o0, ir58_r0] at ez6
 simp only [go_sem, ir58, E_22_l1, R_22_l1, ir58_k0, ir58_o0, ir58_r0, ez6]


theorem s_hSortI : Sound Try.prog 60 c_hSortI := hSortI_is

theorem s_hCompactI : Sound Try.prog 61 c_hCompactI := hCompactI_is

def ir42_b0 : IR := .seq (.region false [ VO 12 16 (.bin false .lss (.v 11) (.v 10))]) (.seq (.cond (.v 12) (.skip) (.exit 0)) (.seq (.block 1 (.seq (.region false [ PO 17 (.ixAddr 6 (.v 9) (.v 11)), PO 18 (.load true 6 (.s 0)), VO 6 9 (.alloc (.agg [.str [], .int .i64 (0), .int .i64 (0), .int .i64 (0), .int .i64 (0), .int .i64 (0)])), ⟨.no, 0, none, .store 6 (.v 6) (.s 0)⟩]) (.seq (.region false [ PM 20 2, PO 21 (.load true 6 (.v 6)), PO 22 (.callv (.s 1) [(.s 0)]), PO 19 (.mov (.s 0)), PO 23 (.ext (.s 0) 0), PO 24 (.ext (.s 1) 1), VS 7 10 1, VS 8 11 0]) (.region false [ PM 25 5, PM 26 7, PM
 27 8, PO 28 (.bin false .add (.s 0) (I6 1)), PO 29 (.mkSl 1 (.int .i64 (0)) 2 [(0, (.s 2)), (1, (.s 0))]), PO 30 (.app 1 8 (.int .i64 (0)) (.s 4) (.s 0)), VS 5 7 0])))) (.region false [ PO 31 (.bin false .add (.v 11) (I6 1)), VS 11 15 0])))
def ir42_k0 : List Bool := [false, false, true, true, false, true, false, false, false, true, true, true, false]
def ir42_o0 : List Bool := [false, false, false, true, false, true, false, false, false, false, false, false, false]
def ir42_r0 : List Bool := [false, false, false, false, true, false, false, false, false, false, false, false, false]
def ir42_v : List Nat := [0, 1, 2, 4, 6, 7, 9, 10, 11, 13, 14, 15, 16]
def ir42 : AFn := ⟨3, 13, .seq (.region false [ VO 3 4 (.box (.v 1)), VO 4 6 (.newnil 1)]) (.seq (.region false [ PO 12 (.mkSl 1 (.int .i64 (0)) 1 [(0, (I6 0))]), VS 5 7 0]) (.seq (.seq (.region false [ VO 9 13 (.mov (.v 0)), VO 10 14 (.len false (.v 9)), VO 11 15 (.mov (I6 0))]) (.block 0 (.loop ir42_k0 ir42_o0 ir42_r0 ir42_b0))) (.seq (.region false [ PM 32 5, PO 33 (.mkFn (.func 59) [] [(.v 3)]), PO 34 (.call 58 [(.s 1), (.s 0)]), VS 5 7 0]) (.seq (.region false [ PM 35 5, PO 36 (.call 60 [(.s 0)])]) (.seq (.region false [ PM 37 5, PO 38 (.call 61 [(.s 0)]), VS 4 6 0]) (.ret)))))), [.t 4]⟩
noncomputable def t_25 : List (Nat × Ctr) := [(43, c_20), (58, c_22), (60, c_hSortI), (61, c_hCompactI)]
theorem lk_25_43 : look t_25 43 = some c_20 := rfl
theorem lk_25_58 : look t_25 58 = some c_22 := rfl
theorem lk_25_60 : look t_25 60 = some c_hSortI := rfl
theorem lk_25_61 : look t_25 61 = some c_hCompactI := rfl
noncomputable def c_25 : Ctr := mkF t_25 ir42 [.bor, .bor, .bor]
theorem s_25 : Sound Try.prog 42 c_25 := mkF_sound _ rfl (snd_cons s_20 (snd_cons s_22 (snd_cons s_hSortI (snd_cons s_hCompactI snd_nil)))) (by kernel_rfl : chkFn Try.prog 42 ir42 ir42_v = true)
theorem M_25 : c_25.modes = [.bor, .bor, .bor] := rfl
theorem Fl_25 : c_25.flat = true := rfl
attribute [go_sem] M_25 Fl_25
attribute [go_sem] lk_25_43 lk_25_58 lk_25_60 lk_25_61
def E_25_l1 (most : Int) (t13 : List Rule) (t14 : Int) : ((List Int) × Int) → St
 | (out, t15) => ⟨[.any, .any, .fn (.func 43) [] [], .ref 3200000 0 0, .any, .own 3200032, .any, .any, .any, .sl 6 (List.map Rule_av t13), .int .i64 t14, .int .i64 t15, .any], [], [(3200000, ⟨1, [.int .i64 most]⟩), (3200032, ⟨1, List.map (AV.int .i64) out⟩)], true⟩
def R_25_l1 (most : Int) (t13 : List Rule) (t14 : Int) (y : (List Int)) : Res := (.exit 0, ⟨[.any, .any, .any, .ref 3200000 0 0, .any, .own 3200032, .any, .any, .any, .any, .any, .any, .any], [], [(3200000, ⟨1, [.int .i64 most]⟩), (3200032, ⟨1, List.map (AV.int .i64) y⟩)], true⟩)
theorem impl_corners__impl_factsFor_c1_l1_ex {most : Int} {t13 : List Rule} {t14 : Int} {sgm_ : (List Int) × Int} {rho_ : (List Int)} (h : whileE (impl_corners__impl_factsFor_c1_l1 most t13 t14) sgm_ = some rho_) : ∃ L0, ∀ L, L0 ≤ L → iter (exec (look t_25) L ir42_b0) ir42_k0 ir42_o0 ir42_r0 L (E_25_l1 most t13 t14 sgm_) = R_25_l1 most t13 t14 rho_ := by
 refine loop_ex (E := E_25_l1 most t13 t14) (R := R_25_l1 most t13 t14) (fun y => by first | (intro c; cases c) | (rcases y with y | y <;> (intro c; cases c)) | (rcases y with y | y | y <;> (intro c; cases c))) ?_ h
 clear h
 rintro ⟨out, t15⟩ o_ h
 dsimp only [impl_corners__impl_factsFor_c1_l1] at h
 rcases it_some h with ⟨z1, h⟩ | ⟨z1, h⟩
 ·try simp only [go_sem, n1, n2, n3, n4] at z1
  all_goals
  obtain ⟨z2, h⟩ := ck_some h
  have lz2 := ix_lt z2
  have xz2 := getD_mapD Rule_av t13 lz2
  try simp only [go_sem] at lz2
  try simp only [go_sem] at xz2
  try simp only [go_sem, n1, n2, n3, n4, z1] at z2
  all_goals
  obtain ⟨y_3, z3, h⟩ := bd_some h
  have fz3 := Fs_20 z3
  try simp only [go_sem, z1, z2] at fz3
  obtain ⟨z4, h⟩ := ck_some h
  try simp only [go_sem, n1, n2, n3, n4, z1, z2] at z4
  all_goals
  obtain rfl := so_some h
  refine ⟨0, fun L hL => ?_⟩
  simp only [go_sem, ir42, E_25_l1, R_25_l1, ir42_b0, ir42_k0, ir42_o0, ir42_r0, z1, z2, lz2, xz2, fz3, z4]
 ·try simp only [go_sem, n1, n2, n3, n4] at z1
  all_goals
  obtain rfl := so_some h
  refine ⟨0, fun L hL => ?_⟩
  simp only [go_sem, ir42, E_25_l1, R_25_l1, ir42_b0, ir42_k0, ir42_o0, ir42_r0, z1]

theorem Fs_25 {list : List Rule} {most : Int} {y_ : (List Int)} (h : impl_corners__impl_factsFor_c1 list most = some y_) : c_25.F [.sl 6 (List.map Rule_av list), .int .i64 most, .fn (.func 43) [] []] = ⟨true, .fresh 1 (List.map (AV.int .i64) y_), [.any, .any, .any]⟩ := by
 refine mkF_E (by simp only [flatA, flatB, flat1, List.all_cons, List.all_nil, Bool.and_self, flatE_map (f := (AV.int .i64)) (fun _ => rfl)]) ?_
 dsimp only [impl_corners__impl_factsFor_c1] at h
 obtain ⟨y_5, z5, h⟩ := bd_some h
 obtain ⟨Lz5, ez5⟩ := impl_corners__impl_factsFor_c1_l1_ex z5
 obtain ⟨y_6, z6, h⟩ := bd_some h
 have fz6 := Fs_22 z6
 try simp only [go_sem] at fz6
 obtain ⟨y_7, z7, h⟩ := bd_some h
 have fz7 := Fs_hSortI z7
 try simp only [go_sem] at fz7
 obtain ⟨y_8, z8, h⟩ := bd_some h
 have fz8 := Fs_hCompactI z8
 try simp only [go_sem] at fz8
 obtain rfl := so_some h
 refine ⟨Lz5, fun L hL => ?_⟩
 have ez5 := ez5 L (by omega)
 try simp only [go_sem, E_25_l1, R_25_l1, ir42_k0, ir42_o0, ir42_r0] at ez5
 simp only [go_sem, ir42, E_25_l1, R_25_l1, ir42_k0, ir42_o0, ir42_r0, fz6, fz7, fz8, ez5]


def ir44_v : List Nat := [0, 1, 2, 3]
def ir44 : AFn := ⟨1, 4, .seq (.region false [ VO 1 1 (.box (.v 0)), VO 2 2 (.mov (I6 0)), VO 3 3 (.mov (I6 0))]) (.seq (.anyo 4 [ SO 0 4 (.fldAddr 3 (.v 1)), SO 1 5 (.load false 1 (.s 0)), SO 2 6 (.fldAddr 4 (.v 1)), SO 3 7 (.load false 1 (.s 2)), VS 2 2 1, VS 3 3 3] [] .skip) (.ret)), [.t 2, .t 3]⟩
noncomputable def t_26 : List (Nat × Ctr) := []
noncomputable def c_26 : Ctr := mkF t_26 ir44 [.bor]
theorem s_26 : Sound Try.prog 44 c_26 := mkF_sound _ rfl snd_nil (by kernel_rfl : chkFn Try.prog 44 ir44 ir44_v = true)
theorem M_26 : c_26.modes = [.bor] := rfl
theorem Fl_26 : c_26.flat = true := rfl
attribute [go_sem] M_26 Fl_26
theorem Fs_26 {r : Rule} {y_ : Int × Int} (h : impl_factsFor_c2 r = some y_) : c_26.F [Rule_av r] = ⟨true, .tup [.int .i64 y_.1, .int .i64 y_.2], [.any]⟩ := by
 refine mkF_E rfl ?_
 dsimp only [impl_factsFor_c2] at h
 obtain rfl := so_some h
 refine ⟨0, fun L hL => ?_⟩
 simp only [go_sem, ir44]


noncomputable def t_27 : List (Nat × Ctr) := [(44, c_26), (58, c_22), (60, c_hSortI), (61, c_hCompactI)]
theorem lk_27_44 : look t_27 44 = some c_26 := rfl
theorem lk_27_58 : look t_27 58 = some c_22 := rfl
theorem lk_27_60 : look t_27 60 = some c_hSortI := rfl
theorem lk_27_61 : look t_27 61 = some c_hCompactI := rfl
noncomputable def c_27 : Ctr := mkF t_27 ir42 [.bor, .bor, .bor]
theorem s_27 : Sound Try.prog 42 c_27 := mkF_sound _ rfl (snd_cons s_26 (snd_cons s_22 (snd_cons s_hSortI (snd_cons s_hCompactI snd_nil)))) (by kernel_rfl : chkFn Try.prog 42 ir42 ir42_v = true)
theorem M_27 : c_27.modes = [.bor, .bor, .bor] := rfl
theorem Fl_27 : c_27.flat = true := rfl
attribute [go_sem] M_27 Fl_27
attribute [go_sem] lk_27_44 lk_27_58 lk_27_60 lk_27_61
def E_27_l1 (most : Int) (t13 : List Rule) (t14 : Int) : ((List Int) × Int) → St
 | (out, t15) => ⟨[.any, .any, .fn (.func 44) [] [], .ref 3200000 0 0, .any, .own 3200032, .any, .any, .any, .sl 6 (List.map Rule_av t13), .int .i64 t14, .int .i64 t15, .any], [], [(3200000, ⟨1, [.int .i64 most]⟩), (3200032, ⟨1, List.map (AV.int .i64) out⟩)], true⟩
def R_27_l1 (most : Int) (t13 : List Rule) (t14 : Int) (y : (List Int)) : Res := (.exit 0, ⟨[.any, .any, .any, .ref 3200000 0 0, .any, .own 3200032, .any, .any, .any, .any, .any, .any, .any], [], [(3200000, ⟨1, [.int .i64 most]⟩), (3200032, ⟨1, List.map (AV.int .i64) y⟩)], true⟩)
theorem impl_corners__impl_factsFor_c2_l1_ex {most : Int} {t13 : List Rule} {t14 : Int} {sgm_ : (List Int) × Int} {rho_ : (List Int)} (h : whileE (impl_corners__impl_factsFor_c2_l1 most t13 t14) sgm_ = some rho_) : ∃ L0, ∀ L, L0 ≤ L → iter (exec (look t_27) L ir42_b0) ir42_k0 ir42_o0 ir42_r0 L (E_27_l1 most t13 t14 sgm_) = R_27_l1 most t13 t14 rho_ := by
 refine loop_ex (E := E_27_l1 most t13 t14) (R := R_27_l1 most t13 t14) (fun y => by first | (intro c; cases c) | (rcases y with y | y <;> (intro c; cases c)) | (rcases y with y | y | y <;> (intro c; cases c))) ?_ h
 clear h
 rintro ⟨out, t15⟩ o_ h
 dsimp only [impl_corners__impl_factsFor_c2_l1] at h
 rcases it_some h with ⟨z1, h⟩ | ⟨z1, h⟩
 ·try simp only [go_sem, n1, n2, n3, n4] at z1
  all_goals
  obtain ⟨z2, h⟩ := ck_some h
  have lz2 := ix_lt z2
  have xz2 := getD_mapD Rule_av t13 lz2
  try simp only [go_sem] at lz2
  try simp only [go_sem] at xz2
  try simp only [go_sem, n1, n2, n3, n4, z1] at z2
  all_goals
  obtain ⟨y_3, z3, h⟩ := bd_some h
  have fz3 := Fs_26 z3
  try simp only [go_sem, z1, z2] at fz3
  obtain ⟨z4, h⟩ := ck_some h
  try simp only [go_sem, n1, n2, n3, n4, z1, z2] at z4
  all_goals
  obtain rfl := so_some h
  refine ⟨0, fun L hL => ?_⟩
  simp only [go_sem, ir42, E_27_l1, R_27_l1, ir42_b0, ir42_k0, ir42_o0, ir42_r0, z1, z2, lz2, xz2, fz3, z4]
 ·try simp only [go_sem, n1, n2, n3, n4] at z1
  all_goals
  obtain rfl := so_some h
  refine ⟨0, fun L hL => ?_⟩
  simp only [go_sem, ir42, E_27_l1, R_27_l1, ir42_b0, ir42_k0, ir42_o0, ir42_r0, z1]

theorem Fs_27 {list : List Rule} {most : Int} {y_ : (List Int)} (h : impl_corners__impl_factsFor_c2 list most = some y_) : c_27.F [.sl 6 (List.map Rule_av list), .int .i64 most, .fn (.func 44) [] []] = ⟨true, .fresh 1 (List.map (AV.int .i64) y_), [.any, .any, .any]⟩ := by
 refine mkF_E (by simp only [flatA, flatB, flat1, List.all_cons, List.all_nil, Bool.and_self, flatE_map (f := (AV.int .i64)) (fun _ => rfl)]) ?_
 dsimp only [impl_corners__impl_factsFor_c2] at h
 obtain ⟨y_5, z5, h⟩ := bd_some h
 obtain ⟨Lz5, ez5⟩ := impl_corners__impl_factsFor_c2_l1_ex z5
 obtain ⟨y_6, z6, h⟩ := bd_some h
 have fz6 := Fs_22 z6
 try simp only [go_sem] at fz6
 obtain ⟨y_7, z7, h⟩ := bd_some h
 have fz7 := Fs_hSortI z7
 try simp only [go_sem] at fz7
 obtain ⟨y_8, z8, h⟩ := bd_some h
 have fz8 := Fs_hCompactI z8
 try simp only [go_sem] at fz8
 obtain rfl := so_some h
 refine ⟨Lz5, fun L hL => ?_⟩
 have ez5 := ez5 L (by omega)
 try simp only [go_sem, E_27_l1, R_27_l1, ir42_k0, ir42_o0, ir42_r0] at ez5
 simp only [go_sem, ir42, E_27_l1, R_27_l1, ir42_k0, ir42_o0, ir42_r0, fz6, fz7, fz8, ez5]


def ir32_v : List Nat := [0, 1, 2, 3, 4]
def ir32 : AFn := ⟨2, 5, .seq (.region false [ VO 2 2 (.box (.v 0)), VO 3 3 (.box (.v 1)), VO 4 4 (.mov (.c (.bool false)))]) (.seq (.region false [ PO 5 (.fldAddr 0 (.v 3)), PO 6 (.load false 1 (.s 0)), PO 7 (.fldAddr 1 (.v 2)), PO 8 (.load false 1 (.s 0)), PO 9 (.fldAddr 2 (.v 2)), PO 10 (.load false 1 (.s 0)), PO 11 (.call 21 [(.s 4), (.s 2), (.s 0)]), PO 12 (.mov (.s 0)), ⟨.push, 13, (some ((.s 0), true)), .fldAddr 1 (.v 3)⟩, ⟨.push, 14, (some ((.s 1), true)), .load false 1 (.s 0)⟩, ⟨.push, 15, (some ((.s 2), true)), .fldAddr 3 (.v 2)⟩, ⟨.push, 16, (some ((.s 3), true)), .load false 1 (.s
 0)⟩, ⟨.push, 17, (some ((.s 4), true)), .fldAddr 4 (.v 2)⟩, ⟨.push, 18, (some ((.s 5), true)), .load false 1 (.s 0)⟩, ⟨.push, 19, (some ((.s 6), true)), .call 21 [(.s 4), (.s 2), (.s 0)]⟩, PO 20 (.pick (.s 7) (.s 0) (.c (.bool false))), PO 21 (.mov (.s 0)), ⟨.push, 22, (some ((.s 0), true)), .fldAddr 5 (.v 2)⟩, ⟨.push, 23, (some ((.s 1), true)), .load false 1 (.s 0)⟩, ⟨.push, 24, (some ((.s 2), true)), .bin false .eql (.s 0) (I6 0)⟩, ⟨.push, 25, (some ((.s 3), true)), .mov (.s 0)⟩, ⟨.push, 26, (some ((.s 0), false)), .fldAddr 5 (.v 2)⟩, ⟨.push, 27, (some ((.s 1), false)), .load false 1 (.s
 0)⟩, ⟨.push, 28, (some ((.s 2), false)), .fldAddr 2 (.v 3)⟩, ⟨.push, 29, (some ((.s 3), false)), .load false 1 (.s 0)⟩, ⟨.push, 30, (some ((.s 4), false)), .bin false .eql (.s 2) (.s 0)⟩, ⟨.push, 31, (some ((.s 9), true)), .pick (.s 5) (.c (.bool true)) (.s 0)⟩, PO 32 (.pick (.s 10) (.s 0) (.c (.bool false))), VS 4 4 0]) (.ret)), [.t 4]⟩
noncomputable def t_28 : List (Nat × Ctr) := [(21, c_1)]
theorem lk_28_21 : look t_28 21 = some c_1 := rfl
noncomputable def c_28 : Ctr := mkF t_28 ir32 [.bor, .bor]
theorem s_28 : Sound Try.prog 32 c_28 := mkF_sound _ rfl (snd_cons s_1 snd_nil) (by kernel_rfl : chkFn Try.prog 32 ir32 ir32_v = true)
theorem M_28 : c_28.modes = [.bor, .bor] := rfl
theorem Fl_28 : c_28.flat = true := rfl
attribute [go_sem] M_28 Fl_28
attribute [go_sem] lk_28_21
theorem Fs_28 {r : Rule} {f : Facts} {y_ : Bool} (h : impl_Rule_matches r f = some y_) : c_28.F [Rule_av r, Facts_av f] = ⟨true, .bool y_, [.any, .any]⟩ := by
 refine mkF_E rfl ?_
 dsimp only [impl_Rule_matches] at h
 obtain ⟨y_1, z1, h⟩ := bd_some h
 have fz1 := Fs_1 z1
 try simp only [go_sem] at fz1
 obtain ⟨z2, h⟩ := ck_some h
 rcases or_split z2 with ⟨gz2, z2⟩ | gz2
 ·try simp only [go_sem, n1, n2, n3, n4] at gz2
  all_goals
  obtain ⟨y_2, hz2⟩ := Option.isSome_iff_exists.1 z2
  have fz2 := Fs_1 hz2
  try simp only [go_sem, n1, n2, n3, n4, gz2] at hz2
  all_goals
  try simp only [go_sem, gz2] at fz2
  obtain rfl := so_some h
  refine ⟨0, fun L hL => ?_⟩
  simp only [go_sem, ir32, fz1, gz2, hz2, fz2]
 ·try simp only [go_sem, n1, n2, n3, n4] at gz2
  all_goals
  obtain rfl := so_some h
  refine ⟨0, fun L hL => ?_⟩
  simp only [go_sem, ir32, fz1, gz2]


def ir62_v : List Nat := [0, 1, 2, 3]
def ir62 : AFn := ⟨2, 4, .seq (.region false [ VO 2 2 (.box (.v 0)), VO 3 3 (.mov (.c (.bool false)))]) (.seq (.region false [ PO 4 (.load true 6 (.v 2)), PO 5 (.load true 3 (.v 1)), PO 6 (.call 32 [(.s 1), (.s 0)]), VS 3 3 0]) (.ret)), [.t 3]⟩
noncomputable def t_29 : List (Nat × Ctr) := [(32, c_28)]
theorem lk_29_32 : look t_29 32 = some c_28 := rfl
noncomputable def c_29 : Ctr := mkF t_29 ir62 [.bor, .bor]
theorem s_29 : Sound Try.prog 62 c_29 := mkF_sound _ rfl (snd_cons s_28 snd_nil) (by kernel_rfl : chkFn Try.prog 62 ir62 ir62_v = true)
theorem M_29 : c_29.modes = [.bor, .bor] := rfl
theorem Fl_29 : c_29.flat = true := rfl
attribute [go_sem] M_29 Fl_29
attribute [go_sem] lk_29_32
theorem Fs_29 {r : Rule} {t1 : Facts} {y_ : Bool} (h : impl_first_c1 r t1 = some y_) : c_29.F [Rule_av r, .ptr 3 [Facts_av t1] 0 0] = ⟨true, .bool y_, [.any, .any]⟩ := by
 refine mkF_E rfl ?_
 dsimp only [impl_first_c1] at h
 obtain ⟨y_1, z1, h⟩ := bd_some h
 have fz1 := Fs_28 z1
 try simp only [go_sem] at fz1
 obtain rfl := so_some h
 refine ⟨0, fun L hL => ?_⟩
 simp only [go_sem, ir62, fz1]


noncomputable def t_30 : List (Nat × Ctr) := [(62, c_29)]
theorem lk_30_62 : look t_30 62 = some c_29 := rfl
noncomputable def c_30 : Ctr := mkF t_30 ir56 [.bor, .bor]
theorem s_30 : Sound Try.prog 56 c_30 := mkF_sound _ rfl (snd_cons s_29 snd_nil) (by kernel_rfl : chkFn Try.prog 56 ir56 ir56_v = true)
theorem M_30 : c_30.modes = [.bor, .bor] := rfl
theorem Fl_30 : c_30.flat = true := rfl
attribute [go_sem] M_30 Fl_30
attribute [go_sem] lk_30_62
def E_30_l1 (s_ : List Rule) (c : Facts) (t7 : Int) : Int → St
 | t8 => ⟨[.sl 6 (List.map Rule_av s_), .fn (.func 62) [] [.ptr 3 [Facts_av c] 0 0], .any, .any, .int .i64 t7, .int .i64 t8, .any], [], [], true⟩
def R_30_l1 (s_ : List Rule) (c : Facts) (t7 : Int) : (Unit ⊕ Int) → Res
 | .inl y => (.exit 0, ⟨[.any, .any, .any, .any, .any, .any, .any], [], [], true⟩)
 | .inr y => (.ret, ⟨[.any, .any, .int .i64 y, .any, .any, .any, .any], [], [], true⟩)
theorem slices_IndexFunc_impl_Rule_impl_Rule__impl_first_c1_l1_ex {s_ : List Rule} {c : Facts} {t7 : Int} {sgm_ : Int} {rho_ : Unit ⊕ Int} (h : whileE (slices_IndexFunc_impl_Rule_impl_Rule__impl_first_c1_l1 s_ c t7) sgm_ = some rho_) : ∃ L0, ∀ L, L0 ≤ L → iter (exec (look t_30) L ir56_b0) ir56_k0 ir56_o0 ir56_r0 L (E_30_l1 s_ c t7 sgm_) = R_30_l1 s_ c t7 rho_ := by
 refine loop_ex (E := E_30_l1 s_ c t7) (R := R_30_l1 s_ c t7) (fun y => by first | (intro c; cases c) | (rcases y with y | y <;> (intro c; cases c)) | (rcases y with y | y | y <;> (intro c; cases c))) ?_ h
 clear h
 intro t8 o_ h
 dsimp only [slices_IndexFunc_impl_Rule_impl_Rule__impl_first_c1_l1] at h
 rcases it_some h with ⟨z1, h⟩ | ⟨z1, h⟩
 ·try simp only [go_sem, n1, n2, n3, n4] at z1
  all_goals
  obtain ⟨z2, h⟩ := ck_some h
  have lz2 := ix_lt z2
  have xz2 := getD_mapD Rule_av s_ lz2
  try simp only [go_sem] at lz2
  try simp only [go_sem] at xz2
  try simp only [go_sem, n1, n2, n3, n4, z1] at z2
  all_goals
  obtain ⟨y_3, z3, h⟩ := bd_some h
  have fz3 := Fs_29 z3
  try simp only [go_sem, z1, z2] at fz3
  rcases it_some h with ⟨z4, h⟩ | ⟨z4, h⟩
  ·try simp only [go_sem, n1, n2, n3, n4, z1, z2] at z4
   all_goals
   obtain rfl := so_some h
   refine ⟨0, fun L hL => ?_⟩
   simp only [go_sem, ir56, E_30_l1, R_30_l1, ir56_b0, ir56_k0, ir56_o0, ir56_r0, z1, z2, lz2, xz2, fz3, z4]
  ·try simp only [go_sem, n1, n2, n3, n4, z1, z2] at z4
   all_goals
   obtain rfl := so_some h
   refine ⟨0, fun L hL => ?_⟩
   simp only [go_sem, ir56, E_30_l1, R_30_l1, ir56_b0, ir56_k0, ir56_o0, ir56_r0, z1, z2, lz2, xz2, fz3, z4]
 ·try simp only [go_sem, n1, n2, n3, n4] at z1
  all_goals
  obtain rfl := so_some h
  refine ⟨0, fun L hL => ?_⟩
  simp only [go_sem, ir56, E_30_l1, R_30_l1, ir56_b0, ir56_k0, ir56_o0, ir56_r0, z1]

theorem Fs_30 {s_ : List Rule} {f_c0 : Facts} {y_ : Int} (h : slices_IndexFunc_impl_Rule_impl_Rule__impl_first_c1 s_ f_c0 = some y_) : c_30.F [.sl 6 (List.map Rule_av s_), .fn (.func 62) [] [.ptr 3 [Facts_av f_c0] 0 0]] = ⟨true, .int .i64 y_, [.any, .any]⟩ := by
 refine mkF_E rfl ?_
 dsimp only [slices_IndexFunc_impl_Rule_impl_Rule__impl_first_c1] at h
 obtain ⟨y_5, z5, h⟩ := bd_some h
 obtain ⟨Lz5, ez5⟩ := slices_IndexFunc_impl_Rule_impl_Rule__impl_first_c1_l1_ex z5
 rcases y_5 with y_5a | y_5b
 ·dsimp only at h
  obtain rfl := so_some h
  refine ⟨Lz5, fun L hL => ?_⟩
  have ez5 := ez5 L (by omega)
  try simp only [go_sem, E_30_l1, R_30_l1, ir56_k0, ir56_o0, ir56_r0] at ez5
  simp only [go_sem, ir56, E_30_l1, R_30_l1, ir56_k0, ir56_o0, ir56_r0, ez5]
 ·dsimp only at h
  obtain rfl := so_some h
  refine ⟨Lz5, fun L hL => ?_⟩
  have ez5 := ez5 L (by omega)
  try simp only [go_sem, E_30_l1, R_30_l1, ir56_k0, ir56_o0, ir56_r0] at ez5
  simp only [go_sem, ir56, E_30_l1, R_30_l1, ir56_k0, ir56_o0, ir56_r0, ez5]


def ir45_v : List Nat := [0, 1, 3, 4]
def ir45 : AFn := ⟨2, 4, .seq (.region false [ VO 2 3 (.box (.v 1)), VO 3 4 (.mov (I6 0))]) (.seq (.region false [ PM 5 0, PO 6 (.mkFn (.func 62) [] [(.v 2)]), PO 7 (.call 56 [(.s 1), (.s 0)]), VS 3 4 0]) (.ret)), [.t 3]⟩
noncomputable def t_31 : List (Nat × Ctr) := [(56, c_30)]
theorem lk_31_56 : look t_31 56 = some c_30 := rfl
noncomputable def c_31 : Ctr := mkF t_31 ir45 [.bor, .bor]
theorem s_31 : Sound Try.prog 45 c_31 := mkF_sound _ rfl (snd_cons s_30 snd_nil) (by kernel_rfl : chkFn Try.prog 45 ir45 ir45_v = true)
theorem M_31 : c_31.modes = [.bor, .bor] := rfl
theorem Fl_31 : c_31.flat = true := rfl
attribute [go_sem] M_31 Fl_31
attribute [go_sem] lk_31_56
theorem Fs_31 {list : List Rule} {f : Facts} {y_ : Int} (h : impl_first list f = some y_) : c_31.F [.sl 6 (List.map Rule_av list), Facts_av f] = ⟨true, .int .i64 y_, [.any, .any]⟩ := by
 refine mkF_E rfl ?_
 dsimp only [impl_first] at h
 obtain ⟨y_1, z1, h⟩ := bd_some h
 have fz1 := Fs_30 z1
 try simp only [go_sem] at fz1
 obtain rfl := so_some h
 refine ⟨0, fun L hL => ?_⟩
 simp only [go_sem, ir45, fz1]


def ir24_b2 : IR := .seq (.test false [ PM 30 8, PO 31 (.bin false .leq (.s 0) (I6 3))] (.s 0) (.skip) (.exit 4)) (.seq (.block 5 (.seq (.region false [ PM 34 6, PM 35 7, PM 36 8, PO 37 (.build [.int .i64 (0), .int .i64 (0), .int .i64 (0)] [(0, 1, (.s 2)), (1, 1, (.s 1)), (2, 1, (.s 0))]), VO 9 13 (.alloc (.agg [.int .i64 (0), .int .i64 (0), .int .i64 (0)])), ⟨.no, 0, none, .store 3 (.v 9) (.s 0)⟩]) (.test false [ PM 38 0, PO 39 (.load true 3 (.v 9)), PO 40 (.call 45 [(.s 1), (.s 0)]), PM 41 1, PO 42 (.bin false .eql (.s 1) (.s 0))] (.s 0) (.seq (.region false [ PO 43 (.load true 3 (.v 9)),
 ⟨.no, 0, none, .store 3 (.v 2) (.s 0)⟩, VO 3 5 (.mov (.c (.bool true)))]) (.ret)) (.skip)))) (.region false [ PM 32 8, PO 33 (.bin false .add (.s 0) (I6 1)), VS 8 12 0]))
def ir24_k2 : List Bool := [true, true, true, false, false, true, true, true, true, false, true, true, true, false, true, true, true, false]
def ir24_o2 : List Bool := [true, true, true, false, false, true, true, false, false, false, true, true, true, false, true, true, true, false]
def ir24_r2 : List Bool := [false, false, true, true, false, false, false, false, false, false, false, false, false, false, false, false, false, false]
def ir24_b1 : IR := .seq (.region false [ VO 17 27 (.bin false .lss (.v 16) (.v 15))]) (.seq (.cond (.v 17) (.skip) (.exit 2)) (.seq (.block 3 (.seq (.region false [ PO 28 (.ixAddr 1 (.v 14) (.v 16)), PO 29 (.load false 1 (.s 0)), VS 7 11 0]) (.seq (.region false [ VO 8 12 (.mov (I6 1))]) (.block 4 (.loop ir24_k2 ir24_o2 ir24_r2 ir24_b2))))) (.region false [ PO 44 (.bin false .add (.v 16) (I6 1)), VS 16 26 0])))
def ir24_k1 : List Bool := [true, true, true, false, false, true, true, false, false, false, true, true, true, false, true, true, true, false]
def ir24_o1 : List Bool := [true, true, true, false, false, true, false, false, false, false, true, true, true, false, false, false, false, false]
def ir24_r1 : List Bool := [false, false, true, true, false, false, false, false, false, false, false, false, false, false, false, false, false, false]
def ir24_b0 : IR := .seq (.region false [ VO 13 21 (.bin false .lss (.v 12) (.v 11))]) (.seq (.cond (.v 13) (.skip) (.exit 0)) (.seq (.block 1 (.seq (.region false [ PO 22 (.ixAddr 1 (.v 10) (.v 12)), PO 23 (.load false 1 (.s 0)), VS 6 9 0]) (.seq (.region false [ VO 14 24 (.mov (.v 5)), VO 15 25 (.len false (.v 14)), VO 16 26 (.mov (I6 0))]) (.block 2 (.loop ir24_k1 ir24_o1 ir24_r1 ir24_b1))))) (.region false [ PO 45 (.bin false .add (.v 12) (I6 1)), VS 12 20 0])))
def ir24_k0 : List Bool := [true, true, true, false, false, true, false, false, false, false, true, true, true, false, false, false, false, false]
def ir24_o0 : List Bool := [false, false, true, false, false, false, false, false, false, false, false, false, false, false, false, false, false, false]
def ir24_r0 : List Bool := [false, false, true, true, false, false, false, false, false, false, false, false, false, false, false, false, false, false]
def ir24_v : List Nat := [0, 1, 4, 5, 6, 7, 9, 11, 12, 13, 18, 19, 20, 21, 24, 25, 26, 27]
def ir24 : AFn := ⟨2, 18, .seq (.region false [ VO 2 4 (.alloc (.agg [.int .i64 (0), .int .i64 (0), .int .i64 (0)])), VO 3 5 (.mov (.c (.bool false)))]) (.seq (.region false [ PM 14 0, PO 15 (.call 42 [(.s 0), (I6 20000), (.c (.fn (.func 43) [] []))]), VS 4 6 0]) (.seq (.region false [ PM 16 0, PO 17 (.call 42 [(.s 0), (I6 1000000), (.c (.fn (.func 44) [] []))]), VS 5 7 0]) (.seq (.seq (.region false [ VO 10 18 (.mov (.v 4)), VO 11 19 (.len false (.v 10)), VO 12 20 (.mov (I6 0))]) (.block 0 (.loop ir24_k0 ir24_o0 ir24_r0 ir24_b0))) (.seq (.region false [ PO 46 (.build [.int .i64 (0), .int .i64
 (0), .int .i64 (0)] []), ⟨.no, 0, none, .store 3 (.v 2) (.s 0)⟩, VO 3 5 (.mov (.c (.bool false)))]) (.ret))))), [.cell true 3 2, .t 3]⟩
noncomputable def pk_32_42 : Ctr := (pickC 2 43 c_25 c_27)
theorem s_pk_impl_factsFor_42 : Sound Try.prog 42 pk_32_42 := (pickC_sound s_25 s_27 rfl rfl)
theorem M_pk_impl_factsFor_42 : pk_32_42.modes = [.bor, .bor, .bor] := rfl
theorem Fl_pk_impl_factsFor_42 : pk_32_42.flat = true := rfl
attribute [go_sem] M_pk_impl_factsFor_42 Fl_pk_impl_factsFor_42
theorem qpk_impl_factsFor_42_impl_corners__impl_factsFor_c1 {list : List Rule} {most : Int} : pk_32_42.F [.sl 6 (List.map Rule_av list), .int .i64 most, .fn (.func 43) [] []] = c_25.F [.sl 6 (List.map Rule_av list), .int .i64 most, .fn (.func 43) [] []] := rfl
attribute [go_sem] qpk_impl_factsFor_42_impl_corners__impl_factsFor_c1
theorem qpk_impl_factsFor_42_impl_corners__impl_factsFor_c2 {list : List Rule} {most : Int} : pk_32_42.F [.sl 6 (List.map Rule_av list), .int .i64 most, .fn (.func 44) [] []] = c_27.F [.sl 6 (List.map Rule_av list), .int .i64 most, .fn (.func 44) [] []] := rfl
attribute [go_sem] qpk_impl_factsFor_42_impl_corners__impl_factsFor_c2
noncomputable def t_32 : List (Nat × Ctr) := [(42, pk_32_42), (45, c_31)]
theorem lk_32_42 : look t_32 42 = some pk_32_42 := rfl
theorem lk_32_45 : look t_32 45 = some c_31 := rfl
noncomputable def c_32 : Ctr := mkN t_32 ir24 [.bor, .bor]
theorem s_32 : Sound Try.prog 24 c_32 := mkN_sound _ (snd_cons s_pk_impl_factsFor_42 (snd_cons s_31 snd_nil)) (by kernel_rfl : chkFn Try.prog 24 ir24 ir24_v = true)
theorem M_32 : c_32.modes = [.bor, .bor] := rfl
theorem Fl_32 : c_32.flat = false := rfl
attribute [go_sem] M_32 Fl_32
attribute [go_sem] lk_32_42 lk_32_45
def E_32_l3 (list : List Rule) (k : Int) (t4 : Facts) (periods : List Int) (amp : Int) (period : Int) (t18 : List Int) (t19 : Int) (t20 : Int) (t25 : Int) (t26 : Int) : Int → St
 | shape => ⟨[.sl 6 (List.map Rule_av list), .int .i64 k, .ref 3200000 0 0, .any, .any, .own 3200032, .int .i64 amp, .int .i64 period, .int .i64 shape, .any, .own 3200064, .int .i64 t19, .int .i64 t20, .any, .own 3200032, .int .i64 t25, .int .i64 t26, .any], [], [(3200000, ⟨3, [Facts_av t4]⟩), (3200032, ⟨1, List.map (AV.int .i64) periods⟩), (3200064, ⟨1, List.map (AV.int .i64) t18⟩)], true⟩
def R_32_l3 (list : List Rule) (k : Int) (t4 : Facts) (periods : List Int) (amp : Int) (period : Int) (t18 : List Int) (t19 : Int) (t20 : Int) (t25 : Int) (t26 : Int) : (Unit ⊕ (Facts × Bool)) → Res
 | .inl y => (.exit 4, ⟨[.sl 6 (List.map Rule_av list), .int .i64 k, .ref 3200000 0 0, .any, .any, .own 3200032, .int .i64 amp, .any, .any, .any, .own 3200064, .int .i64 t19, .int .i64 t20, .any, .own 3200032, .int .i64 t25, .int .i64 t26, .any], [], [(3200000, ⟨3, [Facts_av t4]⟩), (3200032, ⟨1, List.map (AV.int .i64) periods⟩), (3200064, ⟨1, List.map (AV.int .i64) t18⟩)], true⟩)
 | .inr y => (.ret, ⟨[.any, .any, .ref 3200000 0 0, .bool y.2, .any, .any, .any, .any, .any, .any, .any, .any, .any, .any, .any, .any, .any, .any], [], [(3200000, ⟨3, [Facts_av y.1]⟩)], true⟩)
theorem impl_factsFor_l3_ex {list : List Rule} {k : Int} {t4 : Facts} {periods : List Int} {amp : Int} {period : Int} {t18 : List Int} {t19 : Int} {t20 : Int} {t25 : Int} {t26 : Int} {sgm_ : Int} {rho_ : Unit ⊕ (Facts × Bool)} (h : whileE (impl_factsFor_l3 list k t4 periods amp period t18 t19 t20 t25 t26) sgm_ = some rho_) : ∃ L0, ∀ L, L0 ≤ L → iter (exec (look t_32) L ir24_b2) ir24_k2 ir24_o2 ir24_r2 L (E_32_l3 list k t4 periods amp period t18 t19 t20 t25 t26 sgm_) = R_32_l3 list k t4 periods amp period t18 t19 t20 t25 t26 rho_ := by
 refine loop_ex (E := E_32_l3 list k t4 periods amp period t18 t19 t20 t25 t26) (R := R_32_l3 list k t4 periods amp period t18 t19 t20 t25 t26) (fun y => by first | (intro c; cases c) | (rcases y with y | y <;> (intro c; cases c)) | (rcases y with y | y | y <;> (intro c; cases c))) ?_ h
 clear h
 intro shape o_ h
 dsimp only [impl_factsFor_l3] at h
 rcases it_some h with ⟨z7, h⟩ | ⟨z7, h⟩
 ·try simp only [go_sem, n1, n2, n3, n4] at z7
  all_goals
  obtain ⟨y_8, z8, h⟩ := bd_some h
  have fz8 := Fs_31 z8
  try simp only [go_sem, z7] at fz8
  rcases it_some h with ⟨z9, h⟩ | ⟨z9, h⟩
  ·try simp only [go_sem, n1, n2, n3, n4, z7] at z9
   all_goals
   obtain rfl := so_some h
   refine ⟨0, fun L hL => ?_⟩
   simp only [go_sem, ir24, E_32_l3, R_32_l3, ir24_b2, ir24_k2, ir24_o2, ir24_r2, z7, fz8, z9]
  ·try simp only [go_sem, n1, n2, n3, n4, z7] at z9
   all_goals
   obtain rfl := so_some h
   refine ⟨0, fun L hL => ?_⟩
   simp only [go_sem, ir24, E_32_l3, R_32_l3, ir24_b2, ir24_k2, ir24_o2, ir24_r2, z7, fz8, z9]
 ·try simp only [go_sem, n1, n2, n3, n4] at z7
  all_goals
  obtain rfl := so_some h
  refine ⟨0, fun L hL => ?_⟩
  simp only [go_sem, ir24, E_32_l3, R_32_l3, ir24_b2, ir24_k2, ir24_o2, ir24_r2, z7]

def E_32_l2 (list : List Rule) (k : Int) (t4 : Facts) (periods : List Int) (amp : Int) (t18 : List Int) (t19 : Int) (t20 : Int) (t25 : Int) : Int → St
 | t26 => ⟨[.sl 6 (List.map Rule_av list), .int .i64 k, .ref 3200000 0 0, .any, .any, .own 3200032, .int .i64 amp, .any, .any, .any, .own 3200064, .int .i64 t19, .int .i64 t20, .any, .own 3200032, .int .i64 t25, .int .i64 t26, .any], [], [(3200000, ⟨3, [Facts_av t4]⟩), (3200032, ⟨1, List.map (AV.int .i64) periods⟩), (3200064, ⟨1, List.map (AV.int .i64) t18⟩)], true⟩
def R_32_l2 (list : List Rule) (k : Int) (t4 : Facts) (periods : List Int) (amp : Int) (t18 : List Int) (t19 : Int) (t20 : Int) (t25 : Int) : (Unit ⊕ (Facts × Bool)) → Res
 | .inl y => (.exit 2, ⟨[.sl 6 (List.map Rule_av list), .int .i64 k, .ref 3200000 0 0, .any, .any, .own 3200032, .any, .any, .any, .any, .own 3200064, .int .i64 t19, .int .i64 t20, .any, .any, .any, .any, .any], [], [(3200000, ⟨3, [Facts_av t4]⟩), (3200032, ⟨1, List.map (AV.int .i64) periods⟩), (3200064, ⟨1, List.map (AV.int .i64) t18⟩)], true⟩)
 | .inr y => (.ret, ⟨[.any, .any, .ref 3200000 0 0, .bool y.2, .any, .any, .any, .any, .any, .any, .any, .any, .any, .any, .any, .any, .any, .any], [], [(3200000, ⟨3, [Facts_av y.1]⟩)], true⟩)
theorem impl_factsFor_l2_ex {list : List Rule} {k : Int} {t4 : Facts} {periods : List Int} {amp : Int} {t18 : List Int} {t19 : Int} {t20 : Int} {t25 : Int} {sgm_ : Int} {rho_ : Unit ⊕ (Facts × Bool)} (h : whileE (impl_factsFor_l2 list k t4 periods amp t18 t19 t20 t25) sgm_ = some rho_) : ∃ L0, ∀ L, L0 ≤ L → iter (exec (look t_32) L ir24_b1) ir24_k1 ir24_o1 ir24_r1 L (E_32_l2 list k t4 periods amp t18 t19 t20 t25 sgm_) = R_32_l2 list k t4 periods amp t18 t19 t20 t25 rho_ := by
 refine loop_ex (E := E_32_l2 list k t4 periods amp t18 t19 t20 t25) (R := R_32_l2 list k t4 periods amp t18 t19 t20 t25) (fun y => by first | (intro c; cases c) | (rcases y with y | y <;> (intro c; cases c)) | (rcases y with y | y | y <;> (intro c; cases c))) ?_ h
 clear h
 intro t26 o_ h
 dsimp only [impl_factsFor_l2] at h
 rcases it_some h with ⟨z5, h⟩ | ⟨z5, h⟩
 ·try simp only [go_sem, n1, n2, n3, n4] at z5
  all_goals
  obtain ⟨z6, h⟩ := ck_some h
  have lz6 := ix_lt z6
  have xz6 := getD_mapD (AV.int .i64) periods lz6
  try simp only [go_sem] at lz6
  try simp only [go_sem] at xz6
  try simp only [go_sem, n1, n2, n3, n4, z5] at z6
  all_goals
  obtain ⟨y_10, z10, h⟩ := bd_some h
  obtain ⟨Lz10, ez10⟩ := impl_factsFor_l3_ex z10
  rcases y_10 with y_10a | y_10b
  ·dsimp only at h
   obtain rfl := so_some h
   refine ⟨Lz10, fun L hL => ?_⟩
   have ez10 := ez10 L (by omega)
   try simp only [go_sem, E_32_l2, R_32_l2, ir24_b1, ir24_k1, ir24_o1, ir24_r1, E_32_l3, R_32_l3, ir24_k2, ir24_o2, ir24_r2, z5, z6] at ez10
   simp only [go_sem, ir24, E_32_l2, R_32_l2, ir24_b1, ir24_k1, ir24_o1, ir24_r1, E_32_l3, R_32_l3, ir24_k2, ir24_o2, ir24_r2, z5, z6, lz6, xz6, ez10]
  ·dsimp only at h
   obtain rfl := so_some h
   refine ⟨Lz10, fun L hL => ?_⟩
   have ez10 := ez10 L (by omega)
   try simp only [go_sem, E_32_l2, R_32_l2, ir24_b1, ir24_k1, ir24_o1, ir24_r1, E_32_l3, R_32_l3, ir24_k2, ir24_o2, ir24_r2, z5, z6] at ez10
   simp only [go_sem, ir24, E_32_l2, R_32_l2, ir24_b1, ir24_k1, ir24_o1, ir24_r1, E_32_l3, R_32_l3, ir24_k2, ir24_o2, ir24_r2, z5, z6, lz6, xz6, ez10]
 ·try simp only [go_sem, n1, n2, n3, n4] at z5
  all_goals
  obtain rfl := so_some h
  refine ⟨0, fun L hL => ?_⟩
  simp only [go_sem, ir24, E_32_l2, R_32_l2, ir24_b1, ir24_k1, ir24_o1, ir24_r1, E_32_l3, R_32_l3, ir24_k2, ir24_o2, ir24_r2, z5]

def E_32_l1 (list : List Rule) (k : Int) (t4 : Facts) (periods : List Int) (t18 : List Int) (t19 : Int) : Int → St
 | t20 => ⟨[.sl 6 (List.map Rule_av list), .int .i64 k, .ref 3200000 0 0, .any, .any, .own 3200032, .any, .any, .any, .any, .own 3200064, .int .i64 t19, .int .i64 t20, .any, .any, .any, .any, .any], [], [(3200000, ⟨3, [Facts_av t4]⟩), (3200032, ⟨1, List.map (AV.int .i64) periods⟩), (3200064, ⟨1, List.map (AV.int .i64) t18⟩)], true⟩
def R_32_l1 (list : List Rule) (k : Int) (t4 : Facts) (periods : List Int) (t18 : List Int) (t19 : Int) : (Unit ⊕ (Facts × Bool)) → Res
 | .inl y => (.exit 0, ⟨[.any, .any, .ref 3200000 0 0, .any, .any, .any, .any, .any, .any, .any, .any, .any, .any, .any, .any, .any, .any, .any], [], [(3200000, ⟨3, [Facts_av t4]⟩)], true⟩)
 | .inr y => (.ret, ⟨[.any, .any, .ref 3200000 0 0, .bool y.2, .any, .any, .any, .any, .any, .any, .any, .any, .any, .any, .any, .any, .any, .any], [], [(3200000, ⟨3, [Facts_av y.1]⟩)], true⟩)
theorem impl_factsFor_l1_ex {list : List Rule} {k : Int} {t4 : Facts} {periods : List Int} {t18 : List Int} {t19 : Int} {sgm_ : Int} {rho_ : Unit ⊕ (Facts × Bool)} (h : whileE (impl_factsFor_l1 list k t4 periods t18 t19) sgm_ = some rho_) : ∃ L0, ∀ L, L0 ≤ L → iter (exec (look t_32) L ir24_b0) ir24_k0 ir24_o0 ir24_r0 L (E_32_l1 list k t4 periods t18 t19 sgm_) = R_32_l1 list k t4 periods t18 t19 rho_ := by
 refine loop_ex (E := E_32_l1 list k t4 periods t18 t19) (R := R_32_l1 list k t4 periods t18 t19) (fun y => by first | (intro c; cases c) | (rcases y with y | y <;> (intro c; cases c)) | (rcases y with y | y | y <;> (intro c; cases c))) ?_ h
 clear h
 intro t20 o_ h
 dsimp only [impl_factsFor_l1] at h
 rcases it_some h with ⟨z3, h⟩ | ⟨z3, h⟩
 ·try simp only [go_sem, n1, n2, n3, n4] at z3
  all_goals
  obtain ⟨z4, h⟩ := ck_some h
  have lz4 := ix_lt z4
  have xz4 := getD_mapD (AV.int .i64) t18 lz4
  try simp only [go_sem] at lz4
  try simp only [go_sem] at xz4
  try simp only [go_sem, n1, n2, n3, n4, z3] at z4
  all_goals
  obtain ⟨y_11, z11, h⟩ := bd_some h
  obtain ⟨Lz11, ez11⟩ := impl_factsFor_l2_ex z11
  rcases y_11 with y_11a | y_11b
  ·dsimp only at h
   obtain rfl := so_some h
   refine ⟨Lz11, fun L hL => ?_⟩
   have ez11 := ez11 L (by omega)
   try simp only [go_sem, E_32_l1, R_32_l1, ir24_b0, ir24_k0, ir24_o0, ir24_r0, E_32_l3, R_32_l3, ir24_k2, ir24_o2, ir24_r2, E_32_l2, R_32_l2, ir24_k1, ir24_o1, ir24_r1, z3, z4] at ez11
   simp only [go_sem, ir24, E_32_l1, R_32_l1, ir24_b0, ir24_k0, ir24_o0, ir24_r0, E_32_l3, R_32_l3, ir24_k2, ir24_o2, ir24_r2, E_32_l2, R_32_l2, ir24_k1, ir24_o1, ir24_r1, z3, z4, lz4, xz4, ez11]
  ·dsimp only at h
   obtain rfl := so_some h
   refine ⟨Lz11, fun L hL => ?_⟩
   have ez11 := ez11 L (by omega)
   try simp only [go_sem, E_32_l1, R_32_l1, ir24_b0, ir24_k0, ir24_o0, ir24_r0, E_32_l3, R_32_l3, ir24_k2, ir24_o2, ir24_r2, E_32_l2, R_32_l2, ir24_k1, ir24_o1, ir24_r1, z3, z4] at ez11
   simp only [go_sem, ir24, E_32_l1, R_32_l1, ir24_b0, ir24_k0, ir24_o0, ir24_r0, E_32_l3, R_32_l3, ir24_k2, ir24_o2, ir24_r2, E_32_l2, R_32_l2, ir24_k1, ir24_o1, ir24_r1, z3, z4, lz4, xz4, ez11]
 ·try simp only [go_sem, n1, n2, n3, n4] at z3
  all_goals
  obtain rfl := so_some h
  refine ⟨0, fun L hL => ?_⟩
  simp only [go_sem, ir24, E_32_l1, R_32_l1, ir24_b0, ir24_k0, ir24_o0, ir24_r0, E_32_l3, R_32_l3, ir24_k2, ir24_o2, ir24_r2, E_32_l2, R_32_l2, ir24_k1, ir24_o1, ir24_r1, z3]

theorem Fs_32 {list : List Rule} {k : Int} {y_ : Facts × Bool} (h : impl_factsFor list k = some y_) : c_32.F [.sl 6 (List.map Rule_av list), .int .i64 k] = ⟨true, .tup [Facts_av y_.1, .bool y_.2], [.any, .any]⟩ := by
 refine mkN_E ?_
 dsimp only [impl_factsFor] at h
 obtain ⟨y_1, z1, h⟩ := bd_some h
 have fz1 := Fs_25 z1
 try simp only [go_sem] at fz1
 obtain ⟨y_2, z2, h⟩ := bd_some h
 have fz2 := Fs_27 z2
 try simp only [go_sem] at fz2
 obtain ⟨y_12, z12, h⟩ := bd_some h
 obtain ⟨Lz12, ez12⟩ := impl_factsFor_l1_ex z12
 rcases y_12 with y_12a | y_12b
 ·dsimp only at h
  obtain rfl := so_some h
  refine ⟨Lz12, fun L hL => ?_⟩
  have ez12 := ez12 L (by omega)
  try simp only [go_sem, E_32_l3, R_32_l3, ir24_k2, ir24_o2, ir24_r2, E_32_l2, R_32_l2, ir24_k1, ir24_o1, ir24_r1, E_32_l1, R_32_l1, ir24_k0, ir24_o0, ir24_r0] at ez12
  simp only [go_sem, ir24, E_32_l3, R_32_l3, ir24_k2, ir24_o2, ir24_r2, E_32_l2, R_32_l2, ir24_k1, ir24_o1, ir24_r1, E_32_l1, R_32_l1, ir24_k0, ir24_o0, ir24_r0, fz1, fz2, ez12]
 ·dsimp only at h
  obtain rfl := so_some h
  refine ⟨Lz12, fun L hL => ?_⟩
  have ez12 := ez12 L (by omega)
  try simp only [go_sem, E_32_l3, R_32_l3, ir24_k2, ir24_o2, ir24_r2, E_32_l2, R_32_l2, ir24_k1, ir24_o1, ir24_r1, E_32_l1, R_32_l1, ir24_k0, ir24_o0, ir24_r0] at ez12
  simp only [go_sem, ir24, E_32_l3, R_32_l3, ir24_k2, ir24_o2, ir24_r2, E_32_l2, R_32_l2, ir24_k1, ir24_o1, ir24_r1, E_32_l1, R_32_l1, ir24_k0, ir24_o0, ir24_r0, fz1, fz2, ez12]


def ir23_v : List Nat := [0, 1, 2, 4, 5]
def ir23 : AFn := ⟨2, 5, .seq (.region false [ VO 2 2 (.box (.v 0)), VO 3 4 (.alloc (.agg [.int .i64 (0), .int .i64 (0), .int .i64 (0)])), VO 4 5 (.mov (I6 0))]) (.seq (.test false [ PM 6 1, PO 7 (.un .not (.s 0))] (.s 0) (.seq (.region false [ PO 8 (.build [.int .i64 (0), .int .i64 (0), .int .i64 (0)] []), ⟨.no, 0, none, .store 3 (.v 3) (.s 0)⟩, VO 4 5 (.mov (I6 3))]) (.ret)) (.skip)) (.seq (.region false [ PO 9 (.load true 3 (.v 2)), ⟨.no, 0, none, .store 3 (.v 3) (.s 0)⟩, VO 4 5 (.mov (I6 0))]) (.ret))), [.cell true 3 3, .t 4]⟩
noncomputable def t_33 : List (Nat × Ctr) := []
noncomputable def c_33 : Ctr := mkN t_33 ir23 [.bor, .bor]
theorem s_33 : Sound Try.prog 23 c_33 := mkN_sound _ snd_nil (by kernel_rfl : chkFn Try.prog 23 ir23 ir23_v = true)
theorem M_33 : c_33.modes = [.bor, .bor] := rfl
theorem Fl_33 : c_33.flat = false := rfl
attribute [go_sem] M_33 Fl_33
theorem Fs_33 {f : Facts} {ok : Bool} {y_ : Facts × Int} (h : impl_found f ok = some y_) : c_33.F [Facts_av f, .bool ok] = ⟨true, .tup [Facts_av y_.1, .int .i64 y_.2], [.any, .any]⟩ := by
 refine mkN_E ?_
 dsimp only [impl_found] at h
 rcases it_some h with ⟨z1, h⟩ | ⟨z1, h⟩
 ·try simp only [go_sem, n1, n2, n3, n4] at z1
  all_goals
  obtain rfl := so_some h
  refine ⟨0, fun L hL => ?_⟩
  simp only [go_sem, ir23, z1]
 ·try simp only [go_sem, n1, n2, n3, n4] at z1
  all_goals
  obtain rfl := so_some h
  refine ⟨0, fun L hL => ?_⟩
  simp only [go_sem, ir23, z1]


def ir6_v : List Nat := [0, 1, 4, 5]
def ir6 : AFn := ⟨2, 4, .seq (.region false [ VO 2 4 (.alloc (.agg [.int .i64 (0), .int .i64 (0), .int .i64 (0)])), VO 3 5 (.mov (I6 0))]) (.seq (.block 0 (.test false [ PM 7 0, PO 8 (.call 20 [(.s 0)]), PO 9 (.un .not (.s 0)), PO 6 (.mov (.s 0))] (.s 0) (.seq (.region false [ PO 10 (.build [.int .i64 (0), .int .i64 (0), .int .i64 (0)] []), ⟨.no, 0, none, .store 3 (.v 2) (.s 0)⟩, VO 3 5 (.mov (I6 1))]) (.ret)) (.test false [ PM 12 1, PM 13 0, PO 14 (.call 22 [(.s 0)]), PO 15 (.bin false .sub (.s 0) (I6 1)), PO 16 (.call 21 [(.s 3), (I6 0), (.s 0)]), PO 17 (.un .not (.s 0)), PO 11 (.mov (.s 0))]
 (.s 0) (.seq (.region false [ PO 18 (.build [.int .i64 (0), .int .i64 (0), .int .i64 (0)] []), ⟨.no, 0, none, .store 3 (.v 2) (.s 0)⟩, VO 3 5 (.mov (I6 2))]) (.ret)) (.skip)))) (.seq (.region false [ PM 19 0, PM 20 1, PO 21 (.call 24 [(.s 1), (.s 0)]), PO 22 (.ext (.s 0) 0), PO 23 (.ext (.s 1) 1), PO 24 (.call 23 [(.s 1), (.s 0)]), PO 25 (.ext (.s 0) 0), PO 26 (.ext (.s 1) 1), ⟨.no, 0, none, .store 3 (.v 2) (.s 1)⟩, VS 3 5 0]) (.ret))), [.cell true 3 2, .t 3]⟩
noncomputable def t_34 : List (Nat × Ctr) := [(20, c_6), (22, c_7), (21, c_1), (24, c_32), (23, c_33)]
theorem lk_34_20 : look t_34 20 = some c_6 := rfl
theorem lk_34_22 : look t_34 22 = some c_7 := rfl
theorem lk_34_21 : look t_34 21 = some c_1 := rfl
theorem lk_34_24 : look t_34 24 = some c_32 := rfl
theorem lk_34_23 : look t_34 23 = some c_33 := rfl
noncomputable def c_34 : Ctr := mkN t_34 ir6 [.bor, .bor]
theorem s_34 : Sound Try.prog 6 c_34 := mkN_sound _ (snd_cons s_6 (snd_cons s_7 (snd_cons s_1 (snd_cons s_32 (snd_cons s_33 snd_nil))))) (by kernel_rfl : chkFn Try.prog 6 ir6 ir6_v = true)
theorem M_34 : c_34.modes = [.bor, .bor] := rfl
theorem Fl_34 : c_34.flat = false := rfl
attribute [go_sem] M_34 Fl_34
attribute [go_sem] lk_34_20 lk_34_22 lk_34_21 lk_34_24 lk_34_23
theorem Fs_34 {list : List Rule} {k : Int} {y_ : Facts × Int} (h : impl_FactsFor list k = some y_) : c_34.F [.sl 6 (List.map Rule_av list), .int .i64 k] = ⟨true, .tup [Facts_av y_.1, .int .i64 y_.2], [.any, .any]⟩ := by
 refine mkN_E ?_
 dsimp only [impl_FactsFor] at h
 obtain ⟨y_1, z1, h⟩ := bd_some h
 have fz1 := Fs_6 z1
 try simp only [go_sem] at fz1
 rcases it_some h with ⟨z2, h⟩ | ⟨z2, h⟩
 ·try simp only [go_sem, n1, n2, n3, n4] at z2
  all_goals
  obtain rfl := so_some h
  refine ⟨0, fun L hL => ?_⟩
  simp only [go_sem, ir6, fz1, z2]
 ·try simp only [go_sem, n1, n2, n3, n4] at z2
  all_goals
  obtain ⟨y_3, z3, h⟩ := bd_some h
  have fz3 := Fs_7 z3
  try simp only [go_sem, z2] at fz3
  obtain ⟨y_4, z4, h⟩ := bd_some h
  have fz4 := Fs_1 z4
  try simp only [go_sem, z2] at fz4
  rcases it_some h with ⟨z5, h⟩ | ⟨z5, h⟩
  ·try simp only [go_sem, n1, n2, n3, n4, z2] at z5
   all_goals
   obtain rfl := so_some h
   refine ⟨0, fun L hL => ?_⟩
   simp only [go_sem, ir6, fz1, z2, fz3, fz4, z5]
  ·try simp only [go_sem, n1, n2, n3, n4, z2] at z5
   all_goals
   obtain ⟨y_6, z6, h⟩ := bd_some h
   have fz6 := Fs_32 z6
   try simp only [go_sem, z2, z5] at fz6
   obtain ⟨y_7, z7, h⟩ := bd_some h
   have fz7 := Fs_33 z7
   try simp only [go_sem, z2, z5] at fz7
   obtain rfl := so_some h
   refine ⟨0, fun L hL => ?_⟩
   simp only [go_sem, ir6, fz1, z2, fz3, fz4, z5, fz6, fz7]


def ir26_v : List Nat := [0, 1, 2, 6]
def ir26 : AFn := ⟨3, 4, .seq (.region false [ VO 3 6 (.mov (.c (.bool false)))]) (.seq (.region false [ PM 7 0, PM 8 1, PO 9 (.bin false .geq (.s 1) (.s 0)), PO 10 (.mov (.s 0)), ⟨.push, 11, (some ((.s 0), true)), .mov (.v 0)⟩, ⟨.push, 12, (some ((.s 1), true)), .mov (.v 2)⟩, ⟨.push, 13, (some ((.s 2), true)), .bin false .leq (.s 1) (.s 0)⟩, PO 14 (.pick (.s 3) (.s 0) (.c (.bool false))), VS 3 6 0]) (.ret)), [.t 3]⟩
noncomputable def t_35 : List (Nat × Ctr) := []
noncomputable def c_35 : Ctr := mkF t_35 ir26 [.bor, .bor, .bor]
theorem s_35 : Sound Try.prog 26 c_35 := mkF_sound _ rfl snd_nil (by kernel_rfl : chkFn Try.prog 26 ir26 ir26_v = true)
theorem M_35 : c_35.modes = [.bor, .bor, .bor] := rfl
theorem Fl_35 : c_35.flat = true := rfl
attribute [go_sem] M_35 Fl_35
theorem Fs_35 {n : Int} {low : Int} {high : Int} {y_ : Bool} (h : spec_l00In n low high = some y_) : c_35.F [.int .i64 n, .int .i64 low, .int .i64 high] = ⟨true, .bool y_, [.any, .any, .any]⟩ := by
 refine mkF_E rfl ?_
 dsimp only [spec_l00In] at h
 obtain rfl := so_some h
 refine ⟨0, fun L hL => ?_⟩
 simp only [go_sem, ir26]


def ir67_v : List Nat := [0, 2]
def ir67 : AFn := ⟨1, 2, .seq (.region false [ VO 1 2 (.mov (.c (.bool false)))]) (.seq (.region false [ PM 3 0, PO 4 (.bin false .geq (.s 0) (.c (.int .u8 (97)))), PO 5 (.mov (.s 0)), ⟨.push, 6, (some ((.s 0), true)), .mov (.v 0)⟩, ⟨.push, 7, (some ((.s 1), true)), .bin false .leq (.s 0) (.c (.int .u8 (122)))⟩, PO 8 (.pick (.s 2) (.s 0) (.c (.bool false))), VS 1 2 0]) (.ret)), [.t 1]⟩
noncomputable def t_36 : List (Nat × Ctr) := []
noncomputable def c_36 : Ctr := mkF t_36 ir67 [.bor]
theorem s_36 : Sound Try.prog 67 c_36 := mkF_sound _ rfl snd_nil (by kernel_rfl : chkFn Try.prog 67 ir67 ir67_v = true)
theorem M_36 : c_36.modes = [.bor] := rfl
theorem Fl_36 : c_36.flat = true := rfl
attribute [go_sem] M_36 Fl_36
theorem Fs_36 {c : UInt8} {y_ : Bool} (h : spec_l01Small c = some y_) : c_36.F [.int .u8 (c.toNat : Int)] = ⟨true, .bool y_, [.any]⟩ := by
 refine mkF_E rfl ?_
 dsimp only [spec_l01Small] at h
 obtain rfl := so_some h
 refine ⟨0, fun L hL => ?_⟩
 simp only [go_sem, ir67]


def ir68_v : List Nat := [0, 2]
def ir68 : AFn := ⟨1, 2, .seq (.region false [ VO 1 2 (.mov (.c (.bool false)))]) (.seq (.region false [ PM 3 0, PO 4 (.bin false .geq (.s 0) (.c (.int .u8 (48)))), PO 5 (.mov (.s 0)), ⟨.push, 6, (some ((.s 0), true)), .mov (.v 0)⟩, ⟨.push, 7, (some ((.s 1), true)), .bin false .leq (.s 0) (.c (.int .u8 (57)))⟩, PO 8 (.pick (.s 2) (.s 0) (.c (.bool false))), VS 1 2 0]) (.ret)), [.t 1]⟩
noncomputable def t_37 : List (Nat × Ctr) := []
noncomputable def c_37 : Ctr := mkF t_37 ir68 [.bor]
theorem s_37 : Sound Try.prog 68 c_37 := mkF_sound _ rfl snd_nil (by kernel_rfl : chkFn Try.prog 68 ir68 ir68_v = true)
theorem M_37 : c_37.modes = [.bor] := rfl
theorem Fl_37 : c_37.flat = true := rfl
attribute [go_sem] M_37 Fl_37
theorem Fs_37 {c : UInt8} {y_ : Bool} (h : spec_l01Digit c = some y_) : c_37.F [.int .u8 (c.toNat : Int)] = ⟨true, .bool y_, [.any]⟩ := by
 refine mkF_E rfl ?_
 dsimp only [spec_l01Digit] at h
 obtain rfl := so_some h
 refine ⟨0, fun L hL => ?_⟩
 simp only [go_sem, ir68]


def ir63_b0 : IR := .seq (.test false [ PM 17 2, PM 18 0, PO 19 (.len true (.s 0)), PO 20 (.bin false .lss (.s 2) (.s 0))] (.s 0) (.skip) (.exit 0)) (.seq (.block 1 (.test false [ PM 23 0, PM 24 2, PO 25 (.ixStr (.s 1) (.s 0)), PO 26 (.call 67 [(.s 0)]), PO 27 (.un .not (.s 0)), PO 28 (.mov (.s 0)), ⟨.push, 29, (some ((.s 0), true)), .mov (.v 0)⟩, ⟨.push, 30, (some ((.s 1), true)), .mov (.v 2)⟩, ⟨.push, 31, (some ((.s 2), true)), .ixStr (.s 1) (.s 0)⟩, ⟨.push, 32, (some ((.s 3), true)), .call 68 [(.s 0)]⟩, ⟨.push, 33, (some ((.s 4), true)), .un .not (.s 0)⟩, PO 34 (.pick (.s 5) (.s 0) (.c
 (.bool false))), PO 35 (.mov (.s 0)), ⟨.push, 36, (some ((.s 0), true)), .mov (.v 0)⟩, ⟨.push, 37, (some ((.s 1), true)), .mov (.v 2)⟩, ⟨.push, 38, (some ((.s 2), true)), .ixStr (.s 1) (.s 0)⟩, ⟨.push, 39, (some ((.s 3), true)), .bin false .neq (.s 0) (.c (.int .u8 (45)))⟩, PO 40 (.pick (.s 4) (.s 0) (.c (.bool false)))] (.s 0) (.seq (.region false [ VO 1 2 (.mov (.c (.bool false)))]) (.ret)) (.skip))) (.region false [ PM 21 2, PO 22 (.bin false .add (.s 0) (I6 1)), VS 2 3 0]))
def ir63_k0 : List Bool := [true, false, true]
def ir63_o0 : List Bool := [false, false, false]
def ir63_r0 : List Bool := [false, true, false]
def ir63_v : List Nat := [0, 2, 3]
def ir63 : AFn := ⟨1, 3, .seq (.region false [ VO 1 2 (.mov (.c (.bool false)))]) (.seq (.test false [ PM 4 0, PO 5 (.bin false .eql (.s 0) (.c (.str []))), PO 6 (.mov (.s 0)), ⟨.push, 7, (some ((.s 0), false)), .mov (.v 0)⟩, ⟨.push, 8, (some ((.s 1), false)), .len true (.s 0)⟩, ⟨.push, 9, (some ((.s 2), false)), .bin false .gtr (.s 0) (I6 12)⟩, PO 10 (.pick (.s 3) (.c (.bool true)) (.s 0)), PO 11 (.mov (.s 0)), ⟨.push, 12, (some ((.s 0), false)), .mov (.v 0)⟩, ⟨.push, 13, (some ((.s 1), false)), .ixStr (.s 0) (I6 0)⟩, ⟨.push, 14, (some ((.s 2), false)), .call 67 [(.s 0)]⟩, ⟨.push, 15, (some
 ((.s 3), false)), .un .not (.s 0)⟩, PO 16 (.pick (.s 4) (.c (.bool true)) (.s 0))] (.s 0) (.seq (.region false [ VO 1 2 (.mov (.c (.bool false)))]) (.ret)) (.skip)) (.seq (.seq (.region false [ VO 2 3 (.mov (I6 0))]) (.block 0 (.loop ir63_k0 ir63_o0 ir63_r0 ir63_b0))) (.seq (.region false [ VO 1 2 (.mov (.c (.bool true)))]) (.ret)))), [.t 1]⟩
noncomputable def t_38 : List (Nat × Ctr) := [(67, c_36), (68, c_37)]
theorem lk_38_67 : look t_38 67 = some c_36 := rfl
theorem lk_38_68 : look t_38 68 = some c_37 := rfl
noncomputable def c_38 : Ctr := mkF t_38 ir63 [.bor]
theorem s_38 : Sound Try.prog 63 c_38 := mkF_sound _ rfl (snd_cons s_36 (snd_cons s_37 snd_nil)) (by kernel_rfl : chkFn Try.prog 63 ir63 ir63_v = true)
theorem M_38 : c_38.modes = [.bor] := rfl
theorem Fl_38 : c_38.flat = true := rfl
attribute [go_sem] M_38 Fl_38
attribute [go_sem] lk_38_67 lk_38_68
def E_38_l1 (s_ : List UInt8) : Int → St
 | i => ⟨[.str s_, .any, .int .i64 i], [], [], true⟩
def R_38_l1 (s_ : List UInt8) : (Unit ⊕ Bool) → Res
 | .inl y => (.exit 0, ⟨[.any, .any, .any], [], [], true⟩)
 | .inr y => (.ret, ⟨[.any, .bool y, .any], [], [], true⟩)
theorem spec_IsName_l1_ex {s_ : List UInt8} {sgm_ : Int} {rho_ : Unit ⊕ Bool} (h : whileE (spec_IsName_l1 s_) sgm_ = some rho_) : ∃ L0, ∀ L, L0 ≤ L → iter (exec (look t_38) L ir63_b0) ir63_k0 ir63_o0 ir63_r0 L (E_38_l1 s_ sgm_) = R_38_l1 s_ rho_ := by
 refine loop_ex (E := E_38_l1 s_) (R := R_38_l1 s_) (fun y => by first | (intro c; cases c) | (rcases y with y | y <;> (intro c; cases c)) | (rcases y with y | y | y <;> (intro c; cases c))) ?_ h
 clear h
 intro i o_ h
 dsimp only [spec_IsName_l1] at h
 rcases it_some h with ⟨z4, h⟩ | ⟨z4, h⟩
 ·try simp only [go_sem, n1, n2, n3, n4] at z4
  all_goals
  obtain ⟨z5, h⟩ := ck_some h
  try simp only [go_sem, n1, n2, n3, n4, z4] at z5
  all_goals
  obtain ⟨y_6, z6, h⟩ := bd_some h
  have fz6 := Fs_36 z6
  try simp only [go_sem, z4, z5] at fz6
  obtain ⟨z7, h⟩ := ck_some h
  rcases or_split z7 with ⟨gz7, z7⟩ | gz7
  ·try simp only [go_sem, n1, n2, n3, n4, z4, z5] at gz7
   all_goals
   obtain ⟨y_7, hz7⟩ := Option.isSome_iff_exists.1 z7
   have fz7 := Fs_37 hz7
   try simp only [go_sem, n1, n2, n3, n4, z4, z5, gz7] at hz7
   all_goals
   try simp only [go_sem, z4, z5, gz7] at fz7
   rcases it_some h with ⟨z8, h⟩ | ⟨z8, h⟩
   ·try simp only [go_sem, n1, n2, n3, n4, z4, z5, gz7, hz7] at z8
    all_goals
    obtain rfl := so_some h
    refine ⟨0, fun L hL => ?_⟩
    simp only [go_sem, ir63, E_38_l1, R_38_l1, ir63_b0, ir63_k0, ir63_o0, ir63_r0, z4, z5, fz6, gz7, hz7, fz7, z8]
   ·try simp only [go_sem, n1, n2, n3, n4, z4, z5, gz7, hz7] at z8
    all_goals
    obtain rfl := so_some h
    refine ⟨0, fun L hL => ?_⟩
    simp only [go_sem, ir63, E_38_l1, R_38_l1, ir63_b0, ir63_k0, ir63_o0, ir63_r0, z4, z5, fz6, gz7, hz7, fz7, z8]
  ·have gz7n := no_f gz7
   try simp only [go_sem, n1, n2, n3, n4, z4, z5] at gz7n
   all_goals
   rcases it_some h with ⟨z8, h⟩ | ⟨z8, h⟩
   ·try simp only [go_sem, n1, n2, n3, n4, z4, z5, gz7n] at z8
    all_goals
    (simp_all)
   ·try simp only [go_sem, n1, n2, n3, n4, z4, z5, gz7n] at z8
    all_goals
    obtain rfl := so_some h
    refine ⟨0, fun L hL => ?_⟩
    simp only [go_sem, ir63, E_38_l1, R_38_l1, ir63_b0, ir63_k0, ir63_o0, ir63_r0, z4, z5, fz6, gz7n, z8]
 ·try simp only [go_sem, n1, n2, n3, n4] at z4
  all_goals
  obtain rfl := so_some h
  refine ⟨0, fun L hL => ?_⟩
  simp only [go_sem, ir63, E_38_l1, R_38_l1, ir63_b0, ir63_k0, ir63_o0, ir63_r0, z4]

theorem Fs_38 {s_ : List UInt8} {y_ : Bool} (h : spec_IsName s_ = some y_) : c_38.F [.str s_] = ⟨true, .bool y_, [.any]⟩ := by
 refine mkF_E rfl ?_
 dsimp only [spec_IsName] at h
 obtain ⟨z1, h⟩ := ck_some h
 rcases or_split z1 with ⟨gz1, z1⟩ | gz1
 ·try simp only [go_sem, n1, n2, n3, n4] at gz1
  all_goals
  try simp only [go_sem, n1, n2, n3, n4, gz1] at z1
  all_goals
  obtain ⟨z2, h⟩ := ck_some h
  rcases or_split z2 with ⟨gz2, z2⟩ | gz2
  ·try simp only [go_sem, n1, n2, n3, n4, gz1, z1] at gz2
   all_goals
   obtain ⟨y_2, hz2⟩ := Option.isSome_iff_exists.1 z2
   have fz2 := Fs_36 hz2
   try simp only [go_sem, n1, n2, n3, n4, gz1, z1, gz2] at hz2
   all_goals
   try simp only [go_sem, gz1, z1, gz2] at fz2
   rcases it_some h with ⟨z3, h⟩ | ⟨z3, h⟩
   ·try simp only [go_sem, n1, n2, n3, n4, gz1, z1, gz2, hz2] at z3
    all_goals
    obtain rfl := so_some h
    refine ⟨0, fun L hL => ?_⟩
    simp only [go_sem, ir63, E_38_l1, R_38_l1, ir63_k0, ir63_o0, ir63_r0, gz1, z1, gz2, hz2, fz2, z3]
   ·try simp only [go_sem, n1, n2, n3, n4, gz1, z1, gz2, hz2] at z3
    all_goals
    obtain ⟨y_9, z9, h⟩ := bd_some h
    obtain ⟨Lz9, ez9⟩ := spec_IsName_l1_ex z9
    rcases y_9 with y_9a | y_9b
    ·dsimp only at h
     obtain rfl := so_some h
     refine ⟨Lz9, fun L hL => ?_⟩
     have ez9 := ez9 L (by omega)
     try simp only [go_sem, E_38_l1, R_38_l1, ir63_k0, ir63_o0, ir63_r0, gz1, z1, gz2, hz2, z3] at ez9
     simp only [go_sem, ir63, E_38_l1, R_38_l1, ir63_k0, ir63_o0, ir63_r0, gz1, z1, gz2, hz2, fz2, z3, ez9]
    ·dsimp only at h
     obtain rfl := so_some h
     refine ⟨Lz9, fun L hL => ?_⟩
     have ez9 := ez9 L (by omega)
     try simp only [go_sem, E_38_l1, R_38_l1, ir63_k0, ir63_o0, ir63_r0, gz1, z1, gz2, hz2, z3] at ez9
     simp only [go_sem, ir63, E_38_l1, R_38_l1, ir63_k0, ir63_o0, ir63_r0, gz1, z1, gz2, hz2, fz2, z3, ez9]
  ·have gz2n := no_f gz2
   rcases or_t gz2n with gz2na | ⟨gz2na, gz2nb⟩
   ·try simp only [go_sem, n1, n2, n3, n4, gz1, z1] at gz2na
    all_goals
    (simp_all)
   ·try simp only [go_sem, n1, n2, n3, n4, gz1, z1] at gz2na
    all_goals
    try simp only [go_sem, n1, n2, n3, n4, gz1, z1, gz2na] at gz2nb
    all_goals
    rcases it_some h with ⟨z3, h⟩ | ⟨z3, h⟩
    ·try simp only [go_sem, n1, n2, n3, n4, gz1, z1, gz2na, gz2nb] at z3
     all_goals
     obtain rfl := so_some h
     refine ⟨0, fun L hL => ?_⟩
     simp only [go_sem, ir63, E_38_l1, R_38_l1, ir63_k0, ir63_o0, ir63_r0, gz1, z1, gz2na, gz2nb, z3]
    ·try simp only [go_sem, n1, n2, n3, n4, gz1, z1, gz2na, gz2nb] at z3
     all_goals
     obtain ⟨y_9, z9, h⟩ := bd_some h
     obtain ⟨Lz9, ez9⟩ := spec_IsName_l1_ex z9
     rcases y_9 with y_9a | y_9b
     ·dsimp only at h
      obtain rfl := so_some h
      refine ⟨Lz9, fun L hL => ?_⟩
      have ez9 := ez9 L (by omega)
      try simp only [go_sem, E_38_l1, R_38_l1, ir63_k0, ir63_o0, ir63_r0, gz1, z1, gz2na, gz2nb, z3] at ez9
      simp only [go_sem, ir63, E_38_l1, R_38_l1, ir63_k0, ir63_o0, ir63_r0, gz1, z1, gz2na, gz2nb, z3, ez9]
     ·dsimp only at h
      obtain rfl := so_some h
      refine ⟨Lz9, fun L hL => ?_⟩
      have ez9 := ez9 L (by omega)
      try simp only [go_sem, E_38_l1, R_38_l1, ir63_k0, ir63_o0, ir63_r0, gz1, z1, gz2na, gz2nb, z3] at ez9
      simp only [go_sem, ir63, E_38_l1, R_38_l1, ir63_k0, ir63_o0, ir63_r0, gz1, z1, gz2na, gz2nb, z3, ez9]
 ·have gz1n := no_f gz1
  rcases or_t gz1n with gz1na | ⟨gz1na, gz1nb⟩
  ·try simp only [go_sem, n1, n2, n3, n4] at gz1na
   all_goals
   obtain ⟨z2, h⟩ := ck_some h
   rcases it_some h with ⟨z3, h⟩ | ⟨z3, h⟩
   ·try simp only [go_sem, n1, n2, n3, n4, gz1na] at z3
    all_goals
    obtain rfl := so_some h
    refine ⟨0, fun L hL => ?_⟩
    simp only [go_sem, ir63, E_38_l1, R_38_l1, ir63_k0, ir63_o0, ir63_r0, gz1na, z3]
   ·try simp only [go_sem, n1, n2, n3, n4, gz1na] at z3
    all_goals
    (simp_all)
  ·try simp only [go_sem, n1, n2, n3, n4] at gz1na
   all_goals
   try simp only [go_sem, n1, n2, n3, n4, gz1na] at gz1nb
   all_goals
   obtain ⟨z2, h⟩ := ck_some h
   rcases it_some h with ⟨z3, h⟩ | ⟨z3, h⟩
   ·try simp only [go_sem, n1, n2, n3, n4, gz1na, gz1nb] at z3
    all_goals
    obtain rfl := so_some h
    refine ⟨0, fun L hL => ?_⟩
    simp only [go_sem, ir63, E_38_l1, R_38_l1, ir63_k0, ir63_o0, ir63_r0, gz1na, gz1nb, z3]
   ·try simp only [go_sem, n1, n2, n3, n4, gz1na, gz1nb] at z3
    all_goals
    (simp_all)


def ir64_v : List Nat := [0, 2]
def ir64 : AFn := ⟨1, 2, .seq (.region false [ VO 1 2 (.mov (.c (.bool false)))]) (.seq (.region false [ PM 3 0, PO 4 (.call 26 [(.s 0), (I6 1), (I6 3)]), VS 1 2 0]) (.ret)), [.t 1]⟩
noncomputable def t_39 : List (Nat × Ctr) := [(26, c_35)]
theorem lk_39_26 : look t_39 26 = some c_35 := rfl
noncomputable def c_39 : Ctr := mkF t_39 ir64 [.bor]
theorem s_39 : Sound Try.prog 64 c_39 := mkF_sound _ rfl (snd_cons s_35 snd_nil) (by kernel_rfl : chkFn Try.prog 64 ir64 ir64_v = true)
theorem M_39 : c_39.modes = [.bor] := rfl
theorem Fl_39 : c_39.flat = true := rfl
attribute [go_sem] M_39 Fl_39
attribute [go_sem] lk_39_26
theorem Fs_39 {n : Int} {y_ : Bool} (h : spec_l18Shape n = some y_) : c_39.F [.int .i64 n] = ⟨true, .bool y_, [.any]⟩ := by
 refine mkF_E rfl ?_
 dsimp only [spec_l18Shape] at h
 obtain ⟨y_1, z1, h⟩ := bd_some h
 have fz1 := Fs_35 z1
 try simp only [go_sem] at fz1
 obtain rfl := so_some h
 refine ⟨0, fun L hL => ?_⟩
 simp only [go_sem, ir64, fz1]


def ir46_v : List Nat := [0, 2]
def ir46 : AFn := ⟨1, 2, .seq (.region false [ VO 1 2 (.mov (.c (.bool false)))]) (.seq (.test false [ PM 3 0, PO 4 (.nilck (.s 0)), PO 5 (.fldAddr 0 (.s 0)), PO 6 (.load false 1 (.s 0)), PO 7 (.call 63 [(.s 0)]), PO 8 (.un .not (.s 0)), PO 9 (.mov (.s 0)), ⟨.push, 10, (some ((.s 0), false)), .mov (.v 0)⟩, ⟨.push, 11, (some ((.s 1), false)), .nilck (.s 0)⟩, ⟨.push, 12, (some ((.s 2), false)), .fldAddr 5 (.s 0)⟩, ⟨.push, 13, (some ((.s 3), false)), .load false 1 (.s 0)⟩, ⟨.push, 14, (some ((.s 4), false)), .bin false .neq (.s 0) (I6 0)⟩, ⟨.push, 15, (some ((.s 5), false)), .mov (.s 0)⟩, ⟨.push,
 16, (some ((.s 0), true)), .mov (.v 0)⟩, ⟨.push, 17, (some ((.s 1), true)), .nilck (.s 0)⟩, ⟨.push, 18, (some ((.s 2), true)), .fldAddr 5 (.s 0)⟩, ⟨.push, 19, (some ((.s 3), true)), .load false 1 (.s 0)⟩, ⟨.push, 20, (some ((.s 4), true)), .call 64 [(.s 0)]⟩, ⟨.push, 21, (some ((.s 5), true)), .un .not (.s 0)⟩, ⟨.push, 22, (some ((.s 12), false)), .pick (.s 6) (.s 0) (.c (.bool false))⟩, PO 23 (.pick (.s 13) (.c (.bool true)) (.s 0))] (.s 0) (.seq (.region false [ VO 1 2 (.mov (.c (.bool false)))]) (.ret)) (.skip)) (.seq (.anyo 34 [ SO 0 24 (.mov (.v 0)), SO 1 25 (.nilck (.s 0)), SO 2 26
 (.fldAddr 1 (.s 1)), SO 3 27 (.load false 1 (.s 2)), SO 4 28 (.callp 26 [(.s 3), (I6 0), (I6 20000)]), SO 5 29 (.mov (.s 4)), ⟨.slot 6, 30, (some ((.s 5), true)), .mov (.v 0)⟩, ⟨.slot 7, 31, (some ((.s 5), true)), .nilck (.s 6)⟩, ⟨.slot 8, 32, (some ((.s 5), true)), .fldAddr 2 (.s 7)⟩, ⟨.slot 9, 33, (some ((.s 5), true)), .load false 1 (.s 8)⟩, ⟨.slot 10, 34, (some ((.s 5), true)), .mov (.v 0)⟩, ⟨.slot 11, 35, (some ((.s 5), true)), .nilck (.s 10)⟩, ⟨.slot 12, 36, (some ((.s 5), true)), .fldAddr 1 (.s 11)⟩, ⟨.slot 13, 37, (some ((.s 5), true)), .load false 1 (.s 12)⟩, ⟨.slot 14, 38, (some ((.s
 5), true)), .call 26 [(.s 9), (.s 13), (I6 20000)]⟩, SO 15 39 (.pick (.s 5) (.s 14) (.c (.bool false))), SO 16 40 (.mov (.s 15)), ⟨.slot 17, 41, (some ((.s 16), true)), .mov (.v 0)⟩, ⟨.slot 18, 42, (some ((.s 16), true)), .nilck (.s 17)⟩, ⟨.slot 19, 43, (some ((.s 16), true)), .fldAddr 3 (.s 18)⟩, ⟨.slot 20, 44, (some ((.s 16), true)), .load false 1 (.s 19)⟩, ⟨.slot 21, 45, (some ((.s 16), true)), .call 26 [(.s 20), (I6 0), (I6 1000000)]⟩, SO 22 46 (.pick (.s 16) (.s 21) (.c (.bool false))), SO 23 47 (.mov (.s 22)), ⟨.slot 24, 48, (some ((.s 23), true)), .mov (.v 0)⟩, ⟨.slot 25, 49, (some ((.s
 23), true)), .nilck (.s 24)⟩, ⟨.slot 26, 50, (some ((.s 23), true)), .fldAddr 4 (.s 25)⟩, ⟨.slot 27, 51, (some ((.s 23), true)), .load false 1 (.s 26)⟩, ⟨.slot 28, 52, (some ((.s 23), true)), .mov (.v 0)⟩, ⟨.slot 29, 53, (some ((.s 23), true)), .nilck (.s 28)⟩, ⟨.slot 30, 54, (some ((.s 23), true)), .fldAddr 3 (.s 29)⟩, ⟨.slot 31, 55, (some ((.s 23), true)), .load false 1 (.s 30)⟩, ⟨.slot 32, 56, (some ((.s 23), true)), .call 26 [(.s 27), (.s 31), (I6 1000000)]⟩, SO 33 57 (.pick (.s 23) (.s 32) (.c (.bool false))), VS 1 2 33] [] .skip) (.ret))), [.t 1]⟩
noncomputable def t_40 : List (Nat × Ctr) := [(63, c_38), (64, c_39), (26, c_35)]
theorem lk_40_63 : look t_40 63 = some c_38 := rfl
theorem lk_40_64 : look t_40 64 = some c_39 := rfl
theorem lk_40_26 : look t_40 26 = some c_35 := rfl
noncomputable def c_40 : Ctr := mkF t_40 ir46 [.bor]
theorem s_40 : Sound Try.prog 46 c_40 := mkF_sound _ rfl (snd_cons s_38 (snd_cons s_39 (snd_cons s_35 snd_nil))) (by kernel_rfl : chkFn Try.prog 46 ir46 ir46_v = true)
theorem M_40 : c_40.modes = [.bor] := rfl
theorem Fl_40 : c_40.flat = true := rfl
attribute [go_sem] M_40 Fl_40
attribute [go_sem] lk_40_63 lk_40_64 lk_40_26
theorem Fs_40 {r : Rule} {y_ : Bool} (h : spec_l18One r = some y_) : c_40.F [.ptr 6 [Rule_av r] 0 0] = ⟨true, .bool y_, [.any]⟩ := by
 refine mkF_E rfl ?_
 dsimp only [spec_l18One] at h
 obtain ⟨y_1, z1, h⟩ := bd_some h
 have fz1 := Fs_38 z1
 try simp only [go_sem] at fz1
 obtain ⟨z2, h⟩ := ck_some h
 rcases or_split z2 with ⟨gz2, z2⟩ | gz2
 ·try simp only [go_sem, n1, n2, n3, n4] at gz2
  all_goals
  obtain ⟨y_2, hz2⟩ := Option.isSome_iff_exists.1 z2
  have fz2 := Fs_39 hz2
  try simp only [go_sem, n1, n2, n3, n4, gz2] at hz2
  all_goals
  try simp only [go_sem, gz2] at fz2
  rcases it_some h with ⟨z3, h⟩ | ⟨z3, h⟩
  ·try simp only [go_sem, n1, n2, n3, n4, gz2, hz2] at z3
   all_goals
   obtain rfl := so_some h
   refine ⟨0, fun L hL => ?_⟩
   simp only [go_sem, ir46, fz1, gz2, hz2, fz2, z3]
  ·try simp only [go_sem, n1, n2, n3, n4, gz2, hz2] at z3
   all_goals
   obtain ⟨y_4, z4, h⟩ := bd_some h
   have fz4 := Fs_35 z4
   try simp only [go_sem, gz2, hz2, z3] at fz4
   obtain ⟨z5, h⟩ := ck_some h
   rcases or_split z5 with ⟨gz5, z5⟩ | gz5
   ·try simp only [go_sem, n1, n2, n3, n4, gz2, hz2, z3] at gz5
    all_goals
    obtain ⟨y_5, hz5⟩ := Option.isSome_iff_exists.1 z5
    have fz5 := Fs_35 hz5
    try simp only [go_sem, n1, n2, n3, n4, gz2, hz2, z3, gz5] at hz5
    all_goals
    try simp only [go_sem, gz2, hz2, z3, gz5] at fz5
    obtain ⟨z6, h⟩ := ck_some h
    rcases or_split z6 with ⟨gz6, z6⟩ | gz6
    ·try simp only [go_sem, n1, n2, n3, n4, gz2, hz2, z3, gz5, hz5] at gz6
     all_goals
     obtain ⟨y_6, hz6⟩ := Option.isSome_iff_exists.1 z6
     have fz6 := Fs_35 hz6
     try simp only [go_sem, n1, n2, n3, n4, gz2, hz2, z3, gz5, hz5, gz6] at hz6
     all_goals
     try simp only [go_sem, gz2, hz2, z3, gz5, hz5, gz6] at fz6
     obtain ⟨z7, h⟩ := ck_some h
     rcases or_split z7 with ⟨gz7, z7⟩ | gz7
     ·try simp only [go_sem, n1, n2, n3, n4, gz2, hz2, z3, gz5, hz5, gz6, hz6] at gz7
      all_goals
      obtain ⟨y_7, hz7⟩ := Option.isSome_iff_exists.1 z7
      have fz7 := Fs_35 hz7
      try simp only [go_sem, n1, n2, n3, n4, gz2, hz2, z3, gz5, hz5, gz6, hz6, gz7] at hz7
      all_goals
      try simp only [go_sem, gz2, hz2, z3, gz5, hz5, gz6, hz6, gz7] at fz7
      obtain rfl := so_some h
      refine ⟨0, fun L hL => ?_⟩
      simp only [go_sem, ir46, fz1, gz2, hz2, fz2, z3, fz4, gz5, hz5, fz5, gz6, hz6, fz6, gz7, hz7, fz7]
     ·rcases and_f gz7 with gz7a | ⟨gz7a, gz7b⟩
      ·try simp only [go_sem, n1, n2, n3, n4, gz2, hz2, z3, gz5, hz5, gz6, hz6] at gz7a
       all_goals
       (simp_all)
      ·obtain ⟨gz7aa, gz7ab⟩ := and_t gz7a
       try simp only [go_sem, n1, n2, n3, n4, gz2, hz2, z3, gz5, hz5, gz6, hz6] at gz7aa
       all_goals
       try simp only [go_sem, n1, n2, n3, n4, gz2, hz2, z3, gz5, hz5, gz6, hz6, gz7aa] at gz7ab
       all_goals
       try simp only [go_sem, n1, n2, n3, n4, gz2, hz2, z3, gz5, hz5, gz6, hz6, gz7aa, gz7ab] at gz7b
       all_goals
       obtain rfl := so_some h
       refine ⟨0, fun L hL => ?_⟩
       simp only [go_sem, ir46, fz1, gz2, hz2, fz2, z3, fz4, gz5, hz5, fz5, gz6, hz6, fz6, gz7aa, gz7ab, gz7b]
    ·rcases and_f gz6 with gz6a | ⟨gz6a, gz6b⟩
     ·try simp only [go_sem, n1, n2, n3, n4, gz2, hz2, z3, gz5, hz5] at gz6a
      all_goals
      (simp_all)
     ·try simp only [go_sem, n1, n2, n3, n4, gz2, hz2, z3, gz5, hz5] at gz6a
      all_goals
      try simp only [go_sem, n1, n2, n3, n4, gz2, hz2, z3, gz5, hz5, gz6a] at gz6b
      all_goals
      obtain ⟨z7, h⟩ := ck_some h
      obtain rfl := so_some h
      refine ⟨0, fun L hL => ?_⟩
      simp only [go_sem, ir46, fz1, gz2, hz2, fz2, z3, fz4, gz5, hz5, fz5, gz6a, gz6b]
   ·try simp only [go_sem, n1, n2, n3, n4, gz2, hz2, z3] at gz5
    all_goals
    obtain ⟨z6, h⟩ := ck_some h
    obtain ⟨z7, h⟩ := ck_some h
    obtain rfl := so_some h
    refine ⟨0, fun L hL => ?_⟩
    simp only [go_sem, ir46, fz1, gz2, hz2, fz2, z3, fz4, gz5]
 ·rcases and_f gz2 with gz2a | ⟨gz2a, gz2b⟩
  ·have gz2an := no_f gz2a
   have gz2ann := no_t gz2an
   try simp only [go_sem, n1, n2, n3, n4] at gz2ann
   all_goals
   rcases it_some h with ⟨z3, h⟩ | ⟨z3, h⟩
   ·try simp only [go_sem, n1, n2, n3, n4, gz2ann] at z3
    all_goals
    obtain rfl := so_some h
    refine ⟨0, fun L hL => ?_⟩
    simp only [go_sem, ir46, fz1, gz2ann, z3]
   ·try simp only [go_sem, n1, n2, n3, n4, gz2ann] at z3
    all_goals
    (simp_all)
  ·have gz2an := no_t gz2a
   have gz2ann := no_f gz2an
   have gz2bn := no_f gz2b
   try simp only [go_sem, n1, n2, n3, n4] at gz2ann
   all_goals
   try simp only [go_sem, n1, n2, n3, n4, gz2ann] at gz2bn
   all_goals
   rcases it_some h with ⟨z3, h⟩ | ⟨z3, h⟩
   ·try simp only [go_sem, n1, n2, n3, n4, gz2ann, gz2bn] at z3
    all_goals
    (simp_all)
   ·try simp only [go_sem, n1, n2, n3, n4, gz2ann, gz2bn] at z3
    all_goals
    obtain ⟨y_4, z4, h⟩ := bd_some h
    have fz4 := Fs_35 z4
    try simp only [go_sem, gz2ann, gz2bn, z3] at fz4
    obtain ⟨z5, h⟩ := ck_some h
    rcases or_split z5 with ⟨gz5, z5⟩ | gz5
    ·try simp only [go_sem, n1, n2, n3, n4, gz2ann, gz2bn, z3] at gz5
     all_goals
     obtain ⟨y_5, hz5⟩ := Option.isSome_iff_exists.1 z5
     have fz5 := Fs_35 hz5
     try simp only [go_sem, n1, n2, n3, n4, gz2ann, gz2bn, z3, gz5] at hz5
     all_goals
     try simp only [go_sem, gz2ann, gz2bn, z3, gz5] at fz5
     obtain ⟨z6, h⟩ := ck_some h
     rcases or_split z6 with ⟨gz6, z6⟩ | gz6
     ·try simp only [go_sem, n1, n2, n3, n4, gz2ann, gz2bn, z3, gz5, hz5] at gz6
      all_goals
      obtain ⟨y_6, hz6⟩ := Option.isSome_iff_exists.1 z6
      have fz6 := Fs_35 hz6
      try simp only [go_sem, n1, n2, n3, n4, gz2ann, gz2bn, z3, gz5, hz5, gz6] at hz6
      all_goals
      try simp only [go_sem, gz2ann, gz2bn, z3, gz5, hz5, gz6] at fz6
      obtain ⟨z7, h⟩ := ck_some h
      rcases or_split z7 with ⟨gz7, z7⟩ | gz7
      ·try simp only [go_sem, n1, n2, n3, n4, gz2ann, gz2bn, z3, gz5, hz5, gz6, hz6] at gz7
       all_goals
       obtain ⟨y_7, hz7⟩ := Option.isSome_iff_exists.1 z7
       have fz7 := Fs_35 hz7
       try simp only [go_sem, n1, n2, n3, n4, gz2ann, gz2bn, z3, gz5, hz5, gz6, hz6, gz7] at hz7
       all_goals
       try simp only [go_sem, gz2ann, gz2bn, z3, gz5, hz5, gz6, hz6, gz7] at fz7
       obtain rfl := so_some h
       refine ⟨0, fun L hL => ?_⟩
       simp only [go_sem, ir46, fz1, gz2ann, gz2bn, z3, fz4, gz5, hz5, fz5, gz6, hz6, fz6, gz7, hz7, fz7]
      ·rcases and_f gz7 with gz7a | ⟨gz7a, gz7b⟩
       ·try simp only [go_sem, n1, n2, n3, n4, gz2ann, gz2bn, z3, gz5, hz5, gz6, hz6] at gz7a
        all_goals
        (simp_all)
       ·obtain ⟨gz7aa, gz7ab⟩ := and_t gz7a
        try simp only [go_sem, n1, n2, n3, n4, gz2ann, gz2bn, z3, gz5, hz5, gz6, hz6] at gz7aa
        all_goals
        try simp only [go_sem, n1, n2, n3, n4, gz2ann, gz2bn, z3, gz5, hz5, gz6, hz6, gz7aa] at gz7ab
        all_goals
        try simp only [go_sem, n1, n2, n3, n4, gz2ann, gz2bn, z3, gz5, hz5, gz6, hz6, gz7aa, gz7ab] at gz7b
        all_goals
        obtain rfl := so_some h
        refine ⟨0, fun L hL => ?_⟩
        simp only [go_sem, ir46, fz1, gz2ann, gz2bn, z3, fz4, gz5, hz5, fz5, gz6, hz6, fz6, gz7aa, gz7ab, gz7b]
     ·rcases and_f gz6 with gz6a | ⟨gz6a, gz6b⟩
      ·try simp only [go_sem, n1, n2, n3, n4, gz2ann, gz2bn, z3, gz5, hz5] at gz6a
       all_goals
       (simp_all)
      ·try simp only [go_sem, n1, n2, n3, n4, gz2ann, gz2bn, z3, gz5, hz5] at gz6a
       all_goals
       try simp only [go_sem, n1, n2, n3, n4, gz2ann, gz2bn, z3, gz5, hz5, gz6a] at gz6b
       all_goals
       obtain ⟨z7, h⟩ := ck_some h
       obtain rfl := so_some h
       refine ⟨0, fun L hL => ?_⟩
       simp only [go_sem, ir46, fz1, gz2ann, gz2bn, z3, fz4, gz5, hz5, fz5, gz6a, gz6b]
    ·try simp only [go_sem, n1, n2, n3, n4, gz2ann, gz2bn, z3] at gz5
     all_goals
     obtain ⟨z6, h⟩ := ck_some h
     obtain ⟨z7, h⟩ := ck_some h
     obtain rfl := so_some h
     refine ⟨0, fun L hL => ?_⟩
     simp only [go_sem, ir46, fz1, gz2ann, gz2bn, z3, fz4, gz5]


def ir25_b0 : IR := .seq (.test false [ PM 4 2, PM 5 0, PO 6 (.len false (.s 0)), PO 7 (.bin false .lss (.s 2) (.s 0))] (.s 0) (.skip) (.exit 0)) (.seq (.block 1 (.test false [ PM 10 0, PM 11 2, PO 12 (.ixAddr 6 (.s 1) (.s 0)), PO 13 (.call 46 [(.s 0)]), PO 14 (.un .not (.s 0))] (.s 0) (.seq (.region false [ VO 1 2 (.mov (.c (.bool false)))]) (.ret)) (.skip))) (.region false [ PM 8 2, PO 9 (.bin false .add (.s 0) (I6 1)), VS 2 3 0]))
def ir25_k0 : List Bool := [true, false, true]
def ir25_o0 : List Bool := [true, false, false]
def ir25_r0 : List Bool := [false, true, false]
def ir25_v : List Nat := [0, 2, 3]
def ir25 : AFn := ⟨1, 3, .seq (.region false [ VO 1 2 (.mov (.c (.bool false)))]) (.seq (.seq (.region false [ VO 2 3 (.mov (I6 0))]) (.block 0 (.loop ir25_k0 ir25_o0 ir25_r0 ir25_b0))) (.seq (.region false [ PM 15 0, PO 16 (.len false (.s 0)), PO 17 (.bin false .leq (.s 0) (I6 12)), VS 1 2 0]) (.ret))), [.t 1]⟩
noncomputable def t_41 : List (Nat × Ctr) := [(46, c_40)]
theorem lk_41_46 : look t_41 46 = some c_40 := rfl
noncomputable def c_41 : Ctr := mkF t_41 ir25 [.bor]
theorem s_41 : Sound Try.prog 25 c_41 := mkF_sound _ rfl (snd_cons s_40 snd_nil) (by kernel_rfl : chkFn Try.prog 25 ir25 ir25_v = true)
theorem M_41 : c_41.modes = [.bor] := rfl
theorem Fl_41 : c_41.flat = true := rfl
attribute [go_sem] M_41 Fl_41
attribute [go_sem] lk_41_46
def E_41_l1 (list : List Rule) : Int → St
 | i => ⟨[.sl 6 (List.map Rule_av list), .any, .int .i64 i], [], [], true⟩
def R_41_l1 (list : List Rule) : (Unit ⊕ Bool) → Res
 | .inl y => (.exit 0, ⟨[.sl 6 (List.map Rule_av list), .any, .any], [], [], true⟩)
 | .inr y => (.ret, ⟨[.any, .bool y, .any], [], [], true⟩)
theorem spec_l18Ok_l1_ex {list : List Rule} {sgm_ : Int} {rho_ : Unit ⊕ Bool} (h : whileE (spec_l18Ok_l1 list) sgm_ = some rho_) : ∃ L0, ∀ L, L0 ≤ L → iter (exec (look t_41) L ir25_b0) ir25_k0 ir25_o0 ir25_r0 L (E_41_l1 list sgm_) = R_41_l1 list rho_ := by
 refine loop_ex (E := E_41_l1 list) (R := R_41_l1 list) (fun y => by first | (intro c; cases c) | (rcases y with y | y <;> (intro c; cases c)) | (rcases y with y | y | y <;> (intro c; cases c))) ?_ h
 clear h
 intro i o_ h
 dsimp only [spec_l18Ok_l1] at h
 rcases it_some h with ⟨z1, h⟩ | ⟨z1, h⟩
 ·try simp only [go_sem, n1, n2, n3, n4] at z1
  all_goals
  obtain ⟨z2, h⟩ := ck_some h
  have lz2 := ix_lt z2
  have xz2 := getD_mapD Rule_av list lz2
  try simp only [go_sem] at lz2
  try simp only [go_sem] at xz2
  try simp only [go_sem, n1, n2, n3, n4, z1] at z2
  all_goals
  obtain ⟨y_3, z3, h⟩ := bd_some h
  have fz3 := Fs_40 z3
  try simp only [go_sem, z1, z2] at fz3
  rcases it_some h with ⟨z4, h⟩ | ⟨z4, h⟩
  ·try simp only [go_sem, n1, n2, n3, n4, z1, z2] at z4
   all_goals
   obtain rfl := so_some h
   refine ⟨0, fun L hL => ?_⟩
   simp only [go_sem, ir25, E_41_l1, R_41_l1, ir25_b0, ir25_k0, ir25_o0, ir25_r0, z1, z2, lz2, xz2, fz3, z4]
  ·try simp only [go_sem, n1, n2, n3, n4, z1, z2] at z4
   all_goals
   obtain rfl := so_some h
   refine ⟨0, fun L hL => ?_⟩
   simp only [go_sem, ir25, E_41_l1, R_41_l1, ir25_b0, ir25_k0, ir25_o0, ir25_r0, z1, z2, lz2, xz2, fz3, z4]
 ·try simp only [go_sem, n1, n2, n3, n4] at z1
  all_goals
  obtain rfl := so_some h
  refine ⟨0, fun L hL => ?_⟩
  simp only [go_sem, ir25, E_41_l1, R_41_l1, ir25_b0, ir25_k0, ir25_o0, ir25_r0, z1]

theorem Fs_41 {list : List Rule} {y_ : Bool} (h : spec_l18Ok list = some y_) : c_41.F [.sl 6 (List.map Rule_av list)] = ⟨true, .bool y_, [.any]⟩ := by
 refine mkF_E rfl ?_
 dsimp only [spec_l18Ok] at h
 obtain ⟨y_5, z5, h⟩ := bd_some h
 obtain ⟨Lz5, ez5⟩ := spec_l18Ok_l1_ex z5
 rcases y_5 with y_5a | y_5b
 ·dsimp only at h
  obtain rfl := so_some h
  refine ⟨Lz5, fun L hL => ?_⟩
  have ez5 := ez5 L (by omega)
  try simp only [go_sem, E_41_l1, R_41_l1, ir25_k0, ir25_o0, ir25_r0] at ez5
  simp only [go_sem, ir25, E_41_l1, R_41_l1, ir25_k0, ir25_o0, ir25_r0, ez5]
 ·dsimp only at h
  obtain rfl := so_some h
  refine ⟨Lz5, fun L hL => ?_⟩
  have ez5 := ez5 L (by omega)
  try simp only [go_sem, E_41_l1, R_41_l1, ir25_k0, ir25_o0, ir25_r0] at ez5
  simp only [go_sem, ir25, E_41_l1, R_41_l1, ir25_k0, ir25_o0, ir25_r0, ez5]


def ir47_b0 : IR := .seq (.test false [ PM 9 5, PM 10 0, PO 11 (.len false (.s 0)), PO 12 (.bin false .lss (.s 2) (.s 0))] (.s 0) (.skip) (.exit 0)) (.seq (.block 1 (.seq (.test false [ PM 15 4, PO 16 (.un .not (.s 0)), PO 17 (.mov (.s 0)), ⟨.push, 18, (some ((.s 0), true)), .mov (.v 0)⟩, ⟨.push, 19, (some ((.s 1), true)), .mov (.v 5)⟩, ⟨.push, 20, (some ((.s 2), true)), .ixAddr 1 (.s 1) (.s 0)⟩, ⟨.push, 21, (some ((.s 3), true)), .load false 1 (.s 0)⟩, ⟨.push, 22, (some ((.s 4), true)), .mov (.v 1)⟩, ⟨.push, 23, (some ((.s 5), true)), .bin false .geq (.s 1) (.s 0)⟩, PO 24 (.pick (.s 6) (.s 0)
 (.c (.bool false)))] (.s 0) (.seq (.region false [ VO 4 6 (.mov (.c (.bool true)))]) (.test false [ PM 25 0, PM 26 5, PO 27 (.ixAddr 1 (.s 1) (.s 0)), PO 28 (.load false 1 (.s 0)), PM 29 1, PO 30 (.bin false .gtr (.s 1) (.s 0))] (.s 0) (.region false [ PM 31 3, PM 32 1, PO 33 (.mkSl 1 (.int .i64 (0)) 1 [(0, (.s 0))]), PO 34 (.app 1 8 (.int .i64 (0)) (.s 2) (.s 0)), VS 3 5 0]) (.skip))) (.skip)) (.region false [ PM 35 3, PM 36 0, PM 37 5, PO 38 (.ixAddr 1 (.s 1) (.s 0)), PO 39 (.load false 1 (.s 0)), PO 40 (.mkSl 1 (.int .i64 (0)) 1 [(0, (.s 0))]), PO 41 (.app 1 8 (.int .i64 (0)) (.s 5) (.s
 0)), VS 3 5 0]))) (.region false [ PM 13 5, PO 14 (.bin false .add (.s 0) (I6 1)), VS 5 7 0]))
def ir47_k0 : List Bool := [true, true, false, true, true, true]
def ir47_o0 : List Bool := [false, true, false, true, true, false]
def ir47_r0 : List Bool := [false, false, true, false, false, false]
def ir47_v : List Nat := [0, 1, 4, 5, 6, 7]
def ir47 : AFn := ⟨2, 6, .seq (.region false [ VO 2 4 (.newnil 1)]) (.seq (.region false [ PO 8 (.mkSl 1 (.int .i64 (0)) 0 []), VS 3 5 0]) (.seq (.region false [ VO 4 6 (.mov (.c (.bool false)))]) (.seq (.seq (.region false [ VO 5 7 (.mov (I6 0))]) (.block 0 (.loop ir47_k0 ir47_o0 ir47_r0 ir47_b0))) (.seq (.test false [ PM 42 4, PO 43 (.un .not (.s 0))] (.s 0) (.region false [ PM 44 3, PM 45 1, PO 46 (.mkSl 1 (.int .i64 (0)) 1 [(0, (.s 0))]), PO 47 (.app 1 8 (.int .i64 (0)) (.s 2) (.s 0)), VS 3 5 0]) (.skip)) (.seq (.region false [ PM 48 3, VS 2 4 0]) (.ret)))))), [.t 2]⟩
noncomputable def t_42 : List (Nat × Ctr) := []
noncomputable def c_42 : Ctr := mkF t_42 ir47 [.bor, .bor]
theorem s_42 : Sound Try.prog 47 c_42 := mkF_sound _ rfl snd_nil (by kernel_rfl : chkFn Try.prog 47 ir47 ir47_v = true)
theorem M_42 : c_42.modes = [.bor, .bor] := rfl
theorem Fl_42 : c_42.flat = true := rfl
attribute [go_sem] M_42 Fl_42
def E_42_l1 (list : List Int) (n : Int) : ((List Int) × Bool × Int) → St
 | (out, done, i) => ⟨[.sl 1 (List.map (AV.int .i64) list), .int .i64 n, .any, .own 3200000, .bool done, .int .i64 i], [], [(3200000, ⟨1, List.map (AV.int .i64) out⟩)], true⟩
def R_42_l1 (list : List Int) (n : Int) (y : (List Int) × Bool) : Res := (.exit 0, ⟨[.any, .int .i64 n, .any, .own 3200000, .bool y.2, .any], [], [(3200000, ⟨1, List.map (AV.int .i64) y.1⟩)], true⟩)
theorem spec_l00Put_l1_ex {list : List Int} {n : Int} {sgm_ : (List Int) × Bool × Int} {rho_ : (List Int) × Bool} (h : whileE (spec_l00Put_l1 list n) sgm_ = some rho_) : ∃ L0, ∀ L, L0 ≤ L → iter (exec (look t_42) L ir47_b0) ir47_k0 ir47_o0 ir47_r0 L (E_42_l1 list n sgm_) = R_42_l1 list n rho_ := by
 refine loop_ex (E := E_42_l1 list n) (R := R_42_l1 list n) (fun y => by first | (intro c; cases c) | (rcases y with y | y <;> (intro c; cases c)) | (rcases y with y | y | y <;> (intro c; cases c))) ?_ h
 clear h
 rintro ⟨out, done, i⟩ o_ h
 dsimp only [spec_l00Put_l1] at h
 rcases it_some h with ⟨z1, h⟩ | ⟨z1, h⟩
 ·try simp only [go_sem, n1, n2, n3, n4] at z1
  all_goals
  obtain ⟨z2, h⟩ := ck_some h
  rcases or_split z2 with ⟨gz2, z2⟩ | gz2
  ·try simp only [go_sem, n1, n2, n3, n4, z1] at gz2
   all_goals
   have lz2 := ix_lt z2
   have xz2 := getD_mapD (AV.int .i64) list lz2
   try simp only [go_sem] at lz2
   try simp only [go_sem] at xz2
   try simp only [go_sem, n1, n2, n3, n4, z1, gz2] at z2
   all_goals
   rcases it_some h with ⟨z3, h⟩ | ⟨z3, h⟩
   ·try simp only [go_sem, n1, n2, n3, n4, z1, gz2, z2] at z3
    all_goals
    obtain ⟨z4, h⟩ := ck_some h
    have lz4 := ix_lt z4
    have xz4 := getD_mapD (AV.int .i64) list lz4
    try simp only [go_sem] at lz4
    try simp only [go_sem] at xz4
    try simp only [go_sem, n1, n2, n3, n4, z1, gz2, z2, z3] at z4
    all_goals
    rcases it_some h with ⟨z5, h⟩ | ⟨z5, h⟩
    ·try simp only [go_sem, n1, n2, n3, n4, z1, gz2, z2, z3, z4] at z5
     all_goals
     obtain ⟨z6, h⟩ := ck_some h
     try simp only [go_sem, n1, n2, n3, n4, z1, gz2, z2, z3, z4, z5] at z6
     all_goals
     obtain ⟨z7, h⟩ := ck_some h
     try simp only [go_sem, n1, n2, n3, n4, z1, gz2, z2, z3, z4, z5, z6] at z7
     all_goals
     obtain rfl := so_some h
     refine ⟨0, fun L hL => ?_⟩
     simp only [go_sem, ir47, E_42_l1, R_42_l1, ir47_b0, ir47_k0, ir47_o0, ir47_r0, z1, gz2, z2, lz2, xz2, z3, z4, lz4, xz4, z5, z6, z7]
    ·try simp only [go_sem, n1, n2, n3, n4, z1, gz2, z2, z3, z4] at z5
     all_goals
     obtain ⟨z8, h⟩ := ck_some h
     try simp only [go_sem, n1, n2, n3, n4, z1, gz2, z2, z3, z4, z5] at z8
     all_goals
     obtain rfl := so_some h
     refine ⟨0, fun L hL => ?_⟩
     simp only [go_sem, ir47, E_42_l1, R_42_l1, ir47_b0, ir47_k0, ir47_o0, ir47_r0, z1, gz2, z2, lz2, xz2, z3, z4, lz4, xz4, z5, z8]
   ·try simp only [go_sem, n1, n2, n3, n4, z1, gz2, z2] at z3
    all_goals
    obtain ⟨z9, h⟩ := ck_some h
    have lz9 := ix_lt z9
    have xz9 := getD_mapD (AV.int .i64) list lz9
    try simp only [go_sem] at lz9
    try simp only [go_sem] at xz9
    try simp only [go_sem, n1, n2, n3, n4, z1, gz2, z2, z3] at z9
    all_goals
    obtain ⟨z10, h⟩ := ck_some h
    try simp only [go_sem, n1, n2, n3, n4, z1, gz2, z2, z3, z9] at z10
    all_goals
    obtain rfl := so_some h
    refine ⟨0, fun L hL => ?_⟩
    simp only [go_sem, ir47, E_42_l1, R_42_l1, ir47_b0, ir47_k0, ir47_o0, ir47_r0, z1, gz2, z2, lz2, xz2, z3, z9, lz9, xz9, z10]
  ·have gz2n := no_f gz2
   try simp only [go_sem, n1, n2, n3, n4, z1] at gz2n
   all_goals
   rcases it_some h with ⟨z3, h⟩ | ⟨z3, h⟩
   ·try simp only [go_sem, n1, n2, n3, n4, z1, gz2n] at z3
    all_goals
    (simp_all)
   ·try simp only [go_sem, n1, n2, n3, n4, z1, gz2n] at z3
    all_goals
    obtain ⟨z9, h⟩ := ck_some h
    have lz9 := ix_lt z9
    have xz9 := getD_mapD (AV.int .i64) list lz9
    try simp only [go_sem] at lz9
    try simp only [go_sem] at xz9
    try simp only [go_sem, n1, n2, n3, n4, z1, gz2n, z3] at z9
    all_goals
    obtain ⟨z10, h⟩ := ck_some h
    try simp only [go_sem, n1, n2, n3, n4, z1, gz2n, z3, z9] at z10
    all_goals
    obtain rfl := so_some h
    refine ⟨0, fun L hL => ?_⟩
    simp only [go_sem, ir47, E_42_l1, R_42_l1, ir47_b0, ir47_k0, ir47_o0, ir47_r0, z1, gz2n, z3, z9, lz9, xz9, z10]
 ·try simp only [go_sem, n1, n2, n3, n4] at z1
  all_goals
  obtain rfl := so_some h
  refine ⟨0, fun L hL => ?_⟩
  simp only [go_sem, ir47, E_42_l1, R_42_l1, ir47_b0, ir47_k0, ir47_o0, ir47_r0, z1]

theorem Fs_42 {list : List Int} {n : Int} {y_ : (List Int)} (h : spec_l00Put list n = some y_) : c_42.F [.sl 1 (List.map (AV.int .i64) list), .int .i64 n] = ⟨true, .fresh 1 (List.map (AV.int .i64) y_), [.any, .any]⟩ := by
 refine mkF_E (by simp only [flatA, flatB, flat1, List.all_cons, List.all_nil, Bool.and_self, flatE_map (f := (AV.int .i64)) (fun _ => rfl)]) ?_
 dsimp only [spec_l00Put] at h
 obtain ⟨y_11, z11, h⟩ := bd_some h
 obtain ⟨Lz11, ez11⟩ := spec_l00Put_l1_ex z11
 rcases it_some h with ⟨z12, h⟩ | ⟨z12, h⟩
 ·try simp only [go_sem, n1, n2, n3, n4] at z12
  all_goals
  obtain ⟨z13, h⟩ := ck_some h
  try simp only [go_sem, n1, n2, n3, n4, z12] at z13
  all_goals
  obtain rfl := so_some h
  refine ⟨Lz11, fun L hL => ?_⟩
  have ez11 := ez11 L (by omega)
  try simp only [go_sem, E_42_l1, R_42_l1, ir47_k0, ir47_o0, ir47_r0, z12, z13] at ez11
  simp only [go_sem, ir47, E_42_l1, R_42_l1, ir47_k0, ir47_o0, ir47_r0, z12, z13, ez11]
 ·try simp only [go_sem, n1, n2, n3, n4] at z12
  all_goals
  obtain rfl := so_some h
  refine ⟨Lz11, fun L hL => ?_⟩
  have ez11 := ez11 L (by omega)
  try simp only [go_sem, E_42_l1, R_42_l1, ir47_k0, ir47_o0, ir47_r0, z12] at ez11
  simp only [go_sem, ir47, E_42_l1, R_42_l1, ir47_k0, ir47_o0, ir47_r0, z12, ez11]


def ir48_v : List Nat := [0, 1, 2]
def ir48 : AFn := ⟨1, 3, .seq (.region false [ VO 1 1 (.box (.v 0)), VO 2 2 (.mov (.c (.bool false)))]) (.seq (.region false [ PO 3 (.fldAddr 0 (.v 1)), PO 4 (.load false 1 (.s 0)), PO 5 (.call 26 [(.s 0), (I6 0), (I6 20000)]), PO 6 (.mov (.s 0)), ⟨.push, 7, (some ((.s 0), true)), .fldAddr 1 (.v 1)⟩, ⟨.push, 8, (some ((.s 1), true)), .load false 1 (.s 0)⟩, ⟨.push, 9, (some ((.s 2), true)), .call 26 [(.s 0), (I6 0), (I6 1000000)]⟩, PO 10 (.pick (.s 3) (.s 0) (.c (.bool false))), PO 11 (.mov (.s 0)), ⟨.push, 12, (some ((.s 0), true)), .fldAddr 2 (.v 1)⟩, ⟨.push, 13, (some ((.s 1), true)), .load
 false 1 (.s 0)⟩, ⟨.push, 14, (some ((.s 2), true)), .call 64 [(.s 0)]⟩, PO 15 (.pick (.s 3) (.s 0) (.c (.bool false))), VS 2 2 0]) (.ret)), [.t 2]⟩
noncomputable def t_43 : List (Nat × Ctr) := [(26, c_35), (64, c_39)]
theorem lk_43_26 : look t_43 26 = some c_35 := rfl
theorem lk_43_64 : look t_43 64 = some c_39 := rfl
noncomputable def c_43 : Ctr := mkF t_43 ir48 [.bor]
theorem s_43 : Sound Try.prog 48 c_43 := mkF_sound _ rfl (snd_cons s_35 (snd_cons s_39 snd_nil)) (by kernel_rfl : chkFn Try.prog 48 ir48 ir48_v = true)
theorem M_43 : c_43.modes = [.bor] := rfl
theorem Fl_43 : c_43.flat = true := rfl
attribute [go_sem] M_43 Fl_43
attribute [go_sem] lk_43_26 lk_43_64
theorem Fs_43 {f : Facts} {y_ : Bool} (h : spec_l18Facts f = some y_) : c_43.F [Facts_av f] = ⟨true, .bool y_, [.any]⟩ := by
 refine mkF_E rfl ?_
 dsimp only [spec_l18Facts] at h
 obtain ⟨y_1, z1, h⟩ := bd_some h
 have fz1 := Fs_35 z1
 try simp only [go_sem] at fz1
 obtain ⟨z2, h⟩ := ck_some h
 rcases or_split z2 with ⟨gz2, z2⟩ | gz2
 ·try simp only [go_sem, n1, n2, n3, n4] at gz2
  all_goals
  obtain ⟨y_2, hz2⟩ := Option.isSome_iff_exists.1 z2
  have fz2 := Fs_35 hz2
  try simp only [go_sem, n1, n2, n3, n4, gz2] at hz2
  all_goals
  try simp only [go_sem, gz2] at fz2
  obtain ⟨z3, h⟩ := ck_some h
  rcases or_split z3 with ⟨gz3, z3⟩ | gz3
  ·try simp only [go_sem, n1, n2, n3, n4, gz2, hz2] at gz3
   all_goals
   obtain ⟨y_3, hz3⟩ := Option.isSome_iff_exists.1 z3
   have fz3 := Fs_39 hz3
   try simp only [go_sem, n1, n2, n3, n4, gz2, hz2, gz3] at hz3
   all_goals
   try simp only [go_sem, gz2, hz2, gz3] at fz3
   obtain rfl := so_some h
   refine ⟨0, fun L hL => ?_⟩
   simp only [go_sem, ir48, fz1, gz2, hz2, fz2, gz3, hz3, fz3]
  ·rcases and_f gz3 with gz3a | ⟨gz3a, gz3b⟩
   ·try simp only [go_sem, n1, n2, n3, n4, gz2, hz2] at gz3a
    all_goals
    (simp_all)
   ·try simp only [go_sem, n1, n2, n3, n4, gz2, hz2] at gz3a
    all_goals
    try simp only [go_sem, n1, n2, n3, n4, gz2, hz2, gz3a] at gz3b
    all_goals
    obtain rfl := so_some h
    refine ⟨0, fun L hL => ?_⟩
    simp only [go_sem, ir48, fz1, gz2, hz2, fz2, gz3a, gz3b]
 ·try simp only [go_sem, n1, n2, n3, n4] at gz2
  all_goals
  obtain ⟨z3, h⟩ := ck_some h
  obtain rfl := so_some h
  refine ⟨0, fun L hL => ?_⟩
  simp only [go_sem, ir48, fz1, gz2]


def ir35_v : List Nat := [0, 1, 3, 4]
def ir35 : AFn := ⟨2, 4, .seq (.region false [ VO 2 3 (.box (.v 1)), VO 3 4 (.mov (.c (.bool false)))]) (.seq (.anyo 40 [ SO 0 5 (.fldAddr 0 (.v 2)), SO 1 6 (.load false 1 (.s 0)), SO 2 7 (.mov (.v 0)), SO 3 8 (.nilck (.s 2)), SO 4 9 (.fldAddr 1 (.s 3)), SO 5 10 (.load false 1 (.s 4)), SO 6 11 (.mov (.v 0)), SO 7 12 (.nilck (.s 6)), SO 8 13 (.fldAddr 2 (.s 7)), SO 9 14 (.load false 1 (.s 8)), SO 10 15 (.callp 26 [(.s 1), (.s 5), (.s 9)]), SO 11 16 (.mov (.s 10)), ⟨.slot 12, 17, (some ((.s 11), true)), .fldAddr 1 (.v 2)⟩, ⟨.slot 13, 18, (some ((.s 11), true)), .load false 1 (.s 12)⟩, ⟨.slot 14,
 19, (some ((.s 11), true)), .mov (.v 0)⟩, ⟨.slot 15, 20, (some ((.s 11), true)), .nilck (.s 14)⟩, ⟨.slot 16, 21, (some ((.s 11), true)), .fldAddr 3 (.s 15)⟩, ⟨.slot 17, 22, (some ((.s 11), true)), .load false 1 (.s 16)⟩, ⟨.slot 18, 23, (some ((.s 11), true)), .mov (.v 0)⟩, ⟨.slot 19, 24, (some ((.s 11), true)), .nilck (.s 18)⟩, ⟨.slot 20, 25, (some ((.s 11), true)), .fldAddr 4 (.s 19)⟩, ⟨.slot 21, 26, (some ((.s 11), true)), .load false 1 (.s 20)⟩, ⟨.slot 22, 27, (some ((.s 11), true)), .call 26 [(.s 13), (.s 17), (.s 21)]⟩, SO 23 28 (.pick (.s 11) (.s 22) (.c (.bool false))), SO 24 29 (.mov
 (.s 23)), ⟨.slot 25, 30, (some ((.s 24), true)), .mov (.v 0)⟩, ⟨.slot 26, 31, (some ((.s 24), true)), .nilck (.s 25)⟩, ⟨.slot 27, 32, (some ((.s 24), true)), .fldAddr 5 (.s 26)⟩, ⟨.slot 28, 33, (some ((.s 24), true)), .load false 1 (.s 27)⟩, ⟨.slot 29, 34, (some ((.s 24), true)), .bin false .eql (.s 28) (I6 0)⟩, ⟨.slot 30, 35, (some ((.s 24), true)), .mov (.s 29)⟩, ⟨.slot 31, 36, (some ((.s 30), false)), .mov (.v 0)⟩, ⟨.slot 32, 37, (some ((.s 30), false)), .nilck (.s 31)⟩, ⟨.slot 33, 38, (some ((.s 30), false)), .fldAddr 5 (.s 32)⟩, ⟨.slot 34, 39, (some ((.s 30), false)), .load false 1 (.s
 33)⟩, ⟨.slot 35, 40, (some ((.s 30), false)), .fldAddr 2 (.v 2)⟩, ⟨.slot 36, 41, (some ((.s 30), false)), .load false 1 (.s 35)⟩, ⟨.slot 37, 42, (some ((.s 30), false)), .bin false .eql (.s 34) (.s 36)⟩, ⟨.slot 38, 43, (some ((.s 24), true)), .pick (.s 30) (.c (.bool true)) (.s 37)⟩, SO 39 44 (.pick (.s 24) (.s 38) (.c (.bool false))), VS 3 4 39] [] .skip) (.ret)), [.t 3]⟩
noncomputable def t_44 : List (Nat × Ctr) := [(26, c_35)]
theorem lk_44_26 : look t_44 26 = some c_35 := rfl
noncomputable def c_44 : Ctr := mkF t_44 ir35 [.bor, .bor]
theorem s_44 : Sound Try.prog 35 c_44 := mkF_sound _ rfl (snd_cons s_35 snd_nil) (by kernel_rfl : chkFn Try.prog 35 ir35 ir35_v = true)
theorem M_44 : c_44.modes = [.bor, .bor] := rfl
theorem Fl_44 : c_44.flat = true := rfl
attribute [go_sem] M_44 Fl_44
attribute [go_sem] lk_44_26
theorem Fs_44 {r : Rule} {f : Facts} {y_ : Bool} (h : spec_l18Match r f = some y_) : c_44.F [.ptr 6 [Rule_av r] 0 0, Facts_av f] = ⟨true, .bool y_, [.any, .any]⟩ := by
 refine mkF_E rfl ?_
 dsimp only [spec_l18Match] at h
 obtain ⟨y_1, z1, h⟩ := bd_some h
 have fz1 := Fs_35 z1
 try simp only [go_sem] at fz1
 obtain ⟨z2, h⟩ := ck_some h
 rcases or_split z2 with ⟨gz2, z2⟩ | gz2
 ·try simp only [go_sem, n1, n2, n3, n4] at gz2
  all_goals
  obtain ⟨y_2, hz2⟩ := Option.isSome_iff_exists.1 z2
  have fz2 := Fs_35 hz2
  try simp only [go_sem, n1, n2, n3, n4, gz2] at hz2
  all_goals
  try simp only [go_sem, gz2] at fz2
  obtain rfl := so_some h
  refine ⟨0, fun L hL => ?_⟩
  simp only [go_sem, ir35, fz1, gz2, hz2, fz2]
 ·try simp only [go_sem, n1, n2, n3, n4] at gz2
  all_goals
  obtain rfl := so_some h
  refine ⟨0, fun L hL => ?_⟩
  simp only [go_sem, ir35, fz1, gz2]


def ir49_b0 : IR := .seq (.test false [ PM 6 4, PM 7 0, PO 8 (.len false (.s 0)), PO 9 (.bin false .lss (.s 2) (.s 0))] (.s 0) (.skip) (.exit 0)) (.seq (.block 1 (.anyo 5 [ SO 0 12 (.mov (.v 0)), SO 1 13 (.mov (.v 4)), SO 2 14 (.ixAddr 6 (.s 0) (.s 1)), SO 3 15 (.load true 3 (.v 2)), SO 4 16 (.callp 35 [(.s 2), (.s 3)])] [] (.cond (.s 4) (.seq (.region false [ PM 17 4, VS 3 4 0]) (.ret)) (.skip)))) (.region false [ PM 10 4, PO 11 (.bin false .add (.s 0) (I6 1)), VS 4 5 0]))
def ir49_k0 : List Bool := [true, false, true, false, true]
def ir49_o0 : List Bool := [false, false, false, false, false]
def ir49_r0 : List Bool := [false, false, false, true, false]
def ir49_v : List Nat := [0, 1, 3, 4, 5]
def ir49 : AFn := ⟨2, 5, .seq (.region false [ VO 2 3 (.box (.v 1)), VO 3 4 (.mov (I6 0))]) (.seq (.seq (.region false [ VO 4 5 (.mov (I6 0))]) (.block 0 (.loop ir49_k0 ir49_o0 ir49_r0 ir49_b0))) (.seq (.region false [ VO 3 4 (.mov (.c (.int .i64 (-1))))]) (.ret))), [.t 3]⟩
noncomputable def t_45 : List (Nat × Ctr) := [(35, c_44)]
theorem lk_45_35 : look t_45 35 = some c_44 := rfl
noncomputable def c_45 : Ctr := mkF t_45 ir49 [.bor, .bor]
theorem s_45 : Sound Try.prog 49 c_45 := mkF_sound _ rfl (snd_cons s_44 snd_nil) (by kernel_rfl : chkFn Try.prog 49 ir49 ir49_v = true)
theorem M_45 : c_45.modes = [.bor, .bor] := rfl
theorem Fl_45 : c_45.flat = true := rfl
attribute [go_sem] M_45 Fl_45
attribute [go_sem] lk_45_35
def E_45_l1 (list : List Rule) (f : Facts) : Int → St
 | i => ⟨[.sl 6 (List.map Rule_av list), .any, .ref 3200000 0 0, .any, .int .i64 i], [], [(3200000, ⟨3, [Facts_av f]⟩)], true⟩
def R_45_l1 (list : List Rule) (f : Facts) : (Unit ⊕ Int) → Res
 | .inl y => (.exit 0, ⟨[.any, .any, .any, .any, .any], [], [], true⟩)
 | .inr y => (.ret, ⟨[.any, .any, .any, .int .i64 y, .any], [], [], true⟩)
theorem spec_l18First_l1_ex {list : List Rule} {f : Facts} {sgm_ : Int} {rho_ : Unit ⊕ Int} (h : whileE (spec_l18First_l1 list f) sgm_ = some rho_) : ∃ L0, ∀ L, L0 ≤ L → iter (exec (look t_45) L ir49_b0) ir49_k0 ir49_o0 ir49_r0 L (E_45_l1 list f sgm_) = R_45_l1 list f rho_ := by
 refine loop_ex (E := E_45_l1 list f) (R := R_45_l1 list f) (fun y => by first | (intro c; cases c) | (rcases y with y | y <;> (intro c; cases c)) | (rcases y with y | y | y <;> (intro c; cases c))) ?_ h
 clear h
 intro i o_ h
 dsimp only [spec_l18First_l1] at h
 rcases it_some h with ⟨z1, h⟩ | ⟨z1, h⟩
 ·try simp only [go_sem, n1, n2, n3, n4] at z1
  all_goals
  obtain ⟨z2, h⟩ := ck_some h
  have lz2 := ix_lt z2
  have xz2 := getD_mapD Rule_av list lz2
  try simp only [go_sem] at lz2
  try simp only [go_sem] at xz2
  try simp only [go_sem, n1, n2, n3, n4, z1] at z2
  all_goals
  obtain ⟨y_3, z3, h⟩ := bd_some h
  have fz3 := Fs_44 z3
  try simp only [go_sem, z1, z2] at fz3
  rcases it_some h with ⟨z4, h⟩ | ⟨z4, h⟩
  ·try simp only [go_sem, n1, n2, n3, n4, z1, z2] at z4
   all_goals
   obtain rfl := so_some h
   refine ⟨0, fun L hL => ?_⟩
   simp only [go_sem, ir49, E_45_l1, R_45_l1, ir49_b0, ir49_k0, ir49_o0, ir49_r0, z1, z2, lz2, xz2, fz3, z4]
  ·try simp only [go_sem, n1, n2, n3, n4, z1, z2] at z4
   all_goals
   obtain rfl := so_some h
   refine ⟨0, fun L hL => ?_⟩
   simp only [go_sem, ir49, E_45_l1, R_45_l1, ir49_b0, ir49_k0, ir49_o0, ir49_r0, z1, z2, lz2, xz2, fz3, z4]
 ·try simp only [go_sem, n1, n2, n3, n4] at z1
  all_goals
  obtain rfl := so_some h
  refine ⟨0, fun L hL => ?_⟩
  simp only [go_sem, ir49, E_45_l1, R_45_l1, ir49_b0, ir49_k0, ir49_o0, ir49_r0, z1]

theorem Fs_45 {list : List Rule} {f : Facts} {y_ : Int} (h : spec_l18First list f = some y_) : c_45.F [.sl 6 (List.map Rule_av list), Facts_av f] = ⟨true, .int .i64 y_, [.any, .any]⟩ := by
 refine mkF_E rfl ?_
 dsimp only [spec_l18First] at h
 obtain ⟨y_5, z5, h⟩ := bd_some h
 obtain ⟨Lz5, ez5⟩ := spec_l18First_l1_ex z5
 rcases y_5 with y_5a | y_5b
 ·dsimp only at h
  obtain rfl := so_some h
  refine ⟨Lz5, fun L hL => ?_⟩
  have ez5 := ez5 L (by omega)
  try simp only [go_sem, E_45_l1, R_45_l1, ir49_k0, ir49_o0, ir49_r0] at ez5
  simp only [go_sem, ir49, E_45_l1, R_45_l1, ir49_k0, ir49_o0, ir49_r0, ez5]
 ·dsimp only at h
  obtain rfl := so_some h
  refine ⟨Lz5, fun L hL => ?_⟩
  have ez5 := ez5 L (by omega)
  try simp only [go_sem, E_45_l1, R_45_l1, ir49_k0, ir49_o0, ir49_r0] at ez5
  simp only [go_sem, ir49, E_45_l1, R_45_l1, ir49_k0, ir49_o0, ir49_r0, ez5]


def ir27_b0 : IR := .seq (.test false [ PM 15 6, PM 16 0, PO 17 (.len false (.s 0)), PO 18 (.bin false .lss (.s 2) (.s 0))] (.s 0) (.skip) (.exit 0)) (.seq (.block 1 (.seq (.anyo 14 [ SO 0 21 (.mov (.v 4)), SO 1 22 (.mov (.v 0)), SO 2 23 (.mov (.v 6)), SO 3 24 (.ixAddr 6 (.s 1) (.s 2)), SO 4 25 (.fldAddr 1 (.s 3)), SO 5 26 (.load false 1 (.s 4)), SO 6 27 (.pur (.call 47 [(.s 0), (.s 5)])), SO 7 28 (.mov (.v 0)), SO 8 29 (.mov (.v 6)), SO 9 30 (.ixAddr 6 (.s 7) (.s 8)), SO 10 31 (.fldAddr 2 (.s 9)), SO 11 32 (.load false 1 (.s 10)), SO 12 33 (.bin false .add (.s 11) (I6 1)), SO 13 34 (.pur
 (.call 47 [(.s 6), (.s 12)])), VS 4 6 13] [] .skip) (.anyo 14 [ SO 0 35 (.mov (.v 5)), SO 1 36 (.mov (.v 0)), SO 2 37 (.mov (.v 6)), SO 3 38 (.ixAddr 6 (.s 1) (.s 2)), SO 4 39 (.fldAddr 3 (.s 3)), SO 5 40 (.load false 1 (.s 4)), SO 6 41 (.pur (.call 47 [(.s 0), (.s 5)])), SO 7 42 (.mov (.v 0)), SO 8 43 (.mov (.v 6)), SO 9 44 (.ixAddr 6 (.s 7) (.s 8)), SO 10 45 (.fldAddr 4 (.s 9)), SO 11 46 (.load false 1 (.s 10)), SO 12 47 (.bin false .add (.s 11) (I6 1)), SO 13 48 (.pur (.call 47 [(.s 6), (.s 12)])), VS 5 7 13] [] .skip))) (.region false [ PM 19 6, PO 20 (.bin false .add (.s 0) (I6 1)), VS 6
 8 0]))
def ir27_k0 : List Bool := [true, true, true, false, true, true, true, false, false, false, false]
def ir27_o0 : List Bool := [true, true, true, false, true, true, false, false, false, false, false]
def ir27_r0 : List Bool := [false, false, true, true, false, false, false, false, false, false, false]
def ir27_b3 : IR := .seq (.test false [ PM 61 9, PO 62 (.bin false .leq (.s 0) (I6 3))] (.s 0) (.skip) (.exit 6)) (.seq (.block 7 (.seq (.anyo 10 [ SO 0 65 (.safe [12] (.mov (.v 4))), SO 1 66 (.flat (.mov (.v 7))), SO 2 67 (.safe [12] (.ixAddr 1 (.s 0) (.s 1))), SO 3 68 (.safe [12] (.load false 1 (.s 2))), SO 4 69 (.safe [12] (.mov (.v 5))), SO 5 70 (.flat (.mov (.v 8))), SO 6 71 (.safe [12] (.ixAddr 1 (.s 4) (.s 5))), SO 7 72 (.safe [12] (.load false 1 (.s 6))), SO 8 73 (.flat (.mov (.v 9))), SO 9 74 (.safe [12] (.pur (.build [.int .i64 (0), .int .i64 (0), .int .i64 (0)] [(0, 1, (.s 3)), (1,
 1, (.s 7)), (2, 1, (.s 8))]))), VO 10 12 (.alloc (.agg [.int .i64 (0), .int .i64 (0), .int .i64 (0)])), ⟨.no, 0, none, .store 3 (.v 10) (.s 9)⟩] [] .skip) (.test false [ PO 75 (.load true 3 (.v 10)), PO 76 (.call 48 [(.s 0)]), PO 77 (.mov (.s 0)), ⟨.push, 78, (some ((.s 0), true)), .mov (.v 0)⟩, ⟨.push, 79, (some ((.s 1), true)), .load true 3 (.v 10)⟩, ⟨.push, 80, (some ((.s 2), true)), .call 49 [(.s 1), (.s 0)]⟩, ⟨.push, 81, (some ((.s 3), true)), .mov (.v 1)⟩, ⟨.push, 82, (some ((.s 4), true)), .bin false .eql (.s 1) (.s 0)⟩, PO 83 (.pick (.s 5) (.s 0) (.c (.bool false)))] (.s 0) (.seq
 (.region false [ PO 84 (.load true 3 (.v 10)), ⟨.no, 0, none, .store 3 (.v 2) (.s 0)⟩, VO 3 5 (.mov (.c (.bool true)))]) (.ret)) (.skip)))) (.region false [ PM 63 9, PO 64 (.bin false .add (.s 0) (I6 1)), VS 9 11 0]))
def ir27_k3 : List Bool := [true, true, true, false, true, true, false, true, true, true, false]
def ir27_o3 : List Bool := [true, true, true, false, true, true, false, true, true, false, false]
def ir27_r3 : List Bool := [false, false, true, true, false, false, false, false, false, false, false]
def ir27_b2 : IR := .seq (.test false [ PM 55 8, PM 56 5, PO 57 (.len false (.s 0)), PO 58 (.bin false .lss (.s 2) (.s 0))] (.s 0) (.skip) (.exit 4)) (.seq (.block 5 (.seq (.region false [ VO 9 11 (.mov (I6 1))]) (.block 6 (.loop ir27_k3 ir27_o3 ir27_r3 ir27_b3)))) (.region false [ PM 59 8, PO 60 (.bin false .add (.s 0) (I6 1)), VS 8 10 0]))
def ir27_k2 : List Bool := [true, true, true, false, true, true, false, true, true, false, false]
def ir27_o2 : List Bool := [true, true, true, false, true, true, false, true, false, false, false]
def ir27_r2 : List Bool := [false, false, true, true, false, false, false, false, false, false, false]
def ir27_b1 : IR := .seq (.test false [ PM 49 7, PM 50 4, PO 51 (.len false (.s 0)), PO 52 (.bin false .lss (.s 2) (.s 0))] (.s 0) (.skip) (.exit 2)) (.seq (.block 3 (.seq (.region false [ VO 8 10 (.mov (I6 0))]) (.block 4 (.loop ir27_k2 ir27_o2 ir27_r2 ir27_b2)))) (.region false [ PM 53 7, PO 54 (.bin false .add (.s 0) (I6 1)), VS 7 9 0]))
def ir27_k1 : List Bool := [true, true, true, false, true, true, false, true, false, false, false]
def ir27_o1 : List Bool := [false, false, true, false, false, false, false, false, false, false, false]
def ir27_r1 : List Bool := [false, false, true, true, false, false, false, false, false, false, false]
def ir27_v : List Nat := [0, 1, 4, 5, 6, 7, 8, 9, 10, 11, 12]
def ir27 : AFn := ⟨2, 11, .seq (.region false [ VO 2 4 (.alloc (.agg [.int .i64 (0), .int .i64 (0), .int .i64 (0)])), VO 3 5 (.mov (.c (.bool false)))]) (.seq (.region false [ PO 13 (.pur (.mkSl 1 (.int .i64 (0)) 1 [(0, (I6 0))])), VS 4 6 0]) (.seq (.region false [ PO 14 (.pur (.mkSl 1 (.int .i64 (0)) 1 [(0, (I6 0))])), VS 5 7 0]) (.seq (.seq (.region false [ VO 6 8 (.mov (I6 0))]) (.block 0 (.loop ir27_k0 ir27_o0 ir27_r0 ir27_b0))) (.seq (.seq (.region false [ VO 7 9 (.mov (I6 0))]) (.block 2 (.loop ir27_k1 ir27_o1 ir27_r1 ir27_b1))) (.seq (.region false [ PO 85 (.build [.int .i64 (0), .int
 .i64 (0), .int .i64 (0)] []), ⟨.no, 0, none, .store 3 (.v 2) (.s 0)⟩, VO 3 5 (.mov (.c (.bool false)))]) (.ret)))))), [.cell true 3 2, .t 3]⟩
noncomputable def t_46 : List (Nat × Ctr) := [(47, c_42), (48, c_43), (49, c_45)]
theorem lk_46_47 : look t_46 47 = some c_42 := rfl
theorem lk_46_48 : look t_46 48 = some c_43 := rfl
theorem lk_46_49 : look t_46 49 = some c_45 := rfl
noncomputable def c_46 : Ctr := mkN t_46 ir27 [.bor, .bor]
theorem s_46 : Sound Try.prog 27 c_46 := mkN_sound _ (snd_cons s_42 (snd_cons s_43 (snd_cons s_45 snd_nil))) (by kernel_rfl : chkFn Try.prog 27 ir27 ir27_v = true)
theorem M_46 : c_46.modes = [.bor, .bor] := rfl
theorem Fl_46 : c_46.flat = false := rfl
attribute [go_sem] M_46 Fl_46
attribute [go_sem] lk_46_47 lk_46_48 lk_46_49
def E_46_l1 (list : List Rule) (k : Int) (t4 : Facts) : ((List Int) × (List Int) × Int) → St
 | (amps, pers, i) => ⟨[.sl 6 (List.map Rule_av list), .int .i64 k, .ref 3200000 0 0, .any, .sl 1 (List.map (AV.int .i64) amps), .sl 1 (List.map (AV.int .i64) pers), .int .i64 i, .any, .any, .any, .any], [], [(3200000, ⟨3, [Facts_av t4]⟩)], true⟩
def R_46_l1 (list : List Rule) (k : Int) (t4 : Facts) (y : (List Int) × (List Int)) : Res := (.exit 0, ⟨[.sl 6 (List.map Rule_av list), .int .i64 k, .ref 3200000 0 0, .any, .sl 1 (List.map (AV.int .i64) y.1), .sl 1 (List.map (AV.int .i64) y.2), .any, .any, .any, .any, .any], [], [(3200000, ⟨3, [Facts_av t4]⟩)], true⟩)
theorem spec_l18Find_l1_ex {list : List Rule} {k : Int} {t4 : Facts} {sgm_ : (List Int) × (List Int) × Int} {rho_ : (List Int) × (List Int)} (h : whileE (spec_l18Find_l1 list k t4) sgm_ = some rho_) : ∃ L0, ∀ L, L0 ≤ L → iter (exec (look t_46) L ir27_b0) ir27_k0 ir27_o0 ir27_r0 L (E_46_l1 list k t4 sgm_) = R_46_l1 list k t4 rho_ := by
 refine loop_ex (E := E_46_l1 list k t4) (R := R_46_l1 list k t4) (fun y => by first | (intro c; cases c) | (rcases y with y | y <;> (intro c; cases c)) | (rcases y with y | y | y <;> (intro c; cases c))) ?_ h
 clear h
 rintro ⟨amps, pers, i⟩ o_ h
 dsimp only [spec_l18Find_l1] at h
 rcases it_some h with ⟨z1, h⟩ | ⟨z1, h⟩
 ·try simp only [go_sem, n1, n2, n3, n4] at z1
  all_goals
  obtain ⟨z2, h⟩ := ck_some h
  have lz2 := ix_lt z2
  have xz2 := getD_mapD Rule_av list lz2
  try simp only [go_sem] at lz2
  try simp only [go_sem] at xz2
  try simp only [go_sem, n1, n2, n3, n4, z1] at z2
  all_goals
  obtain ⟨y_3, z3, h⟩ := bd_some h
  have fz3 := Fs_42 z3
  try simp only [go_sem, z1, z2] at fz3
  obtain ⟨y_4, z4, h⟩ := bd_some h
  have fz4 := Fs_42 z4
  try simp only [go_sem, z1, z2] at fz4
  obtain ⟨y_5, z5, h⟩ := bd_some h
  have fz5 := Fs_42 z5
  try simp only [go_sem, z1, z2] at fz5
  obtain ⟨y_6, z6, h⟩ := bd_some h
  have fz6 := Fs_42 z6
  try simp only [go_sem, z1, z2] at fz6
  obtain rfl := so_some h
  refine ⟨0, fun L hL => ?_⟩
  simp only [go_sem, ir27, E_46_l1, R_46_l1, ir27_b0, ir27_k0, ir27_o0, ir27_r0, z1, z2, lz2, xz2, fz3, fz4, fz5, fz6]
 ·try simp only [go_sem, n1, n2, n3, n4] at z1
  all_goals
  obtain rfl := so_some h
  refine ⟨0, fun L hL => ?_⟩
  simp only [go_sem, ir27, E_46_l1, R_46_l1, ir27_b0, ir27_k0, ir27_o0, ir27_r0, z1]

def E_46_l4 (list : List Rule) (k : Int) (t4 : Facts) (amps : List Int) (pers : List Int) (a : Int) (p : Int) : Int → St
 | shape => ⟨[.sl 6 (List.map Rule_av list), .int .i64 k, .ref 3200000 0 0, .any, .sl 1 (List.map (AV.int .i64) amps), .sl 1 (List.map (AV.int .i64) pers), .any, .int .i64 a, .int .i64 p, .int .i64 shape, .any], [], [(3200000, ⟨3, [Facts_av t4]⟩)], true⟩
def R_46_l4 (list : List Rule) (k : Int) (t4 : Facts) (amps : List Int) (pers : List Int) (a : Int) (p : Int) : (Unit ⊕ (Facts × Bool)) → Res
 | .inl y => (.exit 6, ⟨[.sl 6 (List.map Rule_av list), .int .i64 k, .ref 3200000 0 0, .any, .sl 1 (List.map (AV.int .i64) amps), .sl 1 (List.map (AV.int .i64) pers), .any, .int .i64 a, .int .i64 p, .any, .any], [], [(3200000, ⟨3, [Facts_av t4]⟩)], true⟩)
 | .inr y => (.ret, ⟨[.any, .any, .ref 3200000 0 0, .bool y.2, .any, .any, .any, .any, .any, .any, .any], [], [(3200000, ⟨3, [Facts_av y.1]⟩)], true⟩)
theorem spec_l18Find_l4_ex {list : List Rule} {k : Int} {t4 : Facts} {amps : List Int} {pers : List Int} {a : Int} {p : Int} {sgm_ : Int} {rho_ : Unit ⊕ (Facts × Bool)} (h : whileE (spec_l18Find_l4 list k t4 amps pers a p) sgm_ = some rho_) : ∃ L0, ∀ L, L0 ≤ L → iter (exec (look t_46) L ir27_b3) ir27_k3 ir27_o3 ir27_r3 L (E_46_l4 list k t4 amps pers a p sgm_) = R_46_l4 list k t4 amps pers a p rho_ := by
 refine loop_ex (E := E_46_l4 list k t4 amps pers a p) (R := R_46_l4 list k t4 amps pers a p) (fun y => by first | (intro c; cases c) | (rcases y with y | y <;> (intro c; cases c)) | (rcases y with y | y | y <;> (intro c; cases c))) ?_ h
 clear h
 intro shape o_ h
 dsimp only [spec_l18Find_l4] at h
 rcases it_some h with ⟨z10, h⟩ | ⟨z10, h⟩
 ·try simp only [go_sem, n1, n2, n3, n4] at z10
  all_goals
  obtain ⟨z11, h⟩ := ck_some h
  have lz11 := ix_lt z11
  have xz11 := getD_mapD (AV.int .i64) amps lz11
  try simp only [go_sem] at lz11
  try simp only [go_sem] at xz11
  try simp only [go_sem, n1, n2, n3, n4, z10] at z11
  all_goals
  obtain ⟨z12, h⟩ := ck_some h
  have lz12 := ix_lt z12
  have xz12 := getD_mapD (AV.int .i64) pers lz12
  try simp only [go_sem] at lz12
  try simp only [go_sem] at xz12
  try simp only [go_sem, n1, n2, n3, n4, z10, z11] at z12
  all_goals
  obtain ⟨y_13, z13, h⟩ := bd_some h
  have fz13 := Fs_43 z13
  try simp only [go_sem, z10, z11, z12] at fz13
  obtain ⟨z14, h⟩ := ck_some h
  rcases or_split z14 with ⟨gz14, z14⟩ | gz14
  ·try simp only [go_sem, n1, n2, n3, n4, z10, z11, z12] at gz14
   all_goals
   obtain ⟨y_14, hz14⟩ := Option.isSome_iff_exists.1 z14
   have fz14 := Fs_45 hz14
   try simp only [go_sem, n1, n2, n3, n4, z10, z11, z12, gz14] at hz14
   all_goals
   try simp only [go_sem, z10, z11, z12, gz14] at fz14
   rcases it_some h with ⟨z15, h⟩ | ⟨z15, h⟩
   ·try simp only [go_sem, n1, n2, n3, n4, z10, z11, z12, gz14, hz14] at z15
    all_goals
    obtain rfl := so_some h
    refine ⟨0, fun L hL => ?_⟩
    simp only [go_sem, ir27, E_46_l4, R_46_l4, ir27_b3, ir27_k3, ir27_o3, ir27_r3, E_46_l1, R_46_l1, ir27_k0, ir27_o0, ir27_r0, z10, z11, lz11, xz11, z12, lz12, xz12, fz13, gz14, hz14, fz14, z15]
   ·try simp only [go_sem, n1, n2, n3, n4, z10, z11, z12, gz14, hz14] at z15
    all_goals
    obtain rfl := so_some h
    refine ⟨0, fun L hL => ?_⟩
    simp only [go_sem, ir27, E_46_l4, R_46_l4, ir27_b3, ir27_k3, ir27_o3, ir27_r3, E_46_l1, R_46_l1, ir27_k0, ir27_o0, ir27_r0, z10, z11, lz11, xz11, z12, lz12, xz12, fz13, gz14, hz14, fz14, z15]
  ·try simp only [go_sem, n1, n2, n3, n4, z10, z11, z12] at gz14
   all_goals
   rcases it_some h with ⟨z15, h⟩ | ⟨z15, h⟩
   ·try simp only [go_sem, n1, n2, n3, n4, z10, z11, z12, gz14] at z15
    all_goals
    (simp_all)
   ·try simp only [go_sem, n1, n2, n3, n4, z10, z11, z12, gz14] at z15
    all_goals
    obtain rfl := so_some h
    refine ⟨0, fun L hL => ?_⟩
    simp only [go_sem, ir27, E_46_l4, R_46_l4, ir27_b3, ir27_k3, ir27_o3, ir27_r3, E_46_l1, R_46_l1, ir27_k0, ir27_o0, ir27_r0, z10, z11, lz11, xz11, z12, lz12, xz12, fz13, gz14, z15]
 ·try simp only [go_sem, n1, n2, n3, n4] at z10
  all_goals
  obtain rfl := so_some h
  refine ⟨0, fun L hL => ?_⟩
  simp only [go_sem, ir27, E_46_l4, R_46_l4, ir27_b3, ir27_k3, ir27_o3, ir27_r3, E_46_l1, R_46_l1, ir27_k0, ir27_o0, ir27_r0, z10]

def E_46_l3 (list : List Rule) (k : Int) (t4 : Facts) (amps : List Int) (pers : List Int) (a : Int) : Int → St
 | p => ⟨[.sl 6 (List.map Rule_av list), .int .i64 k, .ref 3200000 0 0, .any, .sl 1 (List.map (AV.int .i64) amps), .sl 1 (List.map (AV.int .i64) pers), .any, .int .i64 a, .int .i64 p, .any, .any], [], [(3200000, ⟨3, [Facts_av t4]⟩)], true⟩
def R_46_l3 (list : List Rule) (k : Int) (t4 : Facts) (amps : List Int) (pers : List Int) (a : Int) : (Unit ⊕ (Facts × Bool)) → Res
 | .inl y => (.exit 4, ⟨[.sl 6 (List.map Rule_av list), .int .i64 k, .ref 3200000 0 0, .any, .sl 1 (List.map (AV.int .i64) amps), .sl 1 (List.map (AV.int .i64) pers), .any, .int .i64 a, .any, .any, .any], [], [(3200000, ⟨3, [Facts_av t4]⟩)], true⟩)
 | .inr y => (.ret, ⟨[.any, .any, .ref 3200000 0 0, .bool y.2, .any, .any, .any, .any, .any, .any, .any], [], [(3200000, ⟨3, [Facts_av y.1]⟩)], true⟩)
theorem spec_l18Find_l3_ex {list : List Rule} {k : Int} {t4 : Facts} {amps : List Int} {pers : List Int} {a : Int} {sgm_ : Int} {rho_ : Unit ⊕ (Facts × Bool)} (h : whileE (spec_l18Find_l3 list k t4 amps pers a) sgm_ = some rho_) : ∃ L0, ∀ L, L0 ≤ L → iter (exec (look t_46) L ir27_b2) ir27_k2 ir27_o2 ir27_r2 L (E_46_l3 list k t4 amps pers a sgm_) = R_46_l3 list k t4 amps pers a rho_ := by
 refine loop_ex (E := E_46_l3 list k t4 amps pers a) (R := R_46_l3 list k t4 amps pers a) (fun y => by first | (intro c; cases c) | (rcases y with y | y <;> (intro c; cases c)) | (rcases y with y | y | y <;> (intro c; cases c))) ?_ h
 clear h
 intro p o_ h
 dsimp only [spec_l18Find_l3] at h
 rcases it_some h with ⟨z9, h⟩ | ⟨z9, h⟩
 ·try simp only [go_sem, n1, n2, n3, n4] at z9
  all_goals
  obtain ⟨y_16, z16, h⟩ := bd_some h
  obtain ⟨Lz16, ez16⟩ := spec_l18Find_l4_ex z16
  rcases y_16 with y_16a | y_16b
  ·dsimp only at h
   obtain rfl := so_some h
   refine ⟨Lz16, fun L hL => ?_⟩
   have ez16 := ez16 L (by omega)
   try simp only [go_sem, E_46_l3, R_46_l3, ir27_b2, ir27_k2, ir27_o2, ir27_r2, E_46_l1, R_46_l1, ir27_k0, ir27_o0, ir27_r0, E_46_l4, R_46_l4, ir27_k3, ir27_o3, ir27_r3, z9] at ez16
   simp only [go_sem, ir27, E_46_l3, R_46_l3, ir27_b2, ir27_k2, ir27_o2, ir27_r2, E_46_l1, R_46_l1, ir27_k0, ir27_o0, ir27_r0, E_46_l4, R_46_l4, ir27_k3, ir27_o3, ir27_r3, z9, ez16]
  ·dsimp only at h
   obtain rfl := so_some h
   refine ⟨Lz16, fun L hL => ?_⟩
   have ez16 := ez16 L (by omega)
   try simp only [go_sem, E_46_l3, R_46_l3, ir27_b2, ir27_k2, ir27_o2, ir27_r2, E_46_l1, R_46_l1, ir27_k0, ir27_o0, ir27_r0, E_46_l4, R_46_l4, ir27_k3, ir27_o3, ir27_r3, z9] at ez16
   simp only [go_sem, ir27, E_46_l3, R_46_l3, ir27_b2, ir27_k2, ir27_o2, ir27_r2, E_46_l1, R_46_l1, ir27_k0, ir27_o0, ir27_r0, E_46_l4, R_46_l4, ir27_k3, ir27_o3, ir27_r3, z9, ez16]
 ·try simp only [go_sem, n1, n2, n3, n4] at z9
  all_goals
  obtain rfl := so_some h
  refine ⟨0, fun L hL => ?_⟩
  simp only [go_sem, ir27, E_46_l3, R_46_l3, ir27_b2, ir27_k2, ir27_o2, ir27_r2, E_46_l1, R_46_l1, ir27_k0, ir27_o0, ir27_r0, E_46_l4, R_46_l4, ir27_k3, ir27_o3, ir27_r3, z9]

def E_46_l2 (list : List Rule) (k : Int) (t4 : Facts) (amps : List Int) (pers : List Int) : Int → St
 | a => ⟨[.sl 6 (List.map Rule_av list), .int .i64 k, .ref 3200000 0 0, .any, .sl 1 (List.map (AV.int .i64) amps), .sl 1 (List.map (AV.int .i64) pers), .any, .int .i64 a, .any, .any, .any], [], [(3200000, ⟨3, [Facts_av t4]⟩)], true⟩
def R_46_l2 (list : List Rule) (k : Int) (t4 : Facts) (amps : List Int) (pers : List Int) : (Unit ⊕ (Facts × Bool)) → Res
 | .inl y => (.exit 2, ⟨[.any, .any, .ref 3200000 0 0, .any, .any, .any, .any, .any, .any, .any, .any], [], [(3200000, ⟨3, [Facts_av t4]⟩)], true⟩)
 | .inr y => (.ret, ⟨[.any, .any, .ref 3200000 0 0, .bool y.2, .any, .any, .any, .any, .any, .any, .any], [], [(3200000, ⟨3, [Facts_av y.1]⟩)], true⟩)
theorem spec_l18Find_l2_ex {list : List Rule} {k : Int} {t4 : Facts} {amps : List Int} {pers : List Int} {sgm_ : Int} {rho_ : Unit ⊕ (Facts × Bool)} (h : whileE (spec_l18Find_l2 list k t4 amps pers) sgm_ = some rho_) : ∃ L0, ∀ L, L0 ≤ L → iter (exec (look t_46) L ir27_b1) ir27_k1 ir27_o1 ir27_r1 L (E_46_l2 list k t4 amps pers sgm_) = R_46_l2 list k t4 amps pers rho_ := by
 refine loop_ex (E := E_46_l2 list k t4 amps pers) (R := R_46_l2 list k t4 amps pers) (fun y => by first | (intro c; cases c) | (rcases y with y | y <;> (intro c; cases c)) | (rcases y with y | y | y <;> (intro c; cases c))) ?_ h
 clear h
 intro a o_ h
 dsimp only [spec_l18Find_l2] at h
 rcases it_some h with ⟨z8, h⟩ | ⟨z8, h⟩
 ·try simp only [go_sem, n1, n2, n3, n4] at z8
  all_goals
  obtain ⟨y_17, z17, h⟩ := bd_some h
  obtain ⟨Lz17, ez17⟩ := spec_l18Find_l3_ex z17
  rcases y_17 with y_17a | y_17b
  ·dsimp only at h
   obtain rfl := so_some h
   refine ⟨Lz17, fun L hL => ?_⟩
   have ez17 := ez17 L (by omega)
   try simp only [go_sem, E_46_l2, R_46_l2, ir27_b1, ir27_k1, ir27_o1, ir27_r1, E_46_l1, R_46_l1, ir27_k0, ir27_o0, ir27_r0, E_46_l4, R_46_l4, ir27_k3, ir27_o3, ir27_r3, E_46_l3, R_46_l3, ir27_k2, ir27_o2, ir27_r2, z8] at ez17
   simp only [go_sem, ir27, E_46_l2, R_46_l2, ir27_b1, ir27_k1, ir27_o1, ir27_r1, E_46_l1, R_46_l1, ir27_k0, ir27_o0, ir27_r0, E_46_l4, R_46_l4, ir27_k3, ir27_o3, ir27_r3, E_46_l3, R_46_l3, ir27_k2, ir27_o2, ir27_r2, z8, ez17]
  ·dsimp only at h
   obtain rfl := so_some h
   refine ⟨Lz17, fun L hL => ?_⟩
   have ez17 := ez17 L (by omega)
   try simp only [go_sem, E_46_l2, R_46_l2, ir27_b1, ir27_k1, ir27_o1, ir27_r1, E_46_l1, R_46_l1, ir27_k0, ir27_o0, ir27_r0, E_46_l4, R_46_l4, ir27_k3, ir27_o3, ir27_r3, E_46_l3, R_46_l3, ir27_k2, ir27_o2, ir27_r2, z8] at ez17
   simp only [go_sem, ir27, E_46_l2, R_46_l2, ir27_b1, ir27_k1, ir27_o1, ir27_r1, E_46_l1, R_46_l1, ir27_k0, ir27_o0, ir27_r0, E_46_l4, R_46_l4, ir27_k3, ir27_o3, ir27_r3, E_46_l3, R_46_l3, ir27_k2, ir27_o2, ir27_r2, z8, ez17]
 ·try simp only [go_sem, n1, n2, n3, n4] at z8
  all_goals
  obtain rfl := so_some h
  refine ⟨0, fun L hL => ?_⟩
  simp only [go_sem, ir27, E_46_l2, R_46_l2, ir27_b1, ir27_k1, ir27_o1, ir27_r1, E_46_l1, R_46_l1, ir27_k0, ir27_o0, ir27_r0, E_46_l4, R_46_l4, ir27_k3, ir27_o3, ir27_r3, E_46_l3, R_46_l3, ir27_k2, ir27_o2, ir27_r2, z8]

theorem Fs_46 {list : List Rule} {k : Int} {y_ : Facts × Bool} (h : spec_l18Find list k = some y_) : c_46.F [.sl 6 (List.map Rule_av list), .int .i64 k] = ⟨true, .tup [Facts_av y_.1, .bool y_.2], [.any, .any]⟩ := by
 refine mkN_E ?_
 dsimp only [spec_l18Find] at h
 obtain ⟨y_7, z7, h⟩ := bd_some h
 obtain ⟨Lz7, ez7⟩ := spec_l18Find_l1_ex z7
 obtain ⟨y_18, z18, h⟩ := bd_some h
 obtain ⟨Lz18, ez18⟩ := spec_l18Find_l2_ex z18
 rcases y_18 with y_18a | y_18b
 ·dsimp only at h
  obtain rfl := so_some h
  refine ⟨Lz7 + Lz18, fun L hL => ?_⟩
  have ez7 := ez7 L (by omega)
  have ez18 := ez18 L (by omega)
  try simp only [go_sem, E_46_l1, R_46_l1, ir27_k0, ir27_o0, ir27_r0, E_46_l4, R_46_l4, ir27_k3, ir27_o3, ir27_r3, E_46_l3, R_46_l3, ir27_k2, ir27_o2, ir27_r2, E_46_l2, R_46_l2, ir27_k1, ir27_o1, ir27_r1] at ez7
  try simp only [go_sem, E_46_l1, R_46_l1, ir27_k0, ir27_o0, ir27_r0, E_46_l4, R_46_l4, ir27_k3, ir27_o3, ir27_r3, E_46_l3, R_46_l3, ir27_k2, ir27_o2, ir27_r2, E_46_l2, R_46_l2, ir27_k1, ir27_o1, ir27_r1] at ez18
  simp only [go_sem, ir27, E_46_l1, R_46_l1, ir27_k0, ir27_o0, ir27_r0, E_46_l4, R_46_l4, ir27_k3, ir27_o3, ir27_r3, E_46_l3, R_46_l3, ir27_k2, ir27_o2, ir27_r2, E_46_l2, R_46_l2, ir27_k1, ir27_o1, ir27_r1, ez7, ez18]
 ·dsimp only at h
  obtain rfl := so_some h
  refine ⟨Lz7 + Lz18, fun L hL => ?_⟩
  have ez7 := ez7 L (by omega)
  have ez18 := ez18 L (by omega)
  try simp only [go_sem, E_46_l1, R_46_l1, ir27_k0, ir27_o0, ir27_r0, E_46_l4, R_46_l4, ir27_k3, ir27_o3, ir27_r3, E_46_l3, R_46_l3, ir27_k2, ir27_o2, ir27_r2, E_46_l2, R_46_l2, ir27_k1, ir27_o1, ir27_r1] at ez7
  try simp only [go_sem, E_46_l1, R_46_l1, ir27_k0, ir27_o0, ir27_r0, E_46_l4, R_46_l4, ir27_k3, ir27_o3, ir27_r3, E_46_l3, R_46_l3, ir27_k2, ir27_o2, ir27_r2, E_46_l2, R_46_l2, ir27_k1, ir27_o1, ir27_r1] at ez18
  simp only [go_sem, ir27, E_46_l1, R_46_l1, ir27_k0, ir27_o0, ir27_r0, E_46_l4, R_46_l4, ir27_k3, ir27_o3, ir27_r3, E_46_l3, R_46_l3, ir27_k2, ir27_o2, ir27_r2, E_46_l2, R_46_l2, ir27_k1, ir27_o1, ir27_r1, ez7, ez18]


def ir7_v : List Nat := [0, 1, 4, 5, 6, 7]
def ir7 : AFn := ⟨2, 6, .seq (.region false [ VO 2 4 (.alloc (.agg [.int .i64 (0), .int .i64 (0), .int .i64 (0)])), VO 3 5 (.mov (I6 0))]) (.seq (.test false [ PM 8 0, PO 9 (.call 25 [(.s 0)]), PO 10 (.un .not (.s 0))] (.s 0) (.seq (.region false [ PO 11 (.build [.int .i64 (0), .int .i64 (0), .int .i64 (0)] []), ⟨.no, 0, none, .store 3 (.v 2) (.s 0)⟩, VO 3 5 (.mov (I6 1))]) (.ret)) (.skip)) (.seq (.test false [ PM 12 1, PM 13 0, PO 14 (.len false (.s 0)), PO 15 (.bin false .sub (.s 0) (I6 1)), PO 16 (.call 26 [(.s 3), (I6 0), (.s 0)]), PO 17 (.un .not (.s 0))] (.s 0) (.seq (.region false [ PO
 18 (.build [.int .i64 (0), .int .i64 (0), .int .i64 (0)] []), ⟨.no, 0, none, .store 3 (.v 2) (.s 0)⟩, VO 3 5 (.mov (I6 2))]) (.ret)) (.skip)) (.seq (.region false [ PM 20 0, PM 21 1, PO 22 (.call 27 [(.s 1), (.s 0)]), PO 19 (.mov (.s 0)), PO 23 (.ext (.s 0) 0), PO 24 (.ext (.s 1) 1), VO 4 6 (.alloc (.agg [.int .i64 (0), .int .i64 (0), .int .i64 (0)])), ⟨.no, 0, none, .store 3 (.v 4) (.s 1)⟩, VS 5 7 0]) (.seq (.test false [ PM 25 5, PO 26 (.un .not (.s 0))] (.s 0) (.seq (.region false [ PO 27 (.build [.int .i64 (0), .int .i64 (0), .int .i64 (0)] []), ⟨.no, 0, none, .store 3 (.v 2) (.s 0)⟩, VO 3
 5 (.mov (I6 3))]) (.ret)) (.skip)) (.seq (.region false [ PO 28 (.load true 3 (.v 4)), ⟨.no, 0, none, .store 3 (.v 2) (.s 0)⟩, VO 3 5 (.mov (I6 0))]) (.ret)))))), [.cell true 3 2, .t 3]⟩
noncomputable def t_47 : List (Nat × Ctr) := [(25, c_41), (26, c_35), (27, c_46)]
theorem lk_47_25 : look t_47 25 = some c_41 := rfl
theorem lk_47_26 : look t_47 26 = some c_35 := rfl
theorem lk_47_27 : look t_47 27 = some c_46 := rfl
noncomputable def c_47 : Ctr := mkN t_47 ir7 [.bor, .bor]
theorem s_47 : Sound Try.prog 7 c_47 := mkN_sound _ (snd_cons s_41 (snd_cons s_35 (snd_cons s_46 snd_nil))) (by kernel_rfl : chkFn Try.prog 7 ir7 ir7_v = true)
theorem M_47 : c_47.modes = [.bor, .bor] := rfl
theorem Fl_47 : c_47.flat = false := rfl
attribute [go_sem] M_47 Fl_47
attribute [go_sem] lk_47_25 lk_47_26 lk_47_27
theorem Fs_47 {list : List Rule} {k : Int} {y_ : Facts × Int} (h : spec_FactsFor list k = some y_) : c_47.F [.sl 6 (List.map Rule_av list), .int .i64 k] = ⟨true, .tup [Facts_av y_.1, .int .i64 y_.2], [.any, .any]⟩ := by
 refine mkN_E ?_
 dsimp only [spec_FactsFor] at h
 obtain ⟨y_1, z1, h⟩ := bd_some h
 have fz1 := Fs_41 z1
 try simp only [go_sem] at fz1
 rcases it_some h with ⟨z2, h⟩ | ⟨z2, h⟩
 ·try simp only [go_sem, n1, n2, n3, n4] at z2
  all_goals
  obtain rfl := so_some h
  refine ⟨0, fun L hL => ?_⟩
  simp only [go_sem, ir7, fz1, z2]
 ·try simp only [go_sem, n1, n2, n3, n4] at z2
  all_goals
  obtain ⟨y_3, z3, h⟩ := bd_some h
  have fz3 := Fs_35 z3
  try simp only [go_sem, z2] at fz3
  rcases it_some h with ⟨z4, h⟩ | ⟨z4, h⟩
  ·try simp only [go_sem, n1, n2, n3, n4, z2] at z4
   all_goals
   obtain rfl := so_some h
   refine ⟨0, fun L hL => ?_⟩
   simp only [go_sem, ir7, fz1, z2, fz3, z4]
  ·try simp only [go_sem, n1, n2, n3, n4, z2] at z4
   all_goals
   obtain ⟨y_5, z5, h⟩ := bd_some h
   have fz5 := Fs_46 z5
   try simp only [go_sem, z2, z4] at fz5
   rcases it_some h with ⟨z6, h⟩ | ⟨z6, h⟩
   ·try simp only [go_sem, n1, n2, n3, n4, z2, z4] at z6
    all_goals
    obtain rfl := so_some h
    refine ⟨0, fun L hL => ?_⟩
    simp only [go_sem, ir7, fz1, z2, fz3, z4, fz5, z6]
   ·try simp only [go_sem, n1, n2, n3, n4, z2, z4] at z6
    all_goals
    obtain rfl := so_some h
    refine ⟨0, fun L hL => ?_⟩
    simp only [go_sem, ir7, fz1, z2, fz3, z4, fz5, z6]


def ir29_v : List Nat := [0, 1, 3, 5]
def ir29 : AFn := ⟨2, 4, .seq (.region false [ VO 2 3 (.mov (.c (.bool false)))]) (.seq (.region false [ PO 7 (.load false 1 (.v 1)), PM 8 0, PO 9 (.call 24 [(.s 1), (.s 0)]), PO 6 (.mov (.s 0)), PO 10 (.ext (.s 0) 0), PO 11 (.ext (.s 1) 1), PO 4 (.alloc (.agg [.int .i64 (0), .int .i64 (0), .int .i64 (0)])), ⟨.no, 0, none, .store 3 (.s 0) (.s 2)⟩, VS 3 5 1]) (.seq (.region false [ PM 12 3, PO 13 (.un .not (.s 0)), VS 2 3 0]) (.ret))), [.t 2]⟩
noncomputable def t_48 : List (Nat × Ctr) := [(24, c_32)]
theorem lk_48_24 : look t_48 24 = some c_32 := rfl
noncomputable def c_48 : Ctr := mkF t_48 ir29 [.bor, .bor]
theorem s_48 : Sound Try.prog 29 c_48 := mkF_sound _ rfl (snd_cons s_32 snd_nil) (by kernel_rfl : chkFn Try.prog 29 ir29 ir29_v = true)
theorem M_48 : c_48.modes = [.bor, .bor] := rfl
theorem Fl_48 : c_48.flat = true := rfl
attribute [go_sem] M_48 Fl_48
attribute [go_sem] lk_48_24
theorem Fs_48 {i : Int} {t1 : List Rule} {y_ : Bool} (h : impl_NeverReached_c1 i t1 = some y_) : c_48.F [.int .i64 i, .ptr 1 [.sl 6 (List.map Rule_av t1)] 0 0] = ⟨true, .bool y_, [.any, .any]⟩ := by
 refine mkF_E rfl ?_
 dsimp only [impl_NeverReached_c1] at h
 obtain ⟨y_1, z1, h⟩ := bd_some h
 have fz1 := Fs_32 z1
 try simp only [go_sem] at fz1
 obtain rfl := so_some h
 refine ⟨0, fun L hL => ?_⟩
 simp only [go_sem, ir29, fz1]


def ir28_b0 : IR := .seq (.region false [ VO 7 10 (.bin false .lss (.v 6) (.v 5))]) (.seq (.cond (.v 7) (.skip) (.exit 0)) (.seq (.block 1 (.seq (.region false [ PM 11 6, VS 4 6 0]) (.test false [ PM 12 1, PM 13 4, PO 14 (.callv (.s 1) [(.s 0)])] (.s 0) (.region false [ PM 15 3, PM 16 4, PO 17 (.mkSl 1 (.int .i64 (0)) 1 [(0, (.s 0))]), PO 18 (.app 1 8 (.int .i64 (0)) (.s 2) (.s 0)), VS 3 5 0]) (.skip)))) (.region false [ PO 19 (.bin false .add (.v 6) (I6 1)), VS 6 9 0])))
def ir28_k0 : List Bool := [false, true, false, true, false, true, true, false]
def ir28_o0 : List Bool := [false, false, false, true, false, false, false, false]
def ir28_r0 : List Bool := [false, false, true, false, false, false, false, false]
def ir28_v : List Nat := [0, 1, 4, 5, 6, 8, 9, 10]
def ir28 : AFn := ⟨2, 8, .seq (.region false [ VO 2 4 (.newnil 1)]) (.seq (.region false [ PO 7 (.mkSl 1 (.int .i64 (0)) 0 []), VS 3 5 0]) (.seq (.seq (.region false [ VO 5 8 (.mov (.v 0)), VO 6 9 (.mov (I6 0))]) (.block 0 (.loop ir28_k0 ir28_o0 ir28_r0 ir28_b0))) (.seq (.region false [ PM 20 3, VS 2 4 0]) (.ret)))), [.t 2]⟩
noncomputable def t_49 : List (Nat × Ctr) := [(29, c_48)]
theorem lk_49_29 : look t_49 29 = some c_48 := rfl
noncomputable def c_49 : Ctr := mkF t_49 ir28 [.bor, .bor]
theorem s_49 : Sound Try.prog 28 c_49 := mkF_sound _ rfl (snd_cons s_48 snd_nil) (by kernel_rfl : chkFn Try.prog 28 ir28 ir28_v = true)
theorem M_49 : c_49.modes = [.bor, .bor] := rfl
theorem Fl_49 : c_49.flat = true := rfl
attribute [go_sem] M_49 Fl_49
attribute [go_sem] lk_49_29
def E_49_l1 (c : List Rule) (t8 : Int) : ((List Int) × Int) → St
 | (out, t9) => ⟨[.any, .fn (.func 29) [] [.ptr 1 [.sl 6 (List.map Rule_av c)] 0 0], .any, .own 3200000, .any, .int .i64 t8, .int .i64 t9, .any], [], [(3200000, ⟨1, List.map (AV.int .i64) out⟩)], true⟩
def R_49_l1 (c : List Rule) (t8 : Int) (y : (List Int)) : Res := (.exit 0, ⟨[.any, .any, .any, .own 3200000, .any, .any, .any, .any], [], [(3200000, ⟨1, List.map (AV.int .i64) y⟩)], true⟩)
theorem impl_indicesWhere__impl_NeverReached_c1_l1_ex {c : List Rule} {t8 : Int} {sgm_ : (List Int) × Int} {rho_ : (List Int)} (h : whileE (impl_indicesWhere__impl_NeverReached_c1_l1 c t8) sgm_ = some rho_) : ∃ L0, ∀ L, L0 ≤ L → iter (exec (look t_49) L ir28_b0) ir28_k0 ir28_o0 ir28_r0 L (E_49_l1 c t8 sgm_) = R_49_l1 c t8 rho_ := by
 refine loop_ex (E := E_49_l1 c t8) (R := R_49_l1 c t8) (fun y => by first | (intro c; cases c) | (rcases y with y | y <;> (intro c; cases c)) | (rcases y with y | y | y <;> (intro c; cases c))) ?_ h
 clear h
 rintro ⟨out, t9⟩ o_ h
 dsimp only [impl_indicesWhere__impl_NeverReached_c1_l1] at h
 rcases it_some h with ⟨z1, h⟩ | ⟨z1, h⟩
 ·try simp only [go_sem, n1, n2, n3, n4] at z1
  all_goals
  obtain ⟨y_2, z2, h⟩ := bd_some h
  have fz2 := Fs_48 z2
  try simp only [go_sem, z1] at fz2
  rcases it_some h with ⟨z3, h⟩ | ⟨z3, h⟩
  ·try simp only [go_sem, n1, n2, n3, n4, z1] at z3
   all_goals
   obtain ⟨z4, h⟩ := ck_some h
   try simp only [go_sem, n1, n2, n3, n4, z1, z3] at z4
   all_goals
   obtain rfl := so_some h
   refine ⟨0, fun L hL => ?_⟩
   simp only [go_sem, ir28, E_49_l1, R_49_l1, ir28_b0, ir28_k0, ir28_o0, ir28_r0, z1, fz2, z3, z4]
  ·try simp only [go_sem, n1, n2, n3, n4, z1] at z3
   all_goals
   obtain rfl := so_some h
   refine ⟨0, fun L hL => ?_⟩
   simp only [go_sem, ir28, E_49_l1, R_49_l1, ir28_b0, ir28_k0, ir28_o0, ir28_r0, z1, fz2, z3]
 ·try simp only [go_sem, n1, n2, n3, n4] at z1
  all_goals
  obtain rfl := so_some h
  refine ⟨0, fun L hL => ?_⟩
  simp only [go_sem, ir28, E_49_l1, R_49_l1, ir28_b0, ir28_k0, ir28_o0, ir28_r0, z1]

theorem Fs_49 {n : Int} {wanted_c0 : List Rule} {y_ : (List Int)} (h : impl_indicesWhere__impl_NeverReached_c1 n wanted_c0 = some y_) : c_49.F [.int .i64 n, .fn (.func 29) [] [.ptr 1 [.sl 6 (List.map Rule_av wanted_c0)] 0 0]] = ⟨true, .fresh 1 (List.map (AV.int .i64) y_), [.any, .any]⟩ := by
 refine mkF_E (by simp only [flatA, flatB, flat1, List.all_cons, List.all_nil, Bool.and_self, flatE_map (f := (AV.int .i64)) (fun _ => rfl)]) ?_
 dsimp only [impl_indicesWhere__impl_NeverReached_c1] at h
 obtain ⟨y_5, z5, h⟩ := bd_some h
 obtain ⟨Lz5, ez5⟩ := impl_indicesWhere__impl_NeverReached_c1_l1_ex z5
 obtain rfl := so_some h
 refine ⟨Lz5, fun L hL => ?_⟩
 have ez5 := ez5 L (by omega)
 try simp only [go_sem, E_49_l1, R_49_l1, ir28_k0, ir28_o0, ir28_r0] at ez5
 simp only [go_sem, ir28, E_49_l1, R_49_l1, ir28_k0, ir28_o0, ir28_r0, ez5]


def ir8_v : List Nat := [0, 1, 2, 3]
def ir8 : AFn := ⟨1, 4, .seq (.region false [ VO 1 1 (.box (.v 0)), VO 2 2 (.newnil 1), VO 3 3 (.mov (I6 0))]) (.seq (.test false [ PO 4 (.load false 1 (.v 1)), PO 5 (.call 20 [(.s 0)]), PO 6 (.un .not (.s 0))] (.s 0) (.seq (.region false [ VO 2 2 (.newnil 1), VO 3 3 (.mov (I6 1))]) (.ret)) (.skip)) (.seq (.region false [ PO 7 (.load false 1 (.v 1)), PO 8 (.len false (.s 0)), PO 9 (.mkFn (.func 29) [] [(.v 1)]), PO 10 (.call 28 [(.s 1), (.s 0)]), VS 2 2 0, VO 3 3 (.mov (I6 0))]) (.ret))), [.t 2, .t 3]⟩
noncomputable def t_50 : List (Nat × Ctr) := [(20, c_6), (28, c_49)]
theorem lk_50_20 : look t_50 20 = some c_6 := rfl
theorem lk_50_28 : look t_50 28 = some c_49 := rfl
noncomputable def c_50 : Ctr := mkF t_50 ir8 [.bor]
theorem s_50 : Sound Try.prog 8 c_50 := mkF_sound _ rfl (snd_cons s_6 (snd_cons s_49 snd_nil)) (by kernel_rfl : chkFn Try.prog 8 ir8 ir8_v = true)
theorem M_50 : c_50.modes = [.bor] := rfl
theorem Fl_50 : c_50.flat = true := rfl
attribute [go_sem] M_50 Fl_50
attribute [go_sem] lk_50_20 lk_50_28
theorem Fs_50 {list : List Rule} {y_ : (List Int) × Int} (h : impl_NeverReached list = some y_) : c_50.F [.sl 6 (List.map Rule_av list)] = ⟨true, .tup [.fresh 1 (List.map (AV.int .i64) y_.1), .int .i64 y_.2], [.any]⟩ := by
 refine mkF_E (by simp only [flatA, flatB, flat1, List.all_cons, List.all_nil, Bool.and_self, flatE_map (f := (AV.int .i64)) (fun _ => rfl)]) ?_
 dsimp only [impl_NeverReached] at h
 obtain ⟨y_1, z1, h⟩ := bd_some h
 have fz1 := Fs_6 z1
 try simp only [go_sem] at fz1
 rcases it_some h with ⟨z2, h⟩ | ⟨z2, h⟩
 ·try simp only [go_sem, n1, n2, n3, n4] at z2
  all_goals
  obtain rfl := so_some h
  refine ⟨0, fun L hL => ?_⟩
  simp only [go_sem, ir8, fz1, z2]
 ·try simp only [go_sem, n1, n2, n3, n4] at z2
  all_goals
  obtain ⟨y_3, z3, h⟩ := bd_some h
  have fz3 := Fs_49 z3
  try simp only [go_sem, z2] at fz3
  obtain rfl := so_some h
  refine ⟨0, fun L hL => ?_⟩
  simp only [go_sem, ir8, fz1, z2, fz3]


def ir9_b0 : IR := .seq (.test false [ PM 12 4, PM 13 0, PO 14 (.len false (.s 0)), PO 15 (.bin false .lss (.s 2) (.s 0))] (.s 0) (.skip) (.exit 0)) (.seq (.block 1 (.seq (.region false [ PM 19 0, PM 20 4, PO 21 (.call 27 [(.s 1), (.s 0)]), PO 18 (.mov (.s 0)), PO 22 (.ext (.s 0) 0), PO 23 (.ext (.s 1) 1), PO 6 (.alloc (.agg [.int .i64 (0), .int .i64 (0), .int .i64 (0)])), ⟨.no, 0, none, .store 3 (.s 0) (.s 2)⟩, VS 5 7 1]) (.test false [ PM 24 5, PO 25 (.un .not (.s 0))] (.s 0) (.region false [ PM 26 3, PM 27 4, PO 28 (.mkSl 1 (.int .i64 (0)) 1 [(0, (.s 0))]), PO 29 (.app 1 8 (.int .i64 (0))
 (.s 2) (.s 0)), VS 3 4 0]) (.skip)))) (.region false [ PM 16 4, PO 17 (.bin false .add (.s 0) (I6 1)), VS 4 5 0]))
def ir9_k0 : List Bool := [true, false, false, true, true, false]
def ir9_o0 : List Bool := [false, false, false, true, false, false]
def ir9_r0 : List Bool := [false, true, true, false, false, false]
def ir9_v : List Nat := [0, 2, 3, 4, 5, 7]
def ir9 : AFn := ⟨1, 6, .seq (.region false [ VO 1 2 (.newnil 1), VO 2 3 (.mov (I6 0))]) (.seq (.test false [ PM 8 0, PO 9 (.call 25 [(.s 0)]), PO 10 (.un .not (.s 0))] (.s 0) (.seq (.region false [ VO 1 2 (.newnil 1), VO 2 3 (.mov (I6 1))]) (.ret)) (.skip)) (.seq (.region false [ PO 11 (.mkSl 1 (.int .i64 (0)) 0 []), VS 3 4 0]) (.seq (.seq (.region false [ VO 4 5 (.mov (I6 0))]) (.block 0 (.loop ir9_k0 ir9_o0 ir9_r0 ir9_b0))) (.seq (.region false [ PM 30 3, VS 1 2 0, VO 2 3 (.mov (I6 0))]) (.ret))))), [.t 1, .t 2]⟩
noncomputable def t_51 : List (Nat × Ctr) := [(25, c_41), (27, c_46)]
theorem lk_51_25 : look t_51 25 = some c_41 := rfl
theorem lk_51_27 : look t_51 27 = some c_46 := rfl
noncomputable def c_51 : Ctr := mkF t_51 ir9 [.bor]
theorem s_51 : Sound Try.prog 9 c_51 := mkF_sound _ rfl (snd_cons s_41 (snd_cons s_46 snd_nil)) (by kernel_rfl : chkFn Try.prog 9 ir9 ir9_v = true)
theorem M_51 : c_51.modes = [.bor] := rfl
theorem Fl_51 : c_51.flat = true := rfl
attribute [go_sem] M_51 Fl_51
attribute [go_sem] lk_51_25 lk_51_27
def E_51_l1 (list : List Rule) : ((List Int) × Int) → St
 | (out, k) => ⟨[.sl 6 (List.map Rule_av list), .any, .any, .own 3200000, .int .i64 k, .any], [], [(3200000, ⟨1, List.map (AV.int .i64) out⟩)], true⟩
def R_51_l1 (list : List Rule) (y : (List Int)) : Res := (.exit 0, ⟨[.any, .any, .any, .own 3200000, .any, .any], [], [(3200000, ⟨1, List.map (AV.int .i64) y⟩)], true⟩)
theorem spec_NeverReached_l1_ex {list : List Rule} {sgm_ : (List Int) × Int} {rho_ : (List Int)} (h : whileE (spec_NeverReached_l1 list) sgm_ = some rho_) : ∃ L0, ∀ L, L0 ≤ L → iter (exec (look t_51) L ir9_b0) ir9_k0 ir9_o0 ir9_r0 L (E_51_l1 list sgm_) = R_51_l1 list rho_ := by
 refine loop_ex (E := E_51_l1 list) (R := R_51_l1 list) (fun y => by first | (intro c; cases c) | (rcases y with y | y <;> (intro c; cases c)) | (rcases y with y | y | y <;> (intro c; cases c))) ?_ h
 clear h
 rintro ⟨out, k⟩ o_ h
 dsimp only [spec_NeverReached_l1] at h
 rcases it_some h with ⟨z3, h⟩ | ⟨z3, h⟩
 ·try simp only [go_sem, n1, n2, n3, n4] at z3
  all_goals
  obtain ⟨y_4, z4, h⟩ := bd_some h
  have fz4 := Fs_46 z4
  try simp only [go_sem, z3] at fz4
  rcases it_some h with ⟨z5, h⟩ | ⟨z5, h⟩
  ·try simp only [go_sem, n1, n2, n3, n4, z3] at z5
   all_goals
   obtain ⟨z6, h⟩ := ck_some h
   try simp only [go_sem, n1, n2, n3, n4, z3, z5] at z6
   all_goals
   obtain rfl := so_some h
   refine ⟨0, fun L hL => ?_⟩
   simp only [go_sem, ir9, E_51_l1, R_51_l1, ir9_b0, ir9_k0, ir9_o0, ir9_r0, z3, fz4, z5, z6]
  ·try simp only [go_sem, n1, n2, n3, n4, z3] at z5
   all_goals
   obtain rfl := so_some h
   refine ⟨0, fun L hL => ?_⟩
   simp only [go_sem, ir9, E_51_l1, R_51_l1, ir9_b0, ir9_k0, ir9_o0, ir9_r0, z3, fz4, z5]
 ·try simp only [go_sem, n1, n2, n3, n4] at z3
  all_goals
  obtain rfl := so_some h
  refine ⟨0, fun L hL => ?_⟩
  simp only [go_sem, ir9, E_51_l1, R_51_l1, ir9_b0, ir9_k0, ir9_o0, ir9_r0, z3]

theorem Fs_51 {list : List Rule} {y_ : (List Int) × Int} (h : spec_NeverReached list = some y_) : c_51.F [.sl 6 (List.map Rule_av list)] = ⟨true, .tup [.fresh 1 (List.map (AV.int .i64) y_.1), .int .i64 y_.2], [.any]⟩ := by
 refine mkF_E (by simp only [flatA, flatB, flat1, List.all_cons, List.all_nil, Bool.and_self, flatE_map (f := (AV.int .i64)) (fun _ => rfl)]) ?_
 dsimp only [spec_NeverReached] at h
 obtain ⟨y_1, z1, h⟩ := bd_some h
 have fz1 := Fs_41 z1
 try simp only [go_sem] at fz1
 rcases it_some h with ⟨z2, h⟩ | ⟨z2, h⟩
 ·try simp only [go_sem, n1, n2, n3, n4] at z2
  all_goals
  obtain rfl := so_some h
  refine ⟨0, fun L hL => ?_⟩
  simp only [go_sem, ir9, E_51_l1, R_51_l1, ir9_k0, ir9_o0, ir9_r0, fz1, z2]
 ·try simp only [go_sem, n1, n2, n3, n4] at z2
  all_goals
  obtain ⟨y_7, z7, h⟩ := bd_some h
  obtain ⟨Lz7, ez7⟩ := spec_NeverReached_l1_ex z7
  obtain rfl := so_some h
  refine ⟨Lz7, fun L hL => ?_⟩
  have ez7 := ez7 L (by omega)
  try simp only [go_sem, E_51_l1, R_51_l1, ir9_k0, ir9_o0, ir9_r0, z2] at ez7
  simp only [go_sem, ir9, E_51_l1, R_51_l1, ir9_k0, ir9_o0, ir9_r0, fz1, z2, ez7]


def ir10_v : List Nat := [0, 2, 3]
def ir10 : AFn := ⟨1, 3, .seq (.region false [ VO 1 2 (.alloc (.agg [.int .i64 (0), .int .i64 (0), .int .i64 (0)])), VO 2 3 (.mov (I6 0))]) (.seq (.test false [ PM 4 0, PO 5 (.call 20 [(.s 0)]), PO 6 (.un .not (.s 0))] (.s 0) (.seq (.region false [ PO 7 (.build [.int .i64 (0), .int .i64 (0), .int .i64 (0)] []), ⟨.no, 0, none, .store 3 (.v 1) (.s 0)⟩, VO 2 3 (.mov (I6 1))]) (.ret)) (.skip)) (.seq (.region false [ PM 8 0, PO 9 (.call 24 [(.s 0), (.c (.int .i64 (-1)))]), PO 10 (.ext (.s 0) 0), PO 11 (.ext (.s 1) 1), PO 12 (.call 23 [(.s 1), (.s 0)]), PO 13 (.ext (.s 0) 0), PO 14 (.ext (.s 1) 1),
 ⟨.no, 0, none, .store 3 (.v 1) (.s 1)⟩, VS 2 3 0]) (.ret))), [.cell true 3 1, .t 2]⟩
noncomputable def t_52 : List (Nat × Ctr) := [(20, c_6), (24, c_32), (23, c_33)]
theorem lk_52_20 : look t_52 20 = some c_6 := rfl
theorem lk_52_24 : look t_52 24 = some c_32 := rfl
theorem lk_52_23 : look t_52 23 = some c_33 := rfl
noncomputable def c_52 : Ctr := mkN t_52 ir10 [.bor]
theorem s_52 : Sound Try.prog 10 c_52 := mkN_sound _ (snd_cons s_6 (snd_cons s_32 (snd_cons s_33 snd_nil))) (by kernel_rfl : chkFn Try.prog 10 ir10 ir10_v = true)
theorem M_52 : c_52.modes = [.bor] := rfl
theorem Fl_52 : c_52.flat = false := rfl
attribute [go_sem] M_52 Fl_52
attribute [go_sem] lk_52_20 lk_52_24 lk_52_23
theorem Fs_52 {list : List Rule} {y_ : Facts × Int} (h : impl_UnclassedFacts list = some y_) : c_52.F [.sl 6 (List.map Rule_av list)] = ⟨true, .tup [Facts_av y_.1, .int .i64 y_.2], [.any]⟩ := by
 refine mkN_E ?_
 dsimp only [impl_UnclassedFacts] at h
 obtain ⟨y_1, z1, h⟩ := bd_some h
 have fz1 := Fs_6 z1
 try simp only [go_sem] at fz1
 rcases it_some h with ⟨z2, h⟩ | ⟨z2, h⟩
 ·try simp only [go_sem, n1, n2, n3, n4] at z2
  all_goals
  obtain rfl := so_some h
  refine ⟨0, fun L hL => ?_⟩
  simp only [go_sem, ir10, fz1, z2]
 ·try simp only [go_sem, n1, n2, n3, n4] at z2
  all_goals
  obtain ⟨y_3, z3, h⟩ := bd_some h
  have fz3 := Fs_32 z3
  try simp only [go_sem, z2] at fz3
  obtain ⟨y_4, z4, h⟩ := bd_some h
  have fz4 := Fs_33 z4
  try simp only [go_sem, z2] at fz4
  obtain rfl := so_some h
  refine ⟨0, fun L hL => ?_⟩
  simp only [go_sem, ir10, fz1, z2, fz3, fz4]


def ir11_v : List Nat := [0, 2, 3, 4, 5]
def ir11 : AFn := ⟨1, 5, .seq (.region false [ VO 1 2 (.alloc (.agg [.int .i64 (0), .int .i64 (0), .int .i64 (0)])), VO 2 3 (.mov (I6 0))]) (.seq (.test false [ PM 6 0, PO 7 (.call 25 [(.s 0)]), PO 8 (.un .not (.s 0))] (.s 0) (.seq (.region false [ PO 9 (.build [.int .i64 (0), .int .i64 (0), .int .i64 (0)] []), ⟨.no, 0, none, .store 3 (.v 1) (.s 0)⟩, VO 2 3 (.mov (I6 1))]) (.ret)) (.skip)) (.seq (.region false [ PM 11 0, PO 12 (.call 27 [(.s 0), (.c (.int .i64 (-1)))]), PO 10 (.mov (.s 0)), PO 13 (.ext (.s 0) 0), PO 14 (.ext (.s 1) 1), VO 3 4 (.alloc (.agg [.int .i64 (0), .int .i64 (0), .int
 .i64 (0)])), ⟨.no, 0, none, .store 3 (.v 3) (.s 1)⟩, VS 4 5 0]) (.seq (.test false [ PM 15 4, PO 16 (.un .not (.s 0))] (.s 0) (.seq (.region false [ PO 17 (.build [.int .i64 (0), .int .i64 (0), .int .i64 (0)] []), ⟨.no, 0, none, .store 3 (.v 1) (.s 0)⟩, VO 2 3 (.mov (I6 3))]) (.ret)) (.skip)) (.seq (.region false [ PO 18 (.load true 3 (.v 3)), ⟨.no, 0, none, .store 3 (.v 1) (.s 0)⟩, VO 2 3 (.mov (I6 0))]) (.ret))))), [.cell true 3 1, .t 2]⟩
noncomputable def t_53 : List (Nat × Ctr) := [(25, c_41), (27, c_46)]
theorem lk_53_25 : look t_53 25 = some c_41 := rfl
theorem lk_53_27 : look t_53 27 = some c_46 := rfl
noncomputable def c_53 : Ctr := mkN t_53 ir11 [.bor]
theorem s_53 : Sound Try.prog 11 c_53 := mkN_sound _ (snd_cons s_41 (snd_cons s_46 snd_nil)) (by kernel_rfl : chkFn Try.prog 11 ir11 ir11_v = true)
theorem M_53 : c_53.modes = [.bor] := rfl
theorem Fl_53 : c_53.flat = false := rfl
attribute [go_sem] M_53 Fl_53
attribute [go_sem] lk_53_25 lk_53_27
theorem Fs_53 {list : List Rule} {y_ : Facts × Int} (h : spec_UnclassedFacts list = some y_) : c_53.F [.sl 6 (List.map Rule_av list)] = ⟨true, .tup [Facts_av y_.1, .int .i64 y_.2], [.any]⟩ := by
 refine mkN_E ?_
 dsimp only [spec_UnclassedFacts] at h
 obtain ⟨y_1, z1, h⟩ := bd_some h
 have fz1 := Fs_41 z1
 try simp only [go_sem] at fz1
 rcases it_some h with ⟨z2, h⟩ | ⟨z2, h⟩
 ·try simp only [go_sem, n1, n2, n3, n4] at z2
  all_goals
  obtain rfl := so_some h
  refine ⟨0, fun L hL => ?_⟩
  simp only [go_sem, ir11, fz1, z2]
 ·try simp only [go_sem, n1, n2, n3, n4] at z2
  all_goals
  obtain ⟨y_3, z3, h⟩ := bd_some h
  have fz3 := Fs_46 z3
  try simp only [go_sem, z2] at fz3
  rcases it_some h with ⟨z4, h⟩ | ⟨z4, h⟩
  ·try simp only [go_sem, n1, n2, n3, n4, z2] at z4
   all_goals
   obtain rfl := so_some h
   refine ⟨0, fun L hL => ?_⟩
   simp only [go_sem, ir11, fz1, z2, fz3, z4]
  ·try simp only [go_sem, n1, n2, n3, n4, z2] at z4
   all_goals
   obtain rfl := so_some h
   refine ⟨0, fun L hL => ?_⟩
   simp only [go_sem, ir11, fz1, z2, fz3, z4]


def ir12_v : List Nat := [0, 2, 3, 4]
def ir12 : AFn := ⟨1, 4, .seq (.region false [ VO 1 2 (.newnil 6), VO 2 3 (.mov (I6 0)), VO 3 4 (.mov (I6 0))]) (.seq (.region false [ PM 5 0, PO 6 (.call 19 [(.s 0)]), PO 7 (.ext (.s 0) 0), PO 8 (.ext (.s 1) 1), PO 9 (.ext (.s 2) 2), VS 1 2 2, VS 2 3 1, VS 3 4 0]) (.ret)), [.t 1, .t 2, .t 3]⟩
noncomputable def t_54 : List (Nat × Ctr) := [(19, c_18)]
theorem lk_54_19 : look t_54 19 = some c_18 := rfl
noncomputable def c_54 : Ctr := mkF t_54 ir12 [.bor]
theorem s_54 : Sound Try.prog 12 c_54 := mkF_sound _ rfl (snd_cons s_18 snd_nil) (by kernel_rfl : chkFn Try.prog 12 ir12 ir12_v = true)
theorem M_54 : c_54.modes = [.bor] := rfl
theorem Fl_54 : c_54.flat = true := rfl
attribute [go_sem] M_54 Fl_54
attribute [go_sem] lk_54_19
theorem Fs_54 {code : List UInt8} {y_ : (List Rule) × Int × Int} (h : spec_DrawRulesOverlap code = some y_) : c_54.F [.sl 1 (List.map byteAV code)] = ⟨true, .tup [.fresh 6 (List.map Rule_av y_.1), .int .i64 y_.2.1, .int .i64 y_.2.2], [.any]⟩ := by
 refine mkF_E (by simp only [flatA, flatB, flat1, List.all_cons, List.all_nil, Bool.and_self, flatE_map (f := Rule_av) (fun _ => rfl)]) ?_
 dsimp only [spec_DrawRulesOverlap] at h
 obtain ⟨y_1, z1, h⟩ := bd_some h
 have fz1 := Fs_18 z1
 try simp only [go_sem] at fz1
 obtain rfl := so_some h
 refine ⟨0, fun L hL => ?_⟩
 simp only [go_sem, ir12, fz1]


def ir14_v : List Nat := [0, 1, 2, 6, 7, 8, 9, 10]
def ir14 : AFn := ⟨3, 8, .seq (.region false [ VO 3 6 (.mov (.c (.bool false))), VO 4 7 (.mov (I6 0))]) (.seq (.test false [ PM 11 0, PO 12 (.call 25 [(.s 0)]), PO 13 (.un .not (.s 0))] (.s 0) (.seq (.region false [ VO 3 6 (.mov (.c (.bool false))), VO 4 7 (.mov (I6 1))]) (.ret)) (.skip)) (.seq (.region false [ PM 14 0, PO 15 (.len false (.s 0)), VS 5 8 0]) (.seq (.test false [ PM 16 1, PM 17 5, PO 18 (.bin false .sub (.s 0) (I6 1)), PO 19 (.call 26 [(.s 2), (I6 0), (.s 0)]), PO 20 (.un .not (.s 0)), PO 21 (.mov (.s 0)), ⟨.push, 22, (some ((.s 0), false)), .mov (.v 2)⟩, ⟨.push, 23, (some ((.s
 1), false)), .mov (.v 5)⟩, ⟨.push, 24, (some ((.s 2), false)), .bin false .sub (.s 0) (I6 1)⟩, ⟨.push, 25, (some ((.s 3), false)), .call 26 [(.s 2), (I6 0), (.s 0)]⟩, ⟨.push, 26, (some ((.s 4), false)), .un .not (.s 0)⟩, PO 27 (.pick (.s 5) (.c (.bool true)) (.s 0))] (.s 0) (.seq (.region false [ VO 3 6 (.mov (.c (.bool false))), VO 4 7 (.mov (I6 2))]) (.ret)) (.skip)) (.seq (.region false [ PM 28 0, PM 29 1, PO 30 (.ixAddr 6 (.s 1) (.s 0)), VS 6 9 0]) (.seq (.region false [ PM 31 0, PM 32 2, PO 33 (.ixAddr 6 (.s 1) (.s 0)), VS 7 10 0]) (.seq (.anyo 42 [ SO 0 34 (.mov (.v 6)), SO 1 35 (.nilck
 (.s 0)), SO 2 36 (.fldAddr 1 (.s 1)), SO 3 37 (.load false 1 (.s 2)), SO 4 38 (.mov (.v 7)), SO 5 39 (.nilck (.s 4)), SO 6 40 (.fldAddr 2 (.s 5)), SO 7 41 (.load false 1 (.s 6)), SO 8 42 (.bin false .gtr (.s 3) (.s 7)), SO 9 43 (.mov (.s 8)), ⟨.slot 10, 44, (some ((.s 9), false)), .mov (.v 7)⟩, ⟨.slot 11, 45, (some ((.s 9), false)), .nilck (.s 10)⟩, ⟨.slot 12, 46, (some ((.s 9), false)), .fldAddr 1 (.s 11)⟩, ⟨.slot 13, 47, (some ((.s 9), false)), .load false 1 (.s 12)⟩, ⟨.slot 14, 48, (some ((.s 9), false)), .mov (.v 6)⟩, ⟨.slot 15, 49, (some ((.s 9), false)), .nilck (.s 14)⟩, ⟨.slot 16, 50,
 (some ((.s 9), false)), .fldAddr 2 (.s 15)⟩, ⟨.slot 17, 51, (some ((.s 9), false)), .load false 1 (.s 16)⟩, ⟨.slot 18, 52, (some ((.s 9), false)), .bin false .gtr (.s 13) (.s 17)⟩, SO 19 53 (.pick (.s 9) (.c (.bool true)) (.s 18)), SO 20 54 (.mov (.s 19)), ⟨.slot 21, 55, (some ((.s 20), false)), .mov (.v 6)⟩, ⟨.slot 22, 56, (some ((.s 20), false)), .nilck (.s 21)⟩, ⟨.slot 23, 57, (some ((.s 20), false)), .fldAddr 3 (.s 22)⟩, ⟨.slot 24, 58, (some ((.s 20), false)), .load false 1 (.s 23)⟩, ⟨.slot 25, 59, (some ((.s 20), false)), .mov (.v 7)⟩, ⟨.slot 26, 60, (some ((.s 20), false)), .nilck (.s
 25)⟩, ⟨.slot 27, 61, (some ((.s 20), false)), .fldAddr 4 (.s 26)⟩, ⟨.slot 28, 62, (some ((.s 20), false)), .load false 1 (.s 27)⟩, ⟨.slot 29, 63, (some ((.s 20), false)), .bin false .gtr (.s 24) (.s 28)⟩, SO 30 64 (.pick (.s 20) (.c (.bool true)) (.s 29)), SO 31 65 (.mov (.s 30)), ⟨.slot 32, 66, (some ((.s 31), false)), .mov (.v 7)⟩, ⟨.slot 33, 67, (some ((.s 31), false)), .nilck (.s 32)⟩, ⟨.slot 34, 68, (some ((.s 31), false)), .fldAddr 3 (.s 33)⟩, ⟨.slot 35, 69, (some ((.s 31), false)), .load false 1 (.s 34)⟩, ⟨.slot 36, 70, (some ((.s 31), false)), .mov (.v 6)⟩, ⟨.slot 37, 71, (some ((.s
 31), false)), .nilck (.s 36)⟩, ⟨.slot 38, 72, (some ((.s 31), false)), .fldAddr 4 (.s 37)⟩, ⟨.slot 39, 73, (some ((.s 31), false)), .load false 1 (.s 38)⟩, ⟨.slot 40, 74, (some ((.s 31), false)), .bin false .gtr (.s 35) (.s 39)⟩, SO 41 75 (.pick (.s 31) (.c (.bool true)) (.s 40))] [] (.cond (.s 41) (.seq (.region false [ VO 3 6 (.mov (.c (.bool false))), VO 4 7 (.mov (I6 0))]) (.ret)) (.skip))) (.seq (.anyo 23 [ SO 0 76 (.mov (.v 6)), SO 1 77 (.nilck (.s 0)), SO 2 78 (.fldAddr 5 (.s 1)), SO 3 79 (.load false 1 (.s 2)), SO 4 80 (.bin false .eql (.s 3) (I6 0)), SO 5 81 (.mov (.s 4)), ⟨.slot 6,
 82, (some ((.s 5), false)), .mov (.v 7)⟩, ⟨.slot 7, 83, (some ((.s 5), false)), .nilck (.s 6)⟩, ⟨.slot 8, 84, (some ((.s 5), false)), .fldAddr 5 (.s 7)⟩, ⟨.slot 9, 85, (some ((.s 5), false)), .load false 1 (.s 8)⟩, ⟨.slot 10, 86, (some ((.s 5), false)), .bin false .eql (.s 9) (I6 0)⟩, SO 11 87 (.pick (.s 5) (.c (.bool true)) (.s 10)), SO 12 88 (.mov (.s 11)), ⟨.slot 13, 89, (some ((.s 12), false)), .mov (.v 6)⟩, ⟨.slot 14, 90, (some ((.s 12), false)), .nilck (.s 13)⟩, ⟨.slot 15, 91, (some ((.s 12), false)), .fldAddr 5 (.s 14)⟩, ⟨.slot 16, 92, (some ((.s 12), false)), .load false 1 (.s 15)⟩,
 ⟨.slot 17, 93, (some ((.s 12), false)), .mov (.v 7)⟩, ⟨.slot 18, 94, (some ((.s 12), false)), .nilck (.s 17)⟩, ⟨.slot 19, 95, (some ((.s 12), false)), .fldAddr 5 (.s 18)⟩, ⟨.slot 20, 96, (some ((.s 12), false)), .load false 1 (.s 19)⟩, ⟨.slot 21, 97, (some ((.s 12), false)), .bin false .eql (.s 16) (.s 20)⟩, SO 22 98 (.pick (.s 12) (.c (.bool true)) (.s 21)), VS 3 6 22, VO 4 7 (.mov (I6 0))] [] .skip) (.ret)))))))), [.t 3, .t 4]⟩
noncomputable def t_55 : List (Nat × Ctr) := [(25, c_41), (26, c_35)]
theorem lk_55_25 : look t_55 25 = some c_41 := rfl
theorem lk_55_26 : look t_55 26 = some c_35 := rfl
noncomputable def c_55 : Ctr := mkF t_55 ir14 [.bor, .bor, .bor]
theorem s_55 : Sound Try.prog 14 c_55 := mkF_sound _ rfl (snd_cons s_41 (snd_cons s_35 snd_nil)) (by kernel_rfl : chkFn Try.prog 14 ir14 ir14_v = true)
theorem M_55 : c_55.modes = [.bor, .bor, .bor] := rfl
theorem Fl_55 : c_55.flat = true := rfl
attribute [go_sem] M_55 Fl_55
attribute [go_sem] lk_55_25 lk_55_26
theorem Fs_55 {list : List Rule} {a : Int} {b : Int} {y_ : Bool × Int} (h : spec_RulesOverlap list a b = some y_) : c_55.F [.sl 6 (List.map Rule_av list), .int .i64 a, .int .i64 b] = ⟨true, .tup [.bool y_.1, .int .i64 y_.2], [.any, .any, .any]⟩ := by
 refine mkF_E rfl ?_
 dsimp only [spec_RulesOverlap] at h
 obtain ⟨y_1, z1, h⟩ := bd_some h
 have fz1 := Fs_41 z1
 try simp only [go_sem] at fz1
 rcases it_some h with ⟨z2, h⟩ | ⟨z2, h⟩
 ·try simp only [go_sem, n1, n2, n3, n4] at z2
  all_goals
  obtain rfl := so_some h
  refine ⟨0, fun L hL => ?_⟩
  simp only [go_sem, ir14, fz1, z2]
 ·try simp only [go_sem, n1, n2, n3, n4] at z2
  all_goals
  obtain ⟨y_3, z3, h⟩ := bd_some h
  have fz3 := Fs_35 z3
  try simp only [go_sem, z2] at fz3
  obtain ⟨z4, h⟩ := ck_some h
  rcases or_split z4 with ⟨gz4, z4⟩ | gz4
  ·try simp only [go_sem, n1, n2, n3, n4, z2] at gz4
   all_goals
   obtain ⟨y_4, hz4⟩ := Option.isSome_iff_exists.1 z4
   have fz4 := Fs_35 hz4
   try simp only [go_sem, n1, n2, n3, n4, z2, gz4] at hz4
   all_goals
   try simp only [go_sem, z2, gz4] at fz4
   rcases it_some h with ⟨z5, h⟩ | ⟨z5, h⟩
   ·try simp only [go_sem, n1, n2, n3, n4, z2, gz4, hz4] at z5
    all_goals
    obtain rfl := so_some h
    refine ⟨0, fun L hL => ?_⟩
    simp only [go_sem, ir14, fz1, z2, fz3, gz4, hz4, fz4, z5]
   ·try simp only [go_sem, n1, n2, n3, n4, z2, gz4, hz4] at z5
    all_goals
    obtain ⟨z6, h⟩ := ck_some h
    have lz6 := ix_lt z6
    have xz6 := getD_mapD Rule_av list lz6
    try simp only [go_sem] at lz6
    try simp only [go_sem] at xz6
    try simp only [go_sem, n1, n2, n3, n4, z2, gz4, hz4, z5] at z6
    all_goals
    obtain ⟨z7, h⟩ := ck_some h
    have lz7 := ix_lt z7
    have xz7 := getD_mapD Rule_av list lz7
    try simp only [go_sem] at lz7
    try simp only [go_sem] at xz7
    try simp only [go_sem, n1, n2, n3, n4, z2, gz4, hz4, z5, z6] at z7
    all_goals
    rcases it_some h with ⟨z8, h⟩ | ⟨z8, h⟩
    ·try simp only [go_sem, n1, n2, n3, n4, z2, gz4, hz4, z5, z6, z7] at z8
     all_goals
     obtain rfl := so_some h
     refine ⟨0, fun L hL => ?_⟩
     simp only [go_sem, ir14, fz1, z2, fz3, gz4, hz4, fz4, z5, z6, lz6, xz6, z7, lz7, xz7, z8]
    ·try simp only [go_sem, n1, n2, n3, n4, z2, gz4, hz4, z5, z6, z7] at z8
     all_goals
     obtain rfl := so_some h
     refine ⟨0, fun L hL => ?_⟩
     simp only [go_sem, ir14, fz1, z2, fz3, gz4, hz4, fz4, z5, z6, lz6, xz6, z7, lz7, xz7, z8]
  ·have gz4n := no_f gz4
   have gz4nn := no_t gz4n
   try simp only [go_sem, n1, n2, n3, n4, z2] at gz4nn
   all_goals
   rcases it_some h with ⟨z5, h⟩ | ⟨z5, h⟩
   ·try simp only [go_sem, n1, n2, n3, n4, z2, gz4nn] at z5
    all_goals
    obtain rfl := so_some h
    refine ⟨0, fun L hL => ?_⟩
    simp only [go_sem, ir14, fz1, z2, fz3, gz4nn, z5]
   ·try simp only [go_sem, n1, n2, n3, n4, z2, gz4nn] at z5
    all_goals
    (simp_all)


def ir15_b0 : IR := .seq (.test false [ PM 11 3, PM 12 0, PO 13 (.len false (.s 0)), PO 14 (.bin false .lss (.s 2) (.s 0))] (.s 0) (.skip) (.exit 0)) (.seq (.block 1 (.anyo 9 [ SO 0 17 (.mov (.v 0)), SO 1 18 (.mov (.v 3)), SO 2 19 (.ixAddr 1 (.s 0) (.s 1)), SO 3 20 (.load false 1 (.s 2)), SO 4 21 (.mov (.v 1)), SO 5 22 (.mov (.v 3)), SO 6 23 (.ixAddr 1 (.s 4) (.s 5)), SO 7 24 (.load false 1 (.s 6)), SO 8 25 (.bin false .neq (.s 3) (.s 7))] [] (.cond (.s 8) (.seq (.region false [ VO 2 4 (.mov (.c (.bool false)))]) (.ret)) (.skip)))) (.region false [ PM 15 3, PO 16 (.bin false .add (.s 0) (I6
 1)), VS 3 5 0]))
def ir15_k0 : List Bool := [true, true, false, true]
def ir15_o0 : List Bool := [false, false, false, false]
def ir15_r0 : List Bool := [false, false, true, false]
def ir15_v : List Nat := [0, 1, 4, 5]
def ir15 : AFn := ⟨2, 4, .seq (.region false [ VO 2 4 (.mov (.c (.bool false)))]) (.seq (.test false [ PM 6 0, PO 7 (.len false (.s 0)), PM 8 1, PO 9 (.len false (.s 0)), PO 10 (.bin false .neq (.s 2) (.s 0))] (.s 0) (.seq (.region false [ VO 2 4 (.mov (.c (.bool false)))]) (.ret)) (.skip)) (.seq (.seq (.region false [ VO 3 5 (.mov (I6 0))]) (.block 0 (.loop ir15_k0 ir15_o0 ir15_r0 ir15_b0))) (.seq (.region false [ VO 2 4 (.mov (.c (.bool true)))]) (.ret)))), [.t 2]⟩
noncomputable def t_56 : List (Nat × Ctr) := []
noncomputable def c_56 : Ctr := mkF t_56 ir15 [.bor, .bor]
theorem s_56 : Sound Try.prog 15 c_56 := mkF_sound _ rfl snd_nil (by kernel_rfl : chkFn Try.prog 15 ir15 ir15_v = true)
theorem M_56 : c_56.modes = [.bor, .bor] := rfl
theorem Fl_56 : c_56.flat = true := rfl
attribute [go_sem] M_56 Fl_56
def E_56_l1 (a : List Int) (b : List Int) : Int → St
 | i => ⟨[.sl 1 (List.map (AV.int .i64) a), .sl 1 (List.map (AV.int .i64) b), .any, .int .i64 i], [], [], true⟩
def R_56_l1 (a : List Int) (b : List Int) : (Unit ⊕ Bool) → Res
 | .inl y => (.exit 0, ⟨[.any, .any, .any, .any], [], [], true⟩)
 | .inr y => (.ret, ⟨[.any, .any, .bool y, .any], [], [], true⟩)
theorem laws_f6ints_l1_ex {a : List Int} {b : List Int} {sgm_ : Int} {rho_ : Unit ⊕ Bool} (h : whileE (laws_f6ints_l1 a b) sgm_ = some rho_) : ∃ L0, ∀ L, L0 ≤ L → iter (exec (look t_56) L ir15_b0) ir15_k0 ir15_o0 ir15_r0 L (E_56_l1 a b sgm_) = R_56_l1 a b rho_ := by
 refine loop_ex (E := E_56_l1 a b) (R := R_56_l1 a b) (fun y => by first | (intro c; cases c) | (rcases y with y | y <;> (intro c; cases c)) | (rcases y with y | y | y <;> (intro c; cases c))) ?_ h
 clear h
 intro i o_ h
 dsimp only [laws_f6ints_l1] at h
 rcases it_some h with ⟨z2, h⟩ | ⟨z2, h⟩
 ·try simp only [go_sem, n1, n2, n3, n4] at z2
  all_goals
  obtain ⟨z3, h⟩ := ck_some h
  have lz3 := ix_lt z3
  have xz3 := getD_mapD (AV.int .i64) a lz3
  try simp only [go_sem] at lz3
  try simp only [go_sem] at xz3
  try simp only [go_sem, n1, n2, n3, n4, z2] at z3
  all_goals
  obtain ⟨z4, h⟩ := ck_some h
  have lz4 := ix_lt z4
  have xz4 := getD_mapD (AV.int .i64) b lz4
  try simp only [go_sem] at lz4
  try simp only [go_sem] at xz4
  try simp only [go_sem, n1, n2, n3, n4, z2, z3] at z4
  all_goals
  rcases it_some h with ⟨z5, h⟩ | ⟨z5, h⟩
  ·try simp only [go_sem, n1, n2, n3, n4, z2, z3, z4] at z5
   all_goals
   obtain rfl := so_some h
   refine ⟨0, fun L hL => ?_⟩
   simp only [go_sem, ir15, E_56_l1, R_56_l1, ir15_b0, ir15_k0, ir15_o0, ir15_r0, z2, z3, lz3, xz3, z4, lz4, xz4, z5]
  ·try simp only [go_sem, n1, n2, n3, n4, z2, z3, z4] at z5
   all_goals
   obtain rfl := so_some h
   refine ⟨0, fun L hL => ?_⟩
   simp only [go_sem, ir15, E_56_l1, R_56_l1, ir15_b0, ir15_k0, ir15_o0, ir15_r0, z2, z3, lz3, xz3, z4, lz4, xz4, z5]
 ·try simp only [go_sem, n1, n2, n3, n4] at z2
  all_goals
  obtain rfl := so_some h
  refine ⟨0, fun L hL => ?_⟩
  simp only [go_sem, ir15, E_56_l1, R_56_l1, ir15_b0, ir15_k0, ir15_o0, ir15_r0, z2]

theorem Fs_56 {a : List Int} {b : List Int} {y_ : Bool} (h : laws_f6ints a b = some y_) : c_56.F [.sl 1 (List.map (AV.int .i64) a), .sl 1 (List.map (AV.int .i64) b)] = ⟨true, .bool y_, [.any, .any]⟩ := by
 refine mkF_E rfl ?_
 dsimp only [laws_f6ints] at h
 rcases it_some h with ⟨z1, h⟩ | ⟨z1, h⟩
 ·try simp only [go_sem, n1, n2, n3, n4] at z1
  all_goals
  obtain rfl := so_some h
  refine ⟨0, fun L hL => ?_⟩
  simp only [go_sem, ir15, E_56_l1, R_56_l1, ir15_k0, ir15_o0, ir15_r0, z1]
 ·try simp only [go_sem, n1, n2, n3, n4] at z1
  all_goals
  obtain ⟨y_6, z6, h⟩ := bd_some h
  obtain ⟨Lz6, ez6⟩ := laws_f6ints_l1_ex z6
  rcases y_6 with y_6a | y_6b
  ·dsimp only at h
   obtain rfl := so_some h
   refine ⟨Lz6, fun L hL => ?_⟩
   have ez6 := ez6 L (by omega)
   try simp only [go_sem, E_56_l1, R_56_l1, ir15_k0, ir15_o0, ir15_r0, z1] at ez6
   simp only [go_sem, ir15, E_56_l1, R_56_l1, ir15_k0, ir15_o0, ir15_r0, z1, ez6]
  ·dsimp only at h
   obtain rfl := so_some h
   refine ⟨Lz6, fun L hL => ?_⟩
   have ez6 := ez6 L (by omega)
   try simp only [go_sem, E_56_l1, R_56_l1, ir15_k0, ir15_o0, ir15_r0, z1] at ez6
   simp only [go_sem, ir15, E_56_l1, R_56_l1, ir15_k0, ir15_o0, ir15_r0, z1, ez6]


def ir30_v : List Nat := [0, 1, 2]
def ir30 : AFn := ⟨1, 3, .seq (.region false [ VO 1 1 (.box (.v 0)), VO 2 2 (.mov (.c (.bool false)))]) (.seq (.region false [ PO 3 (.fldAddr 0 (.v 1)), PO 4 (.load false 1 (.s 0)), PO 5 (.call 21 [(.s 0), (I6 0), (I6 20000)]), PO 6 (.mov (.s 0)), ⟨.push, 7, (some ((.s 0), true)), .fldAddr 1 (.v 1)⟩, ⟨.push, 8, (some ((.s 1), true)), .load false 1 (.s 0)⟩, ⟨.push, 9, (some ((.s 2), true)), .call 21 [(.s 0), (I6 0), (I6 1000000)]⟩, PO 10 (.pick (.s 3) (.s 0) (.c (.bool false))), PO 11 (.mov (.s 0)), ⟨.push, 12, (some ((.s 0), true)), .fldAddr 2 (.v 1)⟩, ⟨.push, 13, (some ((.s 1), true)), .load
 false 1 (.s 0)⟩, ⟨.push, 14, (some ((.s 2), true)), .call 21 [(.s 0), (I6 1), (I6 3)]⟩, PO 15 (.pick (.s 3) (.s 0) (.c (.bool false))), VS 2 2 0]) (.ret)), [.t 2]⟩
noncomputable def t_57 : List (Nat × Ctr) := [(21, c_1)]
theorem lk_57_21 : look t_57 21 = some c_1 := rfl
noncomputable def c_57 : Ctr := mkF t_57 ir30 [.bor]
theorem s_57 : Sound Try.prog 30 c_57 := mkF_sound _ rfl (snd_cons s_1 snd_nil) (by kernel_rfl : chkFn Try.prog 30 ir30 ir30_v = true)
theorem M_57 : c_57.modes = [.bor] := rfl
theorem Fl_57 : c_57.flat = true := rfl
attribute [go_sem] M_57 Fl_57
attribute [go_sem] lk_57_21
theorem Fs_57 {f : Facts} {y_ : Bool} (h : impl_areFacts f = some y_) : c_57.F [Facts_av f] = ⟨true, .bool y_, [.any]⟩ := by
 refine mkF_E rfl ?_
 dsimp only [impl_areFacts] at h
 obtain ⟨y_1, z1, h⟩ := bd_some h
 have fz1 := Fs_1 z1
 try simp only [go_sem] at fz1
 obtain ⟨z2, h⟩ := ck_some h
 rcases or_split z2 with ⟨gz2, z2⟩ | gz2
 ·try simp only [go_sem, n1, n2, n3, n4] at gz2
  all_goals
  obtain ⟨y_2, hz2⟩ := Option.isSome_iff_exists.1 z2
  have fz2 := Fs_1 hz2
  try simp only [go_sem, n1, n2, n3, n4, gz2] at hz2
  all_goals
  try simp only [go_sem, gz2] at fz2
  obtain ⟨z3, h⟩ := ck_some h
  rcases or_split z3 with ⟨gz3, z3⟩ | gz3
  ·try simp only [go_sem, n1, n2, n3, n4, gz2, hz2] at gz3
   all_goals
   obtain ⟨y_3, hz3⟩ := Option.isSome_iff_exists.1 z3
   have fz3 := Fs_1 hz3
   try simp only [go_sem, n1, n2, n3, n4, gz2, hz2, gz3] at hz3
   all_goals
   try simp only [go_sem, gz2, hz2, gz3] at fz3
   obtain rfl := so_some h
   refine ⟨0, fun L hL => ?_⟩
   simp only [go_sem, ir30, fz1, gz2, hz2, fz2, gz3, hz3, fz3]
  ·rcases and_f gz3 with gz3a | ⟨gz3a, gz3b⟩
   ·try simp only [go_sem, n1, n2, n3, n4, gz2, hz2] at gz3a
    all_goals
    (simp_all)
   ·try simp only [go_sem, n1, n2, n3, n4, gz2, hz2] at gz3a
    all_goals
    try simp only [go_sem, n1, n2, n3, n4, gz2, hz2, gz3a] at gz3b
    all_goals
    obtain rfl := so_some h
    refine ⟨0, fun L hL => ?_⟩
    simp only [go_sem, ir30, fz1, gz2, hz2, fz2, gz3a, gz3b]
 ·try simp only [go_sem, n1, n2, n3, n4] at gz2
  all_goals
  obtain ⟨z3, h⟩ := ck_some h
  obtain rfl := so_some h
  refine ⟨0, fun L hL => ?_⟩
  simp only [go_sem, ir30, fz1, gz2]


def ir31_v : List Nat := [0, 1, 2, 4]
def ir31 : AFn := ⟨3, 4, .seq (.region false [ VO 3 4 (.mov (.c (.bool false)))]) (.seq (.anyo 6 [ SO 0 5 (.load false 1 (.v 1)), SO 1 6 (.mov (.v 0)), SO 2 7 (.ixAddr 6 (.s 0) (.s 1)), SO 3 8 (.load true 6 (.s 2)), SO 4 9 (.load true 3 (.v 2)), SO 5 10 (.callp 32 [(.s 3), (.s 4)]), VS 3 4 5] [] .skip) (.ret)), [.t 3]⟩
noncomputable def t_58 : List (Nat × Ctr) := [(32, c_28)]
theorem lk_58_32 : look t_58 32 = some c_28 := rfl
noncomputable def c_58 : Ctr := mkF t_58 ir31 [.bor, .bor, .bor]
theorem s_58 : Sound Try.prog 31 c_58 := mkF_sound _ rfl (snd_cons s_28 snd_nil) (by kernel_rfl : chkFn Try.prog 31 ir31 ir31_v = true)
theorem M_58 : c_58.modes = [.bor, .bor, .bor] := rfl
theorem Fl_58 : c_58.flat = true := rfl
attribute [go_sem] M_58 Fl_58
attribute [go_sem] lk_58_32
theorem Fs_58 {i : Int} {t1 : List Rule} {t2 : Facts} {y_ : Bool} (h : impl_RulesFor_c1 i t1 t2 = some y_) : c_58.F [.int .i64 i, .ptr 1 [.sl 6 (List.map Rule_av t1)] 0 0, .ptr 3 [Facts_av t2] 0 0] = ⟨true, .bool y_, [.any, .any, .any]⟩ := by
 refine mkF_E rfl ?_
 dsimp only [impl_RulesFor_c1] at h
 obtain ⟨z1, h⟩ := ck_some h
 have lz1 := ix_lt z1
 have xz1 := getD_mapD Rule_av t1 lz1
 try simp only [go_sem] at lz1
 try simp only [go_sem] at xz1
 try simp only [go_sem, n1, n2, n3, n4] at z1
 all_goals
 obtain ⟨y_2, z2, h⟩ := bd_some h
 have fz2 := Fs_28 z2
 try simp only [go_sem, z1] at fz2
 obtain rfl := so_some h
 refine ⟨0, fun L hL => ?_⟩
 simp only [go_sem, ir31, z1, lz1, xz1, fz2]


noncomputable def t_59 : List (Nat × Ctr) := [(31, c_58)]
theorem lk_59_31 : look t_59 31 = some c_58 := rfl
noncomputable def c_59 : Ctr := mkF t_59 ir28 [.bor, .bor]
theorem s_59 : Sound Try.prog 28 c_59 := mkF_sound _ rfl (snd_cons s_58 snd_nil) (by kernel_rfl : chkFn Try.prog 28 ir28 ir28_v = true)
theorem M_59 : c_59.modes = [.bor, .bor] := rfl
theorem Fl_59 : c_59.flat = true := rfl
attribute [go_sem] M_59 Fl_59
attribute [go_sem] lk_59_31
def E_59_l1 (c : List Rule) (c2 : Facts) (t8 : Int) : ((List Int) × Int) → St
 | (out, t9) => ⟨[.any, .fn (.func 31) [] [.ptr 1 [.sl 6 (List.map Rule_av c)] 0 0, .ptr 3 [Facts_av c2] 0 0], .any, .own 3200000, .any, .int .i64 t8, .int .i64 t9, .any], [], [(3200000, ⟨1, List.map (AV.int .i64) out⟩)], true⟩
def R_59_l1 (c : List Rule) (c2 : Facts) (t8 : Int) (y : (List Int)) : Res := (.exit 0, ⟨[.any, .any, .any, .own 3200000, .any, .any, .any, .any], [], [(3200000, ⟨1, List.map (AV.int .i64) y⟩)], true⟩)
theorem impl_indicesWhere__impl_RulesFor_c1_l1_ex {c : List Rule} {c2 : Facts} {t8 : Int} {sgm_ : (List Int) × Int} {rho_ : (List Int)} (h : whileE (impl_indicesWhere__impl_RulesFor_c1_l1 c c2 t8) sgm_ = some rho_) : ∃ L0, ∀ L, L0 ≤ L → iter (exec (look t_59) L ir28_b0) ir28_k0 ir28_o0 ir28_r0 L (E_59_l1 c c2 t8 sgm_) = R_59_l1 c c2 t8 rho_ := by
 refine loop_ex (E := E_59_l1 c c2 t8) (R := R_59_l1 c c2 t8) (fun y => by first | (intro c; cases c) | (rcases y with y | y <;> (intro c; cases c)) | (rcases y with y | y | y <;> (intro c; cases c))) ?_ h
 clear h
 rintro ⟨out, t9⟩ o_ h
 dsimp only [impl_indicesWhere__impl_RulesFor_c1_l1] at h
 rcases it_some h with ⟨z1, h⟩ | ⟨z1, h⟩
 ·try simp only [go_sem, n1, n2, n3, n4] at z1
  all_goals
  obtain ⟨y_2, z2, h⟩ := bd_some h
  have fz2 := Fs_58 z2
  try simp only [go_sem, z1] at fz2
  rcases it_some h with ⟨z3, h⟩ | ⟨z3, h⟩
  ·try simp only [go_sem, n1, n2, n3, n4, z1] at z3
   all_goals
   obtain ⟨z4, h⟩ := ck_some h
   try simp only [go_sem, n1, n2, n3, n4, z1, z3] at z4
   all_goals
   obtain rfl := so_some h
   refine ⟨0, fun L hL => ?_⟩
   simp only [go_sem, ir28, E_59_l1, R_59_l1, ir28_b0, ir28_k0, ir28_o0, ir28_r0, z1, fz2, z3, z4]
  ·try simp only [go_sem, n1, n2, n3, n4, z1] at z3
   all_goals
   obtain rfl := so_some h
   refine ⟨0, fun L hL => ?_⟩
   simp only [go_sem, ir28, E_59_l1, R_59_l1, ir28_b0, ir28_k0, ir28_o0, ir28_r0, z1, fz2, z3]
 ·try simp only [go_sem, n1, n2, n3, n4] at z1
  all_goals
  obtain rfl := so_some h
  refine ⟨0, fun L hL => ?_⟩
  simp only [go_sem, ir28, E_59_l1, R_59_l1, ir28_b0, ir28_k0, ir28_o0, ir28_r0, z1]

theorem Fs_59 {n : Int} {wanted_c0 : List Rule} {wanted_c1 : Facts} {y_ : (List Int)} (h : impl_indicesWhere__impl_RulesFor_c1 n wanted_c0 wanted_c1 = some y_) : c_59.F [.int .i64 n, .fn (.func 31) [] [.ptr 1 [.sl 6 (List.map Rule_av wanted_c0)] 0 0, .ptr 3 [Facts_av wanted_c1] 0 0]] = ⟨true, .fresh 1 (List.map (AV.int .i64) y_), [.any, .any]⟩ := by
 refine mkF_E (by simp only [flatA, flatB, flat1, List.all_cons, List.all_nil, Bool.and_self, flatE_map (f := (AV.int .i64)) (fun _ => rfl)]) ?_
 dsimp only [impl_indicesWhere__impl_RulesFor_c1] at h
 obtain ⟨y_5, z5, h⟩ := bd_some h
 obtain ⟨Lz5, ez5⟩ := impl_indicesWhere__impl_RulesFor_c1_l1_ex z5
 obtain rfl := so_some h
 refine ⟨Lz5, fun L hL => ?_⟩
 have ez5 := ez5 L (by omega)
 try simp only [go_sem, E_59_l1, R_59_l1, ir28_k0, ir28_o0, ir28_r0] at ez5
 simp only [go_sem, ir28, E_59_l1, R_59_l1, ir28_k0, ir28_o0, ir28_r0, ez5]


def ir16_v : List Nat := [0, 1, 2, 3, 4, 5]
def ir16 : AFn := ⟨2, 6, .seq (.region false [ VO 2 2 (.box (.v 0)), VO 3 3 (.box (.v 1)), VO 4 4 (.newnil 1), VO 5 5 (.mov (I6 0))]) (.seq (.block 0 (.test false [ PO 7 (.load false 1 (.v 2)), PO 8 (.call 20 [(.s 0)]), PO 9 (.un .not (.s 0)), PO 6 (.mov (.s 0))] (.s 0) (.seq (.region false [ VO 4 4 (.newnil 1), VO 5 5 (.mov (I6 1))]) (.ret)) (.test false [ PO 11 (.load true 3 (.v 3)), PO 12 (.call 30 [(.s 0)]), PO 13 (.un .not (.s 0)), PO 10 (.mov (.s 0))] (.s 0) (.seq (.region false [ VO 4 4 (.newnil 1), VO 5 5 (.mov (I6 2))]) (.ret)) (.skip)))) (.seq (.region false [ PO 14 (.load false 1 (.v
 2)), PO 15 (.len false (.s 0)), PO 16 (.mkFn (.func 31) [] [(.v 2), (.v 3)]), PO 17 (.call 28 [(.s 1), (.s 0)]), VS 4 4 0, VO 5 5 (.mov (I6 0))]) (.ret))), [.t 4, .t 5]⟩
noncomputable def t_60 : List (Nat × Ctr) := [(20, c_6), (30, c_57), (28, c_59)]
theorem lk_60_20 : look t_60 20 = some c_6 := rfl
theorem lk_60_30 : look t_60 30 = some c_57 := rfl
theorem lk_60_28 : look t_60 28 = some c_59 := rfl
noncomputable def c_60 : Ctr := mkF t_60 ir16 [.bor, .bor]
theorem s_60 : Sound Try.prog 16 c_60 := mkF_sound _ rfl (snd_cons s_6 (snd_cons s_57 (snd_cons s_59 snd_nil))) (by kernel_rfl : chkFn Try.prog 16 ir16 ir16_v = true)
theorem M_60 : c_60.modes = [.bor, .bor] := rfl
theorem Fl_60 : c_60.flat = true := rfl
attribute [go_sem] M_60 Fl_60
attribute [go_sem] lk_60_20 lk_60_30 lk_60_28
theorem Fs_60 {list : List Rule} {f : Facts} {y_ : (List Int) × Int} (h : impl_RulesFor list f = some y_) : c_60.F [.sl 6 (List.map Rule_av list), Facts_av f] = ⟨true, .tup [.fresh 1 (List.map (AV.int .i64) y_.1), .int .i64 y_.2], [.any, .any]⟩ := by
 refine mkF_E (by simp only [flatA, flatB, flat1, List.all_cons, List.all_nil, Bool.and_self, flatE_map (f := (AV.int .i64)) (fun _ => rfl)]) ?_
 dsimp only [impl_RulesFor] at h
 obtain ⟨y_1, z1, h⟩ := bd_some h
 have fz1 := Fs_6 z1
 try simp only [go_sem] at fz1
 rcases it_some h with ⟨z2, h⟩ | ⟨z2, h⟩
 ·try simp only [go_sem, n1, n2, n3, n4] at z2
  all_goals
  obtain rfl := so_some h
  refine ⟨0, fun L hL => ?_⟩
  simp only [go_sem, ir16, fz1, z2]
 ·try simp only [go_sem, n1, n2, n3, n4] at z2
  all_goals
  obtain ⟨y_3, z3, h⟩ := bd_some h
  have fz3 := Fs_57 z3
  try simp only [go_sem, z2] at fz3
  rcases it_some h with ⟨z4, h⟩ | ⟨z4, h⟩
  ·try simp only [go_sem, n1, n2, n3, n4, z2] at z4
   all_goals
   obtain rfl := so_some h
   refine ⟨0, fun L hL => ?_⟩
   simp only [go_sem, ir16, fz1, z2, fz3, z4]
  ·try simp only [go_sem, n1, n2, n3, n4, z2] at z4
   all_goals
   obtain ⟨y_5, z5, h⟩ := bd_some h
   have fz5 := Fs_59 z5
   try simp only [go_sem, z2, z4] at fz5
   obtain rfl := so_some h
   refine ⟨0, fun L hL => ?_⟩
   simp only [go_sem, ir16, fz1, z2, fz3, z4, fz5]


def ir50_v : List Nat := [0, 2, 3, 17]
def ir50 : AFn := ⟨1, 4, .seq (.region false [ VO 1 2 (.alloc (.agg [.int .i64 (0), .int .i64 (0), .int .i64 (0)]))]) (.seq (.region false [ PM 4 0, PO 5 (.call 38 [(.s 0), (I6 14)]), PO 6 (.bin false .mul (I6 250) (.s 0)), PO 7 (.build [.int .i64 (0), .int .i64 (0), .int .i64 (0)] [(0, 1, (.s 0))]), VO 2 3 (.alloc (.agg [.int .i64 (0), .int .i64 (0), .int .i64 (0)])), ⟨.no, 0, none, .store 3 (.v 2) (.s 0)⟩]) (.seq (.region false [ PM 8 0, PO 9 (.call 38 [(.s 0), (I6 16)]), PO 10 (.bin false .mul (I6 5000) (.s 0)), PO 11 (.fldAddr 1 (.v 2)), ⟨.no, 0, none, .store 1 (.s 0) (.s 1)⟩]) (.seq
 (.region false [ PM 12 0, PO 13 (.call 38 [(.s 0), (I6 3)]), PO 14 (.bin false .add (I6 1) (.s 0)), PO 15 (.fldAddr 2 (.v 2)), ⟨.no, 0, none, .store 1 (.s 0) (.s 1)⟩]) (.seq (.seq (.region false [ PM 16 0, VO 3 17 (.call 38 [(.s 0), (I6 16)])]) (.block 0 (.test false [ PO 19 (.bin false .eql (.v 3) (I6 0)), PO 18 (.mov (.s 0))] (.s 0) (.region false [ PM 20 0, PO 21 (.mkSl 1 (.int .i64 (0)) 4 [(0, (.c (.int .i64 (-1)))), (1, (I6 0)), (2, (I6 20000)), (3, (I6 20001))]), PO 22 (.call 54 [(.s 1), (.s 0)]), PO 23 (.fldAddr 0 (.v 2)), ⟨.no, 0, none, .store 1 (.s 0) (.s 1)⟩]) (.test false [ PO 25
 (.bin false .eql (.v 3) (I6 1)), PO 24 (.mov (.s 0))] (.s 0) (.region false [ PM 26 0, PO 27 (.mkSl 1 (.int .i64 (0)) 4 [(0, (.c (.int .i64 (-1)))), (1, (I6 0)), (2, (I6 1000000)), (3, (I6 1000001))]), PO 28 (.call 54 [(.s 1), (.s 0)]), PO 29 (.fldAddr 1 (.v 2)), ⟨.no, 0, none, .store 1 (.s 0) (.s 1)⟩]) (.test false [ PO 31 (.bin false .eql (.v 3) (I6 2)), PO 30 (.mov (.s 0))] (.s 0) (.region false [ PM 32 0, PO 33 (.mkSl 1 (.int .i64 (0)) 4 [(0, (I6 0)), (1, (I6 1)), (2, (I6 3)), (3, (I6 4))]), PO 34 (.call 54 [(.s 1), (.s 0)]), PO 35 (.fldAddr 2 (.v 2)), ⟨.no, 0, none, .store 1 (.s 0) (.s
 1)⟩]) (.skip)))))) (.seq (.region false [ PO 36 (.load true 3 (.v 2)), ⟨.no, 0, none, .store 3 (.v 1) (.s 0)⟩]) (.ret)))))), [.cell true 3 1]⟩
noncomputable def t_61 : List (Nat × Ctr) := [(38, c_12), (54, c_13)]
theorem lk_61_38 : look t_61 38 = some c_12 := rfl
theorem lk_61_54 : look t_61 54 = some c_13 := rfl
noncomputable def c_61 : Ctr := mkN t_61 ir50 [.io]
theorem s_61 : Sound Try.prog 50 c_61 := mkN_sound _ (snd_cons s_12 (snd_cons s_13 snd_nil)) (by kernel_rfl : chkFn Try.prog 50 ir50 ir50_v = true)
theorem M_61 : c_61.modes = [.io] := rfl
theorem Fl_61 : c_61.flat = false := rfl
attribute [go_sem] M_61 Fl_61
attribute [go_sem] lk_61_38 lk_61_54
theorem Fs_61 {s_ : L00Src} {y_ : Facts × L00Src} (h : spec_l18DrawFacts s_ = some y_) : c_61.F [.mem 3 [L00Src_av s_] 0] = ⟨true, Facts_av y_.1, [.mem 3 [L00Src_av y_.2] 0]⟩ := by
 refine mkN_E ?_
 dsimp only [spec_l18DrawFacts] at h
 obtain ⟨y_1, z1, h⟩ := bd_some h
 have fz1 := Fs_12 z1
 try simp only [go_sem] at fz1
 obtain ⟨y_2, z2, h⟩ := bd_some h
 have fz2 := Fs_12 z2
 try simp only [go_sem] at fz2
 obtain ⟨y_3, z3, h⟩ := bd_some h
 have fz3 := Fs_12 z3
 try simp only [go_sem] at fz3
 obtain ⟨y_4, z4, h⟩ := bd_some h
 have fz4 := Fs_12 z4
 try simp only [go_sem] at fz4
 rcases it_some h with ⟨z5, h⟩ | ⟨z5, h⟩
 ·try simp only [go_sem, n1, n2, n3, n4] at z5
  all_goals
  obtain ⟨y_6, z6, h⟩ := bd_some h
  have fz6 := Fs_13 z6
  try simp only [go_sem, z5] at fz6
  obtain rfl := so_some h
  refine ⟨0, fun L hL => ?_⟩
  simp only [go_sem, ir50, fz1, fz2, fz3, fz4, z5, fz6]
 ·try simp only [go_sem, n1, n2, n3, n4] at z5
  all_goals
  rcases it_some h with ⟨z7, h⟩ | ⟨z7, h⟩
  ·try simp only [go_sem, n1, n2, n3, n4, z5] at z7
   all_goals
   obtain ⟨y_8, z8, h⟩ := bd_some h
   have fz8 := Fs_13 z8
   try simp only [go_sem, z5, z7] at fz8
   obtain rfl := so_some h
   refine ⟨0, fun L hL => ?_⟩
   simp only [go_sem, ir50, fz1, fz2, fz3, fz4, z5, z7, fz8]
  ·try simp only [go_sem, n1, n2, n3, n4, z5] at z7
   all_goals
   rcases it_some h with ⟨z9, h⟩ | ⟨z9, h⟩
   ·try simp only [go_sem, n1, n2, n3, n4, z5, z7] at z9
    all_goals
    obtain ⟨y_10, z10, h⟩ := bd_some h
    have fz10 := Fs_13 z10
    try simp only [go_sem, z5, z7, z9] at fz10
    obtain rfl := so_some h
    refine ⟨0, fun L hL => ?_⟩
    simp only [go_sem, ir50, fz1, fz2, fz3, fz4, z5, z7, z9, fz10]
   ·try simp only [go_sem, n1, n2, n3, n4, z5, z7] at z9
    all_goals
    obtain rfl := so_some h
    refine ⟨0, fun L hL => ?_⟩
    simp only [go_sem, ir50, fz1, fz2, fz3, fz4, z5, z7, z9]


def ir33_v : List Nat := [0, 2, 3, 4, 5]
def ir33 : AFn := ⟨1, 5, .seq (.region false [ VO 1 2 (.newnil 6), VO 2 3 (.alloc (.agg [.int .i64 (0), .int .i64 (0), .int .i64 (0)]))]) (.seq (.region false [ PM 6 0, PO 7 (.call 36 [(.s 0)]), VS 3 4 0]) (.seq (.region false [ PM 8 3, PO 9 (.call 37 [(.s 0)]), VS 4 5 0]) (.seq (.region false [ PM 10 4, PM 11 3, PO 12 (.call 50 [(.s 0)]), VS 1 2 2, ⟨.no, 0, none, .store 3 (.v 2) (.s 0)⟩]) (.ret)))), [.t 1, .cell true 3 2]⟩
noncomputable def t_62 : List (Nat × Ctr) := [(36, c_10), (37, c_17), (50, c_61)]
theorem lk_62_36 : look t_62 36 = some c_10 := rfl
theorem lk_62_37 : look t_62 37 = some c_17 := rfl
theorem lk_62_50 : look t_62 50 = some c_61 := rfl
noncomputable def c_62 : Ctr := mkN t_62 ir33 [.bor]
theorem s_62 : Sound Try.prog 33 c_62 := mkN_sound _ (snd_cons s_10 (snd_cons s_17 (snd_cons s_61 snd_nil))) (by kernel_rfl : chkFn Try.prog 33 ir33 ir33_v = true)
theorem M_62 : c_62.modes = [.bor] := rfl
theorem Fl_62 : c_62.flat = false := rfl
attribute [go_sem] M_62 Fl_62
attribute [go_sem] lk_62_36 lk_62_37 lk_62_50
theorem Fs_62 {code : List UInt8} {y_ : (List Rule) × Facts} (h : spec_l18Ask code = some y_) : c_62.F [.sl 1 (List.map byteAV code)] = ⟨true, .tup [.fresh 6 (List.map Rule_av y_.1), Facts_av y_.2], [.any]⟩ := by
 refine mkN_E ?_
 dsimp only [spec_l18Ask] at h
 obtain ⟨y_1, z1, h⟩ := bd_some h
 have fz1 := Fs_10 z1
 try simp only [go_sem] at fz1
 obtain ⟨y_2, z2, h⟩ := bd_some h
 have fz2 := Fs_17 z2
 try simp only [go_sem] at fz2
 obtain ⟨y_3, z3, h⟩ := bd_some h
 have fz3 := Fs_61 z3
 try simp only [go_sem] at fz3
 obtain rfl := so_some h
 refine ⟨0, fun L hL => ?_⟩
 simp only [go_sem, ir33, fz1, fz2, fz3]


def ir17_v : List Nat := [0, 2, 3]
def ir17 : AFn := ⟨1, 3, .seq (.region false [ VO 1 2 (.newnil 6), VO 2 3 (.alloc (.agg [.int .i64 (0), .int .i64 (0), .int .i64 (0)]))]) (.seq (.region false [ PM 4 0, PO 5 (.call 33 [(.s 0)]), PO 6 (.ext (.s 0) 0), PO 7 (.ext (.s 1) 1), VS 1 2 1, ⟨.no, 0, none, .store 3 (.v 2) (.s 0)⟩]) (.ret)), [.t 1, .cell true 3 2]⟩
noncomputable def t_63 : List (Nat × Ctr) := [(33, c_62)]
theorem lk_63_33 : look t_63 33 = some c_62 := rfl
noncomputable def c_63 : Ctr := mkN t_63 ir17 [.bor]
theorem s_63 : Sound Try.prog 17 c_63 := mkN_sound _ (snd_cons s_62 snd_nil) (by kernel_rfl : chkFn Try.prog 17 ir17 ir17_v = true)
theorem M_63 : c_63.modes = [.bor] := rfl
theorem Fl_63 : c_63.flat = false := rfl
attribute [go_sem] M_63 Fl_63
attribute [go_sem] lk_63_33
theorem Fs_63 {code : List UInt8} {y_ : (List Rule) × Facts} (h : spec_DrawClassOf code = some y_) : c_63.F [.sl 1 (List.map byteAV code)] = ⟨true, .tup [.fresh 6 (List.map Rule_av y_.1), Facts_av y_.2], [.any]⟩ := by
 refine mkN_E ?_
 dsimp only [spec_DrawClassOf] at h
 obtain ⟨y_1, z1, h⟩ := bd_some h
 have fz1 := Fs_62 z1
 try simp only [go_sem] at fz1
 obtain rfl := so_some h
 refine ⟨0, fun L hL => ?_⟩
 simp only [go_sem, ir17, fz1]


def ir34_v : List Nat := [0, 1, 3, 4]
def ir34 : AFn := ⟨2, 4, .seq (.region false [ VO 2 3 (.box (.v 1)), VO 3 4 (.mov (I6 0))]) (.seq (.test false [ PM 5 0, PO 6 (.call 25 [(.s 0)]), PO 7 (.un .not (.s 0))] (.s 0) (.seq (.region false [ VO 3 4 (.mov (I6 1))]) (.ret)) (.skip)) (.seq (.test false [ PO 8 (.load true 3 (.v 2)), PO 9 (.call 48 [(.s 0)]), PO 10 (.un .not (.s 0))] (.s 0) (.seq (.region false [ VO 3 4 (.mov (I6 2))]) (.ret)) (.skip)) (.seq (.region false [ VO 3 4 (.mov (I6 0))]) (.ret)))), [.t 3]⟩
noncomputable def t_64 : List (Nat × Ctr) := [(25, c_41), (48, c_43)]
theorem lk_64_25 : look t_64 25 = some c_41 := rfl
theorem lk_64_48 : look t_64 48 = some c_43 := rfl
noncomputable def c_64 : Ctr := mkF t_64 ir34 [.bor, .bor]
theorem s_64 : Sound Try.prog 34 c_64 := mkF_sound _ rfl (snd_cons s_41 (snd_cons s_43 snd_nil)) (by kernel_rfl : chkFn Try.prog 34 ir34 ir34_v = true)
theorem M_64 : c_64.modes = [.bor, .bor] := rfl
theorem Fl_64 : c_64.flat = true := rfl
attribute [go_sem] M_64 Fl_64
attribute [go_sem] lk_64_25 lk_64_48
theorem Fs_64 {list : List Rule} {f : Facts} {y_ : Int} (h : spec_l18Code list f = some y_) : c_64.F [.sl 6 (List.map Rule_av list), Facts_av f] = ⟨true, .int .i64 y_, [.any, .any]⟩ := by
 refine mkF_E rfl ?_
 dsimp only [spec_l18Code] at h
 obtain ⟨y_1, z1, h⟩ := bd_some h
 have fz1 := Fs_41 z1
 try simp only [go_sem] at fz1
 rcases it_some h with ⟨z2, h⟩ | ⟨z2, h⟩
 ·try simp only [go_sem, n1, n2, n3, n4] at z2
  all_goals
  obtain rfl := so_some h
  refine ⟨0, fun L hL => ?_⟩
  simp only [go_sem, ir34, fz1, z2]
 ·try simp only [go_sem, n1, n2, n3, n4] at z2
  all_goals
  obtain ⟨y_3, z3, h⟩ := bd_some h
  have fz3 := Fs_43 z3
  try simp only [go_sem, z2] at fz3
  rcases it_some h with ⟨z4, h⟩ | ⟨z4, h⟩
  ·try simp only [go_sem, n1, n2, n3, n4, z2] at z4
   all_goals
   obtain rfl := so_some h
   refine ⟨0, fun L hL => ?_⟩
   simp only [go_sem, ir34, fz1, z2, fz3, z4]
  ·try simp only [go_sem, n1, n2, n3, n4, z2] at z4
   all_goals
   obtain rfl := so_some h
   refine ⟨0, fun L hL => ?_⟩
   simp only [go_sem, ir34, fz1, z2, fz3, z4]


def ir18_b0 : IR := .seq (.test false [ PM 16 7, PM 17 0, PO 18 (.len false (.s 0)), PO 19 (.bin false .lss (.s 2) (.s 0))] (.s 0) (.skip) (.exit 0)) (.seq (.block 1 (.anyo 5 [ SO 0 22 (.mov (.v 0)), SO 1 23 (.mov (.v 7)), SO 2 24 (.ixAddr 6 (.s 0) (.s 1)), SO 3 25 (.load true 3 (.v 2)), SO 4 26 (.callp 35 [(.s 2), (.s 3)])] [] (.cond (.s 4) (.region false [ PM 27 6, PM 28 7, PO 29 (.mkSl 1 (.int .i64 (0)) 1 [(0, (.s 0))]), PO 30 (.app 1 8 (.int .i64 (0)) (.s 2) (.s 0)), VS 6 7 0]) (.skip)))) (.region false [ PM 20 7, PO 21 (.bin false .add (.s 0) (I6 1)), VS 7 8 0]))
def ir18_k0 : List Bool := [true, false, true, false, false, false, true, true]
def ir18_o0 : List Bool := [false, false, false, false, false, false, true, false]
def ir18_r0 : List Bool := [false, false, false, true, true, false, false, false]
def ir18_v : List Nat := [0, 1, 3, 4, 5, 6, 7, 8]
def ir18 : AFn := ⟨2, 8, .seq (.region false [ VO 2 3 (.box (.v 1)), VO 3 4 (.newnil 1), VO 4 5 (.mov (I6 0))]) (.seq (.region false [ PM 9 0, PO 10 (.load true 3 (.v 2)), PO 11 (.call 34 [(.s 1), (.s 0)]), VS 5 6 0]) (.seq (.test false [ PM 12 5, PO 13 (.bin false .neq (.s 0) (I6 0))] (.s 0) (.seq (.region false [ PM 14 5, VO 3 4 (.newnil 1), VS 4 5 0]) (.ret)) (.skip)) (.seq (.region false [ PO 15 (.mkSl 1 (.int .i64 (0)) 0 []), VS 6 7 0]) (.seq (.seq (.region false [ VO 7 8 (.mov (I6 0))]) (.block 0 (.loop ir18_k0 ir18_o0 ir18_r0 ir18_b0))) (.seq (.region false [ PM 31 6, VS 3 4 0, VO 4 5
 (.mov (I6 0))]) (.ret)))))), [.t 3, .t 4]⟩
noncomputable def t_65 : List (Nat × Ctr) := [(34, c_64), (35, c_44)]
theorem lk_65_34 : look t_65 34 = some c_64 := rfl
theorem lk_65_35 : look t_65 35 = some c_44 := rfl
noncomputable def c_65 : Ctr := mkF t_65 ir18 [.bor, .bor]
theorem s_65 : Sound Try.prog 18 c_65 := mkF_sound _ rfl (snd_cons s_64 (snd_cons s_44 snd_nil)) (by kernel_rfl : chkFn Try.prog 18 ir18 ir18_v = true)
theorem M_65 : c_65.modes = [.bor, .bor] := rfl
theorem Fl_65 : c_65.flat = true := rfl
attribute [go_sem] M_65 Fl_65
attribute [go_sem] lk_65_34 lk_65_35
def E_65_l1 (list : List Rule) (f : Facts) : ((List Int) × Int) → St
 | (out, i) => ⟨[.sl 6 (List.map Rule_av list), .any, .ref 3200000 0 0, .any, .any, .any, .own 3200032, .int .i64 i], [], [(3200000, ⟨3, [Facts_av f]⟩), (3200032, ⟨1, List.map (AV.int .i64) out⟩)], true⟩
def R_65_l1 (list : List Rule) (f : Facts) (y : (List Int)) : Res := (.exit 0, ⟨[.any, .any, .any, .any, .any, .any, .own 3200000, .any], [], [(3200000, ⟨1, List.map (AV.int .i64) y⟩)], true⟩)
theorem spec_RulesFor_l1_ex {list : List Rule} {f : Facts} {sgm_ : (List Int) × Int} {rho_ : (List Int)} (h : whileE (spec_RulesFor_l1 list f) sgm_ = some rho_) : ∃ L0, ∀ L, L0 ≤ L → iter (exec (look t_65) L ir18_b0) ir18_k0 ir18_o0 ir18_r0 L (E_65_l1 list f sgm_) = R_65_l1 list f rho_ := by
 refine loop_ex (E := E_65_l1 list f) (R := R_65_l1 list f) (fun y => by first | (intro c; cases c) | (rcases y with y | y <;> (intro c; cases c)) | (rcases y with y | y | y <;> (intro c; cases c))) ?_ h
 clear h
 rintro ⟨out, i⟩ o_ h
 dsimp only [spec_RulesFor_l1] at h
 rcases it_some h with ⟨z3, h⟩ | ⟨z3, h⟩
 ·try simp only [go_sem, n1, n2, n3, n4] at z3
  all_goals
  obtain ⟨z4, h⟩ := ck_some h
  have lz4 := ix_lt z4
  have xz4 := getD_mapD Rule_av list lz4
  try simp only [go_sem] at lz4
  try simp only [go_sem] at xz4
  try simp only [go_sem, n1, n2, n3, n4, z3] at z4
  all_goals
  obtain ⟨y_5, z5, h⟩ := bd_some h
  have fz5 := Fs_44 z5
  try simp only [go_sem, z3, z4] at fz5
  rcases it_some h with ⟨z6, h⟩ | ⟨z6, h⟩
  ·try simp only [go_sem, n1, n2, n3, n4, z3, z4] at z6
   all_goals
   obtain ⟨z7, h⟩ := ck_some h
   try simp only [go_sem, n1, n2, n3, n4, z3, z4, z6] at z7
   all_goals
   obtain rfl := so_some h
   refine ⟨0, fun L hL => ?_⟩
   simp only [go_sem, ir18, E_65_l1, R_65_l1, ir18_b0, ir18_k0, ir18_o0, ir18_r0, z3, z4, lz4, xz4, fz5, z6, z7]
  ·try simp only [go_sem, n1, n2, n3, n4, z3, z4] at z6
   all_goals
   obtain rfl := so_some h
   refine ⟨0, fun L hL => ?_⟩
   simp only [go_sem, ir18, E_65_l1, R_65_l1, ir18_b0, ir18_k0, ir18_o0, ir18_r0, z3, z4, lz4, xz4, fz5, z6]
 ·try simp only [go_sem, n1, n2, n3, n4] at z3
  all_goals
  obtain rfl := so_some h
  refine ⟨0, fun L hL => ?_⟩
  simp only [go_sem, ir18, E_65_l1, R_65_l1, ir18_b0, ir18_k0, ir18_o0, ir18_r0, z3]

theorem Fs_65 {list : List Rule} {f : Facts} {y_ : (List Int) × Int} (h : spec_RulesFor list f = some y_) : c_65.F [.sl 6 (List.map Rule_av list), Facts_av f] = ⟨true, .tup [.fresh 1 (List.map (AV.int .i64) y_.1), .int .i64 y_.2], [.any, .any]⟩ := by
 refine mkF_E (by simp only [flatA, flatB, flat1, List.all_cons, List.all_nil, Bool.and_self, flatE_map (f := (AV.int .i64)) (fun _ => rfl)]) ?_
 dsimp only [spec_RulesFor] at h
 obtain ⟨y_1, z1, h⟩ := bd_some h
 have fz1 := Fs_64 z1
 try simp only [go_sem] at fz1
 rcases it_some h with ⟨z2, h⟩ | ⟨z2, h⟩
 ·try simp only [go_sem, n1, n2, n3, n4] at z2
  all_goals
  obtain rfl := so_some h
  refine ⟨0, fun L hL => ?_⟩
  simp only [go_sem, ir18, E_65_l1, R_65_l1, ir18_k0, ir18_o0, ir18_r0, fz1, z2]
 ·try simp only [go_sem, n1, n2, n3, n4] at z2
  all_goals
  obtain ⟨y_8, z8, h⟩ := bd_some h
  obtain ⟨Lz8, ez8⟩ := spec_RulesFor_l1_ex z8
  obtain rfl := so_some h
  refine ⟨Lz8, fun L hL => ?_⟩
  have ez8 := ez8 L (by omega)
  try simp only [go_sem, E_65_l1, R_65_l1, ir18_k0, ir18_o0, ir18_r0, z2] at ez8
  simp only [go_sem, ir18, E_65_l1, R_65_l1, ir18_k0, ir18_o0, ir18_r0, fz1, z2, ez8]


end Go.Proofs.Ytlnpnpjkpkdoeaa
