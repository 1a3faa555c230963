/- Codes and contracts of the functions that AU reaches, and that their typed forms say what they do. No condition. -/
import Derived.Test.YthbnoddeifedkaaAUT
import Derived.Test.YthbnoddeifedkaaRows
import Derived.WalkKit
namespace Go.Proofs.Ythbnoddeifedkaa
open Go Go.RowKit
set_option linter.unusedVariables false
set_option linter.unusedSimpArgs false
set_option maxRecDepth 10000

def ir21_v : List Nat := [0, 1, 2, 4]
def ir21 : AFn := ⟨2, 4, .seq (.region false [ VO 2 2 (.box (.v 0)), VO 3 4 (.mov (I6 0))]) (.seq (.region false [ PM 5 1, PO 6 (.fldAddr 1 (.v 2)), PO 7 (.load false 1 (.s 0)), PO 8 (.len true (.s 0)), PO 9 (.bin false .sub (.s 3) (.s 0)), VS 1 1 0]) (.seq (.test false [ PM 10 1, PO 11 (.bin false .lss (.s 0) (I6 0))] (.s 0) (.seq (.region false [ VO 3 4 (.mov (.c (.int .i64 (-1))))]) (.ret)) (.skip)) (.seq (.region false [ PM 12 1, PO 13 (.fldAddr 2 (.v 2)), PO 14 (.load false 1 (.s 0)), PO 15 (.len true (.s 0)), PO 16 (.bin false .sub (.s 3) (.s 0)), VS 1 1 0]) (.seq (.test false [ PM 17 1,
 PO 18 (.bin false .lss (.s 0) (I6 0))] (.s 0) (.seq (.region false [ VO 3 4 (.mov (.c (.int .i64 (-1))))]) (.ret)) (.skip)) (.seq (.region false [ PM 19 1, VS 3 4 0]) (.ret)))))), [.t 3]⟩
noncomputable def t_0 : List (Nat × Ctr) := []
noncomputable def c_0 : Ctr := mkF t_0 ir21 [.bor, .bor]
theorem s_0 : Sound Try.prog 21 c_0 := mkF_sound _ rfl snd_nil (by kernel_rfl : chkFn Try.prog 21 ir21 ir21_v = true)
theorem M_0 : c_0.modes = [.bor, .bor] := rfl
theorem Fl_0 : c_0.flat = true := rfl
attribute [go_sem] M_0 Fl_0
theorem Fs_0 {a : Estimate} {left_ : Int} {y_ : Int} (h : laws_szEstimate a left_ = some y_) : c_0.F [Estimate_av a, .int .i64 left_] = ⟨true, .int .i64 y_, [.any, .any]⟩ := by
 refine mkF_E rfl ?_
 dsimp only [laws_szEstimate] at h
 rcases it_some h with ⟨z1, h⟩ | ⟨z1, h⟩
 ·try simp only [go_sem, n1, n2, n3, n4] at z1
  all_goals
  obtain rfl := so_some h
  refine ⟨0, fun L hL => ?_⟩
  simp only [go_sem, ir21, z1]
 ·try simp only [go_sem, n1, n2, n3, n4] at z1
  all_goals
  rcases it_some h with ⟨z2, h⟩ | ⟨z2, h⟩
  ·try simp only [go_sem, n1, n2, n3, n4, z1] at z2
   all_goals
   obtain rfl := so_some h
   refine ⟨0, fun L hL => ?_⟩
   simp only [go_sem, ir21, z1, z2]
  ·try simp only [go_sem, n1, n2, n3, n4, z1] at z2
   all_goals
   obtain rfl := so_some h
   refine ⟨0, fun L hL => ?_⟩
   simp only [go_sem, ir21, z1, z2]


def ir4_b0 : IR := .seq (.test false [ PM 12 3, PM 13 0, PO 14 (.len false (.s 0)), PO 15 (.bin false .lss (.s 2) (.s 0))] (.s 0) (.skip) (.exit 0)) (.seq (.block 1 (.seq (.region false [ PM 18 0, PM 19 3, PO 20 (.ixAddr 5 (.s 1) (.s 0)), PO 21 (.load true 5 (.s 0)), PM 22 1, PO 23 (.call 21 [(.s 1), (.s 0)]), VS 1 1 0]) (.test false [ PM 24 1, PO 25 (.bin false .lss (.s 0) (I6 0))] (.s 0) (.seq (.region false [ VO 2 4 (.mov (.c (.int .i64 (-1))))]) (.ret)) (.skip)))) (.region false [ PM 16 3, PO 17 (.bin false .add (.s 0) (I6 1)), VS 3 5 0]))
def ir4_k0 : List Bool := [true, true, false, true]
def ir4_o0 : List Bool := [false, true, false, false]
def ir4_r0 : List Bool := [false, false, true, false]
def ir4_v : List Nat := [0, 1, 4, 5]
def ir4 : AFn := ⟨2, 4, .seq (.region false [ VO 2 4 (.mov (I6 0))]) (.seq (.region false [ PM 6 1, PM 7 0, PO 8 (.len false (.s 0)), PO 9 (.bin false .sub (.s 2) (.s 0)), VS 1 1 0]) (.seq (.test false [ PM 10 1, PO 11 (.bin false .lss (.s 0) (I6 0))] (.s 0) (.seq (.region false [ VO 2 4 (.mov (.c (.int .i64 (-1))))]) (.ret)) (.skip)) (.seq (.seq (.region false [ VO 3 5 (.mov (I6 0))]) (.block 0 (.loop ir4_k0 ir4_o0 ir4_r0 ir4_b0))) (.seq (.region false [ PM 26 1, VS 2 4 0]) (.ret))))), [.t 2]⟩
noncomputable def t_1 : List (Nat × Ctr) := [(21, c_0)]
theorem lk_1_21 : look t_1 21 = some c_0 := rfl
noncomputable def c_1 : Ctr := mkF t_1 ir4 [.bor, .bor]
theorem s_1 : Sound Try.prog 4 c_1 := mkF_sound _ rfl (snd_cons s_0 snd_nil) (by kernel_rfl : chkFn Try.prog 4 ir4 ir4_v = true)
theorem M_1 : c_1.modes = [.bor, .bor] := rfl
theorem Fl_1 : c_1.flat = true := rfl
attribute [go_sem] M_1 Fl_1
attribute [go_sem] lk_1_21
def E_1_l1 (a : List Estimate) : (Int × Int) → St
 | (left_, i) => ⟨[.sl 5 (List.map Estimate_av a), .int .i64 left_, .any, .int .i64 i], [], [], true⟩
def R_1_l1 (a : List Estimate) : (Int ⊕ Int) → Res
 | .inl y => (.exit 0, ⟨[.any, .int .i64 y, .any, .any], [], [], true⟩)
 | .inr y => (.ret, ⟨[.any, .any, .int .i64 y, .any], [], [], true⟩)
theorem laws_szEstimateS_l1_ex {a : List Estimate} {sgm_ : Int × Int} {rho_ : Int ⊕ Int} (h : whileE (laws_szEstimateS_l1 a) sgm_ = some rho_) : ∃ L0, ∀ L, L0 ≤ L → iter (exec (look t_1) L ir4_b0) ir4_k0 ir4_o0 ir4_r0 L (E_1_l1 a sgm_) = R_1_l1 a rho_ := by
 refine loop_ex (E := E_1_l1 a) (R := R_1_l1 a) (fun y => by first | (intro c; cases c) | (rcases y with y | y <;> (intro c; cases c)) | (rcases y with y | y | y <;> (intro c; cases c))) ?_ h
 clear h
 rintro ⟨left_, i⟩ o_ h
 dsimp only [laws_szEstimateS_l1] at h
 rcases it_some h with ⟨z2, h⟩ | ⟨z2, h⟩
 ·try simp only [go_sem, n1, n2, n3, n4] at z2
  all_goals
  obtain ⟨z3, h⟩ := ck_some h
  have lz3 := ix_lt z3
  have xz3 := getD_mapD Estimate_av a lz3
  try simp only [go_sem] at lz3
  try simp only [go_sem] at xz3
  try simp only [go_sem, n1, n2, n3, n4, z2] at z3
  all_goals
  obtain ⟨y_4, z4, h⟩ := bd_some h
  have fz4 := Fs_0 z4
  try simp only [go_sem, z2, z3] at fz4
  rcases it_some h with ⟨z5, h⟩ | ⟨z5, h⟩
  ·try simp only [go_sem, n1, n2, n3, n4, z2, z3] at z5
   all_goals
   obtain rfl := so_some h
   refine ⟨0, fun L hL => ?_⟩
   simp only [go_sem, ir4, E_1_l1, R_1_l1, ir4_b0, ir4_k0, ir4_o0, ir4_r0, z2, z3, lz3, xz3, fz4, z5]
  ·try simp only [go_sem, n1, n2, n3, n4, z2, z3] at z5
   all_goals
   obtain rfl := so_some h
   refine ⟨0, fun L hL => ?_⟩
   simp only [go_sem, ir4, E_1_l1, R_1_l1, ir4_b0, ir4_k0, ir4_o0, ir4_r0, z2, z3, lz3, xz3, fz4, z5]
 ·try simp only [go_sem, n1, n2, n3, n4] at z2
  all_goals
  obtain rfl := so_some h
  refine ⟨0, fun L hL => ?_⟩
  simp only [go_sem, ir4, E_1_l1, R_1_l1, ir4_b0, ir4_k0, ir4_o0, ir4_r0, z2]

theorem Fs_1 {a : List Estimate} {left_ : Int} {y_ : Int} (h : laws_szEstimateS a left_ = some y_) : c_1.F [.sl 5 (List.map Estimate_av a), .int .i64 left_] = ⟨true, .int .i64 y_, [.any, .any]⟩ := by
 refine mkF_E rfl ?_
 dsimp only [laws_szEstimateS] at h
 rcases it_some h with ⟨z1, h⟩ | ⟨z1, h⟩
 ·try simp only [go_sem, n1, n2, n3, n4] at z1
  all_goals
  obtain rfl := so_some h
  refine ⟨0, fun L hL => ?_⟩
  simp only [go_sem, ir4, E_1_l1, R_1_l1, ir4_k0, ir4_o0, ir4_r0, z1]
 ·try simp only [go_sem, n1, n2, n3, n4] at z1
  all_goals
  obtain ⟨y_6, z6, h⟩ := bd_some h
  obtain ⟨Lz6, ez6⟩ := laws_szEstimateS_l1_ex z6
  rcases y_6 with y_6a | y_6b
  ·dsimp only at h
   obtain rfl := so_some h
   refine ⟨Lz6, fun L hL => ?_⟩
   have ez6 := ez6 L (by omega)
   try simp only [go_sem, E_1_l1, R_1_l1, ir4_k0, ir4_o0, ir4_r0, z1] at ez6
   simp only [go_sem, ir4, E_1_l1, R_1_l1, ir4_k0, ir4_o0, ir4_r0, z1, ez6]
  ·dsimp only at h
   obtain rfl := so_some h
   refine ⟨Lz6, fun L hL => ?_⟩
   have ez6 := ez6 L (by omega)
   try simp only [go_sem, E_1_l1, R_1_l1, ir4_k0, ir4_o0, ir4_r0, z1] at ez6
   simp only [go_sem, ir4, E_1_l1, R_1_l1, ir4_k0, ir4_o0, ir4_r0, z1, ez6]


def ir22_v : List Nat := [0, 1, 2, 4]
def ir22 : AFn := ⟨2, 4, .seq (.region false [ VO 2 2 (.box (.v 0)), VO 3 4 (.mov (I6 0))]) (.seq (.region false [ PM 5 1, PO 6 (.fldAddr 0 (.v 2)), PO 7 (.load false 1 (.s 0)), PO 8 (.len true (.s 0)), PO 9 (.bin false .sub (.s 3) (.s 0)), VS 1 1 0]) (.seq (.test false [ PM 10 1, PO 11 (.bin false .lss (.s 0) (I6 0))] (.s 0) (.seq (.region false [ VO 3 4 (.mov (.c (.int .i64 (-1))))]) (.ret)) (.skip)) (.seq (.region false [ PM 12 1, VS 3 4 0]) (.ret)))), [.t 3]⟩
noncomputable def t_2 : List (Nat × Ctr) := []
noncomputable def c_2 : Ctr := mkF t_2 ir22 [.bor, .bor]
theorem s_2 : Sound Try.prog 22 c_2 := mkF_sound _ rfl snd_nil (by kernel_rfl : chkFn Try.prog 22 ir22 ir22_v = true)
theorem M_2 : c_2.modes = [.bor, .bor] := rfl
theorem Fl_2 : c_2.flat = true := rfl
attribute [go_sem] M_2 Fl_2
theorem Fs_2 {a : Star} {left_ : Int} {y_ : Int} (h : laws_szStar a left_ = some y_) : c_2.F [Star_av a, .int .i64 left_] = ⟨true, .int .i64 y_, [.any, .any]⟩ := by
 refine mkF_E rfl ?_
 dsimp only [laws_szStar] at h
 rcases it_some h with ⟨z1, h⟩ | ⟨z1, h⟩
 ·try simp only [go_sem, n1, n2, n3, n4] at z1
  all_goals
  obtain rfl := so_some h
  refine ⟨0, fun L hL => ?_⟩
  simp only [go_sem, ir22, z1]
 ·try simp only [go_sem, n1, n2, n3, n4] at z1
  all_goals
  obtain rfl := so_some h
  refine ⟨0, fun L hL => ?_⟩
  simp only [go_sem, ir22, z1]


def ir5_b0 : IR := .seq (.test false [ PM 12 3, PM 13 0, PO 14 (.len false (.s 0)), PO 15 (.bin false .lss (.s 2) (.s 0))] (.s 0) (.skip) (.exit 0)) (.seq (.block 1 (.seq (.region false [ PM 18 0, PM 19 3, PO 20 (.ixAddr 5 (.s 1) (.s 0)), PO 21 (.load true 5 (.s 0)), PM 22 1, PO 23 (.call 22 [(.s 1), (.s 0)]), VS 1 1 0]) (.test false [ PM 24 1, PO 25 (.bin false .lss (.s 0) (I6 0))] (.s 0) (.seq (.region false [ VO 2 4 (.mov (.c (.int .i64 (-1))))]) (.ret)) (.skip)))) (.region false [ PM 16 3, PO 17 (.bin false .add (.s 0) (I6 1)), VS 3 5 0]))
def ir5_k0 : List Bool := [true, true, false, true]
def ir5_o0 : List Bool := [false, true, false, false]
def ir5_r0 : List Bool := [false, false, true, false]
def ir5_v : List Nat := [0, 1, 4, 5]
def ir5 : AFn := ⟨2, 4, .seq (.region false [ VO 2 4 (.mov (I6 0))]) (.seq (.region false [ PM 6 1, PM 7 0, PO 8 (.len false (.s 0)), PO 9 (.bin false .sub (.s 2) (.s 0)), VS 1 1 0]) (.seq (.test false [ PM 10 1, PO 11 (.bin false .lss (.s 0) (I6 0))] (.s 0) (.seq (.region false [ VO 2 4 (.mov (.c (.int .i64 (-1))))]) (.ret)) (.skip)) (.seq (.seq (.region false [ VO 3 5 (.mov (I6 0))]) (.block 0 (.loop ir5_k0 ir5_o0 ir5_r0 ir5_b0))) (.seq (.region false [ PM 26 1, VS 2 4 0]) (.ret))))), [.t 2]⟩
noncomputable def t_3 : List (Nat × Ctr) := [(22, c_2)]
theorem lk_3_22 : look t_3 22 = some c_2 := rfl
noncomputable def c_3 : Ctr := mkF t_3 ir5 [.bor, .bor]
theorem s_3 : Sound Try.prog 5 c_3 := mkF_sound _ rfl (snd_cons s_2 snd_nil) (by kernel_rfl : chkFn Try.prog 5 ir5 ir5_v = true)
theorem M_3 : c_3.modes = [.bor, .bor] := rfl
theorem Fl_3 : c_3.flat = true := rfl
attribute [go_sem] M_3 Fl_3
attribute [go_sem] lk_3_22
def E_3_l1 (a : List Star) : (Int × Int) → St
 | (left_, i) => ⟨[.sl 5 (List.map Star_av a), .int .i64 left_, .any, .int .i64 i], [], [], true⟩
def R_3_l1 (a : List Star) : (Int ⊕ Int) → Res
 | .inl y => (.exit 0, ⟨[.any, .int .i64 y, .any, .any], [], [], true⟩)
 | .inr y => (.ret, ⟨[.any, .any, .int .i64 y, .any], [], [], true⟩)
theorem laws_szStarS_l1_ex {a : List Star} {sgm_ : Int × Int} {rho_ : Int ⊕ Int} (h : whileE (laws_szStarS_l1 a) sgm_ = some rho_) : ∃ L0, ∀ L, L0 ≤ L → iter (exec (look t_3) L ir5_b0) ir5_k0 ir5_o0 ir5_r0 L (E_3_l1 a sgm_) = R_3_l1 a rho_ := by
 refine loop_ex (E := E_3_l1 a) (R := R_3_l1 a) (fun y => by first | (intro c; cases c) | (rcases y with y | y <;> (intro c; cases c)) | (rcases y with y | y | y <;> (intro c; cases c))) ?_ h
 clear h
 rintro ⟨left_, i⟩ o_ h
 dsimp only [laws_szStarS_l1] at h
 rcases it_some h with ⟨z2, h⟩ | ⟨z2, h⟩
 ·try simp only [go_sem, n1, n2, n3, n4] at z2
  all_goals
  obtain ⟨z3, h⟩ := ck_some h
  have lz3 := ix_lt z3
  have xz3 := getD_mapD Star_av a lz3
  try simp only [go_sem] at lz3
  try simp only [go_sem] at xz3
  try simp only [go_sem, n1, n2, n3, n4, z2] at z3
  all_goals
  obtain ⟨y_4, z4, h⟩ := bd_some h
  have fz4 := Fs_2 z4
  try simp only [go_sem, z2, z3] at fz4
  rcases it_some h with ⟨z5, h⟩ | ⟨z5, h⟩
  ·try simp only [go_sem, n1, n2, n3, n4, z2, z3] at z5
   all_goals
   obtain rfl := so_some h
   refine ⟨0, fun L hL => ?_⟩
   simp only [go_sem, ir5, E_3_l1, R_3_l1, ir5_b0, ir5_k0, ir5_o0, ir5_r0, z2, z3, lz3, xz3, fz4, z5]
  ·try simp only [go_sem, n1, n2, n3, n4, z2, z3] at z5
   all_goals
   obtain rfl := so_some h
   refine ⟨0, fun L hL => ?_⟩
   simp only [go_sem, ir5, E_3_l1, R_3_l1, ir5_b0, ir5_k0, ir5_o0, ir5_r0, z2, z3, lz3, xz3, fz4, z5]
 ·try simp only [go_sem, n1, n2, n3, n4] at z2
  all_goals
  obtain rfl := so_some h
  refine ⟨0, fun L hL => ?_⟩
  simp only [go_sem, ir5, E_3_l1, R_3_l1, ir5_b0, ir5_k0, ir5_o0, ir5_r0, z2]

theorem Fs_3 {a : List Star} {left_ : Int} {y_ : Int} (h : laws_szStarS a left_ = some y_) : c_3.F [.sl 5 (List.map Star_av a), .int .i64 left_] = ⟨true, .int .i64 y_, [.any, .any]⟩ := by
 refine mkF_E rfl ?_
 dsimp only [laws_szStarS] at h
 rcases it_some h with ⟨z1, h⟩ | ⟨z1, h⟩
 ·try simp only [go_sem, n1, n2, n3, n4] at z1
  all_goals
  obtain rfl := so_some h
  refine ⟨0, fun L hL => ?_⟩
  simp only [go_sem, ir5, E_3_l1, R_3_l1, ir5_k0, ir5_o0, ir5_r0, z1]
 ·try simp only [go_sem, n1, n2, n3, n4] at z1
  all_goals
  obtain ⟨y_6, z6, h⟩ := bd_some h
  obtain ⟨Lz6, ez6⟩ := laws_szStarS_l1_ex z6
  rcases y_6 with y_6a | y_6b
  ·dsimp only at h
   obtain rfl := so_some h
   refine ⟨Lz6, fun L hL => ?_⟩
   have ez6 := ez6 L (by omega)
   try simp only [go_sem, E_3_l1, R_3_l1, ir5_k0, ir5_o0, ir5_r0, z1] at ez6
   simp only [go_sem, ir5, E_3_l1, R_3_l1, ir5_k0, ir5_o0, ir5_r0, z1, ez6]
  ·dsimp only at h
   obtain rfl := so_some h
   refine ⟨Lz6, fun L hL => ?_⟩
   have ez6 := ez6 L (by omega)
   try simp only [go_sem, E_3_l1, R_3_l1, ir5_k0, ir5_o0, ir5_r0, z1] at ez6
   simp only [go_sem, ir5, E_3_l1, R_3_l1, ir5_k0, ir5_o0, ir5_r0, z1, ez6]


def ir23_v : List Nat := [0, 1, 2, 4]
def ir23 : AFn := ⟨2, 4, .seq (.region false [ VO 2 2 (.box (.v 0)), VO 3 4 (.mov (I6 0))]) (.seq (.region false [ PM 5 1, PO 6 (.fldAddr 0 (.v 2)), PO 7 (.load false 1 (.s 0)), PO 8 (.len true (.s 0)), PO 9 (.bin false .sub (.s 3) (.s 0)), VS 1 1 0]) (.seq (.test false [ PM 10 1, PO 11 (.bin false .lss (.s 0) (I6 0))] (.s 0) (.seq (.region false [ VO 3 4 (.mov (.c (.int .i64 (-1))))]) (.ret)) (.skip)) (.seq (.region false [ PM 12 1, VS 3 4 0]) (.ret)))), [.t 3]⟩
noncomputable def t_4 : List (Nat × Ctr) := []
noncomputable def c_4 : Ctr := mkF t_4 ir23 [.bor, .bor]
theorem s_4 : Sound Try.prog 23 c_4 := mkF_sound _ rfl snd_nil (by kernel_rfl : chkFn Try.prog 23 ir23 ir23_v = true)
theorem M_4 : c_4.modes = [.bor, .bor] := rfl
theorem Fl_4 : c_4.flat = true := rfl
attribute [go_sem] M_4 Fl_4
theorem Fs_4 {a : Observer} {left_ : Int} {y_ : Int} (h : laws_szObserver a left_ = some y_) : c_4.F [Observer_av a, .int .i64 left_] = ⟨true, .int .i64 y_, [.any, .any]⟩ := by
 refine mkF_E rfl ?_
 dsimp only [laws_szObserver] at h
 rcases it_some h with ⟨z1, h⟩ | ⟨z1, h⟩
 ·try simp only [go_sem, n1, n2, n3, n4] at z1
  all_goals
  obtain rfl := so_some h
  refine ⟨0, fun L hL => ?_⟩
  simp only [go_sem, ir23, z1]
 ·try simp only [go_sem, n1, n2, n3, n4] at z1
  all_goals
  obtain rfl := so_some h
  refine ⟨0, fun L hL => ?_⟩
  simp only [go_sem, ir23, z1]


def ir6_b0 : IR := .seq (.test false [ PM 12 3, PM 13 0, PO 14 (.len false (.s 0)), PO 15 (.bin false .lss (.s 2) (.s 0))] (.s 0) (.skip) (.exit 0)) (.seq (.block 1 (.seq (.region false [ PM 18 0, PM 19 3, PO 20 (.ixAddr 2 (.s 1) (.s 0)), PO 21 (.load true 2 (.s 0)), PM 22 1, PO 23 (.call 23 [(.s 1), (.s 0)]), VS 1 1 0]) (.test false [ PM 24 1, PO 25 (.bin false .lss (.s 0) (I6 0))] (.s 0) (.seq (.region false [ VO 2 4 (.mov (.c (.int .i64 (-1))))]) (.ret)) (.skip)))) (.region false [ PM 16 3, PO 17 (.bin false .add (.s 0) (I6 1)), VS 3 5 0]))
def ir6_k0 : List Bool := [true, true, false, true]
def ir6_o0 : List Bool := [false, true, false, false]
def ir6_r0 : List Bool := [false, false, true, false]
def ir6_v : List Nat := [0, 1, 4, 5]
def ir6 : AFn := ⟨2, 4, .seq (.region false [ VO 2 4 (.mov (I6 0))]) (.seq (.region false [ PM 6 1, PM 7 0, PO 8 (.len false (.s 0)), PO 9 (.bin false .sub (.s 2) (.s 0)), VS 1 1 0]) (.seq (.test false [ PM 10 1, PO 11 (.bin false .lss (.s 0) (I6 0))] (.s 0) (.seq (.region false [ VO 2 4 (.mov (.c (.int .i64 (-1))))]) (.ret)) (.skip)) (.seq (.seq (.region false [ VO 3 5 (.mov (I6 0))]) (.block 0 (.loop ir6_k0 ir6_o0 ir6_r0 ir6_b0))) (.seq (.region false [ PM 26 1, VS 2 4 0]) (.ret))))), [.t 2]⟩
noncomputable def t_5 : List (Nat × Ctr) := [(23, c_4)]
theorem lk_5_23 : look t_5 23 = some c_4 := rfl
noncomputable def c_5 : Ctr := mkF t_5 ir6 [.bor, .bor]
theorem s_5 : Sound Try.prog 6 c_5 := mkF_sound _ rfl (snd_cons s_4 snd_nil) (by kernel_rfl : chkFn Try.prog 6 ir6 ir6_v = true)
theorem M_5 : c_5.modes = [.bor, .bor] := rfl
theorem Fl_5 : c_5.flat = true := rfl
attribute [go_sem] M_5 Fl_5
attribute [go_sem] lk_5_23
def E_5_l1 (a : List Observer) : (Int × Int) → St
 | (left_, i) => ⟨[.sl 2 (List.map Observer_av a), .int .i64 left_, .any, .int .i64 i], [], [], true⟩
def R_5_l1 (a : List Observer) : (Int ⊕ Int) → Res
 | .inl y => (.exit 0, ⟨[.any, .int .i64 y, .any, .any], [], [], true⟩)
 | .inr y => (.ret, ⟨[.any, .any, .int .i64 y, .any], [], [], true⟩)
theorem laws_szObserverS_l1_ex {a : List Observer} {sgm_ : Int × Int} {rho_ : Int ⊕ Int} (h : whileE (laws_szObserverS_l1 a) sgm_ = some rho_) : ∃ L0, ∀ L, L0 ≤ L → iter (exec (look t_5) L ir6_b0) ir6_k0 ir6_o0 ir6_r0 L (E_5_l1 a sgm_) = R_5_l1 a rho_ := by
 refine loop_ex (E := E_5_l1 a) (R := R_5_l1 a) (fun y => by first | (intro c; cases c) | (rcases y with y | y <;> (intro c; cases c)) | (rcases y with y | y | y <;> (intro c; cases c))) ?_ h
 clear h
 rintro ⟨left_, i⟩ o_ h
 dsimp only [laws_szObserverS_l1] at h
 rcases it_some h with ⟨z2, h⟩ | ⟨z2, h⟩
 ·try simp only [go_sem, n1, n2, n3, n4] at z2
  all_goals
  obtain ⟨z3, h⟩ := ck_some h
  have lz3 := ix_lt z3
  have xz3 := getD_mapD Observer_av a lz3
  try simp only [go_sem] at lz3
  try simp only [go_sem] at xz3
  try simp only [go_sem, n1, n2, n3, n4, z2] at z3
  all_goals
  obtain ⟨y_4, z4, h⟩ := bd_some h
  have fz4 := Fs_4 z4
  try simp only [go_sem, z2, z3] at fz4
  rcases it_some h with ⟨z5, h⟩ | ⟨z5, h⟩
  ·try simp only [go_sem, n1, n2, n3, n4, z2, z3] at z5
   all_goals
   obtain rfl := so_some h
   refine ⟨0, fun L hL => ?_⟩
   simp only [go_sem, ir6, E_5_l1, R_5_l1, ir6_b0, ir6_k0, ir6_o0, ir6_r0, z2, z3, lz3, xz3, fz4, z5]
  ·try simp only [go_sem, n1, n2, n3, n4, z2, z3] at z5
   all_goals
   obtain rfl := so_some h
   refine ⟨0, fun L hL => ?_⟩
   simp only [go_sem, ir6, E_5_l1, R_5_l1, ir6_b0, ir6_k0, ir6_o0, ir6_r0, z2, z3, lz3, xz3, fz4, z5]
 ·try simp only [go_sem, n1, n2, n3, n4] at z2
  all_goals
  obtain rfl := so_some h
  refine ⟨0, fun L hL => ?_⟩
  simp only [go_sem, ir6, E_5_l1, R_5_l1, ir6_b0, ir6_k0, ir6_o0, ir6_r0, z2]

theorem Fs_5 {a : List Observer} {left_ : Int} {y_ : Int} (h : laws_szObserverS a left_ = some y_) : c_5.F [.sl 2 (List.map Observer_av a), .int .i64 left_] = ⟨true, .int .i64 y_, [.any, .any]⟩ := by
 refine mkF_E rfl ?_
 dsimp only [laws_szObserverS] at h
 rcases it_some h with ⟨z1, h⟩ | ⟨z1, h⟩
 ·try simp only [go_sem, n1, n2, n3, n4] at z1
  all_goals
  obtain rfl := so_some h
  refine ⟨0, fun L hL => ?_⟩
  simp only [go_sem, ir6, E_5_l1, R_5_l1, ir6_k0, ir6_o0, ir6_r0, z1]
 ·try simp only [go_sem, n1, n2, n3, n4] at z1
  all_goals
  obtain ⟨y_6, z6, h⟩ := bd_some h
  obtain ⟨Lz6, ez6⟩ := laws_szObserverS_l1_ex z6
  rcases y_6 with y_6a | y_6b
  ·dsimp only at h
   obtain rfl := so_some h
   refine ⟨Lz6, fun L hL => ?_⟩
   have ez6 := ez6 L (by omega)
   try simp only [go_sem, E_5_l1, R_5_l1, ir6_k0, ir6_o0, ir6_r0, z1] at ez6
   simp only [go_sem, ir6, E_5_l1, R_5_l1, ir6_k0, ir6_o0, ir6_r0, z1, ez6]
  ·dsimp only at h
   obtain rfl := so_some h
   refine ⟨Lz6, fun L hL => ?_⟩
   have ez6 := ez6 L (by omega)
   try simp only [go_sem, E_5_l1, R_5_l1, ir6_k0, ir6_o0, ir6_r0, z1] at ez6
   simp only [go_sem, ir6, E_5_l1, R_5_l1, ir6_k0, ir6_o0, ir6_r0, z1, ez6]


def ir29_v : List Nat := [0, 1, 2, 3]
def ir29 : AFn := ⟨1, 4, .seq (.region false [ VO 1 1 (.box (.v 0)), VO 2 2 (.alloc (.agg [.int .i64 (0), .str [], .str [], .int .i64 (0), .bool false]))]) (.seq (.region false [ VO 3 3 (.alloc (.agg [.int .i64 (0), .str [], .str [], .int .i64 (0), .bool false]))]) (.seq (.region false [ PO 4 (.fldAddr 0 (.v 1)), PO 5 (.load false 1 (.s 0)), PO 6 (.fldAddr 0 (.v 3)), ⟨.no, 0, none, .store 1 (.s 0) (.s 1)⟩]) (.seq (.region false [ PO 7 (.fldAddr 1 (.v 1)), PO 8 (.load false 1 (.s 0)), PO 9 (.fldAddr 1 (.v 3)), ⟨.no, 0, none, .store 1 (.s 0) (.s 1)⟩]) (.seq (.region false [ PO 10 (.fldAddr 2 (.v
 1)), PO 11 (.load false 1 (.s 0)), PO 12 (.fldAddr 2 (.v 3)), ⟨.no, 0, none, .store 1 (.s 0) (.s 1)⟩]) (.seq (.region false [ PO 13 (.fldAddr 3 (.v 1)), PO 14 (.load false 1 (.s 0)), PO 15 (.fldAddr 3 (.v 3)), ⟨.no, 0, none, .store 1 (.s 0) (.s 1)⟩]) (.seq (.region false [ PO 16 (.fldAddr 4 (.v 1)), PO 17 (.load false 1 (.s 0)), PO 18 (.fldAddr 4 (.v 3)), ⟨.no, 0, none, .store 1 (.s 0) (.s 1)⟩]) (.seq (.region false [ PO 19 (.load true 5 (.v 3)), ⟨.no, 0, none, .store 5 (.v 2) (.s 0)⟩]) (.ret)))))))), [.cell true 5 2]⟩
noncomputable def t_6 : List (Nat × Ctr) := []
noncomputable def c_6 : Ctr := mkN t_6 ir29 [.bor]
theorem s_6 : Sound Try.prog 29 c_6 := mkN_sound _ snd_nil (by kernel_rfl : chkFn Try.prog 29 ir29 ir29_v = true)
theorem M_6 : c_6.modes = [.bor] := rfl
theorem Fl_6 : c_6.flat = false := rfl
attribute [go_sem] M_6 Fl_6
theorem Fs_6 {a : Estimate} {y_ : Estimate} (h : laws_toEstimate a = some y_) : c_6.F [Estimate_av a] = ⟨true, Estimate_av y_, [.any]⟩ := by
 refine mkN_E ?_
 dsimp only [laws_toEstimate] at h
 obtain rfl := so_some h
 refine ⟨0, fun L hL => ?_⟩
 simp only [go_sem, ir29]


def ir8_b0 : IR := .seq (.test false [ PM 8 3, PM 9 0, PO 10 (.len false (.s 0)), PO 11 (.bin false .lss (.s 2) (.s 0))] (.s 0) (.skip) (.exit 0)) (.seq (.block 1 (.region false [ PM 14 2, PM 15 3, PM 16 0, PM 17 3, PO 18 (.ixAddr 5 (.s 1) (.s 0)), PO 19 (.load true 5 (.s 0)), PO 20 (.call 29 [(.s 0)]), PO 21 (.ixAddr 5 (.s 6) (.s 5)), ⟨.no, 0, none, .store 5 (.s 0) (.s 1)⟩])) (.region false [ PM 12 3, PO 13 (.bin false .add (.s 0) (I6 1)), VS 3 4 0]))
def ir8_k0 : List Bool := [true, false, true, true]
def ir8_o0 : List Bool := [false, false, true, false]
def ir8_r0 : List Bool := [false, true, false, false]
def ir8_v : List Nat := [0, 2, 3, 4]
def ir8 : AFn := ⟨1, 4, .seq (.region false [ VO 1 2 (.newnil 5)]) (.seq (.region false [ PM 5 0, PO 6 (.len false (.s 0)), PO 7 (.make 5 56 (.agg [.int .i64 (0), .str [], .str [], .int .i64 (0), .bool false]) (.s 0) (.s 0)), VS 2 3 0]) (.seq (.seq (.region false [ VO 3 4 (.mov (I6 0))]) (.block 0 (.loop ir8_k0 ir8_o0 ir8_r0 ir8_b0))) (.seq (.region false [ PM 22 2, VS 1 2 0]) (.ret)))), [.t 1]⟩
noncomputable def t_7 : List (Nat × Ctr) := [(29, c_6)]
theorem lk_7_29 : look t_7 29 = some c_6 := rfl
noncomputable def c_7 : Ctr := mkF t_7 ir8 [.bor]
theorem s_7 : Sound Try.prog 8 c_7 := mkF_sound _ rfl (snd_cons s_6 snd_nil) (by kernel_rfl : chkFn Try.prog 8 ir8 ir8_v = true)
theorem M_7 : c_7.modes = [.bor] := rfl
theorem Fl_7 : c_7.flat = true := rfl
attribute [go_sem] M_7 Fl_7
attribute [go_sem] lk_7_29
def E_7_l1 (a : List Estimate) : ((List Estimate) × Int) → St
 | (out, i) => ⟨[.sl 5 (List.map Estimate_av a), .any, .own 3200000, .int .i64 i], [], [(3200000, ⟨5, List.map Estimate_av out⟩)], true⟩
def R_7_l1 (a : List Estimate) (y : (List Estimate)) : Res := (.exit 0, ⟨[.any, .any, .own 3200000, .any], [], [(3200000, ⟨5, List.map Estimate_av y⟩)], true⟩)
theorem laws_toEstimateS_l1_ex {a : List Estimate} {sgm_ : (List Estimate) × Int} {rho_ : (List Estimate)} (h : whileE (laws_toEstimateS_l1 a) sgm_ = some rho_) : ∃ L0, ∀ L, L0 ≤ L → iter (exec (look t_7) L ir8_b0) ir8_k0 ir8_o0 ir8_r0 L (E_7_l1 a sgm_) = R_7_l1 a rho_ := by
 refine loop_ex (E := E_7_l1 a) (R := R_7_l1 a) (fun y => by first | (intro c; cases c) | (rcases y with y | y <;> (intro c; cases c)) | (rcases y with y | y | y <;> (intro c; cases c))) ?_ h
 clear h
 rintro ⟨out, i⟩ o_ h
 dsimp only [laws_toEstimateS_l1] at h
 rcases it_some h with ⟨z2, h⟩ | ⟨z2, h⟩
 ·try simp only [go_sem, n1, n2, n3, n4] at z2
  all_goals
  obtain ⟨z3, h⟩ := ck_some h
  have lz3 := ix_lt z3
  have xz3 := getD_mapD Estimate_av a lz3
  try simp only [go_sem] at lz3
  try simp only [go_sem] at xz3
  try simp only [go_sem, n1, n2, n3, n4, z2] at z3
  all_goals
  obtain ⟨y_4, z4, h⟩ := bd_some h
  have fz4 := Fs_6 z4
  try simp only [go_sem, z2, z3] at fz4
  obtain ⟨z5, h⟩ := ck_some h
  have lz5 := ix_lt z5
  have xz5 := getD_mapD Estimate_av out lz5
  try simp only [go_sem] at lz5
  try simp only [go_sem] at xz5
  try simp only [go_sem, n1, n2, n3, n4, z2, z3] at z5
  all_goals
  obtain rfl := so_some h
  refine ⟨0, fun L hL => ?_⟩
  simp only [go_sem, ir8, E_7_l1, R_7_l1, ir8_b0, ir8_k0, ir8_o0, ir8_r0, z2, z3, lz3, xz3, fz4, z5, lz5, xz5]
 ·try simp only [go_sem, n1, n2, n3, n4] at z2
  all_goals
  obtain rfl := so_some h
  refine ⟨0, fun L hL => ?_⟩
  simp only [go_sem, ir8, E_7_l1, R_7_l1, ir8_b0, ir8_k0, ir8_o0, ir8_r0, z2]

theorem Fs_7 {a : List Estimate} {y_ : (List Estimate)} (h : laws_toEstimateS a = some y_) : c_7.F [.sl 5 (List.map Estimate_av a)] = ⟨true, .fresh 5 (List.map Estimate_av y_), [.any]⟩ := by
 refine mkF_E (by simp only [flatA, flatB, flat1, List.all_cons, List.all_nil, Bool.and_self, flatE_map (f := Estimate_av) (fun _ => rfl)]) ?_
 dsimp only [laws_toEstimateS] at h
 obtain ⟨z1, h⟩ := ck_some h
 try simp only [go_sem, n1, n2, n3, n4] at z1
 all_goals
 obtain ⟨y_6, z6, h⟩ := bd_some h
 obtain ⟨Lz6, ez6⟩ := laws_toEstimateS_l1_ex z6
 obtain rfl := so_some h
 refine ⟨Lz6, fun L hL => ?_⟩
 have ez6 := ez6 L (by omega)
 try simp only [go_sem, E_7_l1, R_7_l1, ir8_k0, ir8_o0, ir8_r0, z1] at ez6
 simp only [go_sem, ir8, E_7_l1, R_7_l1, ir8_k0, ir8_o0, ir8_r0, z1, ez6]


def ir30_v : List Nat := [0, 1, 2, 3]
def ir30 : AFn := ⟨1, 4, .seq (.region false [ VO 1 1 (.box (.v 0)), VO 2 2 (.alloc (.agg [.str [], .int .i64 (0), .int .i64 (0), .int .i64 (0), .int .i64 (0)]))]) (.seq (.region false [ VO 3 3 (.alloc (.agg [.str [], .int .i64 (0), .int .i64 (0), .int .i64 (0), .int .i64 (0)]))]) (.seq (.region false [ PO 4 (.fldAddr 0 (.v 1)), PO 5 (.load false 1 (.s 0)), PO 6 (.fldAddr 0 (.v 3)), ⟨.no, 0, none, .store 1 (.s 0) (.s 1)⟩]) (.seq (.region false [ PO 7 (.fldAddr 1 (.v 1)), PO 8 (.load false 1 (.s 0)), PO 9 (.fldAddr 1 (.v 3)), ⟨.no, 0, none, .store 1 (.s 0) (.s 1)⟩]) (.seq (.region false [ PO 10
 (.fldAddr 2 (.v 1)), PO 11 (.load false 1 (.s 0)), PO 12 (.fldAddr 2 (.v 3)), ⟨.no, 0, none, .store 1 (.s 0) (.s 1)⟩]) (.seq (.region false [ PO 13 (.fldAddr 3 (.v 1)), PO 14 (.load false 1 (.s 0)), PO 15 (.fldAddr 3 (.v 3)), ⟨.no, 0, none, .store 1 (.s 0) (.s 1)⟩]) (.seq (.region false [ PO 16 (.fldAddr 4 (.v 1)), PO 17 (.load false 1 (.s 0)), PO 18 (.fldAddr 4 (.v 3)), ⟨.no, 0, none, .store 1 (.s 0) (.s 1)⟩]) (.seq (.region false [ PO 19 (.load true 5 (.v 3)), ⟨.no, 0, none, .store 5 (.v 2) (.s 0)⟩]) (.ret)))))))), [.cell true 5 2]⟩
noncomputable def t_8 : List (Nat × Ctr) := []
noncomputable def c_8 : Ctr := mkN t_8 ir30 [.bor]
theorem s_8 : Sound Try.prog 30 c_8 := mkN_sound _ snd_nil (by kernel_rfl : chkFn Try.prog 30 ir30 ir30_v = true)
theorem M_8 : c_8.modes = [.bor] := rfl
theorem Fl_8 : c_8.flat = false := rfl
attribute [go_sem] M_8 Fl_8
theorem Fs_8 {a : Star} {y_ : Star} (h : laws_toStar a = some y_) : c_8.F [Star_av a] = ⟨true, Star_av y_, [.any]⟩ := by
 refine mkN_E ?_
 dsimp only [laws_toStar] at h
 obtain rfl := so_some h
 refine ⟨0, fun L hL => ?_⟩
 simp only [go_sem, ir30]


def ir9_b0 : IR := .seq (.test false [ PM 8 3, PM 9 0, PO 10 (.len false (.s 0)), PO 11 (.bin false .lss (.s 2) (.s 0))] (.s 0) (.skip) (.exit 0)) (.seq (.block 1 (.region false [ PM 14 2, PM 15 3, PM 16 0, PM 17 3, PO 18 (.ixAddr 5 (.s 1) (.s 0)), PO 19 (.load true 5 (.s 0)), PO 20 (.call 30 [(.s 0)]), PO 21 (.ixAddr 5 (.s 6) (.s 5)), ⟨.no, 0, none, .store 5 (.s 0) (.s 1)⟩])) (.region false [ PM 12 3, PO 13 (.bin false .add (.s 0) (I6 1)), VS 3 4 0]))
def ir9_k0 : List Bool := [true, false, true, true]
def ir9_o0 : List Bool := [false, false, true, false]
def ir9_r0 : List Bool := [false, true, false, false]
def ir9_v : List Nat := [0, 2, 3, 4]
def ir9 : AFn := ⟨1, 4, .seq (.region false [ VO 1 2 (.newnil 5)]) (.seq (.region false [ PM 5 0, PO 6 (.len false (.s 0)), PO 7 (.make 5 48 (.agg [.str [], .int .i64 (0), .int .i64 (0), .int .i64 (0), .int .i64 (0)]) (.s 0) (.s 0)), VS 2 3 0]) (.seq (.seq (.region false [ VO 3 4 (.mov (I6 0))]) (.block 0 (.loop ir9_k0 ir9_o0 ir9_r0 ir9_b0))) (.seq (.region false [ PM 22 2, VS 1 2 0]) (.ret)))), [.t 1]⟩
noncomputable def t_9 : List (Nat × Ctr) := [(30, c_8)]
theorem lk_9_30 : look t_9 30 = some c_8 := rfl
noncomputable def c_9 : Ctr := mkF t_9 ir9 [.bor]
theorem s_9 : Sound Try.prog 9 c_9 := mkF_sound _ rfl (snd_cons s_8 snd_nil) (by kernel_rfl : chkFn Try.prog 9 ir9 ir9_v = true)
theorem M_9 : c_9.modes = [.bor] := rfl
theorem Fl_9 : c_9.flat = true := rfl
attribute [go_sem] M_9 Fl_9
attribute [go_sem] lk_9_30
def E_9_l1 (a : List Star) : ((List Star) × Int) → St
 | (out, i) => ⟨[.sl 5 (List.map Star_av a), .any, .own 3200000, .int .i64 i], [], [(3200000, ⟨5, List.map Star_av out⟩)], true⟩
def R_9_l1 (a : List Star) (y : (List Star)) : Res := (.exit 0, ⟨[.any, .any, .own 3200000, .any], [], [(3200000, ⟨5, List.map Star_av y⟩)], true⟩)
theorem laws_toStarS_l1_ex {a : List Star} {sgm_ : (List Star) × Int} {rho_ : (List Star)} (h : whileE (laws_toStarS_l1 a) sgm_ = some rho_) : ∃ L0, ∀ L, L0 ≤ L → iter (exec (look t_9) L ir9_b0) ir9_k0 ir9_o0 ir9_r0 L (E_9_l1 a sgm_) = R_9_l1 a rho_ := by
 refine loop_ex (E := E_9_l1 a) (R := R_9_l1 a) (fun y => by first | (intro c; cases c) | (rcases y with y | y <;> (intro c; cases c)) | (rcases y with y | y | y <;> (intro c; cases c))) ?_ h
 clear h
 rintro ⟨out, i⟩ o_ h
 dsimp only [laws_toStarS_l1] at h
 rcases it_some h with ⟨z2, h⟩ | ⟨z2, h⟩
 ·try simp only [go_sem, n1, n2, n3, n4] at z2
  all_goals
  obtain ⟨z3, h⟩ := ck_some h
  have lz3 := ix_lt z3
  have xz3 := getD_mapD Star_av a lz3
  try simp only [go_sem] at lz3
  try simp only [go_sem] at xz3
  try simp only [go_sem, n1, n2, n3, n4, z2] at z3
  all_goals
  obtain ⟨y_4, z4, h⟩ := bd_some h
  have fz4 := Fs_8 z4
  try simp only [go_sem, z2, z3] at fz4
  obtain ⟨z5, h⟩ := ck_some h
  have lz5 := ix_lt z5
  have xz5 := getD_mapD Star_av out lz5
  try simp only [go_sem] at lz5
  try simp only [go_sem] at xz5
  try simp only [go_sem, n1, n2, n3, n4, z2, z3] at z5
  all_goals
  obtain rfl := so_some h
  refine ⟨0, fun L hL => ?_⟩
  simp only [go_sem, ir9, E_9_l1, R_9_l1, ir9_b0, ir9_k0, ir9_o0, ir9_r0, z2, z3, lz3, xz3, fz4, z5, lz5, xz5]
 ·try simp only [go_sem, n1, n2, n3, n4] at z2
  all_goals
  obtain rfl := so_some h
  refine ⟨0, fun L hL => ?_⟩
  simp only [go_sem, ir9, E_9_l1, R_9_l1, ir9_b0, ir9_k0, ir9_o0, ir9_r0, z2]

theorem Fs_9 {a : List Star} {y_ : (List Star)} (h : laws_toStarS a = some y_) : c_9.F [.sl 5 (List.map Star_av a)] = ⟨true, .fresh 5 (List.map Star_av y_), [.any]⟩ := by
 refine mkF_E (by simp only [flatA, flatB, flat1, List.all_cons, List.all_nil, Bool.and_self, flatE_map (f := Star_av) (fun _ => rfl)]) ?_
 dsimp only [laws_toStarS] at h
 obtain ⟨z1, h⟩ := ck_some h
 try simp only [go_sem, n1, n2, n3, n4] at z1
 all_goals
 obtain ⟨y_6, z6, h⟩ := bd_some h
 obtain ⟨Lz6, ez6⟩ := laws_toStarS_l1_ex z6
 obtain rfl := so_some h
 refine ⟨Lz6, fun L hL => ?_⟩
 have ez6 := ez6 L (by omega)
 try simp only [go_sem, E_9_l1, R_9_l1, ir9_k0, ir9_o0, ir9_r0, z1] at ez6
 simp only [go_sem, ir9, E_9_l1, R_9_l1, ir9_k0, ir9_o0, ir9_r0, z1, ez6]


def ir31_v : List Nat := [0, 1, 2, 3]
def ir31 : AFn := ⟨1, 4, .seq (.region false [ VO 1 1 (.box (.v 0)), VO 2 2 (.alloc (.agg [.str [], .int .i64 (0)]))]) (.seq (.region false [ VO 3 3 (.alloc (.agg [.str [], .int .i64 (0)]))]) (.seq (.region false [ PO 4 (.fldAddr 0 (.v 1)), PO 5 (.load false 1 (.s 0)), PO 6 (.fldAddr 0 (.v 3)), ⟨.no, 0, none, .store 1 (.s 0) (.s 1)⟩]) (.seq (.region false [ PO 7 (.fldAddr 1 (.v 1)), PO 8 (.load false 1 (.s 0)), PO 9 (.fldAddr 1 (.v 3)), ⟨.no, 0, none, .store 1 (.s 0) (.s 1)⟩]) (.seq (.region false [ PO 10 (.load true 2 (.v 3)), ⟨.no, 0, none, .store 2 (.v 2) (.s 0)⟩]) (.ret))))), [.cell true 2
 2]⟩
noncomputable def t_10 : List (Nat × Ctr) := []
noncomputable def c_10 : Ctr := mkN t_10 ir31 [.bor]
theorem s_10 : Sound Try.prog 31 c_10 := mkN_sound _ snd_nil (by kernel_rfl : chkFn Try.prog 31 ir31 ir31_v = true)
theorem M_10 : c_10.modes = [.bor] := rfl
theorem Fl_10 : c_10.flat = false := rfl
attribute [go_sem] M_10 Fl_10
theorem Fs_10 {a : Observer} {y_ : Observer} (h : laws_toObserver a = some y_) : c_10.F [Observer_av a] = ⟨true, Observer_av y_, [.any]⟩ := by
 refine mkN_E ?_
 dsimp only [laws_toObserver] at h
 obtain rfl := so_some h
 refine ⟨0, fun L hL => ?_⟩
 simp only [go_sem, ir31]


def ir10_b0 : IR := .seq (.test false [ PM 8 3, PM 9 0, PO 10 (.len false (.s 0)), PO 11 (.bin false .lss (.s 2) (.s 0))] (.s 0) (.skip) (.exit 0)) (.seq (.block 1 (.region false [ PM 14 2, PM 15 3, PM 16 0, PM 17 3, PO 18 (.ixAddr 2 (.s 1) (.s 0)), PO 19 (.load true 2 (.s 0)), PO 20 (.call 31 [(.s 0)]), PO 21 (.ixAddr 2 (.s 6) (.s 5)), ⟨.no, 0, none, .store 2 (.s 0) (.s 1)⟩])) (.region false [ PM 12 3, PO 13 (.bin false .add (.s 0) (I6 1)), VS 3 4 0]))
def ir10_k0 : List Bool := [true, false, true, true]
def ir10_o0 : List Bool := [false, false, true, false]
def ir10_r0 : List Bool := [false, true, false, false]
def ir10_v : List Nat := [0, 2, 3, 4]
def ir10 : AFn := ⟨1, 4, .seq (.region false [ VO 1 2 (.newnil 2)]) (.seq (.region false [ PM 5 0, PO 6 (.len false (.s 0)), PO 7 (.make 2 24 (.agg [.str [], .int .i64 (0)]) (.s 0) (.s 0)), VS 2 3 0]) (.seq (.seq (.region false [ VO 3 4 (.mov (I6 0))]) (.block 0 (.loop ir10_k0 ir10_o0 ir10_r0 ir10_b0))) (.seq (.region false [ PM 22 2, VS 1 2 0]) (.ret)))), [.t 1]⟩
noncomputable def t_11 : List (Nat × Ctr) := [(31, c_10)]
theorem lk_11_31 : look t_11 31 = some c_10 := rfl
noncomputable def c_11 : Ctr := mkF t_11 ir10 [.bor]
theorem s_11 : Sound Try.prog 10 c_11 := mkF_sound _ rfl (snd_cons s_10 snd_nil) (by kernel_rfl : chkFn Try.prog 10 ir10 ir10_v = true)
theorem M_11 : c_11.modes = [.bor] := rfl
theorem Fl_11 : c_11.flat = true := rfl
attribute [go_sem] M_11 Fl_11
attribute [go_sem] lk_11_31
def E_11_l1 (a : List Observer) : ((List Observer) × Int) → St
 | (out, i) => ⟨[.sl 2 (List.map Observer_av a), .any, .own 3200000, .int .i64 i], [], [(3200000, ⟨2, List.map Observer_av out⟩)], true⟩
def R_11_l1 (a : List Observer) (y : (List Observer)) : Res := (.exit 0, ⟨[.any, .any, .own 3200000, .any], [], [(3200000, ⟨2, List.map Observer_av y⟩)], true⟩)
theorem laws_toObserverS_l1_ex {a : List Observer} {sgm_ : (List Observer) × Int} {rho_ : (List Observer)} (h : whileE (laws_toObserverS_l1 a) sgm_ = some rho_) : ∃ L0, ∀ L, L0 ≤ L → iter (exec (look t_11) L ir10_b0) ir10_k0 ir10_o0 ir10_r0 L (E_11_l1 a sgm_) = R_11_l1 a rho_ := by
 refine loop_ex (E := E_11_l1 a) (R := R_11_l1 a) (fun y => by first | (intro c; cases c) | (rcases y with y | y <;> (intro c; cases c)) | (rcases y with y | y | y <;> (intro c; cases c))) ?_ h
 clear h
 rintro ⟨out, i⟩ o_ h
 dsimp only [laws_toObserverS_l1] at h
 rcases it_some h with ⟨z2, h⟩ | ⟨z2, h⟩
 ·try simp only [go_sem, n1, n2, n3, n4] at z2
  all_goals
  obtain ⟨z3, h⟩ := ck_some h
  have lz3 := ix_lt z3
  have xz3 := getD_mapD Observer_av a lz3
  try simp only [go_sem] at lz3
  try simp only [go_sem] at xz3
  try simp only [go_sem, n1, n2, n3, n4, z2] at z3
  all_goals
  obtain ⟨y_4, z4, h⟩ := bd_some h
  have fz4 := Fs_10 z4
  try simp only [go_sem, z2, z3] at fz4
  obtain ⟨z5, h⟩ := ck_some h
  have lz5 := ix_lt z5
  have xz5 := getD_mapD Observer_av out lz5
  try simp only [go_sem] at lz5
  try simp only [go_sem] at xz5
  try simp only [go_sem, n1, n2, n3, n4, z2, z3] at z5
  all_goals
  obtain rfl := so_some h
  refine ⟨0, fun L hL => ?_⟩
  simp only [go_sem, ir10, E_11_l1, R_11_l1, ir10_b0, ir10_k0, ir10_o0, ir10_r0, z2, z3, lz3, xz3, fz4, z5, lz5, xz5]
 ·try simp only [go_sem, n1, n2, n3, n4] at z2
  all_goals
  obtain rfl := so_some h
  refine ⟨0, fun L hL => ?_⟩
  simp only [go_sem, ir10, E_11_l1, R_11_l1, ir10_b0, ir10_k0, ir10_o0, ir10_r0, z2]

theorem Fs_11 {a : List Observer} {y_ : (List Observer)} (h : laws_toObserverS a = some y_) : c_11.F [.sl 2 (List.map Observer_av a)] = ⟨true, .fresh 2 (List.map Observer_av y_), [.any]⟩ := by
 refine mkF_E (by simp only [flatA, flatB, flat1, List.all_cons, List.all_nil, Bool.and_self, flatE_map (f := Observer_av) (fun _ => rfl)]) ?_
 dsimp only [laws_toObserverS] at h
 obtain ⟨z1, h⟩ := ck_some h
 try simp only [go_sem, n1, n2, n3, n4] at z1
 all_goals
 obtain ⟨y_6, z6, h⟩ := bd_some h
 obtain ⟨Lz6, ez6⟩ := laws_toObserverS_l1_ex z6
 obtain rfl := so_some h
 refine ⟨Lz6, fun L hL => ?_⟩
 have ez6 := ez6 L (by omega)
 try simp only [go_sem, E_11_l1, R_11_l1, ir10_k0, ir10_o0, ir10_r0, z1] at ez6
 simp only [go_sem, ir10, E_11_l1, R_11_l1, ir10_k0, ir10_o0, ir10_r0, z1, ez6]


def ir27_v : List Nat := [0, 1, 2, 6]
def ir27 : AFn := ⟨3, 4, .seq (.region false [ VO 3 6 (.mov (.c (.bool false)))]) (.seq (.region false [ PM 7 0, PM 8 1, PO 9 (.bin false .geq (.s 1) (.s 0)), PO 10 (.mov (.s 0)), ⟨.push, 11, (some ((.s 0), true)), .mov (.v 0)⟩, ⟨.push, 12, (some ((.s 1), true)), .mov (.v 2)⟩, ⟨.push, 13, (some ((.s 2), true)), .bin false .leq (.s 1) (.s 0)⟩, PO 14 (.pick (.s 3) (.s 0) (.c (.bool false))), VS 3 6 0]) (.ret)), [.t 3]⟩
noncomputable def t_12 : List (Nat × Ctr) := []
noncomputable def c_12 : Ctr := mkF t_12 ir27 [.bor, .bor, .bor]
theorem s_12 : Sound Try.prog 27 c_12 := mkF_sound _ rfl snd_nil (by kernel_rfl : chkFn Try.prog 27 ir27 ir27_v = true)
theorem M_12 : c_12.modes = [.bor, .bor, .bor] := rfl
theorem Fl_12 : c_12.flat = true := rfl
attribute [go_sem] M_12 Fl_12
theorem Fs_12 {n : Int} {low : Int} {high : Int} {y_ : Bool} (h : spec_l00In n low high = some y_) : c_12.F [.int .i64 n, .int .i64 low, .int .i64 high] = ⟨true, .bool y_, [.any, .any, .any]⟩ := by
 refine mkF_E rfl ?_
 dsimp only [spec_l00In] at h
 obtain rfl := so_some h
 refine ⟨0, fun L hL => ?_⟩
 simp only [go_sem, ir27]


def ir62_v : List Nat := [0, 2]
def ir62 : AFn := ⟨1, 2, .seq (.region false [ VO 1 2 (.mov (.c (.bool false)))]) (.seq (.region false [ PM 3 0, PO 4 (.call 27 [(.s 0), (I6 0), (I6 10000000)]), VS 1 2 0]) (.ret)), [.t 1]⟩
noncomputable def t_13 : List (Nat × Ctr) := [(27, c_12)]
theorem lk_13_27 : look t_13 27 = some c_12 := rfl
noncomputable def c_13 : Ctr := mkF t_13 ir62 [.bor]
theorem s_13 : Sound Try.prog 62 c_13 := mkF_sound _ rfl (snd_cons s_12 snd_nil) (by kernel_rfl : chkFn Try.prog 62 ir62 ir62_v = true)
theorem M_13 : c_13.modes = [.bor] := rfl
theorem Fl_13 : c_13.flat = true := rfl
attribute [go_sem] M_13 Fl_13
attribute [go_sem] lk_13_27
theorem Fs_13 {n : Int} {y_ : Bool} (h : spec_l06Time n = some y_) : c_13.F [.int .i64 n] = ⟨true, .bool y_, [.any]⟩ := by
 refine mkF_E rfl ?_
 dsimp only [spec_l06Time] at h
 obtain ⟨y_1, z1, h⟩ := bd_some h
 have fz1 := Fs_12 z1
 try simp only [go_sem] at fz1
 obtain rfl := so_some h
 refine ⟨0, fun L hL => ?_⟩
 simp only [go_sem, ir62, fz1]


def ir77_v : List Nat := [0, 2]
def ir77 : AFn := ⟨1, 2, .seq (.region false [ VO 1 2 (.mov (.c (.bool false)))]) (.seq (.region false [ PM 3 0, PO 4 (.bin false .geq (.s 0) (.c (.int .u8 (97)))), PO 5 (.mov (.s 0)), ⟨.push, 6, (some ((.s 0), true)), .mov (.v 0)⟩, ⟨.push, 7, (some ((.s 1), true)), .bin false .leq (.s 0) (.c (.int .u8 (122)))⟩, PO 8 (.pick (.s 2) (.s 0) (.c (.bool false))), VS 1 2 0]) (.ret)), [.t 1]⟩
noncomputable def t_14 : List (Nat × Ctr) := []
noncomputable def c_14 : Ctr := mkF t_14 ir77 [.bor]
theorem s_14 : Sound Try.prog 77 c_14 := mkF_sound _ rfl snd_nil (by kernel_rfl : chkFn Try.prog 77 ir77 ir77_v = true)
theorem M_14 : c_14.modes = [.bor] := rfl
theorem Fl_14 : c_14.flat = true := rfl
attribute [go_sem] M_14 Fl_14
theorem Fs_14 {c : UInt8} {y_ : Bool} (h : spec_l01Small c = some y_) : c_14.F [.int .u8 (c.toNat : Int)] = ⟨true, .bool y_, [.any]⟩ := by
 refine mkF_E rfl ?_
 dsimp only [spec_l01Small] at h
 obtain rfl := so_some h
 refine ⟨0, fun L hL => ?_⟩
 simp only [go_sem, ir77]


def ir78_v : List Nat := [0, 2]
def ir78 : AFn := ⟨1, 2, .seq (.region false [ VO 1 2 (.mov (.c (.bool false)))]) (.seq (.region false [ PM 3 0, PO 4 (.bin false .geq (.s 0) (.c (.int .u8 (48)))), PO 5 (.mov (.s 0)), ⟨.push, 6, (some ((.s 0), true)), .mov (.v 0)⟩, ⟨.push, 7, (some ((.s 1), true)), .bin false .leq (.s 0) (.c (.int .u8 (57)))⟩, PO 8 (.pick (.s 2) (.s 0) (.c (.bool false))), VS 1 2 0]) (.ret)), [.t 1]⟩
noncomputable def t_15 : List (Nat × Ctr) := []
noncomputable def c_15 : Ctr := mkF t_15 ir78 [.bor]
theorem s_15 : Sound Try.prog 78 c_15 := mkF_sound _ rfl snd_nil (by kernel_rfl : chkFn Try.prog 78 ir78 ir78_v = true)
theorem M_15 : c_15.modes = [.bor] := rfl
theorem Fl_15 : c_15.flat = true := rfl
attribute [go_sem] M_15 Fl_15
theorem Fs_15 {c : UInt8} {y_ : Bool} (h : spec_l01Digit c = some y_) : c_15.F [.int .u8 (c.toNat : Int)] = ⟨true, .bool y_, [.any]⟩ := by
 refine mkF_E rfl ?_
 dsimp only [spec_l01Digit] at h
 obtain rfl := so_some h
 refine ⟨0, fun L hL => ?_⟩
 simp only [go_sem, ir78]


def ir63_b0 : IR := .seq (.test false [ PM 17 2, PM 18 0, PO 19 (.len true (.s 0)), PO 20 (.bin false .lss (.s 2) (.s 0))] (.s 0) (.skip) (.exit 0)) (.seq (.block 1 (.test false [ PM 23 0, PM 24 2, PO 25 (.ixStr (.s 1) (.s 0)), PO 26 (.call 77 [(.s 0)]), PO 27 (.un .not (.s 0)), PO 28 (.mov (.s 0)), ⟨.push, 29, (some ((.s 0), true)), .mov (.v 0)⟩, ⟨.push, 30, (some ((.s 1), true)), .mov (.v 2)⟩, ⟨.push, 31, (some ((.s 2), true)), .ixStr (.s 1) (.s 0)⟩, ⟨.push, 32, (some ((.s 3), true)), .call 78 [(.s 0)]⟩, ⟨.push, 33, (some ((.s 4), true)), .un .not (.s 0)⟩, PO 34 (.pick (.s 5) (.s 0) (.c
 (.bool false))), PO 35 (.mov (.s 0)), ⟨.push, 36, (some ((.s 0), true)), .mov (.v 0)⟩, ⟨.push, 37, (some ((.s 1), true)), .mov (.v 2)⟩, ⟨.push, 38, (some ((.s 2), true)), .ixStr (.s 1) (.s 0)⟩, ⟨.push, 39, (some ((.s 3), true)), .bin false .neq (.s 0) (.c (.int .u8 (45)))⟩, PO 40 (.pick (.s 4) (.s 0) (.c (.bool false)))] (.s 0) (.seq (.region false [ VO 1 2 (.mov (.c (.bool false)))]) (.ret)) (.skip))) (.region false [ PM 21 2, PO 22 (.bin false .add (.s 0) (I6 1)), VS 2 3 0]))
def ir63_k0 : List Bool := [true, false, true]
def ir63_o0 : List Bool := [false, false, false]
def ir63_r0 : List Bool := [false, true, false]
def ir63_v : List Nat := [0, 2, 3]
def ir63 : AFn := ⟨1, 3, .seq (.region false [ VO 1 2 (.mov (.c (.bool false)))]) (.seq (.test false [ PM 4 0, PO 5 (.bin false .eql (.s 0) (.c (.str []))), PO 6 (.mov (.s 0)), ⟨.push, 7, (some ((.s 0), false)), .mov (.v 0)⟩, ⟨.push, 8, (some ((.s 1), false)), .len true (.s 0)⟩, ⟨.push, 9, (some ((.s 2), false)), .bin false .gtr (.s 0) (I6 12)⟩, PO 10 (.pick (.s 3) (.c (.bool true)) (.s 0)), PO 11 (.mov (.s 0)), ⟨.push, 12, (some ((.s 0), false)), .mov (.v 0)⟩, ⟨.push, 13, (some ((.s 1), false)), .ixStr (.s 0) (I6 0)⟩, ⟨.push, 14, (some ((.s 2), false)), .call 77 [(.s 0)]⟩, ⟨.push, 15, (some
 ((.s 3), false)), .un .not (.s 0)⟩, PO 16 (.pick (.s 4) (.c (.bool true)) (.s 0))] (.s 0) (.seq (.region false [ VO 1 2 (.mov (.c (.bool false)))]) (.ret)) (.skip)) (.seq (.seq (.region false [ VO 2 3 (.mov (I6 0))]) (.block 0 (.loop ir63_k0 ir63_o0 ir63_r0 ir63_b0))) (.seq (.region false [ VO 1 2 (.mov (.c (.bool true)))]) (.ret)))), [.t 1]⟩
noncomputable def t_16 : List (Nat × Ctr) := [(77, c_14), (78, c_15)]
theorem lk_16_77 : look t_16 77 = some c_14 := rfl
theorem lk_16_78 : look t_16 78 = some c_15 := rfl
noncomputable def c_16 : Ctr := mkF t_16 ir63 [.bor]
theorem s_16 : Sound Try.prog 63 c_16 := mkF_sound _ rfl (snd_cons s_14 (snd_cons s_15 snd_nil)) (by kernel_rfl : chkFn Try.prog 63 ir63 ir63_v = true)
theorem M_16 : c_16.modes = [.bor] := rfl
theorem Fl_16 : c_16.flat = true := rfl
attribute [go_sem] M_16 Fl_16
attribute [go_sem] lk_16_77 lk_16_78
def E_16_l1 (s_ : List UInt8) : Int → St
 | i => ⟨[.str s_, .any, .int .i64 i], [], [], true⟩
def R_16_l1 (s_ : List UInt8) : (Unit ⊕ Bool) → Res
 | .inl y => (.exit 0, ⟨[.any, .any, .any], [], [], true⟩)
 | .inr y => (.ret, ⟨[.any, .bool y, .any], [], [], true⟩)
theorem spec_IsName_l1_ex {s_ : List UInt8} {sgm_ : Int} {rho_ : Unit ⊕ Bool} (h : whileE (spec_IsName_l1 s_) sgm_ = some rho_) : ∃ L0, ∀ L, L0 ≤ L → iter (exec (look t_16) L ir63_b0) ir63_k0 ir63_o0 ir63_r0 L (E_16_l1 s_ sgm_) = R_16_l1 s_ rho_ := by
 refine loop_ex (E := E_16_l1 s_) (R := R_16_l1 s_) (fun y => by first | (intro c; cases c) | (rcases y with y | y <;> (intro c; cases c)) | (rcases y with y | y | y <;> (intro c; cases c))) ?_ h
 clear h
 intro i o_ h
 dsimp only [spec_IsName_l1] at h
 rcases it_some h with ⟨z4, h⟩ | ⟨z4, h⟩
 ·try simp only [go_sem, n1, n2, n3, n4] at z4
  all_goals
  obtain ⟨z5, h⟩ := ck_some h
  try simp only [go_sem, n1, n2, n3, n4, z4] at z5
  all_goals
  obtain ⟨y_6, z6, h⟩ := bd_some h
  have fz6 := Fs_14 z6
  try simp only [go_sem, z4, z5] at fz6
  obtain ⟨z7, h⟩ := ck_some h
  rcases or_split z7 with ⟨gz7, z7⟩ | gz7
  ·try simp only [go_sem, n1, n2, n3, n4, z4, z5] at gz7
   all_goals
   obtain ⟨y_7, hz7⟩ := Option.isSome_iff_exists.1 z7
   have fz7 := Fs_15 hz7
   try simp only [go_sem, n1, n2, n3, n4, z4, z5, gz7] at hz7
   all_goals
   try simp only [go_sem, z4, z5, gz7] at fz7
   rcases it_some h with ⟨z8, h⟩ | ⟨z8, h⟩
   ·try simp only [go_sem, n1, n2, n3, n4, z4, z5, gz7, hz7] at z8
    all_goals
    obtain rfl := so_some h
    refine ⟨0, fun L hL => ?_⟩
    simp only [go_sem, ir63, E_16_l1, R_16_l1, ir63_b0, ir63_k0, ir63_o0, ir63_r0, z4, z5, fz6, gz7, hz7, fz7, z8]
   ·try simp only [go_sem, n1, n2, n3, n4, z4, z5, gz7, hz7] at z8
    all_goals
    obtain rfl := so_some h
    refine ⟨0, fun L hL => ?_⟩
    simp only [go_sem, ir63, E_16_l1, R_16_l1, ir63_b0, ir63_k0, ir63_o0, ir63_r0, z4, z5, fz6, gz7, hz7, fz7, z8]
  ·have gz7n := no_f gz7
   try simp only [go_sem, n1, n2, n3, n4, z4, z5] at gz7n
   all_goals
   rcases it_some h with ⟨z8, h⟩ | ⟨z8, h⟩
   ·try simp only [go_sem, n1, n2, n3, n4, z4, z5, gz7n] at z8
    all_goals
    (simp_all)
   ·try simp only [go_sem, n1, n2, n3, n4, z4, z5, gz7n] at z8
    all_goals
    obtain rfl := so_some h
    refine ⟨0, fun L hL => ?_⟩
    simp only [go_sem, ir63, E_16_l1, R_16_l1, ir63_b0, ir63_k0, ir63_o0, ir63_r0, z4, z5, fz6, gz7n, z8]
 ·try simp only [go_sem, n1, n2, n3, n4] at z4
  all_goals
  obtain rfl := so_some h
  refine ⟨0, fun L hL => ?_⟩
  simp only [go_sem, ir63, E_16_l1, R_16_l1, ir63_b0, ir63_k0, ir63_o0, ir63_r0, z4]

theorem Fs_16 {s_ : List UInt8} {y_ : Bool} (h : spec_IsName s_ = some y_) : c_16.F [.str s_] = ⟨true, .bool y_, [.any]⟩ := by
 refine mkF_E rfl ?_
 dsimp only [spec_IsName] at h
 obtain ⟨z1, h⟩ := ck_some h
 rcases or_split z1 with ⟨gz1, z1⟩ | gz1
 ·try simp only [go_sem, n1, n2, n3, n4] at gz1
  all_goals
  try simp only [go_sem, n1, n2, n3, n4, gz1] at z1
  all_goals
  obtain ⟨z2, h⟩ := ck_some h
  rcases or_split z2 with ⟨gz2, z2⟩ | gz2
  ·try simp only [go_sem, n1, n2, n3, n4, gz1, z1] at gz2
   all_goals
   obtain ⟨y_2, hz2⟩ := Option.isSome_iff_exists.1 z2
   have fz2 := Fs_14 hz2
   try simp only [go_sem, n1, n2, n3, n4, gz1, z1, gz2] at hz2
   all_goals
   try simp only [go_sem, gz1, z1, gz2] at fz2
   rcases it_some h with ⟨z3, h⟩ | ⟨z3, h⟩
   ·try simp only [go_sem, n1, n2, n3, n4, gz1, z1, gz2, hz2] at z3
    all_goals
    obtain rfl := so_some h
    refine ⟨0, fun L hL => ?_⟩
    simp only [go_sem, ir63, E_16_l1, R_16_l1, ir63_k0, ir63_o0, ir63_r0, gz1, z1, gz2, hz2, fz2, z3]
   ·try simp only [go_sem, n1, n2, n3, n4, gz1, z1, gz2, hz2] at z3
    all_goals
    obtain ⟨y_9, z9, h⟩ := bd_some h
    obtain ⟨Lz9, ez9⟩ := spec_IsName_l1_ex z9
    rcases y_9 with y_9a | y_9b
    ·dsimp only at h
     obtain rfl := so_some h
     refine ⟨Lz9, fun L hL => ?_⟩
     have ez9 := ez9 L (by omega)
     try simp only [go_sem, E_16_l1, R_16_l1, ir63_k0, ir63_o0, ir63_r0, gz1, z1, gz2, hz2, z3] at ez9
     simp only [go_sem, ir63, E_16_l1, R_16_l1, ir63_k0, ir63_o0, ir63_r0, gz1, z1, gz2, hz2, fz2, z3, ez9]
    ·dsimp only at h
     obtain rfl := so_some h
     refine ⟨Lz9, fun L hL => ?_⟩
     have ez9 := ez9 L (by omega)
     try simp only [go_sem, E_16_l1, R_16_l1, ir63_k0, ir63_o0, ir63_r0, gz1, z1, gz2, hz2, z3] at ez9
     simp only [go_sem, ir63, E_16_l1, R_16_l1, ir63_k0, ir63_o0, ir63_r0, gz1, z1, gz2, hz2, fz2, z3, ez9]
  ·have gz2n := no_f gz2
   rcases or_t gz2n with gz2na | ⟨gz2na, gz2nb⟩
   ·try simp only [go_sem, n1, n2, n3, n4, gz1, z1] at gz2na
    all_goals
    (simp_all)
   ·try simp only [go_sem, n1, n2, n3, n4, gz1, z1] at gz2na
    all_goals
    try simp only [go_sem, n1, n2, n3, n4, gz1, z1, gz2na] at gz2nb
    all_goals
    rcases it_some h with ⟨z3, h⟩ | ⟨z3, h⟩
    ·try simp only [go_sem, n1, n2, n3, n4, gz1, z1, gz2na, gz2nb] at z3
     all_goals
     obtain rfl := so_some h
     refine ⟨0, fun L hL => ?_⟩
     simp only [go_sem, ir63, E_16_l1, R_16_l1, ir63_k0, ir63_o0, ir63_r0, gz1, z1, gz2na, gz2nb, z3]
    ·try simp only [go_sem, n1, n2, n3, n4, gz1, z1, gz2na, gz2nb] at z3
     all_goals
     obtain ⟨y_9, z9, h⟩ := bd_some h
     obtain ⟨Lz9, ez9⟩ := spec_IsName_l1_ex z9
     rcases y_9 with y_9a | y_9b
     ·dsimp only at h
      obtain rfl := so_some h
      refine ⟨Lz9, fun L hL => ?_⟩
      have ez9 := ez9 L (by omega)
      try simp only [go_sem, E_16_l1, R_16_l1, ir63_k0, ir63_o0, ir63_r0, gz1, z1, gz2na, gz2nb, z3] at ez9
      simp only [go_sem, ir63, E_16_l1, R_16_l1, ir63_k0, ir63_o0, ir63_r0, gz1, z1, gz2na, gz2nb, z3, ez9]
     ·dsimp only at h
      obtain rfl := so_some h
      refine ⟨Lz9, fun L hL => ?_⟩
      have ez9 := ez9 L (by omega)
      try simp only [go_sem, E_16_l1, R_16_l1, ir63_k0, ir63_o0, ir63_r0, gz1, z1, gz2na, gz2nb, z3] at ez9
      simp only [go_sem, ir63, E_16_l1, R_16_l1, ir63_k0, ir63_o0, ir63_r0, gz1, z1, gz2na, gz2nb, z3, ez9]
 ·have gz1n := no_f gz1
  rcases or_t gz1n with gz1na | ⟨gz1na, gz1nb⟩
  ·try simp only [go_sem, n1, n2, n3, n4] at gz1na
   all_goals
   obtain ⟨z2, h⟩ := ck_some h
   rcases it_some h with ⟨z3, h⟩ | ⟨z3, h⟩
   ·try simp only [go_sem, n1, n2, n3, n4, gz1na] at z3
    all_goals
    obtain rfl := so_some h
    refine ⟨0, fun L hL => ?_⟩
    simp only [go_sem, ir63, E_16_l1, R_16_l1, ir63_k0, ir63_o0, ir63_r0, gz1na, z3]
   ·try simp only [go_sem, n1, n2, n3, n4, gz1na] at z3
    all_goals
    (simp_all)
  ·try simp only [go_sem, n1, n2, n3, n4] at gz1na
   all_goals
   try simp only [go_sem, n1, n2, n3, n4, gz1na] at gz1nb
   all_goals
   obtain ⟨z2, h⟩ := ck_some h
   rcases it_some h with ⟨z3, h⟩ | ⟨z3, h⟩
   ·try simp only [go_sem, n1, n2, n3, n4, gz1na, gz1nb] at z3
    all_goals
    obtain rfl := so_some h
    refine ⟨0, fun L hL => ?_⟩
    simp only [go_sem, ir63, E_16_l1, R_16_l1, ir63_k0, ir63_o0, ir63_r0, gz1na, gz1nb, z3]
   ·try simp only [go_sem, n1, n2, n3, n4, gz1na, gz1nb] at z3
    all_goals
    (simp_all)


def ir64_v : List Nat := [0, 2]
def ir64 : AFn := ⟨1, 2, .seq (.region false [ VO 1 2 (.mov (.c (.bool false)))]) (.seq (.region false [ PM 3 0, PO 4 (.call 27 [(.s 0), (.c (.int .i64 (-2000))), (I6 20000)]), VS 1 2 0]) (.ret)), [.t 1]⟩
noncomputable def t_17 : List (Nat × Ctr) := [(27, c_12)]
theorem lk_17_27 : look t_17 27 = some c_12 := rfl
noncomputable def c_17 : Ctr := mkF t_17 ir64 [.bor]
theorem s_17 : Sound Try.prog 64 c_17 := mkF_sound _ rfl (snd_cons s_12 snd_nil) (by kernel_rfl : chkFn Try.prog 64 ir64 ir64_v = true)
theorem M_17 : c_17.modes = [.bor] := rfl
theorem Fl_17 : c_17.flat = true := rfl
attribute [go_sem] M_17 Fl_17
attribute [go_sem] lk_17_27
theorem Fs_17 {m : Int} {y_ : Bool} (h : spec_l02Mag m = some y_) : c_17.F [.int .i64 m] = ⟨true, .bool y_, [.any]⟩ := by
 refine mkF_E rfl ?_
 dsimp only [spec_l02Mag] at h
 obtain ⟨y_1, z1, h⟩ := bd_some h
 have fz1 := Fs_12 z1
 try simp only [go_sem] at fz1
 obtain rfl := so_some h
 refine ⟨0, fun L hL => ?_⟩
 simp only [go_sem, ir64, fz1]


def ir42_v : List Nat := [0, 2]
def ir42 : AFn := ⟨1, 2, .seq (.region false [ VO 1 2 (.mov (.c (.bool false)))]) (.seq (.region false [ PM 3 0, PO 4 (.nilck (.s 0)), PO 5 (.fldAddr 0 (.s 0)), PO 6 (.load false 1 (.s 0)), PO 7 (.call 62 [(.s 0)]), PO 8 (.mov (.s 0)), ⟨.push, 9, (some ((.s 0), true)), .mov (.v 0)⟩, ⟨.push, 10, (some ((.s 1), true)), .nilck (.s 0)⟩, ⟨.push, 11, (some ((.s 2), true)), .fldAddr 1 (.s 0)⟩, ⟨.push, 12, (some ((.s 3), true)), .load false 1 (.s 0)⟩, ⟨.push, 13, (some ((.s 4), true)), .call 63 [(.s 0)]⟩, PO 14 (.pick (.s 5) (.s 0) (.c (.bool false))), PO 15 (.mov (.s 0)), ⟨.push, 16, (some ((.s 0),
 true)), .mov (.v 0)⟩, ⟨.push, 17, (some ((.s 1), true)), .nilck (.s 0)⟩, ⟨.push, 18, (some ((.s 2), true)), .fldAddr 2 (.s 0)⟩, ⟨.push, 19, (some ((.s 3), true)), .load false 1 (.s 0)⟩, ⟨.push, 20, (some ((.s 4), true)), .call 63 [(.s 0)]⟩, PO 21 (.pick (.s 5) (.s 0) (.c (.bool false))), PO 22 (.mov (.s 0)), ⟨.push, 23, (some ((.s 0), true)), .mov (.v 0)⟩, ⟨.push, 24, (some ((.s 1), true)), .nilck (.s 0)⟩, ⟨.push, 25, (some ((.s 2), true)), .fldAddr 3 (.s 0)⟩, ⟨.push, 26, (some ((.s 3), true)), .load false 1 (.s 0)⟩, ⟨.push, 27, (some ((.s 4), true)), .call 64 [(.s 0)]⟩, PO 28 (.pick (.s 5)
 (.s 0) (.c (.bool false))), VS 1 2 0]) (.ret)), [.t 1]⟩
noncomputable def t_18 : List (Nat × Ctr) := [(62, c_13), (63, c_16), (64, c_17)]
theorem lk_18_62 : look t_18 62 = some c_13 := rfl
theorem lk_18_63 : look t_18 63 = some c_16 := rfl
theorem lk_18_64 : look t_18 64 = some c_17 := rfl
noncomputable def c_18 : Ctr := mkF t_18 ir42 [.bor]
theorem s_18 : Sound Try.prog 42 c_18 := mkF_sound _ rfl (snd_cons s_13 (snd_cons s_16 (snd_cons s_17 snd_nil))) (by kernel_rfl : chkFn Try.prog 42 ir42 ir42_v = true)
theorem M_18 : c_18.modes = [.bor] := rfl
theorem Fl_18 : c_18.flat = true := rfl
attribute [go_sem] M_18 Fl_18
attribute [go_sem] lk_18_62 lk_18_63 lk_18_64
theorem Fs_18 {e_ : Estimate} {y_ : Bool} (h : spec_l06One e_ = some y_) : c_18.F [.ptr 5 [Estimate_av e_] 0 0] = ⟨true, .bool y_, [.any]⟩ := by
 refine mkF_E rfl ?_
 dsimp only [spec_l06One] at h
 obtain ⟨y_1, z1, h⟩ := bd_some h
 have fz1 := Fs_13 z1
 try simp only [go_sem] at fz1
 obtain ⟨z2, h⟩ := ck_some h
 rcases or_split z2 with ⟨gz2, z2⟩ | gz2
 ·try simp only [go_sem, n1, n2, n3, n4] at gz2
  all_goals
  obtain ⟨y_2, hz2⟩ := Option.isSome_iff_exists.1 z2
  have fz2 := Fs_16 hz2
  try simp only [go_sem, n1, n2, n3, n4, gz2] at hz2
  all_goals
  try simp only [go_sem, gz2] at fz2
  obtain ⟨z3, h⟩ := ck_some h
  rcases or_split z3 with ⟨gz3, z3⟩ | gz3
  ·try simp only [go_sem, n1, n2, n3, n4, gz2, hz2] at gz3
   all_goals
   obtain ⟨y_3, hz3⟩ := Option.isSome_iff_exists.1 z3
   have fz3 := Fs_16 hz3
   try simp only [go_sem, n1, n2, n3, n4, gz2, hz2, gz3] at hz3
   all_goals
   try simp only [go_sem, gz2, hz2, gz3] at fz3
   obtain ⟨z4, h⟩ := ck_some h
   rcases or_split z4 with ⟨gz4, z4⟩ | gz4
   ·try simp only [go_sem, n1, n2, n3, n4, gz2, hz2, gz3, hz3] at gz4
    all_goals
    obtain ⟨y_4, hz4⟩ := Option.isSome_iff_exists.1 z4
    have fz4 := Fs_17 hz4
    try simp only [go_sem, n1, n2, n3, n4, gz2, hz2, gz3, hz3, gz4] at hz4
    all_goals
    try simp only [go_sem, gz2, hz2, gz3, hz3, gz4] at fz4
    obtain rfl := so_some h
    refine ⟨0, fun L hL => ?_⟩
    simp only [go_sem, ir42, fz1, gz2, hz2, fz2, gz3, hz3, fz3, gz4, hz4, fz4]
   ·rcases and_f gz4 with gz4a | ⟨gz4a, gz4b⟩
    ·try simp only [go_sem, n1, n2, n3, n4, gz2, hz2, gz3, hz3] at gz4a
     all_goals
     (simp_all)
    ·obtain ⟨gz4aa, gz4ab⟩ := and_t gz4a
     try simp only [go_sem, n1, n2, n3, n4, gz2, hz2, gz3, hz3] at gz4aa
     all_goals
     try simp only [go_sem, n1, n2, n3, n4, gz2, hz2, gz3, hz3, gz4aa] at gz4ab
     all_goals
     try simp only [go_sem, n1, n2, n3, n4, gz2, hz2, gz3, hz3, gz4aa, gz4ab] at gz4b
     all_goals
     obtain rfl := so_some h
     refine ⟨0, fun L hL => ?_⟩
     simp only [go_sem, ir42, fz1, gz2, hz2, fz2, gz3, hz3, fz3, gz4aa, gz4ab, gz4b]
  ·rcases and_f gz3 with gz3a | ⟨gz3a, gz3b⟩
   ·try simp only [go_sem, n1, n2, n3, n4, gz2, hz2] at gz3a
    all_goals
    (simp_all)
   ·try simp only [go_sem, n1, n2, n3, n4, gz2, hz2] at gz3a
    all_goals
    try simp only [go_sem, n1, n2, n3, n4, gz2, hz2, gz3a] at gz3b
    all_goals
    obtain ⟨z4, h⟩ := ck_some h
    obtain rfl := so_some h
    refine ⟨0, fun L hL => ?_⟩
    simp only [go_sem, ir42, fz1, gz2, hz2, fz2, gz3a, gz3b]
 ·try simp only [go_sem, n1, n2, n3, n4] at gz2
  all_goals
  obtain ⟨z3, h⟩ := ck_some h
  obtain ⟨z4, h⟩ := ck_some h
  obtain rfl := so_some h
  refine ⟨0, fun L hL => ?_⟩
  simp only [go_sem, ir42, fz1, gz2]


def ir43_v : List Nat := [0, 1, 4]
def ir43 : AFn := ⟨2, 3, .seq (.region false [ VO 2 4 (.mov (.c (.bool false)))]) (.seq (.anyo 9 [ SO 0 5 (.mov (.v 0)), SO 1 6 (.nilck (.s 0)), SO 2 7 (.fldAddr 0 (.s 1)), SO 3 8 (.load false 1 (.s 2)), SO 4 9 (.mov (.v 1)), SO 5 10 (.nilck (.s 4)), SO 6 11 (.fldAddr 0 (.s 5)), SO 7 12 (.load false 1 (.s 6)), SO 8 13 (.bin false .neq (.s 3) (.s 7))] [] (.cond (.s 8) (.seq (.anyo 9 [ SO 0 14 (.mov (.v 0)), SO 1 15 (.nilck (.s 0)), SO 2 16 (.fldAddr 0 (.s 1)), SO 3 17 (.load false 1 (.s 2)), SO 4 18 (.mov (.v 1)), SO 5 19 (.nilck (.s 4)), SO 6 20 (.fldAddr 0 (.s 5)), SO 7 21 (.load false 1 (.s
 6)), SO 8 22 (.bin false .lss (.s 3) (.s 7)), VS 2 4 8] [] .skip) (.ret)) (.skip))) (.seq (.anyo 9 [ SO 0 23 (.mov (.v 0)), SO 1 24 (.nilck (.s 0)), SO 2 25 (.fldAddr 1 (.s 1)), SO 3 26 (.load false 1 (.s 2)), SO 4 27 (.mov (.v 1)), SO 5 28 (.nilck (.s 4)), SO 6 29 (.fldAddr 1 (.s 5)), SO 7 30 (.load false 1 (.s 6)), SO 8 31 (.bin false .neq (.s 3) (.s 7))] [] (.cond (.s 8) (.seq (.anyo 9 [ SO 0 32 (.mov (.v 0)), SO 1 33 (.nilck (.s 0)), SO 2 34 (.fldAddr 1 (.s 1)), SO 3 35 (.load false 1 (.s 2)), SO 4 36 (.mov (.v 1)), SO 5 37 (.nilck (.s 4)), SO 6 38 (.fldAddr 1 (.s 5)), SO 7 39 (.load false
 1 (.s 6)), SO 8 40 (.bin false .lss (.s 3) (.s 7)), VS 2 4 8] [] .skip) (.ret)) (.skip))) (.seq (.anyo 9 [ SO 0 41 (.mov (.v 0)), SO 1 42 (.nilck (.s 0)), SO 2 43 (.fldAddr 2 (.s 1)), SO 3 44 (.load false 1 (.s 2)), SO 4 45 (.mov (.v 1)), SO 5 46 (.nilck (.s 4)), SO 6 47 (.fldAddr 2 (.s 5)), SO 7 48 (.load false 1 (.s 6)), SO 8 49 (.bin false .lss (.s 3) (.s 7)), VS 2 4 8] [] .skip) (.ret)))), [.t 2]⟩
noncomputable def t_19 : List (Nat × Ctr) := []
noncomputable def c_19 : Ctr := mkF t_19 ir43 [.bor, .bor]
theorem s_19 : Sound Try.prog 43 c_19 := mkF_sound _ rfl snd_nil (by kernel_rfl : chkFn Try.prog 43 ir43 ir43_v = true)
theorem M_19 : c_19.modes = [.bor, .bor] := rfl
theorem Fl_19 : c_19.flat = true := rfl
attribute [go_sem] M_19 Fl_19
theorem Fs_19 {a : Estimate} {b : Estimate} {y_ : Bool} (h : spec_l06Before a b = some y_) : c_19.F [.ptr 5 [Estimate_av a] 0 0, .ptr 5 [Estimate_av b] 0 0] = ⟨true, .bool y_, [.any, .any]⟩ := by
 refine mkF_E rfl ?_
 dsimp only [spec_l06Before] at h
 rcases it_some h with ⟨z1, h⟩ | ⟨z1, h⟩
 ·try simp only [go_sem, n1, n2, n3, n4] at z1
  all_goals
  obtain rfl := so_some h
  refine ⟨0, fun L hL => ?_⟩
  simp only [go_sem, ir43, z1]
 ·try simp only [go_sem, n1, n2, n3, n4] at z1
  all_goals
  rcases it_some h with ⟨z2, h⟩ | ⟨z2, h⟩
  ·try simp only [go_sem, n1, n2, n3, n4, z1] at z2
   all_goals
   obtain rfl := so_some h
   refine ⟨0, fun L hL => ?_⟩
   simp only [go_sem, ir43, z1, z2]
  ·try simp only [go_sem, n1, n2, n3, n4, z1] at z2
   all_goals
   obtain rfl := so_some h
   refine ⟨0, fun L hL => ?_⟩
   simp only [go_sem, ir43, z1, z2]


def ir24_b0 : IR := .seq (.test false [ PM 4 2, PM 5 0, PO 6 (.len false (.s 0)), PO 7 (.bin false .lss (.s 2) (.s 0))] (.s 0) (.skip) (.exit 0)) (.seq (.block 1 (.anyo 20 [ SO 0 10 (.mov (.v 0)), SO 1 11 (.mov (.v 2)), SO 2 12 (.ixAddr 5 (.s 0) (.s 1)), SO 3 13 (.callp 42 [(.s 2)]), SO 4 14 (.un .not (.s 3)), SO 5 15 (.mov (.s 4)), ⟨.slot 6, 16, (some ((.s 5), false)), .mov (.v 2)⟩, ⟨.slot 7, 17, (some ((.s 5), false)), .bin false .gtr (.s 6) (I6 0)⟩, ⟨.slot 8, 18, (some ((.s 5), false)), .mov (.s 7)⟩, ⟨.slot 9, 19, (some ((.s 8), true)), .mov (.v 0)⟩, ⟨.slot 10, 20, (some ((.s 8), true)),
 .mov (.v 2)⟩, ⟨.slot 11, 21, (some ((.s 8), true)), .bin false .sub (.s 10) (I6 1)⟩, ⟨.slot 12, 22, (some ((.s 8), true)), .ixAddr 5 (.s 9) (.s 11)⟩, ⟨.slot 13, 23, (some ((.s 8), true)), .mov (.v 0)⟩, ⟨.slot 14, 24, (some ((.s 8), true)), .mov (.v 2)⟩, ⟨.slot 15, 25, (some ((.s 8), true)), .ixAddr 5 (.s 13) (.s 14)⟩, ⟨.slot 16, 26, (some ((.s 8), true)), .call 43 [(.s 12), (.s 15)]⟩, ⟨.slot 17, 27, (some ((.s 8), true)), .un .not (.s 16)⟩, ⟨.slot 18, 28, (some ((.s 5), false)), .pick (.s 8) (.s 17) (.c (.bool false))⟩, SO 19 29 (.pick (.s 5) (.c (.bool true)) (.s 18))] [] (.cond (.s 19) (.seq
 (.region false [ VO 1 2 (.mov (.c (.bool false)))]) (.ret)) (.skip)))) (.region false [ PM 8 2, PO 9 (.bin false .add (.s 0) (I6 1)), VS 2 3 0]))
def ir24_k0 : List Bool := [true, false, true]
def ir24_o0 : List Bool := [true, false, false]
def ir24_r0 : List Bool := [false, true, false]
def ir24_v : List Nat := [0, 2, 3]
def ir24 : AFn := ⟨1, 3, .seq (.region false [ VO 1 2 (.mov (.c (.bool false)))]) (.seq (.seq (.region false [ VO 2 3 (.mov (I6 0))]) (.block 0 (.loop ir24_k0 ir24_o0 ir24_r0 ir24_b0))) (.seq (.region false [ PM 30 0, PO 31 (.len false (.s 0)), PO 32 (.bin false .leq (.s 0) (I6 100)), VS 1 2 0]) (.ret))), [.t 1]⟩
noncomputable def t_20 : List (Nat × Ctr) := [(42, c_18), (43, c_19)]
theorem lk_20_42 : look t_20 42 = some c_18 := rfl
theorem lk_20_43 : look t_20 43 = some c_19 := rfl
noncomputable def c_20 : Ctr := mkF t_20 ir24 [.bor]
theorem s_20 : Sound Try.prog 24 c_20 := mkF_sound _ rfl (snd_cons s_18 (snd_cons s_19 snd_nil)) (by kernel_rfl : chkFn Try.prog 24 ir24 ir24_v = true)
theorem M_20 : c_20.modes = [.bor] := rfl
theorem Fl_20 : c_20.flat = true := rfl
attribute [go_sem] M_20 Fl_20
attribute [go_sem] lk_20_42 lk_20_43
def E_20_l1 (list : List Estimate) : Int → St
 | i => ⟨[.sl 5 (List.map Estimate_av list), .any, .int .i64 i], [], [], true⟩
def R_20_l1 (list : List Estimate) : (Unit ⊕ Bool) → Res
 | .inl y => (.exit 0, ⟨[.sl 5 (List.map Estimate_av list), .any, .any], [], [], true⟩)
 | .inr y => (.ret, ⟨[.any, .bool y, .any], [], [], true⟩)
theorem spec_l06Ok_l1_ex {list : List Estimate} {sgm_ : Int} {rho_ : Unit ⊕ Bool} (h : whileE (spec_l06Ok_l1 list) sgm_ = some rho_) : ∃ L0, ∀ L, L0 ≤ L → iter (exec (look t_20) L ir24_b0) ir24_k0 ir24_o0 ir24_r0 L (E_20_l1 list sgm_) = R_20_l1 list rho_ := by
 refine loop_ex (E := E_20_l1 list) (R := R_20_l1 list) (fun y => by first | (intro c; cases c) | (rcases y with y | y <;> (intro c; cases c)) | (rcases y with y | y | y <;> (intro c; cases c))) ?_ h
 clear h
 intro i o_ h
 dsimp only [spec_l06Ok_l1] at h
 rcases it_some h with ⟨z1, h⟩ | ⟨z1, h⟩
 ·try simp only [go_sem, n1, n2, n3, n4] at z1
  all_goals
  obtain ⟨z2, h⟩ := ck_some h
  have lz2 := ix_lt z2
  have xz2 := getD_mapD Estimate_av list lz2
  try simp only [go_sem] at lz2
  try simp only [go_sem] at xz2
  try simp only [go_sem, n1, n2, n3, n4, z1] at z2
  all_goals
  obtain ⟨y_3, z3, h⟩ := bd_some h
  have fz3 := Fs_18 z3
  try simp only [go_sem, z1, z2] at fz3
  obtain ⟨z4, h⟩ := ck_some h
  rcases or_split z4 with ⟨gz4, z4⟩ | gz4
  ·try simp only [go_sem, n1, n2, n3, n4, z1, z2] at gz4
   all_goals
   have lz4 := ix_lt z4
   have xz4 := getD_mapD Estimate_av list lz4
   try simp only [go_sem] at lz4
   try simp only [go_sem] at xz4
   try simp only [go_sem, n1, n2, n3, n4, z1, z2, gz4] at z4
   all_goals
   obtain ⟨z5, h⟩ := ck_some h
   rcases or_split z5 with ⟨gz5, z5⟩ | gz5
   ·try simp only [go_sem, n1, n2, n3, n4, z1, z2, gz4, z4] at gz5
    all_goals
    obtain ⟨y_5, hz5⟩ := Option.isSome_iff_exists.1 z5
    have fz5 := Fs_19 hz5
    try simp only [go_sem, n1, n2, n3, n4, z1, z2, gz4, z4, gz5] at hz5
    all_goals
    try simp only [go_sem, z1, z2, gz4, z4, gz5] at fz5
    rcases it_some h with ⟨z6, h⟩ | ⟨z6, h⟩
    ·try simp only [go_sem, n1, n2, n3, n4, z1, z2, gz4, z4, gz5, hz5] at z6
     all_goals
     obtain rfl := so_some h
     refine ⟨0, fun L hL => ?_⟩
     simp only [go_sem, ir24, E_20_l1, R_20_l1, ir24_b0, ir24_k0, ir24_o0, ir24_r0, z1, z2, lz2, xz2, fz3, gz4, z4, lz4, xz4, gz5, hz5, fz5, z6]
    ·try simp only [go_sem, n1, n2, n3, n4, z1, z2, gz4, z4, gz5, hz5] at z6
     all_goals
     obtain rfl := so_some h
     refine ⟨0, fun L hL => ?_⟩
     simp only [go_sem, ir24, E_20_l1, R_20_l1, ir24_b0, ir24_k0, ir24_o0, ir24_r0, z1, z2, lz2, xz2, fz3, gz4, z4, lz4, xz4, gz5, hz5, fz5, z6]
   ·rcases and_f gz5 with gz5a | ⟨gz5a, gz5b⟩
    ·try simp only [go_sem, n1, n2, n3, n4, z1, z2, gz4, z4] at gz5a
     all_goals
     (simp_all)
    ·have gz5an := no_t gz5a
     have gz5ann := no_f gz5an
     try simp only [go_sem, n1, n2, n3, n4, z1, z2, gz4, z4] at gz5ann
     all_goals
     try simp only [go_sem, n1, n2, n3, n4, z1, z2, gz4, z4, gz5ann] at gz5b
     all_goals
     rcases it_some h with ⟨z6, h⟩ | ⟨z6, h⟩
     ·try simp only [go_sem, n1, n2, n3, n4, z1, z2, gz4, z4, gz5ann, gz5b] at z6
      all_goals
      (simp_all)
     ·try simp only [go_sem, n1, n2, n3, n4, z1, z2, gz4, z4, gz5ann, gz5b] at z6
      all_goals
      obtain rfl := so_some h
      refine ⟨0, fun L hL => ?_⟩
      simp only [go_sem, ir24, E_20_l1, R_20_l1, ir24_b0, ir24_k0, ir24_o0, ir24_r0, z1, z2, lz2, xz2, fz3, gz4, z4, lz4, xz4, gz5ann, gz5b, z6]
  ·rcases and_f gz4 with gz4a | ⟨gz4a, gz4b⟩
   ·have gz4an := no_f gz4a
    have gz4ann := no_t gz4an
    try simp only [go_sem, n1, n2, n3, n4, z1, z2] at gz4ann
    all_goals
    obtain ⟨z5, h⟩ := ck_some h
    rcases it_some h with ⟨z6, h⟩ | ⟨z6, h⟩
    ·try simp only [go_sem, n1, n2, n3, n4, z1, z2, gz4ann] at z6
     all_goals
     obtain rfl := so_some h
     refine ⟨0, fun L hL => ?_⟩
     simp only [go_sem, ir24, E_20_l1, R_20_l1, ir24_b0, ir24_k0, ir24_o0, ir24_r0, z1, z2, lz2, xz2, fz3, gz4ann, z6]
    ·try simp only [go_sem, n1, n2, n3, n4, z1, z2, gz4ann] at z6
     all_goals
     (simp_all)
   ·have gz4an := no_t gz4a
    have gz4ann := no_f gz4an
    try simp only [go_sem, n1, n2, n3, n4, z1, z2] at gz4ann
    all_goals
    try simp only [go_sem, n1, n2, n3, n4, z1, z2, gz4ann] at gz4b
    all_goals
    obtain ⟨z5, h⟩ := ck_some h
    rcases it_some h with ⟨z6, h⟩ | ⟨z6, h⟩
    ·try simp only [go_sem, n1, n2, n3, n4, z1, z2, gz4ann, gz4b] at z6
     all_goals
     (simp_all)
    ·try simp only [go_sem, n1, n2, n3, n4, z1, z2, gz4ann, gz4b] at z6
     all_goals
     obtain rfl := so_some h
     refine ⟨0, fun L hL => ?_⟩
     simp only [go_sem, ir24, E_20_l1, R_20_l1, ir24_b0, ir24_k0, ir24_o0, ir24_r0, z1, z2, lz2, xz2, fz3, gz4ann, gz4b, z6]
 ·try simp only [go_sem, n1, n2, n3, n4] at z1
  all_goals
  obtain rfl := so_some h
  refine ⟨0, fun L hL => ?_⟩
  simp only [go_sem, ir24, E_20_l1, R_20_l1, ir24_b0, ir24_k0, ir24_o0, ir24_r0, z1]

theorem Fs_20 {list : List Estimate} {y_ : Bool} (h : spec_l06Ok list = some y_) : c_20.F [.sl 5 (List.map Estimate_av list)] = ⟨true, .bool y_, [.any]⟩ := by
 refine mkF_E rfl ?_
 dsimp only [spec_l06Ok] at h
 obtain ⟨y_7, z7, h⟩ := bd_some h
 obtain ⟨Lz7, ez7⟩ := spec_l06Ok_l1_ex z7
 rcases y_7 with y_7a | y_7b
 ·dsimp only at h
  obtain rfl := so_some h
  refine ⟨Lz7, fun L hL => ?_⟩
  have ez7 := ez7 L (by omega)
  try simp only [go_sem, E_20_l1, R_20_l1, ir24_k0, ir24_o0, ir24_r0] at ez7
  simp only [go_sem, ir24, E_20_l1, R_20_l1, ir24_k0, ir24_o0, ir24_r0, ez7]
 ·dsimp only at h
  obtain rfl := so_some h
  refine ⟨Lz7, fun L hL => ?_⟩
  have ez7 := ez7 L (by omega)
  try simp only [go_sem, E_20_l1, R_20_l1, ir24_k0, ir24_o0, ir24_r0] at ez7
  simp only [go_sem, ir24, E_20_l1, R_20_l1, ir24_k0, ir24_o0, ir24_r0, ez7]


def ir65_v : List Nat := [0, 2]
def ir65 : AFn := ⟨1, 2, .seq (.region false [ VO 1 2 (.mov (.c (.bool false)))]) (.seq (.region false [ PM 3 0, PO 4 (.call 27 [(.s 0), (I6 0), (I6 86399)]), VS 1 2 0]) (.ret)), [.t 1]⟩
noncomputable def t_21 : List (Nat × Ctr) := [(27, c_12)]
theorem lk_21_27 : look t_21 27 = some c_12 := rfl
noncomputable def c_21 : Ctr := mkF t_21 ir65 [.bor]
theorem s_21 : Sound Try.prog 65 c_21 := mkF_sound _ rfl (snd_cons s_12 snd_nil) (by kernel_rfl : chkFn Try.prog 65 ir65 ir65_v = true)
theorem M_21 : c_21.modes = [.bor] := rfl
theorem Fl_21 : c_21.flat = true := rfl
attribute [go_sem] M_21 Fl_21
attribute [go_sem] lk_21_27
theorem Fs_21 {n : Int} {y_ : Bool} (h : spec_l04Ascend n = some y_) : c_21.F [.int .i64 n] = ⟨true, .bool y_, [.any]⟩ := by
 refine mkF_E rfl ?_
 dsimp only [spec_l04Ascend] at h
 obtain ⟨y_1, z1, h⟩ := bd_some h
 have fz1 := Fs_12 z1
 try simp only [go_sem] at fz1
 obtain rfl := so_some h
 refine ⟨0, fun L hL => ?_⟩
 simp only [go_sem, ir65, fz1]


def ir66_v : List Nat := [0, 2]
def ir66 : AFn := ⟨1, 2, .seq (.region false [ VO 1 2 (.mov (.c (.bool false)))]) (.seq (.region false [ PM 3 0, PO 4 (.call 27 [(.s 0), (.c (.int .i64 (-324000))), (I6 324000)]), VS 1 2 0]) (.ret)), [.t 1]⟩
noncomputable def t_22 : List (Nat × Ctr) := [(27, c_12)]
theorem lk_22_27 : look t_22 27 = some c_12 := rfl
noncomputable def c_22 : Ctr := mkF t_22 ir66 [.bor]
theorem s_22 : Sound Try.prog 66 c_22 := mkF_sound _ rfl (snd_cons s_12 snd_nil) (by kernel_rfl : chkFn Try.prog 66 ir66 ir66_v = true)
theorem M_22 : c_22.modes = [.bor] := rfl
theorem Fl_22 : c_22.flat = true := rfl
attribute [go_sem] M_22 Fl_22
attribute [go_sem] lk_22_27
theorem Fs_22 {n : Int} {y_ : Bool} (h : spec_l04Decl n = some y_) : c_22.F [.int .i64 n] = ⟨true, .bool y_, [.any]⟩ := by
 refine mkF_E rfl ?_
 dsimp only [spec_l04Decl] at h
 obtain ⟨y_1, z1, h⟩ := bd_some h
 have fz1 := Fs_12 z1
 try simp only [go_sem] at fz1
 obtain rfl := so_some h
 refine ⟨0, fun L hL => ?_⟩
 simp only [go_sem, ir66, fz1]


def ir44_v : List Nat := [0, 2]
def ir44 : AFn := ⟨1, 2, .seq (.region false [ VO 1 2 (.mov (.c (.bool false)))]) (.seq (.anyo 44 [ SO 0 3 (.mov (.v 0)), SO 1 4 (.nilck (.s 0)), SO 2 5 (.fldAddr 0 (.s 1)), SO 3 6 (.load false 1 (.s 2)), SO 4 7 (.callp 63 [(.s 3)]), SO 5 8 (.mov (.s 4)), ⟨.slot 6, 9, (some ((.s 5), true)), .mov (.v 0)⟩, ⟨.slot 7, 10, (some ((.s 5), true)), .nilck (.s 6)⟩, ⟨.slot 8, 11, (some ((.s 5), true)), .fldAddr 1 (.s 7)⟩, ⟨.slot 9, 12, (some ((.s 5), true)), .load false 1 (.s 8)⟩, ⟨.slot 10, 13, (some ((.s 5), true)), .call 65 [(.s 9)]⟩, SO 11 14 (.pick (.s 5) (.s 10) (.c (.bool false))), SO 12 15 (.mov
 (.s 11)), ⟨.slot 13, 16, (some ((.s 12), true)), .mov (.v 0)⟩, ⟨.slot 14, 17, (some ((.s 12), true)), .nilck (.s 13)⟩, ⟨.slot 15, 18, (some ((.s 12), true)), .fldAddr 2 (.s 14)⟩, ⟨.slot 16, 19, (some ((.s 12), true)), .load false 1 (.s 15)⟩, ⟨.slot 17, 20, (some ((.s 12), true)), .call 66 [(.s 16)]⟩, SO 18 21 (.pick (.s 12) (.s 17) (.c (.bool false))), SO 19 22 (.mov (.s 18)), ⟨.slot 20, 23, (some ((.s 19), true)), .mov (.v 0)⟩, ⟨.slot 21, 24, (some ((.s 19), true)), .nilck (.s 20)⟩, ⟨.slot 22, 25, (some ((.s 19), true)), .fldAddr 3 (.s 21)⟩, ⟨.slot 23, 26, (some ((.s 19), true)), .load false
 1 (.s 22)⟩, ⟨.slot 24, 27, (some ((.s 19), true)), .call 64 [(.s 23)]⟩, SO 25 28 (.pick (.s 19) (.s 24) (.c (.bool false))), SO 26 29 (.mov (.s 25)), ⟨.slot 27, 30, (some ((.s 26), true)), .mov (.v 0)⟩, ⟨.slot 28, 31, (some ((.s 26), true)), .nilck (.s 27)⟩, ⟨.slot 29, 32, (some ((.s 26), true)), .fldAddr 4 (.s 28)⟩, ⟨.slot 30, 33, (some ((.s 26), true)), .load false 1 (.s 29)⟩, ⟨.slot 31, 34, (some ((.s 26), true)), .call 64 [(.s 30)]⟩, SO 32 35 (.pick (.s 26) (.s 31) (.c (.bool false))), SO 33 36 (.mov (.s 32)), ⟨.slot 34, 37, (some ((.s 33), true)), .mov (.v 0)⟩, ⟨.slot 35, 38, (some ((.s
 33), true)), .nilck (.s 34)⟩, ⟨.slot 36, 39, (some ((.s 33), true)), .fldAddr 3 (.s 35)⟩, ⟨.slot 37, 40, (some ((.s 33), true)), .load false 1 (.s 36)⟩, ⟨.slot 38, 41, (some ((.s 33), true)), .mov (.v 0)⟩, ⟨.slot 39, 42, (some ((.s 33), true)), .nilck (.s 38)⟩, ⟨.slot 40, 43, (some ((.s 33), true)), .fldAddr 4 (.s 39)⟩, ⟨.slot 41, 44, (some ((.s 33), true)), .load false 1 (.s 40)⟩, ⟨.slot 42, 45, (some ((.s 33), true)), .bin false .leq (.s 37) (.s 41)⟩, SO 43 46 (.pick (.s 33) (.s 42) (.c (.bool false))), VS 1 2 43] [] .skip) (.ret)), [.t 1]⟩
noncomputable def t_23 : List (Nat × Ctr) := [(63, c_16), (65, c_21), (66, c_22), (64, c_17)]
theorem lk_23_63 : look t_23 63 = some c_16 := rfl
theorem lk_23_65 : look t_23 65 = some c_21 := rfl
theorem lk_23_66 : look t_23 66 = some c_22 := rfl
theorem lk_23_64 : look t_23 64 = some c_17 := rfl
noncomputable def c_23 : Ctr := mkF t_23 ir44 [.bor]
theorem s_23 : Sound Try.prog 44 c_23 := mkF_sound _ rfl (snd_cons s_16 (snd_cons s_21 (snd_cons s_22 (snd_cons s_17 snd_nil)))) (by kernel_rfl : chkFn Try.prog 44 ir44 ir44_v = true)
theorem M_23 : c_23.modes = [.bor] := rfl
theorem Fl_23 : c_23.flat = true := rfl
attribute [go_sem] M_23 Fl_23
attribute [go_sem] lk_23_63 lk_23_65 lk_23_66 lk_23_64
theorem Fs_23 {x : Star} {y_ : Bool} (h : spec_l04One x = some y_) : c_23.F [.ptr 5 [Star_av x] 0 0] = ⟨true, .bool y_, [.any]⟩ := by
 refine mkF_E rfl ?_
 dsimp only [spec_l04One] at h
 obtain ⟨y_1, z1, h⟩ := bd_some h
 have fz1 := Fs_16 z1
 try simp only [go_sem] at fz1
 obtain ⟨z2, h⟩ := ck_some h
 rcases or_split z2 with ⟨gz2, z2⟩ | gz2
 ·try simp only [go_sem, n1, n2, n3, n4] at gz2
  all_goals
  obtain ⟨y_2, hz2⟩ := Option.isSome_iff_exists.1 z2
  have fz2 := Fs_21 hz2
  try simp only [go_sem, n1, n2, n3, n4, gz2] at hz2
  all_goals
  try simp only [go_sem, gz2] at fz2
  obtain ⟨z3, h⟩ := ck_some h
  rcases or_split z3 with ⟨gz3, z3⟩ | gz3
  ·try simp only [go_sem, n1, n2, n3, n4, gz2, hz2] at gz3
   all_goals
   obtain ⟨y_3, hz3⟩ := Option.isSome_iff_exists.1 z3
   have fz3 := Fs_22 hz3
   try simp only [go_sem, n1, n2, n3, n4, gz2, hz2, gz3] at hz3
   all_goals
   try simp only [go_sem, gz2, hz2, gz3] at fz3
   obtain ⟨z4, h⟩ := ck_some h
   rcases or_split z4 with ⟨gz4, z4⟩ | gz4
   ·try simp only [go_sem, n1, n2, n3, n4, gz2, hz2, gz3, hz3] at gz4
    all_goals
    obtain ⟨y_4, hz4⟩ := Option.isSome_iff_exists.1 z4
    have fz4 := Fs_17 hz4
    try simp only [go_sem, n1, n2, n3, n4, gz2, hz2, gz3, hz3, gz4] at hz4
    all_goals
    try simp only [go_sem, gz2, hz2, gz3, hz3, gz4] at fz4
    obtain ⟨z5, h⟩ := ck_some h
    rcases or_split z5 with ⟨gz5, z5⟩ | gz5
    ·try simp only [go_sem, n1, n2, n3, n4, gz2, hz2, gz3, hz3, gz4, hz4] at gz5
     all_goals
     obtain ⟨y_5, hz5⟩ := Option.isSome_iff_exists.1 z5
     have fz5 := Fs_17 hz5
     try simp only [go_sem, n1, n2, n3, n4, gz2, hz2, gz3, hz3, gz4, hz4, gz5] at hz5
     all_goals
     try simp only [go_sem, gz2, hz2, gz3, hz3, gz4, hz4, gz5] at fz5
     obtain rfl := so_some h
     refine ⟨0, fun L hL => ?_⟩
     simp only [go_sem, ir44, fz1, gz2, hz2, fz2, gz3, hz3, fz3, gz4, hz4, fz4, gz5, hz5, fz5]
    ·rcases and_f gz5 with gz5a | ⟨gz5a, gz5b⟩
     ·try simp only [go_sem, n1, n2, n3, n4, gz2, hz2, gz3, hz3, gz4, hz4] at gz5a
      all_goals
      (simp_all)
     ·obtain ⟨gz5aa, gz5ab⟩ := and_t gz5a
      obtain ⟨gz5aaa, gz5aab⟩ := and_t gz5aa
      try simp only [go_sem, n1, n2, n3, n4, gz2, hz2, gz3, hz3, gz4, hz4] at gz5aaa
      all_goals
      try simp only [go_sem, n1, n2, n3, n4, gz2, hz2, gz3, hz3, gz4, hz4, gz5aaa] at gz5aab
      all_goals
      try simp only [go_sem, n1, n2, n3, n4, gz2, hz2, gz3, hz3, gz4, hz4, gz5aaa, gz5aab] at gz5ab
      all_goals
      try simp only [go_sem, n1, n2, n3, n4, gz2, hz2, gz3, hz3, gz4, hz4, gz5aaa, gz5aab, gz5ab] at gz5b
      all_goals
      obtain rfl := so_some h
      refine ⟨0, fun L hL => ?_⟩
      simp only [go_sem, ir44, fz1, gz2, hz2, fz2, gz3, hz3, fz3, gz4, hz4, fz4, gz5aaa, gz5aab, gz5ab, gz5b]
   ·rcases and_f gz4 with gz4a | ⟨gz4a, gz4b⟩
    ·try simp only [go_sem, n1, n2, n3, n4, gz2, hz2, gz3, hz3] at gz4a
     all_goals
     (simp_all)
    ·obtain ⟨gz4aa, gz4ab⟩ := and_t gz4a
     try simp only [go_sem, n1, n2, n3, n4, gz2, hz2, gz3, hz3] at gz4aa
     all_goals
     try simp only [go_sem, n1, n2, n3, n4, gz2, hz2, gz3, hz3, gz4aa] at gz4ab
     all_goals
     try simp only [go_sem, n1, n2, n3, n4, gz2, hz2, gz3, hz3, gz4aa, gz4ab] at gz4b
     all_goals
     obtain ⟨z5, h⟩ := ck_some h
     obtain rfl := so_some h
     refine ⟨0, fun L hL => ?_⟩
     simp only [go_sem, ir44, fz1, gz2, hz2, fz2, gz3, hz3, fz3, gz4aa, gz4ab, gz4b]
  ·rcases and_f gz3 with gz3a | ⟨gz3a, gz3b⟩
   ·try simp only [go_sem, n1, n2, n3, n4, gz2, hz2] at gz3a
    all_goals
    (simp_all)
   ·try simp only [go_sem, n1, n2, n3, n4, gz2, hz2] at gz3a
    all_goals
    try simp only [go_sem, n1, n2, n3, n4, gz2, hz2, gz3a] at gz3b
    all_goals
    obtain ⟨z4, h⟩ := ck_some h
    obtain ⟨z5, h⟩ := ck_some h
    obtain rfl := so_some h
    refine ⟨0, fun L hL => ?_⟩
    simp only [go_sem, ir44, fz1, gz2, hz2, fz2, gz3a, gz3b]
 ·try simp only [go_sem, n1, n2, n3, n4] at gz2
  all_goals
  obtain ⟨z3, h⟩ := ck_some h
  obtain ⟨z4, h⟩ := ck_some h
  obtain ⟨z5, h⟩ := ck_some h
  obtain rfl := so_some h
  refine ⟨0, fun L hL => ?_⟩
  simp only [go_sem, ir44, fz1, gz2]


def ir25_b0 : IR := .seq (.test false [ PM 4 2, PM 5 0, PO 6 (.len false (.s 0)), PO 7 (.bin false .lss (.s 2) (.s 0))] (.s 0) (.skip) (.exit 0)) (.seq (.block 1 (.anyo 23 [ SO 0 10 (.mov (.v 0)), SO 1 11 (.mov (.v 2)), SO 2 12 (.ixAddr 5 (.s 0) (.s 1)), SO 3 13 (.callp 44 [(.s 2)]), SO 4 14 (.un .not (.s 3)), SO 5 15 (.mov (.s 4)), ⟨.slot 6, 16, (some ((.s 5), false)), .mov (.v 2)⟩, ⟨.slot 7, 17, (some ((.s 5), false)), .bin false .gtr (.s 6) (I6 0)⟩, ⟨.slot 8, 18, (some ((.s 5), false)), .mov (.s 7)⟩, ⟨.slot 9, 19, (some ((.s 8), true)), .mov (.v 0)⟩, ⟨.slot 10, 20, (some ((.s 8), true)),
 .mov (.v 2)⟩, ⟨.slot 11, 21, (some ((.s 8), true)), .bin false .sub (.s 10) (I6 1)⟩, ⟨.slot 12, 22, (some ((.s 8), true)), .ixAddr 5 (.s 9) (.s 11)⟩, ⟨.slot 13, 23, (some ((.s 8), true)), .fldAddr 0 (.s 12)⟩, ⟨.slot 14, 24, (some ((.s 8), true)), .load false 1 (.s 13)⟩, ⟨.slot 15, 25, (some ((.s 8), true)), .mov (.v 0)⟩, ⟨.slot 16, 26, (some ((.s 8), true)), .mov (.v 2)⟩, ⟨.slot 17, 27, (some ((.s 8), true)), .ixAddr 5 (.s 15) (.s 16)⟩, ⟨.slot 18, 28, (some ((.s 8), true)), .fldAddr 0 (.s 17)⟩, ⟨.slot 19, 29, (some ((.s 8), true)), .load false 1 (.s 18)⟩, ⟨.slot 20, 30, (some ((.s 8), true)),
 .bin false .geq (.s 14) (.s 19)⟩, ⟨.slot 21, 31, (some ((.s 5), false)), .pick (.s 8) (.s 20) (.c (.bool false))⟩, SO 22 32 (.pick (.s 5) (.c (.bool true)) (.s 21))] [] (.cond (.s 22) (.seq (.region false [ VO 1 2 (.mov (.c (.bool false)))]) (.ret)) (.skip)))) (.region false [ PM 8 2, PO 9 (.bin false .add (.s 0) (I6 1)), VS 2 3 0]))
def ir25_k0 : List Bool := [true, false, true]
def ir25_o0 : List Bool := [true, false, false]
def ir25_r0 : List Bool := [false, true, false]
def ir25_v : List Nat := [0, 2, 3]
def ir25 : AFn := ⟨1, 3, .seq (.region false [ VO 1 2 (.mov (.c (.bool false)))]) (.seq (.seq (.region false [ VO 2 3 (.mov (I6 0))]) (.block 0 (.loop ir25_k0 ir25_o0 ir25_r0 ir25_b0))) (.seq (.region false [ PM 33 0, PO 34 (.len false (.s 0)), PO 35 (.bin false .leq (.s 0) (I6 60)), VS 1 2 0]) (.ret))), [.t 1]⟩
noncomputable def t_24 : List (Nat × Ctr) := [(44, c_23)]
theorem lk_24_44 : look t_24 44 = some c_23 := rfl
noncomputable def c_24 : Ctr := mkF t_24 ir25 [.bor]
theorem s_24 : Sound Try.prog 25 c_24 := mkF_sound _ rfl (snd_cons s_23 snd_nil) (by kernel_rfl : chkFn Try.prog 25 ir25 ir25_v = true)
theorem M_24 : c_24.modes = [.bor] := rfl
theorem Fl_24 : c_24.flat = true := rfl
attribute [go_sem] M_24 Fl_24
attribute [go_sem] lk_24_44
def E_24_l1 (list : List Star) : Int → St
 | i => ⟨[.sl 5 (List.map Star_av list), .any, .int .i64 i], [], [], true⟩
def R_24_l1 (list : List Star) : (Unit ⊕ Bool) → Res
 | .inl y => (.exit 0, ⟨[.sl 5 (List.map Star_av list), .any, .any], [], [], true⟩)
 | .inr y => (.ret, ⟨[.any, .bool y, .any], [], [], true⟩)
theorem spec_l04Ok_l1_ex {list : List Star} {sgm_ : Int} {rho_ : Unit ⊕ Bool} (h : whileE (spec_l04Ok_l1 list) sgm_ = some rho_) : ∃ L0, ∀ L, L0 ≤ L → iter (exec (look t_24) L ir25_b0) ir25_k0 ir25_o0 ir25_r0 L (E_24_l1 list sgm_) = R_24_l1 list rho_ := by
 refine loop_ex (E := E_24_l1 list) (R := R_24_l1 list) (fun y => by first | (intro c; cases c) | (rcases y with y | y <;> (intro c; cases c)) | (rcases y with y | y | y <;> (intro c; cases c))) ?_ h
 clear h
 intro i o_ h
 dsimp only [spec_l04Ok_l1] at h
 rcases it_some h with ⟨z1, h⟩ | ⟨z1, h⟩
 ·try simp only [go_sem, n1, n2, n3, n4] at z1
  all_goals
  obtain ⟨z2, h⟩ := ck_some h
  have lz2 := ix_lt z2
  have xz2 := getD_mapD Star_av list lz2
  try simp only [go_sem] at lz2
  try simp only [go_sem] at xz2
  try simp only [go_sem, n1, n2, n3, n4, z1] at z2
  all_goals
  obtain ⟨y_3, z3, h⟩ := bd_some h
  have fz3 := Fs_23 z3
  try simp only [go_sem, z1, z2] at fz3
  obtain ⟨z4, h⟩ := ck_some h
  rcases or_split z4 with ⟨gz4, z4⟩ | gz4
  ·try simp only [go_sem, n1, n2, n3, n4, z1, z2] at gz4
   all_goals
   have lz4 := ix_lt z4
   have xz4 := getD_mapD Star_av list lz4
   try simp only [go_sem] at lz4
   try simp only [go_sem] at xz4
   try simp only [go_sem, n1, n2, n3, n4, z1, z2, gz4] at z4
   all_goals
   rcases it_some h with ⟨z5, h⟩ | ⟨z5, h⟩
   ·try simp only [go_sem, n1, n2, n3, n4, z1, z2, gz4, z4] at z5
    all_goals
    obtain rfl := so_some h
    refine ⟨0, fun L hL => ?_⟩
    simp only [go_sem, ir25, E_24_l1, R_24_l1, ir25_b0, ir25_k0, ir25_o0, ir25_r0, z1, z2, lz2, xz2, fz3, gz4, z4, lz4, xz4, z5]
   ·try simp only [go_sem, n1, n2, n3, n4, z1, z2, gz4, z4] at z5
    all_goals
    obtain rfl := so_some h
    refine ⟨0, fun L hL => ?_⟩
    simp only [go_sem, ir25, E_24_l1, R_24_l1, ir25_b0, ir25_k0, ir25_o0, ir25_r0, z1, z2, lz2, xz2, fz3, gz4, z4, lz4, xz4, z5]
  ·rcases and_f gz4 with gz4a | ⟨gz4a, gz4b⟩
   ·have gz4an := no_f gz4a
    have gz4ann := no_t gz4an
    try simp only [go_sem, n1, n2, n3, n4, z1, z2] at gz4ann
    all_goals
    rcases it_some h with ⟨z5, h⟩ | ⟨z5, h⟩
    ·try simp only [go_sem, n1, n2, n3, n4, z1, z2, gz4ann] at z5
     all_goals
     obtain rfl := so_some h
     refine ⟨0, fun L hL => ?_⟩
     simp only [go_sem, ir25, E_24_l1, R_24_l1, ir25_b0, ir25_k0, ir25_o0, ir25_r0, z1, z2, lz2, xz2, fz3, gz4ann, z5]
    ·try simp only [go_sem, n1, n2, n3, n4, z1, z2, gz4ann] at z5
     all_goals
     (simp_all)
   ·have gz4an := no_t gz4a
    have gz4ann := no_f gz4an
    try simp only [go_sem, n1, n2, n3, n4, z1, z2] at gz4ann
    all_goals
    try simp only [go_sem, n1, n2, n3, n4, z1, z2, gz4ann] at gz4b
    all_goals
    rcases it_some h with ⟨z5, h⟩ | ⟨z5, h⟩
    ·try simp only [go_sem, n1, n2, n3, n4, z1, z2, gz4ann, gz4b] at z5
     all_goals
     (simp_all)
    ·try simp only [go_sem, n1, n2, n3, n4, z1, z2, gz4ann, gz4b] at z5
     all_goals
     obtain rfl := so_some h
     refine ⟨0, fun L hL => ?_⟩
     simp only [go_sem, ir25, E_24_l1, R_24_l1, ir25_b0, ir25_k0, ir25_o0, ir25_r0, z1, z2, lz2, xz2, fz3, gz4ann, gz4b, z5]
 ·try simp only [go_sem, n1, n2, n3, n4] at z1
  all_goals
  obtain rfl := so_some h
  refine ⟨0, fun L hL => ?_⟩
  simp only [go_sem, ir25, E_24_l1, R_24_l1, ir25_b0, ir25_k0, ir25_o0, ir25_r0, z1]

theorem Fs_24 {list : List Star} {y_ : Bool} (h : spec_l04Ok list = some y_) : c_24.F [.sl 5 (List.map Star_av list)] = ⟨true, .bool y_, [.any]⟩ := by
 refine mkF_E rfl ?_
 dsimp only [spec_l04Ok] at h
 obtain ⟨y_6, z6, h⟩ := bd_some h
 obtain ⟨Lz6, ez6⟩ := spec_l04Ok_l1_ex z6
 rcases y_6 with y_6a | y_6b
 ·dsimp only at h
  obtain rfl := so_some h
  refine ⟨Lz6, fun L hL => ?_⟩
  have ez6 := ez6 L (by omega)
  try simp only [go_sem, E_24_l1, R_24_l1, ir25_k0, ir25_o0, ir25_r0] at ez6
  simp only [go_sem, ir25, E_24_l1, R_24_l1, ir25_k0, ir25_o0, ir25_r0, ez6]
 ·dsimp only at h
  obtain rfl := so_some h
  refine ⟨Lz6, fun L hL => ?_⟩
  have ez6 := ez6 L (by omega)
  try simp only [go_sem, E_24_l1, R_24_l1, ir25_k0, ir25_o0, ir25_r0] at ez6
  simp only [go_sem, ir25, E_24_l1, R_24_l1, ir25_k0, ir25_o0, ir25_r0, ez6]


def ir45_v : List Nat := [0, 2]
def ir45 : AFn := ⟨1, 2, .seq (.region false [ VO 1 2 (.mov (.c (.bool false)))]) (.seq (.region false [ PM 3 0, PO 4 (.nilck (.s 0)), PO 5 (.fldAddr 0 (.s 0)), PO 6 (.load false 1 (.s 0)), PO 7 (.call 63 [(.s 0)]), PO 8 (.mov (.s 0)), ⟨.push, 9, (some ((.s 0), true)), .mov (.v 0)⟩, ⟨.push, 10, (some ((.s 1), true)), .nilck (.s 0)⟩, ⟨.push, 11, (some ((.s 2), true)), .fldAddr 1 (.s 0)⟩, ⟨.push, 12, (some ((.s 3), true)), .load false 1 (.s 0)⟩, ⟨.push, 13, (some ((.s 4), true)), .call 27 [(.s 0), (.c (.int .i64 (-2000))), (I6 2000)]⟩, PO 14 (.pick (.s 5) (.s 0) (.c (.bool false))), VS 1 2 0])
 (.ret)), [.t 1]⟩
noncomputable def t_25 : List (Nat × Ctr) := [(63, c_16), (27, c_12)]
theorem lk_25_63 : look t_25 63 = some c_16 := rfl
theorem lk_25_27 : look t_25 27 = some c_12 := rfl
noncomputable def c_25 : Ctr := mkF t_25 ir45 [.bor]
theorem s_25 : Sound Try.prog 45 c_25 := mkF_sound _ rfl (snd_cons s_16 (snd_cons s_12 snd_nil)) (by kernel_rfl : chkFn Try.prog 45 ir45 ir45_v = true)
theorem M_25 : c_25.modes = [.bor] := rfl
theorem Fl_25 : c_25.flat = true := rfl
attribute [go_sem] M_25 Fl_25
attribute [go_sem] lk_25_63 lk_25_27
theorem Fs_25 {x : Observer} {y_ : Bool} (h : spec_l05One x = some y_) : c_25.F [.ptr 2 [Observer_av x] 0 0] = ⟨true, .bool y_, [.any]⟩ := by
 refine mkF_E rfl ?_
 dsimp only [spec_l05One] at h
 obtain ⟨y_1, z1, h⟩ := bd_some h
 have fz1 := Fs_16 z1
 try simp only [go_sem] at fz1
 obtain ⟨z2, h⟩ := ck_some h
 rcases or_split z2 with ⟨gz2, z2⟩ | gz2
 ·try simp only [go_sem, n1, n2, n3, n4] at gz2
  all_goals
  obtain ⟨y_2, hz2⟩ := Option.isSome_iff_exists.1 z2
  have fz2 := Fs_12 hz2
  try simp only [go_sem, n1, n2, n3, n4, gz2] at hz2
  all_goals
  try simp only [go_sem, gz2] at fz2
  obtain rfl := so_some h
  refine ⟨0, fun L hL => ?_⟩
  simp only [go_sem, ir45, fz1, gz2, hz2, fz2]
 ·try simp only [go_sem, n1, n2, n3, n4] at gz2
  all_goals
  obtain rfl := so_some h
  refine ⟨0, fun L hL => ?_⟩
  simp only [go_sem, ir45, fz1, gz2]


def ir26_b0 : IR := .seq (.test false [ PM 4 2, PM 5 0, PO 6 (.len false (.s 0)), PO 7 (.bin false .lss (.s 2) (.s 0))] (.s 0) (.skip) (.exit 0)) (.seq (.block 1 (.anyo 23 [ SO 0 10 (.mov (.v 0)), SO 1 11 (.mov (.v 2)), SO 2 12 (.ixAddr 2 (.s 0) (.s 1)), SO 3 13 (.callp 45 [(.s 2)]), SO 4 14 (.un .not (.s 3)), SO 5 15 (.mov (.s 4)), ⟨.slot 6, 16, (some ((.s 5), false)), .mov (.v 2)⟩, ⟨.slot 7, 17, (some ((.s 5), false)), .bin false .gtr (.s 6) (I6 0)⟩, ⟨.slot 8, 18, (some ((.s 5), false)), .mov (.s 7)⟩, ⟨.slot 9, 19, (some ((.s 8), true)), .mov (.v 0)⟩, ⟨.slot 10, 20, (some ((.s 8), true)),
 .mov (.v 2)⟩, ⟨.slot 11, 21, (some ((.s 8), true)), .bin false .sub (.s 10) (I6 1)⟩, ⟨.slot 12, 22, (some ((.s 8), true)), .ixAddr 2 (.s 9) (.s 11)⟩, ⟨.slot 13, 23, (some ((.s 8), true)), .fldAddr 0 (.s 12)⟩, ⟨.slot 14, 24, (some ((.s 8), true)), .load false 1 (.s 13)⟩, ⟨.slot 15, 25, (some ((.s 8), true)), .mov (.v 0)⟩, ⟨.slot 16, 26, (some ((.s 8), true)), .mov (.v 2)⟩, ⟨.slot 17, 27, (some ((.s 8), true)), .ixAddr 2 (.s 15) (.s 16)⟩, ⟨.slot 18, 28, (some ((.s 8), true)), .fldAddr 0 (.s 17)⟩, ⟨.slot 19, 29, (some ((.s 8), true)), .load false 1 (.s 18)⟩, ⟨.slot 20, 30, (some ((.s 8), true)),
 .bin false .geq (.s 14) (.s 19)⟩, ⟨.slot 21, 31, (some ((.s 5), false)), .pick (.s 8) (.s 20) (.c (.bool false))⟩, SO 22 32 (.pick (.s 5) (.c (.bool true)) (.s 21))] [] (.cond (.s 22) (.seq (.region false [ VO 1 2 (.mov (.c (.bool false)))]) (.ret)) (.skip)))) (.region false [ PM 8 2, PO 9 (.bin false .add (.s 0) (I6 1)), VS 2 3 0]))
def ir26_k0 : List Bool := [true, false, true]
def ir26_o0 : List Bool := [true, false, false]
def ir26_r0 : List Bool := [false, true, false]
def ir26_v : List Nat := [0, 2, 3]
def ir26 : AFn := ⟨1, 3, .seq (.region false [ VO 1 2 (.mov (.c (.bool false)))]) (.seq (.seq (.region false [ VO 2 3 (.mov (I6 0))]) (.block 0 (.loop ir26_k0 ir26_o0 ir26_r0 ir26_b0))) (.seq (.region false [ PM 33 0, PO 34 (.len false (.s 0)), PO 35 (.bin false .leq (.s 0) (I6 40)), VS 1 2 0]) (.ret))), [.t 1]⟩
noncomputable def t_26 : List (Nat × Ctr) := [(45, c_25)]
theorem lk_26_45 : look t_26 45 = some c_25 := rfl
noncomputable def c_26 : Ctr := mkF t_26 ir26 [.bor]
theorem s_26 : Sound Try.prog 26 c_26 := mkF_sound _ rfl (snd_cons s_25 snd_nil) (by kernel_rfl : chkFn Try.prog 26 ir26 ir26_v = true)
theorem M_26 : c_26.modes = [.bor] := rfl
theorem Fl_26 : c_26.flat = true := rfl
attribute [go_sem] M_26 Fl_26
attribute [go_sem] lk_26_45
def E_26_l1 (list : List Observer) : Int → St
 | i => ⟨[.sl 2 (List.map Observer_av list), .any, .int .i64 i], [], [], true⟩
def R_26_l1 (list : List Observer) : (Unit ⊕ Bool) → Res
 | .inl y => (.exit 0, ⟨[.sl 2 (List.map Observer_av list), .any, .any], [], [], true⟩)
 | .inr y => (.ret, ⟨[.any, .bool y, .any], [], [], true⟩)
theorem spec_l05Ok_l1_ex {list : List Observer} {sgm_ : Int} {rho_ : Unit ⊕ Bool} (h : whileE (spec_l05Ok_l1 list) sgm_ = some rho_) : ∃ L0, ∀ L, L0 ≤ L → iter (exec (look t_26) L ir26_b0) ir26_k0 ir26_o0 ir26_r0 L (E_26_l1 list sgm_) = R_26_l1 list rho_ := by
 refine loop_ex (E := E_26_l1 list) (R := R_26_l1 list) (fun y => by first | (intro c; cases c) | (rcases y with y | y <;> (intro c; cases c)) | (rcases y with y | y | y <;> (intro c; cases c))) ?_ h
 clear h
 intro i o_ h
 dsimp only [spec_l05Ok_l1] at h
 rcases it_some h with ⟨z1, h⟩ | ⟨z1, h⟩
 ·try simp only [go_sem, n1, n2, n3, n4] at z1
  all_goals
  obtain ⟨z2, h⟩ := ck_some h
  have lz2 := ix_lt z2
  have xz2 := getD_mapD Observer_av list lz2
  try simp only [go_sem] at lz2
  try simp only [go_sem] at xz2
  try simp only [go_sem, n1, n2, n3, n4, z1] at z2
  all_goals
  obtain ⟨y_3, z3, h⟩ := bd_some h
  have fz3 := Fs_25 z3
  try simp only [go_sem, z1, z2] at fz3
  obtain ⟨z4, h⟩ := ck_some h
  rcases or_split z4 with ⟨gz4, z4⟩ | gz4
  ·try simp only [go_sem, n1, n2, n3, n4, z1, z2] at gz4
   all_goals
   have lz4 := ix_lt z4
   have xz4 := getD_mapD Observer_av list lz4
   try simp only [go_sem] at lz4
   try simp only [go_sem] at xz4
   try simp only [go_sem, n1, n2, n3, n4, z1, z2, gz4] at z4
   all_goals
   rcases it_some h with ⟨z5, h⟩ | ⟨z5, h⟩
   ·try simp only [go_sem, n1, n2, n3, n4, z1, z2, gz4, z4] at z5
    all_goals
    obtain rfl := so_some h
    refine ⟨0, fun L hL => ?_⟩
    simp only [go_sem, ir26, E_26_l1, R_26_l1, ir26_b0, ir26_k0, ir26_o0, ir26_r0, z1, z2, lz2, xz2, fz3, gz4, z4, lz4, xz4, z5]
   ·try simp only [go_sem, n1, n2, n3, n4, z1, z2, gz4, z4] at z5
    all_goals
    obtain rfl := so_some h
    refine ⟨0, fun L hL => ?_⟩
    simp only [go_sem, ir26, E_26_l1, R_26_l1, ir26_b0, ir26_k0, ir26_o0, ir26_r0, z1, z2, lz2, xz2, fz3, gz4, z4, lz4, xz4, z5]
  ·rcases and_f gz4 with gz4a | ⟨gz4a, gz4b⟩
   ·have gz4an := no_f gz4a
    have gz4ann := no_t gz4an
    try simp only [go_sem, n1, n2, n3, n4, z1, z2] at gz4ann
    all_goals
    rcases it_some h with ⟨z5, h⟩ | ⟨z5, h⟩
    ·try simp only [go_sem, n1, n2, n3, n4, z1, z2, gz4ann] at z5
     all_goals
     obtain rfl := so_some h
     refine ⟨0, fun L hL => ?_⟩
     simp only [go_sem, ir26, E_26_l1, R_26_l1, ir26_b0, ir26_k0, ir26_o0, ir26_r0, z1, z2, lz2, xz2, fz3, gz4ann, z5]
    ·try simp only [go_sem, n1, n2, n3, n4, z1, z2, gz4ann] at z5
     all_goals
     (simp_all)
   ·have gz4an := no_t gz4a
    have gz4ann := no_f gz4an
    try simp only [go_sem, n1, n2, n3, n4, z1, z2] at gz4ann
    all_goals
    try simp only [go_sem, n1, n2, n3, n4, z1, z2, gz4ann] at gz4b
    all_goals
    rcases it_some h with ⟨z5, h⟩ | ⟨z5, h⟩
    ·try simp only [go_sem, n1, n2, n3, n4, z1, z2, gz4ann, gz4b] at z5
     all_goals
     (simp_all)
    ·try simp only [go_sem, n1, n2, n3, n4, z1, z2, gz4ann, gz4b] at z5
     all_goals
     obtain rfl := so_some h
     refine ⟨0, fun L hL => ?_⟩
     simp only [go_sem, ir26, E_26_l1, R_26_l1, ir26_b0, ir26_k0, ir26_o0, ir26_r0, z1, z2, lz2, xz2, fz3, gz4ann, gz4b, z5]
 ·try simp only [go_sem, n1, n2, n3, n4] at z1
  all_goals
  obtain rfl := so_some h
  refine ⟨0, fun L hL => ?_⟩
  simp only [go_sem, ir26, E_26_l1, R_26_l1, ir26_b0, ir26_k0, ir26_o0, ir26_r0, z1]

theorem Fs_26 {list : List Observer} {y_ : Bool} (h : spec_l05Ok list = some y_) : c_26.F [.sl 2 (List.map Observer_av list)] = ⟨true, .bool y_, [.any]⟩ := by
 refine mkF_E rfl ?_
 dsimp only [spec_l05Ok] at h
 obtain ⟨y_6, z6, h⟩ := bd_some h
 obtain ⟨Lz6, ez6⟩ := spec_l05Ok_l1_ex z6
 rcases y_6 with y_6a | y_6b
 ·dsimp only at h
  obtain rfl := so_some h
  refine ⟨Lz6, fun L hL => ?_⟩
  have ez6 := ez6 L (by omega)
  try simp only [go_sem, E_26_l1, R_26_l1, ir26_k0, ir26_o0, ir26_r0] at ez6
  simp only [go_sem, ir26, E_26_l1, R_26_l1, ir26_k0, ir26_o0, ir26_r0, ez6]
 ·dsimp only at h
  obtain rfl := so_some h
  refine ⟨Lz6, fun L hL => ?_⟩
  have ez6 := ez6 L (by omega)
  try simp only [go_sem, E_26_l1, R_26_l1, ir26_k0, ir26_o0, ir26_r0] at ez6
  simp only [go_sem, ir26, E_26_l1, R_26_l1, ir26_k0, ir26_o0, ir26_r0, ez6]


def ir46_b0 : IR := .seq (.test false [ PM 6 3, PM 7 0, PO 8 (.len false (.s 0)), PO 9 (.bin false .lss (.s 2) (.s 0))] (.s 0) (.skip) (.exit 0)) (.seq (.block 1 (.test false [ PM 12 0, PM 13 3, PO 14 (.ixAddr 5 (.s 1) (.s 0)), PO 15 (.fldAddr 0 (.s 0)), PO 16 (.load false 1 (.s 0)), PM 17 1, PO 18 (.bin false .eql (.s 1) (.s 0))] (.s 0) (.seq (.region false [ PM 19 3, VS 2 4 0]) (.ret)) (.skip))) (.region false [ PM 10 3, PO 11 (.bin false .add (.s 0) (I6 1)), VS 3 5 0]))
def ir46_k0 : List Bool := [true, true, false, true]
def ir46_o0 : List Bool := [false, false, false, false]
def ir46_r0 : List Bool := [false, false, true, false]
def ir46_v : List Nat := [0, 1, 4, 5]
def ir46 : AFn := ⟨2, 4, .seq (.region false [ VO 2 4 (.mov (I6 0))]) (.seq (.seq (.region false [ VO 3 5 (.mov (I6 0))]) (.block 0 (.loop ir46_k0 ir46_o0 ir46_r0 ir46_b0))) (.seq (.region false [ VO 2 4 (.mov (.c (.int .i64 (-1))))]) (.ret))), [.t 2]⟩
noncomputable def t_27 : List (Nat × Ctr) := []
noncomputable def c_27 : Ctr := mkF t_27 ir46 [.bor, .bor]
theorem s_27 : Sound Try.prog 46 c_27 := mkF_sound _ rfl snd_nil (by kernel_rfl : chkFn Try.prog 46 ir46 ir46_v = true)
theorem M_27 : c_27.modes = [.bor, .bor] := rfl
theorem Fl_27 : c_27.flat = true := rfl
attribute [go_sem] M_27 Fl_27
def E_27_l1 (list : List Star) (name : List UInt8) : Int → St
 | i => ⟨[.sl 5 (List.map Star_av list), .str name, .any, .int .i64 i], [], [], true⟩
def R_27_l1 (list : List Star) (name : List UInt8) : (Unit ⊕ Int) → Res
 | .inl y => (.exit 0, ⟨[.any, .any, .any, .any], [], [], true⟩)
 | .inr y => (.ret, ⟨[.any, .any, .int .i64 y, .any], [], [], true⟩)
theorem spec_l04Find_l1_ex {list : List Star} {name : List UInt8} {sgm_ : Int} {rho_ : Unit ⊕ Int} (h : whileE (spec_l04Find_l1 list name) sgm_ = some rho_) : ∃ L0, ∀ L, L0 ≤ L → iter (exec (look t_27) L ir46_b0) ir46_k0 ir46_o0 ir46_r0 L (E_27_l1 list name sgm_) = R_27_l1 list name rho_ := by
 refine loop_ex (E := E_27_l1 list name) (R := R_27_l1 list name) (fun y => by first | (intro c; cases c) | (rcases y with y | y <;> (intro c; cases c)) | (rcases y with y | y | y <;> (intro c; cases c))) ?_ h
 clear h
 intro i o_ h
 dsimp only [spec_l04Find_l1] at h
 rcases it_some h with ⟨z1, h⟩ | ⟨z1, h⟩
 ·try simp only [go_sem, n1, n2, n3, n4] at z1
  all_goals
  obtain ⟨z2, h⟩ := ck_some h
  have lz2 := ix_lt z2
  have xz2 := getD_mapD Star_av list lz2
  try simp only [go_sem] at lz2
  try simp only [go_sem] at xz2
  try simp only [go_sem, n1, n2, n3, n4, z1] at z2
  all_goals
  rcases it_some h with ⟨z3, h⟩ | ⟨z3, h⟩
  ·try simp only [go_sem, n1, n2, n3, n4, z1, z2] at z3
   all_goals
   obtain rfl := so_some h
   refine ⟨0, fun L hL => ?_⟩
   simp only [go_sem, ir46, E_27_l1, R_27_l1, ir46_b0, ir46_k0, ir46_o0, ir46_r0, z1, z2, lz2, xz2, z3]
  ·try simp only [go_sem, n1, n2, n3, n4, z1, z2] at z3
   all_goals
   obtain rfl := so_some h
   refine ⟨0, fun L hL => ?_⟩
   simp only [go_sem, ir46, E_27_l1, R_27_l1, ir46_b0, ir46_k0, ir46_o0, ir46_r0, z1, z2, lz2, xz2, z3]
 ·try simp only [go_sem, n1, n2, n3, n4] at z1
  all_goals
  obtain rfl := so_some h
  refine ⟨0, fun L hL => ?_⟩
  simp only [go_sem, ir46, E_27_l1, R_27_l1, ir46_b0, ir46_k0, ir46_o0, ir46_r0, z1]

theorem Fs_27 {list : List Star} {name : List UInt8} {y_ : Int} (h : spec_l04Find list name = some y_) : c_27.F [.sl 5 (List.map Star_av list), .str name] = ⟨true, .int .i64 y_, [.any, .any]⟩ := by
 refine mkF_E rfl ?_
 dsimp only [spec_l04Find] at h
 obtain ⟨y_4, z4, h⟩ := bd_some h
 obtain ⟨Lz4, ez4⟩ := spec_l04Find_l1_ex z4
 rcases y_4 with y_4a | y_4b
 ·dsimp only at h
  obtain rfl := so_some h
  refine ⟨Lz4, fun L hL => ?_⟩
  have ez4 := ez4 L (by omega)
  try simp only [go_sem, E_27_l1, R_27_l1, ir46_k0, ir46_o0, ir46_r0] at ez4
  simp only [go_sem, ir46, E_27_l1, R_27_l1, ir46_k0, ir46_o0, ir46_r0, ez4]
 ·dsimp only at h
  obtain rfl := so_some h
  refine ⟨Lz4, fun L hL => ?_⟩
  have ez4 := ez4 L (by omega)
  try simp only [go_sem, E_27_l1, R_27_l1, ir46_k0, ir46_o0, ir46_r0] at ez4
  simp only [go_sem, ir46, E_27_l1, R_27_l1, ir46_k0, ir46_o0, ir46_r0, ez4]


def ir47_b0 : IR := .seq (.test false [ PM 6 3, PM 7 0, PO 8 (.len false (.s 0)), PO 9 (.bin false .lss (.s 2) (.s 0))] (.s 0) (.skip) (.exit 0)) (.seq (.block 1 (.test false [ PM 12 0, PM 13 3, PO 14 (.ixAddr 2 (.s 1) (.s 0)), PO 15 (.fldAddr 0 (.s 0)), PO 16 (.load false 1 (.s 0)), PM 17 1, PO 18 (.bin false .eql (.s 1) (.s 0))] (.s 0) (.seq (.region false [ PM 19 3, VS 2 4 0]) (.ret)) (.skip))) (.region false [ PM 10 3, PO 11 (.bin false .add (.s 0) (I6 1)), VS 3 5 0]))
def ir47_k0 : List Bool := [true, true, false, true]
def ir47_o0 : List Bool := [false, false, false, false]
def ir47_r0 : List Bool := [false, false, true, false]
def ir47_v : List Nat := [0, 1, 4, 5]
def ir47 : AFn := ⟨2, 4, .seq (.region false [ VO 2 4 (.mov (I6 0))]) (.seq (.seq (.region false [ VO 3 5 (.mov (I6 0))]) (.block 0 (.loop ir47_k0 ir47_o0 ir47_r0 ir47_b0))) (.seq (.region false [ VO 2 4 (.mov (.c (.int .i64 (-1))))]) (.ret))), [.t 2]⟩
noncomputable def t_28 : List (Nat × Ctr) := []
noncomputable def c_28 : Ctr := mkF t_28 ir47 [.bor, .bor]
theorem s_28 : Sound Try.prog 47 c_28 := mkF_sound _ rfl snd_nil (by kernel_rfl : chkFn Try.prog 47 ir47 ir47_v = true)
theorem M_28 : c_28.modes = [.bor, .bor] := rfl
theorem Fl_28 : c_28.flat = true := rfl
attribute [go_sem] M_28 Fl_28
def E_28_l1 (list : List Observer) (name : List UInt8) : Int → St
 | i => ⟨[.sl 2 (List.map Observer_av list), .str name, .any, .int .i64 i], [], [], true⟩
def R_28_l1 (list : List Observer) (name : List UInt8) : (Unit ⊕ Int) → Res
 | .inl y => (.exit 0, ⟨[.any, .any, .any, .any], [], [], true⟩)
 | .inr y => (.ret, ⟨[.any, .any, .int .i64 y, .any], [], [], true⟩)
theorem spec_l05Find_l1_ex {list : List Observer} {name : List UInt8} {sgm_ : Int} {rho_ : Unit ⊕ Int} (h : whileE (spec_l05Find_l1 list name) sgm_ = some rho_) : ∃ L0, ∀ L, L0 ≤ L → iter (exec (look t_28) L ir47_b0) ir47_k0 ir47_o0 ir47_r0 L (E_28_l1 list name sgm_) = R_28_l1 list name rho_ := by
 refine loop_ex (E := E_28_l1 list name) (R := R_28_l1 list name) (fun y => by first | (intro c; cases c) | (rcases y with y | y <;> (intro c; cases c)) | (rcases y with y | y | y <;> (intro c; cases c))) ?_ h
 clear h
 intro i o_ h
 dsimp only [spec_l05Find_l1] at h
 rcases it_some h with ⟨z1, h⟩ | ⟨z1, h⟩
 ·try simp only [go_sem, n1, n2, n3, n4] at z1
  all_goals
  obtain ⟨z2, h⟩ := ck_some h
  have lz2 := ix_lt z2
  have xz2 := getD_mapD Observer_av list lz2
  try simp only [go_sem] at lz2
  try simp only [go_sem] at xz2
  try simp only [go_sem, n1, n2, n3, n4, z1] at z2
  all_goals
  rcases it_some h with ⟨z3, h⟩ | ⟨z3, h⟩
  ·try simp only [go_sem, n1, n2, n3, n4, z1, z2] at z3
   all_goals
   obtain rfl := so_some h
   refine ⟨0, fun L hL => ?_⟩
   simp only [go_sem, ir47, E_28_l1, R_28_l1, ir47_b0, ir47_k0, ir47_o0, ir47_r0, z1, z2, lz2, xz2, z3]
  ·try simp only [go_sem, n1, n2, n3, n4, z1, z2] at z3
   all_goals
   obtain rfl := so_some h
   refine ⟨0, fun L hL => ?_⟩
   simp only [go_sem, ir47, E_28_l1, R_28_l1, ir47_b0, ir47_k0, ir47_o0, ir47_r0, z1, z2, lz2, xz2, z3]
 ·try simp only [go_sem, n1, n2, n3, n4] at z1
  all_goals
  obtain rfl := so_some h
  refine ⟨0, fun L hL => ?_⟩
  simp only [go_sem, ir47, E_28_l1, R_28_l1, ir47_b0, ir47_k0, ir47_o0, ir47_r0, z1]

theorem Fs_28 {list : List Observer} {name : List UInt8} {y_ : Int} (h : spec_l05Find list name = some y_) : c_28.F [.sl 2 (List.map Observer_av list), .str name] = ⟨true, .int .i64 y_, [.any, .any]⟩ := by
 refine mkF_E rfl ?_
 dsimp only [spec_l05Find] at h
 obtain ⟨y_4, z4, h⟩ := bd_some h
 obtain ⟨Lz4, ez4⟩ := spec_l05Find_l1_ex z4
 rcases y_4 with y_4a | y_4b
 ·dsimp only at h
  obtain rfl := so_some h
  refine ⟨Lz4, fun L hL => ?_⟩
  have ez4 := ez4 L (by omega)
  try simp only [go_sem, E_28_l1, R_28_l1, ir47_k0, ir47_o0, ir47_r0] at ez4
  simp only [go_sem, ir47, E_28_l1, R_28_l1, ir47_k0, ir47_o0, ir47_r0, ez4]
 ·dsimp only at h
  obtain rfl := so_some h
  refine ⟨Lz4, fun L hL => ?_⟩
  have ez4 := ez4 L (by omega)
  try simp only [go_sem, E_28_l1, R_28_l1, ir47_k0, ir47_o0, ir47_r0] at ez4
  simp only [go_sem, ir47, E_28_l1, R_28_l1, ir47_k0, ir47_o0, ir47_r0, ez4]


def ir28_b0 : IR := .seq (.test false [ PM 88 9, PO 89 (.bin false .geq (.s 0) (I6 0))] (.s 0) (.skip) (.exit 0)) (.seq (.block 1 (.seq (.region false [ PM 92 0, PM 93 9, PO 94 (.ixAddr 5 (.s 1) (.s 0)), VS 10 15 0]) (.anyo 32 [ SO 0 95 (.mov (.v 10)), SO 1 96 (.nilck (.s 0)), SO 2 97 (.fldAddr 1 (.s 1)), SO 3 98 (.load false 1 (.s 2)), SO 4 99 (.mov (.v 7)), SO 5 100 (.nilck (.s 4)), SO 6 101 (.fldAddr 1 (.s 5)), SO 7 102 (.load false 1 (.s 6)), SO 8 103 (.bin false .eql (.s 3) (.s 7)), SO 9 104 (.mov (.s 8)), ⟨.slot 10, 105, (some ((.s 9), true)), .mov (.v 10)⟩, ⟨.slot 11, 106, (some ((.s 9),
 true)), .nilck (.s 10)⟩, ⟨.slot 12, 107, (some ((.s 9), true)), .fldAddr 2 (.s 11)⟩, ⟨.slot 13, 108, (some ((.s 9), true)), .load false 1 (.s 12)⟩, ⟨.slot 14, 109, (some ((.s 9), true)), .mov (.v 7)⟩, ⟨.slot 15, 110, (some ((.s 9), true)), .nilck (.s 14)⟩, ⟨.slot 16, 111, (some ((.s 9), true)), .fldAddr 2 (.s 15)⟩, ⟨.slot 17, 112, (some ((.s 9), true)), .load false 1 (.s 16)⟩, ⟨.slot 18, 113, (some ((.s 9), true)), .bin false .eql (.s 13) (.s 17)⟩, SO 19 114 (.pick (.s 9) (.s 18) (.c (.bool false))), SO 20 115 (.mov (.s 19)), ⟨.slot 21, 116, (some ((.s 20), true)), .mov (.v 7)⟩, ⟨.slot 22,
 117, (some ((.s 20), true)), .nilck (.s 21)⟩, ⟨.slot 23, 118, (some ((.s 20), true)), .fldAddr 0 (.s 22)⟩, ⟨.slot 24, 119, (some ((.s 20), true)), .load false 1 (.s 23)⟩, ⟨.slot 25, 120, (some ((.s 20), true)), .mov (.v 10)⟩, ⟨.slot 26, 121, (some ((.s 20), true)), .nilck (.s 25)⟩, ⟨.slot 27, 122, (some ((.s 20), true)), .fldAddr 0 (.s 26)⟩, ⟨.slot 28, 123, (some ((.s 20), true)), .load false 1 (.s 27)⟩, ⟨.slot 29, 124, (some ((.s 20), true)), .bin false .sub (.s 24) (.s 28)⟩, ⟨.slot 30, 125, (some ((.s 20), true)), .bin false .lss (.s 29) (I6 100)⟩, SO 31 126 (.pick (.s 20) (.s 30) (.c (.bool
 false)))] [] (.cond (.s 31) (.seq (.region false [ PM 127 6, PO 128 (.mkSl 1 (.int .i64 (0)) 1 [(0, (I6 5))]), PO 129 (.app 1 8 (.int .i64 (0)) (.s 1) (.s 0)), VS 6 11 0]) (.exit 0)) (.skip))))) (.region false [ PM 90 9, PO 91 (.bin false .sub (.s 0) (I6 1)), VS 9 14 0]))
def ir28_k0 : List Bool := [true, false, false, false, false, false, true, true, false, true, false]
def ir28_o0 : List Bool := [false, false, false, false, false, false, true, false, false, false, false]
def ir28_r0 : List Bool := [false, false, false, false, false, true, false, false, false, false, false]
def ir28_v : List Nat := [0, 1, 2, 3, 4, 10, 11, 12, 13, 14, 15]
def ir28 : AFn := ⟨5, 11, .seq (.region false [ VO 5 10 (.newnil 1)]) (.seq (.region false [ PO 16 (.mkSl 1 (.int .i64 (0)) 0 []), VS 6 11 0]) (.seq (.region false [ PM 17 0, PM 18 1, PO 19 (.ixAddr 5 (.s 1) (.s 0)), VS 7 12 0]) (.seq (.region false [ PM 20 2, PM 21 7, PO 22 (.nilck (.s 0)), PO 23 (.fldAddr 1 (.s 0)), PO 24 (.load false 1 (.s 0)), PO 25 (.call 46 [(.s 4), (.s 0)]), VS 8 13 0]) (.seq (.test false [ PM 26 8, PO 27 (.bin false .lss (.s 0) (I6 0))] (.s 0) (.region false [ PM 28 6, PO 29 (.mkSl 1 (.int .i64 (0)) 1 [(0, (I6 1))]), PO 30 (.app 1 8 (.int .i64 (0)) (.s 1) (.s 0)), VS 6
 11 0]) (.skip)) (.seq (.test false [ PM 31 3, PM 32 7, PO 33 (.nilck (.s 0)), PO 34 (.fldAddr 2 (.s 0)), PO 35 (.load false 1 (.s 0)), PO 36 (.call 47 [(.s 4), (.s 0)]), PO 37 (.bin false .lss (.s 0) (I6 0))] (.s 0) (.region false [ PM 38 6, PO 39 (.mkSl 1 (.int .i64 (0)) 1 [(0, (I6 2))]), PO 40 (.app 1 8 (.int .i64 (0)) (.s 1) (.s 0)), VS 6 11 0]) (.skip)) (.seq (.anyo 16 [ SO 0 41 (.mov (.v 8)), SO 1 42 (.bin false .geq (.s 0) (I6 0)), SO 2 43 (.mov (.s 1)), ⟨.slot 3, 44, (some ((.s 2), true)), .mov (.v 7)⟩, ⟨.slot 4, 45, (some ((.s 2), true)), .nilck (.s 3)⟩, ⟨.slot 5, 46, (some ((.s 2),
 true)), .fldAddr 3 (.s 4)⟩, ⟨.slot 6, 47, (some ((.s 2), true)), .load false 1 (.s 5)⟩, ⟨.slot 7, 48, (some ((.s 2), true)), .mov (.v 2)⟩, ⟨.slot 8, 49, (some ((.s 2), true)), .mov (.v 8)⟩, ⟨.slot 9, 50, (some ((.s 2), true)), .ixAddr 5 (.s 7) (.s 8)⟩, ⟨.slot 10, 51, (some ((.s 2), true)), .fldAddr 3 (.s 9)⟩, ⟨.slot 11, 52, (some ((.s 2), true)), .load false 1 (.s 10)⟩, ⟨.slot 12, 53, (some ((.s 2), true)), .mov (.v 4)⟩, ⟨.slot 13, 54, (some ((.s 2), true)), .bin false .sub (.s 11) (.s 12)⟩, ⟨.slot 14, 55, (some ((.s 2), true)), .bin false .lss (.s 6) (.s 13)⟩, SO 15 56 (.pick (.s 2) (.s 14)
 (.c (.bool false)))] [] (.cond (.s 15) (.region false [ PM 57 6, PO 58 (.mkSl 1 (.int .i64 (0)) 1 [(0, (I6 3))]), PO 59 (.app 1 8 (.int .i64 (0)) (.s 1) (.s 0)), VS 6 11 0]) (.skip))) (.seq (.anyo 23 [ SO 0 60 (.mov (.v 8)), SO 1 61 (.bin false .geq (.s 0) (I6 0)), SO 2 62 (.mov (.s 1)), ⟨.slot 3, 63, (some ((.s 2), true)), .mov (.v 7)⟩, ⟨.slot 4, 64, (some ((.s 2), true)), .nilck (.s 3)⟩, ⟨.slot 5, 65, (some ((.s 2), true)), .fldAddr 4 (.s 4)⟩, ⟨.slot 6, 66, (some ((.s 2), true)), .load false 1 (.s 5)⟩, ⟨.slot 7, 67, (some ((.s 2), true)), .un .not (.s 6)⟩, SO 8 68 (.pick (.s 2) (.s 7) (.c
 (.bool false))), SO 9 69 (.mov (.s 8)), ⟨.slot 10, 70, (some ((.s 9), true)), .mov (.v 7)⟩, ⟨.slot 11, 71, (some ((.s 9), true)), .nilck (.s 10)⟩, ⟨.slot 12, 72, (some ((.s 9), true)), .fldAddr 3 (.s 11)⟩, ⟨.slot 13, 73, (some ((.s 9), true)), .load false 1 (.s 12)⟩, ⟨.slot 14, 74, (some ((.s 9), true)), .mov (.v 2)⟩, ⟨.slot 15, 75, (some ((.s 9), true)), .mov (.v 8)⟩, ⟨.slot 16, 76, (some ((.s 9), true)), .ixAddr 5 (.s 14) (.s 15)⟩, ⟨.slot 17, 77, (some ((.s 9), true)), .fldAddr 4 (.s 16)⟩, ⟨.slot 18, 78, (some ((.s 9), true)), .load false 1 (.s 17)⟩, ⟨.slot 19, 79, (some ((.s 9), true)),
 .mov (.v 4)⟩, ⟨.slot 20, 80, (some ((.s 9), true)), .bin false .add (.s 18) (.s 19)⟩, ⟨.slot 21, 81, (some ((.s 9), true)), .bin false .gtr (.s 13) (.s 20)⟩, SO 22 82 (.pick (.s 9) (.s 21) (.c (.bool false)))] [] (.cond (.s 22) (.region false [ PM 83 6, PO 84 (.mkSl 1 (.int .i64 (0)) 1 [(0, (I6 4))]), PO 85 (.app 1 8 (.int .i64 (0)) (.s 1) (.s 0)), VS 6 11 0]) (.skip))) (.seq (.seq (.region false [ PM 86 1, PO 87 (.bin false .sub (.s 0) (I6 1)), VS 9 14 0]) (.block 0 (.loop ir28_k0 ir28_o0 ir28_r0 ir28_b0))) (.seq (.region false [ PM 130 6, VS 5 10 0]) (.ret)))))))))), [.t 5]⟩
noncomputable def t_29 : List (Nat × Ctr) := [(46, c_27), (47, c_28)]
theorem lk_29_46 : look t_29 46 = some c_27 := rfl
theorem lk_29_47 : look t_29 47 = some c_28 := rfl
noncomputable def c_29 : Ctr := mkF t_29 ir28 [.bor, .bor, .bor, .bor, .bor]
theorem s_29 : Sound Try.prog 28 c_29 := mkF_sound _ rfl (snd_cons s_27 (snd_cons s_28 snd_nil)) (by kernel_rfl : chkFn Try.prog 28 ir28 ir28_v = true)
theorem M_29 : c_29.modes = [.bor, .bor, .bor, .bor, .bor] := rfl
theorem Fl_29 : c_29.flat = true := rfl
attribute [go_sem] M_29 Fl_29
attribute [go_sem] lk_29_46 lk_29_47
def E_29_l1 (list : List Estimate) (out : List Int) (e_ : Estimate) : Int → St
 | j => ⟨[.sl 5 (List.map Estimate_av list), .any, .any, .any, .any, .any, .own 3200000, .ptr 5 [Estimate_av e_] 0 0, .any, .int .i64 j, .any], [], [(3200000, ⟨1, List.map (AV.int .i64) out⟩)], true⟩
def R_29_l1 (list : List Estimate) (out : List Int) (e_ : Estimate) (y : (List Int)) : Res := (.exit 0, ⟨[.any, .any, .any, .any, .any, .any, .own 3200000, .any, .any, .any, .any], [], [(3200000, ⟨1, List.map (AV.int .i64) y⟩)], true⟩)
set_option maxHeartbeats 64000000 in
theorem spec_l26Of_l1_ex {list : List Estimate} {out : List Int} {e_ : Estimate} {sgm_ : Int} {rho_ : (List Int)} (h : whileE (spec_l26Of_l1 list out e_) sgm_ = some rho_) : ∃ L0, ∀ L, L0 ≤ L → iter (exec (look t_29) L ir28_b0) ir28_k0 ir28_o0 ir28_r0 L (E_29_l1 list out e_ sgm_) = R_29_l1 list out e_ rho_ := by
 refine loop_ex (E := E_29_l1 list out e_) (R := R_29_l1 list out e_) (fun y => by first | (intro c; cases c) | (rcases y with y | y <;> (intro c; cases c)) | (rcases y with y | y | y <;> (intro c; cases c))) ?_ h
 clear h
 intro j o_ h
 dsimp only [spec_l26Of_l1] at h
 rcases it_some h with ⟨z14, h⟩ | ⟨z14, h⟩
 ·try simp only [go_sem, n1, n2, n3, n4] at z14
  all_goals
  obtain ⟨z15, h⟩ := ck_some h
  have lz15 := ix_lt z15
  have xz15 := getD_mapD Estimate_av list lz15
  try simp only [go_sem] at lz15
  try simp only [go_sem] at xz15
  try simp only [go_sem, n1, n2, n3, n4, z14] at z15
  all_goals
  rcases it_some h with ⟨z16, h⟩ | ⟨z16, h⟩
  ·try simp only [go_sem, n1, n2, n3, n4, z14, z15] at z16
   all_goals
   obtain ⟨z17, h⟩ := ck_some h
   try simp only [go_sem, n1, n2, n3, n4, z14, z15, z16] at z17
   all_goals
   obtain rfl := so_some h
   refine ⟨0, fun L hL => ?_⟩
   simp only [go_sem, ir28, E_29_l1, R_29_l1, ir28_b0, ir28_k0, ir28_o0, ir28_r0, z14, z15, lz15, xz15, z16, z17]
  ·try simp only [go_sem, n1, n2, n3, n4, z14, z15] at z16
   all_goals
   obtain rfl := so_some h
   refine ⟨0, fun L hL => ?_⟩
   simp only [go_sem, ir28, E_29_l1, R_29_l1, ir28_b0, ir28_k0, ir28_o0, ir28_r0, z14, z15, lz15, xz15, z16]
 ·try simp only [go_sem, n1, n2, n3, n4] at z14
  all_goals
  obtain rfl := so_some h
  refine ⟨0, fun L hL => ?_⟩
  simp only [go_sem, ir28, E_29_l1, R_29_l1, ir28_b0, ir28_k0, ir28_o0, ir28_r0, z14]

def E_29_l2 (list : List Estimate) (out : List Int) (e_ : Estimate) : Int → St
 | j => ⟨[.sl 5 (List.map Estimate_av list), .any, .any, .any, .any, .any, .own 3200000, .ptr 5 [Estimate_av e_] 0 0, .any, .int .i64 j, .any], [], [(3200000, ⟨1, List.map (AV.int .i64) out⟩)], true⟩
def R_29_l2 (list : List Estimate) (out : List Int) (e_ : Estimate) (y : (List Int)) : Res := (.exit 0, ⟨[.any, .any, .any, .any, .any, .any, .own 3200000, .any, .any, .any, .any], [], [(3200000, ⟨1, List.map (AV.int .i64) y⟩)], true⟩)
set_option maxHeartbeats 64000000 in
theorem spec_l26Of_l2_ex {list : List Estimate} {out : List Int} {e_ : Estimate} {sgm_ : Int} {rho_ : (List Int)} (h : whileE (spec_l26Of_l2 list out e_) sgm_ = some rho_) : ∃ L0, ∀ L, L0 ≤ L → iter (exec (look t_29) L ir28_b0) ir28_k0 ir28_o0 ir28_r0 L (E_29_l2 list out e_ sgm_) = R_29_l2 list out e_ rho_ := by
 refine loop_ex (E := E_29_l2 list out e_) (R := R_29_l2 list out e_) (fun y => by first | (intro c; cases c) | (rcases y with y | y <;> (intro c; cases c)) | (rcases y with y | y | y <;> (intro c; cases c))) ?_ h
 clear h
 intro j o_ h
 dsimp only [spec_l26Of_l2] at h
 rcases it_some h with ⟨z19, h⟩ | ⟨z19, h⟩
 ·try simp only [go_sem, n1, n2, n3, n4] at z19
  all_goals
  obtain ⟨z20, h⟩ := ck_some h
  have lz20 := ix_lt z20
  have xz20 := getD_mapD Estimate_av list lz20
  try simp only [go_sem] at lz20
  try simp only [go_sem] at xz20
  try simp only [go_sem, n1, n2, n3, n4, z19] at z20
  all_goals
  rcases it_some h with ⟨z21, h⟩ | ⟨z21, h⟩
  ·try simp only [go_sem, n1, n2, n3, n4, z19, z20] at z21
   all_goals
   obtain ⟨z22, h⟩ := ck_some h
   try simp only [go_sem, n1, n2, n3, n4, z19, z20, z21] at z22
   all_goals
   obtain rfl := so_some h
   refine ⟨0, fun L hL => ?_⟩
   simp only [go_sem, ir28, E_29_l2, R_29_l2, ir28_b0, ir28_k0, ir28_o0, ir28_r0, E_29_l1, R_29_l1, ir28_k0, ir28_o0, ir28_r0, z19, z20, lz20, xz20, z21, z22]
  ·try simp only [go_sem, n1, n2, n3, n4, z19, z20] at z21
   all_goals
   obtain rfl := so_some h
   refine ⟨0, fun L hL => ?_⟩
   simp only [go_sem, ir28, E_29_l2, R_29_l2, ir28_b0, ir28_k0, ir28_o0, ir28_r0, E_29_l1, R_29_l1, ir28_k0, ir28_o0, ir28_r0, z19, z20, lz20, xz20, z21]
 ·try simp only [go_sem, n1, n2, n3, n4] at z19
  all_goals
  obtain rfl := so_some h
  refine ⟨0, fun L hL => ?_⟩
  simp only [go_sem, ir28, E_29_l2, R_29_l2, ir28_b0, ir28_k0, ir28_o0, ir28_r0, E_29_l1, R_29_l1, ir28_k0, ir28_o0, ir28_r0, z19]

def E_29_l3 (list : List Estimate) (out : List Int) (e_ : Estimate) : Int → St
 | j => ⟨[.sl 5 (List.map Estimate_av list), .any, .any, .any, .any, .any, .own 3200000, .ptr 5 [Estimate_av e_] 0 0, .any, .int .i64 j, .any], [], [(3200000, ⟨1, List.map (AV.int .i64) out⟩)], true⟩
def R_29_l3 (list : List Estimate) (out : List Int) (e_ : Estimate) (y : (List Int)) : Res := (.exit 0, ⟨[.any, .any, .any, .any, .any, .any, .own 3200000, .any, .any, .any, .any], [], [(3200000, ⟨1, List.map (AV.int .i64) y⟩)], true⟩)
set_option maxHeartbeats 64000000 in
theorem spec_l26Of_l3_ex {list : List Estimate} {out : List Int} {e_ : Estimate} {sgm_ : Int} {rho_ : (List Int)} (h : whileE (spec_l26Of_l3 list out e_) sgm_ = some rho_) : ∃ L0, ∀ L, L0 ≤ L → iter (exec (look t_29) L ir28_b0) ir28_k0 ir28_o0 ir28_r0 L (E_29_l3 list out e_ sgm_) = R_29_l3 list out e_ rho_ := by
 refine loop_ex (E := E_29_l3 list out e_) (R := R_29_l3 list out e_) (fun y => by first | (intro c; cases c) | (rcases y with y | y <;> (intro c; cases c)) | (rcases y with y | y | y <;> (intro c; cases c))) ?_ h
 clear h
 intro j o_ h
 dsimp only [spec_l26Of_l3] at h
 rcases it_some h with ⟨z27, h⟩ | ⟨z27, h⟩
 ·try simp only [go_sem, n1, n2, n3, n4] at z27
  all_goals
  obtain ⟨z28, h⟩ := ck_some h
  have lz28 := ix_lt z28
  have xz28 := getD_mapD Estimate_av list lz28
  try simp only [go_sem] at lz28
  try simp only [go_sem] at xz28
  try simp only [go_sem, n1, n2, n3, n4, z27] at z28
  all_goals
  rcases it_some h with ⟨z29, h⟩ | ⟨z29, h⟩
  ·try simp only [go_sem, n1, n2, n3, n4, z27, z28] at z29
   all_goals
   obtain ⟨z30, h⟩ := ck_some h
   try simp only [go_sem, n1, n2, n3, n4, z27, z28, z29] at z30
   all_goals
   obtain rfl := so_some h
   refine ⟨0, fun L hL => ?_⟩
   simp only [go_sem, ir28, E_29_l3, R_29_l3, ir28_b0, ir28_k0, ir28_o0, ir28_r0, E_29_l1, R_29_l1, ir28_k0, ir28_o0, ir28_r0, E_29_l2, R_29_l2, ir28_k0, ir28_o0, ir28_r0, z27, z28, lz28, xz28, z29, z30]
  ·try simp only [go_sem, n1, n2, n3, n4, z27, z28] at z29
   all_goals
   obtain rfl := so_some h
   refine ⟨0, fun L hL => ?_⟩
   simp only [go_sem, ir28, E_29_l3, R_29_l3, ir28_b0, ir28_k0, ir28_o0, ir28_r0, E_29_l1, R_29_l1, ir28_k0, ir28_o0, ir28_r0, E_29_l2, R_29_l2, ir28_k0, ir28_o0, ir28_r0, z27, z28, lz28, xz28, z29]
 ·try simp only [go_sem, n1, n2, n3, n4] at z27
  all_goals
  obtain rfl := so_some h
  refine ⟨0, fun L hL => ?_⟩
  simp only [go_sem, ir28, E_29_l3, R_29_l3, ir28_b0, ir28_k0, ir28_o0, ir28_r0, E_29_l1, R_29_l1, ir28_k0, ir28_o0, ir28_r0, E_29_l2, R_29_l2, ir28_k0, ir28_o0, ir28_r0, z27]

def E_29_l4 (list : List Estimate) (out : List Int) (e_ : Estimate) : Int → St
 | j => ⟨[.sl 5 (List.map Estimate_av list), .any, .any, .any, .any, .any, .own 3200000, .ptr 5 [Estimate_av e_] 0 0, .any, .int .i64 j, .any], [], [(3200000, ⟨1, List.map (AV.int .i64) out⟩)], true⟩
def R_29_l4 (list : List Estimate) (out : List Int) (e_ : Estimate) (y : (List Int)) : Res := (.exit 0, ⟨[.any, .any, .any, .any, .any, .any, .own 3200000, .any, .any, .any, .any], [], [(3200000, ⟨1, List.map (AV.int .i64) y⟩)], true⟩)
set_option maxHeartbeats 64000000 in
theorem spec_l26Of_l4_ex {list : List Estimate} {out : List Int} {e_ : Estimate} {sgm_ : Int} {rho_ : (List Int)} (h : whileE (spec_l26Of_l4 list out e_) sgm_ = some rho_) : ∃ L0, ∀ L, L0 ≤ L → iter (exec (look t_29) L ir28_b0) ir28_k0 ir28_o0 ir28_r0 L (E_29_l4 list out e_ sgm_) = R_29_l4 list out e_ rho_ := by
 refine loop_ex (E := E_29_l4 list out e_) (R := R_29_l4 list out e_) (fun y => by first | (intro c; cases c) | (rcases y with y | y <;> (intro c; cases c)) | (rcases y with y | y | y <;> (intro c; cases c))) ?_ h
 clear h
 intro j o_ h
 dsimp only [spec_l26Of_l4] at h
 rcases it_some h with ⟨z32, h⟩ | ⟨z32, h⟩
 ·try simp only [go_sem, n1, n2, n3, n4] at z32
  all_goals
  obtain ⟨z33, h⟩ := ck_some h
  have lz33 := ix_lt z33
  have xz33 := getD_mapD Estimate_av list lz33
  try simp only [go_sem] at lz33
  try simp only [go_sem] at xz33
  try simp only [go_sem, n1, n2, n3, n4, z32] at z33
  all_goals
  rcases it_some h with ⟨z34, h⟩ | ⟨z34, h⟩
  ·try simp only [go_sem, n1, n2, n3, n4, z32, z33] at z34
   all_goals
   obtain ⟨z35, h⟩ := ck_some h
   try simp only [go_sem, n1, n2, n3, n4, z32, z33, z34] at z35
   all_goals
   obtain rfl := so_some h
   refine ⟨0, fun L hL => ?_⟩
   simp only [go_sem, ir28, E_29_l4, R_29_l4, ir28_b0, ir28_k0, ir28_o0, ir28_r0, E_29_l1, R_29_l1, ir28_k0, ir28_o0, ir28_r0, E_29_l2, R_29_l2, ir28_k0, ir28_o0, ir28_r0, E_29_l3, R_29_l3, ir28_k0, ir28_o0, ir28_r0, z32, z33, lz33, xz33, z34, z35]
  ·try simp only [go_sem, n1, n2, n3, n4, z32, z33] at z34
   all_goals
   obtain rfl := so_some h
   refine ⟨0, fun L hL => ?_⟩
   simp only [go_sem, ir28, E_29_l4, R_29_l4, ir28_b0, ir28_k0, ir28_o0, ir28_r0, E_29_l1, R_29_l1, ir28_k0, ir28_o0, ir28_r0, E_29_l2, R_29_l2, ir28_k0, ir28_o0, ir28_r0, E_29_l3, R_29_l3, ir28_k0, ir28_o0, ir28_r0, z32, z33, lz33, xz33, z34]
 ·try simp only [go_sem, n1, n2, n3, n4] at z32
  all_goals
  obtain rfl := so_some h
  refine ⟨0, fun L hL => ?_⟩
  simp only [go_sem, ir28, E_29_l4, R_29_l4, ir28_b0, ir28_k0, ir28_o0, ir28_r0, E_29_l1, R_29_l1, ir28_k0, ir28_o0, ir28_r0, E_29_l2, R_29_l2, ir28_k0, ir28_o0, ir28_r0, E_29_l3, R_29_l3, ir28_k0, ir28_o0, ir28_r0, z32]

def E_29_l5 (list : List Estimate) (out : List Int) (e_ : Estimate) : Int → St
 | j => ⟨[.sl 5 (List.map Estimate_av list), .any, .any, .any, .any, .any, .own 3200000, .ptr 5 [Estimate_av e_] 0 0, .any, .int .i64 j, .any], [], [(3200000, ⟨1, List.map (AV.int .i64) out⟩)], true⟩
def R_29_l5 (list : List Estimate) (out : List Int) (e_ : Estimate) (y : (List Int)) : Res := (.exit 0, ⟨[.any, .any, .any, .any, .any, .any, .own 3200000, .any, .any, .any, .any], [], [(3200000, ⟨1, List.map (AV.int .i64) y⟩)], true⟩)
set_option maxHeartbeats 64000000 in
theorem spec_l26Of_l5_ex {list : List Estimate} {out : List Int} {e_ : Estimate} {sgm_ : Int} {rho_ : (List Int)} (h : whileE (spec_l26Of_l5 list out e_) sgm_ = some rho_) : ∃ L0, ∀ L, L0 ≤ L → iter (exec (look t_29) L ir28_b0) ir28_k0 ir28_o0 ir28_r0 L (E_29_l5 list out e_ sgm_) = R_29_l5 list out e_ rho_ := by
 refine loop_ex (E := E_29_l5 list out e_) (R := R_29_l5 list out e_) (fun y => by first | (intro c; cases c) | (rcases y with y | y <;> (intro c; cases c)) | (rcases y with y | y | y <;> (intro c; cases c))) ?_ h
 clear h
 intro j o_ h
 dsimp only [spec_l26Of_l5] at h
 rcases it_some h with ⟨z43, h⟩ | ⟨z43, h⟩
 ·try simp only [go_sem, n1, n2, n3, n4] at z43
  all_goals
  obtain ⟨z44, h⟩ := ck_some h
  have lz44 := ix_lt z44
  have xz44 := getD_mapD Estimate_av list lz44
  try simp only [go_sem] at lz44
  try simp only [go_sem] at xz44
  try simp only [go_sem, n1, n2, n3, n4, z43] at z44
  all_goals
  rcases it_some h with ⟨z45, h⟩ | ⟨z45, h⟩
  ·try simp only [go_sem, n1, n2, n3, n4, z43, z44] at z45
   all_goals
   obtain ⟨z46, h⟩ := ck_some h
   try simp only [go_sem, n1, n2, n3, n4, z43, z44, z45] at z46
   all_goals
   obtain rfl := so_some h
   refine ⟨0, fun L hL => ?_⟩
   simp only [go_sem, ir28, E_29_l5, R_29_l5, ir28_b0, ir28_k0, ir28_o0, ir28_r0, E_29_l1, R_29_l1, ir28_k0, ir28_o0, ir28_r0, E_29_l2, R_29_l2, ir28_k0, ir28_o0, ir28_r0, E_29_l3, R_29_l3, ir28_k0, ir28_o0, ir28_r0, E_29_l4, R_29_l4, ir28_k0, ir28_o0, ir28_r0, z43, z44, lz44, xz44, z45, z46]
  ·try simp only [go_sem, n1, n2, n3, n4, z43, z44] at z45
   all_goals
   obtain rfl := so_some h
   refine ⟨0, fun L hL => ?_⟩
   simp only [go_sem, ir28, E_29_l5, R_29_l5, ir28_b0, ir28_k0, ir28_o0, ir28_r0, E_29_l1, R_29_l1, ir28_k0, ir28_o0, ir28_r0, E_29_l2, R_29_l2, ir28_k0, ir28_o0, ir28_r0, E_29_l3, R_29_l3, ir28_k0, ir28_o0, ir28_r0, E_29_l4, R_29_l4, ir28_k0, ir28_o0, ir28_r0, z43, z44, lz44, xz44, z45]
 ·try simp only [go_sem, n1, n2, n3, n4] at z43
  all_goals
  obtain rfl := so_some h
  refine ⟨0, fun L hL => ?_⟩
  simp only [go_sem, ir28, E_29_l5, R_29_l5, ir28_b0, ir28_k0, ir28_o0, ir28_r0, E_29_l1, R_29_l1, ir28_k0, ir28_o0, ir28_r0, E_29_l2, R_29_l2, ir28_k0, ir28_o0, ir28_r0, E_29_l3, R_29_l3, ir28_k0, ir28_o0, ir28_r0, E_29_l4, R_29_l4, ir28_k0, ir28_o0, ir28_r0, z43]

def E_29_l6 (list : List Estimate) (out : List Int) (e_ : Estimate) : Int → St
 | j => ⟨[.sl 5 (List.map Estimate_av list), .any, .any, .any, .any, .any, .own 3200000, .ptr 5 [Estimate_av e_] 0 0, .any, .int .i64 j, .any], [], [(3200000, ⟨1, List.map (AV.int .i64) out⟩)], true⟩
def R_29_l6 (list : List Estimate) (out : List Int) (e_ : Estimate) (y : (List Int)) : Res := (.exit 0, ⟨[.any, .any, .any, .any, .any, .any, .own 3200000, .any, .any, .any, .any], [], [(3200000, ⟨1, List.map (AV.int .i64) y⟩)], true⟩)
set_option maxHeartbeats 64000000 in
theorem spec_l26Of_l6_ex {list : List Estimate} {out : List Int} {e_ : Estimate} {sgm_ : Int} {rho_ : (List Int)} (h : whileE (spec_l26Of_l6 list out e_) sgm_ = some rho_) : ∃ L0, ∀ L, L0 ≤ L → iter (exec (look t_29) L ir28_b0) ir28_k0 ir28_o0 ir28_r0 L (E_29_l6 list out e_ sgm_) = R_29_l6 list out e_ rho_ := by
 refine loop_ex (E := E_29_l6 list out e_) (R := R_29_l6 list out e_) (fun y => by first | (intro c; cases c) | (rcases y with y | y <;> (intro c; cases c)) | (rcases y with y | y | y <;> (intro c; cases c))) ?_ h
 clear h
 intro j o_ h
 dsimp only [spec_l26Of_l6] at h
 rcases it_some h with ⟨z48, h⟩ | ⟨z48, h⟩
 ·try simp only [go_sem, n1, n2, n3, n4] at z48
  all_goals
  obtain ⟨z49, h⟩ := ck_some h
  have lz49 := ix_lt z49
  have xz49 := getD_mapD Estimate_av list lz49
  try simp only [go_sem] at lz49
  try simp only [go_sem] at xz49
  try simp only [go_sem, n1, n2, n3, n4, z48] at z49
  all_goals
  rcases it_some h with ⟨z50, h⟩ | ⟨z50, h⟩
  ·try simp only [go_sem, n1, n2, n3, n4, z48, z49] at z50
   all_goals
   obtain ⟨z51, h⟩ := ck_some h
   try simp only [go_sem, n1, n2, n3, n4, z48, z49, z50] at z51
   all_goals
   obtain rfl := so_some h
   refine ⟨0, fun L hL => ?_⟩
   simp only [go_sem, ir28, E_29_l6, R_29_l6, ir28_b0, ir28_k0, ir28_o0, ir28_r0, E_29_l1, R_29_l1, ir28_k0, ir28_o0, ir28_r0, E_29_l2, R_29_l2, ir28_k0, ir28_o0, ir28_r0, E_29_l3, R_29_l3, ir28_k0, ir28_o0, ir28_r0, E_29_l4, R_29_l4, ir28_k0, ir28_o0, ir28_r0, E_29_l5, R_29_l5, ir28_k0, ir28_o0, ir28_r0, z48, z49, lz49, xz49, z50, z51]
  ·try simp only [go_sem, n1, n2, n3, n4, z48, z49] at z50
   all_goals
   obtain rfl := so_some h
   refine ⟨0, fun L hL => ?_⟩
   simp only [go_sem, ir28, E_29_l6, R_29_l6, ir28_b0, ir28_k0, ir28_o0, ir28_r0, E_29_l1, R_29_l1, ir28_k0, ir28_o0, ir28_r0, E_29_l2, R_29_l2, ir28_k0, ir28_o0, ir28_r0, E_29_l3, R_29_l3, ir28_k0, ir28_o0, ir28_r0, E_29_l4, R_29_l4, ir28_k0, ir28_o0, ir28_r0, E_29_l5, R_29_l5, ir28_k0, ir28_o0, ir28_r0, z48, z49, lz49, xz49, z50]
 ·try simp only [go_sem, n1, n2, n3, n4] at z48
  all_goals
  obtain rfl := so_some h
  refine ⟨0, fun L hL => ?_⟩
  simp only [go_sem, ir28, E_29_l6, R_29_l6, ir28_b0, ir28_k0, ir28_o0, ir28_r0, E_29_l1, R_29_l1, ir28_k0, ir28_o0, ir28_r0, E_29_l2, R_29_l2, ir28_k0, ir28_o0, ir28_r0, E_29_l3, R_29_l3, ir28_k0, ir28_o0, ir28_r0, E_29_l4, R_29_l4, ir28_k0, ir28_o0, ir28_r0, E_29_l5, R_29_l5, ir28_k0, ir28_o0, ir28_r0, z48]

def E_29_l7 (list : List Estimate) (out : List Int) (e_ : Estimate) : Int → St
 | j => ⟨[.sl 5 (List.map Estimate_av list), .any, .any, .any, .any, .any, .own 3200000, .ptr 5 [Estimate_av e_] 0 0, .any, .int .i64 j, .any], [], [(3200000, ⟨1, List.map (AV.int .i64) out⟩)], true⟩
def R_29_l7 (list : List Estimate) (out : List Int) (e_ : Estimate) (y : (List Int)) : Res := (.exit 0, ⟨[.any, .any, .any, .any, .any, .any, .own 3200000, .any, .any, .any, .any], [], [(3200000, ⟨1, List.map (AV.int .i64) y⟩)], true⟩)
set_option maxHeartbeats 64000000 in
theorem spec_l26Of_l7_ex {list : List Estimate} {out : List Int} {e_ : Estimate} {sgm_ : Int} {rho_ : (List Int)} (h : whileE (spec_l26Of_l7 list out e_) sgm_ = some rho_) : ∃ L0, ∀ L, L0 ≤ L → iter (exec (look t_29) L ir28_b0) ir28_k0 ir28_o0 ir28_r0 L (E_29_l7 list out e_ sgm_) = R_29_l7 list out e_ rho_ := by
 refine loop_ex (E := E_29_l7 list out e_) (R := R_29_l7 list out e_) (fun y => by first | (intro c; cases c) | (rcases y with y | y <;> (intro c; cases c)) | (rcases y with y | y | y <;> (intro c; cases c))) ?_ h
 clear h
 intro j o_ h
 dsimp only [spec_l26Of_l7] at h
 rcases it_some h with ⟨z56, h⟩ | ⟨z56, h⟩
 ·try simp only [go_sem, n1, n2, n3, n4] at z56
  all_goals
  obtain ⟨z57, h⟩ := ck_some h
  have lz57 := ix_lt z57
  have xz57 := getD_mapD Estimate_av list lz57
  try simp only [go_sem] at lz57
  try simp only [go_sem] at xz57
  try simp only [go_sem, n1, n2, n3, n4, z56] at z57
  all_goals
  rcases it_some h with ⟨z58, h⟩ | ⟨z58, h⟩
  ·try simp only [go_sem, n1, n2, n3, n4, z56, z57] at z58
   all_goals
   obtain ⟨z59, h⟩ := ck_some h
   try simp only [go_sem, n1, n2, n3, n4, z56, z57, z58] at z59
   all_goals
   obtain rfl := so_some h
   refine ⟨0, fun L hL => ?_⟩
   simp only [go_sem, ir28, E_29_l7, R_29_l7, ir28_b0, ir28_k0, ir28_o0, ir28_r0, E_29_l1, R_29_l1, ir28_k0, ir28_o0, ir28_r0, E_29_l2, R_29_l2, ir28_k0, ir28_o0, ir28_r0, E_29_l3, R_29_l3, ir28_k0, ir28_o0, ir28_r0, E_29_l4, R_29_l4, ir28_k0, ir28_o0, ir28_r0, E_29_l5, R_29_l5, ir28_k0, ir28_o0, ir28_r0, E_29_l6, R_29_l6, ir28_k0, ir28_o0, ir28_r0, z56, z57, lz57, xz57, z58, z59]
  ·try simp only [go_sem, n1, n2, n3, n4, z56, z57] at z58
   all_goals
   obtain rfl := so_some h
   refine ⟨0, fun L hL => ?_⟩
   simp only [go_sem, ir28, E_29_l7, R_29_l7, ir28_b0, ir28_k0, ir28_o0, ir28_r0, E_29_l1, R_29_l1, ir28_k0, ir28_o0, ir28_r0, E_29_l2, R_29_l2, ir28_k0, ir28_o0, ir28_r0, E_29_l3, R_29_l3, ir28_k0, ir28_o0, ir28_r0, E_29_l4, R_29_l4, ir28_k0, ir28_o0, ir28_r0, E_29_l5, R_29_l5, ir28_k0, ir28_o0, ir28_r0, E_29_l6, R_29_l6, ir28_k0, ir28_o0, ir28_r0, z56, z57, lz57, xz57, z58]
 ·try simp only [go_sem, n1, n2, n3, n4] at z56
  all_goals
  obtain rfl := so_some h
  refine ⟨0, fun L hL => ?_⟩
  simp only [go_sem, ir28, E_29_l7, R_29_l7, ir28_b0, ir28_k0, ir28_o0, ir28_r0, E_29_l1, R_29_l1, ir28_k0, ir28_o0, ir28_r0, E_29_l2, R_29_l2, ir28_k0, ir28_o0, ir28_r0, E_29_l3, R_29_l3, ir28_k0, ir28_o0, ir28_r0, E_29_l4, R_29_l4, ir28_k0, ir28_o0, ir28_r0, E_29_l5, R_29_l5, ir28_k0, ir28_o0, ir28_r0, E_29_l6, R_29_l6, ir28_k0, ir28_o0, ir28_r0, z56]

def E_29_l8 (list : List Estimate) (out : List Int) (e_ : Estimate) : Int → St
 | j => ⟨[.sl 5 (List.map Estimate_av list), .any, .any, .any, .any, .any, .own 3200000, .ptr 5 [Estimate_av e_] 0 0, .any, .int .i64 j, .any], [], [(3200000, ⟨1, List.map (AV.int .i64) out⟩)], true⟩
def R_29_l8 (list : List Estimate) (out : List Int) (e_ : Estimate) (y : (List Int)) : Res := (.exit 0, ⟨[.any, .any, .any, .any, .any, .any, .own 3200000, .any, .any, .any, .any], [], [(3200000, ⟨1, List.map (AV.int .i64) y⟩)], true⟩)
set_option maxHeartbeats 64000000 in
theorem spec_l26Of_l8_ex {list : List Estimate} {out : List Int} {e_ : Estimate} {sgm_ : Int} {rho_ : (List Int)} (h : whileE (spec_l26Of_l8 list out e_) sgm_ = some rho_) : ∃ L0, ∀ L, L0 ≤ L → iter (exec (look t_29) L ir28_b0) ir28_k0 ir28_o0 ir28_r0 L (E_29_l8 list out e_ sgm_) = R_29_l8 list out e_ rho_ := by
 refine loop_ex (E := E_29_l8 list out e_) (R := R_29_l8 list out e_) (fun y => by first | (intro c; cases c) | (rcases y with y | y <;> (intro c; cases c)) | (rcases y with y | y | y <;> (intro c; cases c))) ?_ h
 clear h
 intro j o_ h
 dsimp only [spec_l26Of_l8] at h
 rcases it_some h with ⟨z61, h⟩ | ⟨z61, h⟩
 ·try simp only [go_sem, n1, n2, n3, n4] at z61
  all_goals
  obtain ⟨z62, h⟩ := ck_some h
  have lz62 := ix_lt z62
  have xz62 := getD_mapD Estimate_av list lz62
  try simp only [go_sem] at lz62
  try simp only [go_sem] at xz62
  try simp only [go_sem, n1, n2, n3, n4, z61] at z62
  all_goals
  rcases it_some h with ⟨z63, h⟩ | ⟨z63, h⟩
  ·try simp only [go_sem, n1, n2, n3, n4, z61, z62] at z63
   all_goals
   obtain ⟨z64, h⟩ := ck_some h
   try simp only [go_sem, n1, n2, n3, n4, z61, z62, z63] at z64
   all_goals
   obtain rfl := so_some h
   refine ⟨0, fun L hL => ?_⟩
   simp only [go_sem, ir28, E_29_l8, R_29_l8, ir28_b0, ir28_k0, ir28_o0, ir28_r0, E_29_l1, R_29_l1, ir28_k0, ir28_o0, ir28_r0, E_29_l2, R_29_l2, ir28_k0, ir28_o0, ir28_r0, E_29_l3, R_29_l3, ir28_k0, ir28_o0, ir28_r0, E_29_l4, R_29_l4, ir28_k0, ir28_o0, ir28_r0, E_29_l5, R_29_l5, ir28_k0, ir28_o0, ir28_r0, E_29_l6, R_29_l6, ir28_k0, ir28_o0, ir28_r0, E_29_l7, R_29_l7, ir28_k0, ir28_o0, ir28_r0, z61, z62, lz62, xz62, z63, z64]
  ·try simp only [go_sem, n1, n2, n3, n4, z61, z62] at z63
   all_goals
   obtain rfl := so_some h
   refine ⟨0, fun L hL => ?_⟩
   simp only [go_sem, ir28, E_29_l8, R_29_l8, ir28_b0, ir28_k0, ir28_o0, ir28_r0, E_29_l1, R_29_l1, ir28_k0, ir28_o0, ir28_r0, E_29_l2, R_29_l2, ir28_k0, ir28_o0, ir28_r0, E_29_l3, R_29_l3, ir28_k0, ir28_o0, ir28_r0, E_29_l4, R_29_l4, ir28_k0, ir28_o0, ir28_r0, E_29_l5, R_29_l5, ir28_k0, ir28_o0, ir28_r0, E_29_l6, R_29_l6, ir28_k0, ir28_o0, ir28_r0, E_29_l7, R_29_l7, ir28_k0, ir28_o0, ir28_r0, z61, z62, lz62, xz62, z63]
 ·try simp only [go_sem, n1, n2, n3, n4] at z61
  all_goals
  obtain rfl := so_some h
  refine ⟨0, fun L hL => ?_⟩
  simp only [go_sem, ir28, E_29_l8, R_29_l8, ir28_b0, ir28_k0, ir28_o0, ir28_r0, E_29_l1, R_29_l1, ir28_k0, ir28_o0, ir28_r0, E_29_l2, R_29_l2, ir28_k0, ir28_o0, ir28_r0, E_29_l3, R_29_l3, ir28_k0, ir28_o0, ir28_r0, E_29_l4, R_29_l4, ir28_k0, ir28_o0, ir28_r0, E_29_l5, R_29_l5, ir28_k0, ir28_o0, ir28_r0, E_29_l6, R_29_l6, ir28_k0, ir28_o0, ir28_r0, E_29_l7, R_29_l7, ir28_k0, ir28_o0, ir28_r0, z61]

def E_29_l9 (list : List Estimate) (out : List Int) (e_ : Estimate) : Int → St
 | j => ⟨[.sl 5 (List.map Estimate_av list), .any, .any, .any, .any, .any, .own 3200000, .ptr 5 [Estimate_av e_] 0 0, .any, .int .i64 j, .any], [], [(3200000, ⟨1, List.map (AV.int .i64) out⟩)], true⟩
def R_29_l9 (list : List Estimate) (out : List Int) (e_ : Estimate) (y : (List Int)) : Res := (.exit 0, ⟨[.any, .any, .any, .any, .any, .any, .own 3200000, .any, .any, .any, .any], [], [(3200000, ⟨1, List.map (AV.int .i64) y⟩)], true⟩)
set_option maxHeartbeats 64000000 in
theorem spec_l26Of_l9_ex {list : List Estimate} {out : List Int} {e_ : Estimate} {sgm_ : Int} {rho_ : (List Int)} (h : whileE (spec_l26Of_l9 list out e_) sgm_ = some rho_) : ∃ L0, ∀ L, L0 ≤ L → iter (exec (look t_29) L ir28_b0) ir28_k0 ir28_o0 ir28_r0 L (E_29_l9 list out e_ sgm_) = R_29_l9 list out e_ rho_ := by
 refine loop_ex (E := E_29_l9 list out e_) (R := R_29_l9 list out e_) (fun y => by first | (intro c; cases c) | (rcases y with y | y <;> (intro c; cases c)) | (rcases y with y | y | y <;> (intro c; cases c))) ?_ h
 clear h
 intro j o_ h
 dsimp only [spec_l26Of_l9] at h
 rcases it_some h with ⟨z75, h⟩ | ⟨z75, h⟩
 ·try simp only [go_sem, n1, n2, n3, n4] at z75
  all_goals
  obtain ⟨z76, h⟩ := ck_some h
  have lz76 := ix_lt z76
  have xz76 := getD_mapD Estimate_av list lz76
  try simp only [go_sem] at lz76
  try simp only [go_sem] at xz76
  try simp only [go_sem, n1, n2, n3, n4, z75] at z76
  all_goals
  rcases it_some h with ⟨z77, h⟩ | ⟨z77, h⟩
  ·try simp only [go_sem, n1, n2, n3, n4, z75, z76] at z77
   all_goals
   obtain ⟨z78, h⟩ := ck_some h
   try simp only [go_sem, n1, n2, n3, n4, z75, z76, z77] at z78
   all_goals
   obtain rfl := so_some h
   refine ⟨0, fun L hL => ?_⟩
   simp only [go_sem, ir28, E_29_l9, R_29_l9, ir28_b0, ir28_k0, ir28_o0, ir28_r0, E_29_l1, R_29_l1, ir28_k0, ir28_o0, ir28_r0, E_29_l2, R_29_l2, ir28_k0, ir28_o0, ir28_r0, E_29_l3, R_29_l3, ir28_k0, ir28_o0, ir28_r0, E_29_l4, R_29_l4, ir28_k0, ir28_o0, ir28_r0, E_29_l5, R_29_l5, ir28_k0, ir28_o0, ir28_r0, E_29_l6, R_29_l6, ir28_k0, ir28_o0, ir28_r0, E_29_l7, R_29_l7, ir28_k0, ir28_o0, ir28_r0, E_29_l8, R_29_l8, ir28_k0, ir28_o0, ir28_r0, z75, z76, lz76, xz76, z77, z78]
  ·try simp only [go_sem, n1, n2, n3, n4, z75, z76] at z77
   all_goals
   obtain rfl := so_some h
   refine ⟨0, fun L hL => ?_⟩
   simp only [go_sem, ir28, E_29_l9, R_29_l9, ir28_b0, ir28_k0, ir28_o0, ir28_r0, E_29_l1, R_29_l1, ir28_k0, ir28_o0, ir28_r0, E_29_l2, R_29_l2, ir28_k0, ir28_o0, ir28_r0, E_29_l3, R_29_l3, ir28_k0, ir28_o0, ir28_r0, E_29_l4, R_29_l4, ir28_k0, ir28_o0, ir28_r0, E_29_l5, R_29_l5, ir28_k0, ir28_o0, ir28_r0, E_29_l6, R_29_l6, ir28_k0, ir28_o0, ir28_r0, E_29_l7, R_29_l7, ir28_k0, ir28_o0, ir28_r0, E_29_l8, R_29_l8, ir28_k0, ir28_o0, ir28_r0, z75, z76, lz76, xz76, z77]
 ·try simp only [go_sem, n1, n2, n3, n4] at z75
  all_goals
  obtain rfl := so_some h
  refine ⟨0, fun L hL => ?_⟩
  simp only [go_sem, ir28, E_29_l9, R_29_l9, ir28_b0, ir28_k0, ir28_o0, ir28_r0, E_29_l1, R_29_l1, ir28_k0, ir28_o0, ir28_r0, E_29_l2, R_29_l2, ir28_k0, ir28_o0, ir28_r0, E_29_l3, R_29_l3, ir28_k0, ir28_o0, ir28_r0, E_29_l4, R_29_l4, ir28_k0, ir28_o0, ir28_r0, E_29_l5, R_29_l5, ir28_k0, ir28_o0, ir28_r0, E_29_l6, R_29_l6, ir28_k0, ir28_o0, ir28_r0, E_29_l7, R_29_l7, ir28_k0, ir28_o0, ir28_r0, E_29_l8, R_29_l8, ir28_k0, ir28_o0, ir28_r0, z75]

def E_29_l10 (list : List Estimate) (out : List Int) (e_ : Estimate) : Int → St
 | j => ⟨[.sl 5 (List.map Estimate_av list), .any, .any, .any, .any, .any, .own 3200000, .ptr 5 [Estimate_av e_] 0 0, .any, .int .i64 j, .any], [], [(3200000, ⟨1, List.map (AV.int .i64) out⟩)], true⟩
def R_29_l10 (list : List Estimate) (out : List Int) (e_ : Estimate) (y : (List Int)) : Res := (.exit 0, ⟨[.any, .any, .any, .any, .any, .any, .own 3200000, .any, .any, .any, .any], [], [(3200000, ⟨1, List.map (AV.int .i64) y⟩)], true⟩)
set_option maxHeartbeats 64000000 in
theorem spec_l26Of_l10_ex {list : List Estimate} {out : List Int} {e_ : Estimate} {sgm_ : Int} {rho_ : (List Int)} (h : whileE (spec_l26Of_l10 list out e_) sgm_ = some rho_) : ∃ L0, ∀ L, L0 ≤ L → iter (exec (look t_29) L ir28_b0) ir28_k0 ir28_o0 ir28_r0 L (E_29_l10 list out e_ sgm_) = R_29_l10 list out e_ rho_ := by
 refine loop_ex (E := E_29_l10 list out e_) (R := R_29_l10 list out e_) (fun y => by first | (intro c; cases c) | (rcases y with y | y <;> (intro c; cases c)) | (rcases y with y | y | y <;> (intro c; cases c))) ?_ h
 clear h
 intro j o_ h
 dsimp only [spec_l26Of_l10] at h
 rcases it_some h with ⟨z80, h⟩ | ⟨z80, h⟩
 ·try simp only [go_sem, n1, n2, n3, n4] at z80
  all_goals
  obtain ⟨z81, h⟩ := ck_some h
  have lz81 := ix_lt z81
  have xz81 := getD_mapD Estimate_av list lz81
  try simp only [go_sem] at lz81
  try simp only [go_sem] at xz81
  try simp only [go_sem, n1, n2, n3, n4, z80] at z81
  all_goals
  rcases it_some h with ⟨z82, h⟩ | ⟨z82, h⟩
  ·try simp only [go_sem, n1, n2, n3, n4, z80, z81] at z82
   all_goals
   obtain ⟨z83, h⟩ := ck_some h
   try simp only [go_sem, n1, n2, n3, n4, z80, z81, z82] at z83
   all_goals
   obtain rfl := so_some h
   refine ⟨0, fun L hL => ?_⟩
   simp only [go_sem, ir28, E_29_l10, R_29_l10, ir28_b0, ir28_k0, ir28_o0, ir28_r0, E_29_l1, R_29_l1, ir28_k0, ir28_o0, ir28_r0, E_29_l2, R_29_l2, ir28_k0, ir28_o0, ir28_r0, E_29_l3, R_29_l3, ir28_k0, ir28_o0, ir28_r0, E_29_l4, R_29_l4, ir28_k0, ir28_o0, ir28_r0, E_29_l5, R_29_l5, ir28_k0, ir28_o0, ir28_r0, E_29_l6, R_29_l6, ir28_k0, ir28_o0, ir28_r0, E_29_l7, R_29_l7, ir28_k0, ir28_o0, ir28_r0, E_29_l8, R_29_l8, ir28_k0, ir28_o0, ir28_r0, E_29_l9, R_29_l9, ir28_k0, ir28_o0, ir28_r0, z80, z81, lz81, xz81, z82, z83]
  ·try simp only [go_sem, n1, n2, n3, n4, z80, z81] at z82
   all_goals
   obtain rfl := so_some h
   refine ⟨0, fun L hL => ?_⟩
   simp only [go_sem, ir28, E_29_l10, R_29_l10, ir28_b0, ir28_k0, ir28_o0, ir28_r0, E_29_l1, R_29_l1, ir28_k0, ir28_o0, ir28_r0, E_29_l2, R_29_l2, ir28_k0, ir28_o0, ir28_r0, E_29_l3, R_29_l3, ir28_k0, ir28_o0, ir28_r0, E_29_l4, R_29_l4, ir28_k0, ir28_o0, ir28_r0, E_29_l5, R_29_l5, ir28_k0, ir28_o0, ir28_r0, E_29_l6, R_29_l6, ir28_k0, ir28_o0, ir28_r0, E_29_l7, R_29_l7, ir28_k0, ir28_o0, ir28_r0, E_29_l8, R_29_l8, ir28_k0, ir28_o0, ir28_r0, E_29_l9, R_29_l9, ir28_k0, ir28_o0, ir28_r0, z80, z81, lz81, xz81, z82]
 ·try simp only [go_sem, n1, n2, n3, n4] at z80
  all_goals
  obtain rfl := so_some h
  refine ⟨0, fun L hL => ?_⟩
  simp only [go_sem, ir28, E_29_l10, R_29_l10, ir28_b0, ir28_k0, ir28_o0, ir28_r0, E_29_l1, R_29_l1, ir28_k0, ir28_o0, ir28_r0, E_29_l2, R_29_l2, ir28_k0, ir28_o0, ir28_r0, E_29_l3, R_29_l3, ir28_k0, ir28_o0, ir28_r0, E_29_l4, R_29_l4, ir28_k0, ir28_o0, ir28_r0, E_29_l5, R_29_l5, ir28_k0, ir28_o0, ir28_r0, E_29_l6, R_29_l6, ir28_k0, ir28_o0, ir28_r0, E_29_l7, R_29_l7, ir28_k0, ir28_o0, ir28_r0, E_29_l8, R_29_l8, ir28_k0, ir28_o0, ir28_r0, E_29_l9, R_29_l9, ir28_k0, ir28_o0, ir28_r0, z80]

def E_29_l11 (list : List Estimate) (out : List Int) (e_ : Estimate) : Int → St
 | j => ⟨[.sl 5 (List.map Estimate_av list), .any, .any, .any, .any, .any, .own 3200000, .ptr 5 [Estimate_av e_] 0 0, .any, .int .i64 j, .any], [], [(3200000, ⟨1, List.map (AV.int .i64) out⟩)], true⟩
def R_29_l11 (list : List Estimate) (out : List Int) (e_ : Estimate) (y : (List Int)) : Res := (.exit 0, ⟨[.any, .any, .any, .any, .any, .any, .own 3200000, .any, .any, .any, .any], [], [(3200000, ⟨1, List.map (AV.int .i64) y⟩)], true⟩)
set_option maxHeartbeats 64000000 in
theorem spec_l26Of_l11_ex {list : List Estimate} {out : List Int} {e_ : Estimate} {sgm_ : Int} {rho_ : (List Int)} (h : whileE (spec_l26Of_l11 list out e_) sgm_ = some rho_) : ∃ L0, ∀ L, L0 ≤ L → iter (exec (look t_29) L ir28_b0) ir28_k0 ir28_o0 ir28_r0 L (E_29_l11 list out e_ sgm_) = R_29_l11 list out e_ rho_ := by
 refine loop_ex (E := E_29_l11 list out e_) (R := R_29_l11 list out e_) (fun y => by first | (intro c; cases c) | (rcases y with y | y <;> (intro c; cases c)) | (rcases y with y | y | y <;> (intro c; cases c))) ?_ h
 clear h
 intro j o_ h
 dsimp only [spec_l26Of_l11] at h
 rcases it_some h with ⟨z88, h⟩ | ⟨z88, h⟩
 ·try simp only [go_sem, n1, n2, n3, n4] at z88
  all_goals
  obtain ⟨z89, h⟩ := ck_some h
  have lz89 := ix_lt z89
  have xz89 := getD_mapD Estimate_av list lz89
  try simp only [go_sem] at lz89
  try simp only [go_sem] at xz89
  try simp only [go_sem, n1, n2, n3, n4, z88] at z89
  all_goals
  rcases it_some h with ⟨z90, h⟩ | ⟨z90, h⟩
  ·try simp only [go_sem, n1, n2, n3, n4, z88, z89] at z90
   all_goals
   obtain ⟨z91, h⟩ := ck_some h
   try simp only [go_sem, n1, n2, n3, n4, z88, z89, z90] at z91
   all_goals
   obtain rfl := so_some h
   refine ⟨0, fun L hL => ?_⟩
   simp only [go_sem, ir28, E_29_l11, R_29_l11, ir28_b0, ir28_k0, ir28_o0, ir28_r0, E_29_l1, R_29_l1, ir28_k0, ir28_o0, ir28_r0, E_29_l2, R_29_l2, ir28_k0, ir28_o0, ir28_r0, E_29_l3, R_29_l3, ir28_k0, ir28_o0, ir28_r0, E_29_l4, R_29_l4, ir28_k0, ir28_o0, ir28_r0, E_29_l5, R_29_l5, ir28_k0, ir28_o0, ir28_r0, E_29_l6, R_29_l6, ir28_k0, ir28_o0, ir28_r0, E_29_l7, R_29_l7, ir28_k0, ir28_o0, ir28_r0, E_29_l8, R_29_l8, ir28_k0, ir28_o0, ir28_r0, E_29_l9, R_29_l9, ir28_k0, ir28_o0, ir28_r0, E_29_l10, R_29_l10, ir28_k0, ir28_o0, ir28_r0, z88, z89, lz89, xz89, z90, z91]
  ·try simp only [go_sem, n1, n2, n3, n4, z88, z89] at z90
   all_goals
   obtain rfl := so_some h
   refine ⟨0, fun L hL => ?_⟩
   simp only [go_sem, ir28, E_29_l11, R_29_l11, ir28_b0, ir28_k0, ir28_o0, ir28_r0, E_29_l1, R_29_l1, ir28_k0, ir28_o0, ir28_r0, E_29_l2, R_29_l2, ir28_k0, ir28_o0, ir28_r0, E_29_l3, R_29_l3, ir28_k0, ir28_o0, ir28_r0, E_29_l4, R_29_l4, ir28_k0, ir28_o0, ir28_r0, E_29_l5, R_29_l5, ir28_k0, ir28_o0, ir28_r0, E_29_l6, R_29_l6, ir28_k0, ir28_o0, ir28_r0, E_29_l7, R_29_l7, ir28_k0, ir28_o0, ir28_r0, E_29_l8, R_29_l8, ir28_k0, ir28_o0, ir28_r0, E_29_l9, R_29_l9, ir28_k0, ir28_o0, ir28_r0, E_29_l10, R_29_l10, ir28_k0, ir28_o0, ir28_r0, z88, z89, lz89, xz89, z90]
 ·try simp only [go_sem, n1, n2, n3, n4] at z88
  all_goals
  obtain rfl := so_some h
  refine ⟨0, fun L hL => ?_⟩
  simp only [go_sem, ir28, E_29_l11, R_29_l11, ir28_b0, ir28_k0, ir28_o0, ir28_r0, E_29_l1, R_29_l1, ir28_k0, ir28_o0, ir28_r0, E_29_l2, R_29_l2, ir28_k0, ir28_o0, ir28_r0, E_29_l3, R_29_l3, ir28_k0, ir28_o0, ir28_r0, E_29_l4, R_29_l4, ir28_k0, ir28_o0, ir28_r0, E_29_l5, R_29_l5, ir28_k0, ir28_o0, ir28_r0, E_29_l6, R_29_l6, ir28_k0, ir28_o0, ir28_r0, E_29_l7, R_29_l7, ir28_k0, ir28_o0, ir28_r0, E_29_l8, R_29_l8, ir28_k0, ir28_o0, ir28_r0, E_29_l9, R_29_l9, ir28_k0, ir28_o0, ir28_r0, E_29_l10, R_29_l10, ir28_k0, ir28_o0, ir28_r0, z88]

def E_29_l12 (list : List Estimate) (out : List Int) (e_ : Estimate) : Int → St
 | j => ⟨[.sl 5 (List.map Estimate_av list), .any, .any, .any, .any, .any, .own 3200000, .ptr 5 [Estimate_av e_] 0 0, .any, .int .i64 j, .any], [], [(3200000, ⟨1, List.map (AV.int .i64) out⟩)], true⟩
def R_29_l12 (list : List Estimate) (out : List Int) (e_ : Estimate) (y : (List Int)) : Res := (.exit 0, ⟨[.any, .any, .any, .any, .any, .any, .own 3200000, .any, .any, .any, .any], [], [(3200000, ⟨1, List.map (AV.int .i64) y⟩)], true⟩)
set_option maxHeartbeats 64000000 in
theorem spec_l26Of_l12_ex {list : List Estimate} {out : List Int} {e_ : Estimate} {sgm_ : Int} {rho_ : (List Int)} (h : whileE (spec_l26Of_l12 list out e_) sgm_ = some rho_) : ∃ L0, ∀ L, L0 ≤ L → iter (exec (look t_29) L ir28_b0) ir28_k0 ir28_o0 ir28_r0 L (E_29_l12 list out e_ sgm_) = R_29_l12 list out e_ rho_ := by
 refine loop_ex (E := E_29_l12 list out e_) (R := R_29_l12 list out e_) (fun y => by first | (intro c; cases c) | (rcases y with y | y <;> (intro c; cases c)) | (rcases y with y | y | y <;> (intro c; cases c))) ?_ h
 clear h
 intro j o_ h
 dsimp only [spec_l26Of_l12] at h
 rcases it_some h with ⟨z93, h⟩ | ⟨z93, h⟩
 ·try simp only [go_sem, n1, n2, n3, n4] at z93
  all_goals
  obtain ⟨z94, h⟩ := ck_some h
  have lz94 := ix_lt z94
  have xz94 := getD_mapD Estimate_av list lz94
  try simp only [go_sem] at lz94
  try simp only [go_sem] at xz94
  try simp only [go_sem, n1, n2, n3, n4, z93] at z94
  all_goals
  rcases it_some h with ⟨z95, h⟩ | ⟨z95, h⟩
  ·try simp only [go_sem, n1, n2, n3, n4, z93, z94] at z95
   all_goals
   obtain ⟨z96, h⟩ := ck_some h
   try simp only [go_sem, n1, n2, n3, n4, z93, z94, z95] at z96
   all_goals
   obtain rfl := so_some h
   refine ⟨0, fun L hL => ?_⟩
   simp only [go_sem, ir28, E_29_l12, R_29_l12, ir28_b0, ir28_k0, ir28_o0, ir28_r0, E_29_l1, R_29_l1, ir28_k0, ir28_o0, ir28_r0, E_29_l2, R_29_l2, ir28_k0, ir28_o0, ir28_r0, E_29_l3, R_29_l3, ir28_k0, ir28_o0, ir28_r0, E_29_l4, R_29_l4, ir28_k0, ir28_o0, ir28_r0, E_29_l5, R_29_l5, ir28_k0, ir28_o0, ir28_r0, E_29_l6, R_29_l6, ir28_k0, ir28_o0, ir28_r0, E_29_l7, R_29_l7, ir28_k0, ir28_o0, ir28_r0, E_29_l8, R_29_l8, ir28_k0, ir28_o0, ir28_r0, E_29_l9, R_29_l9, ir28_k0, ir28_o0, ir28_r0, E_29_l10, R_29_l10, ir28_k0, ir28_o0, ir28_r0, E_29_l11, R_29_l11, ir28_k0, ir28_o0, ir28_r0, z93, z94, lz94, xz94, z95, z96]
  ·try simp only [go_sem, n1, n2, n3, n4, z93, z94] at z95
   all_goals
   obtain rfl := so_some h
   refine ⟨0, fun L hL => ?_⟩
   simp only [go_sem, ir28, E_29_l12, R_29_l12, ir28_b0, ir28_k0, ir28_o0, ir28_r0, E_29_l1, R_29_l1, ir28_k0, ir28_o0, ir28_r0, E_29_l2, R_29_l2, ir28_k0, ir28_o0, ir28_r0, E_29_l3, R_29_l3, ir28_k0, ir28_o0, ir28_r0, E_29_l4, R_29_l4, ir28_k0, ir28_o0, ir28_r0, E_29_l5, R_29_l5, ir28_k0, ir28_o0, ir28_r0, E_29_l6, R_29_l6, ir28_k0, ir28_o0, ir28_r0, E_29_l7, R_29_l7, ir28_k0, ir28_o0, ir28_r0, E_29_l8, R_29_l8, ir28_k0, ir28_o0, ir28_r0, E_29_l9, R_29_l9, ir28_k0, ir28_o0, ir28_r0, E_29_l10, R_29_l10, ir28_k0, ir28_o0, ir28_r0, E_29_l11, R_29_l11, ir28_k0, ir28_o0, ir28_r0, z93, z94, lz94, xz94, z95]
 ·try simp only [go_sem, n1, n2, n3, n4] at z93
  all_goals
  obtain rfl := so_some h
  refine ⟨0, fun L hL => ?_⟩
  simp only [go_sem, ir28, E_29_l12, R_29_l12, ir28_b0, ir28_k0, ir28_o0, ir28_r0, E_29_l1, R_29_l1, ir28_k0, ir28_o0, ir28_r0, E_29_l2, R_29_l2, ir28_k0, ir28_o0, ir28_r0, E_29_l3, R_29_l3, ir28_k0, ir28_o0, ir28_r0, E_29_l4, R_29_l4, ir28_k0, ir28_o0, ir28_r0, E_29_l5, R_29_l5, ir28_k0, ir28_o0, ir28_r0, E_29_l6, R_29_l6, ir28_k0, ir28_o0, ir28_r0, E_29_l7, R_29_l7, ir28_k0, ir28_o0, ir28_r0, E_29_l8, R_29_l8, ir28_k0, ir28_o0, ir28_r0, E_29_l9, R_29_l9, ir28_k0, ir28_o0, ir28_r0, E_29_l10, R_29_l10, ir28_k0, ir28_o0, ir28_r0, E_29_l11, R_29_l11, ir28_k0, ir28_o0, ir28_r0, z93]

def E_29_l13 (list : List Estimate) (out : List Int) (e_ : Estimate) : Int → St
 | j => ⟨[.sl 5 (List.map Estimate_av list), .any, .any, .any, .any, .any, .own 3200000, .ptr 5 [Estimate_av e_] 0 0, .any, .int .i64 j, .any], [], [(3200000, ⟨1, List.map (AV.int .i64) out⟩)], true⟩
def R_29_l13 (list : List Estimate) (out : List Int) (e_ : Estimate) (y : (List Int)) : Res := (.exit 0, ⟨[.any, .any, .any, .any, .any, .any, .own 3200000, .any, .any, .any, .any], [], [(3200000, ⟨1, List.map (AV.int .i64) y⟩)], true⟩)
set_option maxHeartbeats 64000000 in
theorem spec_l26Of_l13_ex {list : List Estimate} {out : List Int} {e_ : Estimate} {sgm_ : Int} {rho_ : (List Int)} (h : whileE (spec_l26Of_l13 list out e_) sgm_ = some rho_) : ∃ L0, ∀ L, L0 ≤ L → iter (exec (look t_29) L ir28_b0) ir28_k0 ir28_o0 ir28_r0 L (E_29_l13 list out e_ sgm_) = R_29_l13 list out e_ rho_ := by
 refine loop_ex (E := E_29_l13 list out e_) (R := R_29_l13 list out e_) (fun y => by first | (intro c; cases c) | (rcases y with y | y <;> (intro c; cases c)) | (rcases y with y | y | y <;> (intro c; cases c))) ?_ h
 clear h
 intro j o_ h
 dsimp only [spec_l26Of_l13] at h
 rcases it_some h with ⟨z104, h⟩ | ⟨z104, h⟩
 ·try simp only [go_sem, n1, n2, n3, n4] at z104
  all_goals
  obtain ⟨z105, h⟩ := ck_some h
  have lz105 := ix_lt z105
  have xz105 := getD_mapD Estimate_av list lz105
  try simp only [go_sem] at lz105
  try simp only [go_sem] at xz105
  try simp only [go_sem, n1, n2, n3, n4, z104] at z105
  all_goals
  rcases it_some h with ⟨z106, h⟩ | ⟨z106, h⟩
  ·try simp only [go_sem, n1, n2, n3, n4, z104, z105] at z106
   all_goals
   obtain ⟨z107, h⟩ := ck_some h
   try simp only [go_sem, n1, n2, n3, n4, z104, z105, z106] at z107
   all_goals
   obtain rfl := so_some h
   refine ⟨0, fun L hL => ?_⟩
   simp only [go_sem, ir28, E_29_l13, R_29_l13, ir28_b0, ir28_k0, ir28_o0, ir28_r0, E_29_l1, R_29_l1, ir28_k0, ir28_o0, ir28_r0, E_29_l2, R_29_l2, ir28_k0, ir28_o0, ir28_r0, E_29_l3, R_29_l3, ir28_k0, ir28_o0, ir28_r0, E_29_l4, R_29_l4, ir28_k0, ir28_o0, ir28_r0, E_29_l5, R_29_l5, ir28_k0, ir28_o0, ir28_r0, E_29_l6, R_29_l6, ir28_k0, ir28_o0, ir28_r0, E_29_l7, R_29_l7, ir28_k0, ir28_o0, ir28_r0, E_29_l8, R_29_l8, ir28_k0, ir28_o0, ir28_r0, E_29_l9, R_29_l9, ir28_k0, ir28_o0, ir28_r0, E_29_l10, R_29_l10, ir28_k0, ir28_o0, ir28_r0, E_29_l11, R_29_l11, ir28_k0, ir28_o0, ir28_r0, E_29_l12, R_29_l12, ir28_k0, ir28_o0, ir28_r0, z104, z105, lz105, xz105, z106, z107]
  ·try simp only [go_sem, n1, n2, n3, n4, z104, z105] at z106
   all_goals
   obtain rfl := so_some h
   refine ⟨0, fun L hL => ?_⟩
   simp only [go_sem, ir28, E_29_l13, R_29_l13, ir28_b0, ir28_k0, ir28_o0, ir28_r0, E_29_l1, R_29_l1, ir28_k0, ir28_o0, ir28_r0, E_29_l2, R_29_l2, ir28_k0, ir28_o0, ir28_r0, E_29_l3, R_29_l3, ir28_k0, ir28_o0, ir28_r0, E_29_l4, R_29_l4, ir28_k0, ir28_o0, ir28_r0, E_29_l5, R_29_l5, ir28_k0, ir28_o0, ir28_r0, E_29_l6, R_29_l6, ir28_k0, ir28_o0, ir28_r0, E_29_l7, R_29_l7, ir28_k0, ir28_o0, ir28_r0, E_29_l8, R_29_l8, ir28_k0, ir28_o0, ir28_r0, E_29_l9, R_29_l9, ir28_k0, ir28_o0, ir28_r0, E_29_l10, R_29_l10, ir28_k0, ir28_o0, ir28_r0, E_29_l11, R_29_l11, ir28_k0, ir28_o0, ir28_r0, E_29_l12, R_29_l12, ir28_k0, ir28_o0, ir28_r0, z104, z105, lz105, xz105, z106]
 ·try simp only [go_sem, n1, n2, n3, n4] at z104
  all_goals
  obtain rfl := so_some h
  refine ⟨0, fun L hL => ?_⟩
  simp only [go_sem, ir28, E_29_l13, R_29_l13, ir28_b0, ir28_k0, ir28_o0, ir28_r0, E_29_l1, R_29_l1, ir28_k0, ir28_o0, ir28_r0, E_29_l2, R_29_l2, ir28_k0, ir28_o0, ir28_r0, E_29_l3, R_29_l3, ir28_k0, ir28_o0, ir28_r0, E_29_l4, R_29_l4, ir28_k0, ir28_o0, ir28_r0, E_29_l5, R_29_l5, ir28_k0, ir28_o0, ir28_r0, E_29_l6, R_29_l6, ir28_k0, ir28_o0, ir28_r0, E_29_l7, R_29_l7, ir28_k0, ir28_o0, ir28_r0, E_29_l8, R_29_l8, ir28_k0, ir28_o0, ir28_r0, E_29_l9, R_29_l9, ir28_k0, ir28_o0, ir28_r0, E_29_l10, R_29_l10, ir28_k0, ir28_o0, ir28_r0, E_29_l11, R_29_l11, ir28_k0, ir28_o0, ir28_r0, E_29_l12, R_29_l12, ir28_k0, ir28_o0, ir28_r0, z104]

def E_29_l14 (list : List Estimate) (out : List Int) (e_ : Estimate) : Int → St
 | j => ⟨[.sl 5 (List.map Estimate_av list), .any, .any, .any, .any, .any, .own 3200000, .ptr 5 [Estimate_av e_] 0 0, .any, .int .i64 j, .any], [], [(3200000, ⟨1, List.map (AV.int .i64) out⟩)], true⟩
def R_29_l14 (list : List Estimate) (out : List Int) (e_ : Estimate) (y : (List Int)) : Res := (.exit 0, ⟨[.any, .any, .any, .any, .any, .any, .own 3200000, .any, .any, .any, .any], [], [(3200000, ⟨1, List.map (AV.int .i64) y⟩)], true⟩)
set_option maxHeartbeats 64000000 in
theorem spec_l26Of_l14_ex {list : List Estimate} {out : List Int} {e_ : Estimate} {sgm_ : Int} {rho_ : (List Int)} (h : whileE (spec_l26Of_l14 list out e_) sgm_ = some rho_) : ∃ L0, ∀ L, L0 ≤ L → iter (exec (look t_29) L ir28_b0) ir28_k0 ir28_o0 ir28_r0 L (E_29_l14 list out e_ sgm_) = R_29_l14 list out e_ rho_ := by
 refine loop_ex (E := E_29_l14 list out e_) (R := R_29_l14 list out e_) (fun y => by first | (intro c; cases c) | (rcases y with y | y <;> (intro c; cases c)) | (rcases y with y | y | y <;> (intro c; cases c))) ?_ h
 clear h
 intro j o_ h
 dsimp only [spec_l26Of_l14] at h
 rcases it_some h with ⟨z109, h⟩ | ⟨z109, h⟩
 ·try simp only [go_sem, n1, n2, n3, n4] at z109
  all_goals
  obtain ⟨z110, h⟩ := ck_some h
  have lz110 := ix_lt z110
  have xz110 := getD_mapD Estimate_av list lz110
  try simp only [go_sem] at lz110
  try simp only [go_sem] at xz110
  try simp only [go_sem, n1, n2, n3, n4, z109] at z110
  all_goals
  rcases it_some h with ⟨z111, h⟩ | ⟨z111, h⟩
  ·try simp only [go_sem, n1, n2, n3, n4, z109, z110] at z111
   all_goals
   obtain ⟨z112, h⟩ := ck_some h
   try simp only [go_sem, n1, n2, n3, n4, z109, z110, z111] at z112
   all_goals
   obtain rfl := so_some h
   refine ⟨0, fun L hL => ?_⟩
   simp only [go_sem, ir28, E_29_l14, R_29_l14, ir28_b0, ir28_k0, ir28_o0, ir28_r0, E_29_l1, R_29_l1, ir28_k0, ir28_o0, ir28_r0, E_29_l2, R_29_l2, ir28_k0, ir28_o0, ir28_r0, E_29_l3, R_29_l3, ir28_k0, ir28_o0, ir28_r0, E_29_l4, R_29_l4, ir28_k0, ir28_o0, ir28_r0, E_29_l5, R_29_l5, ir28_k0, ir28_o0, ir28_r0, E_29_l6, R_29_l6, ir28_k0, ir28_o0, ir28_r0, E_29_l7, R_29_l7, ir28_k0, ir28_o0, ir28_r0, E_29_l8, R_29_l8, ir28_k0, ir28_o0, ir28_r0, E_29_l9, R_29_l9, ir28_k0, ir28_o0, ir28_r0, E_29_l10, R_29_l10, ir28_k0, ir28_o0, ir28_r0, E_29_l11, R_29_l11, ir28_k0, ir28_o0, ir28_r0, E_29_l12, R_29_l12, ir28_k0, ir28_o0, ir28_r0, E_29_l13, R_29_l13, ir28_k0, ir28_o0, ir28_r0, z109, z110, lz110, xz110, z111, z112]
  ·try simp only [go_sem, n1, n2, n3, n4, z109, z110] at z111
   all_goals
   obtain rfl := so_some h
   refine ⟨0, fun L hL => ?_⟩
   simp only [go_sem, ir28, E_29_l14, R_29_l14, ir28_b0, ir28_k0, ir28_o0, ir28_r0, E_29_l1, R_29_l1, ir28_k0, ir28_o0, ir28_r0, E_29_l2, R_29_l2, ir28_k0, ir28_o0, ir28_r0, E_29_l3, R_29_l3, ir28_k0, ir28_o0, ir28_r0, E_29_l4, R_29_l4, ir28_k0, ir28_o0, ir28_r0, E_29_l5, R_29_l5, ir28_k0, ir28_o0, ir28_r0, E_29_l6, R_29_l6, ir28_k0, ir28_o0, ir28_r0, E_29_l7, R_29_l7, ir28_k0, ir28_o0, ir28_r0, E_29_l8, R_29_l8, ir28_k0, ir28_o0, ir28_r0, E_29_l9, R_29_l9, ir28_k0, ir28_o0, ir28_r0, E_29_l10, R_29_l10, ir28_k0, ir28_o0, ir28_r0, E_29_l11, R_29_l11, ir28_k0, ir28_o0, ir28_r0, E_29_l12, R_29_l12, ir28_k0, ir28_o0, ir28_r0, E_29_l13, R_29_l13, ir28_k0, ir28_o0, ir28_r0, z109, z110, lz110, xz110, z111]
 ·try simp only [go_sem, n1, n2, n3, n4] at z109
  all_goals
  obtain rfl := so_some h
  refine ⟨0, fun L hL => ?_⟩
  simp only [go_sem, ir28, E_29_l14, R_29_l14, ir28_b0, ir28_k0, ir28_o0, ir28_r0, E_29_l1, R_29_l1, ir28_k0, ir28_o0, ir28_r0, E_29_l2, R_29_l2, ir28_k0, ir28_o0, ir28_r0, E_29_l3, R_29_l3, ir28_k0, ir28_o0, ir28_r0, E_29_l4, R_29_l4, ir28_k0, ir28_o0, ir28_r0, E_29_l5, R_29_l5, ir28_k0, ir28_o0, ir28_r0, E_29_l6, R_29_l6, ir28_k0, ir28_o0, ir28_r0, E_29_l7, R_29_l7, ir28_k0, ir28_o0, ir28_r0, E_29_l8, R_29_l8, ir28_k0, ir28_o0, ir28_r0, E_29_l9, R_29_l9, ir28_k0, ir28_o0, ir28_r0, E_29_l10, R_29_l10, ir28_k0, ir28_o0, ir28_r0, E_29_l11, R_29_l11, ir28_k0, ir28_o0, ir28_r0, E_29_l12, R_29_l12, ir28_k0, ir28_o0, ir28_r0, E_29_l13, R_29_l13, ir28_k0, ir28_o0, ir28_r0, z109]

def E_29_l15 (list : List Estimate) (out : List Int) (e_ : Estimate) : Int → St
 | j => ⟨[.sl 5 (List.map Estimate_av list), .any, .any, .any, .any, .any, .own 3200000, .ptr 5 [Estimate_av e_] 0 0, .any, .int .i64 j, .any], [], [(3200000, ⟨1, List.map (AV.int .i64) out⟩)], true⟩
def R_29_l15 (list : List Estimate) (out : List Int) (e_ : Estimate) (y : (List Int)) : Res := (.exit 0, ⟨[.any, .any, .any, .any, .any, .any, .own 3200000, .any, .any, .any, .any], [], [(3200000, ⟨1, List.map (AV.int .i64) y⟩)], true⟩)
set_option maxHeartbeats 64000000 in
theorem spec_l26Of_l15_ex {list : List Estimate} {out : List Int} {e_ : Estimate} {sgm_ : Int} {rho_ : (List Int)} (h : whileE (spec_l26Of_l15 list out e_) sgm_ = some rho_) : ∃ L0, ∀ L, L0 ≤ L → iter (exec (look t_29) L ir28_b0) ir28_k0 ir28_o0 ir28_r0 L (E_29_l15 list out e_ sgm_) = R_29_l15 list out e_ rho_ := by
 refine loop_ex (E := E_29_l15 list out e_) (R := R_29_l15 list out e_) (fun y => by first | (intro c; cases c) | (rcases y with y | y <;> (intro c; cases c)) | (rcases y with y | y | y <;> (intro c; cases c))) ?_ h
 clear h
 intro j o_ h
 dsimp only [spec_l26Of_l15] at h
 rcases it_some h with ⟨z117, h⟩ | ⟨z117, h⟩
 ·try simp only [go_sem, n1, n2, n3, n4] at z117
  all_goals
  obtain ⟨z118, h⟩ := ck_some h
  have lz118 := ix_lt z118
  have xz118 := getD_mapD Estimate_av list lz118
  try simp only [go_sem] at lz118
  try simp only [go_sem] at xz118
  try simp only [go_sem, n1, n2, n3, n4, z117] at z118
  all_goals
  rcases it_some h with ⟨z119, h⟩ | ⟨z119, h⟩
  ·try simp only [go_sem, n1, n2, n3, n4, z117, z118] at z119
   all_goals
   obtain ⟨z120, h⟩ := ck_some h
   try simp only [go_sem, n1, n2, n3, n4, z117, z118, z119] at z120
   all_goals
   obtain rfl := so_some h
   refine ⟨0, fun L hL => ?_⟩
   simp only [go_sem, ir28, E_29_l15, R_29_l15, ir28_b0, ir28_k0, ir28_o0, ir28_r0, E_29_l1, R_29_l1, ir28_k0, ir28_o0, ir28_r0, E_29_l2, R_29_l2, ir28_k0, ir28_o0, ir28_r0, E_29_l3, R_29_l3, ir28_k0, ir28_o0, ir28_r0, E_29_l4, R_29_l4, ir28_k0, ir28_o0, ir28_r0, E_29_l5, R_29_l5, ir28_k0, ir28_o0, ir28_r0, E_29_l6, R_29_l6, ir28_k0, ir28_o0, ir28_r0, E_29_l7, R_29_l7, ir28_k0, ir28_o0, ir28_r0, E_29_l8, R_29_l8, ir28_k0, ir28_o0, ir28_r0, E_29_l9, R_29_l9, ir28_k0, ir28_o0, ir28_r0, E_29_l10, R_29_l10, ir28_k0, ir28_o0, ir28_r0, E_29_l11, R_29_l11, ir28_k0, ir28_o0, ir28_r0, E_29_l12, R_29_l12, ir28_k0, ir28_o0, ir28_r0, E_29_l13, R_29_l13, ir28_k0, ir28_o0, ir28_r0, E_29_l14, R_29_l14, ir28_k0, ir28_o0, ir28_r0, z117, z118, lz118, xz118, z119, z120]
  ·try simp only [go_sem, n1, n2, n3, n4, z117, z118] at z119
   all_goals
   obtain rfl := so_some h
   refine ⟨0, fun L hL => ?_⟩
   simp only [go_sem, ir28, E_29_l15, R_29_l15, ir28_b0, ir28_k0, ir28_o0, ir28_r0, E_29_l1, R_29_l1, ir28_k0, ir28_o0, ir28_r0, E_29_l2, R_29_l2, ir28_k0, ir28_o0, ir28_r0, E_29_l3, R_29_l3, ir28_k0, ir28_o0, ir28_r0, E_29_l4, R_29_l4, ir28_k0, ir28_o0, ir28_r0, E_29_l5, R_29_l5, ir28_k0, ir28_o0, ir28_r0, E_29_l6, R_29_l6, ir28_k0, ir28_o0, ir28_r0, E_29_l7, R_29_l7, ir28_k0, ir28_o0, ir28_r0, E_29_l8, R_29_l8, ir28_k0, ir28_o0, ir28_r0, E_29_l9, R_29_l9, ir28_k0, ir28_o0, ir28_r0, E_29_l10, R_29_l10, ir28_k0, ir28_o0, ir28_r0, E_29_l11, R_29_l11, ir28_k0, ir28_o0, ir28_r0, E_29_l12, R_29_l12, ir28_k0, ir28_o0, ir28_r0, E_29_l13, R_29_l13, ir28_k0, ir28_o0, ir28_r0, E_29_l14, R_29_l14, ir28_k0, ir28_o0, ir28_r0, z117, z118, lz118, xz118, z119]
 ·try simp only [go_sem, n1, n2, n3, n4] at z117
  all_goals
  obtain rfl := so_some h
  refine ⟨0, fun L hL => ?_⟩
  simp only [go_sem, ir28, E_29_l15, R_29_l15, ir28_b0, ir28_k0, ir28_o0, ir28_r0, E_29_l1, R_29_l1, ir28_k0, ir28_o0, ir28_r0, E_29_l2, R_29_l2, ir28_k0, ir28_o0, ir28_r0, E_29_l3, R_29_l3, ir28_k0, ir28_o0, ir28_r0, E_29_l4, R_29_l4, ir28_k0, ir28_o0, ir28_r0, E_29_l5, R_29_l5, ir28_k0, ir28_o0, ir28_r0, E_29_l6, R_29_l6, ir28_k0, ir28_o0, ir28_r0, E_29_l7, R_29_l7, ir28_k0, ir28_o0, ir28_r0, E_29_l8, R_29_l8, ir28_k0, ir28_o0, ir28_r0, E_29_l9, R_29_l9, ir28_k0, ir28_o0, ir28_r0, E_29_l10, R_29_l10, ir28_k0, ir28_o0, ir28_r0, E_29_l11, R_29_l11, ir28_k0, ir28_o0, ir28_r0, E_29_l12, R_29_l12, ir28_k0, ir28_o0, ir28_r0, E_29_l13, R_29_l13, ir28_k0, ir28_o0, ir28_r0, E_29_l14, R_29_l14, ir28_k0, ir28_o0, ir28_r0, z117]

def E_29_l16 (list : List Estimate) (out : List Int) (e_ : Estimate) : Int → St
 | j => ⟨[.sl 5 (List.map Estimate_av list), .any, .any, .any, .any, .any, .own 3200000, .ptr 5 [Estimate_av e_] 0 0, .any, .int .i64 j, .any], [], [(3200000, ⟨1, List.map (AV.int .i64) out⟩)], true⟩
def R_29_l16 (list : List Estimate) (out : List Int) (e_ : Estimate) (y : (List Int)) : Res := (.exit 0, ⟨[.any, .any, .any, .any, .any, .any, .own 3200000, .any, .any, .any, .any], [], [(3200000, ⟨1, List.map (AV.int .i64) y⟩)], true⟩)
set_option maxHeartbeats 64000000 in
theorem spec_l26Of_l16_ex {list : List Estimate} {out : List Int} {e_ : Estimate} {sgm_ : Int} {rho_ : (List Int)} (h : whileE (spec_l26Of_l16 list out e_) sgm_ = some rho_) : ∃ L0, ∀ L, L0 ≤ L → iter (exec (look t_29) L ir28_b0) ir28_k0 ir28_o0 ir28_r0 L (E_29_l16 list out e_ sgm_) = R_29_l16 list out e_ rho_ := by
 refine loop_ex (E := E_29_l16 list out e_) (R := R_29_l16 list out e_) (fun y => by first | (intro c; cases c) | (rcases y with y | y <;> (intro c; cases c)) | (rcases y with y | y | y <;> (intro c; cases c))) ?_ h
 clear h
 intro j o_ h
 dsimp only [spec_l26Of_l16] at h
 rcases it_some h with ⟨z122, h⟩ | ⟨z122, h⟩
 ·try simp only [go_sem, n1, n2, n3, n4] at z122
  all_goals
  obtain ⟨z123, h⟩ := ck_some h
  have lz123 := ix_lt z123
  have xz123 := getD_mapD Estimate_av list lz123
  try simp only [go_sem] at lz123
  try simp only [go_sem] at xz123
  try simp only [go_sem, n1, n2, n3, n4, z122] at z123
  all_goals
  rcases it_some h with ⟨z124, h⟩ | ⟨z124, h⟩
  ·try simp only [go_sem, n1, n2, n3, n4, z122, z123] at z124
   all_goals
   obtain ⟨z125, h⟩ := ck_some h
   try simp only [go_sem, n1, n2, n3, n4, z122, z123, z124] at z125
   all_goals
   obtain rfl := so_some h
   refine ⟨0, fun L hL => ?_⟩
   simp only [go_sem, ir28, E_29_l16, R_29_l16, ir28_b0, ir28_k0, ir28_o0, ir28_r0, E_29_l1, R_29_l1, ir28_k0, ir28_o0, ir28_r0, E_29_l2, R_29_l2, ir28_k0, ir28_o0, ir28_r0, E_29_l3, R_29_l3, ir28_k0, ir28_o0, ir28_r0, E_29_l4, R_29_l4, ir28_k0, ir28_o0, ir28_r0, E_29_l5, R_29_l5, ir28_k0, ir28_o0, ir28_r0, E_29_l6, R_29_l6, ir28_k0, ir28_o0, ir28_r0, E_29_l7, R_29_l7, ir28_k0, ir28_o0, ir28_r0, E_29_l8, R_29_l8, ir28_k0, ir28_o0, ir28_r0, E_29_l9, R_29_l9, ir28_k0, ir28_o0, ir28_r0, E_29_l10, R_29_l10, ir28_k0, ir28_o0, ir28_r0, E_29_l11, R_29_l11, ir28_k0, ir28_o0, ir28_r0, E_29_l12, R_29_l12, ir28_k0, ir28_o0, ir28_r0, E_29_l13, R_29_l13, ir28_k0, ir28_o0, ir28_r0, E_29_l14, R_29_l14, ir28_k0, ir28_o0, ir28_r0, E_29_l15, R_29_l15, ir28_k0, ir28_o0, ir28_r0, z122, z123, lz123, xz123, z124, z125]
  ·try simp only [go_sem, n1, n2, n3, n4, z122, z123] at z124
   all_goals
   obtain rfl := so_some h
   refine ⟨0, fun L hL => ?_⟩
   simp only [go_sem, ir28, E_29_l16, R_29_l16, ir28_b0, ir28_k0, ir28_o0, ir28_r0, E_29_l1, R_29_l1, ir28_k0, ir28_o0, ir28_r0, E_29_l2, R_29_l2, ir28_k0, ir28_o0, ir28_r0, E_29_l3, R_29_l3, ir28_k0, ir28_o0, ir28_r0, E_29_l4, R_29_l4, ir28_k0, ir28_o0, ir28_r0, E_29_l5, R_29_l5, ir28_k0, ir28_o0, ir28_r0, E_29_l6, R_29_l6, ir28_k0, ir28_o0, ir28_r0, E_29_l7, R_29_l7, ir28_k0, ir28_o0, ir28_r0, E_29_l8, R_29_l8, ir28_k0, ir28_o0, ir28_r0, E_29_l9, R_29_l9, ir28_k0, ir28_o0, ir28_r0, E_29_l10, R_29_l10, ir28_k0, ir28_o0, ir28_r0, E_29_l11, R_29_l11, ir28_k0, ir28_o0, ir28_r0, E_29_l12, R_29_l12, ir28_k0, ir28_o0, ir28_r0, E_29_l13, R_29_l13, ir28_k0, ir28_o0, ir28_r0, E_29_l14, R_29_l14, ir28_k0, ir28_o0, ir28_r0, E_29_l15, R_29_l15, ir28_k0, ir28_o0, ir28_r0, z122, z123, lz123, xz123, z124]
 ·try simp only [go_sem, n1, n2, n3, n4] at z122
  all_goals
  obtain rfl := so_some h
  refine ⟨0, fun L hL => ?_⟩
  simp only [go_sem, ir28, E_29_l16, R_29_l16, ir28_b0, ir28_k0, ir28_o0, ir28_r0, E_29_l1, R_29_l1, ir28_k0, ir28_o0, ir28_r0, E_29_l2, R_29_l2, ir28_k0, ir28_o0, ir28_r0, E_29_l3, R_29_l3, ir28_k0, ir28_o0, ir28_r0, E_29_l4, R_29_l4, ir28_k0, ir28_o0, ir28_r0, E_29_l5, R_29_l5, ir28_k0, ir28_o0, ir28_r0, E_29_l6, R_29_l6, ir28_k0, ir28_o0, ir28_r0, E_29_l7, R_29_l7, ir28_k0, ir28_o0, ir28_r0, E_29_l8, R_29_l8, ir28_k0, ir28_o0, ir28_r0, E_29_l9, R_29_l9, ir28_k0, ir28_o0, ir28_r0, E_29_l10, R_29_l10, ir28_k0, ir28_o0, ir28_r0, E_29_l11, R_29_l11, ir28_k0, ir28_o0, ir28_r0, E_29_l12, R_29_l12, ir28_k0, ir28_o0, ir28_r0, E_29_l13, R_29_l13, ir28_k0, ir28_o0, ir28_r0, E_29_l14, R_29_l14, ir28_k0, ir28_o0, ir28_r0, E_29_l15, R_29_l15, ir28_k0, ir28_o0, ir28_r0, z122]

set_option maxHeartbeats 64000000 in
theorem Fs_29 {list : List Estimate} {i : Int} {stars : List Star} {observers : List Observer} {margin : Int} {y_ : (List Int)} (h : spec_l26Of list i stars observers margin = some y_) : c_29.F [.sl 5 (List.map Estimate_av list), .int .i64 i, .sl 5 (List.map Star_av stars), .sl 2 (List.map Observer_av observers), .int .i64 margin] = ⟨true, .fresh 1 (List.map (AV.int .i64) y_), [.any, .any, .any, .any, .any]⟩ := by
 refine mkF_E (by simp only [flatA, flatB, flat1, List.all_cons, List.all_nil, Bool.and_self, flatE_map (f := (AV.int .i64)) (fun _ => rfl)]) ?_
 dsimp only [spec_l26Of] at h
 obtain ⟨z1, h⟩ := ck_some h
 have lz1 := ix_lt z1
 have xz1 := getD_mapD Estimate_av list lz1
 try simp only [go_sem] at lz1
 try simp only [go_sem] at xz1
 try simp only [go_sem, n1, n2, n3, n4] at z1
 all_goals
 obtain ⟨y_2, z2, h⟩ := bd_some h
 have fz2 := Fs_27 z2
 try simp only [go_sem, z1] at fz2
 rcases it_some h with ⟨z3, h⟩ | ⟨z3, h⟩
 ·try simp only [go_sem, n1, n2, n3, n4, z1] at z3
  all_goals
  obtain ⟨z4, h⟩ := ck_some h
  try simp only [go_sem, n1, n2, n3, n4, z1, z3] at z4
  all_goals
  obtain ⟨y_5, z5, h⟩ := bd_some h
  have fz5 := Fs_28 z5
  try simp only [go_sem, z1, z3, z4] at fz5
  rcases it_some h with ⟨z6, h⟩ | ⟨z6, h⟩
  ·try simp only [go_sem, n1, n2, n3, n4, z1, z3, z4] at z6
   all_goals
   obtain ⟨z7, h⟩ := ck_some h
   try simp only [go_sem, n1, n2, n3, n4, z1, z3, z4, z6] at z7
   all_goals
   obtain ⟨z8, h⟩ := ck_some h
   rcases or_split z8 with ⟨gz8, z8⟩ | gz8
   ·try simp only [go_sem, n1, n2, n3, n4, z1, z3, z4, z6, z7] at gz8
    all_goals
    have lz8 := ix_lt z8
    have xz8 := getD_mapD Star_av stars lz8
    try simp only [go_sem] at lz8
    try simp only [go_sem] at xz8
    try simp only [go_sem, n1, n2, n3, n4, z1, z3, z4, z6, z7, gz8] at z8
    all_goals
    rcases it_some h with ⟨z9, h⟩ | ⟨z9, h⟩
    ·try simp only [go_sem, n1, n2, n3, n4, z1, z3, z4, z6, z7, gz8, z8] at z9
     all_goals
     obtain ⟨z10, h⟩ := ck_some h
     try simp only [go_sem, n1, n2, n3, n4, z1, z3, z4, z6, z7, gz8, z8, z9] at z10
     all_goals
     obtain ⟨z11, h⟩ := ck_some h
     rcases or_split z11 with ⟨gz11, z11⟩ | gz11
     ·try simp only [go_sem, n1, n2, n3, n4, z1, z3, z4, z6, z7, gz8, z8, z9, z10] at gz11
      all_goals
      have lz11 := ix_lt z11
      have xz11 := getD_mapD Star_av stars lz11
      try simp only [go_sem] at lz11
      try simp only [go_sem] at xz11
      try simp only [go_sem, n1, n2, n3, n4, z1, z3, z4, z6, z7, gz8, z8, z9, z10, gz11] at z11
      all_goals
      rcases it_some h with ⟨z12, h⟩ | ⟨z12, h⟩
      ·try simp only [go_sem, n1, n2, n3, n4, z1, z3, z4, z6, z7, gz8, z8, z9, z10, gz11, z11] at z12
       all_goals
       obtain ⟨z13, h⟩ := ck_some h
       try simp only [go_sem, n1, n2, n3, n4, z1, z3, z4, z6, z7, gz8, z8, z9, z10, gz11, z11, z12] at z13
       all_goals
       obtain ⟨y_18, z18, h⟩ := bd_some h
       obtain ⟨Lz18, ez18⟩ := spec_l26Of_l1_ex z18
       obtain rfl := so_some h
       refine ⟨Lz18, fun L hL => ?_⟩
       have ez18 := ez18 L (by omega)
       try simp only [go_sem, E_29_l1, R_29_l1, ir28_k0, ir28_o0, ir28_r0, E_29_l2, R_29_l2, ir28_k0, ir28_o0, ir28_r0, E_29_l3, R_29_l3, ir28_k0, ir28_o0, ir28_r0, E_29_l4, R_29_l4, ir28_k0, ir28_o0, ir28_r0, E_29_l5, R_29_l5, ir28_k0, ir28_o0, ir28_r0, E_29_l6, R_29_l6, ir28_k0, ir28_o0, ir28_r0, E_29_l7, R_29_l7, ir28_k0, ir28_o0, ir28_r0, E_29_l8, R_29_l8, ir28_k0, ir28_o0, ir28_r0, E_29_l9, R_29_l9, ir28_k0, ir28_o0, ir28_r0, E_29_l10, R_29_l10, ir28_k0, ir28_o0, ir28_r0, E_29_l11, R_29_l11, ir28_k0, ir28_o0, ir28_r0, E_29_l12, R_29_l12, ir28_k0, ir28_o0, ir28_r0, E_29_l13, R_29_l13, ir28_k0, ir28_o0, ir28_r0, E_29_l14, R_29_l14, ir28_k0, ir28_o0, ir28_r0, E_29_l15, R_29_l15, ir28_k0, ir28_o0, ir28_r0, E_29_l16, R_29_l16, ir28_k0, ir28_o0, ir28_r0, z1, z3, z4, z6, z7, gz8, z8, z9, z10, gz11, z11, z12, z13] at ez18
       simp only [go_sem, ir28, E_29_l1, R_29_l1, ir28_k0, ir28_o0, ir28_r0, E_29_l2, R_29_l2, ir28_k0, ir28_o0, ir28_r0, E_29_l3, R_29_l3, ir28_k0, ir28_o0, ir28_r0, E_29_l4, R_29_l4, ir28_k0, ir28_o0, ir28_r0, E_29_l5, R_29_l5, ir28_k0, ir28_o0, ir28_r0, E_29_l6, R_29_l6, ir28_k0, ir28_o0, ir28_r0, E_29_l7, R_29_l7, ir28_k0, ir28_o0, ir28_r0, E_29_l8, R_29_l8, ir28_k0, ir28_o0, ir28_r0, E_29_l9, R_29_l9, ir28_k0, ir28_o0, ir28_r0, E_29_l10, R_29_l10, ir28_k0, ir28_o0, ir28_r0, E_29_l11, R_29_l11, ir28_k0, ir28_o0, ir28_r0, E_29_l12, R_29_l12, ir28_k0, ir28_o0, ir28_r0, E_29_l13, R_29_l13, ir28_k0, ir28_o0, ir28_r0, E_29_l14, R_29_l14, ir28_k0, ir28_o0, ir28_r0, E_29_l15, R_29_l15, ir28_k0, ir28_o0, ir28_r0, E_29_l16, R_29_l16, ir28_k0, ir28_o0, ir28_r0, z1, lz1, xz1, fz2, z3, z4, fz5, z6, z7, gz8, z8, lz8, xz8, z9, z10, gz11, z11, lz11, xz11, z12, z13, ez18]
      ·try simp only [go_sem, n1, n2, n3, n4, z1, z3, z4, z6, z7, gz8, z8, z9, z10, gz11, z11] at z12
       all_goals
       obtain ⟨y_23, z23, h⟩ := bd_some h
       obtain ⟨Lz23, ez23⟩ := spec_l26Of_l2_ex z23
       obtain rfl := so_some h
       refine ⟨Lz23, fun L hL => ?_⟩
       have ez23 := ez23 L (by omega)
       try simp only [go_sem, E_29_l1, R_29_l1, ir28_k0, ir28_o0, ir28_r0, E_29_l2, R_29_l2, ir28_k0, ir28_o0, ir28_r0, E_29_l3, R_29_l3, ir28_k0, ir28_o0, ir28_r0, E_29_l4, R_29_l4, ir28_k0, ir28_o0, ir28_r0, E_29_l5, R_29_l5, ir28_k0, ir28_o0, ir28_r0, E_29_l6, R_29_l6, ir28_k0, ir28_o0, ir28_r0, E_29_l7, R_29_l7, ir28_k0, ir28_o0, ir28_r0, E_29_l8, R_29_l8, ir28_k0, ir28_o0, ir28_r0, E_29_l9, R_29_l9, ir28_k0, ir28_o0, ir28_r0, E_29_l10, R_29_l10, ir28_k0, ir28_o0, ir28_r0, E_29_l11, R_29_l11, ir28_k0, ir28_o0, ir28_r0, E_29_l12, R_29_l12, ir28_k0, ir28_o0, ir28_r0, E_29_l13, R_29_l13, ir28_k0, ir28_o0, ir28_r0, E_29_l14, R_29_l14, ir28_k0, ir28_o0, ir28_r0, E_29_l15, R_29_l15, ir28_k0, ir28_o0, ir28_r0, E_29_l16, R_29_l16, ir28_k0, ir28_o0, ir28_r0, z1, z3, z4, z6, z7, gz8, z8, z9, z10, gz11, z11, z12] at ez23
       simp only [go_sem, ir28, E_29_l1, R_29_l1, ir28_k0, ir28_o0, ir28_r0, E_29_l2, R_29_l2, ir28_k0, ir28_o0, ir28_r0, E_29_l3, R_29_l3, ir28_k0, ir28_o0, ir28_r0, E_29_l4, R_29_l4, ir28_k0, ir28_o0, ir28_r0, E_29_l5, R_29_l5, ir28_k0, ir28_o0, ir28_r0, E_29_l6, R_29_l6, ir28_k0, ir28_o0, ir28_r0, E_29_l7, R_29_l7, ir28_k0, ir28_o0, ir28_r0, E_29_l8, R_29_l8, ir28_k0, ir28_o0, ir28_r0, E_29_l9, R_29_l9, ir28_k0, ir28_o0, ir28_r0, E_29_l10, R_29_l10, ir28_k0, ir28_o0, ir28_r0, E_29_l11, R_29_l11, ir28_k0, ir28_o0, ir28_r0, E_29_l12, R_29_l12, ir28_k0, ir28_o0, ir28_r0, E_29_l13, R_29_l13, ir28_k0, ir28_o0, ir28_r0, E_29_l14, R_29_l14, ir28_k0, ir28_o0, ir28_r0, E_29_l15, R_29_l15, ir28_k0, ir28_o0, ir28_r0, E_29_l16, R_29_l16, ir28_k0, ir28_o0, ir28_r0, z1, lz1, xz1, fz2, z3, z4, fz5, z6, z7, gz8, z8, lz8, xz8, z9, z10, gz11, z11, lz11, xz11, z12, ez23]
     ·rcases and_f gz11 with gz11a | ⟨gz11a, gz11b⟩
      ·try simp only [go_sem, n1, n2, n3, n4, z1, z3, z4, z6, z7, gz8, z8, z9, z10] at gz11a
       all_goals
       (simp_all)
      ·have gz11bn := no_f gz11b
       try simp only [go_sem, n1, n2, n3, n4, z1, z3, z4, z6, z7, gz8, z8, z9, z10] at gz11a
       all_goals
       try simp only [go_sem, n1, n2, n3, n4, z1, z3, z4, z6, z7, gz8, z8, z9, z10, gz11a] at gz11bn
       all_goals
       rcases it_some h with ⟨z12, h⟩ | ⟨z12, h⟩
       ·try simp only [go_sem, n1, n2, n3, n4, z1, z3, z4, z6, z7, gz8, z8, z9, z10, gz11a, gz11bn] at z12
        all_goals
        (simp_all)
       ·try simp only [go_sem, n1, n2, n3, n4, z1, z3, z4, z6, z7, gz8, z8, z9, z10, gz11a, gz11bn] at z12
        all_goals
        obtain ⟨y_23, z23, h⟩ := bd_some h
        obtain ⟨Lz23, ez23⟩ := spec_l26Of_l2_ex z23
        obtain rfl := so_some h
        refine ⟨Lz23, fun L hL => ?_⟩
        have ez23 := ez23 L (by omega)
        try simp only [go_sem, E_29_l1, R_29_l1, ir28_k0, ir28_o0, ir28_r0, E_29_l2, R_29_l2, ir28_k0, ir28_o0, ir28_r0, E_29_l3, R_29_l3, ir28_k0, ir28_o0, ir28_r0, E_29_l4, R_29_l4, ir28_k0, ir28_o0, ir28_r0, E_29_l5, R_29_l5, ir28_k0, ir28_o0, ir28_r0, E_29_l6, R_29_l6, ir28_k0, ir28_o0, ir28_r0, E_29_l7, R_29_l7, ir28_k0, ir28_o0, ir28_r0, E_29_l8, R_29_l8, ir28_k0, ir28_o0, ir28_r0, E_29_l9, R_29_l9, ir28_k0, ir28_o0, ir28_r0, E_29_l10, R_29_l10, ir28_k0, ir28_o0, ir28_r0, E_29_l11, R_29_l11, ir28_k0, ir28_o0, ir28_r0, E_29_l12, R_29_l12, ir28_k0, ir28_o0, ir28_r0, E_29_l13, R_29_l13, ir28_k0, ir28_o0, ir28_r0, E_29_l14, R_29_l14, ir28_k0, ir28_o0, ir28_r0, E_29_l15, R_29_l15, ir28_k0, ir28_o0, ir28_r0, E_29_l16, R_29_l16, ir28_k0, ir28_o0, ir28_r0, z1, z3, z4, z6, z7, gz8, z8, z9, z10, gz11a, gz11bn, z12] at ez23
        simp only [go_sem, ir28, E_29_l1, R_29_l1, ir28_k0, ir28_o0, ir28_r0, E_29_l2, R_29_l2, ir28_k0, ir28_o0, ir28_r0, E_29_l3, R_29_l3, ir28_k0, ir28_o0, ir28_r0, E_29_l4, R_29_l4, ir28_k0, ir28_o0, ir28_r0, E_29_l5, R_29_l5, ir28_k0, ir28_o0, ir28_r0, E_29_l6, R_29_l6, ir28_k0, ir28_o0, ir28_r0, E_29_l7, R_29_l7, ir28_k0, ir28_o0, ir28_r0, E_29_l8, R_29_l8, ir28_k0, ir28_o0, ir28_r0, E_29_l9, R_29_l9, ir28_k0, ir28_o0, ir28_r0, E_29_l10, R_29_l10, ir28_k0, ir28_o0, ir28_r0, E_29_l11, R_29_l11, ir28_k0, ir28_o0, ir28_r0, E_29_l12, R_29_l12, ir28_k0, ir28_o0, ir28_r0, E_29_l13, R_29_l13, ir28_k0, ir28_o0, ir28_r0, E_29_l14, R_29_l14, ir28_k0, ir28_o0, ir28_r0, E_29_l15, R_29_l15, ir28_k0, ir28_o0, ir28_r0, E_29_l16, R_29_l16, ir28_k0, ir28_o0, ir28_r0, z1, lz1, xz1, fz2, z3, z4, fz5, z6, z7, gz8, z8, lz8, xz8, z9, z10, gz11a, gz11bn, z12, ez23]
    ·try simp only [go_sem, n1, n2, n3, n4, z1, z3, z4, z6, z7, gz8, z8] at z9
     all_goals
     obtain ⟨z24, h⟩ := ck_some h
     rcases or_split z24 with ⟨gz24, z24⟩ | gz24
     ·try simp only [go_sem, n1, n2, n3, n4, z1, z3, z4, z6, z7, gz8, z8, z9] at gz24
      all_goals
      have lz24 := ix_lt z24
      have xz24 := getD_mapD Star_av stars lz24
      try simp only [go_sem] at lz24
      try simp only [go_sem] at xz24
      try simp only [go_sem, n1, n2, n3, n4, z1, z3, z4, z6, z7, gz8, z8, z9, gz24] at z24
      all_goals
      rcases it_some h with ⟨z25, h⟩ | ⟨z25, h⟩
      ·try simp only [go_sem, n1, n2, n3, n4, z1, z3, z4, z6, z7, gz8, z8, z9, gz24, z24] at z25
       all_goals
       obtain ⟨z26, h⟩ := ck_some h
       try simp only [go_sem, n1, n2, n3, n4, z1, z3, z4, z6, z7, gz8, z8, z9, gz24, z24, z25] at z26
       all_goals
       obtain ⟨y_31, z31, h⟩ := bd_some h
       obtain ⟨Lz31, ez31⟩ := spec_l26Of_l3_ex z31
       obtain rfl := so_some h
       refine ⟨Lz31, fun L hL => ?_⟩
       have ez31 := ez31 L (by omega)
       try simp only [go_sem, E_29_l1, R_29_l1, ir28_k0, ir28_o0, ir28_r0, E_29_l2, R_29_l2, ir28_k0, ir28_o0, ir28_r0, E_29_l3, R_29_l3, ir28_k0, ir28_o0, ir28_r0, E_29_l4, R_29_l4, ir28_k0, ir28_o0, ir28_r0, E_29_l5, R_29_l5, ir28_k0, ir28_o0, ir28_r0, E_29_l6, R_29_l6, ir28_k0, ir28_o0, ir28_r0, E_29_l7, R_29_l7, ir28_k0, ir28_o0, ir28_r0, E_29_l8, R_29_l8, ir28_k0, ir28_o0, ir28_r0, E_29_l9, R_29_l9, ir28_k0, ir28_o0, ir28_r0, E_29_l10, R_29_l10, ir28_k0, ir28_o0, ir28_r0, E_29_l11, R_29_l11, ir28_k0, ir28_o0, ir28_r0, E_29_l12, R_29_l12, ir28_k0, ir28_o0, ir28_r0, E_29_l13, R_29_l13, ir28_k0, ir28_o0, ir28_r0, E_29_l14, R_29_l14, ir28_k0, ir28_o0, ir28_r0, E_29_l15, R_29_l15, ir28_k0, ir28_o0, ir28_r0, E_29_l16, R_29_l16, ir28_k0, ir28_o0, ir28_r0, z1, z3, z4, z6, z7, gz8, z8, z9, gz24, z24, z25, z26] at ez31
       simp only [go_sem, ir28, E_29_l1, R_29_l1, ir28_k0, ir28_o0, ir28_r0, E_29_l2, R_29_l2, ir28_k0, ir28_o0, ir28_r0, E_29_l3, R_29_l3, ir28_k0, ir28_o0, ir28_r0, E_29_l4, R_29_l4, ir28_k0, ir28_o0, ir28_r0, E_29_l5, R_29_l5, ir28_k0, ir28_o0, ir28_r0, E_29_l6, R_29_l6, ir28_k0, ir28_o0, ir28_r0, E_29_l7, R_29_l7, ir28_k0, ir28_o0, ir28_r0, E_29_l8, R_29_l8, ir28_k0, ir28_o0, ir28_r0, E_29_l9, R_29_l9, ir28_k0, ir28_o0, ir28_r0, E_29_l10, R_29_l10, ir28_k0, ir28_o0, ir28_r0, E_29_l11, R_29_l11, ir28_k0, ir28_o0, ir28_r0, E_29_l12, R_29_l12, ir28_k0, ir28_o0, ir28_r0, E_29_l13, R_29_l13, ir28_k0, ir28_o0, ir28_r0, E_29_l14, R_29_l14, ir28_k0, ir28_o0, ir28_r0, E_29_l15, R_29_l15, ir28_k0, ir28_o0, ir28_r0, E_29_l16, R_29_l16, ir28_k0, ir28_o0, ir28_r0, z1, lz1, xz1, fz2, z3, z4, fz5, z6, z7, gz8, z8, lz8, xz8, z9, gz24, z24, lz24, xz24, z25, z26, ez31]
      ·try simp only [go_sem, n1, n2, n3, n4, z1, z3, z4, z6, z7, gz8, z8, z9, gz24, z24] at z25
       all_goals
       obtain ⟨y_36, z36, h⟩ := bd_some h
       obtain ⟨Lz36, ez36⟩ := spec_l26Of_l4_ex z36
       obtain rfl := so_some h
       refine ⟨Lz36, fun L hL => ?_⟩
       have ez36 := ez36 L (by omega)
       try simp only [go_sem, E_29_l1, R_29_l1, ir28_k0, ir28_o0, ir28_r0, E_29_l2, R_29_l2, ir28_k0, ir28_o0, ir28_r0, E_29_l3, R_29_l3, ir28_k0, ir28_o0, ir28_r0, E_29_l4, R_29_l4, ir28_k0, ir28_o0, ir28_r0, E_29_l5, R_29_l5, ir28_k0, ir28_o0, ir28_r0, E_29_l6, R_29_l6, ir28_k0, ir28_o0, ir28_r0, E_29_l7, R_29_l7, ir28_k0, ir28_o0, ir28_r0, E_29_l8, R_29_l8, ir28_k0, ir28_o0, ir28_r0, E_29_l9, R_29_l9, ir28_k0, ir28_o0, ir28_r0, E_29_l10, R_29_l10, ir28_k0, ir28_o0, ir28_r0, E_29_l11, R_29_l11, ir28_k0, ir28_o0, ir28_r0, E_29_l12, R_29_l12, ir28_k0, ir28_o0, ir28_r0, E_29_l13, R_29_l13, ir28_k0, ir28_o0, ir28_r0, E_29_l14, R_29_l14, ir28_k0, ir28_o0, ir28_r0, E_29_l15, R_29_l15, ir28_k0, ir28_o0, ir28_r0, E_29_l16, R_29_l16, ir28_k0, ir28_o0, ir28_r0, z1, z3, z4, z6, z7, gz8, z8, z9, gz24, z24, z25] at ez36
       simp only [go_sem, ir28, E_29_l1, R_29_l1, ir28_k0, ir28_o0, ir28_r0, E_29_l2, R_29_l2, ir28_k0, ir28_o0, ir28_r0, E_29_l3, R_29_l3, ir28_k0, ir28_o0, ir28_r0, E_29_l4, R_29_l4, ir28_k0, ir28_o0, ir28_r0, E_29_l5, R_29_l5, ir28_k0, ir28_o0, ir28_r0, E_29_l6, R_29_l6, ir28_k0, ir28_o0, ir28_r0, E_29_l7, R_29_l7, ir28_k0, ir28_o0, ir28_r0, E_29_l8, R_29_l8, ir28_k0, ir28_o0, ir28_r0, E_29_l9, R_29_l9, ir28_k0, ir28_o0, ir28_r0, E_29_l10, R_29_l10, ir28_k0, ir28_o0, ir28_r0, E_29_l11, R_29_l11, ir28_k0, ir28_o0, ir28_r0, E_29_l12, R_29_l12, ir28_k0, ir28_o0, ir28_r0, E_29_l13, R_29_l13, ir28_k0, ir28_o0, ir28_r0, E_29_l14, R_29_l14, ir28_k0, ir28_o0, ir28_r0, E_29_l15, R_29_l15, ir28_k0, ir28_o0, ir28_r0, E_29_l16, R_29_l16, ir28_k0, ir28_o0, ir28_r0, z1, lz1, xz1, fz2, z3, z4, fz5, z6, z7, gz8, z8, lz8, xz8, z9, gz24, z24, lz24, xz24, z25, ez36]
     ·rcases and_f gz24 with gz24a | ⟨gz24a, gz24b⟩
      ·try simp only [go_sem, n1, n2, n3, n4, z1, z3, z4, z6, z7, gz8, z8, z9] at gz24a
       all_goals
       (simp_all)
      ·have gz24bn := no_f gz24b
       try simp only [go_sem, n1, n2, n3, n4, z1, z3, z4, z6, z7, gz8, z8, z9] at gz24a
       all_goals
       try simp only [go_sem, n1, n2, n3, n4, z1, z3, z4, z6, z7, gz8, z8, z9, gz24a] at gz24bn
       all_goals
       rcases it_some h with ⟨z25, h⟩ | ⟨z25, h⟩
       ·try simp only [go_sem, n1, n2, n3, n4, z1, z3, z4, z6, z7, gz8, z8, z9, gz24a, gz24bn] at z25
        all_goals
        (simp_all)
       ·try simp only [go_sem, n1, n2, n3, n4, z1, z3, z4, z6, z7, gz8, z8, z9, gz24a, gz24bn] at z25
        all_goals
        obtain ⟨y_36, z36, h⟩ := bd_some h
        obtain ⟨Lz36, ez36⟩ := spec_l26Of_l4_ex z36
        obtain rfl := so_some h
        refine ⟨Lz36, fun L hL => ?_⟩
        have ez36 := ez36 L (by omega)
        try simp only [go_sem, E_29_l1, R_29_l1, ir28_k0, ir28_o0, ir28_r0, E_29_l2, R_29_l2, ir28_k0, ir28_o0, ir28_r0, E_29_l3, R_29_l3, ir28_k0, ir28_o0, ir28_r0, E_29_l4, R_29_l4, ir28_k0, ir28_o0, ir28_r0, E_29_l5, R_29_l5, ir28_k0, ir28_o0, ir28_r0, E_29_l6, R_29_l6, ir28_k0, ir28_o0, ir28_r0, E_29_l7, R_29_l7, ir28_k0, ir28_o0, ir28_r0, E_29_l8, R_29_l8, ir28_k0, ir28_o0, ir28_r0, E_29_l9, R_29_l9, ir28_k0, ir28_o0, ir28_r0, E_29_l10, R_29_l10, ir28_k0, ir28_o0, ir28_r0, E_29_l11, R_29_l11, ir28_k0, ir28_o0, ir28_r0, E_29_l12, R_29_l12, ir28_k0, ir28_o0, ir28_r0, E_29_l13, R_29_l13, ir28_k0, ir28_o0, ir28_r0, E_29_l14, R_29_l14, ir28_k0, ir28_o0, ir28_r0, E_29_l15, R_29_l15, ir28_k0, ir28_o0, ir28_r0, E_29_l16, R_29_l16, ir28_k0, ir28_o0, ir28_r0, z1, z3, z4, z6, z7, gz8, z8, z9, gz24a, gz24bn, z25] at ez36
        simp only [go_sem, ir28, E_29_l1, R_29_l1, ir28_k0, ir28_o0, ir28_r0, E_29_l2, R_29_l2, ir28_k0, ir28_o0, ir28_r0, E_29_l3, R_29_l3, ir28_k0, ir28_o0, ir28_r0, E_29_l4, R_29_l4, ir28_k0, ir28_o0, ir28_r0, E_29_l5, R_29_l5, ir28_k0, ir28_o0, ir28_r0, E_29_l6, R_29_l6, ir28_k0, ir28_o0, ir28_r0, E_29_l7, R_29_l7, ir28_k0, ir28_o0, ir28_r0, E_29_l8, R_29_l8, ir28_k0, ir28_o0, ir28_r0, E_29_l9, R_29_l9, ir28_k0, ir28_o0, ir28_r0, E_29_l10, R_29_l10, ir28_k0, ir28_o0, ir28_r0, E_29_l11, R_29_l11, ir28_k0, ir28_o0, ir28_r0, E_29_l12, R_29_l12, ir28_k0, ir28_o0, ir28_r0, E_29_l13, R_29_l13, ir28_k0, ir28_o0, ir28_r0, E_29_l14, R_29_l14, ir28_k0, ir28_o0, ir28_r0, E_29_l15, R_29_l15, ir28_k0, ir28_o0, ir28_r0, E_29_l16, R_29_l16, ir28_k0, ir28_o0, ir28_r0, z1, lz1, xz1, fz2, z3, z4, fz5, z6, z7, gz8, z8, lz8, xz8, z9, gz24a, gz24bn, z25, ez36]
   ·try simp only [go_sem, n1, n2, n3, n4, z1, z3, z4, z6, z7] at gz8
    all_goals
    rcases it_some h with ⟨z9, h⟩ | ⟨z9, h⟩
    ·try simp only [go_sem, n1, n2, n3, n4, z1, z3, z4, z6, z7, gz8] at z9
     all_goals
     (simp_all)
    ·try simp only [go_sem, n1, n2, n3, n4, z1, z3, z4, z6, z7, gz8] at z9
     all_goals
     obtain ⟨z24, h⟩ := ck_some h
     rcases it_some h with ⟨z25, h⟩ | ⟨z25, h⟩
     ·try simp only [go_sem, n1, n2, n3, n4, z1, z3, z4, z6, z7, gz8, z9] at z25
      all_goals
      (simp_all)
     ·try simp only [go_sem, n1, n2, n3, n4, z1, z3, z4, z6, z7, gz8, z9] at z25
      all_goals
      obtain ⟨y_36, z36, h⟩ := bd_some h
      obtain ⟨Lz36, ez36⟩ := spec_l26Of_l4_ex z36
      obtain rfl := so_some h
      refine ⟨Lz36, fun L hL => ?_⟩
      have ez36 := ez36 L (by omega)
      try simp only [go_sem, E_29_l1, R_29_l1, ir28_k0, ir28_o0, ir28_r0, E_29_l2, R_29_l2, ir28_k0, ir28_o0, ir28_r0, E_29_l3, R_29_l3, ir28_k0, ir28_o0, ir28_r0, E_29_l4, R_29_l4, ir28_k0, ir28_o0, ir28_r0, E_29_l5, R_29_l5, ir28_k0, ir28_o0, ir28_r0, E_29_l6, R_29_l6, ir28_k0, ir28_o0, ir28_r0, E_29_l7, R_29_l7, ir28_k0, ir28_o0, ir28_r0, E_29_l8, R_29_l8, ir28_k0, ir28_o0, ir28_r0, E_29_l9, R_29_l9, ir28_k0, ir28_o0, ir28_r0, E_29_l10, R_29_l10, ir28_k0, ir28_o0, ir28_r0, E_29_l11, R_29_l11, ir28_k0, ir28_o0, ir28_r0, E_29_l12, R_29_l12, ir28_k0, ir28_o0, ir28_r0, E_29_l13, R_29_l13, ir28_k0, ir28_o0, ir28_r0, E_29_l14, R_29_l14, ir28_k0, ir28_o0, ir28_r0, E_29_l15, R_29_l15, ir28_k0, ir28_o0, ir28_r0, E_29_l16, R_29_l16, ir28_k0, ir28_o0, ir28_r0, z1, z3, z4, z6, z7, gz8, z9, z25] at ez36
      simp only [go_sem, ir28, E_29_l1, R_29_l1, ir28_k0, ir28_o0, ir28_r0, E_29_l2, R_29_l2, ir28_k0, ir28_o0, ir28_r0, E_29_l3, R_29_l3, ir28_k0, ir28_o0, ir28_r0, E_29_l4, R_29_l4, ir28_k0, ir28_o0, ir28_r0, E_29_l5, R_29_l5, ir28_k0, ir28_o0, ir28_r0, E_29_l6, R_29_l6, ir28_k0, ir28_o0, ir28_r0, E_29_l7, R_29_l7, ir28_k0, ir28_o0, ir28_r0, E_29_l8, R_29_l8, ir28_k0, ir28_o0, ir28_r0, E_29_l9, R_29_l9, ir28_k0, ir28_o0, ir28_r0, E_29_l10, R_29_l10, ir28_k0, ir28_o0, ir28_r0, E_29_l11, R_29_l11, ir28_k0, ir28_o0, ir28_r0, E_29_l12, R_29_l12, ir28_k0, ir28_o0, ir28_r0, E_29_l13, R_29_l13, ir28_k0, ir28_o0, ir28_r0, E_29_l14, R_29_l14, ir28_k0, ir28_o0, ir28_r0, E_29_l15, R_29_l15, ir28_k0, ir28_o0, ir28_r0, E_29_l16, R_29_l16, ir28_k0, ir28_o0, ir28_r0, z1, lz1, xz1, fz2, z3, z4, fz5, z6, z7, gz8, z9, z25, ez36]
  ·try simp only [go_sem, n1, n2, n3, n4, z1, z3, z4] at z6
   all_goals
   obtain ⟨z37, h⟩ := ck_some h
   rcases or_split z37 with ⟨gz37, z37⟩ | gz37
   ·try simp only [go_sem, n1, n2, n3, n4, z1, z3, z4, z6] at gz37
    all_goals
    have lz37 := ix_lt z37
    have xz37 := getD_mapD Star_av stars lz37
    try simp only [go_sem] at lz37
    try simp only [go_sem] at xz37
    try simp only [go_sem, n1, n2, n3, n4, z1, z3, z4, z6, gz37] at z37
    all_goals
    rcases it_some h with ⟨z38, h⟩ | ⟨z38, h⟩
    ·try simp only [go_sem, n1, n2, n3, n4, z1, z3, z4, z6, gz37, z37] at z38
     all_goals
     obtain ⟨z39, h⟩ := ck_some h
     try simp only [go_sem, n1, n2, n3, n4, z1, z3, z4, z6, gz37, z37, z38] at z39
     all_goals
     obtain ⟨z40, h⟩ := ck_some h
     rcases or_split z40 with ⟨gz40, z40⟩ | gz40
     ·try simp only [go_sem, n1, n2, n3, n4, z1, z3, z4, z6, gz37, z37, z38, z39] at gz40
      all_goals
      have lz40 := ix_lt z40
      have xz40 := getD_mapD Star_av stars lz40
      try simp only [go_sem] at lz40
      try simp only [go_sem] at xz40
      try simp only [go_sem, n1, n2, n3, n4, z1, z3, z4, z6, gz37, z37, z38, z39, gz40] at z40
      all_goals
      rcases it_some h with ⟨z41, h⟩ | ⟨z41, h⟩
      ·try simp only [go_sem, n1, n2, n3, n4, z1, z3, z4, z6, gz37, z37, z38, z39, gz40, z40] at z41
       all_goals
       obtain ⟨z42, h⟩ := ck_some h
       try simp only [go_sem, n1, n2, n3, n4, z1, z3, z4, z6, gz37, z37, z38, z39, gz40, z40, z41] at z42
       all_goals
       obtain ⟨y_47, z47, h⟩ := bd_some h
       obtain ⟨Lz47, ez47⟩ := spec_l26Of_l5_ex z47
       obtain rfl := so_some h
       refine ⟨Lz47, fun L hL => ?_⟩
       have ez47 := ez47 L (by omega)
       try simp only [go_sem, E_29_l1, R_29_l1, ir28_k0, ir28_o0, ir28_r0, E_29_l2, R_29_l2, ir28_k0, ir28_o0, ir28_r0, E_29_l3, R_29_l3, ir28_k0, ir28_o0, ir28_r0, E_29_l4, R_29_l4, ir28_k0, ir28_o0, ir28_r0, E_29_l5, R_29_l5, ir28_k0, ir28_o0, ir28_r0, E_29_l6, R_29_l6, ir28_k0, ir28_o0, ir28_r0, E_29_l7, R_29_l7, ir28_k0, ir28_o0, ir28_r0, E_29_l8, R_29_l8, ir28_k0, ir28_o0, ir28_r0, E_29_l9, R_29_l9, ir28_k0, ir28_o0, ir28_r0, E_29_l10, R_29_l10, ir28_k0, ir28_o0, ir28_r0, E_29_l11, R_29_l11, ir28_k0, ir28_o0, ir28_r0, E_29_l12, R_29_l12, ir28_k0, ir28_o0, ir28_r0, E_29_l13, R_29_l13, ir28_k0, ir28_o0, ir28_r0, E_29_l14, R_29_l14, ir28_k0, ir28_o0, ir28_r0, E_29_l15, R_29_l15, ir28_k0, ir28_o0, ir28_r0, E_29_l16, R_29_l16, ir28_k0, ir28_o0, ir28_r0, z1, z3, z4, z6, gz37, z37, z38, z39, gz40, z40, z41, z42] at ez47
       simp only [go_sem, ir28, E_29_l1, R_29_l1, ir28_k0, ir28_o0, ir28_r0, E_29_l2, R_29_l2, ir28_k0, ir28_o0, ir28_r0, E_29_l3, R_29_l3, ir28_k0, ir28_o0, ir28_r0, E_29_l4, R_29_l4, ir28_k0, ir28_o0, ir28_r0, E_29_l5, R_29_l5, ir28_k0, ir28_o0, ir28_r0, E_29_l6, R_29_l6, ir28_k0, ir28_o0, ir28_r0, E_29_l7, R_29_l7, ir28_k0, ir28_o0, ir28_r0, E_29_l8, R_29_l8, ir28_k0, ir28_o0, ir28_r0, E_29_l9, R_29_l9, ir28_k0, ir28_o0, ir28_r0, E_29_l10, R_29_l10, ir28_k0, ir28_o0, ir28_r0, E_29_l11, R_29_l11, ir28_k0, ir28_o0, ir28_r0, E_29_l12, R_29_l12, ir28_k0, ir28_o0, ir28_r0, E_29_l13, R_29_l13, ir28_k0, ir28_o0, ir28_r0, E_29_l14, R_29_l14, ir28_k0, ir28_o0, ir28_r0, E_29_l15, R_29_l15, ir28_k0, ir28_o0, ir28_r0, E_29_l16, R_29_l16, ir28_k0, ir28_o0, ir28_r0, z1, lz1, xz1, fz2, z3, z4, fz5, z6, gz37, z37, lz37, xz37, z38, z39, gz40, z40, lz40, xz40, z41, z42, ez47]
      ·try simp only [go_sem, n1, n2, n3, n4, z1, z3, z4, z6, gz37, z37, z38, z39, gz40, z40] at z41
       all_goals
       obtain ⟨y_52, z52, h⟩ := bd_some h
       obtain ⟨Lz52, ez52⟩ := spec_l26Of_l6_ex z52
       obtain rfl := so_some h
       refine ⟨Lz52, fun L hL => ?_⟩
       have ez52 := ez52 L (by omega)
       try simp only [go_sem, E_29_l1, R_29_l1, ir28_k0, ir28_o0, ir28_r0, E_29_l2, R_29_l2, ir28_k0, ir28_o0, ir28_r0, E_29_l3, R_29_l3, ir28_k0, ir28_o0, ir28_r0, E_29_l4, R_29_l4, ir28_k0, ir28_o0, ir28_r0, E_29_l5, R_29_l5, ir28_k0, ir28_o0, ir28_r0, E_29_l6, R_29_l6, ir28_k0, ir28_o0, ir28_r0, E_29_l7, R_29_l7, ir28_k0, ir28_o0, ir28_r0, E_29_l8, R_29_l8, ir28_k0, ir28_o0, ir28_r0, E_29_l9, R_29_l9, ir28_k0, ir28_o0, ir28_r0, E_29_l10, R_29_l10, ir28_k0, ir28_o0, ir28_r0, E_29_l11, R_29_l11, ir28_k0, ir28_o0, ir28_r0, E_29_l12, R_29_l12, ir28_k0, ir28_o0, ir28_r0, E_29_l13, R_29_l13, ir28_k0, ir28_o0, ir28_r0, E_29_l14, R_29_l14, ir28_k0, ir28_o0, ir28_r0, E_29_l15, R_29_l15, ir28_k0, ir28_o0, ir28_r0, E_29_l16, R_29_l16, ir28_k0, ir28_o0, ir28_r0, z1, z3, z4, z6, gz37, z37, z38, z39, gz40, z40, z41] at ez52
       simp only [go_sem, ir28, E_29_l1, R_29_l1, ir28_k0, ir28_o0, ir28_r0, E_29_l2, R_29_l2, ir28_k0, ir28_o0, ir28_r0, E_29_l3, R_29_l3, ir28_k0, ir28_o0, ir28_r0, E_29_l4, R_29_l4, ir28_k0, ir28_o0, ir28_r0, E_29_l5, R_29_l5, ir28_k0, ir28_o0, ir28_r0, E_29_l6, R_29_l6, ir28_k0, ir28_o0, ir28_r0, E_29_l7, R_29_l7, ir28_k0, ir28_o0, ir28_r0, E_29_l8, R_29_l8, ir28_k0, ir28_o0, ir28_r0, E_29_l9, R_29_l9, ir28_k0, ir28_o0, ir28_r0, E_29_l10, R_29_l10, ir28_k0, ir28_o0, ir28_r0, E_29_l11, R_29_l11, ir28_k0, ir28_o0, ir28_r0, E_29_l12, R_29_l12, ir28_k0, ir28_o0, ir28_r0, E_29_l13, R_29_l13, ir28_k0, ir28_o0, ir28_r0, E_29_l14, R_29_l14, ir28_k0, ir28_o0, ir28_r0, E_29_l15, R_29_l15, ir28_k0, ir28_o0, ir28_r0, E_29_l16, R_29_l16, ir28_k0, ir28_o0, ir28_r0, z1, lz1, xz1, fz2, z3, z4, fz5, z6, gz37, z37, lz37, xz37, z38, z39, gz40, z40, lz40, xz40, z41, ez52]
     ·rcases and_f gz40 with gz40a | ⟨gz40a, gz40b⟩
      ·try simp only [go_sem, n1, n2, n3, n4, z1, z3, z4, z6, gz37, z37, z38, z39] at gz40a
       all_goals
       (simp_all)
      ·have gz40bn := no_f gz40b
       try simp only [go_sem, n1, n2, n3, n4, z1, z3, z4, z6, gz37, z37, z38, z39] at gz40a
       all_goals
       try simp only [go_sem, n1, n2, n3, n4, z1, z3, z4, z6, gz37, z37, z38, z39, gz40a] at gz40bn
       all_goals
       rcases it_some h with ⟨z41, h⟩ | ⟨z41, h⟩
       ·try simp only [go_sem, n1, n2, n3, n4, z1, z3, z4, z6, gz37, z37, z38, z39, gz40a, gz40bn] at z41
        all_goals
        (simp_all)
       ·try simp only [go_sem, n1, n2, n3, n4, z1, z3, z4, z6, gz37, z37, z38, z39, gz40a, gz40bn] at z41
        all_goals
        obtain ⟨y_52, z52, h⟩ := bd_some h
        obtain ⟨Lz52, ez52⟩ := spec_l26Of_l6_ex z52
        obtain rfl := so_some h
        refine ⟨Lz52, fun L hL => ?_⟩
        have ez52 := ez52 L (by omega)
        try simp only [go_sem, E_29_l1, R_29_l1, ir28_k0, ir28_o0, ir28_r0, E_29_l2, R_29_l2, ir28_k0, ir28_o0, ir28_r0, E_29_l3, R_29_l3, ir28_k0, ir28_o0, ir28_r0, E_29_l4, R_29_l4, ir28_k0, ir28_o0, ir28_r0, E_29_l5, R_29_l5, ir28_k0, ir28_o0, ir28_r0, E_29_l6, R_29_l6, ir28_k0, ir28_o0, ir28_r0, E_29_l7, R_29_l7, ir28_k0, ir28_o0, ir28_r0, E_29_l8, R_29_l8, ir28_k0, ir28_o0, ir28_r0, E_29_l9, R_29_l9, ir28_k0, ir28_o0, ir28_r0, E_29_l10, R_29_l10, ir28_k0, ir28_o0, ir28_r0, E_29_l11, R_29_l11, ir28_k0, ir28_o0, ir28_r0, E_29_l12, R_29_l12, ir28_k0, ir28_o0, ir28_r0, E_29_l13, R_29_l13, ir28_k0, ir28_o0, ir28_r0, E_29_l14, R_29_l14, ir28_k0, ir28_o0, ir28_r0, E_29_l15, R_29_l15, ir28_k0, ir28_o0, ir28_r0, E_29_l16, R_29_l16, ir28_k0, ir28_o0, ir28_r0, z1, z3, z4, z6, gz37, z37, z38, z39, gz40a, gz40bn, z41] at ez52
        simp only [go_sem, ir28, E_29_l1, R_29_l1, ir28_k0, ir28_o0, ir28_r0, E_29_l2, R_29_l2, ir28_k0, ir28_o0, ir28_r0, E_29_l3, R_29_l3, ir28_k0, ir28_o0, ir28_r0, E_29_l4, R_29_l4, ir28_k0, ir28_o0, ir28_r0, E_29_l5, R_29_l5, ir28_k0, ir28_o0, ir28_r0, E_29_l6, R_29_l6, ir28_k0, ir28_o0, ir28_r0, E_29_l7, R_29_l7, ir28_k0, ir28_o0, ir28_r0, E_29_l8, R_29_l8, ir28_k0, ir28_o0, ir28_r0, E_29_l9, R_29_l9, ir28_k0, ir28_o0, ir28_r0, E_29_l10, R_29_l10, ir28_k0, ir28_o0, ir28_r0, E_29_l11, R_29_l11, ir28_k0, ir28_o0, ir28_r0, E_29_l12, R_29_l12, ir28_k0, ir28_o0, ir28_r0, E_29_l13, R_29_l13, ir28_k0, ir28_o0, ir28_r0, E_29_l14, R_29_l14, ir28_k0, ir28_o0, ir28_r0, E_29_l15, R_29_l15, ir28_k0, ir28_o0, ir28_r0, E_29_l16, R_29_l16, ir28_k0, ir28_o0, ir28_r0, z1, lz1, xz1, fz2, z3, z4, fz5, z6, gz37, z37, lz37, xz37, z38, z39, gz40a, gz40bn, z41, ez52]
    ·try simp only [go_sem, n1, n2, n3, n4, z1, z3, z4, z6, gz37, z37] at z38
     all_goals
     obtain ⟨z53, h⟩ := ck_some h
     rcases or_split z53 with ⟨gz53, z53⟩ | gz53
     ·try simp only [go_sem, n1, n2, n3, n4, z1, z3, z4, z6, gz37, z37, z38] at gz53
      all_goals
      have lz53 := ix_lt z53
      have xz53 := getD_mapD Star_av stars lz53
      try simp only [go_sem] at lz53
      try simp only [go_sem] at xz53
      try simp only [go_sem, n1, n2, n3, n4, z1, z3, z4, z6, gz37, z37, z38, gz53] at z53
      all_goals
      rcases it_some h with ⟨z54, h⟩ | ⟨z54, h⟩
      ·try simp only [go_sem, n1, n2, n3, n4, z1, z3, z4, z6, gz37, z37, z38, gz53, z53] at z54
       all_goals
       obtain ⟨z55, h⟩ := ck_some h
       try simp only [go_sem, n1, n2, n3, n4, z1, z3, z4, z6, gz37, z37, z38, gz53, z53, z54] at z55
       all_goals
       obtain ⟨y_60, z60, h⟩ := bd_some h
       obtain ⟨Lz60, ez60⟩ := spec_l26Of_l7_ex z60
       obtain rfl := so_some h
       refine ⟨Lz60, fun L hL => ?_⟩
       have ez60 := ez60 L (by omega)
       try simp only [go_sem, E_29_l1, R_29_l1, ir28_k0, ir28_o0, ir28_r0, E_29_l2, R_29_l2, ir28_k0, ir28_o0, ir28_r0, E_29_l3, R_29_l3, ir28_k0, ir28_o0, ir28_r0, E_29_l4, R_29_l4, ir28_k0, ir28_o0, ir28_r0, E_29_l5, R_29_l5, ir28_k0, ir28_o0, ir28_r0, E_29_l6, R_29_l6, ir28_k0, ir28_o0, ir28_r0, E_29_l7, R_29_l7, ir28_k0, ir28_o0, ir28_r0, E_29_l8, R_29_l8, ir28_k0, ir28_o0, ir28_r0, E_29_l9, R_29_l9, ir28_k0, ir28_o0, ir28_r0, E_29_l10, R_29_l10, ir28_k0, ir28_o0, ir28_r0, E_29_l11, R_29_l11, ir28_k0, ir28_o0, ir28_r0, E_29_l12, R_29_l12, ir28_k0, ir28_o0, ir28_r0, E_29_l13, R_29_l13, ir28_k0, ir28_o0, ir28_r0, E_29_l14, R_29_l14, ir28_k0, ir28_o0, ir28_r0, E_29_l15, R_29_l15, ir28_k0, ir28_o0, ir28_r0, E_29_l16, R_29_l16, ir28_k0, ir28_o0, ir28_r0, z1, z3, z4, z6, gz37, z37, z38, gz53, z53, z54, z55] at ez60
       simp only [go_sem, ir28, E_29_l1, R_29_l1, ir28_k0, ir28_o0, ir28_r0, E_29_l2, R_29_l2, ir28_k0, ir28_o0, ir28_r0, E_29_l3, R_29_l3, ir28_k0, ir28_o0, ir28_r0, E_29_l4, R_29_l4, ir28_k0, ir28_o0, ir28_r0, E_29_l5, R_29_l5, ir28_k0, ir28_o0, ir28_r0, E_29_l6, R_29_l6, ir28_k0, ir28_o0, ir28_r0, E_29_l7, R_29_l7, ir28_k0, ir28_o0, ir28_r0, E_29_l8, R_29_l8, ir28_k0, ir28_o0, ir28_r0, E_29_l9, R_29_l9, ir28_k0, ir28_o0, ir28_r0, E_29_l10, R_29_l10, ir28_k0, ir28_o0, ir28_r0, E_29_l11, R_29_l11, ir28_k0, ir28_o0, ir28_r0, E_29_l12, R_29_l12, ir28_k0, ir28_o0, ir28_r0, E_29_l13, R_29_l13, ir28_k0, ir28_o0, ir28_r0, E_29_l14, R_29_l14, ir28_k0, ir28_o0, ir28_r0, E_29_l15, R_29_l15, ir28_k0, ir28_o0, ir28_r0, E_29_l16, R_29_l16, ir28_k0, ir28_o0, ir28_r0, z1, lz1, xz1, fz2, z3, z4, fz5, z6, gz37, z37, lz37, xz37, z38, gz53, z53, lz53, xz53, z54, z55, ez60]
      ·try simp only [go_sem, n1, n2, n3, n4, z1, z3, z4, z6, gz37, z37, z38, gz53, z53] at z54
       all_goals
       obtain ⟨y_65, z65, h⟩ := bd_some h
       obtain ⟨Lz65, ez65⟩ := spec_l26Of_l8_ex z65
       obtain rfl := so_some h
       refine ⟨Lz65, fun L hL => ?_⟩
       have ez65 := ez65 L (by omega)
       try simp only [go_sem, E_29_l1, R_29_l1, ir28_k0, ir28_o0, ir28_r0, E_29_l2, R_29_l2, ir28_k0, ir28_o0, ir28_r0, E_29_l3, R_29_l3, ir28_k0, ir28_o0, ir28_r0, E_29_l4, R_29_l4, ir28_k0, ir28_o0, ir28_r0, E_29_l5, R_29_l5, ir28_k0, ir28_o0, ir28_r0, E_29_l6, R_29_l6, ir28_k0, ir28_o0, ir28_r0, E_29_l7, R_29_l7, ir28_k0, ir28_o0, ir28_r0, E_29_l8, R_29_l8, ir28_k0, ir28_o0, ir28_r0, E_29_l9, R_29_l9, ir28_k0, ir28_o0, ir28_r0, E_29_l10, R_29_l10, ir28_k0, ir28_o0, ir28_r0, E_29_l11, R_29_l11, ir28_k0, ir28_o0, ir28_r0, E_29_l12, R_29_l12, ir28_k0, ir28_o0, ir28_r0, E_29_l13, R_29_l13, ir28_k0, ir28_o0, ir28_r0, E_29_l14, R_29_l14, ir28_k0, ir28_o0, ir28_r0, E_29_l15, R_29_l15, ir28_k0, ir28_o0, ir28_r0, E_29_l16, R_29_l16, ir28_k0, ir28_o0, ir28_r0, z1, z3, z4, z6, gz37, z37, z38, gz53, z53, z54] at ez65
       simp only [go_sem, ir28, E_29_l1, R_29_l1, ir28_k0, ir28_o0, ir28_r0, E_29_l2, R_29_l2, ir28_k0, ir28_o0, ir28_r0, E_29_l3, R_29_l3, ir28_k0, ir28_o0, ir28_r0, E_29_l4, R_29_l4, ir28_k0, ir28_o0, ir28_r0, E_29_l5, R_29_l5, ir28_k0, ir28_o0, ir28_r0, E_29_l6, R_29_l6, ir28_k0, ir28_o0, ir28_r0, E_29_l7, R_29_l7, ir28_k0, ir28_o0, ir28_r0, E_29_l8, R_29_l8, ir28_k0, ir28_o0, ir28_r0, E_29_l9, R_29_l9, ir28_k0, ir28_o0, ir28_r0, E_29_l10, R_29_l10, ir28_k0, ir28_o0, ir28_r0, E_29_l11, R_29_l11, ir28_k0, ir28_o0, ir28_r0, E_29_l12, R_29_l12, ir28_k0, ir28_o0, ir28_r0, E_29_l13, R_29_l13, ir28_k0, ir28_o0, ir28_r0, E_29_l14, R_29_l14, ir28_k0, ir28_o0, ir28_r0, E_29_l15, R_29_l15, ir28_k0, ir28_o0, ir28_r0, E_29_l16, R_29_l16, ir28_k0, ir28_o0, ir28_r0, z1, lz1, xz1, fz2, z3, z4, fz5, z6, gz37, z37, lz37, xz37, z38, gz53, z53, lz53, xz53, z54, ez65]
     ·rcases and_f gz53 with gz53a | ⟨gz53a, gz53b⟩
      ·try simp only [go_sem, n1, n2, n3, n4, z1, z3, z4, z6, gz37, z37, z38] at gz53a
       all_goals
       (simp_all)
      ·have gz53bn := no_f gz53b
       try simp only [go_sem, n1, n2, n3, n4, z1, z3, z4, z6, gz37, z37, z38] at gz53a
       all_goals
       try simp only [go_sem, n1, n2, n3, n4, z1, z3, z4, z6, gz37, z37, z38, gz53a] at gz53bn
       all_goals
       rcases it_some h with ⟨z54, h⟩ | ⟨z54, h⟩
       ·try simp only [go_sem, n1, n2, n3, n4, z1, z3, z4, z6, gz37, z37, z38, gz53a, gz53bn] at z54
        all_goals
        (simp_all)
       ·try simp only [go_sem, n1, n2, n3, n4, z1, z3, z4, z6, gz37, z37, z38, gz53a, gz53bn] at z54
        all_goals
        obtain ⟨y_65, z65, h⟩ := bd_some h
        obtain ⟨Lz65, ez65⟩ := spec_l26Of_l8_ex z65
        obtain rfl := so_some h
        refine ⟨Lz65, fun L hL => ?_⟩
        have ez65 := ez65 L (by omega)
        try simp only [go_sem, E_29_l1, R_29_l1, ir28_k0, ir28_o0, ir28_r0, E_29_l2, R_29_l2, ir28_k0, ir28_o0, ir28_r0, E_29_l3, R_29_l3, ir28_k0, ir28_o0, ir28_r0, E_29_l4, R_29_l4, ir28_k0, ir28_o0, ir28_r0, E_29_l5, R_29_l5, ir28_k0, ir28_o0, ir28_r0, E_29_l6, R_29_l6, ir28_k0, ir28_o0, ir28_r0, E_29_l7, R_29_l7, ir28_k0, ir28_o0, ir28_r0, E_29_l8, R_29_l8, ir28_k0, ir28_o0, ir28_r0, E_29_l9, R_29_l9, ir28_k0, ir28_o0, ir28_r0, E_29_l10, R_29_l10, ir28_k0, ir28_o0, ir28_r0, E_29_l11, R_29_l11, ir28_k0, ir28_o0, ir28_r0, E_29_l12, R_29_l12, ir28_k0, ir28_o0, ir28_r0, E_29_l13, R_29_l13, ir28_k0, ir28_o0, ir28_r0, E_29_l14, R_29_l14, ir28_k0, ir28_o0, ir28_r0, E_29_l15, R_29_l15, ir28_k0, ir28_o0, ir28_r0, E_29_l16, R_29_l16, ir28_k0, ir28_o0, ir28_r0, z1, z3, z4, z6, gz37, z37, z38, gz53a, gz53bn, z54] at ez65
        simp only [go_sem, ir28, E_29_l1, R_29_l1, ir28_k0, ir28_o0, ir28_r0, E_29_l2, R_29_l2, ir28_k0, ir28_o0, ir28_r0, E_29_l3, R_29_l3, ir28_k0, ir28_o0, ir28_r0, E_29_l4, R_29_l4, ir28_k0, ir28_o0, ir28_r0, E_29_l5, R_29_l5, ir28_k0, ir28_o0, ir28_r0, E_29_l6, R_29_l6, ir28_k0, ir28_o0, ir28_r0, E_29_l7, R_29_l7, ir28_k0, ir28_o0, ir28_r0, E_29_l8, R_29_l8, ir28_k0, ir28_o0, ir28_r0, E_29_l9, R_29_l9, ir28_k0, ir28_o0, ir28_r0, E_29_l10, R_29_l10, ir28_k0, ir28_o0, ir28_r0, E_29_l11, R_29_l11, ir28_k0, ir28_o0, ir28_r0, E_29_l12, R_29_l12, ir28_k0, ir28_o0, ir28_r0, E_29_l13, R_29_l13, ir28_k0, ir28_o0, ir28_r0, E_29_l14, R_29_l14, ir28_k0, ir28_o0, ir28_r0, E_29_l15, R_29_l15, ir28_k0, ir28_o0, ir28_r0, E_29_l16, R_29_l16, ir28_k0, ir28_o0, ir28_r0, z1, lz1, xz1, fz2, z3, z4, fz5, z6, gz37, z37, lz37, xz37, z38, gz53a, gz53bn, z54, ez65]
   ·try simp only [go_sem, n1, n2, n3, n4, z1, z3, z4, z6] at gz37
    all_goals
    rcases it_some h with ⟨z38, h⟩ | ⟨z38, h⟩
    ·try simp only [go_sem, n1, n2, n3, n4, z1, z3, z4, z6, gz37] at z38
     all_goals
     (simp_all)
    ·try simp only [go_sem, n1, n2, n3, n4, z1, z3, z4, z6, gz37] at z38
     all_goals
     obtain ⟨z53, h⟩ := ck_some h
     rcases it_some h with ⟨z54, h⟩ | ⟨z54, h⟩
     ·try simp only [go_sem, n1, n2, n3, n4, z1, z3, z4, z6, gz37, z38] at z54
      all_goals
      (simp_all)
     ·try simp only [go_sem, n1, n2, n3, n4, z1, z3, z4, z6, gz37, z38] at z54
      all_goals
      obtain ⟨y_65, z65, h⟩ := bd_some h
      obtain ⟨Lz65, ez65⟩ := spec_l26Of_l8_ex z65
      obtain rfl := so_some h
      refine ⟨Lz65, fun L hL => ?_⟩
      have ez65 := ez65 L (by omega)
      try simp only [go_sem, E_29_l1, R_29_l1, ir28_k0, ir28_o0, ir28_r0, E_29_l2, R_29_l2, ir28_k0, ir28_o0, ir28_r0, E_29_l3, R_29_l3, ir28_k0, ir28_o0, ir28_r0, E_29_l4, R_29_l4, ir28_k0, ir28_o0, ir28_r0, E_29_l5, R_29_l5, ir28_k0, ir28_o0, ir28_r0, E_29_l6, R_29_l6, ir28_k0, ir28_o0, ir28_r0, E_29_l7, R_29_l7, ir28_k0, ir28_o0, ir28_r0, E_29_l8, R_29_l8, ir28_k0, ir28_o0, ir28_r0, E_29_l9, R_29_l9, ir28_k0, ir28_o0, ir28_r0, E_29_l10, R_29_l10, ir28_k0, ir28_o0, ir28_r0, E_29_l11, R_29_l11, ir28_k0, ir28_o0, ir28_r0, E_29_l12, R_29_l12, ir28_k0, ir28_o0, ir28_r0, E_29_l13, R_29_l13, ir28_k0, ir28_o0, ir28_r0, E_29_l14, R_29_l14, ir28_k0, ir28_o0, ir28_r0, E_29_l15, R_29_l15, ir28_k0, ir28_o0, ir28_r0, E_29_l16, R_29_l16, ir28_k0, ir28_o0, ir28_r0, z1, z3, z4, z6, gz37, z38, z54] at ez65
      simp only [go_sem, ir28, E_29_l1, R_29_l1, ir28_k0, ir28_o0, ir28_r0, E_29_l2, R_29_l2, ir28_k0, ir28_o0, ir28_r0, E_29_l3, R_29_l3, ir28_k0, ir28_o0, ir28_r0, E_29_l4, R_29_l4, ir28_k0, ir28_o0, ir28_r0, E_29_l5, R_29_l5, ir28_k0, ir28_o0, ir28_r0, E_29_l6, R_29_l6, ir28_k0, ir28_o0, ir28_r0, E_29_l7, R_29_l7, ir28_k0, ir28_o0, ir28_r0, E_29_l8, R_29_l8, ir28_k0, ir28_o0, ir28_r0, E_29_l9, R_29_l9, ir28_k0, ir28_o0, ir28_r0, E_29_l10, R_29_l10, ir28_k0, ir28_o0, ir28_r0, E_29_l11, R_29_l11, ir28_k0, ir28_o0, ir28_r0, E_29_l12, R_29_l12, ir28_k0, ir28_o0, ir28_r0, E_29_l13, R_29_l13, ir28_k0, ir28_o0, ir28_r0, E_29_l14, R_29_l14, ir28_k0, ir28_o0, ir28_r0, E_29_l15, R_29_l15, ir28_k0, ir28_o0, ir28_r0, E_29_l16, R_29_l16, ir28_k0, ir28_o0, ir28_r0, z1, lz1, xz1, fz2, z3, z4, fz5, z6, gz37, z38, z54, ez65]
 ·try simp only [go_sem, n1, n2, n3, n4, z1] at z3
  all_goals
  obtain ⟨y_66, z66, h⟩ := bd_some h
  have fz66 := Fs_28 z66
  try simp only [go_sem, z1, z3] at fz66
  rcases it_some h with ⟨z67, h⟩ | ⟨z67, h⟩
  ·try simp only [go_sem, n1, n2, n3, n4, z1, z3] at z67
   all_goals
   obtain ⟨z68, h⟩ := ck_some h
   try simp only [go_sem, n1, n2, n3, n4, z1, z3, z67] at z68
   all_goals
   obtain ⟨z69, h⟩ := ck_some h
   rcases or_split z69 with ⟨gz69, z69⟩ | gz69
   ·try simp only [go_sem, n1, n2, n3, n4, z1, z3, z67, z68] at gz69
    all_goals
    have lz69 := ix_lt z69
    have xz69 := getD_mapD Star_av stars lz69
    try simp only [go_sem] at lz69
    try simp only [go_sem] at xz69
    try simp only [go_sem, n1, n2, n3, n4, z1, z3, z67, z68, gz69] at z69
    all_goals
    rcases it_some h with ⟨z70, h⟩ | ⟨z70, h⟩
    ·try simp only [go_sem, n1, n2, n3, n4, z1, z3, z67, z68, gz69, z69] at z70
     all_goals
     obtain ⟨z71, h⟩ := ck_some h
     try simp only [go_sem, n1, n2, n3, n4, z1, z3, z67, z68, gz69, z69, z70] at z71
     all_goals
     obtain ⟨z72, h⟩ := ck_some h
     rcases or_split z72 with ⟨gz72, z72⟩ | gz72
     ·try simp only [go_sem, n1, n2, n3, n4, z1, z3, z67, z68, gz69, z69, z70, z71] at gz72
      all_goals
      have lz72 := ix_lt z72
      have xz72 := getD_mapD Star_av stars lz72
      try simp only [go_sem] at lz72
      try simp only [go_sem] at xz72
      try simp only [go_sem, n1, n2, n3, n4, z1, z3, z67, z68, gz69, z69, z70, z71, gz72] at z72
      all_goals
      rcases it_some h with ⟨z73, h⟩ | ⟨z73, h⟩
      ·try simp only [go_sem, n1, n2, n3, n4, z1, z3, z67, z68, gz69, z69, z70, z71, gz72, z72] at z73
       all_goals
       obtain ⟨z74, h⟩ := ck_some h
       try simp only [go_sem, n1, n2, n3, n4, z1, z3, z67, z68, gz69, z69, z70, z71, gz72, z72, z73] at z74
       all_goals
       obtain ⟨y_79, z79, h⟩ := bd_some h
       obtain ⟨Lz79, ez79⟩ := spec_l26Of_l9_ex z79
       obtain rfl := so_some h
       refine ⟨Lz79, fun L hL => ?_⟩
       have ez79 := ez79 L (by omega)
       try simp only [go_sem, E_29_l1, R_29_l1, ir28_k0, ir28_o0, ir28_r0, E_29_l2, R_29_l2, ir28_k0, ir28_o0, ir28_r0, E_29_l3, R_29_l3, ir28_k0, ir28_o0, ir28_r0, E_29_l4, R_29_l4, ir28_k0, ir28_o0, ir28_r0, E_29_l5, R_29_l5, ir28_k0, ir28_o0, ir28_r0, E_29_l6, R_29_l6, ir28_k0, ir28_o0, ir28_r0, E_29_l7, R_29_l7, ir28_k0, ir28_o0, ir28_r0, E_29_l8, R_29_l8, ir28_k0, ir28_o0, ir28_r0, E_29_l9, R_29_l9, ir28_k0, ir28_o0, ir28_r0, E_29_l10, R_29_l10, ir28_k0, ir28_o0, ir28_r0, E_29_l11, R_29_l11, ir28_k0, ir28_o0, ir28_r0, E_29_l12, R_29_l12, ir28_k0, ir28_o0, ir28_r0, E_29_l13, R_29_l13, ir28_k0, ir28_o0, ir28_r0, E_29_l14, R_29_l14, ir28_k0, ir28_o0, ir28_r0, E_29_l15, R_29_l15, ir28_k0, ir28_o0, ir28_r0, E_29_l16, R_29_l16, ir28_k0, ir28_o0, ir28_r0, z1, z3, z67, z68, gz69, z69, z70, z71, gz72, z72, z73, z74] at ez79
       simp only [go_sem, ir28, E_29_l1, R_29_l1, ir28_k0, ir28_o0, ir28_r0, E_29_l2, R_29_l2, ir28_k0, ir28_o0, ir28_r0, E_29_l3, R_29_l3, ir28_k0, ir28_o0, ir28_r0, E_29_l4, R_29_l4, ir28_k0, ir28_o0, ir28_r0, E_29_l5, R_29_l5, ir28_k0, ir28_o0, ir28_r0, E_29_l6, R_29_l6, ir28_k0, ir28_o0, ir28_r0, E_29_l7, R_29_l7, ir28_k0, ir28_o0, ir28_r0, E_29_l8, R_29_l8, ir28_k0, ir28_o0, ir28_r0, E_29_l9, R_29_l9, ir28_k0, ir28_o0, ir28_r0, E_29_l10, R_29_l10, ir28_k0, ir28_o0, ir28_r0, E_29_l11, R_29_l11, ir28_k0, ir28_o0, ir28_r0, E_29_l12, R_29_l12, ir28_k0, ir28_o0, ir28_r0, E_29_l13, R_29_l13, ir28_k0, ir28_o0, ir28_r0, E_29_l14, R_29_l14, ir28_k0, ir28_o0, ir28_r0, E_29_l15, R_29_l15, ir28_k0, ir28_o0, ir28_r0, E_29_l16, R_29_l16, ir28_k0, ir28_o0, ir28_r0, z1, lz1, xz1, fz2, z3, fz66, z67, z68, gz69, z69, lz69, xz69, z70, z71, gz72, z72, lz72, xz72, z73, z74, ez79]
      ·try simp only [go_sem, n1, n2, n3, n4, z1, z3, z67, z68, gz69, z69, z70, z71, gz72, z72] at z73
       all_goals
       obtain ⟨y_84, z84, h⟩ := bd_some h
       obtain ⟨Lz84, ez84⟩ := spec_l26Of_l10_ex z84
       obtain rfl := so_some h
       refine ⟨Lz84, fun L hL => ?_⟩
       have ez84 := ez84 L (by omega)
       try simp only [go_sem, E_29_l1, R_29_l1, ir28_k0, ir28_o0, ir28_r0, E_29_l2, R_29_l2, ir28_k0, ir28_o0, ir28_r0, E_29_l3, R_29_l3, ir28_k0, ir28_o0, ir28_r0, E_29_l4, R_29_l4, ir28_k0, ir28_o0, ir28_r0, E_29_l5, R_29_l5, ir28_k0, ir28_o0, ir28_r0, E_29_l6, R_29_l6, ir28_k0, ir28_o0, ir28_r0, E_29_l7, R_29_l7, ir28_k0, ir28_o0, ir28_r0, E_29_l8, R_29_l8, ir28_k0, ir28_o0, ir28_r0, E_29_l9, R_29_l9, ir28_k0, ir28_o0, ir28_r0, E_29_l10, R_29_l10, ir28_k0, ir28_o0, ir28_r0, E_29_l11, R_29_l11, ir28_k0, ir28_o0, ir28_r0, E_29_l12, R_29_l12, ir28_k0, ir28_o0, ir28_r0, E_29_l13, R_29_l13, ir28_k0, ir28_o0, ir28_r0, E_29_l14, R_29_l14, ir28_k0, ir28_o0, ir28_r0, E_29_l15, R_29_l15, ir28_k0, ir28_o0, ir28_r0, E_29_l16, R_29_l16, ir28_k0, ir28_o0, ir28_r0, z1, z3, z67, z68, gz69, z69, z70, z71, gz72, z72, z73] at ez84
       simp only [go_sem, ir28, E_29_l1, R_29_l1, ir28_k0, ir28_o0, ir28_r0, E_29_l2, R_29_l2, ir28_k0, ir28_o0, ir28_r0, E_29_l3, R_29_l3, ir28_k0, ir28_o0, ir28_r0, E_29_l4, R_29_l4, ir28_k0, ir28_o0, ir28_r0, E_29_l5, R_29_l5, ir28_k0, ir28_o0, ir28_r0, E_29_l6, R_29_l6, ir28_k0, ir28_o0, ir28_r0, E_29_l7, R_29_l7, ir28_k0, ir28_o0, ir28_r0, E_29_l8, R_29_l8, ir28_k0, ir28_o0, ir28_r0, E_29_l9, R_29_l9, ir28_k0, ir28_o0, ir28_r0, E_29_l10, R_29_l10, ir28_k0, ir28_o0, ir28_r0, E_29_l11, R_29_l11, ir28_k0, ir28_o0, ir28_r0, E_29_l12, R_29_l12, ir28_k0, ir28_o0, ir28_r0, E_29_l13, R_29_l13, ir28_k0, ir28_o0, ir28_r0, E_29_l14, R_29_l14, ir28_k0, ir28_o0, ir28_r0, E_29_l15, R_29_l15, ir28_k0, ir28_o0, ir28_r0, E_29_l16, R_29_l16, ir28_k0, ir28_o0, ir28_r0, z1, lz1, xz1, fz2, z3, fz66, z67, z68, gz69, z69, lz69, xz69, z70, z71, gz72, z72, lz72, xz72, z73, ez84]
     ·rcases and_f gz72 with gz72a | ⟨gz72a, gz72b⟩
      ·try simp only [go_sem, n1, n2, n3, n4, z1, z3, z67, z68, gz69, z69, z70, z71] at gz72a
       all_goals
       (simp_all)
      ·have gz72bn := no_f gz72b
       try simp only [go_sem, n1, n2, n3, n4, z1, z3, z67, z68, gz69, z69, z70, z71] at gz72a
       all_goals
       try simp only [go_sem, n1, n2, n3, n4, z1, z3, z67, z68, gz69, z69, z70, z71, gz72a] at gz72bn
       all_goals
       rcases it_some h with ⟨z73, h⟩ | ⟨z73, h⟩
       ·try simp only [go_sem, n1, n2, n3, n4, z1, z3, z67, z68, gz69, z69, z70, z71, gz72a, gz72bn] at z73
        all_goals
        (simp_all)
       ·try simp only [go_sem, n1, n2, n3, n4, z1, z3, z67, z68, gz69, z69, z70, z71, gz72a, gz72bn] at z73
        all_goals
        obtain ⟨y_84, z84, h⟩ := bd_some h
        obtain ⟨Lz84, ez84⟩ := spec_l26Of_l10_ex z84
        obtain rfl := so_some h
        refine ⟨Lz84, fun L hL => ?_⟩
        have ez84 := ez84 L (by omega)
        try simp only [go_sem, E_29_l1, R_29_l1, ir28_k0, ir28_o0, ir28_r0, E_29_l2, R_29_l2, ir28_k0, ir28_o0, ir28_r0, E_29_l3, R_29_l3, ir28_k0, ir28_o0, ir28_r0, E_29_l4, R_29_l4, ir28_k0, ir28_o0, ir28_r0, E_29_l5, R_29_l5, ir28_k0, ir28_o0, ir28_r0, E_29_l6, R_29_l6, ir28_k0, ir28_o0, ir28_r0, E_29_l7, R_29_l7, ir28_k0, ir28_o0, ir28_r0, E_29_l8, R_29_l8, ir28_k0, ir28_o0, ir28_r0, E_29_l9, R_29_l9, ir28_k0, ir28_o0, ir28_r0, E_29_l10, R_29_l10, ir28_k0, ir28_o0, ir28_r0, E_29_l11, R_29_l11, ir28_k0, ir28_o0, ir28_r0, E_29_l12, R_29_l12, ir28_k0, ir28_o0, ir28_r0, E_29_l13, R_29_l13, ir28_k0, ir28_o0, ir28_r0, E_29_l14, R_29_l14, ir28_k0, ir28_o0, ir28_r0, E_29_l15, R_29_l15, ir28_k0, ir28_o0, ir28_r0, E_29_l16, R_29_l16, ir28_k0, ir28_o0, ir28_r0, z1, z3, z67, z68, gz69, z69, z70, z71, gz72a, gz72bn, z73] at ez84
        simp only [go_sem, ir28, E_29_l1, R_29_l1, ir28_k0, ir28_o0, ir28_r0, E_29_l2, R_29_l2, ir28_k0, ir28_o0, ir28_r0, E_29_l3, R_29_l3, ir28_k0, ir28_o0, ir28_r0, E_29_l4, R_29_l4, ir28_k0, ir28_o0, ir28_r0, E_29_l5, R_29_l5, ir28_k0, ir28_o0, ir28_r0, E_29_l6, R_29_l6, ir28_k0, ir28_o0, ir28_r0, E_29_l7, R_29_l7, ir28_k0, ir28_o0, ir28_r0, E_29_l8, R_29_l8, ir28_k0, ir28_o0, ir28_r0, E_29_l9, R_29_l9, ir28_k0, ir28_o0, ir28_r0, E_29_l10, R_29_l10, ir28_k0, ir28_o0, ir28_r0, E_29_l11, R_29_l11, ir28_k0, ir28_o0, ir28_r0, E_29_l12, R_29_l12, ir28_k0, ir28_o0, ir28_r0, E_29_l13, R_29_l13, ir28_k0, ir28_o0, ir28_r0, E_29_l14, R_29_l14, ir28_k0, ir28_o0, ir28_r0, E_29_l15, R_29_l15, ir28_k0, ir28_o0, ir28_r0, E_29_l16, R_29_l16, ir28_k0, ir28_o0, ir28_r0, z1, lz1, xz1, fz2, z3, fz66, z67, z68, gz69, z69, lz69, xz69, z70, z71, gz72a, gz72bn, z73, ez84]
    ·try simp only [go_sem, n1, n2, n3, n4, z1, z3, z67, z68, gz69, z69] at z70
     all_goals
     obtain ⟨z85, h⟩ := ck_some h
     rcases or_split z85 with ⟨gz85, z85⟩ | gz85
     ·try simp only [go_sem, n1, n2, n3, n4, z1, z3, z67, z68, gz69, z69, z70] at gz85
      all_goals
      have lz85 := ix_lt z85
      have xz85 := getD_mapD Star_av stars lz85
      try simp only [go_sem] at lz85
      try simp only [go_sem] at xz85
      try simp only [go_sem, n1, n2, n3, n4, z1, z3, z67, z68, gz69, z69, z70, gz85] at z85
      all_goals
      rcases it_some h with ⟨z86, h⟩ | ⟨z86, h⟩
      ·try simp only [go_sem, n1, n2, n3, n4, z1, z3, z67, z68, gz69, z69, z70, gz85, z85] at z86
       all_goals
       obtain ⟨z87, h⟩ := ck_some h
       try simp only [go_sem, n1, n2, n3, n4, z1, z3, z67, z68, gz69, z69, z70, gz85, z85, z86] at z87
       all_goals
       obtain ⟨y_92, z92, h⟩ := bd_some h
       obtain ⟨Lz92, ez92⟩ := spec_l26Of_l11_ex z92
       obtain rfl := so_some h
       refine ⟨Lz92, fun L hL => ?_⟩
       have ez92 := ez92 L (by omega)
       try simp only [go_sem, E_29_l1, R_29_l1, ir28_k0, ir28_o0, ir28_r0, E_29_l2, R_29_l2, ir28_k0, ir28_o0, ir28_r0, E_29_l3, R_29_l3, ir28_k0, ir28_o0, ir28_r0, E_29_l4, R_29_l4, ir28_k0, ir28_o0, ir28_r0, E_29_l5, R_29_l5, ir28_k0, ir28_o0, ir28_r0, E_29_l6, R_29_l6, ir28_k0, ir28_o0, ir28_r0, E_29_l7, R_29_l7, ir28_k0, ir28_o0, ir28_r0, E_29_l8, R_29_l8, ir28_k0, ir28_o0, ir28_r0, E_29_l9, R_29_l9, ir28_k0, ir28_o0, ir28_r0, E_29_l10, R_29_l10, ir28_k0, ir28_o0, ir28_r0, E_29_l11, R_29_l11, ir28_k0, ir28_o0, ir28_r0, E_29_l12, R_29_l12, ir28_k0, ir28_o0, ir28_r0, E_29_l13, R_29_l13, ir28_k0, ir28_o0, ir28_r0, E_29_l14, R_29_l14, ir28_k0, ir28_o0, ir28_r0, E_29_l15, R_29_l15, ir28_k0, ir28_o0, ir28_r0, E_29_l16, R_29_l16, ir28_k0, ir28_o0, ir28_r0, z1, z3, z67, z68, gz69, z69, z70, gz85, z85, z86, z87] at ez92
       simp only [go_sem, ir28, E_29_l1, R_29_l1, ir28_k0, ir28_o0, ir28_r0, E_29_l2, R_29_l2, ir28_k0, ir28_o0, ir28_r0, E_29_l3, R_29_l3, ir28_k0, ir28_o0, ir28_r0, E_29_l4, R_29_l4, ir28_k0, ir28_o0, ir28_r0, E_29_l5, R_29_l5, ir28_k0, ir28_o0, ir28_r0, E_29_l6, R_29_l6, ir28_k0, ir28_o0, ir28_r0, E_29_l7, R_29_l7, ir28_k0, ir28_o0, ir28_r0, E_29_l8, R_29_l8, ir28_k0, ir28_o0, ir28_r0, E_29_l9, R_29_l9, ir28_k0, ir28_o0, ir28_r0, E_29_l10, R_29_l10, ir28_k0, ir28_o0, ir28_r0, E_29_l11, R_29_l11, ir28_k0, ir28_o0, ir28_r0, E_29_l12, R_29_l12, ir28_k0, ir28_o0, ir28_r0, E_29_l13, R_29_l13, ir28_k0, ir28_o0, ir28_r0, E_29_l14, R_29_l14, ir28_k0, ir28_o0, ir28_r0, E_29_l15, R_29_l15, ir28_k0, ir28_o0, ir28_r0, E_29_l16, R_29_l16, ir28_k0, ir28_o0, ir28_r0, z1, lz1, xz1, fz2, z3, fz66, z67, z68, gz69, z69, lz69, xz69, z70, gz85, z85, lz85, xz85, z86, z87, ez92]
      ·try simp only [go_sem, n1, n2, n3, n4, z1, z3, z67, z68, gz69, z69, z70, gz85, z85] at z86
       all_goals
       obtain ⟨y_97, z97, h⟩ := bd_some h
       obtain ⟨Lz97, ez97⟩ := spec_l26Of_l12_ex z97
       obtain rfl := so_some h
       refine ⟨Lz97, fun L hL => ?_⟩
       have ez97 := ez97 L (by omega)
       try simp only [go_sem, E_29_l1, R_29_l1, ir28_k0, ir28_o0, ir28_r0, E_29_l2, R_29_l2, ir28_k0, ir28_o0, ir28_r0, E_29_l3, R_29_l3, ir28_k0, ir28_o0, ir28_r0, E_29_l4, R_29_l4, ir28_k0, ir28_o0, ir28_r0, E_29_l5, R_29_l5, ir28_k0, ir28_o0, ir28_r0, E_29_l6, R_29_l6, ir28_k0, ir28_o0, ir28_r0, E_29_l7, R_29_l7, ir28_k0, ir28_o0, ir28_r0, E_29_l8, R_29_l8, ir28_k0, ir28_o0, ir28_r0, E_29_l9, R_29_l9, ir28_k0, ir28_o0, ir28_r0, E_29_l10, R_29_l10, ir28_k0, ir28_o0, ir28_r0, E_29_l11, R_29_l11, ir28_k0, ir28_o0, ir28_r0, E_29_l12, R_29_l12, ir28_k0, ir28_o0, ir28_r0, E_29_l13, R_29_l13, ir28_k0, ir28_o0, ir28_r0, E_29_l14, R_29_l14, ir28_k0, ir28_o0, ir28_r0, E_29_l15, R_29_l15, ir28_k0, ir28_o0, ir28_r0, E_29_l16, R_29_l16, ir28_k0, ir28_o0, ir28_r0, z1, z3, z67, z68, gz69, z69, z70, gz85, z85, z86] at ez97
       simp only [go_sem, ir28, E_29_l1, R_29_l1, ir28_k0, ir28_o0, ir28_r0, E_29_l2, R_29_l2, ir28_k0, ir28_o0, ir28_r0, E_29_l3, R_29_l3, ir28_k0, ir28_o0, ir28_r0, E_29_l4, R_29_l4, ir28_k0, ir28_o0, ir28_r0, E_29_l5, R_29_l5, ir28_k0, ir28_o0, ir28_r0, E_29_l6, R_29_l6, ir28_k0, ir28_o0, ir28_r0, E_29_l7, R_29_l7, ir28_k0, ir28_o0, ir28_r0, E_29_l8, R_29_l8, ir28_k0, ir28_o0, ir28_r0, E_29_l9, R_29_l9, ir28_k0, ir28_o0, ir28_r0, E_29_l10, R_29_l10, ir28_k0, ir28_o0, ir28_r0, E_29_l11, R_29_l11, ir28_k0, ir28_o0, ir28_r0, E_29_l12, R_29_l12, ir28_k0, ir28_o0, ir28_r0, E_29_l13, R_29_l13, ir28_k0, ir28_o0, ir28_r0, E_29_l14, R_29_l14, ir28_k0, ir28_o0, ir28_r0, E_29_l15, R_29_l15, ir28_k0, ir28_o0, ir28_r0, E_29_l16, R_29_l16, ir28_k0, ir28_o0, ir28_r0, z1, lz1, xz1, fz2, z3, fz66, z67, z68, gz69, z69, lz69, xz69, z70, gz85, z85, lz85, xz85, z86, ez97]
     ·rcases and_f gz85 with gz85a | ⟨gz85a, gz85b⟩
      ·try simp only [go_sem, n1, n2, n3, n4, z1, z3, z67, z68, gz69, z69, z70] at gz85a
       all_goals
       (simp_all)
      ·have gz85bn := no_f gz85b
       try simp only [go_sem, n1, n2, n3, n4, z1, z3, z67, z68, gz69, z69, z70] at gz85a
       all_goals
       try simp only [go_sem, n1, n2, n3, n4, z1, z3, z67, z68, gz69, z69, z70, gz85a] at gz85bn
       all_goals
       rcases it_some h with ⟨z86, h⟩ | ⟨z86, h⟩
       ·try simp only [go_sem, n1, n2, n3, n4, z1, z3, z67, z68, gz69, z69, z70, gz85a, gz85bn] at z86
        all_goals
        (simp_all)
       ·try simp only [go_sem, n1, n2, n3, n4, z1, z3, z67, z68, gz69, z69, z70, gz85a, gz85bn] at z86
        all_goals
        obtain ⟨y_97, z97, h⟩ := bd_some h
        obtain ⟨Lz97, ez97⟩ := spec_l26Of_l12_ex z97
        obtain rfl := so_some h
        refine ⟨Lz97, fun L hL => ?_⟩
        have ez97 := ez97 L (by omega)
        try simp only [go_sem, E_29_l1, R_29_l1, ir28_k0, ir28_o0, ir28_r0, E_29_l2, R_29_l2, ir28_k0, ir28_o0, ir28_r0, E_29_l3, R_29_l3, ir28_k0, ir28_o0, ir28_r0, E_29_l4, R_29_l4, ir28_k0, ir28_o0, ir28_r0, E_29_l5, R_29_l5, ir28_k0, ir28_o0, ir28_r0, E_29_l6, R_29_l6, ir28_k0, ir28_o0, ir28_r0, E_29_l7, R_29_l7, ir28_k0, ir28_o0, ir28_r0, E_29_l8, R_29_l8, ir28_k0, ir28_o0, ir28_r0, E_29_l9, R_29_l9, ir28_k0, ir28_o0, ir28_r0, E_29_l10, R_29_l10, ir28_k0, ir28_o0, ir28_r0, E_29_l11, R_29_l11, ir28_k0, ir28_o0, ir28_r0, E_29_l12, R_29_l12, ir28_k0, ir28_o0, ir28_r0, E_29_l13, R_29_l13, ir28_k0, ir28_o0, ir28_r0, E_29_l14, R_29_l14, ir28_k0, ir28_o0, ir28_r0, E_29_l15, R_29_l15, ir28_k0, ir28_o0, ir28_r0, E_29_l16, R_29_l16, ir28_k0, ir28_o0, ir28_r0, z1, z3, z67, z68, gz69, z69, z70, gz85a, gz85bn, z86] at ez97
        simp only [go_sem, ir28, E_29_l1, R_29_l1, ir28_k0, ir28_o0, ir28_r0, E_29_l2, R_29_l2, ir28_k0, ir28_o0, ir28_r0, E_29_l3, R_29_l3, ir28_k0, ir28_o0, ir28_r0, E_29_l4, R_29_l4, ir28_k0, ir28_o0, ir28_r0, E_29_l5, R_29_l5, ir28_k0, ir28_o0, ir28_r0, E_29_l6, R_29_l6, ir28_k0, ir28_o0, ir28_r0, E_29_l7, R_29_l7, ir28_k0, ir28_o0, ir28_r0, E_29_l8, R_29_l8, ir28_k0, ir28_o0, ir28_r0, E_29_l9, R_29_l9, ir28_k0, ir28_o0, ir28_r0, E_29_l10, R_29_l10, ir28_k0, ir28_o0, ir28_r0, E_29_l11, R_29_l11, ir28_k0, ir28_o0, ir28_r0, E_29_l12, R_29_l12, ir28_k0, ir28_o0, ir28_r0, E_29_l13, R_29_l13, ir28_k0, ir28_o0, ir28_r0, E_29_l14, R_29_l14, ir28_k0, ir28_o0, ir28_r0, E_29_l15, R_29_l15, ir28_k0, ir28_o0, ir28_r0, E_29_l16, R_29_l16, ir28_k0, ir28_o0, ir28_r0, z1, lz1, xz1, fz2, z3, fz66, z67, z68, gz69, z69, lz69, xz69, z70, gz85a, gz85bn, z86, ez97]
   ·try simp only [go_sem, n1, n2, n3, n4, z1, z3, z67, z68] at gz69
    all_goals
    rcases it_some h with ⟨z70, h⟩ | ⟨z70, h⟩
    ·try simp only [go_sem, n1, n2, n3, n4, z1, z3, z67, z68, gz69] at z70
     all_goals
     (simp_all)
    ·try simp only [go_sem, n1, n2, n3, n4, z1, z3, z67, z68, gz69] at z70
     all_goals
     obtain ⟨z85, h⟩ := ck_some h
     rcases it_some h with ⟨z86, h⟩ | ⟨z86, h⟩
     ·try simp only [go_sem, n1, n2, n3, n4, z1, z3, z67, z68, gz69, z70] at z86
      all_goals
      (simp_all)
     ·try simp only [go_sem, n1, n2, n3, n4, z1, z3, z67, z68, gz69, z70] at z86
      all_goals
      obtain ⟨y_97, z97, h⟩ := bd_some h
      obtain ⟨Lz97, ez97⟩ := spec_l26Of_l12_ex z97
      obtain rfl := so_some h
      refine ⟨Lz97, fun L hL => ?_⟩
      have ez97 := ez97 L (by omega)
      try simp only [go_sem, E_29_l1, R_29_l1, ir28_k0, ir28_o0, ir28_r0, E_29_l2, R_29_l2, ir28_k0, ir28_o0, ir28_r0, E_29_l3, R_29_l3, ir28_k0, ir28_o0, ir28_r0, E_29_l4, R_29_l4, ir28_k0, ir28_o0, ir28_r0, E_29_l5, R_29_l5, ir28_k0, ir28_o0, ir28_r0, E_29_l6, R_29_l6, ir28_k0, ir28_o0, ir28_r0, E_29_l7, R_29_l7, ir28_k0, ir28_o0, ir28_r0, E_29_l8, R_29_l8, ir28_k0, ir28_o0, ir28_r0, E_29_l9, R_29_l9, ir28_k0, ir28_o0, ir28_r0, E_29_l10, R_29_l10, ir28_k0, ir28_o0, ir28_r0, E_29_l11, R_29_l11, ir28_k0, ir28_o0, ir28_r0, E_29_l12, R_29_l12, ir28_k0, ir28_o0, ir28_r0, E_29_l13, R_29_l13, ir28_k0, ir28_o0, ir28_r0, E_29_l14, R_29_l14, ir28_k0, ir28_o0, ir28_r0, E_29_l15, R_29_l15, ir28_k0, ir28_o0, ir28_r0, E_29_l16, R_29_l16, ir28_k0, ir28_o0, ir28_r0, z1, z3, z67, z68, gz69, z70, z86] at ez97
      simp only [go_sem, ir28, E_29_l1, R_29_l1, ir28_k0, ir28_o0, ir28_r0, E_29_l2, R_29_l2, ir28_k0, ir28_o0, ir28_r0, E_29_l3, R_29_l3, ir28_k0, ir28_o0, ir28_r0, E_29_l4, R_29_l4, ir28_k0, ir28_o0, ir28_r0, E_29_l5, R_29_l5, ir28_k0, ir28_o0, ir28_r0, E_29_l6, R_29_l6, ir28_k0, ir28_o0, ir28_r0, E_29_l7, R_29_l7, ir28_k0, ir28_o0, ir28_r0, E_29_l8, R_29_l8, ir28_k0, ir28_o0, ir28_r0, E_29_l9, R_29_l9, ir28_k0, ir28_o0, ir28_r0, E_29_l10, R_29_l10, ir28_k0, ir28_o0, ir28_r0, E_29_l11, R_29_l11, ir28_k0, ir28_o0, ir28_r0, E_29_l12, R_29_l12, ir28_k0, ir28_o0, ir28_r0, E_29_l13, R_29_l13, ir28_k0, ir28_o0, ir28_r0, E_29_l14, R_29_l14, ir28_k0, ir28_o0, ir28_r0, E_29_l15, R_29_l15, ir28_k0, ir28_o0, ir28_r0, E_29_l16, R_29_l16, ir28_k0, ir28_o0, ir28_r0, z1, lz1, xz1, fz2, z3, fz66, z67, z68, gz69, z70, z86, ez97]
  ·try simp only [go_sem, n1, n2, n3, n4, z1, z3] at z67
   all_goals
   obtain ⟨z98, h⟩ := ck_some h
   rcases or_split z98 with ⟨gz98, z98⟩ | gz98
   ·try simp only [go_sem, n1, n2, n3, n4, z1, z3, z67] at gz98
    all_goals
    have lz98 := ix_lt z98
    have xz98 := getD_mapD Star_av stars lz98
    try simp only [go_sem] at lz98
    try simp only [go_sem] at xz98
    try simp only [go_sem, n1, n2, n3, n4, z1, z3, z67, gz98] at z98
    all_goals
    rcases it_some h with ⟨z99, h⟩ | ⟨z99, h⟩
    ·try simp only [go_sem, n1, n2, n3, n4, z1, z3, z67, gz98, z98] at z99
     all_goals
     obtain ⟨z100, h⟩ := ck_some h
     try simp only [go_sem, n1, n2, n3, n4, z1, z3, z67, gz98, z98, z99] at z100
     all_goals
     obtain ⟨z101, h⟩ := ck_some h
     rcases or_split z101 with ⟨gz101, z101⟩ | gz101
     ·try simp only [go_sem, n1, n2, n3, n4, z1, z3, z67, gz98, z98, z99, z100] at gz101
      all_goals
      have lz101 := ix_lt z101
      have xz101 := getD_mapD Star_av stars lz101
      try simp only [go_sem] at lz101
      try simp only [go_sem] at xz101
      try simp only [go_sem, n1, n2, n3, n4, z1, z3, z67, gz98, z98, z99, z100, gz101] at z101
      all_goals
      rcases it_some h with ⟨z102, h⟩ | ⟨z102, h⟩
      ·try simp only [go_sem, n1, n2, n3, n4, z1, z3, z67, gz98, z98, z99, z100, gz101, z101] at z102
       all_goals
       obtain ⟨z103, h⟩ := ck_some h
       try simp only [go_sem, n1, n2, n3, n4, z1, z3, z67, gz98, z98, z99, z100, gz101, z101, z102] at z103
       all_goals
       obtain ⟨y_108, z108, h⟩ := bd_some h
       obtain ⟨Lz108, ez108⟩ := spec_l26Of_l13_ex z108
       obtain rfl := so_some h
       refine ⟨Lz108, fun L hL => ?_⟩
       have ez108 := ez108 L (by omega)
       try simp only [go_sem, E_29_l1, R_29_l1, ir28_k0, ir28_o0, ir28_r0, E_29_l2, R_29_l2, ir28_k0, ir28_o0, ir28_r0, E_29_l3, R_29_l3, ir28_k0, ir28_o0, ir28_r0, E_29_l4, R_29_l4, ir28_k0, ir28_o0, ir28_r0, E_29_l5, R_29_l5, ir28_k0, ir28_o0, ir28_r0, E_29_l6, R_29_l6, ir28_k0, ir28_o0, ir28_r0, E_29_l7, R_29_l7, ir28_k0, ir28_o0, ir28_r0, E_29_l8, R_29_l8, ir28_k0, ir28_o0, ir28_r0, E_29_l9, R_29_l9, ir28_k0, ir28_o0, ir28_r0, E_29_l10, R_29_l10, ir28_k0, ir28_o0, ir28_r0, E_29_l11, R_29_l11, ir28_k0, ir28_o0, ir28_r0, E_29_l12, R_29_l12, ir28_k0, ir28_o0, ir28_r0, E_29_l13, R_29_l13, ir28_k0, ir28_o0, ir28_r0, E_29_l14, R_29_l14, ir28_k0, ir28_o0, ir28_r0, E_29_l15, R_29_l15, ir28_k0, ir28_o0, ir28_r0, E_29_l16, R_29_l16, ir28_k0, ir28_o0, ir28_r0, z1, z3, z67, gz98, z98, z99, z100, gz101, z101, z102, z103] at ez108
       simp only [go_sem, ir28, E_29_l1, R_29_l1, ir28_k0, ir28_o0, ir28_r0, E_29_l2, R_29_l2, ir28_k0, ir28_o0, ir28_r0, E_29_l3, R_29_l3, ir28_k0, ir28_o0, ir28_r0, E_29_l4, R_29_l4, ir28_k0, ir28_o0, ir28_r0, E_29_l5, R_29_l5, ir28_k0, ir28_o0, ir28_r0, E_29_l6, R_29_l6, ir28_k0, ir28_o0, ir28_r0, E_29_l7, R_29_l7, ir28_k0, ir28_o0, ir28_r0, E_29_l8, R_29_l8, ir28_k0, ir28_o0, ir28_r0, E_29_l9, R_29_l9, ir28_k0, ir28_o0, ir28_r0, E_29_l10, R_29_l10, ir28_k0, ir28_o0, ir28_r0, E_29_l11, R_29_l11, ir28_k0, ir28_o0, ir28_r0, E_29_l12, R_29_l12, ir28_k0, ir28_o0, ir28_r0, E_29_l13, R_29_l13, ir28_k0, ir28_o0, ir28_r0, E_29_l14, R_29_l14, ir28_k0, ir28_o0, ir28_r0, E_29_l15, R_29_l15, ir28_k0, ir28_o0, ir28_r0, E_29_l16, R_29_l16, ir28_k0, ir28_o0, ir28_r0, z1, lz1, xz1, fz2, z3, fz66, z67, gz98, z98, lz98, xz98, z99, z100, gz101, z101, lz101, xz101, z102, z103, ez108]
      ·try simp only [go_sem, n1, n2, n3, n4, z1, z3, z67, gz98, z98, z99, z100, gz101, z101] at z102
       all_goals
       obtain ⟨y_113, z113, h⟩ := bd_some h
       obtain ⟨Lz113, ez113⟩ := spec_l26Of_l14_ex z113
       obtain rfl := so_some h
       refine ⟨Lz113, fun L hL => ?_⟩
       have ez113 := ez113 L (by omega)
       try simp only [go_sem, E_29_l1, R_29_l1, ir28_k0, ir28_o0, ir28_r0, E_29_l2, R_29_l2, ir28_k0, ir28_o0, ir28_r0, E_29_l3, R_29_l3, ir28_k0, ir28_o0, ir28_r0, E_29_l4, R_29_l4, ir28_k0, ir28_o0, ir28_r0, E_29_l5, R_29_l5, ir28_k0, ir28_o0, ir28_r0, E_29_l6, R_29_l6, ir28_k0, ir28_o0, ir28_r0, E_29_l7, R_29_l7, ir28_k0, ir28_o0, ir28_r0, E_29_l8, R_29_l8, ir28_k0, ir28_o0, ir28_r0, E_29_l9, R_29_l9, ir28_k0, ir28_o0, ir28_r0, E_29_l10, R_29_l10, ir28_k0, ir28_o0, ir28_r0, E_29_l11, R_29_l11, ir28_k0, ir28_o0, ir28_r0, E_29_l12, R_29_l12, ir28_k0, ir28_o0, ir28_r0, E_29_l13, R_29_l13, ir28_k0, ir28_o0, ir28_r0, E_29_l14, R_29_l14, ir28_k0, ir28_o0, ir28_r0, E_29_l15, R_29_l15, ir28_k0, ir28_o0, ir28_r0, E_29_l16, R_29_l16, ir28_k0, ir28_o0, ir28_r0, z1, z3, z67, gz98, z98, z99, z100, gz101, z101, z102] at ez113
       simp only [go_sem, ir28, E_29_l1, R_29_l1, ir28_k0, ir28_o0, ir28_r0, E_29_l2, R_29_l2, ir28_k0, ir28_o0, ir28_r0, E_29_l3, R_29_l3, ir28_k0, ir28_o0, ir28_r0, E_29_l4, R_29_l4, ir28_k0, ir28_o0, ir28_r0, E_29_l5, R_29_l5, ir28_k0, ir28_o0, ir28_r0, E_29_l6, R_29_l6, ir28_k0, ir28_o0, ir28_r0, E_29_l7, R_29_l7, ir28_k0, ir28_o0, ir28_r0, E_29_l8, R_29_l8, ir28_k0, ir28_o0, ir28_r0, E_29_l9, R_29_l9, ir28_k0, ir28_o0, ir28_r0, E_29_l10, R_29_l10, ir28_k0, ir28_o0, ir28_r0, E_29_l11, R_29_l11, ir28_k0, ir28_o0, ir28_r0, E_29_l12, R_29_l12, ir28_k0, ir28_o0, ir28_r0, E_29_l13, R_29_l13, ir28_k0, ir28_o0, ir28_r0, E_29_l14, R_29_l14, ir28_k0, ir28_o0, ir28_r0, E_29_l15, R_29_l15, ir28_k0, ir28_o0, ir28_r0, E_29_l16, R_29_l16, ir28_k0, ir28_o0, ir28_r0, z1, lz1, xz1, fz2, z3, fz66, z67, gz98, z98, lz98, xz98, z99, z100, gz101, z101, lz101, xz101, z102, ez113]
     ·rcases and_f gz101 with gz101a | ⟨gz101a, gz101b⟩
      ·try simp only [go_sem, n1, n2, n3, n4, z1, z3, z67, gz98, z98, z99, z100] at gz101a
       all_goals
       (simp_all)
      ·have gz101bn := no_f gz101b
       try simp only [go_sem, n1, n2, n3, n4, z1, z3, z67, gz98, z98, z99, z100] at gz101a
       all_goals
       try simp only [go_sem, n1, n2, n3, n4, z1, z3, z67, gz98, z98, z99, z100, gz101a] at gz101bn
       all_goals
       rcases it_some h with ⟨z102, h⟩ | ⟨z102, h⟩
       ·try simp only [go_sem, n1, n2, n3, n4, z1, z3, z67, gz98, z98, z99, z100, gz101a, gz101bn] at z102
        all_goals
        (simp_all)
       ·try simp only [go_sem, n1, n2, n3, n4, z1, z3, z67, gz98, z98, z99, z100, gz101a, gz101bn] at z102
        all_goals
        obtain ⟨y_113, z113, h⟩ := bd_some h
        obtain ⟨Lz113, ez113⟩ := spec_l26Of_l14_ex z113
        obtain rfl := so_some h
        refine ⟨Lz113, fun L hL => ?_⟩
        have ez113 := ez113 L (by omega)
        try simp only [go_sem, E_29_l1, R_29_l1, ir28_k0, ir28_o0, ir28_r0, E_29_l2, R_29_l2, ir28_k0, ir28_o0, ir28_r0, E_29_l3, R_29_l3, ir28_k0, ir28_o0, ir28_r0, E_29_l4, R_29_l4, ir28_k0, ir28_o0, ir28_r0, E_29_l5, R_29_l5, ir28_k0, ir28_o0, ir28_r0, E_29_l6, R_29_l6, ir28_k0, ir28_o0, ir28_r0, E_29_l7, R_29_l7, ir28_k0, ir28_o0, ir28_r0, E_29_l8, R_29_l8, ir28_k0, ir28_o0, ir28_r0, E_29_l9, R_29_l9, ir28_k0, ir28_o0, ir28_r0, E_29_l10, R_29_l10, ir28_k0, ir28_o0, ir28_r0, E_29_l11, R_29_l11, ir28_k0, ir28_o0, ir28_r0, E_29_l12, R_29_l12, ir28_k0, ir28_o0, ir28_r0, E_29_l13, R_29_l13, ir28_k0, ir28_o0, ir28_r0, E_29_l14, R_29_l14, ir28_k0, ir28_o0, ir28_r0, E_29_l15, R_29_l15, ir28_k0, ir28_o0, ir28_r0, E_29_l16, R_29_l16, ir28_k0, ir28_o0, ir28_r0, z1, z3, z67, gz98, z98, z99, z100, gz101a, gz101bn, z102] at ez113
        simp only [go_sem, ir28, E_29_l1, R_29_l1, ir28_k0, ir28_o0, ir28_r0, E_29_l2, R_29_l2, ir28_k0, ir28_o0, ir28_r0, E_29_l3, R_29_l3, ir28_k0, ir28_o0, ir28_r0, E_29_l4, R_29_l4, ir28_k0, ir28_o0, ir28_r0, E_29_l5, R_29_l5, ir28_k0, ir28_o0, ir28_r0, E_29_l6, R_29_l6, ir28_k0, ir28_o0, ir28_r0, E_29_l7, R_29_l7, ir28_k0, ir28_o0, ir28_r0, E_29_l8, R_29_l8, ir28_k0, ir28_o0, ir28_r0, E_29_l9, R_29_l9, ir28_k0, ir28_o0, ir28_r0, E_29_l10, R_29_l10, ir28_k0, ir28_o0, ir28_r0, E_29_l11, R_29_l11, ir28_k0, ir28_o0, ir28_r0, E_29_l12, R_29_l12, ir28_k0, ir28_o0, ir28_r0, E_29_l13, R_29_l13, ir28_k0, ir28_o0, ir28_r0, E_29_l14, R_29_l14, ir28_k0, ir28_o0, ir28_r0, E_29_l15, R_29_l15, ir28_k0, ir28_o0, ir28_r0, E_29_l16, R_29_l16, ir28_k0, ir28_o0, ir28_r0, z1, lz1, xz1, fz2, z3, fz66, z67, gz98, z98, lz98, xz98, z99, z100, gz101a, gz101bn, z102, ez113]
    ·try simp only [go_sem, n1, n2, n3, n4, z1, z3, z67, gz98, z98] at z99
     all_goals
     obtain ⟨z114, h⟩ := ck_some h
     rcases or_split z114 with ⟨gz114, z114⟩ | gz114
     ·try simp only [go_sem, n1, n2, n3, n4, z1, z3, z67, gz98, z98, z99] at gz114
      all_goals
      have lz114 := ix_lt z114
      have xz114 := getD_mapD Star_av stars lz114
      try simp only [go_sem] at lz114
      try simp only [go_sem] at xz114
      try simp only [go_sem, n1, n2, n3, n4, z1, z3, z67, gz98, z98, z99, gz114] at z114
      all_goals
      rcases it_some h with ⟨z115, h⟩ | ⟨z115, h⟩
      ·try simp only [go_sem, n1, n2, n3, n4, z1, z3, z67, gz98, z98, z99, gz114, z114] at z115
       all_goals
       obtain ⟨z116, h⟩ := ck_some h
       try simp only [go_sem, n1, n2, n3, n4, z1, z3, z67, gz98, z98, z99, gz114, z114, z115] at z116
       all_goals
       obtain ⟨y_121, z121, h⟩ := bd_some h
       obtain ⟨Lz121, ez121⟩ := spec_l26Of_l15_ex z121
       obtain rfl := so_some h
       refine ⟨Lz121, fun L hL => ?_⟩
       have ez121 := ez121 L (by omega)
       try simp only [go_sem, E_29_l1, R_29_l1, ir28_k0, ir28_o0, ir28_r0, E_29_l2, R_29_l2, ir28_k0, ir28_o0, ir28_r0, E_29_l3, R_29_l3, ir28_k0, ir28_o0, ir28_r0, E_29_l4, R_29_l4, ir28_k0, ir28_o0, ir28_r0, E_29_l5, R_29_l5, ir28_k0, ir28_o0, ir28_r0, E_29_l6, R_29_l6, ir28_k0, ir28_o0, ir28_r0, E_29_l7, R_29_l7, ir28_k0, ir28_o0, ir28_r0, E_29_l8, R_29_l8, ir28_k0, ir28_o0, ir28_r0, E_29_l9, R_29_l9, ir28_k0, ir28_o0, ir28_r0, E_29_l10, R_29_l10, ir28_k0, ir28_o0, ir28_r0, E_29_l11, R_29_l11, ir28_k0, ir28_o0, ir28_r0, E_29_l12, R_29_l12, ir28_k0, ir28_o0, ir28_r0, E_29_l13, R_29_l13, ir28_k0, ir28_o0, ir28_r0, E_29_l14, R_29_l14, ir28_k0, ir28_o0, ir28_r0, E_29_l15, R_29_l15, ir28_k0, ir28_o0, ir28_r0, E_29_l16, R_29_l16, ir28_k0, ir28_o0, ir28_r0, z1, z3, z67, gz98, z98, z99, gz114, z114, z115, z116] at ez121
       simp only [go_sem, ir28, E_29_l1, R_29_l1, ir28_k0, ir28_o0, ir28_r0, E_29_l2, R_29_l2, ir28_k0, ir28_o0, ir28_r0, E_29_l3, R_29_l3, ir28_k0, ir28_o0, ir28_r0, E_29_l4, R_29_l4, ir28_k0, ir28_o0, ir28_r0, E_29_l5, R_29_l5, ir28_k0, ir28_o0, ir28_r0, E_29_l6, R_29_l6, ir28_k0, ir28_o0, ir28_r0, E_29_l7, R_29_l7, ir28_k0, ir28_o0, ir28_r0, E_29_l8, R_29_l8, ir28_k0, ir28_o0, ir28_r0, E_29_l9, R_29_l9, ir28_k0, ir28_o0, ir28_r0, E_29_l10, R_29_l10, ir28_k0, ir28_o0, ir28_r0, E_29_l11, R_29_l11, ir28_k0, ir28_o0, ir28_r0, E_29_l12, R_29_l12, ir28_k0, ir28_o0, ir28_r0, E_29_l13, R_29_l13, ir28_k0, ir28_o0, ir28_r0, E_29_l14, R_29_l14, ir28_k0, ir28_o0, ir28_r0, E_29_l15, R_29_l15, ir28_k0, ir28_o0, ir28_r0, E_29_l16, R_29_l16, ir28_k0, ir28_o0, ir28_r0, z1, lz1, xz1, fz2, z3, fz66, z67, gz98, z98, lz98, xz98, z99, gz114, z114, lz114, xz114, z115, z116, ez121]
      ·try simp only [go_sem, n1, n2, n3, n4, z1, z3, z67, gz98, z98, z99, gz114, z114] at z115
       all_goals
       obtain ⟨y_126, z126, h⟩ := bd_some h
       obtain ⟨Lz126, ez126⟩ := spec_l26Of_l16_ex z126
       obtain rfl := so_some h
       refine ⟨Lz126, fun L hL => ?_⟩
       have ez126 := ez126 L (by omega)
       try simp only [go_sem, E_29_l1, R_29_l1, ir28_k0, ir28_o0, ir28_r0, E_29_l2, R_29_l2, ir28_k0, ir28_o0, ir28_r0, E_29_l3, R_29_l3, ir28_k0, ir28_o0, ir28_r0, E_29_l4, R_29_l4, ir28_k0, ir28_o0, ir28_r0, E_29_l5, R_29_l5, ir28_k0, ir28_o0, ir28_r0, E_29_l6, R_29_l6, ir28_k0, ir28_o0, ir28_r0, E_29_l7, R_29_l7, ir28_k0, ir28_o0, ir28_r0, E_29_l8, R_29_l8, ir28_k0, ir28_o0, ir28_r0, E_29_l9, R_29_l9, ir28_k0, ir28_o0, ir28_r0, E_29_l10, R_29_l10, ir28_k0, ir28_o0, ir28_r0, E_29_l11, R_29_l11, ir28_k0, ir28_o0, ir28_r0, E_29_l12, R_29_l12, ir28_k0, ir28_o0, ir28_r0, E_29_l13, R_29_l13, ir28_k0, ir28_o0, ir28_r0, E_29_l14, R_29_l14, ir28_k0, ir28_o0, ir28_r0, E_29_l15, R_29_l15, ir28_k0, ir28_o0, ir28_r0, E_29_l16, R_29_l16, ir28_k0, ir28_o0, ir28_r0, z1, z3, z67, gz98, z98, z99, gz114, z114, z115] at ez126
       simp only [go_sem, ir28, E_29_l1, R_29_l1, ir28_k0, ir28_o0, ir28_r0, E_29_l2, R_29_l2, ir28_k0, ir28_o0, ir28_r0, E_29_l3, R_29_l3, ir28_k0, ir28_o0, ir28_r0, E_29_l4, R_29_l4, ir28_k0, ir28_o0, ir28_r0, E_29_l5, R_29_l5, ir28_k0, ir28_o0, ir28_r0, E_29_l6, R_29_l6, ir28_k0, ir28_o0, ir28_r0, E_29_l7, R_29_l7, ir28_k0, ir28_o0, ir28_r0, E_29_l8, R_29_l8, ir28_k0, ir28_o0, ir28_r0, E_29_l9, R_29_l9, ir28_k0, ir28_o0, ir28_r0, E_29_l10, R_29_l10, ir28_k0, ir28_o0, ir28_r0, E_29_l11, R_29_l11, ir28_k0, ir28_o0, ir28_r0, E_29_l12, R_29_l12, ir28_k0, ir28_o0, ir28_r0, E_29_l13, R_29_l13, ir28_k0, ir28_o0, ir28_r0, E_29_l14, R_29_l14, ir28_k0, ir28_o0, ir28_r0, E_29_l15, R_29_l15, ir28_k0, ir28_o0, ir28_r0, E_29_l16, R_29_l16, ir28_k0, ir28_o0, ir28_r0, z1, lz1, xz1, fz2, z3, fz66, z67, gz98, z98, lz98, xz98, z99, gz114, z114, lz114, xz114, z115, ez126]
     ·rcases and_f gz114 with gz114a | ⟨gz114a, gz114b⟩
      ·try simp only [go_sem, n1, n2, n3, n4, z1, z3, z67, gz98, z98, z99] at gz114a
       all_goals
       (simp_all)
      ·have gz114bn := no_f gz114b
       try simp only [go_sem, n1, n2, n3, n4, z1, z3, z67, gz98, z98, z99] at gz114a
       all_goals
       try simp only [go_sem, n1, n2, n3, n4, z1, z3, z67, gz98, z98, z99, gz114a] at gz114bn
       all_goals
       rcases it_some h with ⟨z115, h⟩ | ⟨z115, h⟩
       ·try simp only [go_sem, n1, n2, n3, n4, z1, z3, z67, gz98, z98, z99, gz114a, gz114bn] at z115
        all_goals
        (simp_all)
       ·try simp only [go_sem, n1, n2, n3, n4, z1, z3, z67, gz98, z98, z99, gz114a, gz114bn] at z115
        all_goals
        obtain ⟨y_126, z126, h⟩ := bd_some h
        obtain ⟨Lz126, ez126⟩ := spec_l26Of_l16_ex z126
        obtain rfl := so_some h
        refine ⟨Lz126, fun L hL => ?_⟩
        have ez126 := ez126 L (by omega)
        try simp only [go_sem, E_29_l1, R_29_l1, ir28_k0, ir28_o0, ir28_r0, E_29_l2, R_29_l2, ir28_k0, ir28_o0, ir28_r0, E_29_l3, R_29_l3, ir28_k0, ir28_o0, ir28_r0, E_29_l4, R_29_l4, ir28_k0, ir28_o0, ir28_r0, E_29_l5, R_29_l5, ir28_k0, ir28_o0, ir28_r0, E_29_l6, R_29_l6, ir28_k0, ir28_o0, ir28_r0, E_29_l7, R_29_l7, ir28_k0, ir28_o0, ir28_r0, E_29_l8, R_29_l8, ir28_k0, ir28_o0, ir28_r0, E_29_l9, R_29_l9, ir28_k0, ir28_o0, ir28_r0, E_29_l10, R_29_l10, ir28_k0, ir28_o0, ir28_r0, E_29_l11, R_29_l11, ir28_k0, ir28_o0, ir28_r0, E_29_l12, R_29_l12, ir28_k0, ir28_o0, ir28_r0, E_29_l13, R_29_l13, ir28_k0, ir28_o0, ir28_r0, E_29_l14, R_29_l14, ir28_k0, ir28_o0, ir28_r0, E_29_l15, R_29_l15, ir28_k0, ir28_o0, ir28_r0, E_29_l16, R_29_l16, ir28_k0, ir28_o0, ir28_r0, z1, z3, z67, gz98, z98, z99, gz114a, gz114bn, z115] at ez126
        simp only [go_sem, ir28, E_29_l1, R_29_l1, ir28_k0, ir28_o0, ir28_r0, E_29_l2, R_29_l2, ir28_k0, ir28_o0, ir28_r0, E_29_l3, R_29_l3, ir28_k0, ir28_o0, ir28_r0, E_29_l4, R_29_l4, ir28_k0, ir28_o0, ir28_r0, E_29_l5, R_29_l5, ir28_k0, ir28_o0, ir28_r0, E_29_l6, R_29_l6, ir28_k0, ir28_o0, ir28_r0, E_29_l7, R_29_l7, ir28_k0, ir28_o0, ir28_r0, E_29_l8, R_29_l8, ir28_k0, ir28_o0, ir28_r0, E_29_l9, R_29_l9, ir28_k0, ir28_o0, ir28_r0, E_29_l10, R_29_l10, ir28_k0, ir28_o0, ir28_r0, E_29_l11, R_29_l11, ir28_k0, ir28_o0, ir28_r0, E_29_l12, R_29_l12, ir28_k0, ir28_o0, ir28_r0, E_29_l13, R_29_l13, ir28_k0, ir28_o0, ir28_r0, E_29_l14, R_29_l14, ir28_k0, ir28_o0, ir28_r0, E_29_l15, R_29_l15, ir28_k0, ir28_o0, ir28_r0, E_29_l16, R_29_l16, ir28_k0, ir28_o0, ir28_r0, z1, lz1, xz1, fz2, z3, fz66, z67, gz98, z98, lz98, xz98, z99, gz114a, gz114bn, z115, ez126]
   ·try simp only [go_sem, n1, n2, n3, n4, z1, z3, z67] at gz98
    all_goals
    rcases it_some h with ⟨z99, h⟩ | ⟨z99, h⟩
    ·try simp only [go_sem, n1, n2, n3, n4, z1, z3, z67, gz98] at z99
     all_goals
     (simp_all)
    ·try simp only [go_sem, n1, n2, n3, n4, z1, z3, z67, gz98] at z99
     all_goals
     obtain ⟨z114, h⟩ := ck_some h
     rcases it_some h with ⟨z115, h⟩ | ⟨z115, h⟩
     ·try simp only [go_sem, n1, n2, n3, n4, z1, z3, z67, gz98, z99] at z115
      all_goals
      (simp_all)
     ·try simp only [go_sem, n1, n2, n3, n4, z1, z3, z67, gz98, z99] at z115
      all_goals
      obtain ⟨y_126, z126, h⟩ := bd_some h
      obtain ⟨Lz126, ez126⟩ := spec_l26Of_l16_ex z126
      obtain rfl := so_some h
      refine ⟨Lz126, fun L hL => ?_⟩
      have ez126 := ez126 L (by omega)
      try simp only [go_sem, E_29_l1, R_29_l1, ir28_k0, ir28_o0, ir28_r0, E_29_l2, R_29_l2, ir28_k0, ir28_o0, ir28_r0, E_29_l3, R_29_l3, ir28_k0, ir28_o0, ir28_r0, E_29_l4, R_29_l4, ir28_k0, ir28_o0, ir28_r0, E_29_l5, R_29_l5, ir28_k0, ir28_o0, ir28_r0, E_29_l6, R_29_l6, ir28_k0, ir28_o0, ir28_r0, E_29_l7, R_29_l7, ir28_k0, ir28_o0, ir28_r0, E_29_l8, R_29_l8, ir28_k0, ir28_o0, ir28_r0, E_29_l9, R_29_l9, ir28_k0, ir28_o0, ir28_r0, E_29_l10, R_29_l10, ir28_k0, ir28_o0, ir28_r0, E_29_l11, R_29_l11, ir28_k0, ir28_o0, ir28_r0, E_29_l12, R_29_l12, ir28_k0, ir28_o0, ir28_r0, E_29_l13, R_29_l13, ir28_k0, ir28_o0, ir28_r0, E_29_l14, R_29_l14, ir28_k0, ir28_o0, ir28_r0, E_29_l15, R_29_l15, ir28_k0, ir28_o0, ir28_r0, E_29_l16, R_29_l16, ir28_k0, ir28_o0, ir28_r0, z1, z3, z67, gz98, z99, z115] at ez126
      simp only [go_sem, ir28, E_29_l1, R_29_l1, ir28_k0, ir28_o0, ir28_r0, E_29_l2, R_29_l2, ir28_k0, ir28_o0, ir28_r0, E_29_l3, R_29_l3, ir28_k0, ir28_o0, ir28_r0, E_29_l4, R_29_l4, ir28_k0, ir28_o0, ir28_r0, E_29_l5, R_29_l5, ir28_k0, ir28_o0, ir28_r0, E_29_l6, R_29_l6, ir28_k0, ir28_o0, ir28_r0, E_29_l7, R_29_l7, ir28_k0, ir28_o0, ir28_r0, E_29_l8, R_29_l8, ir28_k0, ir28_o0, ir28_r0, E_29_l9, R_29_l9, ir28_k0, ir28_o0, ir28_r0, E_29_l10, R_29_l10, ir28_k0, ir28_o0, ir28_r0, E_29_l11, R_29_l11, ir28_k0, ir28_o0, ir28_r0, E_29_l12, R_29_l12, ir28_k0, ir28_o0, ir28_r0, E_29_l13, R_29_l13, ir28_k0, ir28_o0, ir28_r0, E_29_l14, R_29_l14, ir28_k0, ir28_o0, ir28_r0, E_29_l15, R_29_l15, ir28_k0, ir28_o0, ir28_r0, E_29_l16, R_29_l16, ir28_k0, ir28_o0, ir28_r0, z1, lz1, xz1, fz2, z3, fz66, z67, gz98, z99, z115, ez126]


def ir7_b1 : IR := .seq (.test false [ PM 43 9, PM 44 8, PO 45 (.len false (.s 0)), PO 46 (.bin false .lss (.s 2) (.s 0))] (.s 0) (.skip) (.exit 2)) (.seq (.block 3 (.region false [ PM 49 6, PM 50 7, PM 51 8, PM 52 9, PO 53 (.ixAddr 1 (.s 1) (.s 0)), PO 54 (.load false 1 (.s 0)), PO 55 (.build [.int .i64 (0), .int .i64 (0)] [(0, 1, (.s 4)), (1, 1, (.s 0))]), PO 56 (.mkSl 2 (.agg [.int .i64 (0), .int .i64 (0)]) 1 [(0, (.s 0))]), PO 57 (.app 2 16 (.agg [.int .i64 (0), .int .i64 (0)]) (.s 7) (.s 0)), VS 6 10 0])) (.region false [ PM 47 9, PO 48 (.bin false .add (.s 0) (I6 1)), VS 9 13 0]))
def ir7_k1 : List Bool := [true, true, true, true, false, false, true, true, true, true]
def ir7_o1 : List Bool := [true, true, true, true, false, false, true, true, false, false]
def ir7_r1 : List Bool := [false, false, false, false, true, true, false, false, false, false]
def ir7_b0 : IR := .seq (.test false [ PM 31 7, PM 32 0, PO 33 (.len false (.s 0)), PO 34 (.bin false .lss (.s 2) (.s 0))] (.s 0) (.skip) (.exit 0)) (.seq (.block 1 (.seq (.region false [ PM 37 0, PM 38 7, PM 39 1, PM 40 2, PM 41 3, PO 42 (.call 28 [(.s 4), (.s 3), (.s 2), (.s 1), (.s 0)]), VS 8 12 0]) (.seq (.region false [ VO 9 13 (.mov (I6 0))]) (.block 2 (.loop ir7_k1 ir7_o1 ir7_r1 ir7_b1))))) (.region false [ PM 35 7, PO 36 (.bin false .add (.s 0) (I6 1)), VS 7 11 0]))
def ir7_k0 : List Bool := [true, true, true, true, false, false, true, true, false, false]
def ir7_o0 : List Bool := [false, false, false, false, false, false, true, false, false, false]
def ir7_r0 : List Bool := [false, false, false, false, true, true, false, false, false, false]
def ir7_v : List Nat := [0, 1, 2, 3, 8, 9, 10, 11, 12, 13]
def ir7 : AFn := ⟨4, 10, .seq (.region false [ VO 4 8 (.newnil 2), VO 5 9 (.mov (I6 0))]) (.seq (.test false [ PM 14 0, PO 15 (.call 24 [(.s 0)]), PO 16 (.un .not (.s 0)), PO 17 (.mov (.s 0)), ⟨.push, 18, (some ((.s 0), false)), .mov (.v 1)⟩, ⟨.push, 19, (some ((.s 1), false)), .call 25 [(.s 0)]⟩, ⟨.push, 20, (some ((.s 2), false)), .un .not (.s 0)⟩, PO 21 (.pick (.s 3) (.c (.bool true)) (.s 0)), PO 22 (.mov (.s 0)), ⟨.push, 23, (some ((.s 0), false)), .mov (.v 2)⟩, ⟨.push, 24, (some ((.s 1), false)), .call 26 [(.s 0)]⟩, ⟨.push, 25, (some ((.s 2), false)), .un .not (.s 0)⟩, PO 26 (.pick (.s 3)
 (.c (.bool true)) (.s 0))] (.s 0) (.seq (.region false [ VO 4 8 (.newnil 2), VO 5 9 (.mov (I6 1))]) (.ret)) (.skip)) (.seq (.test false [ PM 27 3, PO 28 (.call 27 [(.s 0), (I6 0), (I6 20000)]), PO 29 (.un .not (.s 0))] (.s 0) (.seq (.region false [ VO 4 8 (.newnil 2), VO 5 9 (.mov (I6 2))]) (.ret)) (.skip)) (.seq (.region false [ PO 30 (.mkSl 2 (.agg [.int .i64 (0), .int .i64 (0)]) 0 []), VS 6 10 0]) (.seq (.seq (.region false [ VO 7 11 (.mov (I6 0))]) (.block 0 (.loop ir7_k0 ir7_o0 ir7_r0 ir7_b0))) (.seq (.region false [ PM 58 6, VS 4 8 0, VO 5 9 (.mov (I6 0))]) (.ret)))))), [.t 4, .t 5]⟩
noncomputable def t_30 : List (Nat × Ctr) := [(24, c_20), (25, c_24), (26, c_26), (27, c_12), (28, c_29)]
theorem lk_30_24 : look t_30 24 = some c_20 := rfl
theorem lk_30_25 : look t_30 25 = some c_24 := rfl
theorem lk_30_26 : look t_30 26 = some c_26 := rfl
theorem lk_30_27 : look t_30 27 = some c_12 := rfl
theorem lk_30_28 : look t_30 28 = some c_29 := rfl
noncomputable def c_30 : Ctr := mkF t_30 ir7 [.bor, .bor, .bor, .bor]
theorem s_30 : Sound Try.prog 7 c_30 := mkF_sound _ rfl (snd_cons s_20 (snd_cons s_24 (snd_cons s_26 (snd_cons s_12 (snd_cons s_29 snd_nil))))) (by kernel_rfl : chkFn Try.prog 7 ir7 ir7_v = true)
theorem M_30 : c_30.modes = [.bor, .bor, .bor, .bor] := rfl
theorem Fl_30 : c_30.flat = true := rfl
attribute [go_sem] M_30 Fl_30
attribute [go_sem] lk_30_24 lk_30_25 lk_30_26 lk_30_27 lk_30_28
def E_30_l2 (list : List Estimate) (stars : List Star) (observers : List Observer) (margin : Int) (i : Int) (kinds : List Int) : ((List Fault) × Int) → St
 | (out, k) => ⟨[.sl 5 (List.map Estimate_av list), .sl 5 (List.map Star_av stars), .sl 2 (List.map Observer_av observers), .int .i64 margin, .any, .any, .own 3200000, .int .i64 i, .own 3200032, .int .i64 k], [], [(3200000, ⟨2, List.map Fault_av out⟩), (3200032, ⟨1, List.map (AV.int .i64) kinds⟩)], true⟩
def R_30_l2 (list : List Estimate) (stars : List Star) (observers : List Observer) (margin : Int) (i : Int) (kinds : List Int) (y : (List Fault)) : Res := (.exit 2, ⟨[.sl 5 (List.map Estimate_av list), .sl 5 (List.map Star_av stars), .sl 2 (List.map Observer_av observers), .int .i64 margin, .any, .any, .own 3200000, .int .i64 i, .any, .any], [], [(3200000, ⟨2, List.map Fault_av y⟩)], true⟩)
set_option maxHeartbeats 64000000 in
theorem spec_AuditEstimates_l2_ex {list : List Estimate} {stars : List Star} {observers : List Observer} {margin : Int} {i : Int} {kinds : List Int} {sgm_ : (List Fault) × Int} {rho_ : (List Fault)} (h : whileE (spec_AuditEstimates_l2 list stars observers margin i kinds) sgm_ = some rho_) : ∃ L0, ∀ L, L0 ≤ L → iter (exec (look t_30) L ir7_b1) ir7_k1 ir7_o1 ir7_r1 L (E_30_l2 list stars observers margin i kinds sgm_) = R_30_l2 list stars observers margin i kinds rho_ := by
 refine loop_ex (E := E_30_l2 list stars observers margin i kinds) (R := R_30_l2 list stars observers margin i kinds) (fun y => by first | (intro c; cases c) | (rcases y with y | y <;> (intro c; cases c)) | (rcases y with y | y | y <;> (intro c; cases c))) ?_ h
 clear h
 rintro ⟨out, k⟩ o_ h
 dsimp only [spec_AuditEstimates_l2] at h
 rcases it_some h with ⟨z9, h⟩ | ⟨z9, h⟩
 ·try simp only [go_sem, n1, n2, n3, n4] at z9
  all_goals
  obtain ⟨z10, h⟩ := ck_some h
  have lz10 := ix_lt z10
  have xz10 := getD_mapD (AV.int .i64) kinds lz10
  try simp only [go_sem] at lz10
  try simp only [go_sem] at xz10
  try simp only [go_sem, n1, n2, n3, n4, z9] at z10
  all_goals
  obtain ⟨z11, h⟩ := ck_some h
  try simp only [go_sem, n1, n2, n3, n4, z9, z10] at z11
  all_goals
  obtain rfl := so_some h
  refine ⟨0, fun L hL => ?_⟩
  simp only [go_sem, ir7, E_30_l2, R_30_l2, ir7_b1, ir7_k1, ir7_o1, ir7_r1, z9, z10, lz10, xz10, z11]
 ·try simp only [go_sem, n1, n2, n3, n4] at z9
  all_goals
  obtain rfl := so_some h
  refine ⟨0, fun L hL => ?_⟩
  simp only [go_sem, ir7, E_30_l2, R_30_l2, ir7_b1, ir7_k1, ir7_o1, ir7_r1, z9]

def E_30_l1 (list : List Estimate) (stars : List Star) (observers : List Observer) (margin : Int) : ((List Fault) × Int) → St
 | (out, i) => ⟨[.sl 5 (List.map Estimate_av list), .sl 5 (List.map Star_av stars), .sl 2 (List.map Observer_av observers), .int .i64 margin, .any, .any, .own 3200000, .int .i64 i, .any, .any], [], [(3200000, ⟨2, List.map Fault_av out⟩)], true⟩
def R_30_l1 (list : List Estimate) (stars : List Star) (observers : List Observer) (margin : Int) (y : (List Fault)) : Res := (.exit 0, ⟨[.any, .any, .any, .any, .any, .any, .own 3200000, .any, .any, .any], [], [(3200000, ⟨2, List.map Fault_av y⟩)], true⟩)
set_option maxHeartbeats 64000000 in
theorem spec_AuditEstimates_l1_ex {list : List Estimate} {stars : List Star} {observers : List Observer} {margin : Int} {sgm_ : (List Fault) × Int} {rho_ : (List Fault)} (h : whileE (spec_AuditEstimates_l1 list stars observers margin) sgm_ = some rho_) : ∃ L0, ∀ L, L0 ≤ L → iter (exec (look t_30) L ir7_b0) ir7_k0 ir7_o0 ir7_r0 L (E_30_l1 list stars observers margin sgm_) = R_30_l1 list stars observers margin rho_ := by
 refine loop_ex (E := E_30_l1 list stars observers margin) (R := R_30_l1 list stars observers margin) (fun y => by first | (intro c; cases c) | (rcases y with y | y <;> (intro c; cases c)) | (rcases y with y | y | y <;> (intro c; cases c))) ?_ h
 clear h
 rintro ⟨out, i⟩ o_ h
 dsimp only [spec_AuditEstimates_l1] at h
 rcases it_some h with ⟨z7, h⟩ | ⟨z7, h⟩
 ·try simp only [go_sem, n1, n2, n3, n4] at z7
  all_goals
  obtain ⟨y_8, z8, h⟩ := bd_some h
  have fz8 := Fs_29 z8
  try simp only [go_sem, z7] at fz8
  obtain ⟨y_12, z12, h⟩ := bd_some h
  obtain ⟨Lz12, ez12⟩ := spec_AuditEstimates_l2_ex z12
  obtain rfl := so_some h
  refine ⟨Lz12, fun L hL => ?_⟩
  have ez12 := ez12 L (by omega)
  try simp only [go_sem, E_30_l1, R_30_l1, ir7_b0, ir7_k0, ir7_o0, ir7_r0, E_30_l2, R_30_l2, ir7_k1, ir7_o1, ir7_r1, z7] at ez12
  simp only [go_sem, ir7, E_30_l1, R_30_l1, ir7_b0, ir7_k0, ir7_o0, ir7_r0, E_30_l2, R_30_l2, ir7_k1, ir7_o1, ir7_r1, z7, fz8, ez12]
 ·try simp only [go_sem, n1, n2, n3, n4] at z7
  all_goals
  obtain rfl := so_some h
  refine ⟨0, fun L hL => ?_⟩
  simp only [go_sem, ir7, E_30_l1, R_30_l1, ir7_b0, ir7_k0, ir7_o0, ir7_r0, E_30_l2, R_30_l2, ir7_k1, ir7_o1, ir7_r1, z7]

set_option maxHeartbeats 64000000 in
theorem Fs_30 {list : List Estimate} {stars : List Star} {observers : List Observer} {margin : Int} {y_ : (List Fault) × Int} (h : spec_AuditEstimates list stars observers margin = some y_) : c_30.F [.sl 5 (List.map Estimate_av list), .sl 5 (List.map Star_av stars), .sl 2 (List.map Observer_av observers), .int .i64 margin] = ⟨true, .tup [.fresh 2 (List.map Fault_av y_.1), .int .i64 y_.2], [.any, .any, .any, .any]⟩ := by
 refine mkF_E (by simp only [flatA, flatB, flat1, List.all_cons, List.all_nil, Bool.and_self, flatE_map (f := Fault_av) (fun _ => rfl)]) ?_
 dsimp only [spec_AuditEstimates] at h
 obtain ⟨y_1, z1, h⟩ := bd_some h
 have fz1 := Fs_20 z1
 try simp only [go_sem] at fz1
 obtain ⟨z2, h⟩ := ck_some h
 rcases or_split z2 with ⟨gz2, z2⟩ | gz2
 ·try simp only [go_sem, n1, n2, n3, n4] at gz2
  all_goals
  obtain ⟨y_2, hz2⟩ := Option.isSome_iff_exists.1 z2
  have fz2 := Fs_24 hz2
  try simp only [go_sem, n1, n2, n3, n4, gz2] at hz2
  all_goals
  try simp only [go_sem, gz2] at fz2
  obtain ⟨z3, h⟩ := ck_some h
  rcases or_split z3 with ⟨gz3, z3⟩ | gz3
  ·try simp only [go_sem, n1, n2, n3, n4, gz2, hz2] at gz3
   all_goals
   obtain ⟨y_3, hz3⟩ := Option.isSome_iff_exists.1 z3
   have fz3 := Fs_26 hz3
   try simp only [go_sem, n1, n2, n3, n4, gz2, hz2, gz3] at hz3
   all_goals
   try simp only [go_sem, gz2, hz2, gz3] at fz3
   rcases it_some h with ⟨z4, h⟩ | ⟨z4, h⟩
   ·try simp only [go_sem, n1, n2, n3, n4, gz2, hz2, gz3, hz3] at z4
    all_goals
    obtain rfl := so_some h
    refine ⟨0, fun L hL => ?_⟩
    simp only [go_sem, ir7, E_30_l2, R_30_l2, ir7_k1, ir7_o1, ir7_r1, E_30_l1, R_30_l1, ir7_k0, ir7_o0, ir7_r0, fz1, gz2, hz2, fz2, gz3, hz3, fz3, z4]
   ·try simp only [go_sem, n1, n2, n3, n4, gz2, hz2, gz3, hz3] at z4
    all_goals
    obtain ⟨y_5, z5, h⟩ := bd_some h
    have fz5 := Fs_12 z5
    try simp only [go_sem, gz2, hz2, gz3, hz3, z4] at fz5
    rcases it_some h with ⟨z6, h⟩ | ⟨z6, h⟩
    ·try simp only [go_sem, n1, n2, n3, n4, gz2, hz2, gz3, hz3, z4] at z6
     all_goals
     obtain rfl := so_some h
     refine ⟨0, fun L hL => ?_⟩
     simp only [go_sem, ir7, E_30_l2, R_30_l2, ir7_k1, ir7_o1, ir7_r1, E_30_l1, R_30_l1, ir7_k0, ir7_o0, ir7_r0, fz1, gz2, hz2, fz2, gz3, hz3, fz3, z4, fz5, z6]
    ·try simp only [go_sem, n1, n2, n3, n4, gz2, hz2, gz3, hz3, z4] at z6
     all_goals
     obtain ⟨y_13, z13, h⟩ := bd_some h
     obtain ⟨Lz13, ez13⟩ := spec_AuditEstimates_l1_ex z13
     obtain rfl := so_some h
     refine ⟨Lz13, fun L hL => ?_⟩
     have ez13 := ez13 L (by omega)
     try simp only [go_sem, E_30_l2, R_30_l2, ir7_k1, ir7_o1, ir7_r1, E_30_l1, R_30_l1, ir7_k0, ir7_o0, ir7_r0, gz2, hz2, gz3, hz3, z4, z6] at ez13
     simp only [go_sem, ir7, E_30_l2, R_30_l2, ir7_k1, ir7_o1, ir7_r1, E_30_l1, R_30_l1, ir7_k0, ir7_o0, ir7_r0, fz1, gz2, hz2, fz2, gz3, hz3, fz3, z4, fz5, z6, ez13]
  ·have gz3n := no_f gz3
   rcases or_t gz3n with gz3na | ⟨gz3na, gz3nb⟩
   ·try simp only [go_sem, n1, n2, n3, n4, gz2, hz2] at gz3na
    all_goals
    (simp_all)
   ·have gz3nan := no_f gz3na
    have gz3nbn := no_t gz3nb
    try simp only [go_sem, n1, n2, n3, n4, gz2, hz2] at gz3nan
    all_goals
    try simp only [go_sem, n1, n2, n3, n4, gz2, hz2, gz3nan] at gz3nbn
    all_goals
    rcases it_some h with ⟨z4, h⟩ | ⟨z4, h⟩
    ·try simp only [go_sem, n1, n2, n3, n4, gz2, hz2, gz3nan, gz3nbn] at z4
     all_goals
     obtain rfl := so_some h
     refine ⟨0, fun L hL => ?_⟩
     simp only [go_sem, ir7, E_30_l2, R_30_l2, ir7_k1, ir7_o1, ir7_r1, E_30_l1, R_30_l1, ir7_k0, ir7_o0, ir7_r0, fz1, gz2, hz2, fz2, gz3nan, gz3nbn, z4]
    ·try simp only [go_sem, n1, n2, n3, n4, gz2, hz2, gz3nan, gz3nbn] at z4
     all_goals
     (simp_all)
 ·have gz2n := no_f gz2
  have gz2nn := no_t gz2n
  try simp only [go_sem, n1, n2, n3, n4] at gz2nn
  all_goals
  obtain ⟨z3, h⟩ := ck_some h
  rcases it_some h with ⟨z4, h⟩ | ⟨z4, h⟩
  ·try simp only [go_sem, n1, n2, n3, n4, gz2nn] at z4
   all_goals
   obtain rfl := so_some h
   refine ⟨0, fun L hL => ?_⟩
   simp only [go_sem, ir7, E_30_l2, R_30_l2, ir7_k1, ir7_o1, ir7_r1, E_30_l1, R_30_l1, ir7_k0, ir7_o0, ir7_r0, fz1, gz2nn, z4]
  ·try simp only [go_sem, n1, n2, n3, n4, gz2nn] at z4
   all_goals
   (simp_all)


def ir35_v : List Nat := [0, 1, 2, 6]
def ir35 : AFn := ⟨3, 4, .seq (.region false [ VO 3 6 (.mov (.c (.bool false)))]) (.seq (.region false [ PM 7 0, PM 8 1, PO 9 (.bin false .geq (.s 1) (.s 0)), PO 10 (.mov (.s 0)), ⟨.push, 11, (some ((.s 0), true)), .mov (.v 0)⟩, ⟨.push, 12, (some ((.s 1), true)), .mov (.v 2)⟩, ⟨.push, 13, (some ((.s 2), true)), .bin false .leq (.s 1) (.s 0)⟩, PO 14 (.pick (.s 3) (.s 0) (.c (.bool false))), VS 3 6 0]) (.ret)), [.t 3]⟩
noncomputable def t_31 : List (Nat × Ctr) := []
noncomputable def c_31 : Ctr := mkF t_31 ir35 [.bor, .bor, .bor]
theorem s_31 : Sound Try.prog 35 c_31 := mkF_sound _ rfl snd_nil (by kernel_rfl : chkFn Try.prog 35 ir35 ir35_v = true)
theorem M_31 : c_31.modes = [.bor, .bor, .bor] := rfl
theorem Fl_31 : c_31.flat = true := rfl
attribute [go_sem] M_31 Fl_31
theorem Fs_31 {n : Int} {low : Int} {high : Int} {y_ : Bool} (h : impl_in n low high = some y_) : c_31.F [.int .i64 n, .int .i64 low, .int .i64 high] = ⟨true, .bool y_, [.any, .any, .any]⟩ := by
 refine mkF_E rfl ?_
 dsimp only [impl_in] at h
 obtain rfl := so_some h
 refine ⟨0, fun L hL => ?_⟩
 simp only [go_sem, ir35]


def ir67_v : List Nat := [0, 2]
def ir67 : AFn := ⟨1, 2, .seq (.region false [ VO 1 2 (.mov (.c (.bool false)))]) (.seq (.region false [ PM 3 0, PO 4 (.call 35 [(.s 0), (I6 0), (I6 10000000)]), VS 1 2 0]) (.ret)), [.t 1]⟩
noncomputable def t_32 : List (Nat × Ctr) := [(35, c_31)]
theorem lk_32_35 : look t_32 35 = some c_31 := rfl
noncomputable def c_32 : Ctr := mkF t_32 ir67 [.bor]
theorem s_32 : Sound Try.prog 67 c_32 := mkF_sound _ rfl (snd_cons s_31 snd_nil) (by kernel_rfl : chkFn Try.prog 67 ir67 ir67_v = true)
theorem M_32 : c_32.modes = [.bor] := rfl
theorem Fl_32 : c_32.flat = true := rfl
attribute [go_sem] M_32 Fl_32
attribute [go_sem] lk_32_35
theorem Fs_32 {t : Int} {y_ : Bool} (h : impl_ValidTime t = some y_) : c_32.F [.int .i64 t] = ⟨true, .bool y_, [.any]⟩ := by
 refine mkF_E rfl ?_
 dsimp only [impl_ValidTime] at h
 obtain ⟨y_1, z1, h⟩ := bd_some h
 have fz1 := Fs_31 z1
 try simp only [go_sem] at fz1
 obtain rfl := so_some h
 refine ⟨0, fun L hL => ?_⟩
 simp only [go_sem, ir67, fz1]


def ir68_b0 : IR := .seq (.region false [ VO 7 17 (.bin false .lss (.v 6) (.v 5))]) (.seq (.cond (.v 7) (.skip) (.exit 0)) (.seq (.block 1 (.seq (.region false [ PM 18 6, VS 2 3 0]) (.seq (.region false [ PM 19 0, PM 20 2, PO 21 (.ixStr (.s 1) (.s 0)), PO 22 (.bin false .geq (.s 0) (.c (.int .u8 (97)))), PO 23 (.mov (.s 0)), ⟨.push, 24, (some ((.s 0), true)), .mov (.v 0)⟩, ⟨.push, 25, (some ((.s 1), true)), .mov (.v 2)⟩, ⟨.push, 26, (some ((.s 2), true)), .ixStr (.s 1) (.s 0)⟩, ⟨.push, 27, (some ((.s 3), true)), .bin false .leq (.s 0) (.c (.int .u8 (122)))⟩, PO 28 (.pick (.s 4) (.s 0) (.c
 (.bool false))), VS 3 4 0]) (.seq (.region false [ PM 29 0, PM 30 2, PO 31 (.ixStr (.s 1) (.s 0)), PO 32 (.bin false .geq (.s 0) (.c (.int .u8 (48)))), PO 33 (.mov (.s 0)), ⟨.push, 34, (some ((.s 0), true)), .mov (.v 0)⟩, ⟨.push, 35, (some ((.s 1), true)), .mov (.v 2)⟩, ⟨.push, 36, (some ((.s 2), true)), .ixStr (.s 1) (.s 0)⟩, ⟨.push, 37, (some ((.s 3), true)), .bin false .leq (.s 0) (.c (.int .u8 (57)))⟩, PO 38 (.pick (.s 4) (.s 0) (.c (.bool false))), PO 39 (.mov (.s 0)), ⟨.push, 40, (some ((.s 0), false)), .mov (.v 0)⟩, ⟨.push, 41, (some ((.s 1), false)), .mov (.v 2)⟩, ⟨.push, 42, (some
 ((.s 2), false)), .ixStr (.s 1) (.s 0)⟩, ⟨.push, 43, (some ((.s 3), false)), .bin false .eql (.s 0) (.c (.int .u8 (45)))⟩, PO 44 (.pick (.s 4) (.c (.bool true)) (.s 0)), VS 4 5 0]) (.test false [ PM 45 3, PO 46 (.un .not (.s 0)), PO 47 (.mov (.s 0)), ⟨.push, 48, (some ((.s 0), true)), .mov (.v 2)⟩, ⟨.push, 49, (some ((.s 1), true)), .bin false .eql (.s 0) (I6 0)⟩, ⟨.push, 50, (some ((.s 2), true)), .mov (.s 0)⟩, ⟨.push, 51, (some ((.s 0), false)), .mov (.v 4)⟩, ⟨.push, 52, (some ((.s 1), false)), .un .not (.s 0)⟩, ⟨.push, 53, (some ((.s 5), true)), .pick (.s 2) (.c (.bool true)) (.s 0)⟩, PO 54
 (.pick (.s 6) (.s 0) (.c (.bool false)))] (.s 0) (.seq (.region false [ VO 1 2 (.mov (.c (.bool false)))]) (.ret)) (.skip)))))) (.region false [ PO 55 (.bin false .add (.v 6) (I6 1)), VS 6 16 0])))
def ir68_k0 : List Bool := [true, false, false, false, false, true, true, false]
def ir68_o0 : List Bool := [false, false, false, false, false, false, false, false]
def ir68_r0 : List Bool := [false, true, false, false, false, false, false, false]
def ir68_v : List Nat := [0, 2, 3, 4, 5, 15, 16, 17]
def ir68 : AFn := ⟨1, 8, .seq (.region false [ VO 1 2 (.mov (.c (.bool false)))]) (.seq (.test false [ PM 6 0, PO 7 (.len true (.s 0)), PO 8 (.bin false .lss (.s 0) (I6 1)), PO 9 (.mov (.s 0)), ⟨.push, 10, (some ((.s 0), false)), .mov (.v 0)⟩, ⟨.push, 11, (some ((.s 1), false)), .len true (.s 0)⟩, ⟨.push, 12, (some ((.s 2), false)), .bin false .gtr (.s 0) (I6 12)⟩, PO 13 (.pick (.s 3) (.c (.bool true)) (.s 0))] (.s 0) (.seq (.region false [ VO 1 2 (.mov (.c (.bool false)))]) (.ret)) (.skip)) (.seq (.seq (.region false [ PM 14 0, VO 5 15 (.len true (.s 0)), VO 6 16 (.mov (I6 0))]) (.block 0
 (.loop ir68_k0 ir68_o0 ir68_r0 ir68_b0))) (.seq (.region false [ VO 1 2 (.mov (.c (.bool true)))]) (.ret)))), [.t 1]⟩
noncomputable def t_33 : List (Nat × Ctr) := []
noncomputable def c_33 : Ctr := mkF t_33 ir68 [.bor]
theorem s_33 : Sound Try.prog 68 c_33 := mkF_sound _ rfl snd_nil (by kernel_rfl : chkFn Try.prog 68 ir68 ir68_v = true)
theorem M_33 : c_33.modes = [.bor] := rfl
theorem Fl_33 : c_33.flat = true := rfl
attribute [go_sem] M_33 Fl_33
def E_33_l1 (s_ : List UInt8) (t15 : Int) : Int → St
 | t16 => ⟨[.str s_, .any, .any, .any, .any, .int .i64 t15, .int .i64 t16, .any], [], [], true⟩
def R_33_l1 (s_ : List UInt8) (t15 : Int) : (Unit ⊕ Bool) → Res
 | .inl y => (.exit 0, ⟨[.any, .any, .any, .any, .any, .any, .any, .any], [], [], true⟩)
 | .inr y => (.ret, ⟨[.any, .bool y, .any, .any, .any, .any, .any, .any], [], [], true⟩)
theorem impl_IsName_l1_ex {s_ : List UInt8} {t15 : Int} {sgm_ : Int} {rho_ : Unit ⊕ Bool} (h : whileE (impl_IsName_l1 s_ t15) sgm_ = some rho_) : ∃ L0, ∀ L, L0 ≤ L → iter (exec (look t_33) L ir68_b0) ir68_k0 ir68_o0 ir68_r0 L (E_33_l1 s_ t15 sgm_) = R_33_l1 s_ t15 rho_ := by
 refine loop_ex (E := E_33_l1 s_ t15) (R := R_33_l1 s_ t15) (fun y => by first | (intro c; cases c) | (rcases y with y | y <;> (intro c; cases c)) | (rcases y with y | y | y <;> (intro c; cases c))) ?_ h
 clear h
 intro t16 o_ h
 dsimp only [impl_IsName_l1] at h
 rcases it_some h with ⟨z2, h⟩ | ⟨z2, h⟩
 ·try simp only [go_sem, n1, n2, n3, n4] at z2
  all_goals
  obtain ⟨z3, h⟩ := ck_some h
  try simp only [go_sem, n1, n2, n3, n4, z2] at z3
  all_goals
  rcases it_some h with ⟨z4, h⟩ | ⟨z4, h⟩
  ·try simp only [go_sem, n1, n2, n3, n4, z2, z3] at z4
   all_goals
   obtain rfl := so_some h
   refine ⟨0, fun L hL => ?_⟩
   simp only [go_sem, ir68, E_33_l1, R_33_l1, ir68_b0, ir68_k0, ir68_o0, ir68_r0, z2, z3, z4]
  ·try simp only [go_sem, n1, n2, n3, n4, z2, z3] at z4
   all_goals
   obtain rfl := so_some h
   refine ⟨0, fun L hL => ?_⟩
   simp only [go_sem, ir68, E_33_l1, R_33_l1, ir68_b0, ir68_k0, ir68_o0, ir68_r0, z2, z3, z4]
 ·try simp only [go_sem, n1, n2, n3, n4] at z2
  all_goals
  obtain rfl := so_some h
  refine ⟨0, fun L hL => ?_⟩
  simp only [go_sem, ir68, E_33_l1, R_33_l1, ir68_b0, ir68_k0, ir68_o0, ir68_r0, z2]

theorem Fs_33 {s_ : List UInt8} {y_ : Bool} (h : impl_IsName s_ = some y_) : c_33.F [.str s_] = ⟨true, .bool y_, [.any]⟩ := by
 refine mkF_E rfl ?_
 dsimp only [impl_IsName] at h
 rcases it_some h with ⟨z1, h⟩ | ⟨z1, h⟩
 ·try simp only [go_sem, n1, n2, n3, n4] at z1
  all_goals
  obtain rfl := so_some h
  refine ⟨0, fun L hL => ?_⟩
  simp only [go_sem, ir68, E_33_l1, R_33_l1, ir68_k0, ir68_o0, ir68_r0, z1]
 ·try simp only [go_sem, n1, n2, n3, n4] at z1
  all_goals
  obtain ⟨y_5, z5, h⟩ := bd_some h
  obtain ⟨Lz5, ez5⟩ := impl_IsName_l1_ex z5
  rcases y_5 with y_5a | y_5b
  ·dsimp only at h
   obtain rfl := so_some h
   refine ⟨Lz5, fun L hL => ?_⟩
   have ez5 := ez5 L (by omega)
   try simp only [go_sem, E_33_l1, R_33_l1, ir68_k0, ir68_o0, ir68_r0, z1] at ez5
   simp only [go_sem, ir68, E_33_l1, R_33_l1, ir68_k0, ir68_o0, ir68_r0, z1, ez5]
  ·dsimp only at h
   obtain rfl := so_some h
   refine ⟨Lz5, fun L hL => ?_⟩
   have ez5 := ez5 L (by omega)
   try simp only [go_sem, E_33_l1, R_33_l1, ir68_k0, ir68_o0, ir68_r0, z1] at ez5
   simp only [go_sem, ir68, E_33_l1, R_33_l1, ir68_k0, ir68_o0, ir68_r0, z1, ez5]


def ir69_v : List Nat := [0, 2]
def ir69 : AFn := ⟨1, 2, .seq (.region false [ VO 1 2 (.mov (.c (.bool false)))]) (.seq (.region false [ PM 3 0, PO 4 (.call 35 [(.s 0), (.c (.int .i64 (-2000))), (I6 20000)]), VS 1 2 0]) (.ret)), [.t 1]⟩
noncomputable def t_34 : List (Nat × Ctr) := [(35, c_31)]
theorem lk_34_35 : look t_34 35 = some c_31 := rfl
noncomputable def c_34 : Ctr := mkF t_34 ir69 [.bor]
theorem s_34 : Sound Try.prog 69 c_34 := mkF_sound _ rfl (snd_cons s_31 snd_nil) (by kernel_rfl : chkFn Try.prog 69 ir69 ir69_v = true)
theorem M_34 : c_34.modes = [.bor] := rfl
theorem Fl_34 : c_34.flat = true := rfl
attribute [go_sem] M_34 Fl_34
attribute [go_sem] lk_34_35
theorem Fs_34 {m : Int} {y_ : Bool} (h : impl_ValidMag m = some y_) : c_34.F [.int .i64 m] = ⟨true, .bool y_, [.any]⟩ := by
 refine mkF_E rfl ?_
 dsimp only [impl_ValidMag] at h
 obtain ⟨y_1, z1, h⟩ := bd_some h
 have fz1 := Fs_31 z1
 try simp only [go_sem] at fz1
 obtain rfl := so_some h
 refine ⟨0, fun L hL => ?_⟩
 simp only [go_sem, ir69, fz1]


def ir48_v : List Nat := [0, 1, 2]
def ir48 : AFn := ⟨1, 3, .seq (.region false [ VO 1 1 (.box (.v 0)), VO 2 2 (.mov (.c (.bool false)))]) (.seq (.region false [ PO 3 (.fldAddr 0 (.v 1)), PO 4 (.load false 1 (.s 0)), PO 5 (.call 67 [(.s 0)]), PO 6 (.mov (.s 0)), ⟨.push, 7, (some ((.s 0), true)), .fldAddr 1 (.v 1)⟩, ⟨.push, 8, (some ((.s 1), true)), .load false 1 (.s 0)⟩, ⟨.push, 9, (some ((.s 2), true)), .call 68 [(.s 0)]⟩, PO 10 (.pick (.s 3) (.s 0) (.c (.bool false))), PO 11 (.mov (.s 0)), ⟨.push, 12, (some ((.s 0), true)), .fldAddr 2 (.v 1)⟩, ⟨.push, 13, (some ((.s 1), true)), .load false 1 (.s 0)⟩, ⟨.push, 14, (some ((.s 2),
 true)), .call 68 [(.s 0)]⟩, PO 15 (.pick (.s 3) (.s 0) (.c (.bool false))), PO 16 (.mov (.s 0)), ⟨.push, 17, (some ((.s 0), true)), .fldAddr 3 (.v 1)⟩, ⟨.push, 18, (some ((.s 1), true)), .load false 1 (.s 0)⟩, ⟨.push, 19, (some ((.s 2), true)), .call 69 [(.s 0)]⟩, PO 20 (.pick (.s 3) (.s 0) (.c (.bool false))), VS 2 2 0]) (.ret)), [.t 2]⟩
noncomputable def t_35 : List (Nat × Ctr) := [(67, c_32), (68, c_33), (69, c_34)]
theorem lk_35_67 : look t_35 67 = some c_32 := rfl
theorem lk_35_68 : look t_35 68 = some c_33 := rfl
theorem lk_35_69 : look t_35 69 = some c_34 := rfl
noncomputable def c_35 : Ctr := mkF t_35 ir48 [.bor]
theorem s_35 : Sound Try.prog 48 c_35 := mkF_sound _ rfl (snd_cons s_32 (snd_cons s_33 (snd_cons s_34 snd_nil))) (by kernel_rfl : chkFn Try.prog 48 ir48 ir48_v = true)
theorem M_35 : c_35.modes = [.bor] := rfl
theorem Fl_35 : c_35.flat = true := rfl
attribute [go_sem] M_35 Fl_35
attribute [go_sem] lk_35_67 lk_35_68 lk_35_69
theorem Fs_35 {e_ : Estimate} {y_ : Bool} (h : impl_isEstimate e_ = some y_) : c_35.F [Estimate_av e_] = ⟨true, .bool y_, [.any]⟩ := by
 refine mkF_E rfl ?_
 dsimp only [impl_isEstimate] at h
 obtain ⟨y_1, z1, h⟩ := bd_some h
 have fz1 := Fs_32 z1
 try simp only [go_sem] at fz1
 obtain ⟨z2, h⟩ := ck_some h
 rcases or_split z2 with ⟨gz2, z2⟩ | gz2
 ·try simp only [go_sem, n1, n2, n3, n4] at gz2
  all_goals
  obtain ⟨y_2, hz2⟩ := Option.isSome_iff_exists.1 z2
  have fz2 := Fs_33 hz2
  try simp only [go_sem, n1, n2, n3, n4, gz2] at hz2
  all_goals
  try simp only [go_sem, gz2] at fz2
  obtain ⟨z3, h⟩ := ck_some h
  rcases or_split z3 with ⟨gz3, z3⟩ | gz3
  ·try simp only [go_sem, n1, n2, n3, n4, gz2, hz2] at gz3
   all_goals
   obtain ⟨y_3, hz3⟩ := Option.isSome_iff_exists.1 z3
   have fz3 := Fs_33 hz3
   try simp only [go_sem, n1, n2, n3, n4, gz2, hz2, gz3] at hz3
   all_goals
   try simp only [go_sem, gz2, hz2, gz3] at fz3
   obtain ⟨z4, h⟩ := ck_some h
   rcases or_split z4 with ⟨gz4, z4⟩ | gz4
   ·try simp only [go_sem, n1, n2, n3, n4, gz2, hz2, gz3, hz3] at gz4
    all_goals
    obtain ⟨y_4, hz4⟩ := Option.isSome_iff_exists.1 z4
    have fz4 := Fs_34 hz4
    try simp only [go_sem, n1, n2, n3, n4, gz2, hz2, gz3, hz3, gz4] at hz4
    all_goals
    try simp only [go_sem, gz2, hz2, gz3, hz3, gz4] at fz4
    obtain rfl := so_some h
    refine ⟨0, fun L hL => ?_⟩
    simp only [go_sem, ir48, fz1, gz2, hz2, fz2, gz3, hz3, fz3, gz4, hz4, fz4]
   ·rcases and_f gz4 with gz4a | ⟨gz4a, gz4b⟩
    ·try simp only [go_sem, n1, n2, n3, n4, gz2, hz2, gz3, hz3] at gz4a
     all_goals
     (simp_all)
    ·obtain ⟨gz4aa, gz4ab⟩ := and_t gz4a
     try simp only [go_sem, n1, n2, n3, n4, gz2, hz2, gz3, hz3] at gz4aa
     all_goals
     try simp only [go_sem, n1, n2, n3, n4, gz2, hz2, gz3, hz3, gz4aa] at gz4ab
     all_goals
     try simp only [go_sem, n1, n2, n3, n4, gz2, hz2, gz3, hz3, gz4aa, gz4ab] at gz4b
     all_goals
     obtain rfl := so_some h
     refine ⟨0, fun L hL => ?_⟩
     simp only [go_sem, ir48, fz1, gz2, hz2, fz2, gz3, hz3, fz3, gz4aa, gz4ab, gz4b]
  ·rcases and_f gz3 with gz3a | ⟨gz3a, gz3b⟩
   ·try simp only [go_sem, n1, n2, n3, n4, gz2, hz2] at gz3a
    all_goals
    (simp_all)
   ·try simp only [go_sem, n1, n2, n3, n4, gz2, hz2] at gz3a
    all_goals
    try simp only [go_sem, n1, n2, n3, n4, gz2, hz2, gz3a] at gz3b
    all_goals
    obtain ⟨z4, h⟩ := ck_some h
    obtain rfl := so_some h
    refine ⟨0, fun L hL => ?_⟩
    simp only [go_sem, ir48, fz1, gz2, hz2, fz2, gz3a, gz3b]
 ·try simp only [go_sem, n1, n2, n3, n4] at gz2
  all_goals
  obtain ⟨z3, h⟩ := ck_some h
  obtain ⟨z4, h⟩ := ck_some h
  obtain rfl := so_some h
  refine ⟨0, fun L hL => ?_⟩
  simp only [go_sem, ir48, fz1, gz2]


def ir79_v : List Nat := [0, 2]
def ir79 : AFn := ⟨1, 2, .seq (.region false [ VO 1 2 (.mov (.c (.bool false)))]) (.seq (.region false [ PM 3 0, PM 4 0, PO 5 (.bin false .neq (.s 1) (.s 0)), VS 1 2 0]) (.ret)), [.t 1]⟩
noncomputable def t_36 : List (Nat × Ctr) := []
noncomputable def c_36 : Ctr := mkF t_36 ir79 [.bor]
theorem s_36 : Sound Try.prog 79 c_36 := mkF_sound _ rfl snd_nil (by kernel_rfl : chkFn Try.prog 79 ir79 ir79_v = true)
theorem M_36 : c_36.modes = [.bor] := rfl
theorem Fl_36 : c_36.flat = true := rfl
attribute [go_sem] M_36 Fl_36
theorem Fs_36 {x : Int} {y_ : Bool} (h : cmp_isNaN_int64 x = some y_) : c_36.F [.int .i64 x] = ⟨true, .bool y_, [.any]⟩ := by
 refine mkF_E rfl ?_
 dsimp only [cmp_isNaN_int64] at h
 obtain rfl := so_some h
 refine ⟨0, fun L hL => ?_⟩
 simp only [go_sem, ir79]


def ir71_v : List Nat := [0, 1, 4, 5, 6]
def ir71 : AFn := ⟨2, 5, .seq (.region false [ VO 2 4 (.mov (I6 0))]) (.seq (.region false [ PM 7 0, PO 8 (.call 79 [(.s 0)]), VS 3 5 0]) (.seq (.region false [ PM 9 1, PO 10 (.call 79 [(.s 0)]), VS 4 6 0]) (.seq (.test false [ PM 11 3] (.s 0) (.seq (.test false [ PM 12 4] (.s 0) (.seq (.region false [ VO 2 4 (.mov (I6 0))]) (.ret)) (.skip)) (.seq (.region false [ VO 2 4 (.mov (.c (.int .i64 (-1))))]) (.ret))) (.skip)) (.seq (.test false [ PM 13 4] (.s 0) (.seq (.region false [ VO 2 4 (.mov (I6 1))]) (.ret)) (.skip)) (.seq (.test false [ PM 14 0, PM 15 1, PO 16 (.bin false .lss (.s 1) (.s 0))]
 (.s 0) (.seq (.region false [ VO 2 4 (.mov (.c (.int .i64 (-1))))]) (.ret)) (.skip)) (.seq (.test false [ PM 17 0, PM 18 1, PO 19 (.bin false .gtr (.s 1) (.s 0))] (.s 0) (.seq (.region false [ VO 2 4 (.mov (I6 1))]) (.ret)) (.skip)) (.seq (.region false [ VO 2 4 (.mov (I6 0))]) (.ret)))))))), [.t 2]⟩
noncomputable def t_37 : List (Nat × Ctr) := [(79, c_36)]
theorem lk_37_79 : look t_37 79 = some c_36 := rfl
noncomputable def c_37 : Ctr := mkF t_37 ir71 [.bor, .bor]
theorem s_37 : Sound Try.prog 71 c_37 := mkF_sound _ rfl (snd_cons s_36 snd_nil) (by kernel_rfl : chkFn Try.prog 71 ir71 ir71_v = true)
theorem M_37 : c_37.modes = [.bor, .bor] := rfl
theorem Fl_37 : c_37.flat = true := rfl
attribute [go_sem] M_37 Fl_37
attribute [go_sem] lk_37_79
theorem Fs_37 {x : Int} {y : Int} {y_ : Int} (h : cmp_Compare_int64 x y = some y_) : c_37.F [.int .i64 x, .int .i64 y] = ⟨true, .int .i64 y_, [.any, .any]⟩ := by
 refine mkF_E rfl ?_
 dsimp only [cmp_Compare_int64] at h
 obtain ⟨y_1, z1, h⟩ := bd_some h
 have fz1 := Fs_36 z1
 try simp only [go_sem] at fz1
 obtain ⟨y_2, z2, h⟩ := bd_some h
 have fz2 := Fs_36 z2
 try simp only [go_sem] at fz2
 rcases it_some h with ⟨z3, h⟩ | ⟨z3, h⟩
 ·try simp only [go_sem, n1, n2, n3, n4] at z3
  all_goals
  rcases it_some h with ⟨z4, h⟩ | ⟨z4, h⟩
  ·try simp only [go_sem, n1, n2, n3, n4, z3] at z4
   all_goals
   obtain rfl := so_some h
   refine ⟨0, fun L hL => ?_⟩
   simp only [go_sem, ir71, fz1, fz2, z3, z4]
  ·try simp only [go_sem, n1, n2, n3, n4, z3] at z4
   all_goals
   obtain rfl := so_some h
   refine ⟨0, fun L hL => ?_⟩
   simp only [go_sem, ir71, fz1, fz2, z3, z4]
 ·try simp only [go_sem, n1, n2, n3, n4] at z3
  all_goals
  rcases it_some h with ⟨z5, h⟩ | ⟨z5, h⟩
  ·try simp only [go_sem, n1, n2, n3, n4, z3] at z5
   all_goals
   obtain rfl := so_some h
   refine ⟨0, fun L hL => ?_⟩
   simp only [go_sem, ir71, fz1, fz2, z3, z5]
  ·try simp only [go_sem, n1, n2, n3, n4, z3] at z5
   all_goals
   rcases it_some h with ⟨z6, h⟩ | ⟨z6, h⟩
   ·try simp only [go_sem, n1, n2, n3, n4, z3, z5] at z6
    all_goals
    obtain rfl := so_some h
    refine ⟨0, fun L hL => ?_⟩
    simp only [go_sem, ir71, fz1, fz2, z3, z5, z6]
   ·try simp only [go_sem, n1, n2, n3, n4, z3, z5] at z6
    all_goals
    rcases it_some h with ⟨z7, h⟩ | ⟨z7, h⟩
    ·try simp only [go_sem, n1, n2, n3, n4, z3, z5, z6] at z7
     all_goals
     obtain rfl := so_some h
     refine ⟨0, fun L hL => ?_⟩
     simp only [go_sem, ir71, fz1, fz2, z3, z5, z6, z7]
    ·try simp only [go_sem, n1, n2, n3, n4, z3, z5, z6] at z7
     all_goals
     obtain rfl := so_some h
     refine ⟨0, fun L hL => ?_⟩
     simp only [go_sem, ir71, fz1, fz2, z3, z5, z6, z7]


theorem s_hCmp : Sound Try.prog 82 c_hCmp := hCmp_sound Try.func82 (by kernel_rfl) (by kernel_rfl) (by kernel_rfl) (by kernel_rfl)

def ir80_v : List Nat := [0, 1, 4]
def ir80 : AFn := ⟨2, 3, .seq (.region false [ VO 2 4 (.mov (I6 0))]) (.seq (.region false [ PM 5 0, PM 6 1, PO 7 (.call 82 [(.s 1), (.s 0)]), VS 2 4 0]) (.ret)), [.t 2]⟩
noncomputable def t_39 : List (Nat × Ctr) := [(82, c_hCmp)]
theorem lk_39_82 : look t_39 82 = some c_hCmp := rfl
noncomputable def c_39 : Ctr := mkF t_39 ir80 [.bor, .bor]
theorem s_39 : Sound Try.prog 80 c_39 := mkF_sound _ rfl (snd_cons s_hCmp snd_nil) (by kernel_rfl : chkFn Try.prog 80 ir80 ir80_v = true)
theorem M_39 : c_39.modes = [.bor, .bor] := rfl
theorem Fl_39 : c_39.flat = true := rfl
attribute [go_sem] M_39 Fl_39
attribute [go_sem] lk_39_82
theorem Fs_39 {a : List UInt8} {b : List UInt8} {y_ : Int} (h : internal_bytealg_CompareString a b = some y_) : c_39.F [.str a, .str b] = ⟨true, .int .i64 y_, [.any, .any]⟩ := by
 refine mkF_E rfl ?_
 dsimp only [internal_bytealg_CompareString] at h
 obtain ⟨y_1, z1, h⟩ := bd_some h
 have fz1 := Fs_hCmp z1
 try simp only [go_sem] at fz1
 obtain rfl := so_some h
 refine ⟨0, fun L hL => ?_⟩
 simp only [go_sem, ir80, fz1]


def ir72_v : List Nat := [0, 1, 4]
def ir72 : AFn := ⟨2, 3, .seq (.region false [ VO 2 4 (.mov (I6 0))]) (.seq (.region false [ PM 5 0, PM 6 1, PO 7 (.call 80 [(.s 1), (.s 0)]), VS 2 4 0]) (.ret)), [.t 2]⟩
noncomputable def t_40 : List (Nat × Ctr) := [(80, c_39)]
theorem lk_40_80 : look t_40 80 = some c_39 := rfl
noncomputable def c_40 : Ctr := mkF t_40 ir72 [.bor, .bor]
theorem s_40 : Sound Try.prog 72 c_40 := mkF_sound _ rfl (snd_cons s_39 snd_nil) (by kernel_rfl : chkFn Try.prog 72 ir72 ir72_v = true)
theorem M_40 : c_40.modes = [.bor, .bor] := rfl
theorem Fl_40 : c_40.flat = true := rfl
attribute [go_sem] M_40 Fl_40
attribute [go_sem] lk_40_80
theorem Fs_40 {a : List UInt8} {b : List UInt8} {y_ : Int} (h : strings_Compare a b = some y_) : c_40.F [.str a, .str b] = ⟨true, .int .i64 y_, [.any, .any]⟩ := by
 refine mkF_E rfl ?_
 dsimp only [strings_Compare] at h
 obtain ⟨y_1, z1, h⟩ := bd_some h
 have fz1 := Fs_39 z1
 try simp only [go_sem] at fz1
 obtain rfl := so_some h
 refine ⟨0, fun L hL => ?_⟩
 simp only [go_sem, ir72, fz1]


def ir70_b0 : IR := .seq (.region false [ VO 7 9 (.bin false .lss (.v 6) (.v 5))]) (.seq (.cond (.v 7) (.skip) (.exit 0)) (.seq (.block 1 (.seq (.region false [ PO 10 (.ixAddr 1 (.v 4) (.v 6)), PO 11 (.load false 1 (.s 0)), VS 3 5 0]) (.test false [ PM 12 3, PM 13 2, PO 14 (.bin false .neq (.s 1) (.s 0))] (.s 0) (.seq (.region false [ PM 15 3, VS 1 2 0]) (.ret)) (.skip)))) (.region false [ PO 16 (.bin false .add (.v 6) (I6 1)), VS 6 8 0])))
def ir70_k0 : List Bool := [false, false, true, false, true, true, true, false]
def ir70_o0 : List Bool := [false, false, true, false, false, false, false, false]
def ir70_r0 : List Bool := [false, true, false, false, false, false, false, false]
def ir70_v : List Nat := [0, 2, 3, 5, 6, 7, 8, 9]
def ir70 : AFn := ⟨1, 8, .seq (.region false [ VO 1 2 (.mov (I6 0))]) (.seq (.region false [ VO 2 3 (.mov (I6 0))]) (.seq (.seq (.region false [ VO 4 6 (.mov (.v 0)), VO 5 7 (.len false (.v 4)), VO 6 8 (.mov (I6 0))]) (.block 0 (.loop ir70_k0 ir70_o0 ir70_r0 ir70_b0))) (.seq (.region false [ PM 17 2, VS 1 2 0]) (.ret)))), [.t 1]⟩
noncomputable def t_41 : List (Nat × Ctr) := []
noncomputable def c_41 : Ctr := mkF t_41 ir70 [.bor]
theorem s_41 : Sound Try.prog 70 c_41 := mkF_sound _ rfl snd_nil (by kernel_rfl : chkFn Try.prog 70 ir70 ir70_v = true)
theorem M_41 : c_41.modes = [.bor] := rfl
theorem Fl_41 : c_41.flat = true := rfl
attribute [go_sem] M_41 Fl_41
def E_41_l1 (zero : Int) (t6 : List Int) (t7 : Int) : Int → St
 | t8 => ⟨[.any, .any, .int .i64 zero, .any, .sl 1 (List.map (AV.int .i64) t6), .int .i64 t7, .int .i64 t8, .any], [], [], true⟩
def R_41_l1 (zero : Int) (t6 : List Int) (t7 : Int) : (Unit ⊕ Int) → Res
 | .inl y => (.exit 0, ⟨[.any, .any, .int .i64 zero, .any, .any, .any, .any, .any], [], [], true⟩)
 | .inr y => (.ret, ⟨[.any, .int .i64 y, .any, .any, .any, .any, .any, .any], [], [], true⟩)
theorem cmp_Or_int_l1_ex {zero : Int} {t6 : List Int} {t7 : Int} {sgm_ : Int} {rho_ : Unit ⊕ Int} (h : whileE (cmp_Or_int_l1 zero t6 t7) sgm_ = some rho_) : ∃ L0, ∀ L, L0 ≤ L → iter (exec (look t_41) L ir70_b0) ir70_k0 ir70_o0 ir70_r0 L (E_41_l1 zero t6 t7 sgm_) = R_41_l1 zero t6 t7 rho_ := by
 refine loop_ex (E := E_41_l1 zero t6 t7) (R := R_41_l1 zero t6 t7) (fun y => by first | (intro c; cases c) | (rcases y with y | y <;> (intro c; cases c)) | (rcases y with y | y | y <;> (intro c; cases c))) ?_ h
 clear h
 intro t8 o_ h
 dsimp only [cmp_Or_int_l1] at h
 rcases it_some h with ⟨z1, h⟩ | ⟨z1, h⟩
 ·try simp only [go_sem, n1, n2, n3, n4] at z1
  all_goals
  obtain ⟨z2, h⟩ := ck_some h
  have lz2 := ix_lt z2
  have xz2 := getD_mapD (AV.int .i64) t6 lz2
  try simp only [go_sem] at lz2
  try simp only [go_sem] at xz2
  try simp only [go_sem, n1, n2, n3, n4, z1] at z2
  all_goals
  rcases it_some h with ⟨z3, h⟩ | ⟨z3, h⟩
  ·try simp only [go_sem, n1, n2, n3, n4, z1, z2] at z3
   all_goals
   obtain rfl := so_some h
   refine ⟨0, fun L hL => ?_⟩
   simp only [go_sem, ir70, E_41_l1, R_41_l1, ir70_b0, ir70_k0, ir70_o0, ir70_r0, z1, z2, lz2, xz2, z3]
  ·try simp only [go_sem, n1, n2, n3, n4, z1, z2] at z3
   all_goals
   obtain rfl := so_some h
   refine ⟨0, fun L hL => ?_⟩
   simp only [go_sem, ir70, E_41_l1, R_41_l1, ir70_b0, ir70_k0, ir70_o0, ir70_r0, z1, z2, lz2, xz2, z3]
 ·try simp only [go_sem, n1, n2, n3, n4] at z1
  all_goals
  obtain rfl := so_some h
  refine ⟨0, fun L hL => ?_⟩
  simp only [go_sem, ir70, E_41_l1, R_41_l1, ir70_b0, ir70_k0, ir70_o0, ir70_r0, z1]

theorem Fs_41 {vals : List Int} {y_ : Int} (h : cmp_Or_int vals = some y_) : c_41.F [.sl 1 (List.map (AV.int .i64) vals)] = ⟨true, .int .i64 y_, [.any]⟩ := by
 refine mkF_E rfl ?_
 dsimp only [cmp_Or_int] at h
 obtain ⟨y_4, z4, h⟩ := bd_some h
 obtain ⟨Lz4, ez4⟩ := cmp_Or_int_l1_ex z4
 rcases y_4 with y_4a | y_4b
 ·dsimp only at h
  obtain rfl := so_some h
  refine ⟨Lz4, fun L hL => ?_⟩
  have ez4 := ez4 L (by omega)
  try simp only [go_sem, E_41_l1, R_41_l1, ir70_k0, ir70_o0, ir70_r0] at ez4
  simp only [go_sem, ir70, E_41_l1, R_41_l1, ir70_k0, ir70_o0, ir70_r0, ez4]
 ·dsimp only at h
  obtain rfl := so_some h
  refine ⟨Lz4, fun L hL => ?_⟩
  have ez4 := ez4 L (by omega)
  try simp only [go_sem, E_41_l1, R_41_l1, ir70_k0, ir70_o0, ir70_r0] at ez4
  simp only [go_sem, ir70, E_41_l1, R_41_l1, ir70_k0, ir70_o0, ir70_r0, ez4]


def ir49_v : List Nat := [0, 1, 2, 3, 4]
def ir49 : AFn := ⟨2, 5, .seq (.region false [ VO 2 2 (.box (.v 0)), VO 3 3 (.box (.v 1)), VO 4 4 (.mov (I6 0))]) (.seq (.anyo 17 [ SO 0 5 (.fldAddr 0 (.v 2)), SO 1 6 (.load false 1 (.s 0)), SO 2 7 (.fldAddr 0 (.v 3)), SO 3 8 (.load false 1 (.s 2)), SO 4 9 (.callp 71 [(.s 1), (.s 3)]), SO 5 10 (.fldAddr 1 (.v 2)), SO 6 11 (.load false 1 (.s 5)), SO 7 12 (.fldAddr 1 (.v 3)), SO 8 13 (.load false 1 (.s 7)), SO 9 14 (.callp 72 [(.s 6), (.s 8)]), SO 10 15 (.fldAddr 2 (.v 2)), SO 11 16 (.load false 1 (.s 10)), SO 12 17 (.fldAddr 2 (.v 3)), SO 13 18 (.load false 1 (.s 12)), SO 14 19 (.callp 72 [(.s
 11), (.s 13)]), SO 15 20 (.pur (.mkSl 1 (.int .i64 (0)) 3 [(0, (.s 4)), (1, (.s 9)), (2, (.s 14))])), SO 16 21 (.callp 70 [(.s 15)]), VS 4 4 16] [] .skip) (.ret)), [.t 4]⟩
noncomputable def t_42 : List (Nat × Ctr) := [(71, c_37), (72, c_40), (70, c_41)]
theorem lk_42_71 : look t_42 71 = some c_37 := rfl
theorem lk_42_72 : look t_42 72 = some c_40 := rfl
theorem lk_42_70 : look t_42 70 = some c_41 := rfl
noncomputable def c_42 : Ctr := mkF t_42 ir49 [.bor, .bor]
theorem s_42 : Sound Try.prog 49 c_42 := mkF_sound _ rfl (snd_cons s_37 (snd_cons s_40 (snd_cons s_41 snd_nil))) (by kernel_rfl : chkFn Try.prog 49 ir49 ir49_v = true)
theorem M_42 : c_42.modes = [.bor, .bor] := rfl
theorem Fl_42 : c_42.flat = true := rfl
attribute [go_sem] M_42 Fl_42
attribute [go_sem] lk_42_71 lk_42_72 lk_42_70
theorem Fs_42 {a : Estimate} {b : Estimate} {y_ : Int} (h : impl_compareEstimates a b = some y_) : c_42.F [Estimate_av a, Estimate_av b] = ⟨true, .int .i64 y_, [.any, .any]⟩ := by
 refine mkF_E rfl ?_
 dsimp only [impl_compareEstimates] at h
 obtain ⟨y_1, z1, h⟩ := bd_some h
 have fz1 := Fs_37 z1
 try simp only [go_sem] at fz1
 obtain ⟨y_2, z2, h⟩ := bd_some h
 have fz2 := Fs_40 z2
 try simp only [go_sem] at fz2
 obtain ⟨y_3, z3, h⟩ := bd_some h
 have fz3 := Fs_40 z3
 try simp only [go_sem] at fz3
 obtain ⟨y_4, z4, h⟩ := bd_some h
 have fz4 := Fs_41 z4
 try simp only [go_sem] at fz4
 obtain rfl := so_some h
 refine ⟨0, fun L hL => ?_⟩
 simp only [go_sem, ir49, fz1, fz2, fz3, fz4]


end Go.Proofs.Ythbnoddeifedkaa
