/- Codes and contracts of the functions that R8 reaches, and that their typed forms say what they do. No condition. -/
import Derived.Test.YtcfjogkgmkagiabR8T
import Derived.Test.YtcfjogkgmkagiabEngSG
import Derived.Test.YtcfjogkgmkagiabRows
import Derived.WalkKit
namespace Go.Proofs.Ytcfjogkgmkagiab
open Go Go.RowKit
set_option linter.unusedVariables false
set_option linter.unusedSimpArgs false
set_option maxRecDepth 10000

def ir32_v : List Nat := [0, 1, 2, 4]
def ir32 : AFn := ⟨2, 4, .seq (.region false [
    ⟨.var 2, 2, none, .box (.v 0)⟩,
    ⟨.var 3, 4, none, .mov (.c (.int .i64 (0)))⟩])
 (.seq (.region false [
    ⟨.push, 5, none, .mov (.v 1)⟩,
    ⟨.push, 6, none, .fldAddr 1 (.v 2)⟩,
    ⟨.push, 7, none, .load false 1 (.s 0)⟩,
    ⟨.push, 8, none, .len true (.s 0)⟩,
    ⟨.push, 9, none, .bin false .sub (.s 3) (.s 0)⟩,
    ⟨.var 1, 1, none, .mov (.s 0)⟩])
 (.seq (.test false [
    ⟨.push, 10, none, .mov (.v 1)⟩,
    ⟨.push, 11, none, .bin false .lss (.s 0) (.c (.int .i64 (0)))⟩] (.s 0)
  (.seq (.region false [
      ⟨.var 3, 4, none, .mov (.c (.int .i64 (-1)))⟩])
   (.ret))
  (.skip))
 (.seq (.region false [
    ⟨.push, 12, none, .mov (.v 1)⟩,
    ⟨.push, 13, none, .fldAddr 2 (.v 2)⟩,
    ⟨.push, 14, none, .load false 1 (.s 0)⟩,
    ⟨.push, 15, none, .len true (.s 0)⟩,
    ⟨.push, 16, none, .bin false .sub (.s 3) (.s 0)⟩,
    ⟨.var 1, 1, none, .mov (.s 0)⟩])
 (.seq (.test false [
    ⟨.push, 17, none, .mov (.v 1)⟩,
    ⟨.push, 18, none, .bin false .lss (.s 0) (.c (.int .i64 (0)))⟩] (.s 0)
  (.seq (.region false [
      ⟨.var 3, 4, none, .mov (.c (.int .i64 (-1)))⟩])
   (.ret))
  (.skip))
 (.seq (.region false [
    ⟨.push, 19, none, .mov (.v 1)⟩,
    ⟨.var 3, 4, none, .mov (.s 0)⟩])
 (.ret)))))), [.t 3]⟩
noncomputable def t_laws_szEstimate : List (Nat × Ctr) := []
noncomputable def c_laws_szEstimate : Ctr := mkF t_laws_szEstimate ir32 [.bor, .bor]
theorem s_laws_szEstimate : Sound Try.prog 32 c_laws_szEstimate := mkF_sound _ rfl snd_nil (by kernel_rfl : chkFn Try.prog 32 ir32 ir32_v = true)
theorem M_laws_szEstimate : c_laws_szEstimate.modes = [.bor, .bor] := rfl
theorem Fl_laws_szEstimate : c_laws_szEstimate.flat = true := rfl
attribute [go_sem] M_laws_szEstimate Fl_laws_szEstimate
theorem Fs_laws_szEstimate {a : Estimate} {left_ : Int} {y_ : Int} (h : laws_szEstimate a left_ = some y_) : c_laws_szEstimate.F [Estimate_av a, .int .i64 left_] = ⟨true, .int .i64 y_, [.any, .any]⟩ := by
  refine mkF_E rfl ?_
  dsimp only [laws_szEstimate] at h
  rcases it_some h with ⟨hk1, h⟩ | ⟨hk1, h⟩
  · try simp only [go_sem, n1, n2, n3, n4] at hk1
    all_goals
    obtain rfl := so_some h
    refine ⟨0, fun L hL => ?_⟩
    simp only [go_sem, ir32, hk1]
  · try simp only [go_sem, n1, n2, n3, n4] at hk1
    all_goals
    rcases it_some h with ⟨hk2, h⟩ | ⟨hk2, h⟩
    · try simp only [go_sem, n1, n2, n3, n4, hk1] at hk2
      all_goals
      obtain rfl := so_some h
      refine ⟨0, fun L hL => ?_⟩
      simp only [go_sem, ir32, hk1, hk2]
    · try simp only [go_sem, n1, n2, n3, n4, hk1] at hk2
      all_goals
      obtain rfl := so_some h
      refine ⟨0, fun L hL => ?_⟩
      simp only [go_sem, ir32, hk1, hk2]


def ir6_b0 : IR := .seq (.test false [
    ⟨.push, 12, none, .mov (.v 3)⟩,
    ⟨.push, 13, none, .mov (.v 0)⟩,
    ⟨.push, 14, none, .len false (.s 0)⟩,
    ⟨.push, 15, none, .bin false .lss (.s 2) (.s 0)⟩] (.s 0)
  (.skip)
  (.exit 0))
 (.seq (.block 1 (.seq (.region false [
      ⟨.push, 18, none, .mov (.v 0)⟩,
      ⟨.push, 19, none, .mov (.v 3)⟩,
      ⟨.push, 20, none, .ixAddr 5 (.s 1) (.s 0)⟩,
      ⟨.push, 21, none, .load true 5 (.s 0)⟩,
      ⟨.push, 22, none, .mov (.v 1)⟩,
      ⟨.push, 23, none, .call 32 [(.s 1), (.s 0)]⟩,
      ⟨.var 1, 1, none, .mov (.s 0)⟩])
   (.test false [
     ⟨.push, 24, none, .mov (.v 1)⟩,
     ⟨.push, 25, none, .bin false .lss (.s 0) (.c (.int .i64 (0)))⟩] (.s 0)
   (.seq (.region false [
       ⟨.var 2, 4, none, .mov (.c (.int .i64 (-1)))⟩])
    (.ret))
   (.skip))))
 (.region false [
   ⟨.push, 16, none, .mov (.v 3)⟩,
   ⟨.push, 17, none, .bin false .add (.s 0) (.c (.int .i64 (1)))⟩,
   ⟨.var 3, 5, none, .mov (.s 0)⟩]))
def ir6_k0 : List Bool := [true, true, false, true]
def ir6_o0 : List Bool := [false, true, false, false]
def ir6_r0 : List Bool := [false, false, true, false]
def ir6_v : List Nat := [0, 1, 4, 5]
def ir6 : AFn := ⟨2, 4, .seq (.region false [
    ⟨.var 2, 4, none, .mov (.c (.int .i64 (0)))⟩])
 (.seq (.region false [
    ⟨.push, 6, none, .mov (.v 1)⟩,
    ⟨.push, 7, none, .mov (.v 0)⟩,
    ⟨.push, 8, none, .len false (.s 0)⟩,
    ⟨.push, 9, none, .bin false .sub (.s 2) (.s 0)⟩,
    ⟨.var 1, 1, none, .mov (.s 0)⟩])
 (.seq (.test false [
    ⟨.push, 10, none, .mov (.v 1)⟩,
    ⟨.push, 11, none, .bin false .lss (.s 0) (.c (.int .i64 (0)))⟩] (.s 0)
  (.seq (.region false [
      ⟨.var 2, 4, none, .mov (.c (.int .i64 (-1)))⟩])
   (.ret))
  (.skip))
 (.seq (.seq (.region false [
     ⟨.var 3, 5, none, .mov (.c (.int .i64 (0)))⟩])
  (.block 0 (.loop ir6_k0 ir6_o0 ir6_r0 ir6_b0)))
 (.seq (.region false [
    ⟨.push, 26, none, .mov (.v 1)⟩,
    ⟨.var 2, 4, none, .mov (.s 0)⟩])
 (.ret))))), [.t 2]⟩
noncomputable def t_laws_szEstimateS : List (Nat × Ctr) := [(32, c_laws_szEstimate)]
theorem lk_laws_szEstimateS_32 : look t_laws_szEstimateS 32 = some c_laws_szEstimate := rfl
noncomputable def c_laws_szEstimateS : Ctr := mkF t_laws_szEstimateS ir6 [.bor, .bor]
theorem s_laws_szEstimateS : Sound Try.prog 6 c_laws_szEstimateS := mkF_sound _ rfl (snd_cons s_laws_szEstimate snd_nil) (by kernel_rfl : chkFn Try.prog 6 ir6 ir6_v = true)
theorem M_laws_szEstimateS : c_laws_szEstimateS.modes = [.bor, .bor] := rfl
theorem Fl_laws_szEstimateS : c_laws_szEstimateS.flat = true := rfl
attribute [go_sem] M_laws_szEstimateS Fl_laws_szEstimateS
attribute [go_sem] lk_laws_szEstimateS_32
def E_laws_szEstimateS_l1 (a : List Estimate) : (Int × Int) → St
  | (left_, i) => ⟨[.sl 5 (List.map Estimate_av a), .int .i64 left_, .any, .int .i64 i], [], [], true⟩
def R_laws_szEstimateS_l1 (a : List Estimate) : (Int ⊕ Int) → Res
  | .inl y => (.exit 0, ⟨[.any, .int .i64 y, .any, .any], [], [], true⟩)
  | .inr y => (.ret, ⟨[.any, .any, .int .i64 y, .any], [], [], true⟩)
theorem laws_szEstimateS_l1_ex {a : List Estimate} {sgm_ : Int × Int} {rho_ : Int ⊕ Int} (h : whileE (laws_szEstimateS_l1 a) sgm_ = some rho_) : ∃ L0, ∀ L, L0 ≤ L → iter (exec (look t_laws_szEstimateS) L ir6_b0) ir6_k0 ir6_o0 ir6_r0 L (E_laws_szEstimateS_l1 a sgm_) = R_laws_szEstimateS_l1 a rho_ := by
  refine loop_ex (E := E_laws_szEstimateS_l1 a) (R := R_laws_szEstimateS_l1 a) (fun y => by first | (intro c; cases c) | (rcases y with y | y <;> (intro c; cases c)) | (rcases y with y | y | y <;> (intro c; cases c))) ?_ h
  clear h
  rintro ⟨left_, i⟩ o_ h
  dsimp only [laws_szEstimateS_l1] at h
  rcases it_some h with ⟨hk2, h⟩ | ⟨hk2, h⟩
  · try simp only [go_sem, n1, n2, n3, n4] at hk2
    all_goals
    obtain ⟨hk3, h⟩ := ck_some h
    have lhk3 := ix_lt hk3
    have xhk3 := getD_mapD Estimate_av a lhk3
    try simp only [go_sem] at lhk3
    try simp only [go_sem] at xhk3
    try simp only [go_sem, n1, n2, n3, n4, hk2] at hk3
    all_goals
    obtain ⟨y_4, hk4, h⟩ := bd_some h
    have fhk4 := Fs_laws_szEstimate hk4
    try simp only [go_sem, hk2, hk3] at fhk4
    rcases it_some h with ⟨hk5, h⟩ | ⟨hk5, h⟩
    · try simp only [go_sem, n1, n2, n3, n4, hk2, hk3] at hk5
      all_goals
      obtain rfl := so_some h
      refine ⟨0, fun L hL => ?_⟩
      simp only [go_sem, ir6, E_laws_szEstimateS_l1, R_laws_szEstimateS_l1, ir6_b0, ir6_k0, ir6_o0, ir6_r0, hk2, hk3, lhk3, xhk3, fhk4, hk5]
    · try simp only [go_sem, n1, n2, n3, n4, hk2, hk3] at hk5
      all_goals
      obtain rfl := so_some h
      refine ⟨0, fun L hL => ?_⟩
      simp only [go_sem, ir6, E_laws_szEstimateS_l1, R_laws_szEstimateS_l1, ir6_b0, ir6_k0, ir6_o0, ir6_r0, hk2, hk3, lhk3, xhk3, fhk4, hk5]
  · try simp only [go_sem, n1, n2, n3, n4] at hk2
    all_goals
    obtain rfl := so_some h
    refine ⟨0, fun L hL => ?_⟩
    simp only [go_sem, ir6, E_laws_szEstimateS_l1, R_laws_szEstimateS_l1, ir6_b0, ir6_k0, ir6_o0, ir6_r0, hk2]

theorem Fs_laws_szEstimateS {a : List Estimate} {left_ : Int} {y_ : Int} (h : laws_szEstimateS a left_ = some y_) : c_laws_szEstimateS.F [.sl 5 (List.map Estimate_av a), .int .i64 left_] = ⟨true, .int .i64 y_, [.any, .any]⟩ := by
  refine mkF_E rfl ?_
  dsimp only [laws_szEstimateS] at h
  rcases it_some h with ⟨hk1, h⟩ | ⟨hk1, h⟩
  · try simp only [go_sem, n1, n2, n3, n4] at hk1
    all_goals
    obtain rfl := so_some h
    refine ⟨0, fun L hL => ?_⟩
    simp only [go_sem, ir6, E_laws_szEstimateS_l1, R_laws_szEstimateS_l1, ir6_k0, ir6_o0, ir6_r0, hk1]
  · try simp only [go_sem, n1, n2, n3, n4] at hk1
    all_goals
    obtain ⟨y_6, hk6, h⟩ := bd_some h
    obtain ⟨Lhk6, ehk6⟩ := laws_szEstimateS_l1_ex hk6
    rcases y_6 with y_6a | y_6b
    · dsimp only at h
      obtain rfl := so_some h
      refine ⟨Lhk6, fun L hL => ?_⟩
      have ehk6 := ehk6 L (by omega)
      try simp only [go_sem, E_laws_szEstimateS_l1, R_laws_szEstimateS_l1, ir6_k0, ir6_o0, ir6_r0, hk1] at ehk6
      simp only [go_sem, ir6, E_laws_szEstimateS_l1, R_laws_szEstimateS_l1, ir6_k0, ir6_o0, ir6_r0, hk1, ehk6]
    · dsimp only at h
      obtain rfl := so_some h
      refine ⟨Lhk6, fun L hL => ?_⟩
      have ehk6 := ehk6 L (by omega)
      try simp only [go_sem, E_laws_szEstimateS_l1, R_laws_szEstimateS_l1, ir6_k0, ir6_o0, ir6_r0, hk1] at ehk6
      simp only [go_sem, ir6, E_laws_szEstimateS_l1, R_laws_szEstimateS_l1, ir6_k0, ir6_o0, ir6_r0, hk1, ehk6]


def ir23_v : List Nat := [0, 1, 4]
def ir23 : AFn := ⟨2, 3, .seq (.region false [
    ⟨.var 2, 4, none, .mov (.c (.int .i64 (0)))⟩])
 (.seq (.region false [
    ⟨.push, 5, none, .mov (.v 1)⟩,
    ⟨.push, 6, none, .mov (.v 0)⟩,
    ⟨.push, 7, none, .len false (.s 0)⟩,
    ⟨.push, 8, none, .bin false .sub (.s 2) (.s 0)⟩,
    ⟨.var 1, 1, none, .mov (.s 0)⟩])
 (.seq (.test false [
    ⟨.push, 9, none, .mov (.v 1)⟩,
    ⟨.push, 10, none, .bin false .lss (.s 0) (.c (.int .i64 (0)))⟩] (.s 0)
  (.seq (.region false [
      ⟨.var 2, 4, none, .mov (.c (.int .i64 (-1)))⟩])
   (.ret))
  (.skip))
 (.seq (.region false [
    ⟨.push, 11, none, .mov (.v 1)⟩,
    ⟨.var 2, 4, none, .mov (.s 0)⟩])
 (.ret)))), [.t 2]⟩
noncomputable def t_laws_szFaultS : List (Nat × Ctr) := []
noncomputable def c_laws_szFaultS : Ctr := mkF t_laws_szFaultS ir23 [.bor, .bor]
theorem s_laws_szFaultS : Sound Try.prog 23 c_laws_szFaultS := mkF_sound _ rfl snd_nil (by kernel_rfl : chkFn Try.prog 23 ir23 ir23_v = true)
theorem M_laws_szFaultS : c_laws_szFaultS.modes = [.bor, .bor] := rfl
theorem Fl_laws_szFaultS : c_laws_szFaultS.flat = true := rfl
attribute [go_sem] M_laws_szFaultS Fl_laws_szFaultS
theorem Fs_laws_szFaultS {a : List Fault} {left_ : Int} {y_ : Int} (h : laws_szFaultS a left_ = some y_) : c_laws_szFaultS.F [.sl 2 (List.map Fault_av a), .int .i64 left_] = ⟨true, .int .i64 y_, [.any, .any]⟩ := by
  refine mkF_E rfl ?_
  dsimp only [laws_szFaultS] at h
  rcases it_some h with ⟨hk1, h⟩ | ⟨hk1, h⟩
  · try simp only [go_sem, n1, n2, n3, n4] at hk1
    all_goals
    obtain rfl := so_some h
    refine ⟨0, fun L hL => ?_⟩
    simp only [go_sem, ir23, hk1]
  · try simp only [go_sem, n1, n2, n3, n4] at hk1
    all_goals
    obtain rfl := so_some h
    refine ⟨0, fun L hL => ?_⟩
    simp only [go_sem, ir23, hk1]


def ir40_v : List Nat := [0, 1, 2, 3]
def ir40 : AFn := ⟨1, 4, .seq (.region false [
    ⟨.var 1, 1, none, .box (.v 0)⟩,
    ⟨.var 2, 2, none, .alloc (.agg [.int .i64 (0), .str [], .str [], .int .i64 (0), .bool false])⟩])
 (.seq (.region false [
    ⟨.var 3, 3, none, .alloc (.agg [.int .i64 (0), .str [], .str [], .int .i64 (0), .bool false])⟩])
 (.seq (.region false [
    ⟨.push, 4, none, .fldAddr 0 (.v 1)⟩,
    ⟨.push, 5, none, .load false 1 (.s 0)⟩,
    ⟨.push, 6, none, .fldAddr 0 (.v 3)⟩,
    ⟨.no, 0, none, .store 1 (.s 0) (.s 1)⟩])
 (.seq (.region false [
    ⟨.push, 7, none, .fldAddr 1 (.v 1)⟩,
    ⟨.push, 8, none, .load false 1 (.s 0)⟩,
    ⟨.push, 9, none, .fldAddr 1 (.v 3)⟩,
    ⟨.no, 0, none, .store 1 (.s 0) (.s 1)⟩])
 (.seq (.region false [
    ⟨.push, 10, none, .fldAddr 2 (.v 1)⟩,
    ⟨.push, 11, none, .load false 1 (.s 0)⟩,
    ⟨.push, 12, none, .fldAddr 2 (.v 3)⟩,
    ⟨.no, 0, none, .store 1 (.s 0) (.s 1)⟩])
 (.seq (.region false [
    ⟨.push, 13, none, .fldAddr 3 (.v 1)⟩,
    ⟨.push, 14, none, .load false 1 (.s 0)⟩,
    ⟨.push, 15, none, .fldAddr 3 (.v 3)⟩,
    ⟨.no, 0, none, .store 1 (.s 0) (.s 1)⟩])
 (.seq (.region false [
    ⟨.push, 16, none, .fldAddr 4 (.v 1)⟩,
    ⟨.push, 17, none, .load false 1 (.s 0)⟩,
    ⟨.push, 18, none, .fldAddr 4 (.v 3)⟩,
    ⟨.no, 0, none, .store 1 (.s 0) (.s 1)⟩])
 (.seq (.region false [
    ⟨.push, 19, none, .load true 5 (.v 3)⟩,
    ⟨.no, 0, none, .store 5 (.v 2) (.s 0)⟩])
 (.ret)))))))), [.cell true 5 2]⟩
noncomputable def t_laws_toEstimate : List (Nat × Ctr) := []
noncomputable def c_laws_toEstimate : Ctr := mkN t_laws_toEstimate ir40 [.bor]
theorem s_laws_toEstimate : Sound Try.prog 40 c_laws_toEstimate := mkN_sound _ snd_nil (by kernel_rfl : chkFn Try.prog 40 ir40 ir40_v = true)
theorem M_laws_toEstimate : c_laws_toEstimate.modes = [.bor] := rfl
theorem Fl_laws_toEstimate : c_laws_toEstimate.flat = false := rfl
attribute [go_sem] M_laws_toEstimate Fl_laws_toEstimate
theorem Fs_laws_toEstimate {a : Estimate} {y_ : Estimate} (h : laws_toEstimate a = some y_) : c_laws_toEstimate.F [Estimate_av a] = ⟨true, Estimate_av y_, [.any]⟩ := by
  refine mkN_E ?_
  dsimp only [laws_toEstimate] at h
  obtain rfl := so_some h
  refine ⟨0, fun L hL => ?_⟩
  simp only [go_sem, ir40]


def ir10_b0 : IR := .seq (.test false [
    ⟨.push, 8, none, .mov (.v 3)⟩,
    ⟨.push, 9, none, .mov (.v 0)⟩,
    ⟨.push, 10, none, .len false (.s 0)⟩,
    ⟨.push, 11, none, .bin false .lss (.s 2) (.s 0)⟩] (.s 0)
  (.skip)
  (.exit 0))
 (.seq (.block 1 (.region false [
     ⟨.push, 14, none, .mov (.v 2)⟩,
     ⟨.push, 15, none, .mov (.v 3)⟩,
     ⟨.push, 16, none, .mov (.v 0)⟩,
     ⟨.push, 17, none, .mov (.v 3)⟩,
     ⟨.push, 18, none, .ixAddr 5 (.s 1) (.s 0)⟩,
     ⟨.push, 19, none, .load true 5 (.s 0)⟩,
     ⟨.push, 20, none, .call 40 [(.s 0)]⟩,
     ⟨.push, 21, none, .ixAddr 5 (.s 6) (.s 5)⟩,
     ⟨.no, 0, none, .store 5 (.s 0) (.s 1)⟩]))
 (.region false [
   ⟨.push, 12, none, .mov (.v 3)⟩,
   ⟨.push, 13, none, .bin false .add (.s 0) (.c (.int .i64 (1)))⟩,
   ⟨.var 3, 4, none, .mov (.s 0)⟩]))
def ir10_k0 : List Bool := [true, false, true, true]
def ir10_o0 : List Bool := [false, false, true, false]
def ir10_r0 : List Bool := [false, true, false, false]
def ir10_v : List Nat := [0, 2, 3, 4]
def ir10 : AFn := ⟨1, 4, .seq (.region false [
    ⟨.var 1, 2, none, .newnil 5⟩])
 (.seq (.region false [
    ⟨.push, 5, none, .mov (.v 0)⟩,
    ⟨.push, 6, none, .len false (.s 0)⟩,
    ⟨.push, 7, none, .make 5 56 (.agg [.int .i64 (0), .str [], .str [], .int .i64 (0), .bool false]) (.s 0) (.s 0)⟩,
    ⟨.var 2, 3, none, .mov (.s 0)⟩])
 (.seq (.seq (.region false [
     ⟨.var 3, 4, none, .mov (.c (.int .i64 (0)))⟩])
  (.block 0 (.loop ir10_k0 ir10_o0 ir10_r0 ir10_b0)))
 (.seq (.region false [
    ⟨.push, 22, none, .mov (.v 2)⟩,
    ⟨.var 1, 2, none, .mov (.s 0)⟩])
 (.ret)))), [.t 1]⟩
noncomputable def t_laws_toEstimateS : List (Nat × Ctr) := [(40, c_laws_toEstimate)]
theorem lk_laws_toEstimateS_40 : look t_laws_toEstimateS 40 = some c_laws_toEstimate := rfl
noncomputable def c_laws_toEstimateS : Ctr := mkF t_laws_toEstimateS ir10 [.bor]
theorem s_laws_toEstimateS : Sound Try.prog 10 c_laws_toEstimateS := mkF_sound _ rfl (snd_cons s_laws_toEstimate snd_nil) (by kernel_rfl : chkFn Try.prog 10 ir10 ir10_v = true)
theorem M_laws_toEstimateS : c_laws_toEstimateS.modes = [.bor] := rfl
theorem Fl_laws_toEstimateS : c_laws_toEstimateS.flat = true := rfl
attribute [go_sem] M_laws_toEstimateS Fl_laws_toEstimateS
attribute [go_sem] lk_laws_toEstimateS_40
def E_laws_toEstimateS_l1 (a : List Estimate) : ((List Estimate) × Int) → St
  | (out, i) => ⟨[.sl 5 (List.map Estimate_av a), .any, .own 3200000, .int .i64 i], [], [(3200000, ⟨5, List.map Estimate_av out⟩)], true⟩
def R_laws_toEstimateS_l1 (a : List Estimate) (y : (List Estimate)) : Res := (.exit 0, ⟨[.any, .any, .own 3200000, .any], [], [(3200000, ⟨5, List.map Estimate_av y⟩)], true⟩)
theorem laws_toEstimateS_l1_ex {a : List Estimate} {sgm_ : (List Estimate) × Int} {rho_ : (List Estimate)} (h : whileE (laws_toEstimateS_l1 a) sgm_ = some rho_) : ∃ L0, ∀ L, L0 ≤ L → iter (exec (look t_laws_toEstimateS) L ir10_b0) ir10_k0 ir10_o0 ir10_r0 L (E_laws_toEstimateS_l1 a sgm_) = R_laws_toEstimateS_l1 a rho_ := by
  refine loop_ex (E := E_laws_toEstimateS_l1 a) (R := R_laws_toEstimateS_l1 a) (fun y => by first | (intro c; cases c) | (rcases y with y | y <;> (intro c; cases c)) | (rcases y with y | y | y <;> (intro c; cases c))) ?_ h
  clear h
  rintro ⟨out, i⟩ o_ h
  dsimp only [laws_toEstimateS_l1] at h
  rcases it_some h with ⟨hk2, h⟩ | ⟨hk2, h⟩
  · try simp only [go_sem, n1, n2, n3, n4] at hk2
    all_goals
    obtain ⟨hk3, h⟩ := ck_some h
    have lhk3 := ix_lt hk3
    have xhk3 := getD_mapD Estimate_av a lhk3
    try simp only [go_sem] at lhk3
    try simp only [go_sem] at xhk3
    try simp only [go_sem, n1, n2, n3, n4, hk2] at hk3
    all_goals
    obtain ⟨y_4, hk4, h⟩ := bd_some h
    have fhk4 := Fs_laws_toEstimate hk4
    try simp only [go_sem, hk2, hk3] at fhk4
    obtain ⟨hk5, h⟩ := ck_some h
    have lhk5 := ix_lt hk5
    have xhk5 := getD_mapD Estimate_av out lhk5
    try simp only [go_sem] at lhk5
    try simp only [go_sem] at xhk5
    try simp only [go_sem, n1, n2, n3, n4, hk2, hk3] at hk5
    all_goals
    obtain rfl := so_some h
    refine ⟨0, fun L hL => ?_⟩
    simp only [go_sem, ir10, E_laws_toEstimateS_l1, R_laws_toEstimateS_l1, ir10_b0, ir10_k0, ir10_o0, ir10_r0, hk2, hk3, lhk3, xhk3, fhk4, hk5, lhk5, xhk5]
  · try simp only [go_sem, n1, n2, n3, n4] at hk2
    all_goals
    obtain rfl := so_some h
    refine ⟨0, fun L hL => ?_⟩
    simp only [go_sem, ir10, E_laws_toEstimateS_l1, R_laws_toEstimateS_l1, ir10_b0, ir10_k0, ir10_o0, ir10_r0, hk2]

theorem Fs_laws_toEstimateS {a : List Estimate} {y_ : (List Estimate)} (h : laws_toEstimateS a = some y_) : c_laws_toEstimateS.F [.sl 5 (List.map Estimate_av a)] = ⟨true, .fresh 5 (List.map Estimate_av y_), [.any]⟩ := by
  refine mkF_E (by simp only [flatA, flatB, flat1, List.all_cons, List.all_nil, Bool.and_self, flatE_map (f := Estimate_av) (fun _ => rfl)]) ?_
  dsimp only [laws_toEstimateS] at h
  obtain ⟨hk1, h⟩ := ck_some h
  try simp only [go_sem, n1, n2, n3, n4] at hk1
  all_goals
  obtain ⟨y_6, hk6, h⟩ := bd_some h
  obtain ⟨Lhk6, ehk6⟩ := laws_toEstimateS_l1_ex hk6
  obtain rfl := so_some h
  refine ⟨Lhk6, fun L hL => ?_⟩
  have ehk6 := ehk6 L (by omega)
  try simp only [go_sem, E_laws_toEstimateS_l1, R_laws_toEstimateS_l1, ir10_k0, ir10_o0, ir10_r0, hk1] at ehk6
  simp only [go_sem, ir10, E_laws_toEstimateS_l1, R_laws_toEstimateS_l1, ir10_k0, ir10_o0, ir10_r0, hk1, ehk6]


def ir55_v : List Nat := [0, 1, 2, 3]
def ir55 : AFn := ⟨1, 4, .seq (.region false [
    ⟨.var 1, 1, none, .box (.v 0)⟩,
    ⟨.var 2, 2, none, .alloc (.agg [.int .i64 (0), .int .i64 (0)])⟩])
 (.seq (.region false [
    ⟨.var 3, 3, none, .alloc (.agg [.int .i64 (0), .int .i64 (0)])⟩])
 (.seq (.region false [
    ⟨.push, 4, none, .fldAddr 0 (.v 1)⟩,
    ⟨.push, 5, none, .load false 1 (.s 0)⟩,
    ⟨.push, 6, none, .fldAddr 0 (.v 3)⟩,
    ⟨.no, 0, none, .store 1 (.s 0) (.s 1)⟩])
 (.seq (.region false [
    ⟨.push, 7, none, .fldAddr 1 (.v 1)⟩,
    ⟨.push, 8, none, .load false 1 (.s 0)⟩,
    ⟨.push, 9, none, .fldAddr 1 (.v 3)⟩,
    ⟨.no, 0, none, .store 1 (.s 0) (.s 1)⟩])
 (.seq (.region false [
    ⟨.push, 10, none, .load true 2 (.v 3)⟩,
    ⟨.no, 0, none, .store 2 (.v 2) (.s 0)⟩])
 (.ret))))), [.cell true 2 2]⟩
noncomputable def t_laws_toFault : List (Nat × Ctr) := []
noncomputable def c_laws_toFault : Ctr := mkN t_laws_toFault ir55 [.bor]
theorem s_laws_toFault : Sound Try.prog 55 c_laws_toFault := mkN_sound _ snd_nil (by kernel_rfl : chkFn Try.prog 55 ir55 ir55_v = true)
theorem M_laws_toFault : c_laws_toFault.modes = [.bor] := rfl
theorem Fl_laws_toFault : c_laws_toFault.flat = false := rfl
attribute [go_sem] M_laws_toFault Fl_laws_toFault
theorem Fs_laws_toFault {a : Fault} {y_ : Fault} (h : laws_toFault a = some y_) : c_laws_toFault.F [Fault_av a] = ⟨true, Fault_av y_, [.any]⟩ := by
  refine mkN_E ?_
  dsimp only [laws_toFault] at h
  obtain rfl := so_some h
  refine ⟨0, fun L hL => ?_⟩
  simp only [go_sem, ir55]


def ir25_b0 : IR := .seq (.test false [
    ⟨.push, 8, none, .mov (.v 3)⟩,
    ⟨.push, 9, none, .mov (.v 0)⟩,
    ⟨.push, 10, none, .len false (.s 0)⟩,
    ⟨.push, 11, none, .bin false .lss (.s 2) (.s 0)⟩] (.s 0)
  (.skip)
  (.exit 0))
 (.seq (.block 1 (.region false [
     ⟨.push, 14, none, .mov (.v 2)⟩,
     ⟨.push, 15, none, .mov (.v 3)⟩,
     ⟨.push, 16, none, .mov (.v 0)⟩,
     ⟨.push, 17, none, .mov (.v 3)⟩,
     ⟨.push, 18, none, .ixAddr 2 (.s 1) (.s 0)⟩,
     ⟨.push, 19, none, .load true 2 (.s 0)⟩,
     ⟨.push, 20, none, .call 55 [(.s 0)]⟩,
     ⟨.push, 21, none, .ixAddr 2 (.s 6) (.s 5)⟩,
     ⟨.no, 0, none, .store 2 (.s 0) (.s 1)⟩]))
 (.region false [
   ⟨.push, 12, none, .mov (.v 3)⟩,
   ⟨.push, 13, none, .bin false .add (.s 0) (.c (.int .i64 (1)))⟩,
   ⟨.var 3, 4, none, .mov (.s 0)⟩]))
def ir25_k0 : List Bool := [true, false, true, true]
def ir25_o0 : List Bool := [false, false, true, false]
def ir25_r0 : List Bool := [false, true, false, false]
def ir25_v : List Nat := [0, 2, 3, 4]
def ir25 : AFn := ⟨1, 4, .seq (.region false [
    ⟨.var 1, 2, none, .newnil 2⟩])
 (.seq (.region false [
    ⟨.push, 5, none, .mov (.v 0)⟩,
    ⟨.push, 6, none, .len false (.s 0)⟩,
    ⟨.push, 7, none, .make 2 16 (.agg [.int .i64 (0), .int .i64 (0)]) (.s 0) (.s 0)⟩,
    ⟨.var 2, 3, none, .mov (.s 0)⟩])
 (.seq (.seq (.region false [
     ⟨.var 3, 4, none, .mov (.c (.int .i64 (0)))⟩])
  (.block 0 (.loop ir25_k0 ir25_o0 ir25_r0 ir25_b0)))
 (.seq (.region false [
    ⟨.push, 22, none, .mov (.v 2)⟩,
    ⟨.var 1, 2, none, .mov (.s 0)⟩])
 (.ret)))), [.t 1]⟩
noncomputable def t_laws_toFaultS : List (Nat × Ctr) := [(55, c_laws_toFault)]
theorem lk_laws_toFaultS_55 : look t_laws_toFaultS 55 = some c_laws_toFault := rfl
noncomputable def c_laws_toFaultS : Ctr := mkF t_laws_toFaultS ir25 [.bor]
theorem s_laws_toFaultS : Sound Try.prog 25 c_laws_toFaultS := mkF_sound _ rfl (snd_cons s_laws_toFault snd_nil) (by kernel_rfl : chkFn Try.prog 25 ir25 ir25_v = true)
theorem M_laws_toFaultS : c_laws_toFaultS.modes = [.bor] := rfl
theorem Fl_laws_toFaultS : c_laws_toFaultS.flat = true := rfl
attribute [go_sem] M_laws_toFaultS Fl_laws_toFaultS
attribute [go_sem] lk_laws_toFaultS_55
def E_laws_toFaultS_l1 (a : List Fault) : ((List Fault) × Int) → St
  | (out, i) => ⟨[.sl 2 (List.map Fault_av a), .any, .own 3200000, .int .i64 i], [], [(3200000, ⟨2, List.map Fault_av out⟩)], true⟩
def R_laws_toFaultS_l1 (a : List Fault) (y : (List Fault)) : Res := (.exit 0, ⟨[.any, .any, .own 3200000, .any], [], [(3200000, ⟨2, List.map Fault_av y⟩)], true⟩)
theorem laws_toFaultS_l1_ex {a : List Fault} {sgm_ : (List Fault) × Int} {rho_ : (List Fault)} (h : whileE (laws_toFaultS_l1 a) sgm_ = some rho_) : ∃ L0, ∀ L, L0 ≤ L → iter (exec (look t_laws_toFaultS) L ir25_b0) ir25_k0 ir25_o0 ir25_r0 L (E_laws_toFaultS_l1 a sgm_) = R_laws_toFaultS_l1 a rho_ := by
  refine loop_ex (E := E_laws_toFaultS_l1 a) (R := R_laws_toFaultS_l1 a) (fun y => by first | (intro c; cases c) | (rcases y with y | y <;> (intro c; cases c)) | (rcases y with y | y | y <;> (intro c; cases c))) ?_ h
  clear h
  rintro ⟨out, i⟩ o_ h
  dsimp only [laws_toFaultS_l1] at h
  rcases it_some h with ⟨hk2, h⟩ | ⟨hk2, h⟩
  · try simp only [go_sem, n1, n2, n3, n4] at hk2
    all_goals
    obtain ⟨hk3, h⟩ := ck_some h
    have lhk3 := ix_lt hk3
    have xhk3 := getD_mapD Fault_av a lhk3
    try simp only [go_sem] at lhk3
    try simp only [go_sem] at xhk3
    try simp only [go_sem, n1, n2, n3, n4, hk2] at hk3
    all_goals
    obtain ⟨y_4, hk4, h⟩ := bd_some h
    have fhk4 := Fs_laws_toFault hk4
    try simp only [go_sem, hk2, hk3] at fhk4
    obtain ⟨hk5, h⟩ := ck_some h
    have lhk5 := ix_lt hk5
    have xhk5 := getD_mapD Fault_av out lhk5
    try simp only [go_sem] at lhk5
    try simp only [go_sem] at xhk5
    try simp only [go_sem, n1, n2, n3, n4, hk2, hk3] at hk5
    all_goals
    obtain rfl := so_some h
    refine ⟨0, fun L hL => ?_⟩
    simp only [go_sem, ir25, E_laws_toFaultS_l1, R_laws_toFaultS_l1, ir25_b0, ir25_k0, ir25_o0, ir25_r0, hk2, hk3, lhk3, xhk3, fhk4, hk5, lhk5, xhk5]
  · try simp only [go_sem, n1, n2, n3, n4] at hk2
    all_goals
    obtain rfl := so_some h
    refine ⟨0, fun L hL => ?_⟩
    simp only [go_sem, ir25, E_laws_toFaultS_l1, R_laws_toFaultS_l1, ir25_b0, ir25_k0, ir25_o0, ir25_r0, hk2]

theorem Fs_laws_toFaultS {a : List Fault} {y_ : (List Fault)} (h : laws_toFaultS a = some y_) : c_laws_toFaultS.F [.sl 2 (List.map Fault_av a)] = ⟨true, .fresh 2 (List.map Fault_av y_), [.any]⟩ := by
  refine mkF_E (by simp only [flatA, flatB, flat1, List.all_cons, List.all_nil, Bool.and_self, flatE_map (f := Fault_av) (fun _ => rfl)]) ?_
  dsimp only [laws_toFaultS] at h
  obtain ⟨hk1, h⟩ := ck_some h
  try simp only [go_sem, n1, n2, n3, n4] at hk1
  all_goals
  obtain ⟨y_6, hk6, h⟩ := bd_some h
  obtain ⟨Lhk6, ehk6⟩ := laws_toFaultS_l1_ex hk6
  obtain rfl := so_some h
  refine ⟨Lhk6, fun L hL => ?_⟩
  have ehk6 := ehk6 L (by omega)
  try simp only [go_sem, E_laws_toFaultS_l1, R_laws_toFaultS_l1, ir25_k0, ir25_o0, ir25_r0, hk1] at ehk6
  simp only [go_sem, ir25, E_laws_toFaultS_l1, R_laws_toFaultS_l1, ir25_k0, ir25_o0, ir25_r0, hk1, ehk6]


def ir38_v : List Nat := [0, 1, 2, 6]
def ir38 : AFn := ⟨3, 4, .seq (.region false [
    ⟨.var 3, 6, none, .mov (.c (.bool false))⟩])
 (.seq (.region false [
    ⟨.push, 7, none, .mov (.v 0)⟩,
    ⟨.push, 8, none, .mov (.v 1)⟩,
    ⟨.push, 9, none, .bin false .geq (.s 1) (.s 0)⟩,
    ⟨.push, 10, none, .mov (.s 0)⟩,
    ⟨.push, 11, (some ((.s 0), true)), .mov (.v 0)⟩,
    ⟨.push, 12, (some ((.s 1), true)), .mov (.v 2)⟩,
    ⟨.push, 13, (some ((.s 2), true)), .bin false .leq (.s 1) (.s 0)⟩,
    ⟨.push, 14, none, .pick (.s 3) (.s 0) (.c (.bool false))⟩,
    ⟨.var 3, 6, none, .mov (.s 0)⟩])
 (.ret)), [.t 3]⟩
noncomputable def t_spec_l00In : List (Nat × Ctr) := []
noncomputable def c_spec_l00In : Ctr := mkF t_spec_l00In ir38 [.bor, .bor, .bor]
theorem s_spec_l00In : Sound Try.prog 38 c_spec_l00In := mkF_sound _ rfl snd_nil (by kernel_rfl : chkFn Try.prog 38 ir38 ir38_v = true)
theorem M_spec_l00In : c_spec_l00In.modes = [.bor, .bor, .bor] := rfl
theorem Fl_spec_l00In : c_spec_l00In.flat = true := rfl
attribute [go_sem] M_spec_l00In Fl_spec_l00In
theorem Fs_spec_l00In {n : Int} {low : Int} {high : Int} {y_ : Bool} (h : spec_l00In n low high = some y_) : c_spec_l00In.F [.int .i64 n, .int .i64 low, .int .i64 high] = ⟨true, .bool y_, [.any, .any, .any]⟩ := by
  refine mkF_E rfl ?_
  dsimp only [spec_l00In] at h
  obtain rfl := so_some h
  refine ⟨0, fun L hL => ?_⟩
  simp only [go_sem, ir38]


def ir93_v : List Nat := [0, 2]
def ir93 : AFn := ⟨1, 2, .seq (.region false [
    ⟨.var 1, 2, none, .mov (.c (.bool false))⟩])
 (.seq (.region false [
    ⟨.push, 3, none, .mov (.v 0)⟩,
    ⟨.push, 4, none, .call 38 [(.s 0), (.c (.int .i64 (0))), (.c (.int .i64 (10000000)))]⟩,
    ⟨.var 1, 2, none, .mov (.s 0)⟩])
 (.ret)), [.t 1]⟩
noncomputable def t_spec_l06Time : List (Nat × Ctr) := [(38, c_spec_l00In)]
theorem lk_spec_l06Time_38 : look t_spec_l06Time 38 = some c_spec_l00In := rfl
noncomputable def c_spec_l06Time : Ctr := mkF t_spec_l06Time ir93 [.bor]
theorem s_spec_l06Time : Sound Try.prog 93 c_spec_l06Time := mkF_sound _ rfl (snd_cons s_spec_l00In snd_nil) (by kernel_rfl : chkFn Try.prog 93 ir93 ir93_v = true)
theorem M_spec_l06Time : c_spec_l06Time.modes = [.bor] := rfl
theorem Fl_spec_l06Time : c_spec_l06Time.flat = true := rfl
attribute [go_sem] M_spec_l06Time Fl_spec_l06Time
attribute [go_sem] lk_spec_l06Time_38
theorem Fs_spec_l06Time {n : Int} {y_ : Bool} (h : spec_l06Time n = some y_) : c_spec_l06Time.F [.int .i64 n] = ⟨true, .bool y_, [.any]⟩ := by
  refine mkF_E rfl ?_
  dsimp only [spec_l06Time] at h
  obtain ⟨y_1, hk1, h⟩ := bd_some h
  have fhk1 := Fs_spec_l00In hk1
  try simp only [go_sem] at fhk1
  obtain rfl := so_some h
  refine ⟨0, fun L hL => ?_⟩
  simp only [go_sem, ir93, fhk1]


def ir115_v : List Nat := [0, 2]
def ir115 : AFn := ⟨1, 2, .seq (.region false [
    ⟨.var 1, 2, none, .mov (.c (.bool false))⟩])
 (.seq (.region false [
    ⟨.push, 3, none, .mov (.v 0)⟩,
    ⟨.push, 4, none, .bin false .geq (.s 0) (.c (.int .u8 (97)))⟩,
    ⟨.push, 5, none, .mov (.s 0)⟩,
    ⟨.push, 6, (some ((.s 0), true)), .mov (.v 0)⟩,
    ⟨.push, 7, (some ((.s 1), true)), .bin false .leq (.s 0) (.c (.int .u8 (122)))⟩,
    ⟨.push, 8, none, .pick (.s 2) (.s 0) (.c (.bool false))⟩,
    ⟨.var 1, 2, none, .mov (.s 0)⟩])
 (.ret)), [.t 1]⟩
noncomputable def t_spec_l01Small : List (Nat × Ctr) := []
noncomputable def c_spec_l01Small : Ctr := mkF t_spec_l01Small ir115 [.bor]
theorem s_spec_l01Small : Sound Try.prog 115 c_spec_l01Small := mkF_sound _ rfl snd_nil (by kernel_rfl : chkFn Try.prog 115 ir115 ir115_v = true)
theorem M_spec_l01Small : c_spec_l01Small.modes = [.bor] := rfl
theorem Fl_spec_l01Small : c_spec_l01Small.flat = true := rfl
attribute [go_sem] M_spec_l01Small Fl_spec_l01Small
theorem Fs_spec_l01Small {c : UInt8} {y_ : Bool} (h : spec_l01Small c = some y_) : c_spec_l01Small.F [.int .u8 (c.toNat : Int)] = ⟨true, .bool y_, [.any]⟩ := by
  refine mkF_E rfl ?_
  dsimp only [spec_l01Small] at h
  obtain rfl := so_some h
  refine ⟨0, fun L hL => ?_⟩
  simp only [go_sem, ir115]


def ir116_v : List Nat := [0, 2]
def ir116 : AFn := ⟨1, 2, .seq (.region false [
    ⟨.var 1, 2, none, .mov (.c (.bool false))⟩])
 (.seq (.region false [
    ⟨.push, 3, none, .mov (.v 0)⟩,
    ⟨.push, 4, none, .bin false .geq (.s 0) (.c (.int .u8 (48)))⟩,
    ⟨.push, 5, none, .mov (.s 0)⟩,
    ⟨.push, 6, (some ((.s 0), true)), .mov (.v 0)⟩,
    ⟨.push, 7, (some ((.s 1), true)), .bin false .leq (.s 0) (.c (.int .u8 (57)))⟩,
    ⟨.push, 8, none, .pick (.s 2) (.s 0) (.c (.bool false))⟩,
    ⟨.var 1, 2, none, .mov (.s 0)⟩])
 (.ret)), [.t 1]⟩
noncomputable def t_spec_l01Digit : List (Nat × Ctr) := []
noncomputable def c_spec_l01Digit : Ctr := mkF t_spec_l01Digit ir116 [.bor]
theorem s_spec_l01Digit : Sound Try.prog 116 c_spec_l01Digit := mkF_sound _ rfl snd_nil (by kernel_rfl : chkFn Try.prog 116 ir116 ir116_v = true)
theorem M_spec_l01Digit : c_spec_l01Digit.modes = [.bor] := rfl
theorem Fl_spec_l01Digit : c_spec_l01Digit.flat = true := rfl
attribute [go_sem] M_spec_l01Digit Fl_spec_l01Digit
theorem Fs_spec_l01Digit {c : UInt8} {y_ : Bool} (h : spec_l01Digit c = some y_) : c_spec_l01Digit.F [.int .u8 (c.toNat : Int)] = ⟨true, .bool y_, [.any]⟩ := by
  refine mkF_E rfl ?_
  dsimp only [spec_l01Digit] at h
  obtain rfl := so_some h
  refine ⟨0, fun L hL => ?_⟩
  simp only [go_sem, ir116]


def ir94_b0 : IR := .seq (.test false [
    ⟨.push, 17, none, .mov (.v 2)⟩,
    ⟨.push, 18, none, .mov (.v 0)⟩,
    ⟨.push, 19, none, .len true (.s 0)⟩,
    ⟨.push, 20, none, .bin false .lss (.s 2) (.s 0)⟩] (.s 0)
  (.skip)
  (.exit 0))
 (.seq (.block 1 (.test false [
     ⟨.push, 23, none, .mov (.v 0)⟩,
     ⟨.push, 24, none, .mov (.v 2)⟩,
     ⟨.push, 25, none, .ixStr (.s 1) (.s 0)⟩,
     ⟨.push, 26, none, .call 115 [(.s 0)]⟩,
     ⟨.push, 27, none, .un .not (.s 0)⟩,
     ⟨.push, 28, none, .mov (.s 0)⟩,
     ⟨.push, 29, (some ((.s 0), true)), .mov (.v 0)⟩,
     ⟨.push, 30, (some ((.s 1), true)), .mov (.v 2)⟩,
     ⟨.push, 31, (some ((.s 2), true)), .ixStr (.s 1) (.s 0)⟩,
     ⟨.push, 32, (some ((.s 3), true)), .call 116 [(.s 0)]⟩,
     ⟨.push, 33, (some ((.s 4), true)), .un .not (.s 0)⟩,
     ⟨.push, 34, none, .pick (.s 5) (.s 0) (.c (.bool false))⟩,
     ⟨.push, 35, none, .mov (.s 0)⟩,
     ⟨.push, 36, (some ((.s 0), true)), .mov (.v 0)⟩,
     ⟨.push, 37, (some ((.s 1), true)), .mov (.v 2)⟩,
     ⟨.push, 38, (some ((.s 2), true)), .ixStr (.s 1) (.s 0)⟩,
     ⟨.push, 39, (some ((.s 3), true)), .bin false .neq (.s 0) (.c (.int .u8 (45)))⟩,
     ⟨.push, 40, none, .pick (.s 4) (.s 0) (.c (.bool false))⟩] (.s 0)
   (.seq (.region false [
       ⟨.var 1, 2, none, .mov (.c (.bool false))⟩])
    (.ret))
   (.skip)))
 (.region false [
   ⟨.push, 21, none, .mov (.v 2)⟩,
   ⟨.push, 22, none, .bin false .add (.s 0) (.c (.int .i64 (1)))⟩,
   ⟨.var 2, 3, none, .mov (.s 0)⟩]))
def ir94_k0 : List Bool := [true, false, true]
def ir94_o0 : List Bool := [false, false, false]
def ir94_r0 : List Bool := [false, true, false]
def ir94_v : List Nat := [0, 2, 3]
def ir94 : AFn := ⟨1, 3, .seq (.region false [
    ⟨.var 1, 2, none, .mov (.c (.bool false))⟩])
 (.seq (.test false [
    ⟨.push, 4, none, .mov (.v 0)⟩,
    ⟨.push, 5, none, .bin false .eql (.s 0) (.c (.str []))⟩,
    ⟨.push, 6, none, .mov (.s 0)⟩,
    ⟨.push, 7, (some ((.s 0), false)), .mov (.v 0)⟩,
    ⟨.push, 8, (some ((.s 1), false)), .len true (.s 0)⟩,
    ⟨.push, 9, (some ((.s 2), false)), .bin false .gtr (.s 0) (.c (.int .i64 (12)))⟩,
    ⟨.push, 10, none, .pick (.s 3) (.c (.bool true)) (.s 0)⟩,
    ⟨.push, 11, none, .mov (.s 0)⟩,
    ⟨.push, 12, (some ((.s 0), false)), .mov (.v 0)⟩,
    ⟨.push, 13, (some ((.s 1), false)), .ixStr (.s 0) (.c (.int .i64 (0)))⟩,
    ⟨.push, 14, (some ((.s 2), false)), .call 115 [(.s 0)]⟩,
    ⟨.push, 15, (some ((.s 3), false)), .un .not (.s 0)⟩,
    ⟨.push, 16, none, .pick (.s 4) (.c (.bool true)) (.s 0)⟩] (.s 0)
  (.seq (.region false [
      ⟨.var 1, 2, none, .mov (.c (.bool false))⟩])
   (.ret))
  (.skip))
 (.seq (.seq (.region false [
     ⟨.var 2, 3, none, .mov (.c (.int .i64 (0)))⟩])
  (.block 0 (.loop ir94_k0 ir94_o0 ir94_r0 ir94_b0)))
 (.seq (.region false [
    ⟨.var 1, 2, none, .mov (.c (.bool true))⟩])
 (.ret)))), [.t 1]⟩
noncomputable def t_spec_IsName : List (Nat × Ctr) := [(115, c_spec_l01Small), (116, c_spec_l01Digit)]
theorem lk_spec_IsName_115 : look t_spec_IsName 115 = some c_spec_l01Small := rfl
theorem lk_spec_IsName_116 : look t_spec_IsName 116 = some c_spec_l01Digit := rfl
noncomputable def c_spec_IsName : Ctr := mkF t_spec_IsName ir94 [.bor]
theorem s_spec_IsName : Sound Try.prog 94 c_spec_IsName := mkF_sound _ rfl (snd_cons s_spec_l01Small (snd_cons s_spec_l01Digit snd_nil)) (by kernel_rfl : chkFn Try.prog 94 ir94 ir94_v = true)
theorem M_spec_IsName : c_spec_IsName.modes = [.bor] := rfl
theorem Fl_spec_IsName : c_spec_IsName.flat = true := rfl
attribute [go_sem] M_spec_IsName Fl_spec_IsName
attribute [go_sem] lk_spec_IsName_115 lk_spec_IsName_116
def E_spec_IsName_l1 (s_ : List UInt8) : Int → St
  | i => ⟨[.str s_, .any, .int .i64 i], [], [], true⟩
def R_spec_IsName_l1 (s_ : List UInt8) : (Unit ⊕ Bool) → Res
  | .inl y => (.exit 0, ⟨[.any, .any, .any], [], [], true⟩)
  | .inr y => (.ret, ⟨[.any, .bool y, .any], [], [], true⟩)
theorem spec_IsName_l1_ex {s_ : List UInt8} {sgm_ : Int} {rho_ : Unit ⊕ Bool} (h : whileE (spec_IsName_l1 s_) sgm_ = some rho_) : ∃ L0, ∀ L, L0 ≤ L → iter (exec (look t_spec_IsName) L ir94_b0) ir94_k0 ir94_o0 ir94_r0 L (E_spec_IsName_l1 s_ sgm_) = R_spec_IsName_l1 s_ rho_ := by
  refine loop_ex (E := E_spec_IsName_l1 s_) (R := R_spec_IsName_l1 s_) (fun y => by first | (intro c; cases c) | (rcases y with y | y <;> (intro c; cases c)) | (rcases y with y | y | y <;> (intro c; cases c))) ?_ h
  clear h
  intro i o_ h
  dsimp only [spec_IsName_l1] at h
  rcases it_some h with ⟨hk4, h⟩ | ⟨hk4, h⟩
  · try simp only [go_sem, n1, n2, n3, n4] at hk4
    all_goals
    obtain ⟨hk5, h⟩ := ck_some h
    try simp only [go_sem, n1, n2, n3, n4, hk4] at hk5
    all_goals
    obtain ⟨y_6, hk6, h⟩ := bd_some h
    have fhk6 := Fs_spec_l01Small hk6
    try simp only [go_sem, hk4, hk5] at fhk6
    obtain ⟨hk7, h⟩ := ck_some h
    rcases or_split hk7 with ⟨ghk7, hk7⟩ | ghk7
    · try simp only [go_sem, n1, n2, n3, n4, hk4, hk5] at ghk7
      all_goals
      obtain ⟨y_7, hhk7⟩ := Option.isSome_iff_exists.1 hk7
      have fhk7 := Fs_spec_l01Digit hhk7
      try simp only [go_sem, hk4, hk5, ghk7] at fhk7
      rcases it_some h with ⟨hk8, h⟩ | ⟨hk8, h⟩
      · try simp only [go_sem, n1, n2, n3, n4, hk4, hk5, ghk7, hhk7] at hk8
        all_goals
        obtain rfl := so_some h
        refine ⟨0, fun L hL => ?_⟩
        simp only [go_sem, ir94, E_spec_IsName_l1, R_spec_IsName_l1, ir94_b0, ir94_k0, ir94_o0, ir94_r0, hk4, hk5, fhk6, ghk7, hhk7, fhk7, hk8]
      · try simp only [go_sem, n1, n2, n3, n4, hk4, hk5, ghk7, hhk7] at hk8
        all_goals
        obtain rfl := so_some h
        refine ⟨0, fun L hL => ?_⟩
        simp only [go_sem, ir94, E_spec_IsName_l1, R_spec_IsName_l1, ir94_b0, ir94_k0, ir94_o0, ir94_r0, hk4, hk5, fhk6, ghk7, hhk7, fhk7, hk8]
    · have ghk7n := no_f ghk7
      try simp only [go_sem, n1, n2, n3, n4, hk4, hk5] at ghk7n
      all_goals
      rcases it_some h with ⟨hk8, h⟩ | ⟨hk8, h⟩
      · try simp only [go_sem, n1, n2, n3, n4, hk4, hk5, ghk7n] at hk8
        all_goals
        obtain rfl := so_some h
        refine ⟨0, fun L hL => ?_⟩
        simp only [go_sem, ir94, E_spec_IsName_l1, R_spec_IsName_l1, ir94_b0, ir94_k0, ir94_o0, ir94_r0, hk4, hk5, fhk6, ghk7n, hk8]
      · try simp only [go_sem, n1, n2, n3, n4, hk4, hk5, ghk7n] at hk8
        all_goals
        obtain rfl := so_some h
        refine ⟨0, fun L hL => ?_⟩
        simp only [go_sem, ir94, E_spec_IsName_l1, R_spec_IsName_l1, ir94_b0, ir94_k0, ir94_o0, ir94_r0, hk4, hk5, fhk6, ghk7n, hk8]
  · try simp only [go_sem, n1, n2, n3, n4] at hk4
    all_goals
    obtain rfl := so_some h
    refine ⟨0, fun L hL => ?_⟩
    simp only [go_sem, ir94, E_spec_IsName_l1, R_spec_IsName_l1, ir94_b0, ir94_k0, ir94_o0, ir94_r0, hk4]

theorem Fs_spec_IsName {s_ : List UInt8} {y_ : Bool} (h : spec_IsName s_ = some y_) : c_spec_IsName.F [.str s_] = ⟨true, .bool y_, [.any]⟩ := by
  refine mkF_E rfl ?_
  dsimp only [spec_IsName] at h
  obtain ⟨hk1, h⟩ := ck_some h
  rcases or_split hk1 with ⟨ghk1, hk1⟩ | ghk1
  · try simp only [go_sem, n1, n2, n3, n4] at ghk1
    all_goals
    try simp only [go_sem, n1, n2, n3, n4, ghk1] at hk1
    all_goals
    obtain ⟨hk2, h⟩ := ck_some h
    rcases or_split hk2 with ⟨ghk2, hk2⟩ | ghk2
    · try simp only [go_sem, n1, n2, n3, n4, ghk1, hk1] at ghk2
      all_goals
      obtain ⟨y_2, hhk2⟩ := Option.isSome_iff_exists.1 hk2
      have fhk2 := Fs_spec_l01Small hhk2
      try simp only [go_sem, ghk1, hk1, ghk2] at fhk2
      rcases it_some h with ⟨hk3, h⟩ | ⟨hk3, h⟩
      · try simp only [go_sem, n1, n2, n3, n4, ghk1, hk1, ghk2, hhk2] at hk3
        all_goals
        obtain rfl := so_some h
        refine ⟨0, fun L hL => ?_⟩
        simp only [go_sem, ir94, E_spec_IsName_l1, R_spec_IsName_l1, ir94_k0, ir94_o0, ir94_r0, ghk1, hk1, ghk2, hhk2, fhk2, hk3]
      · try simp only [go_sem, n1, n2, n3, n4, ghk1, hk1, ghk2, hhk2] at hk3
        all_goals
        obtain ⟨y_9, hk9, h⟩ := bd_some h
        obtain ⟨Lhk9, ehk9⟩ := spec_IsName_l1_ex hk9
        rcases y_9 with y_9a | y_9b
        · dsimp only at h
          obtain rfl := so_some h
          refine ⟨Lhk9, fun L hL => ?_⟩
          have ehk9 := ehk9 L (by omega)
          try simp only [go_sem, E_spec_IsName_l1, R_spec_IsName_l1, ir94_k0, ir94_o0, ir94_r0, ghk1, hk1, ghk2, hhk2, hk3] at ehk9
          simp only [go_sem, ir94, E_spec_IsName_l1, R_spec_IsName_l1, ir94_k0, ir94_o0, ir94_r0, ghk1, hk1, ghk2, hhk2, fhk2, hk3, ehk9]
        · dsimp only at h
          obtain rfl := so_some h
          refine ⟨Lhk9, fun L hL => ?_⟩
          have ehk9 := ehk9 L (by omega)
          try simp only [go_sem, E_spec_IsName_l1, R_spec_IsName_l1, ir94_k0, ir94_o0, ir94_r0, ghk1, hk1, ghk2, hhk2, hk3] at ehk9
          simp only [go_sem, ir94, E_spec_IsName_l1, R_spec_IsName_l1, ir94_k0, ir94_o0, ir94_r0, ghk1, hk1, ghk2, hhk2, fhk2, hk3, ehk9]
    · have ghk2n := no_f ghk2
      rcases or_t ghk2n with ghk2na | ⟨ghk2na, ghk2nb⟩
      · try simp only [go_sem, n1, n2, n3, n4, ghk1, hk1] at ghk2na
        all_goals
        rcases it_some h with ⟨hk3, h⟩ | ⟨hk3, h⟩
        · try simp only [go_sem, n1, n2, n3, n4, ghk1, hk1, ghk2na] at hk3
          all_goals
          obtain rfl := so_some h
          refine ⟨0, fun L hL => ?_⟩
          simp only [go_sem, ir94, E_spec_IsName_l1, R_spec_IsName_l1, ir94_k0, ir94_o0, ir94_r0, ghk1, hk1, ghk2na, hk3]
        · try simp only [go_sem, n1, n2, n3, n4, ghk1, hk1, ghk2na] at hk3
          all_goals
          obtain ⟨y_9, hk9, h⟩ := bd_some h
          obtain ⟨Lhk9, ehk9⟩ := spec_IsName_l1_ex hk9
          rcases y_9 with y_9a | y_9b
          · dsimp only at h
            obtain rfl := so_some h
            refine ⟨Lhk9, fun L hL => ?_⟩
            have ehk9 := ehk9 L (by omega)
            try simp only [go_sem, E_spec_IsName_l1, R_spec_IsName_l1, ir94_k0, ir94_o0, ir94_r0, ghk1, hk1, ghk2na, hk3] at ehk9
            simp only [go_sem, ir94, E_spec_IsName_l1, R_spec_IsName_l1, ir94_k0, ir94_o0, ir94_r0, ghk1, hk1, ghk2na, hk3, ehk9]
          · dsimp only at h
            obtain rfl := so_some h
            refine ⟨Lhk9, fun L hL => ?_⟩
            have ehk9 := ehk9 L (by omega)
            try simp only [go_sem, E_spec_IsName_l1, R_spec_IsName_l1, ir94_k0, ir94_o0, ir94_r0, ghk1, hk1, ghk2na, hk3] at ehk9
            simp only [go_sem, ir94, E_spec_IsName_l1, R_spec_IsName_l1, ir94_k0, ir94_o0, ir94_r0, ghk1, hk1, ghk2na, hk3, ehk9]
      · try simp only [go_sem, n1, n2, n3, n4, ghk1, hk1] at ghk2na
        all_goals
        try simp only [go_sem, n1, n2, n3, n4, ghk1, hk1, ghk2na] at ghk2nb
        all_goals
        rcases it_some h with ⟨hk3, h⟩ | ⟨hk3, h⟩
        · try simp only [go_sem, n1, n2, n3, n4, ghk1, hk1, ghk2na, ghk2nb] at hk3
          all_goals
          obtain rfl := so_some h
          refine ⟨0, fun L hL => ?_⟩
          simp only [go_sem, ir94, E_spec_IsName_l1, R_spec_IsName_l1, ir94_k0, ir94_o0, ir94_r0, ghk1, hk1, ghk2na, ghk2nb, hk3]
        · try simp only [go_sem, n1, n2, n3, n4, ghk1, hk1, ghk2na, ghk2nb] at hk3
          all_goals
          obtain ⟨y_9, hk9, h⟩ := bd_some h
          obtain ⟨Lhk9, ehk9⟩ := spec_IsName_l1_ex hk9
          rcases y_9 with y_9a | y_9b
          · dsimp only at h
            obtain rfl := so_some h
            refine ⟨Lhk9, fun L hL => ?_⟩
            have ehk9 := ehk9 L (by omega)
            try simp only [go_sem, E_spec_IsName_l1, R_spec_IsName_l1, ir94_k0, ir94_o0, ir94_r0, ghk1, hk1, ghk2na, ghk2nb, hk3] at ehk9
            simp only [go_sem, ir94, E_spec_IsName_l1, R_spec_IsName_l1, ir94_k0, ir94_o0, ir94_r0, ghk1, hk1, ghk2na, ghk2nb, hk3, ehk9]
          · dsimp only at h
            obtain rfl := so_some h
            refine ⟨Lhk9, fun L hL => ?_⟩
            have ehk9 := ehk9 L (by omega)
            try simp only [go_sem, E_spec_IsName_l1, R_spec_IsName_l1, ir94_k0, ir94_o0, ir94_r0, ghk1, hk1, ghk2na, ghk2nb, hk3] at ehk9
            simp only [go_sem, ir94, E_spec_IsName_l1, R_spec_IsName_l1, ir94_k0, ir94_o0, ir94_r0, ghk1, hk1, ghk2na, ghk2nb, hk3, ehk9]
  · have ghk1n := no_f ghk1
    rcases or_t ghk1n with ghk1na | ⟨ghk1na, ghk1nb⟩
    · try simp only [go_sem, n1, n2, n3, n4] at ghk1na
      all_goals
      obtain ⟨hk2, h⟩ := ck_some h
      rcases or_split hk2 with ⟨ghk2, hk2⟩ | ghk2
      · try simp only [go_sem, n1, n2, n3, n4, ghk1na] at ghk2
        all_goals
        obtain ⟨y_2, hhk2⟩ := Option.isSome_iff_exists.1 hk2
        have fhk2 := Fs_spec_l01Small hhk2
        try simp only [go_sem, ghk1na, ghk2] at fhk2
        rcases it_some h with ⟨hk3, h⟩ | ⟨hk3, h⟩
        · try simp only [go_sem, n1, n2, n3, n4, ghk1na, ghk2, hhk2] at hk3
          all_goals
          obtain rfl := so_some h
          refine ⟨0, fun L hL => ?_⟩
          simp only [go_sem, ir94, E_spec_IsName_l1, R_spec_IsName_l1, ir94_k0, ir94_o0, ir94_r0, ghk1na, ghk2, hhk2, fhk2, hk3]
        · try simp only [go_sem, n1, n2, n3, n4, ghk1na, ghk2, hhk2] at hk3
          all_goals
          obtain ⟨y_9, hk9, h⟩ := bd_some h
          obtain ⟨Lhk9, ehk9⟩ := spec_IsName_l1_ex hk9
          rcases y_9 with y_9a | y_9b
          · dsimp only at h
            obtain rfl := so_some h
            refine ⟨Lhk9, fun L hL => ?_⟩
            have ehk9 := ehk9 L (by omega)
            try simp only [go_sem, E_spec_IsName_l1, R_spec_IsName_l1, ir94_k0, ir94_o0, ir94_r0, ghk1na, ghk2, hhk2, hk3] at ehk9
            simp only [go_sem, ir94, E_spec_IsName_l1, R_spec_IsName_l1, ir94_k0, ir94_o0, ir94_r0, ghk1na, ghk2, hhk2, fhk2, hk3, ehk9]
          · dsimp only at h
            obtain rfl := so_some h
            refine ⟨Lhk9, fun L hL => ?_⟩
            have ehk9 := ehk9 L (by omega)
            try simp only [go_sem, E_spec_IsName_l1, R_spec_IsName_l1, ir94_k0, ir94_o0, ir94_r0, ghk1na, ghk2, hhk2, hk3] at ehk9
            simp only [go_sem, ir94, E_spec_IsName_l1, R_spec_IsName_l1, ir94_k0, ir94_o0, ir94_r0, ghk1na, ghk2, hhk2, fhk2, hk3, ehk9]
      · have ghk2n := no_f ghk2
        rcases or_t ghk2n with ghk2na | ⟨ghk2na, ghk2nb⟩
        · try simp only [go_sem, n1, n2, n3, n4, ghk1na] at ghk2na
          all_goals
          rcases it_some h with ⟨hk3, h⟩ | ⟨hk3, h⟩
          · try simp only [go_sem, n1, n2, n3, n4, ghk1na, ghk2na] at hk3
            all_goals
            obtain rfl := so_some h
            refine ⟨0, fun L hL => ?_⟩
            simp only [go_sem, ir94, E_spec_IsName_l1, R_spec_IsName_l1, ir94_k0, ir94_o0, ir94_r0, ghk1na, ghk2na, hk3]
          · try simp only [go_sem, n1, n2, n3, n4, ghk1na, ghk2na] at hk3
            all_goals
            obtain ⟨y_9, hk9, h⟩ := bd_some h
            obtain ⟨Lhk9, ehk9⟩ := spec_IsName_l1_ex hk9
            rcases y_9 with y_9a | y_9b
            · dsimp only at h
              obtain rfl := so_some h
              refine ⟨Lhk9, fun L hL => ?_⟩
              have ehk9 := ehk9 L (by omega)
              try simp only [go_sem, E_spec_IsName_l1, R_spec_IsName_l1, ir94_k0, ir94_o0, ir94_r0, ghk1na, ghk2na, hk3] at ehk9
              simp only [go_sem, ir94, E_spec_IsName_l1, R_spec_IsName_l1, ir94_k0, ir94_o0, ir94_r0, ghk1na, ghk2na, hk3, ehk9]
            · dsimp only at h
              obtain rfl := so_some h
              refine ⟨Lhk9, fun L hL => ?_⟩
              have ehk9 := ehk9 L (by omega)
              try simp only [go_sem, E_spec_IsName_l1, R_spec_IsName_l1, ir94_k0, ir94_o0, ir94_r0, ghk1na, ghk2na, hk3] at ehk9
              simp only [go_sem, ir94, E_spec_IsName_l1, R_spec_IsName_l1, ir94_k0, ir94_o0, ir94_r0, ghk1na, ghk2na, hk3, ehk9]
        · try simp only [go_sem, n1, n2, n3, n4, ghk1na] at ghk2na
          all_goals
          try simp only [go_sem, n1, n2, n3, n4, ghk1na, ghk2na] at ghk2nb
          all_goals
          rcases it_some h with ⟨hk3, h⟩ | ⟨hk3, h⟩
          · try simp only [go_sem, n1, n2, n3, n4, ghk1na, ghk2na, ghk2nb] at hk3
            all_goals
            obtain rfl := so_some h
            refine ⟨0, fun L hL => ?_⟩
            simp only [go_sem, ir94, E_spec_IsName_l1, R_spec_IsName_l1, ir94_k0, ir94_o0, ir94_r0, ghk1na, ghk2na, ghk2nb, hk3]
          · try simp only [go_sem, n1, n2, n3, n4, ghk1na, ghk2na, ghk2nb] at hk3
            all_goals
            obtain ⟨y_9, hk9, h⟩ := bd_some h
            obtain ⟨Lhk9, ehk9⟩ := spec_IsName_l1_ex hk9
            rcases y_9 with y_9a | y_9b
            · dsimp only at h
              obtain rfl := so_some h
              refine ⟨Lhk9, fun L hL => ?_⟩
              have ehk9 := ehk9 L (by omega)
              try simp only [go_sem, E_spec_IsName_l1, R_spec_IsName_l1, ir94_k0, ir94_o0, ir94_r0, ghk1na, ghk2na, ghk2nb, hk3] at ehk9
              simp only [go_sem, ir94, E_spec_IsName_l1, R_spec_IsName_l1, ir94_k0, ir94_o0, ir94_r0, ghk1na, ghk2na, ghk2nb, hk3, ehk9]
            · dsimp only at h
              obtain rfl := so_some h
              refine ⟨Lhk9, fun L hL => ?_⟩
              have ehk9 := ehk9 L (by omega)
              try simp only [go_sem, E_spec_IsName_l1, R_spec_IsName_l1, ir94_k0, ir94_o0, ir94_r0, ghk1na, ghk2na, ghk2nb, hk3] at ehk9
              simp only [go_sem, ir94, E_spec_IsName_l1, R_spec_IsName_l1, ir94_k0, ir94_o0, ir94_r0, ghk1na, ghk2na, ghk2nb, hk3, ehk9]
    · try simp only [go_sem, n1, n2, n3, n4] at ghk1na
      all_goals
      try simp only [go_sem, n1, n2, n3, n4, ghk1na] at ghk1nb
      all_goals
      obtain ⟨hk2, h⟩ := ck_some h
      rcases or_split hk2 with ⟨ghk2, hk2⟩ | ghk2
      · try simp only [go_sem, n1, n2, n3, n4, ghk1na, ghk1nb] at ghk2
        all_goals
        obtain ⟨y_2, hhk2⟩ := Option.isSome_iff_exists.1 hk2
        have fhk2 := Fs_spec_l01Small hhk2
        try simp only [go_sem, ghk1na, ghk1nb, ghk2] at fhk2
        rcases it_some h with ⟨hk3, h⟩ | ⟨hk3, h⟩
        · try simp only [go_sem, n1, n2, n3, n4, ghk1na, ghk1nb, ghk2, hhk2] at hk3
          all_goals
          obtain rfl := so_some h
          refine ⟨0, fun L hL => ?_⟩
          simp only [go_sem, ir94, E_spec_IsName_l1, R_spec_IsName_l1, ir94_k0, ir94_o0, ir94_r0, ghk1na, ghk1nb, ghk2, hhk2, fhk2, hk3]
        · try simp only [go_sem, n1, n2, n3, n4, ghk1na, ghk1nb, ghk2, hhk2] at hk3
          all_goals
          obtain ⟨y_9, hk9, h⟩ := bd_some h
          obtain ⟨Lhk9, ehk9⟩ := spec_IsName_l1_ex hk9
          rcases y_9 with y_9a | y_9b
          · dsimp only at h
            obtain rfl := so_some h
            refine ⟨Lhk9, fun L hL => ?_⟩
            have ehk9 := ehk9 L (by omega)
            try simp only [go_sem, E_spec_IsName_l1, R_spec_IsName_l1, ir94_k0, ir94_o0, ir94_r0, ghk1na, ghk1nb, ghk2, hhk2, hk3] at ehk9
            simp only [go_sem, ir94, E_spec_IsName_l1, R_spec_IsName_l1, ir94_k0, ir94_o0, ir94_r0, ghk1na, ghk1nb, ghk2, hhk2, fhk2, hk3, ehk9]
          · dsimp only at h
            obtain rfl := so_some h
            refine ⟨Lhk9, fun L hL => ?_⟩
            have ehk9 := ehk9 L (by omega)
            try simp only [go_sem, E_spec_IsName_l1, R_spec_IsName_l1, ir94_k0, ir94_o0, ir94_r0, ghk1na, ghk1nb, ghk2, hhk2, hk3] at ehk9
            simp only [go_sem, ir94, E_spec_IsName_l1, R_spec_IsName_l1, ir94_k0, ir94_o0, ir94_r0, ghk1na, ghk1nb, ghk2, hhk2, fhk2, hk3, ehk9]
      · have ghk2n := no_f ghk2
        rcases or_t ghk2n with ghk2na | ⟨ghk2na, ghk2nb⟩
        · try simp only [go_sem, n1, n2, n3, n4, ghk1na, ghk1nb] at ghk2na
          all_goals
          rcases it_some h with ⟨hk3, h⟩ | ⟨hk3, h⟩
          · try simp only [go_sem, n1, n2, n3, n4, ghk1na, ghk1nb, ghk2na] at hk3
            all_goals
            obtain rfl := so_some h
            refine ⟨0, fun L hL => ?_⟩
            simp only [go_sem, ir94, E_spec_IsName_l1, R_spec_IsName_l1, ir94_k0, ir94_o0, ir94_r0, ghk1na, ghk1nb, ghk2na, hk3]
          · try simp only [go_sem, n1, n2, n3, n4, ghk1na, ghk1nb, ghk2na] at hk3
            all_goals
            obtain ⟨y_9, hk9, h⟩ := bd_some h
            obtain ⟨Lhk9, ehk9⟩ := spec_IsName_l1_ex hk9
            rcases y_9 with y_9a | y_9b
            · dsimp only at h
              obtain rfl := so_some h
              refine ⟨Lhk9, fun L hL => ?_⟩
              have ehk9 := ehk9 L (by omega)
              try simp only [go_sem, E_spec_IsName_l1, R_spec_IsName_l1, ir94_k0, ir94_o0, ir94_r0, ghk1na, ghk1nb, ghk2na, hk3] at ehk9
              simp only [go_sem, ir94, E_spec_IsName_l1, R_spec_IsName_l1, ir94_k0, ir94_o0, ir94_r0, ghk1na, ghk1nb, ghk2na, hk3, ehk9]
            · dsimp only at h
              obtain rfl := so_some h
              refine ⟨Lhk9, fun L hL => ?_⟩
              have ehk9 := ehk9 L (by omega)
              try simp only [go_sem, E_spec_IsName_l1, R_spec_IsName_l1, ir94_k0, ir94_o0, ir94_r0, ghk1na, ghk1nb, ghk2na, hk3] at ehk9
              simp only [go_sem, ir94, E_spec_IsName_l1, R_spec_IsName_l1, ir94_k0, ir94_o0, ir94_r0, ghk1na, ghk1nb, ghk2na, hk3, ehk9]
        · try simp only [go_sem, n1, n2, n3, n4, ghk1na, ghk1nb] at ghk2na
          all_goals
          try simp only [go_sem, n1, n2, n3, n4, ghk1na, ghk1nb, ghk2na] at ghk2nb
          all_goals
          rcases it_some h with ⟨hk3, h⟩ | ⟨hk3, h⟩
          · try simp only [go_sem, n1, n2, n3, n4, ghk1na, ghk1nb, ghk2na, ghk2nb] at hk3
            all_goals
            obtain rfl := so_some h
            refine ⟨0, fun L hL => ?_⟩
            simp only [go_sem, ir94, E_spec_IsName_l1, R_spec_IsName_l1, ir94_k0, ir94_o0, ir94_r0, ghk1na, ghk1nb, ghk2na, ghk2nb, hk3]
          · try simp only [go_sem, n1, n2, n3, n4, ghk1na, ghk1nb, ghk2na, ghk2nb] at hk3
            all_goals
            obtain ⟨y_9, hk9, h⟩ := bd_some h
            obtain ⟨Lhk9, ehk9⟩ := spec_IsName_l1_ex hk9
            rcases y_9 with y_9a | y_9b
            · dsimp only at h
              obtain rfl := so_some h
              refine ⟨Lhk9, fun L hL => ?_⟩
              have ehk9 := ehk9 L (by omega)
              try simp only [go_sem, E_spec_IsName_l1, R_spec_IsName_l1, ir94_k0, ir94_o0, ir94_r0, ghk1na, ghk1nb, ghk2na, ghk2nb, hk3] at ehk9
              simp only [go_sem, ir94, E_spec_IsName_l1, R_spec_IsName_l1, ir94_k0, ir94_o0, ir94_r0, ghk1na, ghk1nb, ghk2na, ghk2nb, hk3, ehk9]
            · dsimp only at h
              obtain rfl := so_some h
              refine ⟨Lhk9, fun L hL => ?_⟩
              have ehk9 := ehk9 L (by omega)
              try simp only [go_sem, E_spec_IsName_l1, R_spec_IsName_l1, ir94_k0, ir94_o0, ir94_r0, ghk1na, ghk1nb, ghk2na, ghk2nb, hk3] at ehk9
              simp only [go_sem, ir94, E_spec_IsName_l1, R_spec_IsName_l1, ir94_k0, ir94_o0, ir94_r0, ghk1na, ghk1nb, ghk2na, ghk2nb, hk3, ehk9]


def ir95_v : List Nat := [0, 2]
def ir95 : AFn := ⟨1, 2, .seq (.region false [
    ⟨.var 1, 2, none, .mov (.c (.bool false))⟩])
 (.seq (.region false [
    ⟨.push, 3, none, .mov (.v 0)⟩,
    ⟨.push, 4, none, .call 38 [(.s 0), (.c (.int .i64 (-2000))), (.c (.int .i64 (20000)))]⟩,
    ⟨.var 1, 2, none, .mov (.s 0)⟩])
 (.ret)), [.t 1]⟩
noncomputable def t_spec_l02Mag : List (Nat × Ctr) := [(38, c_spec_l00In)]
theorem lk_spec_l02Mag_38 : look t_spec_l02Mag 38 = some c_spec_l00In := rfl
noncomputable def c_spec_l02Mag : Ctr := mkF t_spec_l02Mag ir95 [.bor]
theorem s_spec_l02Mag : Sound Try.prog 95 c_spec_l02Mag := mkF_sound _ rfl (snd_cons s_spec_l00In snd_nil) (by kernel_rfl : chkFn Try.prog 95 ir95 ir95_v = true)
theorem M_spec_l02Mag : c_spec_l02Mag.modes = [.bor] := rfl
theorem Fl_spec_l02Mag : c_spec_l02Mag.flat = true := rfl
attribute [go_sem] M_spec_l02Mag Fl_spec_l02Mag
attribute [go_sem] lk_spec_l02Mag_38
theorem Fs_spec_l02Mag {m : Int} {y_ : Bool} (h : spec_l02Mag m = some y_) : c_spec_l02Mag.F [.int .i64 m] = ⟨true, .bool y_, [.any]⟩ := by
  refine mkF_E rfl ?_
  dsimp only [spec_l02Mag] at h
  obtain ⟨y_1, hk1, h⟩ := bd_some h
  have fhk1 := Fs_spec_l00In hk1
  try simp only [go_sem] at fhk1
  obtain rfl := so_some h
  refine ⟨0, fun L hL => ?_⟩
  simp only [go_sem, ir95, fhk1]


def ir61_v : List Nat := [0, 2]
def ir61 : AFn := ⟨1, 2, .seq (.region false [
    ⟨.var 1, 2, none, .mov (.c (.bool false))⟩])
 (.seq (.region false [
    ⟨.push, 3, none, .mov (.v 0)⟩,
    ⟨.push, 4, none, .nilck (.s 0)⟩,
    ⟨.push, 5, none, .fldAddr 0 (.s 0)⟩,
    ⟨.push, 6, none, .load false 1 (.s 0)⟩,
    ⟨.push, 7, none, .call 93 [(.s 0)]⟩,
    ⟨.push, 8, none, .mov (.s 0)⟩,
    ⟨.push, 9, (some ((.s 0), true)), .mov (.v 0)⟩,
    ⟨.push, 10, (some ((.s 1), true)), .nilck (.s 0)⟩,
    ⟨.push, 11, (some ((.s 2), true)), .fldAddr 1 (.s 0)⟩,
    ⟨.push, 12, (some ((.s 3), true)), .load false 1 (.s 0)⟩,
    ⟨.push, 13, (some ((.s 4), true)), .call 94 [(.s 0)]⟩,
    ⟨.push, 14, none, .pick (.s 5) (.s 0) (.c (.bool false))⟩,
    ⟨.push, 15, none, .mov (.s 0)⟩,
    ⟨.push, 16, (some ((.s 0), true)), .mov (.v 0)⟩,
    ⟨.push, 17, (some ((.s 1), true)), .nilck (.s 0)⟩,
    ⟨.push, 18, (some ((.s 2), true)), .fldAddr 2 (.s 0)⟩,
    ⟨.push, 19, (some ((.s 3), true)), .load false 1 (.s 0)⟩,
    ⟨.push, 20, (some ((.s 4), true)), .call 94 [(.s 0)]⟩,
    ⟨.push, 21, none, .pick (.s 5) (.s 0) (.c (.bool false))⟩,
    ⟨.push, 22, none, .mov (.s 0)⟩,
    ⟨.push, 23, (some ((.s 0), true)), .mov (.v 0)⟩,
    ⟨.push, 24, (some ((.s 1), true)), .nilck (.s 0)⟩,
    ⟨.push, 25, (some ((.s 2), true)), .fldAddr 3 (.s 0)⟩,
    ⟨.push, 26, (some ((.s 3), true)), .load false 1 (.s 0)⟩,
    ⟨.push, 27, (some ((.s 4), true)), .call 95 [(.s 0)]⟩,
    ⟨.push, 28, none, .pick (.s 5) (.s 0) (.c (.bool false))⟩,
    ⟨.var 1, 2, none, .mov (.s 0)⟩])
 (.ret)), [.t 1]⟩
noncomputable def t_spec_l06One : List (Nat × Ctr) := [(93, c_spec_l06Time), (94, c_spec_IsName), (95, c_spec_l02Mag)]
theorem lk_spec_l06One_93 : look t_spec_l06One 93 = some c_spec_l06Time := rfl
theorem lk_spec_l06One_94 : look t_spec_l06One 94 = some c_spec_IsName := rfl
theorem lk_spec_l06One_95 : look t_spec_l06One 95 = some c_spec_l02Mag := rfl
noncomputable def c_spec_l06One : Ctr := mkF t_spec_l06One ir61 [.bor]
theorem s_spec_l06One : Sound Try.prog 61 c_spec_l06One := mkF_sound _ rfl (snd_cons s_spec_l06Time (snd_cons s_spec_IsName (snd_cons s_spec_l02Mag snd_nil))) (by kernel_rfl : chkFn Try.prog 61 ir61 ir61_v = true)
theorem M_spec_l06One : c_spec_l06One.modes = [.bor] := rfl
theorem Fl_spec_l06One : c_spec_l06One.flat = true := rfl
attribute [go_sem] M_spec_l06One Fl_spec_l06One
attribute [go_sem] lk_spec_l06One_93 lk_spec_l06One_94 lk_spec_l06One_95
theorem Fs_spec_l06One {e_ : Estimate} {y_ : Bool} (h : spec_l06One e_ = some y_) : c_spec_l06One.F [.ptr 5 [Estimate_av e_] 0 0] = ⟨true, .bool y_, [.any]⟩ := by
  refine mkF_E rfl ?_
  dsimp only [spec_l06One] at h
  obtain ⟨y_1, hk1, h⟩ := bd_some h
  have fhk1 := Fs_spec_l06Time hk1
  try simp only [go_sem] at fhk1
  obtain ⟨hk2, h⟩ := ck_some h
  rcases or_split hk2 with ⟨ghk2, hk2⟩ | ghk2
  · try simp only [go_sem, n1, n2, n3, n4] at ghk2
    all_goals
    obtain ⟨y_2, hhk2⟩ := Option.isSome_iff_exists.1 hk2
    have fhk2 := Fs_spec_IsName hhk2
    try simp only [go_sem, ghk2] at fhk2
    obtain ⟨hk3, h⟩ := ck_some h
    rcases or_split hk3 with ⟨ghk3, hk3⟩ | ghk3
    · try simp only [go_sem, n1, n2, n3, n4, ghk2, hhk2] at ghk3
      all_goals
      obtain ⟨y_3, hhk3⟩ := Option.isSome_iff_exists.1 hk3
      have fhk3 := Fs_spec_IsName hhk3
      try simp only [go_sem, ghk2, hhk2, ghk3] at fhk3
      obtain ⟨hk4, h⟩ := ck_some h
      rcases or_split hk4 with ⟨ghk4, hk4⟩ | ghk4
      · try simp only [go_sem, n1, n2, n3, n4, ghk2, hhk2, ghk3, hhk3] at ghk4
        all_goals
        obtain ⟨y_4, hhk4⟩ := Option.isSome_iff_exists.1 hk4
        have fhk4 := Fs_spec_l02Mag hhk4
        try simp only [go_sem, ghk2, hhk2, ghk3, hhk3, ghk4] at fhk4
        obtain rfl := so_some h
        refine ⟨0, fun L hL => ?_⟩
        simp only [go_sem, ir61, fhk1, ghk2, hhk2, fhk2, ghk3, hhk3, fhk3, ghk4, hhk4, fhk4]
      · rcases and_f ghk4 with ghk4a | ⟨ghk4a, ghk4b⟩
        · rcases and_f ghk4a with ghk4aa | ⟨ghk4aa, ghk4ab⟩
          · try simp only [go_sem, n1, n2, n3, n4, ghk2, hhk2, ghk3, hhk3] at ghk4aa
            all_goals
            obtain rfl := so_some h
            refine ⟨0, fun L hL => ?_⟩
            simp only [go_sem, ir61, fhk1, ghk2, hhk2, fhk2, ghk3, hhk3, fhk3, ghk4aa]
          · try simp only [go_sem, n1, n2, n3, n4, ghk2, hhk2, ghk3, hhk3] at ghk4aa
            all_goals
            try simp only [go_sem, n1, n2, n3, n4, ghk2, hhk2, ghk3, hhk3, ghk4aa] at ghk4ab
            all_goals
            obtain rfl := so_some h
            refine ⟨0, fun L hL => ?_⟩
            simp only [go_sem, ir61, fhk1, ghk2, hhk2, fhk2, ghk3, hhk3, fhk3, ghk4aa, ghk4ab]
        · obtain ⟨ghk4aa, ghk4ab⟩ := and_t ghk4a
          try simp only [go_sem, n1, n2, n3, n4, ghk2, hhk2, ghk3, hhk3] at ghk4aa
          all_goals
          try simp only [go_sem, n1, n2, n3, n4, ghk2, hhk2, ghk3, hhk3, ghk4aa] at ghk4ab
          all_goals
          try simp only [go_sem, n1, n2, n3, n4, ghk2, hhk2, ghk3, hhk3, ghk4aa, ghk4ab] at ghk4b
          all_goals
          obtain rfl := so_some h
          refine ⟨0, fun L hL => ?_⟩
          simp only [go_sem, ir61, fhk1, ghk2, hhk2, fhk2, ghk3, hhk3, fhk3, ghk4aa, ghk4ab, ghk4b]
    · rcases and_f ghk3 with ghk3a | ⟨ghk3a, ghk3b⟩
      · try simp only [go_sem, n1, n2, n3, n4, ghk2, hhk2] at ghk3a
        all_goals
        obtain ⟨hk4, h⟩ := ck_some h
        rcases or_split hk4 with ⟨ghk4, hk4⟩ | ghk4
        · try simp only [go_sem, n1, n2, n3, n4, ghk2, hhk2, ghk3a] at ghk4
          all_goals
          obtain ⟨y_4, hhk4⟩ := Option.isSome_iff_exists.1 hk4
          have fhk4 := Fs_spec_l02Mag hhk4
          try simp only [go_sem, ghk2, hhk2, ghk3a, ghk4] at fhk4
          obtain rfl := so_some h
          refine ⟨0, fun L hL => ?_⟩
          simp only [go_sem, ir61, fhk1, ghk2, hhk2, fhk2, ghk3a, ghk4, hhk4, fhk4]
        · rcases and_f ghk4 with ghk4a | ⟨ghk4a, ghk4b⟩
          · rcases and_f ghk4a with ghk4aa | ⟨ghk4aa, ghk4ab⟩
            · try simp only [go_sem, n1, n2, n3, n4, ghk2, hhk2, ghk3a] at ghk4aa
              all_goals
              obtain rfl := so_some h
              refine ⟨0, fun L hL => ?_⟩
              simp only [go_sem, ir61, fhk1, ghk2, hhk2, fhk2, ghk3a, ghk4aa]
            · try simp only [go_sem, n1, n2, n3, n4, ghk2, hhk2, ghk3a] at ghk4aa
              all_goals
              try simp only [go_sem, n1, n2, n3, n4, ghk2, hhk2, ghk3a, ghk4aa] at ghk4ab
              all_goals
              obtain rfl := so_some h
              refine ⟨0, fun L hL => ?_⟩
              simp only [go_sem, ir61, fhk1, ghk2, hhk2, fhk2, ghk3a, ghk4aa, ghk4ab]
          · obtain ⟨ghk4aa, ghk4ab⟩ := and_t ghk4a
            try simp only [go_sem, n1, n2, n3, n4, ghk2, hhk2, ghk3a] at ghk4aa
            all_goals
            try simp only [go_sem, n1, n2, n3, n4, ghk2, hhk2, ghk3a, ghk4aa] at ghk4ab
            all_goals
            try simp only [go_sem, n1, n2, n3, n4, ghk2, hhk2, ghk3a, ghk4aa, ghk4ab] at ghk4b
            all_goals
            obtain rfl := so_some h
            refine ⟨0, fun L hL => ?_⟩
            simp only [go_sem, ir61, fhk1, ghk2, hhk2, fhk2, ghk3a, ghk4aa, ghk4ab, ghk4b]
      · try simp only [go_sem, n1, n2, n3, n4, ghk2, hhk2] at ghk3a
        all_goals
        try simp only [go_sem, n1, n2, n3, n4, ghk2, hhk2, ghk3a] at ghk3b
        all_goals
        obtain ⟨hk4, h⟩ := ck_some h
        rcases or_split hk4 with ⟨ghk4, hk4⟩ | ghk4
        · try simp only [go_sem, n1, n2, n3, n4, ghk2, hhk2, ghk3a, ghk3b] at ghk4
          all_goals
          obtain ⟨y_4, hhk4⟩ := Option.isSome_iff_exists.1 hk4
          have fhk4 := Fs_spec_l02Mag hhk4
          try simp only [go_sem, ghk2, hhk2, ghk3a, ghk3b, ghk4] at fhk4
          obtain rfl := so_some h
          refine ⟨0, fun L hL => ?_⟩
          simp only [go_sem, ir61, fhk1, ghk2, hhk2, fhk2, ghk3a, ghk3b, ghk4, hhk4, fhk4]
        · rcases and_f ghk4 with ghk4a | ⟨ghk4a, ghk4b⟩
          · rcases and_f ghk4a with ghk4aa | ⟨ghk4aa, ghk4ab⟩
            · try simp only [go_sem, n1, n2, n3, n4, ghk2, hhk2, ghk3a, ghk3b] at ghk4aa
              all_goals
              obtain rfl := so_some h
              refine ⟨0, fun L hL => ?_⟩
              simp only [go_sem, ir61, fhk1, ghk2, hhk2, fhk2, ghk3a, ghk3b, ghk4aa]
            · try simp only [go_sem, n1, n2, n3, n4, ghk2, hhk2, ghk3a, ghk3b] at ghk4aa
              all_goals
              try simp only [go_sem, n1, n2, n3, n4, ghk2, hhk2, ghk3a, ghk3b, ghk4aa] at ghk4ab
              all_goals
              obtain rfl := so_some h
              refine ⟨0, fun L hL => ?_⟩
              simp only [go_sem, ir61, fhk1, ghk2, hhk2, fhk2, ghk3a, ghk3b, ghk4aa, ghk4ab]
          · obtain ⟨ghk4aa, ghk4ab⟩ := and_t ghk4a
            try simp only [go_sem, n1, n2, n3, n4, ghk2, hhk2, ghk3a, ghk3b] at ghk4aa
            all_goals
            try simp only [go_sem, n1, n2, n3, n4, ghk2, hhk2, ghk3a, ghk3b, ghk4aa] at ghk4ab
            all_goals
            try simp only [go_sem, n1, n2, n3, n4, ghk2, hhk2, ghk3a, ghk3b, ghk4aa, ghk4ab] at ghk4b
            all_goals
            obtain rfl := so_some h
            refine ⟨0, fun L hL => ?_⟩
            simp only [go_sem, ir61, fhk1, ghk2, hhk2, fhk2, ghk3a, ghk3b, ghk4aa, ghk4ab, ghk4b]
  · try simp only [go_sem, n1, n2, n3, n4] at ghk2
    all_goals
    obtain ⟨hk3, h⟩ := ck_some h
    rcases or_split hk3 with ⟨ghk3, hk3⟩ | ghk3
    · try simp only [go_sem, n1, n2, n3, n4, ghk2] at ghk3
      all_goals
      obtain ⟨y_3, hhk3⟩ := Option.isSome_iff_exists.1 hk3
      have fhk3 := Fs_spec_IsName hhk3
      try simp only [go_sem, ghk2, ghk3] at fhk3
      obtain ⟨hk4, h⟩ := ck_some h
      rcases or_split hk4 with ⟨ghk4, hk4⟩ | ghk4
      · try simp only [go_sem, n1, n2, n3, n4, ghk2, ghk3, hhk3] at ghk4
        all_goals
        obtain ⟨y_4, hhk4⟩ := Option.isSome_iff_exists.1 hk4
        have fhk4 := Fs_spec_l02Mag hhk4
        try simp only [go_sem, ghk2, ghk3, hhk3, ghk4] at fhk4
        obtain rfl := so_some h
        refine ⟨0, fun L hL => ?_⟩
        simp only [go_sem, ir61, fhk1, ghk2, ghk3, hhk3, fhk3, ghk4, hhk4, fhk4]
      · rcases and_f ghk4 with ghk4a | ⟨ghk4a, ghk4b⟩
        · rcases and_f ghk4a with ghk4aa | ⟨ghk4aa, ghk4ab⟩
          · try simp only [go_sem, n1, n2, n3, n4, ghk2, ghk3, hhk3] at ghk4aa
            all_goals
            obtain rfl := so_some h
            refine ⟨0, fun L hL => ?_⟩
            simp only [go_sem, ir61, fhk1, ghk2, ghk3, hhk3, fhk3, ghk4aa]
          · try simp only [go_sem, n1, n2, n3, n4, ghk2, ghk3, hhk3] at ghk4aa
            all_goals
            try simp only [go_sem, n1, n2, n3, n4, ghk2, ghk3, hhk3, ghk4aa] at ghk4ab
            all_goals
            obtain rfl := so_some h
            refine ⟨0, fun L hL => ?_⟩
            simp only [go_sem, ir61, fhk1, ghk2, ghk3, hhk3, fhk3, ghk4aa, ghk4ab]
        · obtain ⟨ghk4aa, ghk4ab⟩ := and_t ghk4a
          try simp only [go_sem, n1, n2, n3, n4, ghk2, ghk3, hhk3] at ghk4aa
          all_goals
          try simp only [go_sem, n1, n2, n3, n4, ghk2, ghk3, hhk3, ghk4aa] at ghk4ab
          all_goals
          try simp only [go_sem, n1, n2, n3, n4, ghk2, ghk3, hhk3, ghk4aa, ghk4ab] at ghk4b
          all_goals
          obtain rfl := so_some h
          refine ⟨0, fun L hL => ?_⟩
          simp only [go_sem, ir61, fhk1, ghk2, ghk3, hhk3, fhk3, ghk4aa, ghk4ab, ghk4b]
    · rcases and_f ghk3 with ghk3a | ⟨ghk3a, ghk3b⟩
      · try simp only [go_sem, n1, n2, n3, n4, ghk2] at ghk3a
        all_goals
        obtain ⟨hk4, h⟩ := ck_some h
        rcases or_split hk4 with ⟨ghk4, hk4⟩ | ghk4
        · try simp only [go_sem, n1, n2, n3, n4, ghk2, ghk3a] at ghk4
          all_goals
          obtain ⟨y_4, hhk4⟩ := Option.isSome_iff_exists.1 hk4
          have fhk4 := Fs_spec_l02Mag hhk4
          try simp only [go_sem, ghk2, ghk3a, ghk4] at fhk4
          obtain rfl := so_some h
          refine ⟨0, fun L hL => ?_⟩
          simp only [go_sem, ir61, fhk1, ghk2, ghk3a, ghk4, hhk4, fhk4]
        · rcases and_f ghk4 with ghk4a | ⟨ghk4a, ghk4b⟩
          · rcases and_f ghk4a with ghk4aa | ⟨ghk4aa, ghk4ab⟩
            · try simp only [go_sem, n1, n2, n3, n4, ghk2, ghk3a] at ghk4aa
              all_goals
              obtain rfl := so_some h
              refine ⟨0, fun L hL => ?_⟩
              simp only [go_sem, ir61, fhk1, ghk2, ghk3a, ghk4aa]
            · try simp only [go_sem, n1, n2, n3, n4, ghk2, ghk3a] at ghk4aa
              all_goals
              try simp only [go_sem, n1, n2, n3, n4, ghk2, ghk3a, ghk4aa] at ghk4ab
              all_goals
              obtain rfl := so_some h
              refine ⟨0, fun L hL => ?_⟩
              simp only [go_sem, ir61, fhk1, ghk2, ghk3a, ghk4aa, ghk4ab]
          · obtain ⟨ghk4aa, ghk4ab⟩ := and_t ghk4a
            try simp only [go_sem, n1, n2, n3, n4, ghk2, ghk3a] at ghk4aa
            all_goals
            try simp only [go_sem, n1, n2, n3, n4, ghk2, ghk3a, ghk4aa] at ghk4ab
            all_goals
            try simp only [go_sem, n1, n2, n3, n4, ghk2, ghk3a, ghk4aa, ghk4ab] at ghk4b
            all_goals
            obtain rfl := so_some h
            refine ⟨0, fun L hL => ?_⟩
            simp only [go_sem, ir61, fhk1, ghk2, ghk3a, ghk4aa, ghk4ab, ghk4b]
      · try simp only [go_sem, n1, n2, n3, n4, ghk2] at ghk3a
        all_goals
        try simp only [go_sem, n1, n2, n3, n4, ghk2, ghk3a] at ghk3b
        all_goals
        obtain ⟨hk4, h⟩ := ck_some h
        rcases or_split hk4 with ⟨ghk4, hk4⟩ | ghk4
        · try simp only [go_sem, n1, n2, n3, n4, ghk2, ghk3a, ghk3b] at ghk4
          all_goals
          obtain ⟨y_4, hhk4⟩ := Option.isSome_iff_exists.1 hk4
          have fhk4 := Fs_spec_l02Mag hhk4
          try simp only [go_sem, ghk2, ghk3a, ghk3b, ghk4] at fhk4
          obtain rfl := so_some h
          refine ⟨0, fun L hL => ?_⟩
          simp only [go_sem, ir61, fhk1, ghk2, ghk3a, ghk3b, ghk4, hhk4, fhk4]
        · rcases and_f ghk4 with ghk4a | ⟨ghk4a, ghk4b⟩
          · rcases and_f ghk4a with ghk4aa | ⟨ghk4aa, ghk4ab⟩
            · try simp only [go_sem, n1, n2, n3, n4, ghk2, ghk3a, ghk3b] at ghk4aa
              all_goals
              obtain rfl := so_some h
              refine ⟨0, fun L hL => ?_⟩
              simp only [go_sem, ir61, fhk1, ghk2, ghk3a, ghk3b, ghk4aa]
            · try simp only [go_sem, n1, n2, n3, n4, ghk2, ghk3a, ghk3b] at ghk4aa
              all_goals
              try simp only [go_sem, n1, n2, n3, n4, ghk2, ghk3a, ghk3b, ghk4aa] at ghk4ab
              all_goals
              obtain rfl := so_some h
              refine ⟨0, fun L hL => ?_⟩
              simp only [go_sem, ir61, fhk1, ghk2, ghk3a, ghk3b, ghk4aa, ghk4ab]
          · obtain ⟨ghk4aa, ghk4ab⟩ := and_t ghk4a
            try simp only [go_sem, n1, n2, n3, n4, ghk2, ghk3a, ghk3b] at ghk4aa
            all_goals
            try simp only [go_sem, n1, n2, n3, n4, ghk2, ghk3a, ghk3b, ghk4aa] at ghk4ab
            all_goals
            try simp only [go_sem, n1, n2, n3, n4, ghk2, ghk3a, ghk3b, ghk4aa, ghk4ab] at ghk4b
            all_goals
            obtain rfl := so_some h
            refine ⟨0, fun L hL => ?_⟩
            simp only [go_sem, ir61, fhk1, ghk2, ghk3a, ghk3b, ghk4aa, ghk4ab, ghk4b]


def ir62_v : List Nat := [0, 1, 4]
def ir62 : AFn := ⟨2, 3, .seq (.region false [
    ⟨.var 2, 4, none, .mov (.c (.bool false))⟩])
 (.seq (.anyo 9 [
    ⟨.slot 0, 5, none, .mov (.v 0)⟩,
    ⟨.slot 1, 6, none, .nilck (.s 0)⟩,
    ⟨.slot 2, 7, none, .fldAddr 0 (.s 1)⟩,
    ⟨.slot 3, 8, none, .load false 1 (.s 2)⟩,
    ⟨.slot 4, 9, none, .mov (.v 1)⟩,
    ⟨.slot 5, 10, none, .nilck (.s 4)⟩,
    ⟨.slot 6, 11, none, .fldAddr 0 (.s 5)⟩,
    ⟨.slot 7, 12, none, .load false 1 (.s 6)⟩,
    ⟨.slot 8, 13, none, .bin false .neq (.s 3) (.s 7)⟩] [] (.cond (.s 8)
  (.seq (.anyo 9 [
      ⟨.slot 0, 14, none, .mov (.v 0)⟩,
      ⟨.slot 1, 15, none, .nilck (.s 0)⟩,
      ⟨.slot 2, 16, none, .fldAddr 0 (.s 1)⟩,
      ⟨.slot 3, 17, none, .load false 1 (.s 2)⟩,
      ⟨.slot 4, 18, none, .mov (.v 1)⟩,
      ⟨.slot 5, 19, none, .nilck (.s 4)⟩,
      ⟨.slot 6, 20, none, .fldAddr 0 (.s 5)⟩,
      ⟨.slot 7, 21, none, .load false 1 (.s 6)⟩,
      ⟨.slot 8, 22, none, .bin false .lss (.s 3) (.s 7)⟩,
      ⟨.var 2, 4, none, .mov (.s 8)⟩] [] .skip)
   (.ret))
  (.skip)))
 (.seq (.anyo 9 [
    ⟨.slot 0, 23, none, .mov (.v 0)⟩,
    ⟨.slot 1, 24, none, .nilck (.s 0)⟩,
    ⟨.slot 2, 25, none, .fldAddr 1 (.s 1)⟩,
    ⟨.slot 3, 26, none, .load false 1 (.s 2)⟩,
    ⟨.slot 4, 27, none, .mov (.v 1)⟩,
    ⟨.slot 5, 28, none, .nilck (.s 4)⟩,
    ⟨.slot 6, 29, none, .fldAddr 1 (.s 5)⟩,
    ⟨.slot 7, 30, none, .load false 1 (.s 6)⟩,
    ⟨.slot 8, 31, none, .bin false .neq (.s 3) (.s 7)⟩] [] (.cond (.s 8)
  (.seq (.anyo 9 [
      ⟨.slot 0, 32, none, .mov (.v 0)⟩,
      ⟨.slot 1, 33, none, .nilck (.s 0)⟩,
      ⟨.slot 2, 34, none, .fldAddr 1 (.s 1)⟩,
      ⟨.slot 3, 35, none, .load false 1 (.s 2)⟩,
      ⟨.slot 4, 36, none, .mov (.v 1)⟩,
      ⟨.slot 5, 37, none, .nilck (.s 4)⟩,
      ⟨.slot 6, 38, none, .fldAddr 1 (.s 5)⟩,
      ⟨.slot 7, 39, none, .load false 1 (.s 6)⟩,
      ⟨.slot 8, 40, none, .bin false .lss (.s 3) (.s 7)⟩,
      ⟨.var 2, 4, none, .mov (.s 8)⟩] [] .skip)
   (.ret))
  (.skip)))
 (.seq (.anyo 9 [
    ⟨.slot 0, 41, none, .mov (.v 0)⟩,
    ⟨.slot 1, 42, none, .nilck (.s 0)⟩,
    ⟨.slot 2, 43, none, .fldAddr 2 (.s 1)⟩,
    ⟨.slot 3, 44, none, .load false 1 (.s 2)⟩,
    ⟨.slot 4, 45, none, .mov (.v 1)⟩,
    ⟨.slot 5, 46, none, .nilck (.s 4)⟩,
    ⟨.slot 6, 47, none, .fldAddr 2 (.s 5)⟩,
    ⟨.slot 7, 48, none, .load false 1 (.s 6)⟩,
    ⟨.slot 8, 49, none, .bin false .lss (.s 3) (.s 7)⟩,
    ⟨.var 2, 4, none, .mov (.s 8)⟩] [] .skip)
 (.ret)))), [.t 2]⟩
noncomputable def t_spec_l06Before : List (Nat × Ctr) := []
noncomputable def c_spec_l06Before : Ctr := mkF t_spec_l06Before ir62 [.bor, .bor]
theorem s_spec_l06Before : Sound Try.prog 62 c_spec_l06Before := mkF_sound _ rfl snd_nil (by kernel_rfl : chkFn Try.prog 62 ir62 ir62_v = true)
theorem M_spec_l06Before : c_spec_l06Before.modes = [.bor, .bor] := rfl
theorem Fl_spec_l06Before : c_spec_l06Before.flat = true := rfl
attribute [go_sem] M_spec_l06Before Fl_spec_l06Before
theorem Fs_spec_l06Before {a : Estimate} {b : Estimate} {y_ : Bool} (h : spec_l06Before a b = some y_) : c_spec_l06Before.F [.ptr 5 [Estimate_av a] 0 0, .ptr 5 [Estimate_av b] 0 0] = ⟨true, .bool y_, [.any, .any]⟩ := by
  refine mkF_E rfl ?_
  dsimp only [spec_l06Before] at h
  rcases it_some h with ⟨hk1, h⟩ | ⟨hk1, h⟩
  · try simp only [go_sem, n1, n2, n3, n4] at hk1
    all_goals
    obtain rfl := so_some h
    refine ⟨0, fun L hL => ?_⟩
    simp only [go_sem, ir62, hk1]
  · try simp only [go_sem, n1, n2, n3, n4] at hk1
    all_goals
    rcases it_some h with ⟨hk2, h⟩ | ⟨hk2, h⟩
    · try simp only [go_sem, n1, n2, n3, n4, hk1] at hk2
      all_goals
      obtain rfl := so_some h
      refine ⟨0, fun L hL => ?_⟩
      simp only [go_sem, ir62, hk1, hk2]
    · try simp only [go_sem, n1, n2, n3, n4, hk1] at hk2
      all_goals
      obtain rfl := so_some h
      refine ⟨0, fun L hL => ?_⟩
      simp only [go_sem, ir62, hk1, hk2]


def ir35_b0 : IR := .seq (.test false [
    ⟨.push, 4, none, .mov (.v 2)⟩,
    ⟨.push, 5, none, .mov (.v 0)⟩,
    ⟨.push, 6, none, .len false (.s 0)⟩,
    ⟨.push, 7, none, .bin false .lss (.s 2) (.s 0)⟩] (.s 0)
  (.skip)
  (.exit 0))
 (.seq (.block 1 (.anyo 20 [
     ⟨.slot 0, 10, none, .mov (.v 0)⟩,
     ⟨.slot 1, 11, none, .mov (.v 2)⟩,
     ⟨.slot 2, 12, none, .ixAddr 5 (.s 0) (.s 1)⟩,
     ⟨.slot 3, 13, none, .callp 61 [(.s 2)]⟩,
     ⟨.slot 4, 14, none, .un .not (.s 3)⟩,
     ⟨.slot 5, 15, none, .mov (.s 4)⟩,
     ⟨.slot 6, 16, (some ((.s 5), false)), .mov (.v 2)⟩,
     ⟨.slot 7, 17, (some ((.s 5), false)), .bin false .gtr (.s 6) (.c (.int .i64 (0)))⟩,
     ⟨.slot 8, 18, (some ((.s 5), false)), .mov (.s 7)⟩,
     ⟨.slot 9, 19, (some ((.s 8), true)), .mov (.v 0)⟩,
     ⟨.slot 10, 20, (some ((.s 8), true)), .mov (.v 2)⟩,
     ⟨.slot 11, 21, (some ((.s 8), true)), .bin false .sub (.s 10) (.c (.int .i64 (1)))⟩,
     ⟨.slot 12, 22, (some ((.s 8), true)), .ixAddr 5 (.s 9) (.s 11)⟩,
     ⟨.slot 13, 23, (some ((.s 8), true)), .mov (.v 0)⟩,
     ⟨.slot 14, 24, (some ((.s 8), true)), .mov (.v 2)⟩,
     ⟨.slot 15, 25, (some ((.s 8), true)), .ixAddr 5 (.s 13) (.s 14)⟩,
     ⟨.slot 16, 26, (some ((.s 8), true)), .call 62 [(.s 12), (.s 15)]⟩,
     ⟨.slot 17, 27, (some ((.s 8), true)), .un .not (.s 16)⟩,
     ⟨.slot 18, 28, (some ((.s 5), false)), .pick (.s 8) (.s 17) (.c (.bool false))⟩,
     ⟨.slot 19, 29, none, .pick (.s 5) (.c (.bool true)) (.s 18)⟩] [] (.cond (.s 19)
   (.seq (.region false [
       ⟨.var 1, 2, none, .mov (.c (.bool false))⟩])
    (.ret))
   (.skip))))
 (.region false [
   ⟨.push, 8, none, .mov (.v 2)⟩,
   ⟨.push, 9, none, .bin false .add (.s 0) (.c (.int .i64 (1)))⟩,
   ⟨.var 2, 3, none, .mov (.s 0)⟩]))
def ir35_k0 : List Bool := [true, false, true]
def ir35_o0 : List Bool := [true, false, false]
def ir35_r0 : List Bool := [false, true, false]
def ir35_v : List Nat := [0, 2, 3]
def ir35 : AFn := ⟨1, 3, .seq (.region false [
    ⟨.var 1, 2, none, .mov (.c (.bool false))⟩])
 (.seq (.seq (.region false [
     ⟨.var 2, 3, none, .mov (.c (.int .i64 (0)))⟩])
  (.block 0 (.loop ir35_k0 ir35_o0 ir35_r0 ir35_b0)))
 (.seq (.region false [
    ⟨.push, 30, none, .mov (.v 0)⟩,
    ⟨.push, 31, none, .len false (.s 0)⟩,
    ⟨.push, 32, none, .bin false .leq (.s 0) (.c (.int .i64 (100)))⟩,
    ⟨.var 1, 2, none, .mov (.s 0)⟩])
 (.ret))), [.t 1]⟩
noncomputable def t_spec_l06Ok : List (Nat × Ctr) := [(61, c_spec_l06One), (62, c_spec_l06Before)]
theorem lk_spec_l06Ok_61 : look t_spec_l06Ok 61 = some c_spec_l06One := rfl
theorem lk_spec_l06Ok_62 : look t_spec_l06Ok 62 = some c_spec_l06Before := rfl
noncomputable def c_spec_l06Ok : Ctr := mkF t_spec_l06Ok ir35 [.bor]
theorem s_spec_l06Ok : Sound Try.prog 35 c_spec_l06Ok := mkF_sound _ rfl (snd_cons s_spec_l06One (snd_cons s_spec_l06Before snd_nil)) (by kernel_rfl : chkFn Try.prog 35 ir35 ir35_v = true)
theorem M_spec_l06Ok : c_spec_l06Ok.modes = [.bor] := rfl
theorem Fl_spec_l06Ok : c_spec_l06Ok.flat = true := rfl
attribute [go_sem] M_spec_l06Ok Fl_spec_l06Ok
attribute [go_sem] lk_spec_l06Ok_61 lk_spec_l06Ok_62
def E_spec_l06Ok_l1 (list : List Estimate) : Int → St
  | i => ⟨[.sl 5 (List.map Estimate_av list), .any, .int .i64 i], [], [], true⟩
def R_spec_l06Ok_l1 (list : List Estimate) : (Unit ⊕ Bool) → Res
  | .inl y => (.exit 0, ⟨[.sl 5 (List.map Estimate_av list), .any, .any], [], [], true⟩)
  | .inr y => (.ret, ⟨[.any, .bool y, .any], [], [], true⟩)
theorem spec_l06Ok_l1_ex {list : List Estimate} {sgm_ : Int} {rho_ : Unit ⊕ Bool} (h : whileE (spec_l06Ok_l1 list) sgm_ = some rho_) : ∃ L0, ∀ L, L0 ≤ L → iter (exec (look t_spec_l06Ok) L ir35_b0) ir35_k0 ir35_o0 ir35_r0 L (E_spec_l06Ok_l1 list sgm_) = R_spec_l06Ok_l1 list rho_ := by
  refine loop_ex (E := E_spec_l06Ok_l1 list) (R := R_spec_l06Ok_l1 list) (fun y => by first | (intro c; cases c) | (rcases y with y | y <;> (intro c; cases c)) | (rcases y with y | y | y <;> (intro c; cases c))) ?_ h
  clear h
  intro i o_ h
  dsimp only [spec_l06Ok_l1] at h
  rcases it_some h with ⟨hk1, h⟩ | ⟨hk1, h⟩
  · try simp only [go_sem, n1, n2, n3, n4] at hk1
    all_goals
    obtain ⟨hk2, h⟩ := ck_some h
    have lhk2 := ix_lt hk2
    have xhk2 := getD_mapD Estimate_av list lhk2
    try simp only [go_sem] at lhk2
    try simp only [go_sem] at xhk2
    try simp only [go_sem, n1, n2, n3, n4, hk1] at hk2
    all_goals
    obtain ⟨y_3, hk3, h⟩ := bd_some h
    have fhk3 := Fs_spec_l06One hk3
    try simp only [go_sem, hk1, hk2] at fhk3
    obtain ⟨hk4, h⟩ := ck_some h
    rcases or_split hk4 with ⟨ghk4, hk4⟩ | ghk4
    · try simp only [go_sem, n1, n2, n3, n4, hk1, hk2] at ghk4
      all_goals
      have lhk4 := ix_lt hk4
      have xhk4 := getD_mapD Estimate_av list lhk4
      try simp only [go_sem] at lhk4
      try simp only [go_sem] at xhk4
      try simp only [go_sem, n1, n2, n3, n4, hk1, hk2, ghk4] at hk4
      all_goals
      obtain ⟨hk5, h⟩ := ck_some h
      rcases or_split hk5 with ⟨ghk5, hk5⟩ | ghk5
      · try simp only [go_sem, n1, n2, n3, n4, hk1, hk2, ghk4, hk4] at ghk5
        all_goals
        obtain ⟨y_5, hhk5⟩ := Option.isSome_iff_exists.1 hk5
        have fhk5 := Fs_spec_l06Before hhk5
        try simp only [go_sem, hk1, hk2, ghk4, hk4, ghk5] at fhk5
        rcases it_some h with ⟨hk6, h⟩ | ⟨hk6, h⟩
        · try simp only [go_sem, n1, n2, n3, n4, hk1, hk2, ghk4, hk4, ghk5, hhk5] at hk6
          all_goals
          obtain rfl := so_some h
          refine ⟨0, fun L hL => ?_⟩
          simp only [go_sem, ir35, E_spec_l06Ok_l1, R_spec_l06Ok_l1, ir35_b0, ir35_k0, ir35_o0, ir35_r0, hk1, hk2, lhk2, xhk2, fhk3, ghk4, hk4, lhk4, xhk4, ghk5, hhk5, fhk5, hk6]
        · try simp only [go_sem, n1, n2, n3, n4, hk1, hk2, ghk4, hk4, ghk5, hhk5] at hk6
          all_goals
          obtain rfl := so_some h
          refine ⟨0, fun L hL => ?_⟩
          simp only [go_sem, ir35, E_spec_l06Ok_l1, R_spec_l06Ok_l1, ir35_b0, ir35_k0, ir35_o0, ir35_r0, hk1, hk2, lhk2, xhk2, fhk3, ghk4, hk4, lhk4, xhk4, ghk5, hhk5, fhk5, hk6]
      · rcases and_f ghk5 with ghk5a | ⟨ghk5a, ghk5b⟩
        · have ghk5an := no_f ghk5a
          have ghk5ann := no_t ghk5an
          try simp only [go_sem, n1, n2, n3, n4, hk1, hk2, ghk4, hk4] at ghk5ann
          all_goals
          rcases it_some h with ⟨hk6, h⟩ | ⟨hk6, h⟩
          · try simp only [go_sem, n1, n2, n3, n4, hk1, hk2, ghk4, hk4, ghk5ann] at hk6
            all_goals
            obtain rfl := so_some h
            refine ⟨0, fun L hL => ?_⟩
            simp only [go_sem, ir35, E_spec_l06Ok_l1, R_spec_l06Ok_l1, ir35_b0, ir35_k0, ir35_o0, ir35_r0, hk1, hk2, lhk2, xhk2, fhk3, ghk4, hk4, lhk4, xhk4, ghk5ann, hk6]
          · try simp only [go_sem, n1, n2, n3, n4, hk1, hk2, ghk4, hk4, ghk5ann] at hk6
            all_goals
            obtain rfl := so_some h
            refine ⟨0, fun L hL => ?_⟩
            simp only [go_sem, ir35, E_spec_l06Ok_l1, R_spec_l06Ok_l1, ir35_b0, ir35_k0, ir35_o0, ir35_r0, hk1, hk2, lhk2, xhk2, fhk3, ghk4, hk4, lhk4, xhk4, ghk5ann, hk6]
        · have ghk5an := no_t ghk5a
          have ghk5ann := no_f ghk5an
          try simp only [go_sem, n1, n2, n3, n4, hk1, hk2, ghk4, hk4] at ghk5ann
          all_goals
          try simp only [go_sem, n1, n2, n3, n4, hk1, hk2, ghk4, hk4, ghk5ann] at ghk5b
          all_goals
          rcases it_some h with ⟨hk6, h⟩ | ⟨hk6, h⟩
          · try simp only [go_sem, n1, n2, n3, n4, hk1, hk2, ghk4, hk4, ghk5ann, ghk5b] at hk6
            all_goals
            obtain rfl := so_some h
            refine ⟨0, fun L hL => ?_⟩
            simp only [go_sem, ir35, E_spec_l06Ok_l1, R_spec_l06Ok_l1, ir35_b0, ir35_k0, ir35_o0, ir35_r0, hk1, hk2, lhk2, xhk2, fhk3, ghk4, hk4, lhk4, xhk4, ghk5ann, ghk5b, hk6]
          · try simp only [go_sem, n1, n2, n3, n4, hk1, hk2, ghk4, hk4, ghk5ann, ghk5b] at hk6
            all_goals
            obtain rfl := so_some h
            refine ⟨0, fun L hL => ?_⟩
            simp only [go_sem, ir35, E_spec_l06Ok_l1, R_spec_l06Ok_l1, ir35_b0, ir35_k0, ir35_o0, ir35_r0, hk1, hk2, lhk2, xhk2, fhk3, ghk4, hk4, lhk4, xhk4, ghk5ann, ghk5b, hk6]
    · rcases and_f ghk4 with ghk4a | ⟨ghk4a, ghk4b⟩
      · have ghk4an := no_f ghk4a
        have ghk4ann := no_t ghk4an
        try simp only [go_sem, n1, n2, n3, n4, hk1, hk2] at ghk4ann
        all_goals
        obtain ⟨hk5, h⟩ := ck_some h
        rcases or_split hk5 with ⟨ghk5, hk5⟩ | ghk5
        · try simp only [go_sem, n1, n2, n3, n4, hk1, hk2, ghk4ann] at ghk5
          all_goals
          obtain ⟨y_5, hhk5⟩ := Option.isSome_iff_exists.1 hk5
          have fhk5 := Fs_spec_l06Before hhk5
          try simp only [go_sem, hk1, hk2, ghk4ann, ghk5] at fhk5
          rcases it_some h with ⟨hk6, h⟩ | ⟨hk6, h⟩
          · try simp only [go_sem, n1, n2, n3, n4, hk1, hk2, ghk4ann, ghk5, hhk5] at hk6
            all_goals
            obtain rfl := so_some h
            refine ⟨0, fun L hL => ?_⟩
            simp only [go_sem, ir35, E_spec_l06Ok_l1, R_spec_l06Ok_l1, ir35_b0, ir35_k0, ir35_o0, ir35_r0, hk1, hk2, lhk2, xhk2, fhk3, ghk4ann, ghk5, hhk5, fhk5, hk6]
          · try simp only [go_sem, n1, n2, n3, n4, hk1, hk2, ghk4ann, ghk5, hhk5] at hk6
            all_goals
            obtain rfl := so_some h
            refine ⟨0, fun L hL => ?_⟩
            simp only [go_sem, ir35, E_spec_l06Ok_l1, R_spec_l06Ok_l1, ir35_b0, ir35_k0, ir35_o0, ir35_r0, hk1, hk2, lhk2, xhk2, fhk3, ghk4ann, ghk5, hhk5, fhk5, hk6]
        · rcases and_f ghk5 with ghk5a | ⟨ghk5a, ghk5b⟩
          · have ghk5an := no_f ghk5a
            have ghk5ann := no_t ghk5an
            try simp only [go_sem, n1, n2, n3, n4, hk1, hk2, ghk4ann] at ghk5ann
            all_goals
            rcases it_some h with ⟨hk6, h⟩ | ⟨hk6, h⟩
            · try simp only [go_sem, n1, n2, n3, n4, hk1, hk2, ghk4ann, ghk5ann] at hk6
              all_goals
              obtain rfl := so_some h
              refine ⟨0, fun L hL => ?_⟩
              simp only [go_sem, ir35, E_spec_l06Ok_l1, R_spec_l06Ok_l1, ir35_b0, ir35_k0, ir35_o0, ir35_r0, hk1, hk2, lhk2, xhk2, fhk3, ghk4ann, ghk5ann, hk6]
            · try simp only [go_sem, n1, n2, n3, n4, hk1, hk2, ghk4ann, ghk5ann] at hk6
              all_goals
              obtain rfl := so_some h
              refine ⟨0, fun L hL => ?_⟩
              simp only [go_sem, ir35, E_spec_l06Ok_l1, R_spec_l06Ok_l1, ir35_b0, ir35_k0, ir35_o0, ir35_r0, hk1, hk2, lhk2, xhk2, fhk3, ghk4ann, ghk5ann, hk6]
          · have ghk5an := no_t ghk5a
            have ghk5ann := no_f ghk5an
            try simp only [go_sem, n1, n2, n3, n4, hk1, hk2, ghk4ann] at ghk5ann
            all_goals
            try simp only [go_sem, n1, n2, n3, n4, hk1, hk2, ghk4ann, ghk5ann] at ghk5b
            all_goals
            rcases it_some h with ⟨hk6, h⟩ | ⟨hk6, h⟩
            · try simp only [go_sem, n1, n2, n3, n4, hk1, hk2, ghk4ann, ghk5ann, ghk5b] at hk6
              all_goals
              obtain rfl := so_some h
              refine ⟨0, fun L hL => ?_⟩
              simp only [go_sem, ir35, E_spec_l06Ok_l1, R_spec_l06Ok_l1, ir35_b0, ir35_k0, ir35_o0, ir35_r0, hk1, hk2, lhk2, xhk2, fhk3, ghk4ann, ghk5ann, ghk5b, hk6]
            · try simp only [go_sem, n1, n2, n3, n4, hk1, hk2, ghk4ann, ghk5ann, ghk5b] at hk6
              all_goals
              obtain rfl := so_some h
              refine ⟨0, fun L hL => ?_⟩
              simp only [go_sem, ir35, E_spec_l06Ok_l1, R_spec_l06Ok_l1, ir35_b0, ir35_k0, ir35_o0, ir35_r0, hk1, hk2, lhk2, xhk2, fhk3, ghk4ann, ghk5ann, ghk5b, hk6]
      · have ghk4an := no_t ghk4a
        have ghk4ann := no_f ghk4an
        try simp only [go_sem, n1, n2, n3, n4, hk1, hk2] at ghk4ann
        all_goals
        try simp only [go_sem, n1, n2, n3, n4, hk1, hk2, ghk4ann] at ghk4b
        all_goals
        obtain ⟨hk5, h⟩ := ck_some h
        rcases or_split hk5 with ⟨ghk5, hk5⟩ | ghk5
        · try simp only [go_sem, n1, n2, n3, n4, hk1, hk2, ghk4ann, ghk4b] at ghk5
          all_goals
          obtain ⟨y_5, hhk5⟩ := Option.isSome_iff_exists.1 hk5
          have fhk5 := Fs_spec_l06Before hhk5
          try simp only [go_sem, hk1, hk2, ghk4ann, ghk4b, ghk5] at fhk5
          rcases it_some h with ⟨hk6, h⟩ | ⟨hk6, h⟩
          · try simp only [go_sem, n1, n2, n3, n4, hk1, hk2, ghk4ann, ghk4b, ghk5, hhk5] at hk6
            all_goals
            obtain rfl := so_some h
            refine ⟨0, fun L hL => ?_⟩
            simp only [go_sem, ir35, E_spec_l06Ok_l1, R_spec_l06Ok_l1, ir35_b0, ir35_k0, ir35_o0, ir35_r0, hk1, hk2, lhk2, xhk2, fhk3, ghk4ann, ghk4b, ghk5, hhk5, fhk5, hk6]
          · try simp only [go_sem, n1, n2, n3, n4, hk1, hk2, ghk4ann, ghk4b, ghk5, hhk5] at hk6
            all_goals
            obtain rfl := so_some h
            refine ⟨0, fun L hL => ?_⟩
            simp only [go_sem, ir35, E_spec_l06Ok_l1, R_spec_l06Ok_l1, ir35_b0, ir35_k0, ir35_o0, ir35_r0, hk1, hk2, lhk2, xhk2, fhk3, ghk4ann, ghk4b, ghk5, hhk5, fhk5, hk6]
        · rcases and_f ghk5 with ghk5a | ⟨ghk5a, ghk5b⟩
          · have ghk5an := no_f ghk5a
            have ghk5ann := no_t ghk5an
            try simp only [go_sem, n1, n2, n3, n4, hk1, hk2, ghk4ann, ghk4b] at ghk5ann
            all_goals
            rcases it_some h with ⟨hk6, h⟩ | ⟨hk6, h⟩
            · try simp only [go_sem, n1, n2, n3, n4, hk1, hk2, ghk4ann, ghk4b, ghk5ann] at hk6
              all_goals
              obtain rfl := so_some h
              refine ⟨0, fun L hL => ?_⟩
              simp only [go_sem, ir35, E_spec_l06Ok_l1, R_spec_l06Ok_l1, ir35_b0, ir35_k0, ir35_o0, ir35_r0, hk1, hk2, lhk2, xhk2, fhk3, ghk4ann, ghk4b, ghk5ann, hk6]
            · try simp only [go_sem, n1, n2, n3, n4, hk1, hk2, ghk4ann, ghk4b, ghk5ann] at hk6
              all_goals
              obtain rfl := so_some h
              refine ⟨0, fun L hL => ?_⟩
              simp only [go_sem, ir35, E_spec_l06Ok_l1, R_spec_l06Ok_l1, ir35_b0, ir35_k0, ir35_o0, ir35_r0, hk1, hk2, lhk2, xhk2, fhk3, ghk4ann, ghk4b, ghk5ann, hk6]
          · have ghk5an := no_t ghk5a
            have ghk5ann := no_f ghk5an
            try simp only [go_sem, n1, n2, n3, n4, hk1, hk2, ghk4ann, ghk4b] at ghk5ann
            all_goals
            try simp only [go_sem, n1, n2, n3, n4, hk1, hk2, ghk4ann, ghk4b, ghk5ann] at ghk5b
            all_goals
            rcases it_some h with ⟨hk6, h⟩ | ⟨hk6, h⟩
            · try simp only [go_sem, n1, n2, n3, n4, hk1, hk2, ghk4ann, ghk4b, ghk5ann, ghk5b] at hk6
              all_goals
              obtain rfl := so_some h
              refine ⟨0, fun L hL => ?_⟩
              simp only [go_sem, ir35, E_spec_l06Ok_l1, R_spec_l06Ok_l1, ir35_b0, ir35_k0, ir35_o0, ir35_r0, hk1, hk2, lhk2, xhk2, fhk3, ghk4ann, ghk4b, ghk5ann, ghk5b, hk6]
            · try simp only [go_sem, n1, n2, n3, n4, hk1, hk2, ghk4ann, ghk4b, ghk5ann, ghk5b] at hk6
              all_goals
              obtain rfl := so_some h
              refine ⟨0, fun L hL => ?_⟩
              simp only [go_sem, ir35, E_spec_l06Ok_l1, R_spec_l06Ok_l1, ir35_b0, ir35_k0, ir35_o0, ir35_r0, hk1, hk2, lhk2, xhk2, fhk3, ghk4ann, ghk4b, ghk5ann, ghk5b, hk6]
  · try simp only [go_sem, n1, n2, n3, n4] at hk1
    all_goals
    obtain rfl := so_some h
    refine ⟨0, fun L hL => ?_⟩
    simp only [go_sem, ir35, E_spec_l06Ok_l1, R_spec_l06Ok_l1, ir35_b0, ir35_k0, ir35_o0, ir35_r0, hk1]

theorem Fs_spec_l06Ok {list : List Estimate} {y_ : Bool} (h : spec_l06Ok list = some y_) : c_spec_l06Ok.F [.sl 5 (List.map Estimate_av list)] = ⟨true, .bool y_, [.any]⟩ := by
  refine mkF_E rfl ?_
  dsimp only [spec_l06Ok] at h
  obtain ⟨y_7, hk7, h⟩ := bd_some h
  obtain ⟨Lhk7, ehk7⟩ := spec_l06Ok_l1_ex hk7
  rcases y_7 with y_7a | y_7b
  · dsimp only at h
    obtain rfl := so_some h
    refine ⟨Lhk7, fun L hL => ?_⟩
    have ehk7 := ehk7 L (by omega)
    try simp only [go_sem, E_spec_l06Ok_l1, R_spec_l06Ok_l1, ir35_k0, ir35_o0, ir35_r0] at ehk7
    simp only [go_sem, ir35, E_spec_l06Ok_l1, R_spec_l06Ok_l1, ir35_k0, ir35_o0, ir35_r0, ehk7]
  · dsimp only at h
    obtain rfl := so_some h
    refine ⟨Lhk7, fun L hL => ?_⟩
    have ehk7 := ehk7 L (by omega)
    try simp only [go_sem, E_spec_l06Ok_l1, R_spec_l06Ok_l1, ir35_k0, ir35_o0, ir35_r0] at ehk7
    simp only [go_sem, ir35, E_spec_l06Ok_l1, R_spec_l06Ok_l1, ir35_k0, ir35_o0, ir35_r0, ehk7]


def ir108_v : List Nat := [0, 2]
def ir108 : AFn := ⟨1, 2, .seq (.region false [
    ⟨.var 1, 2, none, .mov (.c (.bool false))⟩])
 (.seq (.region false [
    ⟨.push, 3, none, .mov (.v 0)⟩,
    ⟨.push, 4, none, .call 38 [(.s 0), (.c (.int .i64 (1))), (.c (.int .i64 (5)))]⟩,
    ⟨.var 1, 2, none, .mov (.s 0)⟩])
 (.ret)), [.t 1]⟩
noncomputable def t_spec_l26Kind : List (Nat × Ctr) := [(38, c_spec_l00In)]
theorem lk_spec_l26Kind_38 : look t_spec_l26Kind 38 = some c_spec_l00In := rfl
noncomputable def c_spec_l26Kind : Ctr := mkF t_spec_l26Kind ir108 [.bor]
theorem s_spec_l26Kind : Sound Try.prog 108 c_spec_l26Kind := mkF_sound _ rfl (snd_cons s_spec_l00In snd_nil) (by kernel_rfl : chkFn Try.prog 108 ir108 ir108_v = true)
theorem M_spec_l26Kind : c_spec_l26Kind.modes = [.bor] := rfl
theorem Fl_spec_l26Kind : c_spec_l26Kind.flat = true := rfl
attribute [go_sem] M_spec_l26Kind Fl_spec_l26Kind
attribute [go_sem] lk_spec_l26Kind_38
theorem Fs_spec_l26Kind {n : Int} {y_ : Bool} (h : spec_l26Kind n = some y_) : c_spec_l26Kind.F [.int .i64 n] = ⟨true, .bool y_, [.any]⟩ := by
  refine mkF_E rfl ?_
  dsimp only [spec_l26Kind] at h
  obtain ⟨y_1, hk1, h⟩ := bd_some h
  have fhk1 := Fs_spec_l00In hk1
  try simp only [go_sem] at fhk1
  obtain rfl := so_some h
  refine ⟨0, fun L hL => ?_⟩
  simp only [go_sem, ir108, fhk1]


def ir81_b0 : IR := .seq (.test false [
    ⟨.push, 7, none, .mov (.v 3)⟩,
    ⟨.push, 8, none, .mov (.v 0)⟩,
    ⟨.push, 9, none, .len false (.s 0)⟩,
    ⟨.push, 10, none, .bin false .lss (.s 2) (.s 0)⟩] (.s 0)
  (.skip)
  (.exit 0))
 (.seq (.block 1 (.seq (.region false [
      ⟨.push, 13, none, .mov (.v 0)⟩,
      ⟨.push, 14, none, .mov (.v 3)⟩,
      ⟨.push, 15, none, .ixAddr 2 (.s 1) (.s 0)⟩,
      ⟨.var 4, 6, none, .mov (.s 0)⟩])
   (.seq (.test false [
      ⟨.push, 16, none, .mov (.v 4)⟩,
      ⟨.push, 17, none, .nilck (.s 0)⟩,
      ⟨.push, 18, none, .fldAddr 0 (.s 0)⟩,
      ⟨.push, 19, none, .load false 1 (.s 0)⟩,
      ⟨.push, 20, none, .mov (.v 1)⟩,
      ⟨.push, 21, none, .bin false .sub (.s 0) (.c (.int .i64 (1)))⟩,
      ⟨.push, 22, none, .call 38 [(.s 2), (.c (.int .i64 (0))), (.s 0)]⟩,
      ⟨.push, 23, none, .un .not (.s 0)⟩,
      ⟨.push, 24, none, .mov (.s 0)⟩,
      ⟨.push, 25, (some ((.s 0), false)), .mov (.v 4)⟩,
      ⟨.push, 26, (some ((.s 1), false)), .nilck (.s 0)⟩,
      ⟨.push, 27, (some ((.s 2), false)), .fldAddr 1 (.s 0)⟩,
      ⟨.push, 28, (some ((.s 3), false)), .load false 1 (.s 0)⟩,
      ⟨.push, 29, (some ((.s 4), false)), .call 108 [(.s 0)]⟩,
      ⟨.push, 30, (some ((.s 5), false)), .un .not (.s 0)⟩,
      ⟨.push, 31, none, .pick (.s 6) (.c (.bool true)) (.s 0)⟩] (.s 0)
    (.seq (.region false [
        ⟨.var 2, 4, none, .mov (.c (.bool false))⟩])
     (.ret))
    (.skip))
   (.anyo 41 [
     ⟨.slot 0, 32, none, .mov (.v 3)⟩,
     ⟨.slot 1, 33, none, .bin false .gtr (.s 0) (.c (.int .i64 (0)))⟩,
     ⟨.slot 2, 34, none, .mov (.s 1)⟩,
     ⟨.slot 3, 35, (some ((.s 2), true)), .mov (.v 0)⟩,
     ⟨.slot 4, 36, (some ((.s 2), true)), .mov (.v 3)⟩,
     ⟨.slot 5, 37, (some ((.s 2), true)), .bin false .sub (.s 4) (.c (.int .i64 (1)))⟩,
     ⟨.slot 6, 38, (some ((.s 2), true)), .ixAddr 2 (.s 3) (.s 5)⟩,
     ⟨.slot 7, 39, (some ((.s 2), true)), .fldAddr 0 (.s 6)⟩,
     ⟨.slot 8, 40, (some ((.s 2), true)), .load false 1 (.s 7)⟩,
     ⟨.slot 9, 41, (some ((.s 2), true)), .mov (.v 4)⟩,
     ⟨.slot 10, 42, (some ((.s 2), true)), .nilck (.s 9)⟩,
     ⟨.slot 11, 43, (some ((.s 2), true)), .fldAddr 0 (.s 10)⟩,
     ⟨.slot 12, 44, (some ((.s 2), true)), .load false 1 (.s 11)⟩,
     ⟨.slot 13, 45, (some ((.s 2), true)), .bin false .gtr (.s 8) (.s 12)⟩,
     ⟨.slot 14, 46, (some ((.s 2), true)), .mov (.s 13)⟩,
     ⟨.slot 15, 47, (some ((.s 14), false)), .mov (.v 0)⟩,
     ⟨.slot 16, 48, (some ((.s 14), false)), .mov (.v 3)⟩,
     ⟨.slot 17, 49, (some ((.s 14), false)), .bin false .sub (.s 16) (.c (.int .i64 (1)))⟩,
     ⟨.slot 18, 50, (some ((.s 14), false)), .ixAddr 2 (.s 15) (.s 17)⟩,
     ⟨.slot 19, 51, (some ((.s 14), false)), .fldAddr 0 (.s 18)⟩,
     ⟨.slot 20, 52, (some ((.s 14), false)), .load false 1 (.s 19)⟩,
     ⟨.slot 21, 53, (some ((.s 14), false)), .mov (.v 4)⟩,
     ⟨.slot 22, 54, (some ((.s 14), false)), .nilck (.s 21)⟩,
     ⟨.slot 23, 55, (some ((.s 14), false)), .fldAddr 0 (.s 22)⟩,
     ⟨.slot 24, 56, (some ((.s 14), false)), .load false 1 (.s 23)⟩,
     ⟨.slot 25, 57, (some ((.s 14), false)), .bin false .eql (.s 20) (.s 24)⟩,
     ⟨.slot 26, 58, (some ((.s 14), false)), .mov (.s 25)⟩,
     ⟨.slot 27, 59, (some ((.s 26), true)), .mov (.v 0)⟩,
     ⟨.slot 28, 60, (some ((.s 26), true)), .mov (.v 3)⟩,
     ⟨.slot 29, 61, (some ((.s 26), true)), .bin false .sub (.s 28) (.c (.int .i64 (1)))⟩,
     ⟨.slot 30, 62, (some ((.s 26), true)), .ixAddr 2 (.s 27) (.s 29)⟩,
     ⟨.slot 31, 63, (some ((.s 26), true)), .fldAddr 1 (.s 30)⟩,
     ⟨.slot 32, 64, (some ((.s 26), true)), .load false 1 (.s 31)⟩,
     ⟨.slot 33, 65, (some ((.s 26), true)), .mov (.v 4)⟩,
     ⟨.slot 34, 66, (some ((.s 26), true)), .nilck (.s 33)⟩,
     ⟨.slot 35, 67, (some ((.s 26), true)), .fldAddr 1 (.s 34)⟩,
     ⟨.slot 36, 68, (some ((.s 26), true)), .load false 1 (.s 35)⟩,
     ⟨.slot 37, 69, (some ((.s 26), true)), .bin false .geq (.s 32) (.s 36)⟩,
     ⟨.slot 38, 70, (some ((.s 14), false)), .pick (.s 26) (.s 37) (.c (.bool false))⟩,
     ⟨.slot 39, 71, (some ((.s 2), true)), .pick (.s 14) (.c (.bool true)) (.s 38)⟩,
     ⟨.slot 40, 72, none, .pick (.s 2) (.s 39) (.c (.bool false))⟩] [] (.cond (.s 40)
   (.seq (.region false [
       ⟨.var 2, 4, none, .mov (.c (.bool false))⟩])
    (.ret))
   (.skip))))))
 (.region false [
   ⟨.push, 11, none, .mov (.v 3)⟩,
   ⟨.push, 12, none, .bin false .add (.s 0) (.c (.int .i64 (1)))⟩,
   ⟨.var 3, 5, none, .mov (.s 0)⟩]))
def ir81_k0 : List Bool := [true, true, false, true, false]
def ir81_o0 : List Bool := [false, false, false, false, false]
def ir81_r0 : List Bool := [false, false, true, false, false]
def ir81_v : List Nat := [0, 1, 4, 5, 6]
def ir81 : AFn := ⟨2, 5, .seq (.region false [
    ⟨.var 2, 4, none, .mov (.c (.bool false))⟩])
 (.seq (.seq (.region false [
     ⟨.var 3, 5, none, .mov (.c (.int .i64 (0)))⟩])
  (.block 0 (.loop ir81_k0 ir81_o0 ir81_r0 ir81_b0)))
 (.seq (.region false [
    ⟨.var 2, 4, none, .mov (.c (.bool true))⟩])
 (.ret))), [.t 2]⟩
noncomputable def t_spec_l26Faults : List (Nat × Ctr) := [(38, c_spec_l00In), (108, c_spec_l26Kind)]
theorem lk_spec_l26Faults_38 : look t_spec_l26Faults 38 = some c_spec_l00In := rfl
theorem lk_spec_l26Faults_108 : look t_spec_l26Faults 108 = some c_spec_l26Kind := rfl
noncomputable def c_spec_l26Faults : Ctr := mkF t_spec_l26Faults ir81 [.bor, .bor]
theorem s_spec_l26Faults : Sound Try.prog 81 c_spec_l26Faults := mkF_sound _ rfl (snd_cons s_spec_l00In (snd_cons s_spec_l26Kind snd_nil)) (by kernel_rfl : chkFn Try.prog 81 ir81 ir81_v = true)
theorem M_spec_l26Faults : c_spec_l26Faults.modes = [.bor, .bor] := rfl
theorem Fl_spec_l26Faults : c_spec_l26Faults.flat = true := rfl
attribute [go_sem] M_spec_l26Faults Fl_spec_l26Faults
attribute [go_sem] lk_spec_l26Faults_38 lk_spec_l26Faults_108
def E_spec_l26Faults_l1 (faults : List Fault) (count : Int) : Int → St
  | i => ⟨[.sl 2 (List.map Fault_av faults), .int .i64 count, .any, .int .i64 i, .any], [], [], true⟩
def R_spec_l26Faults_l1 (faults : List Fault) (count : Int) : (Unit ⊕ Bool) → Res
  | .inl y => (.exit 0, ⟨[.any, .any, .any, .any, .any], [], [], true⟩)
  | .inr y => (.ret, ⟨[.any, .any, .bool y, .any, .any], [], [], true⟩)
theorem spec_l26Faults_l1_ex {faults : List Fault} {count : Int} {sgm_ : Int} {rho_ : Unit ⊕ Bool} (h : whileE (spec_l26Faults_l1 faults count) sgm_ = some rho_) : ∃ L0, ∀ L, L0 ≤ L → iter (exec (look t_spec_l26Faults) L ir81_b0) ir81_k0 ir81_o0 ir81_r0 L (E_spec_l26Faults_l1 faults count sgm_) = R_spec_l26Faults_l1 faults count rho_ := by
  refine loop_ex (E := E_spec_l26Faults_l1 faults count) (R := R_spec_l26Faults_l1 faults count) (fun y => by first | (intro c; cases c) | (rcases y with y | y <;> (intro c; cases c)) | (rcases y with y | y | y <;> (intro c; cases c))) ?_ h
  clear h
  intro i o_ h
  dsimp only [spec_l26Faults_l1] at h
  rcases it_some h with ⟨hk1, h⟩ | ⟨hk1, h⟩
  · try simp only [go_sem, n1, n2, n3, n4] at hk1
    all_goals
    obtain ⟨hk2, h⟩ := ck_some h
    have lhk2 := ix_lt hk2
    have xhk2 := getD_mapD Fault_av faults lhk2
    try simp only [go_sem] at lhk2
    try simp only [go_sem] at xhk2
    try simp only [go_sem, n1, n2, n3, n4, hk1] at hk2
    all_goals
    obtain ⟨y_3, hk3, h⟩ := bd_some h
    have fhk3 := Fs_spec_l00In hk3
    try simp only [go_sem, hk1, hk2] at fhk3
    obtain ⟨hk4, h⟩ := ck_some h
    rcases or_split hk4 with ⟨ghk4, hk4⟩ | ghk4
    · try simp only [go_sem, n1, n2, n3, n4, hk1, hk2] at ghk4
      all_goals
      obtain ⟨y_4, hhk4⟩ := Option.isSome_iff_exists.1 hk4
      have fhk4 := Fs_spec_l26Kind hhk4
      try simp only [go_sem, hk1, hk2, ghk4] at fhk4
      rcases it_some h with ⟨hk5, h⟩ | ⟨hk5, h⟩
      · try simp only [go_sem, n1, n2, n3, n4, hk1, hk2, ghk4, hhk4] at hk5
        all_goals
        obtain rfl := so_some h
        refine ⟨0, fun L hL => ?_⟩
        simp only [go_sem, ir81, E_spec_l26Faults_l1, R_spec_l26Faults_l1, ir81_b0, ir81_k0, ir81_o0, ir81_r0, hk1, hk2, lhk2, xhk2, fhk3, ghk4, hhk4, fhk4, hk5]
      · try simp only [go_sem, n1, n2, n3, n4, hk1, hk2, ghk4, hhk4] at hk5
        all_goals
        obtain ⟨hk6, h⟩ := ck_some h
        rcases or_split hk6 with ⟨ghk6, hk6⟩ | ghk6
        · try simp only [go_sem, n1, n2, n3, n4, hk1, hk2, ghk4, hhk4, hk5] at ghk6
          all_goals
          have lhk6 := ix_lt hk6
          have xhk6 := getD_mapD Fault_av faults lhk6
          try simp only [go_sem] at lhk6
          try simp only [go_sem] at xhk6
          try simp only [go_sem, n1, n2, n3, n4, hk1, hk2, ghk4, hhk4, hk5, ghk6] at hk6
          all_goals
          obtain ⟨hk7, h⟩ := ck_some h
          rcases or_split hk7 with ⟨ghk7, hk7⟩ | ghk7
          · try simp only [go_sem, n1, n2, n3, n4, hk1, hk2, ghk4, hhk4, hk5, ghk6, hk6] at ghk7
            all_goals
            have lhk7 := ix_lt hk7
            have xhk7 := getD_mapD Fault_av faults lhk7
            try simp only [go_sem] at lhk7
            try simp only [go_sem] at xhk7
            try simp only [go_sem, n1, n2, n3, n4, hk1, hk2, ghk4, hhk4, hk5, ghk6, hk6, ghk7] at hk7
            all_goals
            obtain ⟨hk8, h⟩ := ck_some h
            rcases or_split hk8 with ⟨ghk8, hk8⟩ | ghk8
            · try simp only [go_sem, n1, n2, n3, n4, hk1, hk2, ghk4, hhk4, hk5, ghk6, hk6, ghk7, hk7] at ghk8
              all_goals
              have lhk8 := ix_lt hk8
              have xhk8 := getD_mapD Fault_av faults lhk8
              try simp only [go_sem] at lhk8
              try simp only [go_sem] at xhk8
              try simp only [go_sem, n1, n2, n3, n4, hk1, hk2, ghk4, hhk4, hk5, ghk6, hk6, ghk7, hk7, ghk8] at hk8
              all_goals
              rcases it_some h with ⟨hk9, h⟩ | ⟨hk9, h⟩
              · try simp only [go_sem, n1, n2, n3, n4, hk1, hk2, ghk4, hhk4, hk5, ghk6, hk6, ghk7, hk7, ghk8, hk8] at hk9
                all_goals
                obtain rfl := so_some h
                refine ⟨0, fun L hL => ?_⟩
                simp only [go_sem, ir81, E_spec_l26Faults_l1, R_spec_l26Faults_l1, ir81_b0, ir81_k0, ir81_o0, ir81_r0, hk1, hk2, lhk2, xhk2, fhk3, ghk4, hhk4, fhk4, hk5, ghk6, hk6, lhk6, xhk6, ghk7, hk7, lhk7, xhk7, ghk8, hk8, lhk8, xhk8, hk9]
              · try simp only [go_sem, n1, n2, n3, n4, hk1, hk2, ghk4, hhk4, hk5, ghk6, hk6, ghk7, hk7, ghk8, hk8] at hk9
                all_goals
                obtain rfl := so_some h
                refine ⟨0, fun L hL => ?_⟩
                simp only [go_sem, ir81, E_spec_l26Faults_l1, R_spec_l26Faults_l1, ir81_b0, ir81_k0, ir81_o0, ir81_r0, hk1, hk2, lhk2, xhk2, fhk3, ghk4, hhk4, fhk4, hk5, ghk6, hk6, lhk6, xhk6, ghk7, hk7, lhk7, xhk7, ghk8, hk8, lhk8, xhk8, hk9]
            · rcases and_f ghk8 with ghk8a | ⟨ghk8a, ghk8b⟩
              · rcases and_f ghk8a with ghk8aa | ⟨ghk8aa, ghk8ab⟩
                · try simp only [go_sem, n1, n2, n3, n4, hk1, hk2, ghk4, hhk4, hk5, ghk6, hk6, ghk7, hk7] at ghk8aa
                  all_goals
                  rcases it_some h with ⟨hk9, h⟩ | ⟨hk9, h⟩
                  · try simp only [go_sem, n1, n2, n3, n4, hk1, hk2, ghk4, hhk4, hk5, ghk6, hk6, ghk7, hk7, ghk8aa] at hk9
                    all_goals
                    obtain rfl := so_some h
                    refine ⟨0, fun L hL => ?_⟩
                    simp only [go_sem, ir81, E_spec_l26Faults_l1, R_spec_l26Faults_l1, ir81_b0, ir81_k0, ir81_o0, ir81_r0, hk1, hk2, lhk2, xhk2, fhk3, ghk4, hhk4, fhk4, hk5, ghk6, hk6, lhk6, xhk6, ghk7, hk7, lhk7, xhk7, ghk8aa, hk9]
                  · try simp only [go_sem, n1, n2, n3, n4, hk1, hk2, ghk4, hhk4, hk5, ghk6, hk6, ghk7, hk7, ghk8aa] at hk9
                    all_goals
                    obtain rfl := so_some h
                    refine ⟨0, fun L hL => ?_⟩
                    simp only [go_sem, ir81, E_spec_l26Faults_l1, R_spec_l26Faults_l1, ir81_b0, ir81_k0, ir81_o0, ir81_r0, hk1, hk2, lhk2, xhk2, fhk3, ghk4, hhk4, fhk4, hk5, ghk6, hk6, lhk6, xhk6, ghk7, hk7, lhk7, xhk7, ghk8aa, hk9]
                · have ghk8abn := no_f ghk8ab
                  try simp only [go_sem, n1, n2, n3, n4, hk1, hk2, ghk4, hhk4, hk5, ghk6, hk6, ghk7, hk7] at ghk8aa
                  all_goals
                  try simp only [go_sem, n1, n2, n3, n4, hk1, hk2, ghk4, hhk4, hk5, ghk6, hk6, ghk7, hk7, ghk8aa] at ghk8abn
                  all_goals
                  rcases it_some h with ⟨hk9, h⟩ | ⟨hk9, h⟩
                  · try simp only [go_sem, n1, n2, n3, n4, hk1, hk2, ghk4, hhk4, hk5, ghk6, hk6, ghk7, hk7, ghk8aa, ghk8abn] at hk9
                    all_goals
                    obtain rfl := so_some h
                    refine ⟨0, fun L hL => ?_⟩
                    simp only [go_sem, ir81, E_spec_l26Faults_l1, R_spec_l26Faults_l1, ir81_b0, ir81_k0, ir81_o0, ir81_r0, hk1, hk2, lhk2, xhk2, fhk3, ghk4, hhk4, fhk4, hk5, ghk6, hk6, lhk6, xhk6, ghk7, hk7, lhk7, xhk7, ghk8aa, ghk8abn, hk9]
                  · try simp only [go_sem, n1, n2, n3, n4, hk1, hk2, ghk4, hhk4, hk5, ghk6, hk6, ghk7, hk7, ghk8aa, ghk8abn] at hk9
                    all_goals
                    obtain rfl := so_some h
                    refine ⟨0, fun L hL => ?_⟩
                    simp only [go_sem, ir81, E_spec_l26Faults_l1, R_spec_l26Faults_l1, ir81_b0, ir81_k0, ir81_o0, ir81_r0, hk1, hk2, lhk2, xhk2, fhk3, ghk4, hhk4, fhk4, hk5, ghk6, hk6, lhk6, xhk6, ghk7, hk7, lhk7, xhk7, ghk8aa, ghk8abn, hk9]
              · obtain ⟨ghk8aa, ghk8ab⟩ := and_t ghk8a
                have ghk8abn := no_t ghk8ab
                try simp only [go_sem, n1, n2, n3, n4, hk1, hk2, ghk4, hhk4, hk5, ghk6, hk6, ghk7, hk7] at ghk8aa
                all_goals
                try simp only [go_sem, n1, n2, n3, n4, hk1, hk2, ghk4, hhk4, hk5, ghk6, hk6, ghk7, hk7, ghk8aa] at ghk8abn
                all_goals
                try simp only [go_sem, n1, n2, n3, n4, hk1, hk2, ghk4, hhk4, hk5, ghk6, hk6, ghk7, hk7, ghk8aa, ghk8abn] at ghk8b
                all_goals
                rcases it_some h with ⟨hk9, h⟩ | ⟨hk9, h⟩
                · try simp only [go_sem, n1, n2, n3, n4, hk1, hk2, ghk4, hhk4, hk5, ghk6, hk6, ghk7, hk7, ghk8aa, ghk8abn, ghk8b] at hk9
                  all_goals
                  obtain rfl := so_some h
                  refine ⟨0, fun L hL => ?_⟩
                  simp only [go_sem, ir81, E_spec_l26Faults_l1, R_spec_l26Faults_l1, ir81_b0, ir81_k0, ir81_o0, ir81_r0, hk1, hk2, lhk2, xhk2, fhk3, ghk4, hhk4, fhk4, hk5, ghk6, hk6, lhk6, xhk6, ghk7, hk7, lhk7, xhk7, ghk8aa, ghk8abn, ghk8b, hk9]
                · try simp only [go_sem, n1, n2, n3, n4, hk1, hk2, ghk4, hhk4, hk5, ghk6, hk6, ghk7, hk7, ghk8aa, ghk8abn, ghk8b] at hk9
                  all_goals
                  obtain rfl := so_some h
                  refine ⟨0, fun L hL => ?_⟩
                  simp only [go_sem, ir81, E_spec_l26Faults_l1, R_spec_l26Faults_l1, ir81_b0, ir81_k0, ir81_o0, ir81_r0, hk1, hk2, lhk2, xhk2, fhk3, ghk4, hhk4, fhk4, hk5, ghk6, hk6, lhk6, xhk6, ghk7, hk7, lhk7, xhk7, ghk8aa, ghk8abn, ghk8b, hk9]
          · rcases and_f ghk7 with ghk7a | ⟨ghk7a, ghk7b⟩
            · try simp only [go_sem, n1, n2, n3, n4, hk1, hk2, ghk4, hhk4, hk5, ghk6, hk6] at ghk7a
              all_goals
              obtain ⟨hk8, h⟩ := ck_some h
              rcases or_split hk8 with ⟨ghk8, hk8⟩ | ghk8
              · try simp only [go_sem, n1, n2, n3, n4, hk1, hk2, ghk4, hhk4, hk5, ghk6, hk6, ghk7a] at ghk8
                all_goals
                have lhk8 := ix_lt hk8
                have xhk8 := getD_mapD Fault_av faults lhk8
                try simp only [go_sem] at lhk8
                try simp only [go_sem] at xhk8
                try simp only [go_sem, n1, n2, n3, n4, hk1, hk2, ghk4, hhk4, hk5, ghk6, hk6, ghk7a, ghk8] at hk8
                all_goals
                rcases it_some h with ⟨hk9, h⟩ | ⟨hk9, h⟩
                · try simp only [go_sem, n1, n2, n3, n4, hk1, hk2, ghk4, hhk4, hk5, ghk6, hk6, ghk7a, ghk8, hk8] at hk9
                  all_goals
                  obtain rfl := so_some h
                  refine ⟨0, fun L hL => ?_⟩
                  simp only [go_sem, ir81, E_spec_l26Faults_l1, R_spec_l26Faults_l1, ir81_b0, ir81_k0, ir81_o0, ir81_r0, hk1, hk2, lhk2, xhk2, fhk3, ghk4, hhk4, fhk4, hk5, ghk6, hk6, lhk6, xhk6, ghk7a, ghk8, hk8, lhk8, xhk8, hk9]
                · try simp only [go_sem, n1, n2, n3, n4, hk1, hk2, ghk4, hhk4, hk5, ghk6, hk6, ghk7a, ghk8, hk8] at hk9
                  all_goals
                  obtain rfl := so_some h
                  refine ⟨0, fun L hL => ?_⟩
                  simp only [go_sem, ir81, E_spec_l26Faults_l1, R_spec_l26Faults_l1, ir81_b0, ir81_k0, ir81_o0, ir81_r0, hk1, hk2, lhk2, xhk2, fhk3, ghk4, hhk4, fhk4, hk5, ghk6, hk6, lhk6, xhk6, ghk7a, ghk8, hk8, lhk8, xhk8, hk9]
              · rcases and_f ghk8 with ghk8a | ⟨ghk8a, ghk8b⟩
                · rcases and_f ghk8a with ghk8aa | ⟨ghk8aa, ghk8ab⟩
                  · try simp only [go_sem, n1, n2, n3, n4, hk1, hk2, ghk4, hhk4, hk5, ghk6, hk6, ghk7a] at ghk8aa
                    all_goals
                    rcases it_some h with ⟨hk9, h⟩ | ⟨hk9, h⟩
                    · try simp only [go_sem, n1, n2, n3, n4, hk1, hk2, ghk4, hhk4, hk5, ghk6, hk6, ghk7a, ghk8aa] at hk9
                      all_goals
                      obtain rfl := so_some h
                      refine ⟨0, fun L hL => ?_⟩
                      simp only [go_sem, ir81, E_spec_l26Faults_l1, R_spec_l26Faults_l1, ir81_b0, ir81_k0, ir81_o0, ir81_r0, hk1, hk2, lhk2, xhk2, fhk3, ghk4, hhk4, fhk4, hk5, ghk6, hk6, lhk6, xhk6, ghk7a, ghk8aa, hk9]
                    · try simp only [go_sem, n1, n2, n3, n4, hk1, hk2, ghk4, hhk4, hk5, ghk6, hk6, ghk7a, ghk8aa] at hk9
                      all_goals
                      obtain rfl := so_some h
                      refine ⟨0, fun L hL => ?_⟩
                      simp only [go_sem, ir81, E_spec_l26Faults_l1, R_spec_l26Faults_l1, ir81_b0, ir81_k0, ir81_o0, ir81_r0, hk1, hk2, lhk2, xhk2, fhk3, ghk4, hhk4, fhk4, hk5, ghk6, hk6, lhk6, xhk6, ghk7a, ghk8aa, hk9]
                  · have ghk8abn := no_f ghk8ab
                    try simp only [go_sem, n1, n2, n3, n4, hk1, hk2, ghk4, hhk4, hk5, ghk6, hk6, ghk7a] at ghk8aa
                    all_goals
                    try simp only [go_sem, n1, n2, n3, n4, hk1, hk2, ghk4, hhk4, hk5, ghk6, hk6, ghk7a, ghk8aa] at ghk8abn
                    all_goals
                    rcases it_some h with ⟨hk9, h⟩ | ⟨hk9, h⟩
                    · try simp only [go_sem, n1, n2, n3, n4, hk1, hk2, ghk4, hhk4, hk5, ghk6, hk6, ghk7a, ghk8aa, ghk8abn] at hk9
                      all_goals
                      obtain rfl := so_some h
                      refine ⟨0, fun L hL => ?_⟩
                      simp only [go_sem, ir81, E_spec_l26Faults_l1, R_spec_l26Faults_l1, ir81_b0, ir81_k0, ir81_o0, ir81_r0, hk1, hk2, lhk2, xhk2, fhk3, ghk4, hhk4, fhk4, hk5, ghk6, hk6, lhk6, xhk6, ghk7a, ghk8aa, ghk8abn, hk9]
                    · try simp only [go_sem, n1, n2, n3, n4, hk1, hk2, ghk4, hhk4, hk5, ghk6, hk6, ghk7a, ghk8aa, ghk8abn] at hk9
                      all_goals
                      obtain rfl := so_some h
                      refine ⟨0, fun L hL => ?_⟩
                      simp only [go_sem, ir81, E_spec_l26Faults_l1, R_spec_l26Faults_l1, ir81_b0, ir81_k0, ir81_o0, ir81_r0, hk1, hk2, lhk2, xhk2, fhk3, ghk4, hhk4, fhk4, hk5, ghk6, hk6, lhk6, xhk6, ghk7a, ghk8aa, ghk8abn, hk9]
                · obtain ⟨ghk8aa, ghk8ab⟩ := and_t ghk8a
                  have ghk8abn := no_t ghk8ab
                  try simp only [go_sem, n1, n2, n3, n4, hk1, hk2, ghk4, hhk4, hk5, ghk6, hk6, ghk7a] at ghk8aa
                  all_goals
                  try simp only [go_sem, n1, n2, n3, n4, hk1, hk2, ghk4, hhk4, hk5, ghk6, hk6, ghk7a, ghk8aa] at ghk8abn
                  all_goals
                  try simp only [go_sem, n1, n2, n3, n4, hk1, hk2, ghk4, hhk4, hk5, ghk6, hk6, ghk7a, ghk8aa, ghk8abn] at ghk8b
                  all_goals
                  rcases it_some h with ⟨hk9, h⟩ | ⟨hk9, h⟩
                  · try simp only [go_sem, n1, n2, n3, n4, hk1, hk2, ghk4, hhk4, hk5, ghk6, hk6, ghk7a, ghk8aa, ghk8abn, ghk8b] at hk9
                    all_goals
                    obtain rfl := so_some h
                    refine ⟨0, fun L hL => ?_⟩
                    simp only [go_sem, ir81, E_spec_l26Faults_l1, R_spec_l26Faults_l1, ir81_b0, ir81_k0, ir81_o0, ir81_r0, hk1, hk2, lhk2, xhk2, fhk3, ghk4, hhk4, fhk4, hk5, ghk6, hk6, lhk6, xhk6, ghk7a, ghk8aa, ghk8abn, ghk8b, hk9]
                  · try simp only [go_sem, n1, n2, n3, n4, hk1, hk2, ghk4, hhk4, hk5, ghk6, hk6, ghk7a, ghk8aa, ghk8abn, ghk8b] at hk9
                    all_goals
                    obtain rfl := so_some h
                    refine ⟨0, fun L hL => ?_⟩
                    simp only [go_sem, ir81, E_spec_l26Faults_l1, R_spec_l26Faults_l1, ir81_b0, ir81_k0, ir81_o0, ir81_r0, hk1, hk2, lhk2, xhk2, fhk3, ghk4, hhk4, fhk4, hk5, ghk6, hk6, lhk6, xhk6, ghk7a, ghk8aa, ghk8abn, ghk8b, hk9]
            · have ghk7bn := no_f ghk7b
              try simp only [go_sem, n1, n2, n3, n4, hk1, hk2, ghk4, hhk4, hk5, ghk6, hk6] at ghk7a
              all_goals
              try simp only [go_sem, n1, n2, n3, n4, hk1, hk2, ghk4, hhk4, hk5, ghk6, hk6, ghk7a] at ghk7bn
              all_goals
              obtain ⟨hk8, h⟩ := ck_some h
              rcases or_split hk8 with ⟨ghk8, hk8⟩ | ghk8
              · try simp only [go_sem, n1, n2, n3, n4, hk1, hk2, ghk4, hhk4, hk5, ghk6, hk6, ghk7a, ghk7bn] at ghk8
                all_goals
                have lhk8 := ix_lt hk8
                have xhk8 := getD_mapD Fault_av faults lhk8
                try simp only [go_sem] at lhk8
                try simp only [go_sem] at xhk8
                try simp only [go_sem, n1, n2, n3, n4, hk1, hk2, ghk4, hhk4, hk5, ghk6, hk6, ghk7a, ghk7bn, ghk8] at hk8
                all_goals
                rcases it_some h with ⟨hk9, h⟩ | ⟨hk9, h⟩
                · try simp only [go_sem, n1, n2, n3, n4, hk1, hk2, ghk4, hhk4, hk5, ghk6, hk6, ghk7a, ghk7bn, ghk8, hk8] at hk9
                  all_goals
                  obtain rfl := so_some h
                  refine ⟨0, fun L hL => ?_⟩
                  simp only [go_sem, ir81, E_spec_l26Faults_l1, R_spec_l26Faults_l1, ir81_b0, ir81_k0, ir81_o0, ir81_r0, hk1, hk2, lhk2, xhk2, fhk3, ghk4, hhk4, fhk4, hk5, ghk6, hk6, lhk6, xhk6, ghk7a, ghk7bn, ghk8, hk8, lhk8, xhk8, hk9]
                · try simp only [go_sem, n1, n2, n3, n4, hk1, hk2, ghk4, hhk4, hk5, ghk6, hk6, ghk7a, ghk7bn, ghk8, hk8] at hk9
                  all_goals
                  obtain rfl := so_some h
                  refine ⟨0, fun L hL => ?_⟩
                  simp only [go_sem, ir81, E_spec_l26Faults_l1, R_spec_l26Faults_l1, ir81_b0, ir81_k0, ir81_o0, ir81_r0, hk1, hk2, lhk2, xhk2, fhk3, ghk4, hhk4, fhk4, hk5, ghk6, hk6, lhk6, xhk6, ghk7a, ghk7bn, ghk8, hk8, lhk8, xhk8, hk9]
              · rcases and_f ghk8 with ghk8a | ⟨ghk8a, ghk8b⟩
                · rcases and_f ghk8a with ghk8aa | ⟨ghk8aa, ghk8ab⟩
                  · try simp only [go_sem, n1, n2, n3, n4, hk1, hk2, ghk4, hhk4, hk5, ghk6, hk6, ghk7a, ghk7bn] at ghk8aa
                    all_goals
                    rcases it_some h with ⟨hk9, h⟩ | ⟨hk9, h⟩
                    · try simp only [go_sem, n1, n2, n3, n4, hk1, hk2, ghk4, hhk4, hk5, ghk6, hk6, ghk7a, ghk7bn, ghk8aa] at hk9
                      all_goals
                      obtain rfl := so_some h
                      refine ⟨0, fun L hL => ?_⟩
                      simp only [go_sem, ir81, E_spec_l26Faults_l1, R_spec_l26Faults_l1, ir81_b0, ir81_k0, ir81_o0, ir81_r0, hk1, hk2, lhk2, xhk2, fhk3, ghk4, hhk4, fhk4, hk5, ghk6, hk6, lhk6, xhk6, ghk7a, ghk7bn, ghk8aa, hk9]
                    · try simp only [go_sem, n1, n2, n3, n4, hk1, hk2, ghk4, hhk4, hk5, ghk6, hk6, ghk7a, ghk7bn, ghk8aa] at hk9
                      all_goals
                      obtain rfl := so_some h
                      refine ⟨0, fun L hL => ?_⟩
                      simp only [go_sem, ir81, E_spec_l26Faults_l1, R_spec_l26Faults_l1, ir81_b0, ir81_k0, ir81_o0, ir81_r0, hk1, hk2, lhk2, xhk2, fhk3, ghk4, hhk4, fhk4, hk5, ghk6, hk6, lhk6, xhk6, ghk7a, ghk7bn, ghk8aa, hk9]
                  · have ghk8abn := no_f ghk8ab
                    try simp only [go_sem, n1, n2, n3, n4, hk1, hk2, ghk4, hhk4, hk5, ghk6, hk6, ghk7a, ghk7bn] at ghk8aa
                    all_goals
                    try simp only [go_sem, n1, n2, n3, n4, hk1, hk2, ghk4, hhk4, hk5, ghk6, hk6, ghk7a, ghk7bn, ghk8aa] at ghk8abn
                    all_goals
                    rcases it_some h with ⟨hk9, h⟩ | ⟨hk9, h⟩
                    · try simp only [go_sem, n1, n2, n3, n4, hk1, hk2, ghk4, hhk4, hk5, ghk6, hk6, ghk7a, ghk7bn, ghk8aa, ghk8abn] at hk9
                      all_goals
                      obtain rfl := so_some h
                      refine ⟨0, fun L hL => ?_⟩
                      simp only [go_sem, ir81, E_spec_l26Faults_l1, R_spec_l26Faults_l1, ir81_b0, ir81_k0, ir81_o0, ir81_r0, hk1, hk2, lhk2, xhk2, fhk3, ghk4, hhk4, fhk4, hk5, ghk6, hk6, lhk6, xhk6, ghk7a, ghk7bn, ghk8aa, ghk8abn, hk9]
                    · try simp only [go_sem, n1, n2, n3, n4, hk1, hk2, ghk4, hhk4, hk5, ghk6, hk6, ghk7a, ghk7bn, ghk8aa, ghk8abn] at hk9
                      all_goals
                      obtain rfl := so_some h
                      refine ⟨0, fun L hL => ?_⟩
                      simp only [go_sem, ir81, E_spec_l26Faults_l1, R_spec_l26Faults_l1, ir81_b0, ir81_k0, ir81_o0, ir81_r0, hk1, hk2, lhk2, xhk2, fhk3, ghk4, hhk4, fhk4, hk5, ghk6, hk6, lhk6, xhk6, ghk7a, ghk7bn, ghk8aa, ghk8abn, hk9]
                · obtain ⟨ghk8aa, ghk8ab⟩ := and_t ghk8a
                  have ghk8abn := no_t ghk8ab
                  try simp only [go_sem, n1, n2, n3, n4, hk1, hk2, ghk4, hhk4, hk5, ghk6, hk6, ghk7a, ghk7bn] at ghk8aa
                  all_goals
                  try simp only [go_sem, n1, n2, n3, n4, hk1, hk2, ghk4, hhk4, hk5, ghk6, hk6, ghk7a, ghk7bn, ghk8aa] at ghk8abn
                  all_goals
                  try simp only [go_sem, n1, n2, n3, n4, hk1, hk2, ghk4, hhk4, hk5, ghk6, hk6, ghk7a, ghk7bn, ghk8aa, ghk8abn] at ghk8b
                  all_goals
                  rcases it_some h with ⟨hk9, h⟩ | ⟨hk9, h⟩
                  · try simp only [go_sem, n1, n2, n3, n4, hk1, hk2, ghk4, hhk4, hk5, ghk6, hk6, ghk7a, ghk7bn, ghk8aa, ghk8abn, ghk8b] at hk9
                    all_goals
                    obtain rfl := so_some h
                    refine ⟨0, fun L hL => ?_⟩
                    simp only [go_sem, ir81, E_spec_l26Faults_l1, R_spec_l26Faults_l1, ir81_b0, ir81_k0, ir81_o0, ir81_r0, hk1, hk2, lhk2, xhk2, fhk3, ghk4, hhk4, fhk4, hk5, ghk6, hk6, lhk6, xhk6, ghk7a, ghk7bn, ghk8aa, ghk8abn, ghk8b, hk9]
                  · try simp only [go_sem, n1, n2, n3, n4, hk1, hk2, ghk4, hhk4, hk5, ghk6, hk6, ghk7a, ghk7bn, ghk8aa, ghk8abn, ghk8b] at hk9
                    all_goals
                    obtain rfl := so_some h
                    refine ⟨0, fun L hL => ?_⟩
                    simp only [go_sem, ir81, E_spec_l26Faults_l1, R_spec_l26Faults_l1, ir81_b0, ir81_k0, ir81_o0, ir81_r0, hk1, hk2, lhk2, xhk2, fhk3, ghk4, hhk4, fhk4, hk5, ghk6, hk6, lhk6, xhk6, ghk7a, ghk7bn, ghk8aa, ghk8abn, ghk8b, hk9]
        · try simp only [go_sem, n1, n2, n3, n4, hk1, hk2, ghk4, hhk4, hk5] at ghk6
          all_goals
          obtain ⟨hk7, h⟩ := ck_some h
          rcases or_split hk7 with ⟨ghk7, hk7⟩ | ghk7
          · try simp only [go_sem, n1, n2, n3, n4, hk1, hk2, ghk4, hhk4, hk5, ghk6] at ghk7
            all_goals
            have lhk7 := ix_lt hk7
            have xhk7 := getD_mapD Fault_av faults lhk7
            try simp only [go_sem] at lhk7
            try simp only [go_sem] at xhk7
            try simp only [go_sem, n1, n2, n3, n4, hk1, hk2, ghk4, hhk4, hk5, ghk6, ghk7] at hk7
            all_goals
            obtain ⟨hk8, h⟩ := ck_some h
            rcases or_split hk8 with ⟨ghk8, hk8⟩ | ghk8
            · try simp only [go_sem, n1, n2, n3, n4, hk1, hk2, ghk4, hhk4, hk5, ghk6, ghk7, hk7] at ghk8
              all_goals
              have lhk8 := ix_lt hk8
              have xhk8 := getD_mapD Fault_av faults lhk8
              try simp only [go_sem] at lhk8
              try simp only [go_sem] at xhk8
              try simp only [go_sem, n1, n2, n3, n4, hk1, hk2, ghk4, hhk4, hk5, ghk6, ghk7, hk7, ghk8] at hk8
              all_goals
              rcases it_some h with ⟨hk9, h⟩ | ⟨hk9, h⟩
              · try simp only [go_sem, n1, n2, n3, n4, hk1, hk2, ghk4, hhk4, hk5, ghk6, ghk7, hk7, ghk8, hk8] at hk9
                all_goals
                obtain rfl := so_some h
                refine ⟨0, fun L hL => ?_⟩
                simp only [go_sem, ir81, E_spec_l26Faults_l1, R_spec_l26Faults_l1, ir81_b0, ir81_k0, ir81_o0, ir81_r0, hk1, hk2, lhk2, xhk2, fhk3, ghk4, hhk4, fhk4, hk5, ghk6, ghk7, hk7, lhk7, xhk7, ghk8, hk8, lhk8, xhk8, hk9]
              · try simp only [go_sem, n1, n2, n3, n4, hk1, hk2, ghk4, hhk4, hk5, ghk6, ghk7, hk7, ghk8, hk8] at hk9
                all_goals
                obtain rfl := so_some h
                refine ⟨0, fun L hL => ?_⟩
                simp only [go_sem, ir81, E_spec_l26Faults_l1, R_spec_l26Faults_l1, ir81_b0, ir81_k0, ir81_o0, ir81_r0, hk1, hk2, lhk2, xhk2, fhk3, ghk4, hhk4, fhk4, hk5, ghk6, ghk7, hk7, lhk7, xhk7, ghk8, hk8, lhk8, xhk8, hk9]
            · rcases and_f ghk8 with ghk8a | ⟨ghk8a, ghk8b⟩
              · rcases and_f ghk8a with ghk8aa | ⟨ghk8aa, ghk8ab⟩
                · try simp only [go_sem, n1, n2, n3, n4, hk1, hk2, ghk4, hhk4, hk5, ghk6, ghk7, hk7] at ghk8aa
                  all_goals
                  rcases it_some h with ⟨hk9, h⟩ | ⟨hk9, h⟩
                  · try simp only [go_sem, n1, n2, n3, n4, hk1, hk2, ghk4, hhk4, hk5, ghk6, ghk7, hk7, ghk8aa] at hk9
                    all_goals
                    obtain rfl := so_some h
                    refine ⟨0, fun L hL => ?_⟩
                    simp only [go_sem, ir81, E_spec_l26Faults_l1, R_spec_l26Faults_l1, ir81_b0, ir81_k0, ir81_o0, ir81_r0, hk1, hk2, lhk2, xhk2, fhk3, ghk4, hhk4, fhk4, hk5, ghk6, ghk7, hk7, lhk7, xhk7, ghk8aa, hk9]
                  · try simp only [go_sem, n1, n2, n3, n4, hk1, hk2, ghk4, hhk4, hk5, ghk6, ghk7, hk7, ghk8aa] at hk9
                    all_goals
                    obtain rfl := so_some h
                    refine ⟨0, fun L hL => ?_⟩
                    simp only [go_sem, ir81, E_spec_l26Faults_l1, R_spec_l26Faults_l1, ir81_b0, ir81_k0, ir81_o0, ir81_r0, hk1, hk2, lhk2, xhk2, fhk3, ghk4, hhk4, fhk4, hk5, ghk6, ghk7, hk7, lhk7, xhk7, ghk8aa, hk9]
                · have ghk8abn := no_f ghk8ab
                  try simp only [go_sem, n1, n2, n3, n4, hk1, hk2, ghk4, hhk4, hk5, ghk6, ghk7, hk7] at ghk8aa
                  all_goals
                  try simp only [go_sem, n1, n2, n3, n4, hk1, hk2, ghk4, hhk4, hk5, ghk6, ghk7, hk7, ghk8aa] at ghk8abn
                  all_goals
                  rcases it_some h with ⟨hk9, h⟩ | ⟨hk9, h⟩
                  · try simp only [go_sem, n1, n2, n3, n4, hk1, hk2, ghk4, hhk4, hk5, ghk6, ghk7, hk7, ghk8aa, ghk8abn] at hk9
                    all_goals
                    obtain rfl := so_some h
                    refine ⟨0, fun L hL => ?_⟩
                    simp only [go_sem, ir81, E_spec_l26Faults_l1, R_spec_l26Faults_l1, ir81_b0, ir81_k0, ir81_o0, ir81_r0, hk1, hk2, lhk2, xhk2, fhk3, ghk4, hhk4, fhk4, hk5, ghk6, ghk7, hk7, lhk7, xhk7, ghk8aa, ghk8abn, hk9]
                  · try simp only [go_sem, n1, n2, n3, n4, hk1, hk2, ghk4, hhk4, hk5, ghk6, ghk7, hk7, ghk8aa, ghk8abn] at hk9
                    all_goals
                    obtain rfl := so_some h
                    refine ⟨0, fun L hL => ?_⟩
                    simp only [go_sem, ir81, E_spec_l26Faults_l1, R_spec_l26Faults_l1, ir81_b0, ir81_k0, ir81_o0, ir81_r0, hk1, hk2, lhk2, xhk2, fhk3, ghk4, hhk4, fhk4, hk5, ghk6, ghk7, hk7, lhk7, xhk7, ghk8aa, ghk8abn, hk9]
              · obtain ⟨ghk8aa, ghk8ab⟩ := and_t ghk8a
                have ghk8abn := no_t ghk8ab
                try simp only [go_sem, n1, n2, n3, n4, hk1, hk2, ghk4, hhk4, hk5, ghk6, ghk7, hk7] at ghk8aa
                all_goals
                try simp only [go_sem, n1, n2, n3, n4, hk1, hk2, ghk4, hhk4, hk5, ghk6, ghk7, hk7, ghk8aa] at ghk8abn
                all_goals
                try simp only [go_sem, n1, n2, n3, n4, hk1, hk2, ghk4, hhk4, hk5, ghk6, ghk7, hk7, ghk8aa, ghk8abn] at ghk8b
                all_goals
                rcases it_some h with ⟨hk9, h⟩ | ⟨hk9, h⟩
                · try simp only [go_sem, n1, n2, n3, n4, hk1, hk2, ghk4, hhk4, hk5, ghk6, ghk7, hk7, ghk8aa, ghk8abn, ghk8b] at hk9
                  all_goals
                  obtain rfl := so_some h
                  refine ⟨0, fun L hL => ?_⟩
                  simp only [go_sem, ir81, E_spec_l26Faults_l1, R_spec_l26Faults_l1, ir81_b0, ir81_k0, ir81_o0, ir81_r0, hk1, hk2, lhk2, xhk2, fhk3, ghk4, hhk4, fhk4, hk5, ghk6, ghk7, hk7, lhk7, xhk7, ghk8aa, ghk8abn, ghk8b, hk9]
                · try simp only [go_sem, n1, n2, n3, n4, hk1, hk2, ghk4, hhk4, hk5, ghk6, ghk7, hk7, ghk8aa, ghk8abn, ghk8b] at hk9
                  all_goals
                  obtain rfl := so_some h
                  refine ⟨0, fun L hL => ?_⟩
                  simp only [go_sem, ir81, E_spec_l26Faults_l1, R_spec_l26Faults_l1, ir81_b0, ir81_k0, ir81_o0, ir81_r0, hk1, hk2, lhk2, xhk2, fhk3, ghk4, hhk4, fhk4, hk5, ghk6, ghk7, hk7, lhk7, xhk7, ghk8aa, ghk8abn, ghk8b, hk9]
          · rcases and_f ghk7 with ghk7a | ⟨ghk7a, ghk7b⟩
            · try simp only [go_sem, n1, n2, n3, n4, hk1, hk2, ghk4, hhk4, hk5, ghk6] at ghk7a
              all_goals
              obtain ⟨hk8, h⟩ := ck_some h
              rcases or_split hk8 with ⟨ghk8, hk8⟩ | ghk8
              · try simp only [go_sem, n1, n2, n3, n4, hk1, hk2, ghk4, hhk4, hk5, ghk6, ghk7a] at ghk8
                all_goals
                have lhk8 := ix_lt hk8
                have xhk8 := getD_mapD Fault_av faults lhk8
                try simp only [go_sem] at lhk8
                try simp only [go_sem] at xhk8
                try simp only [go_sem, n1, n2, n3, n4, hk1, hk2, ghk4, hhk4, hk5, ghk6, ghk7a, ghk8] at hk8
                all_goals
                rcases it_some h with ⟨hk9, h⟩ | ⟨hk9, h⟩
                · try simp only [go_sem, n1, n2, n3, n4, hk1, hk2, ghk4, hhk4, hk5, ghk6, ghk7a, ghk8, hk8] at hk9
                  all_goals
                  obtain rfl := so_some h
                  refine ⟨0, fun L hL => ?_⟩
                  simp only [go_sem, ir81, E_spec_l26Faults_l1, R_spec_l26Faults_l1, ir81_b0, ir81_k0, ir81_o0, ir81_r0, hk1, hk2, lhk2, xhk2, fhk3, ghk4, hhk4, fhk4, hk5, ghk6, ghk7a, ghk8, hk8, lhk8, xhk8, hk9]
                · try simp only [go_sem, n1, n2, n3, n4, hk1, hk2, ghk4, hhk4, hk5, ghk6, ghk7a, ghk8, hk8] at hk9
                  all_goals
                  obtain rfl := so_some h
                  refine ⟨0, fun L hL => ?_⟩
                  simp only [go_sem, ir81, E_spec_l26Faults_l1, R_spec_l26Faults_l1, ir81_b0, ir81_k0, ir81_o0, ir81_r0, hk1, hk2, lhk2, xhk2, fhk3, ghk4, hhk4, fhk4, hk5, ghk6, ghk7a, ghk8, hk8, lhk8, xhk8, hk9]
              · rcases and_f ghk8 with ghk8a | ⟨ghk8a, ghk8b⟩
                · rcases and_f ghk8a with ghk8aa | ⟨ghk8aa, ghk8ab⟩
                  · try simp only [go_sem, n1, n2, n3, n4, hk1, hk2, ghk4, hhk4, hk5, ghk6, ghk7a] at ghk8aa
                    all_goals
                    rcases it_some h with ⟨hk9, h⟩ | ⟨hk9, h⟩
                    · try simp only [go_sem, n1, n2, n3, n4, hk1, hk2, ghk4, hhk4, hk5, ghk6, ghk7a, ghk8aa] at hk9
                      all_goals
                      obtain rfl := so_some h
                      refine ⟨0, fun L hL => ?_⟩
                      simp only [go_sem, ir81, E_spec_l26Faults_l1, R_spec_l26Faults_l1, ir81_b0, ir81_k0, ir81_o0, ir81_r0, hk1, hk2, lhk2, xhk2, fhk3, ghk4, hhk4, fhk4, hk5, ghk6, ghk7a, ghk8aa, hk9]
                    · try simp only [go_sem, n1, n2, n3, n4, hk1, hk2, ghk4, hhk4, hk5, ghk6, ghk7a, ghk8aa] at hk9
                      all_goals
                      obtain rfl := so_some h
                      refine ⟨0, fun L hL => ?_⟩
                      simp only [go_sem, ir81, E_spec_l26Faults_l1, R_spec_l26Faults_l1, ir81_b0, ir81_k0, ir81_o0, ir81_r0, hk1, hk2, lhk2, xhk2, fhk3, ghk4, hhk4, fhk4, hk5, ghk6, ghk7a, ghk8aa, hk9]
                  · have ghk8abn := no_f ghk8ab
                    try simp only [go_sem, n1, n2, n3, n4, hk1, hk2, ghk4, hhk4, hk5, ghk6, ghk7a] at ghk8aa
                    all_goals
                    try simp only [go_sem, n1, n2, n3, n4, hk1, hk2, ghk4, hhk4, hk5, ghk6, ghk7a, ghk8aa] at ghk8abn
                    all_goals
                    rcases it_some h with ⟨hk9, h⟩ | ⟨hk9, h⟩
                    · try simp only [go_sem, n1, n2, n3, n4, hk1, hk2, ghk4, hhk4, hk5, ghk6, ghk7a, ghk8aa, ghk8abn] at hk9
                      all_goals
                      obtain rfl := so_some h
                      refine ⟨0, fun L hL => ?_⟩
                      simp only [go_sem, ir81, E_spec_l26Faults_l1, R_spec_l26Faults_l1, ir81_b0, ir81_k0, ir81_o0, ir81_r0, hk1, hk2, lhk2, xhk2, fhk3, ghk4, hhk4, fhk4, hk5, ghk6, ghk7a, ghk8aa, ghk8abn, hk9]
                    · try simp only [go_sem, n1, n2, n3, n4, hk1, hk2, ghk4, hhk4, hk5, ghk6, ghk7a, ghk8aa, ghk8abn] at hk9
                      all_goals
                      obtain rfl := so_some h
                      refine ⟨0, fun L hL => ?_⟩
                      simp only [go_sem, ir81, E_spec_l26Faults_l1, R_spec_l26Faults_l1, ir81_b0, ir81_k0, ir81_o0, ir81_r0, hk1, hk2, lhk2, xhk2, fhk3, ghk4, hhk4, fhk4, hk5, ghk6, ghk7a, ghk8aa, ghk8abn, hk9]
                · obtain ⟨ghk8aa, ghk8ab⟩ := and_t ghk8a
                  have ghk8abn := no_t ghk8ab
                  try simp only [go_sem, n1, n2, n3, n4, hk1, hk2, ghk4, hhk4, hk5, ghk6, ghk7a] at ghk8aa
                  all_goals
                  try simp only [go_sem, n1, n2, n3, n4, hk1, hk2, ghk4, hhk4, hk5, ghk6, ghk7a, ghk8aa] at ghk8abn
                  all_goals
                  try simp only [go_sem, n1, n2, n3, n4, hk1, hk2, ghk4, hhk4, hk5, ghk6, ghk7a, ghk8aa, ghk8abn] at ghk8b
                  all_goals
                  rcases it_some h with ⟨hk9, h⟩ | ⟨hk9, h⟩
                  · try simp only [go_sem, n1, n2, n3, n4, hk1, hk2, ghk4, hhk4, hk5, ghk6, ghk7a, ghk8aa, ghk8abn, ghk8b] at hk9
                    all_goals
                    obtain rfl := so_some h
                    refine ⟨0, fun L hL => ?_⟩
                    simp only [go_sem, ir81, E_spec_l26Faults_l1, R_spec_l26Faults_l1, ir81_b0, ir81_k0, ir81_o0, ir81_r0, hk1, hk2, lhk2, xhk2, fhk3, ghk4, hhk4, fhk4, hk5, ghk6, ghk7a, ghk8aa, ghk8abn, ghk8b, hk9]
                  · try simp only [go_sem, n1, n2, n3, n4, hk1, hk2, ghk4, hhk4, hk5, ghk6, ghk7a, ghk8aa, ghk8abn, ghk8b] at hk9
                    all_goals
                    obtain rfl := so_some h
                    refine ⟨0, fun L hL => ?_⟩
                    simp only [go_sem, ir81, E_spec_l26Faults_l1, R_spec_l26Faults_l1, ir81_b0, ir81_k0, ir81_o0, ir81_r0, hk1, hk2, lhk2, xhk2, fhk3, ghk4, hhk4, fhk4, hk5, ghk6, ghk7a, ghk8aa, ghk8abn, ghk8b, hk9]
            · have ghk7bn := no_f ghk7b
              try simp only [go_sem, n1, n2, n3, n4, hk1, hk2, ghk4, hhk4, hk5, ghk6] at ghk7a
              all_goals
              try simp only [go_sem, n1, n2, n3, n4, hk1, hk2, ghk4, hhk4, hk5, ghk6, ghk7a] at ghk7bn
              all_goals
              obtain ⟨hk8, h⟩ := ck_some h
              rcases or_split hk8 with ⟨ghk8, hk8⟩ | ghk8
              · try simp only [go_sem, n1, n2, n3, n4, hk1, hk2, ghk4, hhk4, hk5, ghk6, ghk7a, ghk7bn] at ghk8
                all_goals
                have lhk8 := ix_lt hk8
                have xhk8 := getD_mapD Fault_av faults lhk8
                try simp only [go_sem] at lhk8
                try simp only [go_sem] at xhk8
                try simp only [go_sem, n1, n2, n3, n4, hk1, hk2, ghk4, hhk4, hk5, ghk6, ghk7a, ghk7bn, ghk8] at hk8
                all_goals
                rcases it_some h with ⟨hk9, h⟩ | ⟨hk9, h⟩
                · try simp only [go_sem, n1, n2, n3, n4, hk1, hk2, ghk4, hhk4, hk5, ghk6, ghk7a, ghk7bn, ghk8, hk8] at hk9
                  all_goals
                  obtain rfl := so_some h
                  refine ⟨0, fun L hL => ?_⟩
                  simp only [go_sem, ir81, E_spec_l26Faults_l1, R_spec_l26Faults_l1, ir81_b0, ir81_k0, ir81_o0, ir81_r0, hk1, hk2, lhk2, xhk2, fhk3, ghk4, hhk4, fhk4, hk5, ghk6, ghk7a, ghk7bn, ghk8, hk8, lhk8, xhk8, hk9]
                · try simp only [go_sem, n1, n2, n3, n4, hk1, hk2, ghk4, hhk4, hk5, ghk6, ghk7a, ghk7bn, ghk8, hk8] at hk9
                  all_goals
                  obtain rfl := so_some h
                  refine ⟨0, fun L hL => ?_⟩
                  simp only [go_sem, ir81, E_spec_l26Faults_l1, R_spec_l26Faults_l1, ir81_b0, ir81_k0, ir81_o0, ir81_r0, hk1, hk2, lhk2, xhk2, fhk3, ghk4, hhk4, fhk4, hk5, ghk6, ghk7a, ghk7bn, ghk8, hk8, lhk8, xhk8, hk9]
              · rcases and_f ghk8 with ghk8a | ⟨ghk8a, ghk8b⟩
                · rcases and_f ghk8a with ghk8aa | ⟨ghk8aa, ghk8ab⟩
                  · try simp only [go_sem, n1, n2, n3, n4, hk1, hk2, ghk4, hhk4, hk5, ghk6, ghk7a, ghk7bn] at ghk8aa
                    all_goals
                    rcases it_some h with ⟨hk9, h⟩ | ⟨hk9, h⟩
                    · try simp only [go_sem, n1, n2, n3, n4, hk1, hk2, ghk4, hhk4, hk5, ghk6, ghk7a, ghk7bn, ghk8aa] at hk9
                      all_goals
                      obtain rfl := so_some h
                      refine ⟨0, fun L hL => ?_⟩
                      simp only [go_sem, ir81, E_spec_l26Faults_l1, R_spec_l26Faults_l1, ir81_b0, ir81_k0, ir81_o0, ir81_r0, hk1, hk2, lhk2, xhk2, fhk3, ghk4, hhk4, fhk4, hk5, ghk6, ghk7a, ghk7bn, ghk8aa, hk9]
                    · try simp only [go_sem, n1, n2, n3, n4, hk1, hk2, ghk4, hhk4, hk5, ghk6, ghk7a, ghk7bn, ghk8aa] at hk9
                      all_goals
                      obtain rfl := so_some h
                      refine ⟨0, fun L hL => ?_⟩
                      simp only [go_sem, ir81, E_spec_l26Faults_l1, R_spec_l26Faults_l1, ir81_b0, ir81_k0, ir81_o0, ir81_r0, hk1, hk2, lhk2, xhk2, fhk3, ghk4, hhk4, fhk4, hk5, ghk6, ghk7a, ghk7bn, ghk8aa, hk9]
                  · have ghk8abn := no_f ghk8ab
                    try simp only [go_sem, n1, n2, n3, n4, hk1, hk2, ghk4, hhk4, hk5, ghk6, ghk7a, ghk7bn] at ghk8aa
                    all_goals
                    try simp only [go_sem, n1, n2, n3, n4, hk1, hk2, ghk4, hhk4, hk5, ghk6, ghk7a, ghk7bn, ghk8aa] at ghk8abn
                    all_goals
                    rcases it_some h with ⟨hk9, h⟩ | ⟨hk9, h⟩
                    · try simp only [go_sem, n1, n2, n3, n4, hk1, hk2, ghk4, hhk4, hk5, ghk6, ghk7a, ghk7bn, ghk8aa, ghk8abn] at hk9
                      all_goals
                      obtain rfl := so_some h
                      refine ⟨0, fun L hL => ?_⟩
                      simp only [go_sem, ir81, E_spec_l26Faults_l1, R_spec_l26Faults_l1, ir81_b0, ir81_k0, ir81_o0, ir81_r0, hk1, hk2, lhk2, xhk2, fhk3, ghk4, hhk4, fhk4, hk5, ghk6, ghk7a, ghk7bn, ghk8aa, ghk8abn, hk9]
                    · try simp only [go_sem, n1, n2, n3, n4, hk1, hk2, ghk4, hhk4, hk5, ghk6, ghk7a, ghk7bn, ghk8aa, ghk8abn] at hk9
                      all_goals
                      obtain rfl := so_some h
                      refine ⟨0, fun L hL => ?_⟩
                      simp only [go_sem, ir81, E_spec_l26Faults_l1, R_spec_l26Faults_l1, ir81_b0, ir81_k0, ir81_o0, ir81_r0, hk1, hk2, lhk2, xhk2, fhk3, ghk4, hhk4, fhk4, hk5, ghk6, ghk7a, ghk7bn, ghk8aa, ghk8abn, hk9]
                · obtain ⟨ghk8aa, ghk8ab⟩ := and_t ghk8a
                  have ghk8abn := no_t ghk8ab
                  try simp only [go_sem, n1, n2, n3, n4, hk1, hk2, ghk4, hhk4, hk5, ghk6, ghk7a, ghk7bn] at ghk8aa
                  all_goals
                  try simp only [go_sem, n1, n2, n3, n4, hk1, hk2, ghk4, hhk4, hk5, ghk6, ghk7a, ghk7bn, ghk8aa] at ghk8abn
                  all_goals
                  try simp only [go_sem, n1, n2, n3, n4, hk1, hk2, ghk4, hhk4, hk5, ghk6, ghk7a, ghk7bn, ghk8aa, ghk8abn] at ghk8b
                  all_goals
                  rcases it_some h with ⟨hk9, h⟩ | ⟨hk9, h⟩
                  · try simp only [go_sem, n1, n2, n3, n4, hk1, hk2, ghk4, hhk4, hk5, ghk6, ghk7a, ghk7bn, ghk8aa, ghk8abn, ghk8b] at hk9
                    all_goals
                    obtain rfl := so_some h
                    refine ⟨0, fun L hL => ?_⟩
                    simp only [go_sem, ir81, E_spec_l26Faults_l1, R_spec_l26Faults_l1, ir81_b0, ir81_k0, ir81_o0, ir81_r0, hk1, hk2, lhk2, xhk2, fhk3, ghk4, hhk4, fhk4, hk5, ghk6, ghk7a, ghk7bn, ghk8aa, ghk8abn, ghk8b, hk9]
                  · try simp only [go_sem, n1, n2, n3, n4, hk1, hk2, ghk4, hhk4, hk5, ghk6, ghk7a, ghk7bn, ghk8aa, ghk8abn, ghk8b] at hk9
                    all_goals
                    obtain rfl := so_some h
                    refine ⟨0, fun L hL => ?_⟩
                    simp only [go_sem, ir81, E_spec_l26Faults_l1, R_spec_l26Faults_l1, ir81_b0, ir81_k0, ir81_o0, ir81_r0, hk1, hk2, lhk2, xhk2, fhk3, ghk4, hhk4, fhk4, hk5, ghk6, ghk7a, ghk7bn, ghk8aa, ghk8abn, ghk8b, hk9]
    · have ghk4n := no_f ghk4
      have ghk4nn := no_t ghk4n
      try simp only [go_sem, n1, n2, n3, n4, hk1, hk2] at ghk4nn
      all_goals
      rcases it_some h with ⟨hk5, h⟩ | ⟨hk5, h⟩
      · try simp only [go_sem, n1, n2, n3, n4, hk1, hk2, ghk4nn] at hk5
        all_goals
        obtain rfl := so_some h
        refine ⟨0, fun L hL => ?_⟩
        simp only [go_sem, ir81, E_spec_l26Faults_l1, R_spec_l26Faults_l1, ir81_b0, ir81_k0, ir81_o0, ir81_r0, hk1, hk2, lhk2, xhk2, fhk3, ghk4nn, hk5]
      · try simp only [go_sem, n1, n2, n3, n4, hk1, hk2, ghk4nn] at hk5
        all_goals
        obtain ⟨hk6, h⟩ := ck_some h
        rcases or_split hk6 with ⟨ghk6, hk6⟩ | ghk6
        · try simp only [go_sem, n1, n2, n3, n4, hk1, hk2, ghk4nn, hk5] at ghk6
          all_goals
          have lhk6 := ix_lt hk6
          have xhk6 := getD_mapD Fault_av faults lhk6
          try simp only [go_sem] at lhk6
          try simp only [go_sem] at xhk6
          try simp only [go_sem, n1, n2, n3, n4, hk1, hk2, ghk4nn, hk5, ghk6] at hk6
          all_goals
          obtain ⟨hk7, h⟩ := ck_some h
          rcases or_split hk7 with ⟨ghk7, hk7⟩ | ghk7
          · try simp only [go_sem, n1, n2, n3, n4, hk1, hk2, ghk4nn, hk5, ghk6, hk6] at ghk7
            all_goals
            have lhk7 := ix_lt hk7
            have xhk7 := getD_mapD Fault_av faults lhk7
            try simp only [go_sem] at lhk7
            try simp only [go_sem] at xhk7
            try simp only [go_sem, n1, n2, n3, n4, hk1, hk2, ghk4nn, hk5, ghk6, hk6, ghk7] at hk7
            all_goals
            obtain ⟨hk8, h⟩ := ck_some h
            rcases or_split hk8 with ⟨ghk8, hk8⟩ | ghk8
            · try simp only [go_sem, n1, n2, n3, n4, hk1, hk2, ghk4nn, hk5, ghk6, hk6, ghk7, hk7] at ghk8
              all_goals
              have lhk8 := ix_lt hk8
              have xhk8 := getD_mapD Fault_av faults lhk8
              try simp only [go_sem] at lhk8
              try simp only [go_sem] at xhk8
              try simp only [go_sem, n1, n2, n3, n4, hk1, hk2, ghk4nn, hk5, ghk6, hk6, ghk7, hk7, ghk8] at hk8
              all_goals
              rcases it_some h with ⟨hk9, h⟩ | ⟨hk9, h⟩
              · try simp only [go_sem, n1, n2, n3, n4, hk1, hk2, ghk4nn, hk5, ghk6, hk6, ghk7, hk7, ghk8, hk8] at hk9
                all_goals
                obtain rfl := so_some h
                refine ⟨0, fun L hL => ?_⟩
                simp only [go_sem, ir81, E_spec_l26Faults_l1, R_spec_l26Faults_l1, ir81_b0, ir81_k0, ir81_o0, ir81_r0, hk1, hk2, lhk2, xhk2, fhk3, ghk4nn, hk5, ghk6, hk6, lhk6, xhk6, ghk7, hk7, lhk7, xhk7, ghk8, hk8, lhk8, xhk8, hk9]
              · try simp only [go_sem, n1, n2, n3, n4, hk1, hk2, ghk4nn, hk5, ghk6, hk6, ghk7, hk7, ghk8, hk8] at hk9
                all_goals
                obtain rfl := so_some h
                refine ⟨0, fun L hL => ?_⟩
                simp only [go_sem, ir81, E_spec_l26Faults_l1, R_spec_l26Faults_l1, ir81_b0, ir81_k0, ir81_o0, ir81_r0, hk1, hk2, lhk2, xhk2, fhk3, ghk4nn, hk5, ghk6, hk6, lhk6, xhk6, ghk7, hk7, lhk7, xhk7, ghk8, hk8, lhk8, xhk8, hk9]
            · rcases and_f ghk8 with ghk8a | ⟨ghk8a, ghk8b⟩
              · rcases and_f ghk8a with ghk8aa | ⟨ghk8aa, ghk8ab⟩
                · try simp only [go_sem, n1, n2, n3, n4, hk1, hk2, ghk4nn, hk5, ghk6, hk6, ghk7, hk7] at ghk8aa
                  all_goals
                  rcases it_some h with ⟨hk9, h⟩ | ⟨hk9, h⟩
                  · try simp only [go_sem, n1, n2, n3, n4, hk1, hk2, ghk4nn, hk5, ghk6, hk6, ghk7, hk7, ghk8aa] at hk9
                    all_goals
                    obtain rfl := so_some h
                    refine ⟨0, fun L hL => ?_⟩
                    simp only [go_sem, ir81, E_spec_l26Faults_l1, R_spec_l26Faults_l1, ir81_b0, ir81_k0, ir81_o0, ir81_r0, hk1, hk2, lhk2, xhk2, fhk3, ghk4nn, hk5, ghk6, hk6, lhk6, xhk6, ghk7, hk7, lhk7, xhk7, ghk8aa, hk9]
                  · try simp only [go_sem, n1, n2, n3, n4, hk1, hk2, ghk4nn, hk5, ghk6, hk6, ghk7, hk7, ghk8aa] at hk9
                    all_goals
                    obtain rfl := so_some h
                    refine ⟨0, fun L hL => ?_⟩
                    simp only [go_sem, ir81, E_spec_l26Faults_l1, R_spec_l26Faults_l1, ir81_b0, ir81_k0, ir81_o0, ir81_r0, hk1, hk2, lhk2, xhk2, fhk3, ghk4nn, hk5, ghk6, hk6, lhk6, xhk6, ghk7, hk7, lhk7, xhk7, ghk8aa, hk9]
                · have ghk8abn := no_f ghk8ab
                  try simp only [go_sem, n1, n2, n3, n4, hk1, hk2, ghk4nn, hk5, ghk6, hk6, ghk7, hk7] at ghk8aa
                  all_goals
                  try simp only [go_sem, n1, n2, n3, n4, hk1, hk2, ghk4nn, hk5, ghk6, hk6, ghk7, hk7, ghk8aa] at ghk8abn
                  all_goals
                  rcases it_some h with ⟨hk9, h⟩ | ⟨hk9, h⟩
                  · try simp only [go_sem, n1, n2, n3, n4, hk1, hk2, ghk4nn, hk5, ghk6, hk6, ghk7, hk7, ghk8aa, ghk8abn] at hk9
                    all_goals
                    obtain rfl := so_some h
                    refine ⟨0, fun L hL => ?_⟩
                    simp only [go_sem, ir81, E_spec_l26Faults_l1, R_spec_l26Faults_l1, ir81_b0, ir81_k0, ir81_o0, ir81_r0, hk1, hk2, lhk2, xhk2, fhk3, ghk4nn, hk5, ghk6, hk6, lhk6, xhk6, ghk7, hk7, lhk7, xhk7, ghk8aa, ghk8abn, hk9]
                  · try simp only [go_sem, n1, n2, n3, n4, hk1, hk2, ghk4nn, hk5, ghk6, hk6, ghk7, hk7, ghk8aa, ghk8abn] at hk9
                    all_goals
                    obtain rfl := so_some h
                    refine ⟨0, fun L hL => ?_⟩
                    simp only [go_sem, ir81, E_spec_l26Faults_l1, R_spec_l26Faults_l1, ir81_b0, ir81_k0, ir81_o0, ir81_r0, hk1, hk2, lhk2, xhk2, fhk3, ghk4nn, hk5, ghk6, hk6, lhk6, xhk6, ghk7, hk7, lhk7, xhk7, ghk8aa, ghk8abn, hk9]
              · obtain ⟨ghk8aa, ghk8ab⟩ := and_t ghk8a
                have ghk8abn := no_t ghk8ab
                try simp only [go_sem, n1, n2, n3, n4, hk1, hk2, ghk4nn, hk5, ghk6, hk6, ghk7, hk7] at ghk8aa
                all_goals
                try simp only [go_sem, n1, n2, n3, n4, hk1, hk2, ghk4nn, hk5, ghk6, hk6, ghk7, hk7, ghk8aa] at ghk8abn
                all_goals
                try simp only [go_sem, n1, n2, n3, n4, hk1, hk2, ghk4nn, hk5, ghk6, hk6, ghk7, hk7, ghk8aa, ghk8abn] at ghk8b
                all_goals
                rcases it_some h with ⟨hk9, h⟩ | ⟨hk9, h⟩
                · try simp only [go_sem, n1, n2, n3, n4, hk1, hk2, ghk4nn, hk5, ghk6, hk6, ghk7, hk7, ghk8aa, ghk8abn, ghk8b] at hk9
                  all_goals
                  obtain rfl := so_some h
                  refine ⟨0, fun L hL => ?_⟩
                  simp only [go_sem, ir81, E_spec_l26Faults_l1, R_spec_l26Faults_l1, ir81_b0, ir81_k0, ir81_o0, ir81_r0, hk1, hk2, lhk2, xhk2, fhk3, ghk4nn, hk5, ghk6, hk6, lhk6, xhk6, ghk7, hk7, lhk7, xhk7, ghk8aa, ghk8abn, ghk8b, hk9]
                · try simp only [go_sem, n1, n2, n3, n4, hk1, hk2, ghk4nn, hk5, ghk6, hk6, ghk7, hk7, ghk8aa, ghk8abn, ghk8b] at hk9
                  all_goals
                  obtain rfl := so_some h
                  refine ⟨0, fun L hL => ?_⟩
                  simp only [go_sem, ir81, E_spec_l26Faults_l1, R_spec_l26Faults_l1, ir81_b0, ir81_k0, ir81_o0, ir81_r0, hk1, hk2, lhk2, xhk2, fhk3, ghk4nn, hk5, ghk6, hk6, lhk6, xhk6, ghk7, hk7, lhk7, xhk7, ghk8aa, ghk8abn, ghk8b, hk9]
          · rcases and_f ghk7 with ghk7a | ⟨ghk7a, ghk7b⟩
            · try simp only [go_sem, n1, n2, n3, n4, hk1, hk2, ghk4nn, hk5, ghk6, hk6] at ghk7a
              all_goals
              obtain ⟨hk8, h⟩ := ck_some h
              rcases or_split hk8 with ⟨ghk8, hk8⟩ | ghk8
              · try simp only [go_sem, n1, n2, n3, n4, hk1, hk2, ghk4nn, hk5, ghk6, hk6, ghk7a] at ghk8
                all_goals
                have lhk8 := ix_lt hk8
                have xhk8 := getD_mapD Fault_av faults lhk8
                try simp only [go_sem] at lhk8
                try simp only [go_sem] at xhk8
                try simp only [go_sem, n1, n2, n3, n4, hk1, hk2, ghk4nn, hk5, ghk6, hk6, ghk7a, ghk8] at hk8
                all_goals
                rcases it_some h with ⟨hk9, h⟩ | ⟨hk9, h⟩
                · try simp only [go_sem, n1, n2, n3, n4, hk1, hk2, ghk4nn, hk5, ghk6, hk6, ghk7a, ghk8, hk8] at hk9
                  all_goals
                  obtain rfl := so_some h
                  refine ⟨0, fun L hL => ?_⟩
                  simp only [go_sem, ir81, E_spec_l26Faults_l1, R_spec_l26Faults_l1, ir81_b0, ir81_k0, ir81_o0, ir81_r0, hk1, hk2, lhk2, xhk2, fhk3, ghk4nn, hk5, ghk6, hk6, lhk6, xhk6, ghk7a, ghk8, hk8, lhk8, xhk8, hk9]
                · try simp only [go_sem, n1, n2, n3, n4, hk1, hk2, ghk4nn, hk5, ghk6, hk6, ghk7a, ghk8, hk8] at hk9
                  all_goals
                  obtain rfl := so_some h
                  refine ⟨0, fun L hL => ?_⟩
                  simp only [go_sem, ir81, E_spec_l26Faults_l1, R_spec_l26Faults_l1, ir81_b0, ir81_k0, ir81_o0, ir81_r0, hk1, hk2, lhk2, xhk2, fhk3, ghk4nn, hk5, ghk6, hk6, lhk6, xhk6, ghk7a, ghk8, hk8, lhk8, xhk8, hk9]
              · rcases and_f ghk8 with ghk8a | ⟨ghk8a, ghk8b⟩
                · rcases and_f ghk8a with ghk8aa | ⟨ghk8aa, ghk8ab⟩
                  · try simp only [go_sem, n1, n2, n3, n4, hk1, hk2, ghk4nn, hk5, ghk6, hk6, ghk7a] at ghk8aa
                    all_goals
                    rcases it_some h with ⟨hk9, h⟩ | ⟨hk9, h⟩
                    · try simp only [go_sem, n1, n2, n3, n4, hk1, hk2, ghk4nn, hk5, ghk6, hk6, ghk7a, ghk8aa] at hk9
                      all_goals
                      obtain rfl := so_some h
                      refine ⟨0, fun L hL => ?_⟩
                      simp only [go_sem, ir81, E_spec_l26Faults_l1, R_spec_l26Faults_l1, ir81_b0, ir81_k0, ir81_o0, ir81_r0, hk1, hk2, lhk2, xhk2, fhk3, ghk4nn, hk5, ghk6, hk6, lhk6, xhk6, ghk7a, ghk8aa, hk9]
                    · try simp only [go_sem, n1, n2, n3, n4, hk1, hk2, ghk4nn, hk5, ghk6, hk6, ghk7a, ghk8aa] at hk9
                      all_goals
                      obtain rfl := so_some h
                      refine ⟨0, fun L hL => ?_⟩
                      simp only [go_sem, ir81, E_spec_l26Faults_l1, R_spec_l26Faults_l1, ir81_b0, ir81_k0, ir81_o0, ir81_r0, hk1, hk2, lhk2, xhk2, fhk3, ghk4nn, hk5, ghk6, hk6, lhk6, xhk6, ghk7a, ghk8aa, hk9]
                  · have ghk8abn := no_f ghk8ab
                    try simp only [go_sem, n1, n2, n3, n4, hk1, hk2, ghk4nn, hk5, ghk6, hk6, ghk7a] at ghk8aa
                    all_goals
                    try simp only [go_sem, n1, n2, n3, n4, hk1, hk2, ghk4nn, hk5, ghk6, hk6, ghk7a, ghk8aa] at ghk8abn
                    all_goals
                    rcases it_some h with ⟨hk9, h⟩ | ⟨hk9, h⟩
                    · try simp only [go_sem, n1, n2, n3, n4, hk1, hk2, ghk4nn, hk5, ghk6, hk6, ghk7a, ghk8aa, ghk8abn] at hk9
                      all_goals
                      obtain rfl := so_some h
                      refine ⟨0, fun L hL => ?_⟩
                      simp only [go_sem, ir81, E_spec_l26Faults_l1, R_spec_l26Faults_l1, ir81_b0, ir81_k0, ir81_o0, ir81_r0, hk1, hk2, lhk2, xhk2, fhk3, ghk4nn, hk5, ghk6, hk6, lhk6, xhk6, ghk7a, ghk8aa, ghk8abn, hk9]
                    · try simp only [go_sem, n1, n2, n3, n4, hk1, hk2, ghk4nn, hk5, ghk6, hk6, ghk7a, ghk8aa, ghk8abn] at hk9
                      all_goals
                      obtain rfl := so_some h
                      refine ⟨0, fun L hL => ?_⟩
                      simp only [go_sem, ir81, E_spec_l26Faults_l1, R_spec_l26Faults_l1, ir81_b0, ir81_k0, ir81_o0, ir81_r0, hk1, hk2, lhk2, xhk2, fhk3, ghk4nn, hk5, ghk6, hk6, lhk6, xhk6, ghk7a, ghk8aa, ghk8abn, hk9]
                · obtain ⟨ghk8aa, ghk8ab⟩ := and_t ghk8a
                  have ghk8abn := no_t ghk8ab
                  try simp only [go_sem, n1, n2, n3, n4, hk1, hk2, ghk4nn, hk5, ghk6, hk6, ghk7a] at ghk8aa
                  all_goals
                  try simp only [go_sem, n1, n2, n3, n4, hk1, hk2, ghk4nn, hk5, ghk6, hk6, ghk7a, ghk8aa] at ghk8abn
                  all_goals
                  try simp only [go_sem, n1, n2, n3, n4, hk1, hk2, ghk4nn, hk5, ghk6, hk6, ghk7a, ghk8aa, ghk8abn] at ghk8b
                  all_goals
                  rcases it_some h with ⟨hk9, h⟩ | ⟨hk9, h⟩
                  · try simp only [go_sem, n1, n2, n3, n4, hk1, hk2, ghk4nn, hk5, ghk6, hk6, ghk7a, ghk8aa, ghk8abn, ghk8b] at hk9
                    all_goals
                    obtain rfl := so_some h
                    refine ⟨0, fun L hL => ?_⟩
                    simp only [go_sem, ir81, E_spec_l26Faults_l1, R_spec_l26Faults_l1, ir81_b0, ir81_k0, ir81_o0, ir81_r0, hk1, hk2, lhk2, xhk2, fhk3, ghk4nn, hk5, ghk6, hk6, lhk6, xhk6, ghk7a, ghk8aa, ghk8abn, ghk8b, hk9]
                  · try simp only [go_sem, n1, n2, n3, n4, hk1, hk2, ghk4nn, hk5, ghk6, hk6, ghk7a, ghk8aa, ghk8abn, ghk8b] at hk9
                    all_goals
                    obtain rfl := so_some h
                    refine ⟨0, fun L hL => ?_⟩
                    simp only [go_sem, ir81, E_spec_l26Faults_l1, R_spec_l26Faults_l1, ir81_b0, ir81_k0, ir81_o0, ir81_r0, hk1, hk2, lhk2, xhk2, fhk3, ghk4nn, hk5, ghk6, hk6, lhk6, xhk6, ghk7a, ghk8aa, ghk8abn, ghk8b, hk9]
            · have ghk7bn := no_f ghk7b
              try simp only [go_sem, n1, n2, n3, n4, hk1, hk2, ghk4nn, hk5, ghk6, hk6] at ghk7a
              all_goals
              try simp only [go_sem, n1, n2, n3, n4, hk1, hk2, ghk4nn, hk5, ghk6, hk6, ghk7a] at ghk7bn
              all_goals
              obtain ⟨hk8, h⟩ := ck_some h
              rcases or_split hk8 with ⟨ghk8, hk8⟩ | ghk8
              · try simp only [go_sem, n1, n2, n3, n4, hk1, hk2, ghk4nn, hk5, ghk6, hk6, ghk7a, ghk7bn] at ghk8
                all_goals
                have lhk8 := ix_lt hk8
                have xhk8 := getD_mapD Fault_av faults lhk8
                try simp only [go_sem] at lhk8
                try simp only [go_sem] at xhk8
                try simp only [go_sem, n1, n2, n3, n4, hk1, hk2, ghk4nn, hk5, ghk6, hk6, ghk7a, ghk7bn, ghk8] at hk8
                all_goals
                rcases it_some h with ⟨hk9, h⟩ | ⟨hk9, h⟩
                · try simp only [go_sem, n1, n2, n3, n4, hk1, hk2, ghk4nn, hk5, ghk6, hk6, ghk7a, ghk7bn, ghk8, hk8] at hk9
                  all_goals
                  obtain rfl := so_some h
                  refine ⟨0, fun L hL => ?_⟩
                  simp only [go_sem, ir81, E_spec_l26Faults_l1, R_spec_l26Faults_l1, ir81_b0, ir81_k0, ir81_o0, ir81_r0, hk1, hk2, lhk2, xhk2, fhk3, ghk4nn, hk5, ghk6, hk6, lhk6, xhk6, ghk7a, ghk7bn, ghk8, hk8, lhk8, xhk8, hk9]
                · try simp only [go_sem, n1, n2, n3, n4, hk1, hk2, ghk4nn, hk5, ghk6, hk6, ghk7a, ghk7bn, ghk8, hk8] at hk9
                  all_goals
                  obtain rfl := so_some h
                  refine ⟨0, fun L hL => ?_⟩
                  simp only [go_sem, ir81, E_spec_l26Faults_l1, R_spec_l26Faults_l1, ir81_b0, ir81_k0, ir81_o0, ir81_r0, hk1, hk2, lhk2, xhk2, fhk3, ghk4nn, hk5, ghk6, hk6, lhk6, xhk6, ghk7a, ghk7bn, ghk8, hk8, lhk8, xhk8, hk9]
              · rcases and_f ghk8 with ghk8a | ⟨ghk8a, ghk8b⟩
                · rcases and_f ghk8a with ghk8aa | ⟨ghk8aa, ghk8ab⟩
                  · try simp only [go_sem, n1, n2, n3, n4, hk1, hk2, ghk4nn, hk5, ghk6, hk6, ghk7a, ghk7bn] at ghk8aa
                    all_goals
                    rcases it_some h with ⟨hk9, h⟩ | ⟨hk9, h⟩
                    · try simp only [go_sem, n1, n2, n3, n4, hk1, hk2, ghk4nn, hk5, ghk6, hk6, ghk7a, ghk7bn, ghk8aa] at hk9
                      all_goals
                      obtain rfl := so_some h
                      refine ⟨0, fun L hL => ?_⟩
                      simp only [go_sem, ir81, E_spec_l26Faults_l1, R_spec_l26Faults_l1, ir81_b0, ir81_k0, ir81_o0, ir81_r0, hk1, hk2, lhk2, xhk2, fhk3, ghk4nn, hk5, ghk6, hk6, lhk6, xhk6, ghk7a, ghk7bn, ghk8aa, hk9]
                    · try simp only [go_sem, n1, n2, n3, n4, hk1, hk2, ghk4nn, hk5, ghk6, hk6, ghk7a, ghk7bn, ghk8aa] at hk9
                      all_goals
                      obtain rfl := so_some h
                      refine ⟨0, fun L hL => ?_⟩
                      simp only [go_sem, ir81, E_spec_l26Faults_l1, R_spec_l26Faults_l1, ir81_b0, ir81_k0, ir81_o0, ir81_r0, hk1, hk2, lhk2, xhk2, fhk3, ghk4nn, hk5, ghk6, hk6, lhk6, xhk6, ghk7a, ghk7bn, ghk8aa, hk9]
                  · have ghk8abn := no_f ghk8ab
                    try simp only [go_sem, n1, n2, n3, n4, hk1, hk2, ghk4nn, hk5, ghk6, hk6, ghk7a, ghk7bn] at ghk8aa
                    all_goals
                    try simp only [go_sem, n1, n2, n3, n4, hk1, hk2, ghk4nn, hk5, ghk6, hk6, ghk7a, ghk7bn, ghk8aa] at ghk8abn
                    all_goals
                    rcases it_some h with ⟨hk9, h⟩ | ⟨hk9, h⟩
                    · try simp only [go_sem, n1, n2, n3, n4, hk1, hk2, ghk4nn, hk5, ghk6, hk6, ghk7a, ghk7bn, ghk8aa, ghk8abn] at hk9
                      all_goals
                      obtain rfl := so_some h
                      refine ⟨0, fun L hL => ?_⟩
                      simp only [go_sem, ir81, E_spec_l26Faults_l1, R_spec_l26Faults_l1, ir81_b0, ir81_k0, ir81_o0, ir81_r0, hk1, hk2, lhk2, xhk2, fhk3, ghk4nn, hk5, ghk6, hk6, lhk6, xhk6, ghk7a, ghk7bn, ghk8aa, ghk8abn, hk9]
                    · try simp only [go_sem, n1, n2, n3, n4, hk1, hk2, ghk4nn, hk5, ghk6, hk6, ghk7a, ghk7bn, ghk8aa, ghk8abn] at hk9
                      all_goals
                      obtain rfl := so_some h
                      refine ⟨0, fun L hL => ?_⟩
                      simp only [go_sem, ir81, E_spec_l26Faults_l1, R_spec_l26Faults_l1, ir81_b0, ir81_k0, ir81_o0, ir81_r0, hk1, hk2, lhk2, xhk2, fhk3, ghk4nn, hk5, ghk6, hk6, lhk6, xhk6, ghk7a, ghk7bn, ghk8aa, ghk8abn, hk9]
                · obtain ⟨ghk8aa, ghk8ab⟩ := and_t ghk8a
                  have ghk8abn := no_t ghk8ab
                  try simp only [go_sem, n1, n2, n3, n4, hk1, hk2, ghk4nn, hk5, ghk6, hk6, ghk7a, ghk7bn] at ghk8aa
                  all_goals
                  try simp only [go_sem, n1, n2, n3, n4, hk1, hk2, ghk4nn, hk5, ghk6, hk6, ghk7a, ghk7bn, ghk8aa] at ghk8abn
                  all_goals
                  try simp only [go_sem, n1, n2, n3, n4, hk1, hk2, ghk4nn, hk5, ghk6, hk6, ghk7a, ghk7bn, ghk8aa, ghk8abn] at ghk8b
                  all_goals
                  rcases it_some h with ⟨hk9, h⟩ | ⟨hk9, h⟩
                  · try simp only [go_sem, n1, n2, n3, n4, hk1, hk2, ghk4nn, hk5, ghk6, hk6, ghk7a, ghk7bn, ghk8aa, ghk8abn, ghk8b] at hk9
                    all_goals
                    obtain rfl := so_some h
                    refine ⟨0, fun L hL => ?_⟩
                    simp only [go_sem, ir81, E_spec_l26Faults_l1, R_spec_l26Faults_l1, ir81_b0, ir81_k0, ir81_o0, ir81_r0, hk1, hk2, lhk2, xhk2, fhk3, ghk4nn, hk5, ghk6, hk6, lhk6, xhk6, ghk7a, ghk7bn, ghk8aa, ghk8abn, ghk8b, hk9]
                  · try simp only [go_sem, n1, n2, n3, n4, hk1, hk2, ghk4nn, hk5, ghk6, hk6, ghk7a, ghk7bn, ghk8aa, ghk8abn, ghk8b] at hk9
                    all_goals
                    obtain rfl := so_some h
                    refine ⟨0, fun L hL => ?_⟩
                    simp only [go_sem, ir81, E_spec_l26Faults_l1, R_spec_l26Faults_l1, ir81_b0, ir81_k0, ir81_o0, ir81_r0, hk1, hk2, lhk2, xhk2, fhk3, ghk4nn, hk5, ghk6, hk6, lhk6, xhk6, ghk7a, ghk7bn, ghk8aa, ghk8abn, ghk8b, hk9]
        · try simp only [go_sem, n1, n2, n3, n4, hk1, hk2, ghk4nn, hk5] at ghk6
          all_goals
          obtain ⟨hk7, h⟩ := ck_some h
          rcases or_split hk7 with ⟨ghk7, hk7⟩ | ghk7
          · try simp only [go_sem, n1, n2, n3, n4, hk1, hk2, ghk4nn, hk5, ghk6] at ghk7
            all_goals
            have lhk7 := ix_lt hk7
            have xhk7 := getD_mapD Fault_av faults lhk7
            try simp only [go_sem] at lhk7
            try simp only [go_sem] at xhk7
            try simp only [go_sem, n1, n2, n3, n4, hk1, hk2, ghk4nn, hk5, ghk6, ghk7] at hk7
            all_goals
            obtain ⟨hk8, h⟩ := ck_some h
            rcases or_split hk8 with ⟨ghk8, hk8⟩ | ghk8
            · try simp only [go_sem, n1, n2, n3, n4, hk1, hk2, ghk4nn, hk5, ghk6, ghk7, hk7] at ghk8
              all_goals
              have lhk8 := ix_lt hk8
              have xhk8 := getD_mapD Fault_av faults lhk8
              try simp only [go_sem] at lhk8
              try simp only [go_sem] at xhk8
              try simp only [go_sem, n1, n2, n3, n4, hk1, hk2, ghk4nn, hk5, ghk6, ghk7, hk7, ghk8] at hk8
              all_goals
              rcases it_some h with ⟨hk9, h⟩ | ⟨hk9, h⟩
              · try simp only [go_sem, n1, n2, n3, n4, hk1, hk2, ghk4nn, hk5, ghk6, ghk7, hk7, ghk8, hk8] at hk9
                all_goals
                obtain rfl := so_some h
                refine ⟨0, fun L hL => ?_⟩
                simp only [go_sem, ir81, E_spec_l26Faults_l1, R_spec_l26Faults_l1, ir81_b0, ir81_k0, ir81_o0, ir81_r0, hk1, hk2, lhk2, xhk2, fhk3, ghk4nn, hk5, ghk6, ghk7, hk7, lhk7, xhk7, ghk8, hk8, lhk8, xhk8, hk9]
              · try simp only [go_sem, n1, n2, n3, n4, hk1, hk2, ghk4nn, hk5, ghk6, ghk7, hk7, ghk8, hk8] at hk9
                all_goals
                obtain rfl := so_some h
                refine ⟨0, fun L hL => ?_⟩
                simp only [go_sem, ir81, E_spec_l26Faults_l1, R_spec_l26Faults_l1, ir81_b0, ir81_k0, ir81_o0, ir81_r0, hk1, hk2, lhk2, xhk2, fhk3, ghk4nn, hk5, ghk6, ghk7, hk7, lhk7, xhk7, ghk8, hk8, lhk8, xhk8, hk9]
            · rcases and_f ghk8 with ghk8a | ⟨ghk8a, ghk8b⟩
              · rcases and_f ghk8a with ghk8aa | ⟨ghk8aa, ghk8ab⟩
                · try simp only [go_sem, n1, n2, n3, n4, hk1, hk2, ghk4nn, hk5, ghk6, ghk7, hk7] at ghk8aa
                  all_goals
                  rcases it_some h with ⟨hk9, h⟩ | ⟨hk9, h⟩
                  · try simp only [go_sem, n1, n2, n3, n4, hk1, hk2, ghk4nn, hk5, ghk6, ghk7, hk7, ghk8aa] at hk9
                    all_goals
                    obtain rfl := so_some h
                    refine ⟨0, fun L hL => ?_⟩
                    simp only [go_sem, ir81, E_spec_l26Faults_l1, R_spec_l26Faults_l1, ir81_b0, ir81_k0, ir81_o0, ir81_r0, hk1, hk2, lhk2, xhk2, fhk3, ghk4nn, hk5, ghk6, ghk7, hk7, lhk7, xhk7, ghk8aa, hk9]
                  · try simp only [go_sem, n1, n2, n3, n4, hk1, hk2, ghk4nn, hk5, ghk6, ghk7, hk7, ghk8aa] at hk9
                    all_goals
                    obtain rfl := so_some h
                    refine ⟨0, fun L hL => ?_⟩
                    simp only [go_sem, ir81, E_spec_l26Faults_l1, R_spec_l26Faults_l1, ir81_b0, ir81_k0, ir81_o0, ir81_r0, hk1, hk2, lhk2, xhk2, fhk3, ghk4nn, hk5, ghk6, ghk7, hk7, lhk7, xhk7, ghk8aa, hk9]
                · have ghk8abn := no_f ghk8ab
                  try simp only [go_sem, n1, n2, n3, n4, hk1, hk2, ghk4nn, hk5, ghk6, ghk7, hk7] at ghk8aa
                  all_goals
                  try simp only [go_sem, n1, n2, n3, n4, hk1, hk2, ghk4nn, hk5, ghk6, ghk7, hk7, ghk8aa] at ghk8abn
                  all_goals
                  rcases it_some h with ⟨hk9, h⟩ | ⟨hk9, h⟩
                  · try simp only [go_sem, n1, n2, n3, n4, hk1, hk2, ghk4nn, hk5, ghk6, ghk7, hk7, ghk8aa, ghk8abn] at hk9
                    all_goals
                    obtain rfl := so_some h
                    refine ⟨0, fun L hL => ?_⟩
                    simp only [go_sem, ir81, E_spec_l26Faults_l1, R_spec_l26Faults_l1, ir81_b0, ir81_k0, ir81_o0, ir81_r0, hk1, hk2, lhk2, xhk2, fhk3, ghk4nn, hk5, ghk6, ghk7, hk7, lhk7, xhk7, ghk8aa, ghk8abn, hk9]
                  · try simp only [go_sem, n1, n2, n3, n4, hk1, hk2, ghk4nn, hk5, ghk6, ghk7, hk7, ghk8aa, ghk8abn] at hk9
                    all_goals
                    obtain rfl := so_some h
                    refine ⟨0, fun L hL => ?_⟩
                    simp only [go_sem, ir81, E_spec_l26Faults_l1, R_spec_l26Faults_l1, ir81_b0, ir81_k0, ir81_o0, ir81_r0, hk1, hk2, lhk2, xhk2, fhk3, ghk4nn, hk5, ghk6, ghk7, hk7, lhk7, xhk7, ghk8aa, ghk8abn, hk9]
              · obtain ⟨ghk8aa, ghk8ab⟩ := and_t ghk8a
                have ghk8abn := no_t ghk8ab
                try simp only [go_sem, n1, n2, n3, n4, hk1, hk2, ghk4nn, hk5, ghk6, ghk7, hk7] at ghk8aa
                all_goals
                try simp only [go_sem, n1, n2, n3, n4, hk1, hk2, ghk4nn, hk5, ghk6, ghk7, hk7, ghk8aa] at ghk8abn
                all_goals
                try simp only [go_sem, n1, n2, n3, n4, hk1, hk2, ghk4nn, hk5, ghk6, ghk7, hk7, ghk8aa, ghk8abn] at ghk8b
                all_goals
                rcases it_some h with ⟨hk9, h⟩ | ⟨hk9, h⟩
                · try simp only [go_sem, n1, n2, n3, n4, hk1, hk2, ghk4nn, hk5, ghk6, ghk7, hk7, ghk8aa, ghk8abn, ghk8b] at hk9
                  all_goals
                  obtain rfl := so_some h
                  refine ⟨0, fun L hL => ?_⟩
                  simp only [go_sem, ir81, E_spec_l26Faults_l1, R_spec_l26Faults_l1, ir81_b0, ir81_k0, ir81_o0, ir81_r0, hk1, hk2, lhk2, xhk2, fhk3, ghk4nn, hk5, ghk6, ghk7, hk7, lhk7, xhk7, ghk8aa, ghk8abn, ghk8b, hk9]
                · try simp only [go_sem, n1, n2, n3, n4, hk1, hk2, ghk4nn, hk5, ghk6, ghk7, hk7, ghk8aa, ghk8abn, ghk8b] at hk9
                  all_goals
                  obtain rfl := so_some h
                  refine ⟨0, fun L hL => ?_⟩
                  simp only [go_sem, ir81, E_spec_l26Faults_l1, R_spec_l26Faults_l1, ir81_b0, ir81_k0, ir81_o0, ir81_r0, hk1, hk2, lhk2, xhk2, fhk3, ghk4nn, hk5, ghk6, ghk7, hk7, lhk7, xhk7, ghk8aa, ghk8abn, ghk8b, hk9]
          · rcases and_f ghk7 with ghk7a | ⟨ghk7a, ghk7b⟩
            · try simp only [go_sem, n1, n2, n3, n4, hk1, hk2, ghk4nn, hk5, ghk6] at ghk7a
              all_goals
              obtain ⟨hk8, h⟩ := ck_some h
              rcases or_split hk8 with ⟨ghk8, hk8⟩ | ghk8
              · try simp only [go_sem, n1, n2, n3, n4, hk1, hk2, ghk4nn, hk5, ghk6, ghk7a] at ghk8
                all_goals
                have lhk8 := ix_lt hk8
                have xhk8 := getD_mapD Fault_av faults lhk8
                try simp only [go_sem] at lhk8
                try simp only [go_sem] at xhk8
                try simp only [go_sem, n1, n2, n3, n4, hk1, hk2, ghk4nn, hk5, ghk6, ghk7a, ghk8] at hk8
                all_goals
                rcases it_some h with ⟨hk9, h⟩ | ⟨hk9, h⟩
                · try simp only [go_sem, n1, n2, n3, n4, hk1, hk2, ghk4nn, hk5, ghk6, ghk7a, ghk8, hk8] at hk9
                  all_goals
                  obtain rfl := so_some h
                  refine ⟨0, fun L hL => ?_⟩
                  simp only [go_sem, ir81, E_spec_l26Faults_l1, R_spec_l26Faults_l1, ir81_b0, ir81_k0, ir81_o0, ir81_r0, hk1, hk2, lhk2, xhk2, fhk3, ghk4nn, hk5, ghk6, ghk7a, ghk8, hk8, lhk8, xhk8, hk9]
                · try simp only [go_sem, n1, n2, n3, n4, hk1, hk2, ghk4nn, hk5, ghk6, ghk7a, ghk8, hk8] at hk9
                  all_goals
                  obtain rfl := so_some h
                  refine ⟨0, fun L hL => ?_⟩
                  simp only [go_sem, ir81, E_spec_l26Faults_l1, R_spec_l26Faults_l1, ir81_b0, ir81_k0, ir81_o0, ir81_r0, hk1, hk2, lhk2, xhk2, fhk3, ghk4nn, hk5, ghk6, ghk7a, ghk8, hk8, lhk8, xhk8, hk9]
              · rcases and_f ghk8 with ghk8a | ⟨ghk8a, ghk8b⟩
                · rcases and_f ghk8a with ghk8aa | ⟨ghk8aa, ghk8ab⟩
                  · try simp only [go_sem, n1, n2, n3, n4, hk1, hk2, ghk4nn, hk5, ghk6, ghk7a] at ghk8aa
                    all_goals
                    rcases it_some h with ⟨hk9, h⟩ | ⟨hk9, h⟩
                    · try simp only [go_sem, n1, n2, n3, n4, hk1, hk2, ghk4nn, hk5, ghk6, ghk7a, ghk8aa] at hk9
                      all_goals
                      obtain rfl := so_some h
                      refine ⟨0, fun L hL => ?_⟩
                      simp only [go_sem, ir81, E_spec_l26Faults_l1, R_spec_l26Faults_l1, ir81_b0, ir81_k0, ir81_o0, ir81_r0, hk1, hk2, lhk2, xhk2, fhk3, ghk4nn, hk5, ghk6, ghk7a, ghk8aa, hk9]
                    · try simp only [go_sem, n1, n2, n3, n4, hk1, hk2, ghk4nn, hk5, ghk6, ghk7a, ghk8aa] at hk9
                      all_goals
                      obtain rfl := so_some h
                      refine ⟨0, fun L hL => ?_⟩
                      simp only [go_sem, ir81, E_spec_l26Faults_l1, R_spec_l26Faults_l1, ir81_b0, ir81_k0, ir81_o0, ir81_r0, hk1, hk2, lhk2, xhk2, fhk3, ghk4nn, hk5, ghk6, ghk7a, ghk8aa, hk9]
                  · have ghk8abn := no_f ghk8ab
                    try simp only [go_sem, n1, n2, n3, n4, hk1, hk2, ghk4nn, hk5, ghk6, ghk7a] at ghk8aa
                    all_goals
                    try simp only [go_sem, n1, n2, n3, n4, hk1, hk2, ghk4nn, hk5, ghk6, ghk7a, ghk8aa] at ghk8abn
                    all_goals
                    rcases it_some h with ⟨hk9, h⟩ | ⟨hk9, h⟩
                    · try simp only [go_sem, n1, n2, n3, n4, hk1, hk2, ghk4nn, hk5, ghk6, ghk7a, ghk8aa, ghk8abn] at hk9
                      all_goals
                      obtain rfl := so_some h
                      refine ⟨0, fun L hL => ?_⟩
                      simp only [go_sem, ir81, E_spec_l26Faults_l1, R_spec_l26Faults_l1, ir81_b0, ir81_k0, ir81_o0, ir81_r0, hk1, hk2, lhk2, xhk2, fhk3, ghk4nn, hk5, ghk6, ghk7a, ghk8aa, ghk8abn, hk9]
                    · try simp only [go_sem, n1, n2, n3, n4, hk1, hk2, ghk4nn, hk5, ghk6, ghk7a, ghk8aa, ghk8abn] at hk9
                      all_goals
                      obtain rfl := so_some h
                      refine ⟨0, fun L hL => ?_⟩
                      simp only [go_sem, ir81, E_spec_l26Faults_l1, R_spec_l26Faults_l1, ir81_b0, ir81_k0, ir81_o0, ir81_r0, hk1, hk2, lhk2, xhk2, fhk3, ghk4nn, hk5, ghk6, ghk7a, ghk8aa, ghk8abn, hk9]
                · obtain ⟨ghk8aa, ghk8ab⟩ := and_t ghk8a
                  have ghk8abn := no_t ghk8ab
                  try simp only [go_sem, n1, n2, n3, n4, hk1, hk2, ghk4nn, hk5, ghk6, ghk7a] at ghk8aa
                  all_goals
                  try simp only [go_sem, n1, n2, n3, n4, hk1, hk2, ghk4nn, hk5, ghk6, ghk7a, ghk8aa] at ghk8abn
                  all_goals
                  try simp only [go_sem, n1, n2, n3, n4, hk1, hk2, ghk4nn, hk5, ghk6, ghk7a, ghk8aa, ghk8abn] at ghk8b
                  all_goals
                  rcases it_some h with ⟨hk9, h⟩ | ⟨hk9, h⟩
                  · try simp only [go_sem, n1, n2, n3, n4, hk1, hk2, ghk4nn, hk5, ghk6, ghk7a, ghk8aa, ghk8abn, ghk8b] at hk9
                    all_goals
                    obtain rfl := so_some h
                    refine ⟨0, fun L hL => ?_⟩
                    simp only [go_sem, ir81, E_spec_l26Faults_l1, R_spec_l26Faults_l1, ir81_b0, ir81_k0, ir81_o0, ir81_r0, hk1, hk2, lhk2, xhk2, fhk3, ghk4nn, hk5, ghk6, ghk7a, ghk8aa, ghk8abn, ghk8b, hk9]
                  · try simp only [go_sem, n1, n2, n3, n4, hk1, hk2, ghk4nn, hk5, ghk6, ghk7a, ghk8aa, ghk8abn, ghk8b] at hk9
                    all_goals
                    obtain rfl := so_some h
                    refine ⟨0, fun L hL => ?_⟩
                    simp only [go_sem, ir81, E_spec_l26Faults_l1, R_spec_l26Faults_l1, ir81_b0, ir81_k0, ir81_o0, ir81_r0, hk1, hk2, lhk2, xhk2, fhk3, ghk4nn, hk5, ghk6, ghk7a, ghk8aa, ghk8abn, ghk8b, hk9]
            · have ghk7bn := no_f ghk7b
              try simp only [go_sem, n1, n2, n3, n4, hk1, hk2, ghk4nn, hk5, ghk6] at ghk7a
              all_goals
              try simp only [go_sem, n1, n2, n3, n4, hk1, hk2, ghk4nn, hk5, ghk6, ghk7a] at ghk7bn
              all_goals
              obtain ⟨hk8, h⟩ := ck_some h
              rcases or_split hk8 with ⟨ghk8, hk8⟩ | ghk8
              · try simp only [go_sem, n1, n2, n3, n4, hk1, hk2, ghk4nn, hk5, ghk6, ghk7a, ghk7bn] at ghk8
                all_goals
                have lhk8 := ix_lt hk8
                have xhk8 := getD_mapD Fault_av faults lhk8
                try simp only [go_sem] at lhk8
                try simp only [go_sem] at xhk8
                try simp only [go_sem, n1, n2, n3, n4, hk1, hk2, ghk4nn, hk5, ghk6, ghk7a, ghk7bn, ghk8] at hk8
                all_goals
                rcases it_some h with ⟨hk9, h⟩ | ⟨hk9, h⟩
                · try simp only [go_sem, n1, n2, n3, n4, hk1, hk2, ghk4nn, hk5, ghk6, ghk7a, ghk7bn, ghk8, hk8] at hk9
                  all_goals
                  obtain rfl := so_some h
                  refine ⟨0, fun L hL => ?_⟩
                  simp only [go_sem, ir81, E_spec_l26Faults_l1, R_spec_l26Faults_l1, ir81_b0, ir81_k0, ir81_o0, ir81_r0, hk1, hk2, lhk2, xhk2, fhk3, ghk4nn, hk5, ghk6, ghk7a, ghk7bn, ghk8, hk8, lhk8, xhk8, hk9]
                · try simp only [go_sem, n1, n2, n3, n4, hk1, hk2, ghk4nn, hk5, ghk6, ghk7a, ghk7bn, ghk8, hk8] at hk9
                  all_goals
                  obtain rfl := so_some h
                  refine ⟨0, fun L hL => ?_⟩
                  simp only [go_sem, ir81, E_spec_l26Faults_l1, R_spec_l26Faults_l1, ir81_b0, ir81_k0, ir81_o0, ir81_r0, hk1, hk2, lhk2, xhk2, fhk3, ghk4nn, hk5, ghk6, ghk7a, ghk7bn, ghk8, hk8, lhk8, xhk8, hk9]
              · rcases and_f ghk8 with ghk8a | ⟨ghk8a, ghk8b⟩
                · rcases and_f ghk8a with ghk8aa | ⟨ghk8aa, ghk8ab⟩
                  · try simp only [go_sem, n1, n2, n3, n4, hk1, hk2, ghk4nn, hk5, ghk6, ghk7a, ghk7bn] at ghk8aa
                    all_goals
                    rcases it_some h with ⟨hk9, h⟩ | ⟨hk9, h⟩
                    · try simp only [go_sem, n1, n2, n3, n4, hk1, hk2, ghk4nn, hk5, ghk6, ghk7a, ghk7bn, ghk8aa] at hk9
                      all_goals
                      obtain rfl := so_some h
                      refine ⟨0, fun L hL => ?_⟩
                      simp only [go_sem, ir81, E_spec_l26Faults_l1, R_spec_l26Faults_l1, ir81_b0, ir81_k0, ir81_o0, ir81_r0, hk1, hk2, lhk2, xhk2, fhk3, ghk4nn, hk5, ghk6, ghk7a, ghk7bn, ghk8aa, hk9]
                    · try simp only [go_sem, n1, n2, n3, n4, hk1, hk2, ghk4nn, hk5, ghk6, ghk7a, ghk7bn, ghk8aa] at hk9
                      all_goals
                      obtain rfl := so_some h
                      refine ⟨0, fun L hL => ?_⟩
                      simp only [go_sem, ir81, E_spec_l26Faults_l1, R_spec_l26Faults_l1, ir81_b0, ir81_k0, ir81_o0, ir81_r0, hk1, hk2, lhk2, xhk2, fhk3, ghk4nn, hk5, ghk6, ghk7a, ghk7bn, ghk8aa, hk9]
                  · have ghk8abn := no_f ghk8ab
                    try simp only [go_sem, n1, n2, n3, n4, hk1, hk2, ghk4nn, hk5, ghk6, ghk7a, ghk7bn] at ghk8aa
                    all_goals
                    try simp only [go_sem, n1, n2, n3, n4, hk1, hk2, ghk4nn, hk5, ghk6, ghk7a, ghk7bn, ghk8aa] at ghk8abn
                    all_goals
                    rcases it_some h with ⟨hk9, h⟩ | ⟨hk9, h⟩
                    · try simp only [go_sem, n1, n2, n3, n4, hk1, hk2, ghk4nn, hk5, ghk6, ghk7a, ghk7bn, ghk8aa, ghk8abn] at hk9
                      all_goals
                      obtain rfl := so_some h
                      refine ⟨0, fun L hL => ?_⟩
                      simp only [go_sem, ir81, E_spec_l26Faults_l1, R_spec_l26Faults_l1, ir81_b0, ir81_k0, ir81_o0, ir81_r0, hk1, hk2, lhk2, xhk2, fhk3, ghk4nn, hk5, ghk6, ghk7a, ghk7bn, ghk8aa, ghk8abn, hk9]
                    · try simp only [go_sem, n1, n2, n3, n4, hk1, hk2, ghk4nn, hk5, ghk6, ghk7a, ghk7bn, ghk8aa, ghk8abn] at hk9
                      all_goals
                      obtain rfl := so_some h
                      refine ⟨0, fun L hL => ?_⟩
                      simp only [go_sem, ir81, E_spec_l26Faults_l1, R_spec_l26Faults_l1, ir81_b0, ir81_k0, ir81_o0, ir81_r0, hk1, hk2, lhk2, xhk2, fhk3, ghk4nn, hk5, ghk6, ghk7a, ghk7bn, ghk8aa, ghk8abn, hk9]
                · obtain ⟨ghk8aa, ghk8ab⟩ := and_t ghk8a
                  have ghk8abn := no_t ghk8ab
                  try simp only [go_sem, n1, n2, n3, n4, hk1, hk2, ghk4nn, hk5, ghk6, ghk7a, ghk7bn] at ghk8aa
                  all_goals
                  try simp only [go_sem, n1, n2, n3, n4, hk1, hk2, ghk4nn, hk5, ghk6, ghk7a, ghk7bn, ghk8aa] at ghk8abn
                  all_goals
                  try simp only [go_sem, n1, n2, n3, n4, hk1, hk2, ghk4nn, hk5, ghk6, ghk7a, ghk7bn, ghk8aa, ghk8abn] at ghk8b
                  all_goals
                  rcases it_some h with ⟨hk9, h⟩ | ⟨hk9, h⟩
                  · try simp only [go_sem, n1, n2, n3, n4, hk1, hk2, ghk4nn, hk5, ghk6, ghk7a, ghk7bn, ghk8aa, ghk8abn, ghk8b] at hk9
                    all_goals
                    obtain rfl := so_some h
                    refine ⟨0, fun L hL => ?_⟩
                    simp only [go_sem, ir81, E_spec_l26Faults_l1, R_spec_l26Faults_l1, ir81_b0, ir81_k0, ir81_o0, ir81_r0, hk1, hk2, lhk2, xhk2, fhk3, ghk4nn, hk5, ghk6, ghk7a, ghk7bn, ghk8aa, ghk8abn, ghk8b, hk9]
                  · try simp only [go_sem, n1, n2, n3, n4, hk1, hk2, ghk4nn, hk5, ghk6, ghk7a, ghk7bn, ghk8aa, ghk8abn, ghk8b] at hk9
                    all_goals
                    obtain rfl := so_some h
                    refine ⟨0, fun L hL => ?_⟩
                    simp only [go_sem, ir81, E_spec_l26Faults_l1, R_spec_l26Faults_l1, ir81_b0, ir81_k0, ir81_o0, ir81_r0, hk1, hk2, lhk2, xhk2, fhk3, ghk4nn, hk5, ghk6, ghk7a, ghk7bn, ghk8aa, ghk8abn, ghk8b, hk9]
  · try simp only [go_sem, n1, n2, n3, n4] at hk1
    all_goals
    obtain rfl := so_some h
    refine ⟨0, fun L hL => ?_⟩
    simp only [go_sem, ir81, E_spec_l26Faults_l1, R_spec_l26Faults_l1, ir81_b0, ir81_k0, ir81_o0, ir81_r0, hk1]

theorem Fs_spec_l26Faults {faults : List Fault} {count : Int} {y_ : Bool} (h : spec_l26Faults faults count = some y_) : c_spec_l26Faults.F [.sl 2 (List.map Fault_av faults), .int .i64 count] = ⟨true, .bool y_, [.any, .any]⟩ := by
  refine mkF_E rfl ?_
  dsimp only [spec_l26Faults] at h
  obtain ⟨y_10, hk10, h⟩ := bd_some h
  obtain ⟨Lhk10, ehk10⟩ := spec_l26Faults_l1_ex hk10
  rcases y_10 with y_10a | y_10b
  · dsimp only at h
    obtain rfl := so_some h
    refine ⟨Lhk10, fun L hL => ?_⟩
    have ehk10 := ehk10 L (by omega)
    try simp only [go_sem, E_spec_l26Faults_l1, R_spec_l26Faults_l1, ir81_k0, ir81_o0, ir81_r0] at ehk10
    simp only [go_sem, ir81, E_spec_l26Faults_l1, R_spec_l26Faults_l1, ir81_k0, ir81_o0, ir81_r0, ehk10]
  · dsimp only at h
    obtain rfl := so_some h
    refine ⟨Lhk10, fun L hL => ?_⟩
    have ehk10 := ehk10 L (by omega)
    try simp only [go_sem, E_spec_l26Faults_l1, R_spec_l26Faults_l1, ir81_k0, ir81_o0, ir81_r0] at ehk10
    simp only [go_sem, ir81, E_spec_l26Faults_l1, R_spec_l26Faults_l1, ir81_k0, ir81_o0, ir81_r0, ehk10]


def ir53_v : List Nat := [0, 1, 4]
def ir53 : AFn := ⟨2, 3, .seq (.region false [
    ⟨.var 2, 4, none, .mov (.c (.int .i64 (0)))⟩])
 (.seq (.test false [
    ⟨.push, 5, none, .mov (.v 0)⟩,
    ⟨.push, 6, none, .call 35 [(.s 0)]⟩,
    ⟨.push, 7, none, .un .not (.s 0)⟩] (.s 0)
  (.seq (.region false [
      ⟨.var 2, 4, none, .mov (.c (.int .i64 (1)))⟩])
   (.ret))
  (.skip))
 (.seq (.test false [
    ⟨.push, 8, none, .mov (.v 1)⟩,
    ⟨.push, 9, none, .mov (.v 0)⟩,
    ⟨.push, 10, none, .len false (.s 0)⟩,
    ⟨.push, 11, none, .call 81 [(.s 2), (.s 0)]⟩,
    ⟨.push, 12, none, .un .not (.s 0)⟩] (.s 0)
  (.seq (.region false [
      ⟨.var 2, 4, none, .mov (.c (.int .i64 (2)))⟩])
   (.ret))
  (.skip))
 (.seq (.region false [
    ⟨.var 2, 4, none, .mov (.c (.int .i64 (0)))⟩])
 (.ret)))), [.t 2]⟩
noncomputable def t_spec_l26Code : List (Nat × Ctr) := [(35, c_spec_l06Ok), (81, c_spec_l26Faults)]
theorem lk_spec_l26Code_35 : look t_spec_l26Code 35 = some c_spec_l06Ok := rfl
theorem lk_spec_l26Code_81 : look t_spec_l26Code 81 = some c_spec_l26Faults := rfl
noncomputable def c_spec_l26Code : Ctr := mkF t_spec_l26Code ir53 [.bor, .bor]
theorem s_spec_l26Code : Sound Try.prog 53 c_spec_l26Code := mkF_sound _ rfl (snd_cons s_spec_l06Ok (snd_cons s_spec_l26Faults snd_nil)) (by kernel_rfl : chkFn Try.prog 53 ir53 ir53_v = true)
theorem M_spec_l26Code : c_spec_l26Code.modes = [.bor, .bor] := rfl
theorem Fl_spec_l26Code : c_spec_l26Code.flat = true := rfl
attribute [go_sem] M_spec_l26Code Fl_spec_l26Code
attribute [go_sem] lk_spec_l26Code_35 lk_spec_l26Code_81
theorem Fs_spec_l26Code {list : List Estimate} {faults : List Fault} {y_ : Int} (h : spec_l26Code list faults = some y_) : c_spec_l26Code.F [.sl 5 (List.map Estimate_av list), .sl 2 (List.map Fault_av faults)] = ⟨true, .int .i64 y_, [.any, .any]⟩ := by
  refine mkF_E rfl ?_
  dsimp only [spec_l26Code] at h
  obtain ⟨y_1, hk1, h⟩ := bd_some h
  have fhk1 := Fs_spec_l06Ok hk1
  try simp only [go_sem] at fhk1
  rcases it_some h with ⟨hk2, h⟩ | ⟨hk2, h⟩
  · try simp only [go_sem, n1, n2, n3, n4] at hk2
    all_goals
    obtain rfl := so_some h
    refine ⟨0, fun L hL => ?_⟩
    simp only [go_sem, ir53, fhk1, hk2]
  · try simp only [go_sem, n1, n2, n3, n4] at hk2
    all_goals
    obtain ⟨y_3, hk3, h⟩ := bd_some h
    have fhk3 := Fs_spec_l26Faults hk3
    try simp only [go_sem, hk2] at fhk3
    rcases it_some h with ⟨hk4, h⟩ | ⟨hk4, h⟩
    · try simp only [go_sem, n1, n2, n3, n4, hk2] at hk4
      all_goals
      obtain rfl := so_some h
      refine ⟨0, fun L hL => ?_⟩
      simp only [go_sem, ir53, fhk1, hk2, fhk3, hk4]
    · try simp only [go_sem, n1, n2, n3, n4, hk2] at hk4
      all_goals
      obtain rfl := so_some h
      refine ⟨0, fun L hL => ?_⟩
      simp only [go_sem, ir53, fhk1, hk2, fhk3, hk4]


def ir109_b0 : IR := .seq (.test false [
    ⟨.push, 9, none, .mov (.v 3)⟩,
    ⟨.push, 10, none, .bin false .gtr (.s 0) (.c (.int .i64 (0)))⟩,
    ⟨.push, 11, none, .mov (.s 0)⟩,
    ⟨.push, 12, (some ((.s 0), true)), .mov (.v 0)⟩,
    ⟨.push, 13, (some ((.s 1), true)), .mov (.v 3)⟩,
    ⟨.push, 14, (some ((.s 2), true)), .bin false .sub (.s 0) (.c (.int .i64 (1)))⟩,
    ⟨.push, 15, (some ((.s 3), true)), .ixAddr 1 (.s 2) (.s 0)⟩,
    ⟨.push, 16, (some ((.s 4), true)), .load false 1 (.s 0)⟩,
    ⟨.push, 17, (some ((.s 5), true)), .mov (.v 1)⟩,
    ⟨.push, 18, (some ((.s 6), true)), .bin false .gtr (.s 1) (.s 0)⟩,
    ⟨.push, 19, none, .pick (.s 7) (.s 0) (.c (.bool false))⟩] (.s 0)
  (.skip)
  (.exit 0))
 (.block 1 (.region false [
    ⟨.push, 20, none, .mov (.v 3)⟩,
    ⟨.push, 21, none, .bin false .sub (.s 0) (.c (.int .i64 (1)))⟩,
    ⟨.var 3, 5, none, .mov (.s 0)⟩]))
def ir109_k0 : List Bool := [true, true, false, true, false]
def ir109_o0 : List Bool := [true, true, false, true, false]
def ir109_r0 : List Bool := [false, false, true, false, false]
def ir109_v : List Nat := [0, 1, 4, 5, 6]
def ir109 : AFn := ⟨2, 5, .seq (.region false [
    ⟨.var 2, 4, none, .newnil 1⟩])
 (.seq (.region false [
    ⟨.push, 7, none, .mov (.v 0)⟩,
    ⟨.push, 8, none, .len false (.s 0)⟩,
    ⟨.var 3, 5, none, .mov (.s 0)⟩])
 (.seq (.block 0 (.loop ir109_k0 ir109_o0 ir109_r0 ir109_b0))
 (.seq (.test false [
    ⟨.push, 22, none, .mov (.v 3)⟩,
    ⟨.push, 23, none, .bin false .gtr (.s 0) (.c (.int .i64 (0)))⟩,
    ⟨.push, 24, none, .mov (.s 0)⟩,
    ⟨.push, 25, (some ((.s 0), true)), .mov (.v 0)⟩,
    ⟨.push, 26, (some ((.s 1), true)), .mov (.v 3)⟩,
    ⟨.push, 27, (some ((.s 2), true)), .bin false .sub (.s 0) (.c (.int .i64 (1)))⟩,
    ⟨.push, 28, (some ((.s 3), true)), .ixAddr 1 (.s 2) (.s 0)⟩,
    ⟨.push, 29, (some ((.s 4), true)), .load false 1 (.s 0)⟩,
    ⟨.push, 30, (some ((.s 5), true)), .mov (.v 1)⟩,
    ⟨.push, 31, (some ((.s 6), true)), .bin false .eql (.s 1) (.s 0)⟩,
    ⟨.push, 32, none, .pick (.s 7) (.s 0) (.c (.bool false))⟩] (.s 0)
  (.seq (.region false [
      ⟨.push, 33, none, .mov (.v 0)⟩,
      ⟨.var 2, 4, none, .mov (.s 0)⟩])
   (.ret))
  (.skip))
 (.seq (.region false [
    ⟨.push, 34, none, .mkSl 1 (.str []) 0 []⟩,
    ⟨.push, 35, none, .mov (.v 0)⟩,
    ⟨.push, 36, none, .mov (.v 3)⟩,
    ⟨.push, 37, none, .slice 1 (.s 1) none (some (.s 0))⟩,
    ⟨.push, 38, none, .app 1 16 (.str []) (.s 3) (.s 0)⟩,
    ⟨.var 4, 6, none, .mov (.s 0)⟩])
 (.seq (.region false [
    ⟨.push, 39, none, .mov (.v 4)⟩,
    ⟨.push, 40, none, .mov (.v 1)⟩,
    ⟨.push, 41, none, .mkSl 1 (.str []) 1 [(0, (.s 0))]⟩,
    ⟨.push, 42, none, .app 1 16 (.str []) (.s 2) (.s 0)⟩,
    ⟨.var 4, 6, none, .mov (.s 0)⟩])
 (.seq (.region false [
    ⟨.push, 43, none, .mov (.v 4)⟩,
    ⟨.push, 44, none, .mov (.v 0)⟩,
    ⟨.push, 45, none, .mov (.v 3)⟩,
    ⟨.push, 46, none, .slice 1 (.s 1) (some (.s 0)) none⟩,
    ⟨.push, 47, none, .app 1 16 (.str []) (.s 3) (.s 0)⟩,
    ⟨.var 2, 4, none, .mov (.s 0)⟩])
 (.ret))))))), [.t 2]⟩
noncomputable def t_spec_l06PutName : List (Nat × Ctr) := []
noncomputable def c_spec_l06PutName : Ctr := mkZ t_spec_l06PutName ir109 [.bor, .bor]
theorem s_spec_l06PutName : Sound Try.prog 109 c_spec_l06PutName := mkZ_sound _ snd_nil (by kernel_rfl : chkFn Try.prog 109 ir109 ir109_v = true)
theorem M_spec_l06PutName : c_spec_l06PutName.modes = [.bor, .bor] := rfl
theorem Fl_spec_l06PutName : c_spec_l06PutName.flat = false := rfl
attribute [go_sem] M_spec_l06PutName Fl_spec_l06PutName
def E_spec_l06PutName_l1 (list : List (List UInt8)) (name : List UInt8) : Int → St
  | k => ⟨[.sl 1 (List.map AV.str list), .str name, .any, .int .i64 k, .any], [], [], true⟩
def R_spec_l06PutName_l1 (list : List (List UInt8)) (name : List UInt8) (y : Int) : Res := (.exit 0, ⟨[.sl 1 (List.map AV.str list), .str name, .any, .int .i64 y, .any], [], [], true⟩)
theorem spec_l06PutName_l1_ex {list : List (List UInt8)} {name : List UInt8} {sgm_ : Int} {rho_ : Int} (h : whileE (spec_l06PutName_l1 list name) sgm_ = some rho_) : ∃ L0, ∀ L, L0 ≤ L → iter (exec (look t_spec_l06PutName) L ir109_b0) ir109_k0 ir109_o0 ir109_r0 L (E_spec_l06PutName_l1 list name sgm_) = R_spec_l06PutName_l1 list name rho_ := by
  refine loop_ex (E := E_spec_l06PutName_l1 list name) (R := R_spec_l06PutName_l1 list name) (fun y => by first | (intro c; cases c) | (rcases y with y | y <;> (intro c; cases c)) | (rcases y with y | y | y <;> (intro c; cases c))) ?_ h
  clear h
  intro k o_ h
  dsimp only [spec_l06PutName_l1] at h
  obtain ⟨hk1, h⟩ := ck_some h
  rcases or_split hk1 with ⟨ghk1, hk1⟩ | ghk1
  · try simp only [go_sem, n1, n2, n3, n4] at ghk1
    all_goals
    have lhk1 := ix_lt hk1
    have xhk1 := getD_mapD AV.str list lhk1
    try simp only [go_sem] at lhk1
    try simp only [go_sem] at xhk1
    try simp only [go_sem, n1, n2, n3, n4, ghk1] at hk1
    all_goals
    rcases it_some h with ⟨hk2, h⟩ | ⟨hk2, h⟩
    · try simp only [go_sem, n1, n2, n3, n4, ghk1, hk1] at hk2
      all_goals
      obtain rfl := so_some h
      refine ⟨0, fun L hL => ?_⟩
      simp only [go_sem, ir109, E_spec_l06PutName_l1, R_spec_l06PutName_l1, ir109_b0, ir109_k0, ir109_o0, ir109_r0, ghk1, hk1, lhk1, xhk1, hk2]
    · try simp only [go_sem, n1, n2, n3, n4, ghk1, hk1] at hk2
      all_goals
      obtain rfl := so_some h
      refine ⟨0, fun L hL => ?_⟩
      simp only [go_sem, ir109, E_spec_l06PutName_l1, R_spec_l06PutName_l1, ir109_b0, ir109_k0, ir109_o0, ir109_r0, ghk1, hk1, lhk1, xhk1, hk2]
  · try simp only [go_sem, n1, n2, n3, n4] at ghk1
    all_goals
    rcases it_some h with ⟨hk2, h⟩ | ⟨hk2, h⟩
    · try simp only [go_sem, n1, n2, n3, n4, ghk1] at hk2
      all_goals
      obtain rfl := so_some h
      refine ⟨0, fun L hL => ?_⟩
      simp only [go_sem, ir109, E_spec_l06PutName_l1, R_spec_l06PutName_l1, ir109_b0, ir109_k0, ir109_o0, ir109_r0, ghk1, hk2]
    · try simp only [go_sem, n1, n2, n3, n4, ghk1] at hk2
      all_goals
      obtain rfl := so_some h
      refine ⟨0, fun L hL => ?_⟩
      simp only [go_sem, ir109, E_spec_l06PutName_l1, R_spec_l06PutName_l1, ir109_b0, ir109_k0, ir109_o0, ir109_r0, ghk1, hk2]

theorem Fs_spec_l06PutName {list : List (List UInt8)} {name : List UInt8} {y_ : (List (List UInt8))} (h : spec_l06PutName list name = some y_) : c_spec_l06PutName.F [.sl 1 (List.map AV.str list), .str name] = ⟨true, .sl 1 (List.map AV.str y_), [.any, .any]⟩ := by
  refine mkZ_E ?_
  dsimp only [spec_l06PutName] at h
  obtain ⟨y_3, hk3, h⟩ := bd_some h
  obtain ⟨Lhk3, ehk3⟩ := spec_l06PutName_l1_ex hk3
  obtain ⟨hk4, h⟩ := ck_some h
  rcases or_split hk4 with ⟨ghk4, hk4⟩ | ghk4
  · try simp only [go_sem, n1, n2, n3, n4] at ghk4
    all_goals
    have lhk4 := ix_lt hk4
    have xhk4 := getD_mapD AV.str list lhk4
    try simp only [go_sem] at lhk4
    try simp only [go_sem] at xhk4
    try simp only [go_sem, n1, n2, n3, n4, ghk4] at hk4
    all_goals
    rcases it_some h with ⟨hk5, h⟩ | ⟨hk5, h⟩
    · try simp only [go_sem, n1, n2, n3, n4, ghk4, hk4] at hk5
      all_goals
      obtain rfl := so_some h
      refine ⟨Lhk3, fun L hL => ?_⟩
      have ehk3 := ehk3 L (by omega)
      try simp only [go_sem, E_spec_l06PutName_l1, R_spec_l06PutName_l1, ir109_k0, ir109_o0, ir109_r0, ghk4, hk4, hk5] at ehk3
      simp only [go_sem, ir109, E_spec_l06PutName_l1, R_spec_l06PutName_l1, ir109_k0, ir109_o0, ir109_r0, ghk4, hk4, lhk4, xhk4, hk5, ehk3]
    · try simp only [go_sem, n1, n2, n3, n4, ghk4, hk4] at hk5
      all_goals
      obtain ⟨hk6, h⟩ := ck_some h
      try simp only [go_sem, n1, n2, n3, n4, ghk4, hk4, hk5] at hk6
      all_goals
      obtain ⟨hk7, h⟩ := ck_some h
      try simp only [go_sem, n1, n2, n3, n4, ghk4, hk4, hk5, hk6] at hk7
      all_goals
      obtain ⟨hk8, h⟩ := ck_some h
      try simp only [go_sem, n1, n2, n3, n4, ghk4, hk4, hk5, hk6, hk7] at hk8
      all_goals
      obtain ⟨hk9, h⟩ := ck_some h
      try simp only [go_sem, n1, n2, n3, n4, ghk4, hk4, hk5, hk6, hk7, hk8] at hk9
      all_goals
      obtain ⟨hk10, h⟩ := ck_some h
      try simp only [go_sem, n1, n2, n3, n4, ghk4, hk4, hk5, hk6, hk7, hk8, hk9] at hk10
      all_goals
      obtain rfl := so_some h
      refine ⟨Lhk3, fun L hL => ?_⟩
      have ehk3 := ehk3 L (by omega)
      try simp only [go_sem, E_spec_l06PutName_l1, R_spec_l06PutName_l1, ir109_k0, ir109_o0, ir109_r0, ghk4, hk4, hk5, hk6, hk7, hk8, hk9, hk10] at ehk3
      simp only [go_sem, ir109, E_spec_l06PutName_l1, R_spec_l06PutName_l1, ir109_k0, ir109_o0, ir109_r0, ghk4, hk4, lhk4, xhk4, hk5, hk6, hk7, hk8, hk9, hk10, ehk3]
  · try simp only [go_sem, n1, n2, n3, n4] at ghk4
    all_goals
    rcases it_some h with ⟨hk5, h⟩ | ⟨hk5, h⟩
    · try simp only [go_sem, n1, n2, n3, n4, ghk4] at hk5
      all_goals
      obtain rfl := so_some h
      refine ⟨Lhk3, fun L hL => ?_⟩
      have ehk3 := ehk3 L (by omega)
      try simp only [go_sem, E_spec_l06PutName_l1, R_spec_l06PutName_l1, ir109_k0, ir109_o0, ir109_r0, ghk4, hk5] at ehk3
      simp only [go_sem, ir109, E_spec_l06PutName_l1, R_spec_l06PutName_l1, ir109_k0, ir109_o0, ir109_r0, ghk4, hk5, ehk3]
    · try simp only [go_sem, n1, n2, n3, n4, ghk4] at hk5
      all_goals
      obtain ⟨hk6, h⟩ := ck_some h
      try simp only [go_sem, n1, n2, n3, n4, ghk4, hk5] at hk6
      all_goals
      obtain ⟨hk7, h⟩ := ck_some h
      try simp only [go_sem, n1, n2, n3, n4, ghk4, hk5, hk6] at hk7
      all_goals
      obtain ⟨hk8, h⟩ := ck_some h
      try simp only [go_sem, n1, n2, n3, n4, ghk4, hk5, hk6, hk7] at hk8
      all_goals
      obtain ⟨hk9, h⟩ := ck_some h
      try simp only [go_sem, n1, n2, n3, n4, ghk4, hk5, hk6, hk7, hk8] at hk9
      all_goals
      obtain ⟨hk10, h⟩ := ck_some h
      try simp only [go_sem, n1, n2, n3, n4, ghk4, hk5, hk6, hk7, hk8, hk9] at hk10
      all_goals
      obtain rfl := so_some h
      refine ⟨Lhk3, fun L hL => ?_⟩
      have ehk3 := ehk3 L (by omega)
      try simp only [go_sem, E_spec_l06PutName_l1, R_spec_l06PutName_l1, ir109_k0, ir109_o0, ir109_r0, ghk4, hk5, hk6, hk7, hk8, hk9, hk10] at ehk3
      simp only [go_sem, ir109, E_spec_l06PutName_l1, R_spec_l06PutName_l1, ir109_k0, ir109_o0, ir109_r0, ghk4, hk5, hk6, hk7, hk8, hk9, hk10, ehk3]


def ir82_b0 : IR := .seq (.test false [
    ⟨.push, 8, none, .mov (.v 4)⟩,
    ⟨.push, 9, none, .mov (.v 0)⟩,
    ⟨.push, 10, none, .len false (.s 0)⟩,
    ⟨.push, 11, none, .bin false .lss (.s 2) (.s 0)⟩] (.s 0)
  (.skip)
  (.exit 0))
 (.seq (.block 1 (.test false [
     ⟨.push, 14, none, .mov (.v 1)⟩] (.s 0)
   (.region false [
      ⟨.push, 15, none, .mov (.v 3)⟩,
      ⟨.push, 16, none, .mov (.v 0)⟩,
      ⟨.push, 17, none, .mov (.v 4)⟩,
      ⟨.push, 18, none, .ixAddr 5 (.s 1) (.s 0)⟩,
      ⟨.push, 19, none, .fldAddr 1 (.s 0)⟩,
      ⟨.push, 20, none, .load false 1 (.s 0)⟩,
      ⟨.push, 21, none, .call 109 [(.s 5), (.s 0)]⟩,
      ⟨.var 3, 5, none, .mov (.s 0)⟩])
   (.region false [
      ⟨.push, 22, none, .mov (.v 3)⟩,
      ⟨.push, 23, none, .mov (.v 0)⟩,
      ⟨.push, 24, none, .mov (.v 4)⟩,
      ⟨.push, 25, none, .ixAddr 5 (.s 1) (.s 0)⟩,
      ⟨.push, 26, none, .fldAddr 2 (.s 0)⟩,
      ⟨.push, 27, none, .load false 1 (.s 0)⟩,
      ⟨.push, 28, none, .call 109 [(.s 5), (.s 0)]⟩,
      ⟨.var 3, 5, none, .mov (.s 0)⟩])))
 (.region false [
   ⟨.push, 12, none, .mov (.v 4)⟩,
   ⟨.push, 13, none, .bin false .add (.s 0) (.c (.int .i64 (1)))⟩,
   ⟨.var 4, 6, none, .mov (.s 0)⟩]))
def ir82_k0 : List Bool := [true, true, false, true, true]
def ir82_o0 : List Bool := [false, false, false, true, false]
def ir82_r0 : List Bool := [false, false, true, false, false]
def ir82_v : List Nat := [0, 1, 4, 5, 6]
def ir82 : AFn := ⟨2, 5, .seq (.region false [
    ⟨.var 2, 4, none, .newnil 1⟩])
 (.seq (.region false [
    ⟨.push, 7, none, .pur (.mkSl 1 (.str []) 0 [])⟩,
    ⟨.var 3, 5, none, .mov (.s 0)⟩])
 (.seq (.seq (.region false [
     ⟨.var 4, 6, none, .mov (.c (.int .i64 (0)))⟩])
  (.block 0 (.loop ir82_k0 ir82_o0 ir82_r0 ir82_b0)))
 (.seq (.region false [
    ⟨.push, 29, none, .mov (.v 3)⟩,
    ⟨.var 2, 4, none, .mov (.s 0)⟩])
 (.ret)))), [.t 2]⟩
noncomputable def t_spec_l25Names : List (Nat × Ctr) := [(109, c_spec_l06PutName)]
theorem lk_spec_l25Names_109 : look t_spec_l25Names 109 = some c_spec_l06PutName := rfl
noncomputable def c_spec_l25Names : Ctr := mkN t_spec_l25Names ir82 [.bor, .bor]
theorem s_spec_l25Names : Sound Try.prog 82 c_spec_l25Names := mkN_sound _ (snd_cons s_spec_l06PutName snd_nil) (by kernel_rfl : chkFn Try.prog 82 ir82 ir82_v = true)
theorem M_spec_l25Names : c_spec_l25Names.modes = [.bor, .bor] := rfl
theorem Fl_spec_l25Names : c_spec_l25Names.flat = false := rfl
attribute [go_sem] M_spec_l25Names Fl_spec_l25Names
attribute [go_sem] lk_spec_l25Names_109
def E_spec_l25Names_l1 (list : List Estimate) (star : Bool) : ((List (List UInt8)) × Int) → St
  | (out, i) => ⟨[.sl 5 (List.map Estimate_av list), .bool star, .any, .sl 1 (List.map AV.str out), .int .i64 i], [], [], true⟩
def R_spec_l25Names_l1 (list : List Estimate) (star : Bool) (y : (List (List UInt8))) : Res := (.exit 0, ⟨[.any, .any, .any, .sl 1 (List.map AV.str y), .any], [], [], true⟩)
theorem spec_l25Names_l1_ex {list : List Estimate} {star : Bool} {sgm_ : (List (List UInt8)) × Int} {rho_ : (List (List UInt8))} (h : whileE (spec_l25Names_l1 list star) sgm_ = some rho_) : ∃ L0, ∀ L, L0 ≤ L → iter (exec (look t_spec_l25Names) L ir82_b0) ir82_k0 ir82_o0 ir82_r0 L (E_spec_l25Names_l1 list star sgm_) = R_spec_l25Names_l1 list star rho_ := by
  refine loop_ex (E := E_spec_l25Names_l1 list star) (R := R_spec_l25Names_l1 list star) (fun y => by first | (intro c; cases c) | (rcases y with y | y <;> (intro c; cases c)) | (rcases y with y | y | y <;> (intro c; cases c))) ?_ h
  clear h
  rintro ⟨out, i⟩ o_ h
  dsimp only [spec_l25Names_l1] at h
  rcases it_some h with ⟨hk1, h⟩ | ⟨hk1, h⟩
  · try simp only [go_sem, n1, n2, n3, n4] at hk1
    all_goals
    rcases it_some h with ⟨hk2, h⟩ | ⟨hk2, h⟩
    · try simp only [go_sem, n1, n2, n3, n4, hk1] at hk2
      all_goals
      obtain ⟨hk3, h⟩ := ck_some h
      have lhk3 := ix_lt hk3
      have xhk3 := getD_mapD Estimate_av list lhk3
      try simp only [go_sem] at lhk3
      try simp only [go_sem] at xhk3
      try simp only [go_sem, n1, n2, n3, n4, hk1, hk2] at hk3
      all_goals
      obtain ⟨y_4, hk4, h⟩ := bd_some h
      have fhk4 := Fs_spec_l06PutName hk4
      try simp only [go_sem, hk1, hk2, hk3] at fhk4
      obtain rfl := so_some h
      refine ⟨0, fun L hL => ?_⟩
      simp only [go_sem, ir82, E_spec_l25Names_l1, R_spec_l25Names_l1, ir82_b0, ir82_k0, ir82_o0, ir82_r0, hk1, hk2, hk3, lhk3, xhk3, fhk4]
    · try simp only [go_sem, n1, n2, n3, n4, hk1] at hk2
      all_goals
      obtain ⟨hk5, h⟩ := ck_some h
      have lhk5 := ix_lt hk5
      have xhk5 := getD_mapD Estimate_av list lhk5
      try simp only [go_sem] at lhk5
      try simp only [go_sem] at xhk5
      try simp only [go_sem, n1, n2, n3, n4, hk1, hk2] at hk5
      all_goals
      obtain ⟨y_6, hk6, h⟩ := bd_some h
      have fhk6 := Fs_spec_l06PutName hk6
      try simp only [go_sem, hk1, hk2, hk5] at fhk6
      obtain rfl := so_some h
      refine ⟨0, fun L hL => ?_⟩
      simp only [go_sem, ir82, E_spec_l25Names_l1, R_spec_l25Names_l1, ir82_b0, ir82_k0, ir82_o0, ir82_r0, hk1, hk2, hk5, lhk5, xhk5, fhk6]
  · try simp only [go_sem, n1, n2, n3, n4] at hk1
    all_goals
    obtain rfl := so_some h
    refine ⟨0, fun L hL => ?_⟩
    simp only [go_sem, ir82, E_spec_l25Names_l1, R_spec_l25Names_l1, ir82_b0, ir82_k0, ir82_o0, ir82_r0, hk1]

theorem Fs_spec_l25Names {list : List Estimate} {star : Bool} {y_ : (List (List UInt8))} (h : spec_l25Names list star = some y_) : c_spec_l25Names.F [.sl 5 (List.map Estimate_av list), .bool star] = ⟨true, .sl 1 (List.map AV.str y_), [.any, .any]⟩ := by
  refine mkN_E ?_
  dsimp only [spec_l25Names] at h
  obtain ⟨y_7, hk7, h⟩ := bd_some h
  obtain ⟨Lhk7, ehk7⟩ := spec_l25Names_l1_ex hk7
  obtain rfl := so_some h
  refine ⟨Lhk7, fun L hL => ?_⟩
  have ehk7 := ehk7 L (by omega)
  try simp only [go_sem, E_spec_l25Names_l1, R_spec_l25Names_l1, ir82_k0, ir82_o0, ir82_r0] at ehk7
  simp only [go_sem, ir82, E_spec_l25Names_l1, R_spec_l25Names_l1, ir82_k0, ir82_o0, ir82_r0, ehk7]


def ir83_b0 : IR := .seq (.test false [
    ⟨.push, 6, none, .mov (.v 3)⟩,
    ⟨.push, 7, none, .mov (.v 0)⟩,
    ⟨.push, 8, none, .len false (.s 0)⟩,
    ⟨.push, 9, none, .bin false .lss (.s 2) (.s 0)⟩] (.s 0)
  (.skip)
  (.exit 0))
 (.seq (.block 1 (.test false [
     ⟨.push, 12, none, .mov (.v 0)⟩,
     ⟨.push, 13, none, .mov (.v 3)⟩,
     ⟨.push, 14, none, .ixAddr 1 (.s 1) (.s 0)⟩,
     ⟨.push, 15, none, .load false 1 (.s 0)⟩,
     ⟨.push, 16, none, .mov (.v 1)⟩,
     ⟨.push, 17, none, .bin false .eql (.s 1) (.s 0)⟩] (.s 0)
   (.seq (.region false [
       ⟨.push, 18, none, .mov (.v 3)⟩,
       ⟨.var 2, 4, none, .mov (.s 0)⟩])
    (.ret))
   (.skip)))
 (.region false [
   ⟨.push, 10, none, .mov (.v 3)⟩,
   ⟨.push, 11, none, .bin false .add (.s 0) (.c (.int .i64 (1)))⟩,
   ⟨.var 3, 5, none, .mov (.s 0)⟩]))
def ir83_k0 : List Bool := [true, true, false, true]
def ir83_o0 : List Bool := [false, false, false, false]
def ir83_r0 : List Bool := [false, false, true, false]
def ir83_v : List Nat := [0, 1, 4, 5]
def ir83 : AFn := ⟨2, 4, .seq (.region false [
    ⟨.var 2, 4, none, .mov (.c (.int .i64 (0)))⟩])
 (.seq (.seq (.region false [
     ⟨.var 3, 5, none, .mov (.c (.int .i64 (0)))⟩])
  (.block 0 (.loop ir83_k0 ir83_o0 ir83_r0 ir83_b0)))
 (.seq (.region false [
    ⟨.var 2, 4, none, .mov (.c (.int .i64 (-1)))⟩])
 (.ret))), [.t 2]⟩
noncomputable def t_spec_l25Find : List (Nat × Ctr) := []
noncomputable def c_spec_l25Find : Ctr := mkF t_spec_l25Find ir83 [.bor, .bor]
theorem s_spec_l25Find : Sound Try.prog 83 c_spec_l25Find := mkF_sound _ rfl snd_nil (by kernel_rfl : chkFn Try.prog 83 ir83 ir83_v = true)
theorem M_spec_l25Find : c_spec_l25Find.modes = [.bor, .bor] := rfl
theorem Fl_spec_l25Find : c_spec_l25Find.flat = true := rfl
attribute [go_sem] M_spec_l25Find Fl_spec_l25Find
def E_spec_l25Find_l1 (list : List (List UInt8)) (name : List UInt8) : Int → St
  | i => ⟨[.sl 1 (List.map AV.str list), .str name, .any, .int .i64 i], [], [], true⟩
def R_spec_l25Find_l1 (list : List (List UInt8)) (name : List UInt8) : (Unit ⊕ Int) → Res
  | .inl y => (.exit 0, ⟨[.any, .any, .any, .any], [], [], true⟩)
  | .inr y => (.ret, ⟨[.any, .any, .int .i64 y, .any], [], [], true⟩)
theorem spec_l25Find_l1_ex {list : List (List UInt8)} {name : List UInt8} {sgm_ : Int} {rho_ : Unit ⊕ Int} (h : whileE (spec_l25Find_l1 list name) sgm_ = some rho_) : ∃ L0, ∀ L, L0 ≤ L → iter (exec (look t_spec_l25Find) L ir83_b0) ir83_k0 ir83_o0 ir83_r0 L (E_spec_l25Find_l1 list name sgm_) = R_spec_l25Find_l1 list name rho_ := by
  refine loop_ex (E := E_spec_l25Find_l1 list name) (R := R_spec_l25Find_l1 list name) (fun y => by first | (intro c; cases c) | (rcases y with y | y <;> (intro c; cases c)) | (rcases y with y | y | y <;> (intro c; cases c))) ?_ h
  clear h
  intro i o_ h
  dsimp only [spec_l25Find_l1] at h
  rcases it_some h with ⟨hk1, h⟩ | ⟨hk1, h⟩
  · try simp only [go_sem, n1, n2, n3, n4] at hk1
    all_goals
    obtain ⟨hk2, h⟩ := ck_some h
    have lhk2 := ix_lt hk2
    have xhk2 := getD_mapD AV.str list lhk2
    try simp only [go_sem] at lhk2
    try simp only [go_sem] at xhk2
    try simp only [go_sem, n1, n2, n3, n4, hk1] at hk2
    all_goals
    rcases it_some h with ⟨hk3, h⟩ | ⟨hk3, h⟩
    · try simp only [go_sem, n1, n2, n3, n4, hk1, hk2] at hk3
      all_goals
      obtain rfl := so_some h
      refine ⟨0, fun L hL => ?_⟩
      simp only [go_sem, ir83, E_spec_l25Find_l1, R_spec_l25Find_l1, ir83_b0, ir83_k0, ir83_o0, ir83_r0, hk1, hk2, lhk2, xhk2, hk3]
    · try simp only [go_sem, n1, n2, n3, n4, hk1, hk2] at hk3
      all_goals
      obtain rfl := so_some h
      refine ⟨0, fun L hL => ?_⟩
      simp only [go_sem, ir83, E_spec_l25Find_l1, R_spec_l25Find_l1, ir83_b0, ir83_k0, ir83_o0, ir83_r0, hk1, hk2, lhk2, xhk2, hk3]
  · try simp only [go_sem, n1, n2, n3, n4] at hk1
    all_goals
    obtain rfl := so_some h
    refine ⟨0, fun L hL => ?_⟩
    simp only [go_sem, ir83, E_spec_l25Find_l1, R_spec_l25Find_l1, ir83_b0, ir83_k0, ir83_o0, ir83_r0, hk1]

theorem Fs_spec_l25Find {list : List (List UInt8)} {name : List UInt8} {y_ : Int} (h : spec_l25Find list name = some y_) : c_spec_l25Find.F [.sl 1 (List.map AV.str list), .str name] = ⟨true, .int .i64 y_, [.any, .any]⟩ := by
  refine mkF_E rfl ?_
  dsimp only [spec_l25Find] at h
  obtain ⟨y_4, hk4, h⟩ := bd_some h
  obtain ⟨Lhk4, ehk4⟩ := spec_l25Find_l1_ex hk4
  rcases y_4 with y_4a | y_4b
  · dsimp only at h
    obtain rfl := so_some h
    refine ⟨Lhk4, fun L hL => ?_⟩
    have ehk4 := ehk4 L (by omega)
    try simp only [go_sem, E_spec_l25Find_l1, R_spec_l25Find_l1, ir83_k0, ir83_o0, ir83_r0] at ehk4
    simp only [go_sem, ir83, E_spec_l25Find_l1, R_spec_l25Find_l1, ir83_k0, ir83_o0, ir83_r0, ehk4]
  · dsimp only at h
    obtain rfl := so_some h
    refine ⟨Lhk4, fun L hL => ?_⟩
    have ehk4 := ehk4 L (by omega)
    try simp only [go_sem, E_spec_l25Find_l1, R_spec_l25Find_l1, ir83_k0, ir83_o0, ir83_r0] at ehk4
    simp only [go_sem, ir83, E_spec_l25Find_l1, R_spec_l25Find_l1, ir83_k0, ir83_o0, ir83_r0, ehk4]


def ir84_b0 : IR := .seq (.test false [
    ⟨.push, 6, none, .mov (.v 3)⟩,
    ⟨.push, 7, none, .mov (.v 0)⟩,
    ⟨.push, 8, none, .len false (.s 0)⟩,
    ⟨.push, 9, none, .bin false .lss (.s 2) (.s 0)⟩] (.s 0)
  (.skip)
  (.exit 0))
 (.seq (.block 1 (.test false [
     ⟨.push, 12, none, .mov (.v 0)⟩,
     ⟨.push, 13, none, .mov (.v 3)⟩,
     ⟨.push, 14, none, .ixAddr 2 (.s 1) (.s 0)⟩,
     ⟨.push, 15, none, .fldAddr 0 (.s 0)⟩,
     ⟨.push, 16, none, .load false 1 (.s 0)⟩,
     ⟨.push, 17, none, .mov (.v 1)⟩,
     ⟨.push, 18, none, .bin false .eql (.s 1) (.s 0)⟩] (.s 0)
   (.seq (.region false [
       ⟨.var 2, 4, none, .mov (.c (.bool true))⟩])
    (.ret))
   (.skip)))
 (.region false [
   ⟨.push, 10, none, .mov (.v 3)⟩,
   ⟨.push, 11, none, .bin false .add (.s 0) (.c (.int .i64 (1)))⟩,
   ⟨.var 3, 5, none, .mov (.s 0)⟩]))
def ir84_k0 : List Bool := [true, true, false, true]
def ir84_o0 : List Bool := [false, false, false, false]
def ir84_r0 : List Bool := [false, false, true, false]
def ir84_v : List Nat := [0, 1, 4, 5]
def ir84 : AFn := ⟨2, 4, .seq (.region false [
    ⟨.var 2, 4, none, .mov (.c (.bool false))⟩])
 (.seq (.seq (.region false [
     ⟨.var 3, 5, none, .mov (.c (.int .i64 (0)))⟩])
  (.block 0 (.loop ir84_k0 ir84_o0 ir84_r0 ir84_b0)))
 (.seq (.region false [
    ⟨.var 2, 4, none, .mov (.c (.bool false))⟩])
 (.ret))), [.t 2]⟩
noncomputable def t_spec_l26Has : List (Nat × Ctr) := []
noncomputable def c_spec_l26Has : Ctr := mkF t_spec_l26Has ir84 [.bor, .bor]
theorem s_spec_l26Has : Sound Try.prog 84 c_spec_l26Has := mkF_sound _ rfl snd_nil (by kernel_rfl : chkFn Try.prog 84 ir84 ir84_v = true)
theorem M_spec_l26Has : c_spec_l26Has.modes = [.bor, .bor] := rfl
theorem Fl_spec_l26Has : c_spec_l26Has.flat = true := rfl
attribute [go_sem] M_spec_l26Has Fl_spec_l26Has
def E_spec_l26Has_l1 (faults : List Fault) (index : Int) : Int → St
  | i => ⟨[.sl 2 (List.map Fault_av faults), .int .i64 index, .any, .int .i64 i], [], [], true⟩
def R_spec_l26Has_l1 (faults : List Fault) (index : Int) : (Unit ⊕ Bool) → Res
  | .inl y => (.exit 0, ⟨[.any, .any, .any, .any], [], [], true⟩)
  | .inr y => (.ret, ⟨[.any, .any, .bool y, .any], [], [], true⟩)
theorem spec_l26Has_l1_ex {faults : List Fault} {index : Int} {sgm_ : Int} {rho_ : Unit ⊕ Bool} (h : whileE (spec_l26Has_l1 faults index) sgm_ = some rho_) : ∃ L0, ∀ L, L0 ≤ L → iter (exec (look t_spec_l26Has) L ir84_b0) ir84_k0 ir84_o0 ir84_r0 L (E_spec_l26Has_l1 faults index sgm_) = R_spec_l26Has_l1 faults index rho_ := by
  refine loop_ex (E := E_spec_l26Has_l1 faults index) (R := R_spec_l26Has_l1 faults index) (fun y => by first | (intro c; cases c) | (rcases y with y | y <;> (intro c; cases c)) | (rcases y with y | y | y <;> (intro c; cases c))) ?_ h
  clear h
  intro i o_ h
  dsimp only [spec_l26Has_l1] at h
  rcases it_some h with ⟨hk1, h⟩ | ⟨hk1, h⟩
  · try simp only [go_sem, n1, n2, n3, n4] at hk1
    all_goals
    obtain ⟨hk2, h⟩ := ck_some h
    have lhk2 := ix_lt hk2
    have xhk2 := getD_mapD Fault_av faults lhk2
    try simp only [go_sem] at lhk2
    try simp only [go_sem] at xhk2
    try simp only [go_sem, n1, n2, n3, n4, hk1] at hk2
    all_goals
    rcases it_some h with ⟨hk3, h⟩ | ⟨hk3, h⟩
    · try simp only [go_sem, n1, n2, n3, n4, hk1, hk2] at hk3
      all_goals
      obtain rfl := so_some h
      refine ⟨0, fun L hL => ?_⟩
      simp only [go_sem, ir84, E_spec_l26Has_l1, R_spec_l26Has_l1, ir84_b0, ir84_k0, ir84_o0, ir84_r0, hk1, hk2, lhk2, xhk2, hk3]
    · try simp only [go_sem, n1, n2, n3, n4, hk1, hk2] at hk3
      all_goals
      obtain rfl := so_some h
      refine ⟨0, fun L hL => ?_⟩
      simp only [go_sem, ir84, E_spec_l26Has_l1, R_spec_l26Has_l1, ir84_b0, ir84_k0, ir84_o0, ir84_r0, hk1, hk2, lhk2, xhk2, hk3]
  · try simp only [go_sem, n1, n2, n3, n4] at hk1
    all_goals
    obtain rfl := so_some h
    refine ⟨0, fun L hL => ?_⟩
    simp only [go_sem, ir84, E_spec_l26Has_l1, R_spec_l26Has_l1, ir84_b0, ir84_k0, ir84_o0, ir84_r0, hk1]

theorem Fs_spec_l26Has {faults : List Fault} {index : Int} {y_ : Bool} (h : spec_l26Has faults index = some y_) : c_spec_l26Has.F [.sl 2 (List.map Fault_av faults), .int .i64 index] = ⟨true, .bool y_, [.any, .any]⟩ := by
  refine mkF_E rfl ?_
  dsimp only [spec_l26Has] at h
  obtain ⟨y_4, hk4, h⟩ := bd_some h
  obtain ⟨Lhk4, ehk4⟩ := spec_l26Has_l1_ex hk4
  rcases y_4 with y_4a | y_4b
  · dsimp only at h
    obtain rfl := so_some h
    refine ⟨Lhk4, fun L hL => ?_⟩
    have ehk4 := ehk4 L (by omega)
    try simp only [go_sem, E_spec_l26Has_l1, R_spec_l26Has_l1, ir84_k0, ir84_o0, ir84_r0] at ehk4
    simp only [go_sem, ir84, E_spec_l26Has_l1, R_spec_l26Has_l1, ir84_k0, ir84_o0, ir84_r0, ehk4]
  · dsimp only at h
    obtain rfl := so_some h
    refine ⟨Lhk4, fun L hL => ?_⟩
    have ehk4 := ehk4 L (by omega)
    try simp only [go_sem, E_spec_l26Has_l1, R_spec_l26Has_l1, ir84_k0, ir84_o0, ir84_r0] at ehk4
    simp only [go_sem, ir84, E_spec_l26Has_l1, R_spec_l26Has_l1, ir84_k0, ir84_o0, ir84_r0, ehk4]


def ir54_b0 : IR := .seq (.test false [
    ⟨.push, 20, none, .mov (.v 8)⟩,
    ⟨.push, 21, none, .mov (.v 0)⟩,
    ⟨.push, 22, none, .len false (.s 0)⟩,
    ⟨.push, 23, none, .bin false .lss (.s 2) (.s 0)⟩] (.s 0)
  (.skip)
  (.exit 0))
 (.seq (.block 1 (.seq (.region false [
      ⟨.push, 26, none, .mov (.v 5)⟩,
      ⟨.push, 27, none, .mov (.v 0)⟩,
      ⟨.push, 28, none, .mov (.v 8)⟩,
      ⟨.push, 29, none, .ixAddr 5 (.s 1) (.s 0)⟩,
      ⟨.push, 30, none, .fldAddr 2 (.s 0)⟩,
      ⟨.push, 31, none, .load false 1 (.s 0)⟩,
      ⟨.push, 32, none, .call 83 [(.s 5), (.s 0)]⟩,
      ⟨.var 9, 11, none, .mov (.s 0)⟩])
   (.seq (.region false [
      ⟨.push, 33, none, .mov (.v 7)⟩,
      ⟨.push, 34, none, .mov (.v 9)⟩,
      ⟨.push, 35, none, .ixAddr 1 (.s 1) (.s 0)⟩,
      ⟨.push, 36, none, .load false 1 (.s 0)⟩,
      ⟨.push, 37, none, .bin false .add (.s 0) (.c (.int .i64 (1)))⟩,
      ⟨.push, 38, none, .ixAddr 1 (.s 4) (.s 3)⟩,
      ⟨.no, 0, none, .store 1 (.s 0) (.s 1)⟩])
   (.test false [
     ⟨.push, 39, none, .mov (.v 1)⟩,
     ⟨.push, 40, none, .mov (.v 8)⟩,
     ⟨.push, 41, none, .call 84 [(.s 1), (.s 0)]⟩] (.s 0)
   (.region false [
      ⟨.push, 42, none, .mov (.v 6)⟩,
      ⟨.push, 43, none, .mov (.v 9)⟩,
      ⟨.push, 44, none, .ixAddr 1 (.s 1) (.s 0)⟩,
      ⟨.push, 45, none, .load false 1 (.s 0)⟩,
      ⟨.push, 46, none, .bin false .add (.s 0) (.c (.int .i64 (1)))⟩,
      ⟨.push, 47, none, .ixAddr 1 (.s 4) (.s 3)⟩,
      ⟨.no, 0, none, .store 1 (.s 0) (.s 1)⟩])
   (.skip)))))
 (.region false [
   ⟨.push, 24, none, .mov (.v 8)⟩,
   ⟨.push, 25, none, .bin false .add (.s 0) (.c (.int .i64 (1)))⟩,
   ⟨.var 8, 10, none, .mov (.s 0)⟩]))
def ir54_k0 : List Bool := [true, true, false, false, false, true, true, true, true, false]
def ir54_o0 : List Bool := [false, false, false, false, false, true, true, true, false, false]
def ir54_r0 : List Bool := [false, false, true, true, true, false, false, false, false, false]
def ir54_v : List Nat := [0, 1, 4, 5, 6, 7, 8, 9, 10, 11]
def ir54 : AFn := ⟨2, 10, .seq (.region false [
    ⟨.var 2, 4, none, .newnil 1⟩,
    ⟨.var 3, 5, none, .newnil 1⟩,
    ⟨.var 4, 6, none, .newnil 1⟩])
 (.seq (.region false [
    ⟨.push, 12, none, .mov (.v 0)⟩,
    ⟨.push, 13, none, .call 82 [(.s 0), (.c (.bool false))]⟩,
    ⟨.var 5, 7, none, .mov (.s 0)⟩])
 (.seq (.region false [
    ⟨.push, 14, none, .mov (.v 5)⟩,
    ⟨.push, 15, none, .len false (.s 0)⟩,
    ⟨.push, 16, none, .make 1 8 (.int .i64 (0)) (.s 0) (.s 0)⟩,
    ⟨.var 6, 8, none, .mov (.s 0)⟩])
 (.seq (.region false [
    ⟨.push, 17, none, .mov (.v 5)⟩,
    ⟨.push, 18, none, .len false (.s 0)⟩,
    ⟨.push, 19, none, .make 1 8 (.int .i64 (0)) (.s 0) (.s 0)⟩,
    ⟨.var 7, 9, none, .mov (.s 0)⟩])
 (.seq (.seq (.region false [
     ⟨.var 8, 10, none, .mov (.c (.int .i64 (0)))⟩])
  (.block 0 (.loop ir54_k0 ir54_o0 ir54_r0 ir54_b0)))
 (.seq (.region false [
    ⟨.push, 48, none, .mov (.v 5)⟩,
    ⟨.push, 49, none, .mov (.v 6)⟩,
    ⟨.push, 50, none, .mov (.v 7)⟩,
    ⟨.var 2, 4, none, .mov (.s 2)⟩,
    ⟨.var 3, 5, none, .mov (.s 1)⟩,
    ⟨.var 4, 6, none, .mov (.s 0)⟩])
 (.ret)))))), [.t 2, .t 3, .t 4]⟩
noncomputable def t_spec_l26Shares : List (Nat × Ctr) := [(82, c_spec_l25Names), (83, c_spec_l25Find), (84, c_spec_l26Has)]
theorem lk_spec_l26Shares_82 : look t_spec_l26Shares 82 = some c_spec_l25Names := rfl
theorem lk_spec_l26Shares_83 : look t_spec_l26Shares 83 = some c_spec_l25Find := rfl
theorem lk_spec_l26Shares_84 : look t_spec_l26Shares 84 = some c_spec_l26Has := rfl
noncomputable def c_spec_l26Shares : Ctr := mkN t_spec_l26Shares ir54 [.bor, .bor]
theorem s_spec_l26Shares : Sound Try.prog 54 c_spec_l26Shares := mkN_sound _ (snd_cons s_spec_l25Names (snd_cons s_spec_l25Find (snd_cons s_spec_l26Has snd_nil))) (by kernel_rfl : chkFn Try.prog 54 ir54 ir54_v = true)
theorem M_spec_l26Shares : c_spec_l26Shares.modes = [.bor, .bor] := rfl
theorem Fl_spec_l26Shares : c_spec_l26Shares.flat = false := rfl
attribute [go_sem] M_spec_l26Shares Fl_spec_l26Shares
attribute [go_sem] lk_spec_l26Shares_82 lk_spec_l26Shares_83 lk_spec_l26Shares_84
def E_spec_l26Shares_l1 (list : List Estimate) (faults : List Fault) (names : List (List UInt8)) : ((List Int) × (List Int) × Int) → St
  | (bad, all, i) => ⟨[.sl 5 (List.map Estimate_av list), .sl 2 (List.map Fault_av faults), .any, .any, .any, .sl 1 (List.map AV.str names), .own 3200000, .own 3200032, .int .i64 i, .any], [], [(3200000, ⟨1, List.map (AV.int .i64) bad⟩), (3200032, ⟨1, List.map (AV.int .i64) all⟩)], true⟩
def R_spec_l26Shares_l1 (list : List Estimate) (faults : List Fault) (names : List (List UInt8)) (y : (List Int) × (List Int)) : Res := (.exit 0, ⟨[.any, .any, .any, .any, .any, .sl 1 (List.map AV.str names), .own 3200000, .own 3200032, .any, .any], [], [(3200000, ⟨1, List.map (AV.int .i64) y.1⟩), (3200032, ⟨1, List.map (AV.int .i64) y.2⟩)], true⟩)
theorem spec_l26Shares_l1_ex {list : List Estimate} {faults : List Fault} {names : List (List UInt8)} {sgm_ : (List Int) × (List Int) × Int} {rho_ : (List Int) × (List Int)} (h : whileE (spec_l26Shares_l1 list faults names) sgm_ = some rho_) : ∃ L0, ∀ L, L0 ≤ L → iter (exec (look t_spec_l26Shares) L ir54_b0) ir54_k0 ir54_o0 ir54_r0 L (E_spec_l26Shares_l1 list faults names sgm_) = R_spec_l26Shares_l1 list faults names rho_ := by
  refine loop_ex (E := E_spec_l26Shares_l1 list faults names) (R := R_spec_l26Shares_l1 list faults names) (fun y => by first | (intro c; cases c) | (rcases y with y | y <;> (intro c; cases c)) | (rcases y with y | y | y <;> (intro c; cases c))) ?_ h
  clear h
  rintro ⟨bad, all, i⟩ o_ h
  dsimp only [spec_l26Shares_l1] at h
  rcases it_some h with ⟨hk3, h⟩ | ⟨hk3, h⟩
  · try simp only [go_sem, n1, n2, n3, n4] at hk3
    all_goals
    obtain ⟨hk4, h⟩ := ck_some h
    have lhk4 := ix_lt hk4
    have xhk4 := getD_mapD Estimate_av list lhk4
    try simp only [go_sem] at lhk4
    try simp only [go_sem] at xhk4
    try simp only [go_sem, n1, n2, n3, n4, hk3] at hk4
    all_goals
    obtain ⟨y_5, hk5, h⟩ := bd_some h
    have fhk5 := Fs_spec_l25Find hk5
    try simp only [go_sem, hk3, hk4] at fhk5
    obtain ⟨hk6, h⟩ := ck_some h
    have lhk6 := ix_lt hk6
    have xhk6 := getD_mapD (AV.int .i64) all lhk6
    try simp only [go_sem] at lhk6
    try simp only [go_sem] at xhk6
    try simp only [go_sem, n1, n2, n3, n4, hk3, hk4] at hk6
    all_goals
    obtain ⟨y_7, hk7, h⟩ := bd_some h
    have fhk7 := Fs_spec_l26Has hk7
    try simp only [go_sem, hk3, hk4, hk6] at fhk7
    rcases it_some h with ⟨hk8, h⟩ | ⟨hk8, h⟩
    · try simp only [go_sem, n1, n2, n3, n4, hk3, hk4, hk6] at hk8
      all_goals
      obtain ⟨hk9, h⟩ := ck_some h
      have lhk9 := ix_lt hk9
      have xhk9 := getD_mapD (AV.int .i64) bad lhk9
      try simp only [go_sem] at lhk9
      try simp only [go_sem] at xhk9
      try simp only [go_sem, n1, n2, n3, n4, hk3, hk4, hk6, hk8] at hk9
      all_goals
      obtain rfl := so_some h
      refine ⟨0, fun L hL => ?_⟩
      simp only [go_sem, ir54, E_spec_l26Shares_l1, R_spec_l26Shares_l1, ir54_b0, ir54_k0, ir54_o0, ir54_r0, hk3, hk4, lhk4, xhk4, fhk5, hk6, lhk6, xhk6, fhk7, hk8, hk9, lhk9, xhk9]
    · try simp only [go_sem, n1, n2, n3, n4, hk3, hk4, hk6] at hk8
      all_goals
      obtain rfl := so_some h
      refine ⟨0, fun L hL => ?_⟩
      simp only [go_sem, ir54, E_spec_l26Shares_l1, R_spec_l26Shares_l1, ir54_b0, ir54_k0, ir54_o0, ir54_r0, hk3, hk4, lhk4, xhk4, fhk5, hk6, lhk6, xhk6, fhk7, hk8]
  · try simp only [go_sem, n1, n2, n3, n4] at hk3
    all_goals
    obtain rfl := so_some h
    refine ⟨0, fun L hL => ?_⟩
    simp only [go_sem, ir54, E_spec_l26Shares_l1, R_spec_l26Shares_l1, ir54_b0, ir54_k0, ir54_o0, ir54_r0, hk3]

theorem Fs_spec_l26Shares {list : List Estimate} {faults : List Fault} {y_ : (List (List UInt8)) × (List Int) × (List Int)} (h : spec_l26Shares list faults = some y_) : c_spec_l26Shares.F [.sl 5 (List.map Estimate_av list), .sl 2 (List.map Fault_av faults)] = ⟨true, .tup [.sl 1 (List.map AV.str y_.1), .fresh 1 (List.map (AV.int .i64) y_.2.1), .fresh 1 (List.map (AV.int .i64) y_.2.2)], [.any, .any]⟩ := by
  refine mkN_E ?_
  dsimp only [spec_l26Shares] at h
  obtain ⟨y_1, hk1, h⟩ := bd_some h
  have fhk1 := Fs_spec_l25Names hk1
  try simp only [go_sem] at fhk1
  obtain ⟨hk2, h⟩ := ck_some h
  try simp only [go_sem, n1, n2, n3, n4] at hk2
  all_goals
  obtain ⟨y_10, hk10, h⟩ := bd_some h
  obtain ⟨Lhk10, ehk10⟩ := spec_l26Shares_l1_ex hk10
  obtain rfl := so_some h
  refine ⟨Lhk10, fun L hL => ?_⟩
  have ehk10 := ehk10 L (by omega)
  try simp only [go_sem, E_spec_l26Shares_l1, R_spec_l26Shares_l1, ir54_k0, ir54_o0, ir54_r0, hk2] at ehk10
  simp only [go_sem, ir54, E_spec_l26Shares_l1, R_spec_l26Shares_l1, ir54_k0, ir54_o0, ir54_r0, fhk1, hk2, ehk10]


def ir24_b0 : IR := .seq (.test false [
    ⟨.push, 25, none, .mov (.v 9)⟩,
    ⟨.push, 26, none, .mov (.v 5)⟩,
    ⟨.push, 27, none, .len false (.s 0)⟩,
    ⟨.push, 28, none, .bin false .lss (.s 2) (.s 0)⟩] (.s 0)
  (.skip)
  (.exit 0))
 (.seq (.block 1 (.anyo 30 [
     ⟨.slot 0, 31, none, .mov (.v 6)⟩,
     ⟨.slot 1, 32, none, .mov (.v 9)⟩,
     ⟨.slot 2, 33, none, .ixAddr 1 (.s 0) (.s 1)⟩,
     ⟨.slot 3, 34, none, .load false 1 (.s 2)⟩,
     ⟨.slot 4, 35, none, .bin false .gtr (.s 3) (.c (.int .i64 (0)))⟩,
     ⟨.slot 5, 36, none, .mov (.s 4)⟩,
     ⟨.slot 6, 37, (some ((.s 5), true)), .mov (.v 8)⟩,
     ⟨.slot 7, 38, (some ((.s 5), true)), .bin false .lss (.s 6) (.c (.int .i64 (0)))⟩,
     ⟨.slot 8, 39, (some ((.s 5), true)), .mov (.s 7)⟩,
     ⟨.slot 9, 40, (some ((.s 8), false)), .mov (.v 6)⟩,
     ⟨.slot 10, 41, (some ((.s 8), false)), .mov (.v 9)⟩,
     ⟨.slot 11, 42, (some ((.s 8), false)), .ixAddr 1 (.s 9) (.s 10)⟩,
     ⟨.slot 12, 43, (some ((.s 8), false)), .load false 1 (.s 11)⟩,
     ⟨.slot 13, 44, (some ((.s 8), false)), .mov (.v 7)⟩,
     ⟨.slot 14, 45, (some ((.s 8), false)), .mov (.v 8)⟩,
     ⟨.slot 15, 46, (some ((.s 8), false)), .ixAddr 1 (.s 13) (.s 14)⟩,
     ⟨.slot 16, 47, (some ((.s 8), false)), .load false 1 (.s 15)⟩,
     ⟨.slot 17, 48, (some ((.s 8), false)), .bin false .mul (.s 12) (.s 16)⟩,
     ⟨.slot 18, 49, (some ((.s 8), false)), .mov (.v 6)⟩,
     ⟨.slot 19, 50, (some ((.s 8), false)), .mov (.v 8)⟩,
     ⟨.slot 20, 51, (some ((.s 8), false)), .ixAddr 1 (.s 18) (.s 19)⟩,
     ⟨.slot 21, 52, (some ((.s 8), false)), .load false 1 (.s 20)⟩,
     ⟨.slot 22, 53, (some ((.s 8), false)), .mov (.v 7)⟩,
     ⟨.slot 23, 54, (some ((.s 8), false)), .mov (.v 9)⟩,
     ⟨.slot 24, 55, (some ((.s 8), false)), .ixAddr 1 (.s 22) (.s 23)⟩,
     ⟨.slot 25, 56, (some ((.s 8), false)), .load false 1 (.s 24)⟩,
     ⟨.slot 26, 57, (some ((.s 8), false)), .bin false .mul (.s 21) (.s 25)⟩,
     ⟨.slot 27, 58, (some ((.s 8), false)), .bin false .gtr (.s 17) (.s 26)⟩,
     ⟨.slot 28, 59, (some ((.s 5), true)), .pick (.s 8) (.c (.bool true)) (.s 27)⟩,
     ⟨.slot 29, 60, none, .pick (.s 5) (.s 28) (.c (.bool false))⟩] [] (.cond (.s 29)
   (.region false [
      ⟨.push, 61, none, .mov (.v 9)⟩,
      ⟨.var 8, 10, none, .mov (.s 0)⟩])
   (.skip))))
 (.region false [
   ⟨.push, 29, none, .mov (.v 9)⟩,
   ⟨.push, 30, none, .bin false .add (.s 0) (.c (.int .i64 (1)))⟩,
   ⟨.var 9, 11, none, .mov (.s 0)⟩]))
def ir24_k0 : List Bool := [false, false, false, false, false, true, true, true, true, true]
def ir24_o0 : List Bool := [false, false, false, false, false, true, false, false, true, false]
def ir24_r0 : List Bool := [false, false, true, true, false, false, false, false, false, false]
def ir24_v : List Nat := [0, 1, 4, 5, 6, 7, 8, 9, 10, 11]
def ir24 : AFn := ⟨2, 10, .seq (.region false [
    ⟨.var 2, 4, none, .mov (.c (.str []))⟩,
    ⟨.var 3, 5, none, .mov (.c (.int .i64 (0)))⟩])
 (.seq (.region false [
    ⟨.push, 12, none, .mov (.v 0)⟩,
    ⟨.push, 13, none, .mov (.v 1)⟩,
    ⟨.push, 14, none, .call 53 [(.s 1), (.s 0)]⟩,
    ⟨.var 4, 6, none, .mov (.s 0)⟩])
 (.seq (.test false [
    ⟨.push, 15, none, .mov (.v 4)⟩,
    ⟨.push, 16, none, .bin false .neq (.s 0) (.c (.int .i64 (0)))⟩] (.s 0)
  (.seq (.region false [
      ⟨.push, 17, none, .mov (.v 4)⟩,
      ⟨.var 2, 4, none, .mov (.c (.str []))⟩,
      ⟨.var 3, 5, none, .mov (.s 0)⟩])
   (.ret))
  (.skip))
 (.seq (.region false [
    ⟨.push, 19, none, .mov (.v 0)⟩,
    ⟨.push, 20, none, .mov (.v 1)⟩,
    ⟨.push, 21, none, .call 54 [(.s 1), (.s 0)]⟩,
    ⟨.push, 18, none, .mov (.s 0)⟩,
    ⟨.push, 22, none, .ext (.s 0) 0⟩,
    ⟨.push, 23, none, .ext (.s 1) 1⟩,
    ⟨.push, 24, none, .ext (.s 2) 2⟩,
    ⟨.var 5, 7, none, .mov (.s 2)⟩,
    ⟨.var 6, 8, none, .mov (.s 1)⟩,
    ⟨.var 7, 9, none, .mov (.s 0)⟩])
 (.seq (.region false [
    ⟨.var 8, 10, none, .mov (.c (.int .i64 (-1)))⟩])
 (.seq (.seq (.region false [
     ⟨.var 9, 11, none, .mov (.c (.int .i64 (0)))⟩])
  (.block 0 (.loop ir24_k0 ir24_o0 ir24_r0 ir24_b0)))
 (.seq (.test false [
    ⟨.push, 62, none, .mov (.v 8)⟩,
    ⟨.push, 63, none, .bin false .lss (.s 0) (.c (.int .i64 (0)))⟩] (.s 0)
  (.seq (.region false [
      ⟨.var 2, 4, none, .mov (.c (.str []))⟩,
      ⟨.var 3, 5, none, .mov (.c (.int .i64 (3)))⟩])
   (.ret))
  (.skip))
 (.seq (.region false [
    ⟨.push, 64, none, .mov (.v 5)⟩,
    ⟨.push, 65, none, .mov (.v 8)⟩,
    ⟨.push, 66, none, .ixAddr 1 (.s 1) (.s 0)⟩,
    ⟨.push, 67, none, .load false 1 (.s 0)⟩,
    ⟨.var 2, 4, none, .mov (.s 0)⟩,
    ⟨.var 3, 5, none, .mov (.c (.int .i64 (0)))⟩])
 (.ret)))))))), [.t 2, .t 3]⟩
noncomputable def t_spec_WorstObserver : List (Nat × Ctr) := [(53, c_spec_l26Code), (54, c_spec_l26Shares)]
theorem lk_spec_WorstObserver_53 : look t_spec_WorstObserver 53 = some c_spec_l26Code := rfl
theorem lk_spec_WorstObserver_54 : look t_spec_WorstObserver 54 = some c_spec_l26Shares := rfl
noncomputable def c_spec_WorstObserver : Ctr := mkF t_spec_WorstObserver ir24 [.bor, .bor]
theorem s_spec_WorstObserver : Sound Try.prog 24 c_spec_WorstObserver := mkF_sound _ rfl (snd_cons s_spec_l26Code (snd_cons s_spec_l26Shares snd_nil)) (by kernel_rfl : chkFn Try.prog 24 ir24 ir24_v = true)
theorem M_spec_WorstObserver : c_spec_WorstObserver.modes = [.bor, .bor] := rfl
theorem Fl_spec_WorstObserver : c_spec_WorstObserver.flat = true := rfl
attribute [go_sem] M_spec_WorstObserver Fl_spec_WorstObserver
attribute [go_sem] lk_spec_WorstObserver_53 lk_spec_WorstObserver_54
def E_spec_WorstObserver_l1 (names : List (List UInt8)) (bad : List Int) (all : List Int) : (Int × Int) → St
  | (best, i) => ⟨[.any, .any, .any, .any, .any, .sl 1 (List.map AV.str names), .own 3200000, .own 3200032, .int .i64 best, .int .i64 i], [], [(3200000, ⟨1, List.map (AV.int .i64) bad⟩), (3200032, ⟨1, List.map (AV.int .i64) all⟩)], true⟩
def R_spec_WorstObserver_l1 (names : List (List UInt8)) (bad : List Int) (all : List Int) (y : Int) : Res := (.exit 0, ⟨[.any, .any, .any, .any, .any, .sl 1 (List.map AV.str names), .any, .any, .int .i64 y, .any], [], [], true⟩)
theorem spec_WorstObserver_l1_ex {names : List (List UInt8)} {bad : List Int} {all : List Int} {sgm_ : Int × Int} {rho_ : Int} (h : whileE (spec_WorstObserver_l1 names bad all) sgm_ = some rho_) : ∃ L0, ∀ L, L0 ≤ L → iter (exec (look t_spec_WorstObserver) L ir24_b0) ir24_k0 ir24_o0 ir24_r0 L (E_spec_WorstObserver_l1 names bad all sgm_) = R_spec_WorstObserver_l1 names bad all rho_ := by
  refine loop_ex (E := E_spec_WorstObserver_l1 names bad all) (R := R_spec_WorstObserver_l1 names bad all) (fun y => by first | (intro c; cases c) | (rcases y with y | y <;> (intro c; cases c)) | (rcases y with y | y | y <;> (intro c; cases c))) ?_ h
  clear h
  rintro ⟨best, i⟩ o_ h
  dsimp only [spec_WorstObserver_l1] at h
  rcases it_some h with ⟨hk4, h⟩ | ⟨hk4, h⟩
  · try simp only [go_sem, n1, n2, n3, n4] at hk4
    all_goals
    obtain ⟨hk5, h⟩ := ck_some h
    have lhk5 := ix_lt hk5
    have xhk5 := getD_mapD (AV.int .i64) bad lhk5
    try simp only [go_sem] at lhk5
    try simp only [go_sem] at xhk5
    try simp only [go_sem, n1, n2, n3, n4, hk4] at hk5
    all_goals
    obtain ⟨hk6, h⟩ := ck_some h
    rcases or_split hk6 with ⟨ghk6, hk6⟩ | ghk6
    · try simp only [go_sem, n1, n2, n3, n4, hk4, hk5] at ghk6
      all_goals
      have lhk6 := ix_lt hk6
      have xhk6 := getD_mapD (AV.int .i64) all lhk6
      try simp only [go_sem] at lhk6
      try simp only [go_sem] at xhk6
      try simp only [go_sem, n1, n2, n3, n4, hk4, hk5, ghk6] at hk6
      all_goals
      obtain ⟨hk7, h⟩ := ck_some h
      rcases or_split hk7 with ⟨ghk7, hk7⟩ | ghk7
      · try simp only [go_sem, n1, n2, n3, n4, hk4, hk5, ghk6, hk6] at ghk7
        all_goals
        have lhk7 := ix_lt hk7
        have xhk7 := getD_mapD (AV.int .i64) bad lhk7
        try simp only [go_sem] at lhk7
        try simp only [go_sem] at xhk7
        try simp only [go_sem, n1, n2, n3, n4, hk4, hk5, ghk6, hk6, ghk7] at hk7
        all_goals
        obtain ⟨hk8, h⟩ := ck_some h
        rcases or_split hk8 with ⟨ghk8, hk8⟩ | ghk8
        · try simp only [go_sem, n1, n2, n3, n4, hk4, hk5, ghk6, hk6, ghk7, hk7] at ghk8
          all_goals
          have lhk8 := ix_lt hk8
          have xhk8 := getD_mapD (AV.int .i64) all lhk8
          try simp only [go_sem] at lhk8
          try simp only [go_sem] at xhk8
          try simp only [go_sem, n1, n2, n3, n4, hk4, hk5, ghk6, hk6, ghk7, hk7, ghk8] at hk8
          all_goals
          rcases it_some h with ⟨hk9, h⟩ | ⟨hk9, h⟩
          · try simp only [go_sem, n1, n2, n3, n4, hk4, hk5, ghk6, hk6, ghk7, hk7, ghk8, hk8] at hk9
            all_goals
            obtain rfl := so_some h
            refine ⟨0, fun L hL => ?_⟩
            simp only [go_sem, ir24, E_spec_WorstObserver_l1, R_spec_WorstObserver_l1, ir24_b0, ir24_k0, ir24_o0, ir24_r0, hk4, hk5, lhk5, xhk5, ghk6, hk6, lhk6, xhk6, ghk7, hk7, lhk7, xhk7, ghk8, hk8, lhk8, xhk8, hk9]
          · try simp only [go_sem, n1, n2, n3, n4, hk4, hk5, ghk6, hk6, ghk7, hk7, ghk8, hk8] at hk9
            all_goals
            obtain rfl := so_some h
            refine ⟨0, fun L hL => ?_⟩
            simp only [go_sem, ir24, E_spec_WorstObserver_l1, R_spec_WorstObserver_l1, ir24_b0, ir24_k0, ir24_o0, ir24_r0, hk4, hk5, lhk5, xhk5, ghk6, hk6, lhk6, xhk6, ghk7, hk7, lhk7, xhk7, ghk8, hk8, lhk8, xhk8, hk9]
        · rcases and_f ghk8 with ghk8a | ⟨ghk8a, ghk8b⟩
          · try simp only [go_sem, n1, n2, n3, n4, hk4, hk5, ghk6, hk6, ghk7, hk7] at ghk8a
            all_goals
            rcases it_some h with ⟨hk9, h⟩ | ⟨hk9, h⟩
            · try simp only [go_sem, n1, n2, n3, n4, hk4, hk5, ghk6, hk6, ghk7, hk7, ghk8a] at hk9
              all_goals
              obtain rfl := so_some h
              refine ⟨0, fun L hL => ?_⟩
              simp only [go_sem, ir24, E_spec_WorstObserver_l1, R_spec_WorstObserver_l1, ir24_b0, ir24_k0, ir24_o0, ir24_r0, hk4, hk5, lhk5, xhk5, ghk6, hk6, lhk6, xhk6, ghk7, hk7, lhk7, xhk7, ghk8a, hk9]
            · try simp only [go_sem, n1, n2, n3, n4, hk4, hk5, ghk6, hk6, ghk7, hk7, ghk8a] at hk9
              all_goals
              obtain rfl := so_some h
              refine ⟨0, fun L hL => ?_⟩
              simp only [go_sem, ir24, E_spec_WorstObserver_l1, R_spec_WorstObserver_l1, ir24_b0, ir24_k0, ir24_o0, ir24_r0, hk4, hk5, lhk5, xhk5, ghk6, hk6, lhk6, xhk6, ghk7, hk7, lhk7, xhk7, ghk8a, hk9]
          · have ghk8bn := no_f ghk8b
            try simp only [go_sem, n1, n2, n3, n4, hk4, hk5, ghk6, hk6, ghk7, hk7] at ghk8a
            all_goals
            try simp only [go_sem, n1, n2, n3, n4, hk4, hk5, ghk6, hk6, ghk7, hk7, ghk8a] at ghk8bn
            all_goals
            rcases it_some h with ⟨hk9, h⟩ | ⟨hk9, h⟩
            · try simp only [go_sem, n1, n2, n3, n4, hk4, hk5, ghk6, hk6, ghk7, hk7, ghk8a, ghk8bn] at hk9
              all_goals
              obtain rfl := so_some h
              refine ⟨0, fun L hL => ?_⟩
              simp only [go_sem, ir24, E_spec_WorstObserver_l1, R_spec_WorstObserver_l1, ir24_b0, ir24_k0, ir24_o0, ir24_r0, hk4, hk5, lhk5, xhk5, ghk6, hk6, lhk6, xhk6, ghk7, hk7, lhk7, xhk7, ghk8a, ghk8bn, hk9]
            · try simp only [go_sem, n1, n2, n3, n4, hk4, hk5, ghk6, hk6, ghk7, hk7, ghk8a, ghk8bn] at hk9
              all_goals
              obtain rfl := so_some h
              refine ⟨0, fun L hL => ?_⟩
              simp only [go_sem, ir24, E_spec_WorstObserver_l1, R_spec_WorstObserver_l1, ir24_b0, ir24_k0, ir24_o0, ir24_r0, hk4, hk5, lhk5, xhk5, ghk6, hk6, lhk6, xhk6, ghk7, hk7, lhk7, xhk7, ghk8a, ghk8bn, hk9]
      · rcases and_f ghk7 with ghk7a | ⟨ghk7a, ghk7b⟩
        · try simp only [go_sem, n1, n2, n3, n4, hk4, hk5, ghk6, hk6] at ghk7a
          all_goals
          obtain ⟨hk8, h⟩ := ck_some h
          rcases or_split hk8 with ⟨ghk8, hk8⟩ | ghk8
          · try simp only [go_sem, n1, n2, n3, n4, hk4, hk5, ghk6, hk6, ghk7a] at ghk8
            all_goals
            have lhk8 := ix_lt hk8
            have xhk8 := getD_mapD (AV.int .i64) all lhk8
            try simp only [go_sem] at lhk8
            try simp only [go_sem] at xhk8
            try simp only [go_sem, n1, n2, n3, n4, hk4, hk5, ghk6, hk6, ghk7a, ghk8] at hk8
            all_goals
            rcases it_some h with ⟨hk9, h⟩ | ⟨hk9, h⟩
            · try simp only [go_sem, n1, n2, n3, n4, hk4, hk5, ghk6, hk6, ghk7a, ghk8, hk8] at hk9
              all_goals
              obtain rfl := so_some h
              refine ⟨0, fun L hL => ?_⟩
              simp only [go_sem, ir24, E_spec_WorstObserver_l1, R_spec_WorstObserver_l1, ir24_b0, ir24_k0, ir24_o0, ir24_r0, hk4, hk5, lhk5, xhk5, ghk6, hk6, lhk6, xhk6, ghk7a, ghk8, hk8, lhk8, xhk8, hk9]
            · try simp only [go_sem, n1, n2, n3, n4, hk4, hk5, ghk6, hk6, ghk7a, ghk8, hk8] at hk9
              all_goals
              obtain rfl := so_some h
              refine ⟨0, fun L hL => ?_⟩
              simp only [go_sem, ir24, E_spec_WorstObserver_l1, R_spec_WorstObserver_l1, ir24_b0, ir24_k0, ir24_o0, ir24_r0, hk4, hk5, lhk5, xhk5, ghk6, hk6, lhk6, xhk6, ghk7a, ghk8, hk8, lhk8, xhk8, hk9]
          · rcases and_f ghk8 with ghk8a | ⟨ghk8a, ghk8b⟩
            · try simp only [go_sem, n1, n2, n3, n4, hk4, hk5, ghk6, hk6, ghk7a] at ghk8a
              all_goals
              rcases it_some h with ⟨hk9, h⟩ | ⟨hk9, h⟩
              · try simp only [go_sem, n1, n2, n3, n4, hk4, hk5, ghk6, hk6, ghk7a, ghk8a] at hk9
                all_goals
                obtain rfl := so_some h
                refine ⟨0, fun L hL => ?_⟩
                simp only [go_sem, ir24, E_spec_WorstObserver_l1, R_spec_WorstObserver_l1, ir24_b0, ir24_k0, ir24_o0, ir24_r0, hk4, hk5, lhk5, xhk5, ghk6, hk6, lhk6, xhk6, ghk7a, ghk8a, hk9]
              · try simp only [go_sem, n1, n2, n3, n4, hk4, hk5, ghk6, hk6, ghk7a, ghk8a] at hk9
                all_goals
                obtain rfl := so_some h
                refine ⟨0, fun L hL => ?_⟩
                simp only [go_sem, ir24, E_spec_WorstObserver_l1, R_spec_WorstObserver_l1, ir24_b0, ir24_k0, ir24_o0, ir24_r0, hk4, hk5, lhk5, xhk5, ghk6, hk6, lhk6, xhk6, ghk7a, ghk8a, hk9]
            · have ghk8bn := no_f ghk8b
              try simp only [go_sem, n1, n2, n3, n4, hk4, hk5, ghk6, hk6, ghk7a] at ghk8a
              all_goals
              try simp only [go_sem, n1, n2, n3, n4, hk4, hk5, ghk6, hk6, ghk7a, ghk8a] at ghk8bn
              all_goals
              rcases it_some h with ⟨hk9, h⟩ | ⟨hk9, h⟩
              · try simp only [go_sem, n1, n2, n3, n4, hk4, hk5, ghk6, hk6, ghk7a, ghk8a, ghk8bn] at hk9
                all_goals
                obtain rfl := so_some h
                refine ⟨0, fun L hL => ?_⟩
                simp only [go_sem, ir24, E_spec_WorstObserver_l1, R_spec_WorstObserver_l1, ir24_b0, ir24_k0, ir24_o0, ir24_r0, hk4, hk5, lhk5, xhk5, ghk6, hk6, lhk6, xhk6, ghk7a, ghk8a, ghk8bn, hk9]
              · try simp only [go_sem, n1, n2, n3, n4, hk4, hk5, ghk6, hk6, ghk7a, ghk8a, ghk8bn] at hk9
                all_goals
                obtain rfl := so_some h
                refine ⟨0, fun L hL => ?_⟩
                simp only [go_sem, ir24, E_spec_WorstObserver_l1, R_spec_WorstObserver_l1, ir24_b0, ir24_k0, ir24_o0, ir24_r0, hk4, hk5, lhk5, xhk5, ghk6, hk6, lhk6, xhk6, ghk7a, ghk8a, ghk8bn, hk9]
        · have ghk7bn := no_f ghk7b
          try simp only [go_sem, n1, n2, n3, n4, hk4, hk5, ghk6, hk6] at ghk7a
          all_goals
          try simp only [go_sem, n1, n2, n3, n4, hk4, hk5, ghk6, hk6, ghk7a] at ghk7bn
          all_goals
          obtain ⟨hk8, h⟩ := ck_some h
          rcases or_split hk8 with ⟨ghk8, hk8⟩ | ghk8
          · try simp only [go_sem, n1, n2, n3, n4, hk4, hk5, ghk6, hk6, ghk7a, ghk7bn] at ghk8
            all_goals
            have lhk8 := ix_lt hk8
            have xhk8 := getD_mapD (AV.int .i64) all lhk8
            try simp only [go_sem] at lhk8
            try simp only [go_sem] at xhk8
            try simp only [go_sem, n1, n2, n3, n4, hk4, hk5, ghk6, hk6, ghk7a, ghk7bn, ghk8] at hk8
            all_goals
            rcases it_some h with ⟨hk9, h⟩ | ⟨hk9, h⟩
            · try simp only [go_sem, n1, n2, n3, n4, hk4, hk5, ghk6, hk6, ghk7a, ghk7bn, ghk8, hk8] at hk9
              all_goals
              obtain rfl := so_some h
              refine ⟨0, fun L hL => ?_⟩
              simp only [go_sem, ir24, E_spec_WorstObserver_l1, R_spec_WorstObserver_l1, ir24_b0, ir24_k0, ir24_o0, ir24_r0, hk4, hk5, lhk5, xhk5, ghk6, hk6, lhk6, xhk6, ghk7a, ghk7bn, ghk8, hk8, lhk8, xhk8, hk9]
            · try simp only [go_sem, n1, n2, n3, n4, hk4, hk5, ghk6, hk6, ghk7a, ghk7bn, ghk8, hk8] at hk9
              all_goals
              obtain rfl := so_some h
              refine ⟨0, fun L hL => ?_⟩
              simp only [go_sem, ir24, E_spec_WorstObserver_l1, R_spec_WorstObserver_l1, ir24_b0, ir24_k0, ir24_o0, ir24_r0, hk4, hk5, lhk5, xhk5, ghk6, hk6, lhk6, xhk6, ghk7a, ghk7bn, ghk8, hk8, lhk8, xhk8, hk9]
          · rcases and_f ghk8 with ghk8a | ⟨ghk8a, ghk8b⟩
            · try simp only [go_sem, n1, n2, n3, n4, hk4, hk5, ghk6, hk6, ghk7a, ghk7bn] at ghk8a
              all_goals
              rcases it_some h with ⟨hk9, h⟩ | ⟨hk9, h⟩
              · try simp only [go_sem, n1, n2, n3, n4, hk4, hk5, ghk6, hk6, ghk7a, ghk7bn, ghk8a] at hk9
                all_goals
                obtain rfl := so_some h
                refine ⟨0, fun L hL => ?_⟩
                simp only [go_sem, ir24, E_spec_WorstObserver_l1, R_spec_WorstObserver_l1, ir24_b0, ir24_k0, ir24_o0, ir24_r0, hk4, hk5, lhk5, xhk5, ghk6, hk6, lhk6, xhk6, ghk7a, ghk7bn, ghk8a, hk9]
              · try simp only [go_sem, n1, n2, n3, n4, hk4, hk5, ghk6, hk6, ghk7a, ghk7bn, ghk8a] at hk9
                all_goals
                obtain rfl := so_some h
                refine ⟨0, fun L hL => ?_⟩
                simp only [go_sem, ir24, E_spec_WorstObserver_l1, R_spec_WorstObserver_l1, ir24_b0, ir24_k0, ir24_o0, ir24_r0, hk4, hk5, lhk5, xhk5, ghk6, hk6, lhk6, xhk6, ghk7a, ghk7bn, ghk8a, hk9]
            · have ghk8bn := no_f ghk8b
              try simp only [go_sem, n1, n2, n3, n4, hk4, hk5, ghk6, hk6, ghk7a, ghk7bn] at ghk8a
              all_goals
              try simp only [go_sem, n1, n2, n3, n4, hk4, hk5, ghk6, hk6, ghk7a, ghk7bn, ghk8a] at ghk8bn
              all_goals
              rcases it_some h with ⟨hk9, h⟩ | ⟨hk9, h⟩
              · try simp only [go_sem, n1, n2, n3, n4, hk4, hk5, ghk6, hk6, ghk7a, ghk7bn, ghk8a, ghk8bn] at hk9
                all_goals
                obtain rfl := so_some h
                refine ⟨0, fun L hL => ?_⟩
                simp only [go_sem, ir24, E_spec_WorstObserver_l1, R_spec_WorstObserver_l1, ir24_b0, ir24_k0, ir24_o0, ir24_r0, hk4, hk5, lhk5, xhk5, ghk6, hk6, lhk6, xhk6, ghk7a, ghk7bn, ghk8a, ghk8bn, hk9]
              · try simp only [go_sem, n1, n2, n3, n4, hk4, hk5, ghk6, hk6, ghk7a, ghk7bn, ghk8a, ghk8bn] at hk9
                all_goals
                obtain rfl := so_some h
                refine ⟨0, fun L hL => ?_⟩
                simp only [go_sem, ir24, E_spec_WorstObserver_l1, R_spec_WorstObserver_l1, ir24_b0, ir24_k0, ir24_o0, ir24_r0, hk4, hk5, lhk5, xhk5, ghk6, hk6, lhk6, xhk6, ghk7a, ghk7bn, ghk8a, ghk8bn, hk9]
    · rcases and_f ghk6 with ghk6a | ⟨ghk6a, ghk6b⟩
      · try simp only [go_sem, n1, n2, n3, n4, hk4, hk5] at ghk6a
        all_goals
        obtain ⟨hk7, h⟩ := ck_some h
        rcases or_split hk7 with ⟨ghk7, hk7⟩ | ghk7
        · try simp only [go_sem, n1, n2, n3, n4, hk4, hk5, ghk6a] at ghk7
          all_goals
          have lhk7 := ix_lt hk7
          have xhk7 := getD_mapD (AV.int .i64) bad lhk7
          try simp only [go_sem] at lhk7
          try simp only [go_sem] at xhk7
          try simp only [go_sem, n1, n2, n3, n4, hk4, hk5, ghk6a, ghk7] at hk7
          all_goals
          obtain ⟨hk8, h⟩ := ck_some h
          rcases or_split hk8 with ⟨ghk8, hk8⟩ | ghk8
          · try simp only [go_sem, n1, n2, n3, n4, hk4, hk5, ghk6a, ghk7, hk7] at ghk8
            all_goals
            have lhk8 := ix_lt hk8
            have xhk8 := getD_mapD (AV.int .i64) all lhk8
            try simp only [go_sem] at lhk8
            try simp only [go_sem] at xhk8
            try simp only [go_sem, n1, n2, n3, n4, hk4, hk5, ghk6a, ghk7, hk7, ghk8] at hk8
            all_goals
            rcases it_some h with ⟨hk9, h⟩ | ⟨hk9, h⟩
            · try simp only [go_sem, n1, n2, n3, n4, hk4, hk5, ghk6a, ghk7, hk7, ghk8, hk8] at hk9
              all_goals
              obtain rfl := so_some h
              refine ⟨0, fun L hL => ?_⟩
              simp only [go_sem, ir24, E_spec_WorstObserver_l1, R_spec_WorstObserver_l1, ir24_b0, ir24_k0, ir24_o0, ir24_r0, hk4, hk5, lhk5, xhk5, ghk6a, ghk7, hk7, lhk7, xhk7, ghk8, hk8, lhk8, xhk8, hk9]
            · try simp only [go_sem, n1, n2, n3, n4, hk4, hk5, ghk6a, ghk7, hk7, ghk8, hk8] at hk9
              all_goals
              obtain rfl := so_some h
              refine ⟨0, fun L hL => ?_⟩
              simp only [go_sem, ir24, E_spec_WorstObserver_l1, R_spec_WorstObserver_l1, ir24_b0, ir24_k0, ir24_o0, ir24_r0, hk4, hk5, lhk5, xhk5, ghk6a, ghk7, hk7, lhk7, xhk7, ghk8, hk8, lhk8, xhk8, hk9]
          · rcases and_f ghk8 with ghk8a | ⟨ghk8a, ghk8b⟩
            · try simp only [go_sem, n1, n2, n3, n4, hk4, hk5, ghk6a, ghk7, hk7] at ghk8a
              all_goals
              rcases it_some h with ⟨hk9, h⟩ | ⟨hk9, h⟩
              · try simp only [go_sem, n1, n2, n3, n4, hk4, hk5, ghk6a, ghk7, hk7, ghk8a] at hk9
                all_goals
                obtain rfl := so_some h
                refine ⟨0, fun L hL => ?_⟩
                simp only [go_sem, ir24, E_spec_WorstObserver_l1, R_spec_WorstObserver_l1, ir24_b0, ir24_k0, ir24_o0, ir24_r0, hk4, hk5, lhk5, xhk5, ghk6a, ghk7, hk7, lhk7, xhk7, ghk8a, hk9]
              · try simp only [go_sem, n1, n2, n3, n4, hk4, hk5, ghk6a, ghk7, hk7, ghk8a] at hk9
                all_goals
                obtain rfl := so_some h
                refine ⟨0, fun L hL => ?_⟩
                simp only [go_sem, ir24, E_spec_WorstObserver_l1, R_spec_WorstObserver_l1, ir24_b0, ir24_k0, ir24_o0, ir24_r0, hk4, hk5, lhk5, xhk5, ghk6a, ghk7, hk7, lhk7, xhk7, ghk8a, hk9]
            · have ghk8bn := no_f ghk8b
              try simp only [go_sem, n1, n2, n3, n4, hk4, hk5, ghk6a, ghk7, hk7] at ghk8a
              all_goals
              try simp only [go_sem, n1, n2, n3, n4, hk4, hk5, ghk6a, ghk7, hk7, ghk8a] at ghk8bn
              all_goals
              rcases it_some h with ⟨hk9, h⟩ | ⟨hk9, h⟩
              · try simp only [go_sem, n1, n2, n3, n4, hk4, hk5, ghk6a, ghk7, hk7, ghk8a, ghk8bn] at hk9
                all_goals
                obtain rfl := so_some h
                refine ⟨0, fun L hL => ?_⟩
                simp only [go_sem, ir24, E_spec_WorstObserver_l1, R_spec_WorstObserver_l1, ir24_b0, ir24_k0, ir24_o0, ir24_r0, hk4, hk5, lhk5, xhk5, ghk6a, ghk7, hk7, lhk7, xhk7, ghk8a, ghk8bn, hk9]
              · try simp only [go_sem, n1, n2, n3, n4, hk4, hk5, ghk6a, ghk7, hk7, ghk8a, ghk8bn] at hk9
                all_goals
                obtain rfl := so_some h
                refine ⟨0, fun L hL => ?_⟩
                simp only [go_sem, ir24, E_spec_WorstObserver_l1, R_spec_WorstObserver_l1, ir24_b0, ir24_k0, ir24_o0, ir24_r0, hk4, hk5, lhk5, xhk5, ghk6a, ghk7, hk7, lhk7, xhk7, ghk8a, ghk8bn, hk9]
        · rcases and_f ghk7 with ghk7a | ⟨ghk7a, ghk7b⟩
          · try simp only [go_sem, n1, n2, n3, n4, hk4, hk5, ghk6a] at ghk7a
            all_goals
            obtain ⟨hk8, h⟩ := ck_some h
            rcases or_split hk8 with ⟨ghk8, hk8⟩ | ghk8
            · try simp only [go_sem, n1, n2, n3, n4, hk4, hk5, ghk6a, ghk7a] at ghk8
              all_goals
              have lhk8 := ix_lt hk8
              have xhk8 := getD_mapD (AV.int .i64) all lhk8
              try simp only [go_sem] at lhk8
              try simp only [go_sem] at xhk8
              try simp only [go_sem, n1, n2, n3, n4, hk4, hk5, ghk6a, ghk7a, ghk8] at hk8
              all_goals
              rcases it_some h with ⟨hk9, h⟩ | ⟨hk9, h⟩
              · try simp only [go_sem, n1, n2, n3, n4, hk4, hk5, ghk6a, ghk7a, ghk8, hk8] at hk9
                all_goals
                obtain rfl := so_some h
                refine ⟨0, fun L hL => ?_⟩
                simp only [go_sem, ir24, E_spec_WorstObserver_l1, R_spec_WorstObserver_l1, ir24_b0, ir24_k0, ir24_o0, ir24_r0, hk4, hk5, lhk5, xhk5, ghk6a, ghk7a, ghk8, hk8, lhk8, xhk8, hk9]
              · try simp only [go_sem, n1, n2, n3, n4, hk4, hk5, ghk6a, ghk7a, ghk8, hk8] at hk9
                all_goals
                obtain rfl := so_some h
                refine ⟨0, fun L hL => ?_⟩
                simp only [go_sem, ir24, E_spec_WorstObserver_l1, R_spec_WorstObserver_l1, ir24_b0, ir24_k0, ir24_o0, ir24_r0, hk4, hk5, lhk5, xhk5, ghk6a, ghk7a, ghk8, hk8, lhk8, xhk8, hk9]
            · rcases and_f ghk8 with ghk8a | ⟨ghk8a, ghk8b⟩
              · try simp only [go_sem, n1, n2, n3, n4, hk4, hk5, ghk6a, ghk7a] at ghk8a
                all_goals
                rcases it_some h with ⟨hk9, h⟩ | ⟨hk9, h⟩
                · try simp only [go_sem, n1, n2, n3, n4, hk4, hk5, ghk6a, ghk7a, ghk8a] at hk9
                  all_goals
                  obtain rfl := so_some h
                  refine ⟨0, fun L hL => ?_⟩
                  simp only [go_sem, ir24, E_spec_WorstObserver_l1, R_spec_WorstObserver_l1, ir24_b0, ir24_k0, ir24_o0, ir24_r0, hk4, hk5, lhk5, xhk5, ghk6a, ghk7a, ghk8a, hk9]
                · try simp only [go_sem, n1, n2, n3, n4, hk4, hk5, ghk6a, ghk7a, ghk8a] at hk9
                  all_goals
                  obtain rfl := so_some h
                  refine ⟨0, fun L hL => ?_⟩
                  simp only [go_sem, ir24, E_spec_WorstObserver_l1, R_spec_WorstObserver_l1, ir24_b0, ir24_k0, ir24_o0, ir24_r0, hk4, hk5, lhk5, xhk5, ghk6a, ghk7a, ghk8a, hk9]
              · have ghk8bn := no_f ghk8b
                try simp only [go_sem, n1, n2, n3, n4, hk4, hk5, ghk6a, ghk7a] at ghk8a
                all_goals
                try simp only [go_sem, n1, n2, n3, n4, hk4, hk5, ghk6a, ghk7a, ghk8a] at ghk8bn
                all_goals
                rcases it_some h with ⟨hk9, h⟩ | ⟨hk9, h⟩
                · try simp only [go_sem, n1, n2, n3, n4, hk4, hk5, ghk6a, ghk7a, ghk8a, ghk8bn] at hk9
                  all_goals
                  obtain rfl := so_some h
                  refine ⟨0, fun L hL => ?_⟩
                  simp only [go_sem, ir24, E_spec_WorstObserver_l1, R_spec_WorstObserver_l1, ir24_b0, ir24_k0, ir24_o0, ir24_r0, hk4, hk5, lhk5, xhk5, ghk6a, ghk7a, ghk8a, ghk8bn, hk9]
                · try simp only [go_sem, n1, n2, n3, n4, hk4, hk5, ghk6a, ghk7a, ghk8a, ghk8bn] at hk9
                  all_goals
                  obtain rfl := so_some h
                  refine ⟨0, fun L hL => ?_⟩
                  simp only [go_sem, ir24, E_spec_WorstObserver_l1, R_spec_WorstObserver_l1, ir24_b0, ir24_k0, ir24_o0, ir24_r0, hk4, hk5, lhk5, xhk5, ghk6a, ghk7a, ghk8a, ghk8bn, hk9]
          · have ghk7bn := no_f ghk7b
            try simp only [go_sem, n1, n2, n3, n4, hk4, hk5, ghk6a] at ghk7a
            all_goals
            try simp only [go_sem, n1, n2, n3, n4, hk4, hk5, ghk6a, ghk7a] at ghk7bn
            all_goals
            obtain ⟨hk8, h⟩ := ck_some h
            rcases or_split hk8 with ⟨ghk8, hk8⟩ | ghk8
            · try simp only [go_sem, n1, n2, n3, n4, hk4, hk5, ghk6a, ghk7a, ghk7bn] at ghk8
              all_goals
              have lhk8 := ix_lt hk8
              have xhk8 := getD_mapD (AV.int .i64) all lhk8
              try simp only [go_sem] at lhk8
              try simp only [go_sem] at xhk8
              try simp only [go_sem, n1, n2, n3, n4, hk4, hk5, ghk6a, ghk7a, ghk7bn, ghk8] at hk8
              all_goals
              rcases it_some h with ⟨hk9, h⟩ | ⟨hk9, h⟩
              · try simp only [go_sem, n1, n2, n3, n4, hk4, hk5, ghk6a, ghk7a, ghk7bn, ghk8, hk8] at hk9
                all_goals
                obtain rfl := so_some h
                refine ⟨0, fun L hL => ?_⟩
                simp only [go_sem, ir24, E_spec_WorstObserver_l1, R_spec_WorstObserver_l1, ir24_b0, ir24_k0, ir24_o0, ir24_r0, hk4, hk5, lhk5, xhk5, ghk6a, ghk7a, ghk7bn, ghk8, hk8, lhk8, xhk8, hk9]
              · try simp only [go_sem, n1, n2, n3, n4, hk4, hk5, ghk6a, ghk7a, ghk7bn, ghk8, hk8] at hk9
                all_goals
                obtain rfl := so_some h
                refine ⟨0, fun L hL => ?_⟩
                simp only [go_sem, ir24, E_spec_WorstObserver_l1, R_spec_WorstObserver_l1, ir24_b0, ir24_k0, ir24_o0, ir24_r0, hk4, hk5, lhk5, xhk5, ghk6a, ghk7a, ghk7bn, ghk8, hk8, lhk8, xhk8, hk9]
            · rcases and_f ghk8 with ghk8a | ⟨ghk8a, ghk8b⟩
              · try simp only [go_sem, n1, n2, n3, n4, hk4, hk5, ghk6a, ghk7a, ghk7bn] at ghk8a
                all_goals
                rcases it_some h with ⟨hk9, h⟩ | ⟨hk9, h⟩
                · try simp only [go_sem, n1, n2, n3, n4, hk4, hk5, ghk6a, ghk7a, ghk7bn, ghk8a] at hk9
                  all_goals
                  obtain rfl := so_some h
                  refine ⟨0, fun L hL => ?_⟩
                  simp only [go_sem, ir24, E_spec_WorstObserver_l1, R_spec_WorstObserver_l1, ir24_b0, ir24_k0, ir24_o0, ir24_r0, hk4, hk5, lhk5, xhk5, ghk6a, ghk7a, ghk7bn, ghk8a, hk9]
                · try simp only [go_sem, n1, n2, n3, n4, hk4, hk5, ghk6a, ghk7a, ghk7bn, ghk8a] at hk9
                  all_goals
                  obtain rfl := so_some h
                  refine ⟨0, fun L hL => ?_⟩
                  simp only [go_sem, ir24, E_spec_WorstObserver_l1, R_spec_WorstObserver_l1, ir24_b0, ir24_k0, ir24_o0, ir24_r0, hk4, hk5, lhk5, xhk5, ghk6a, ghk7a, ghk7bn, ghk8a, hk9]
              · have ghk8bn := no_f ghk8b
                try simp only [go_sem, n1, n2, n3, n4, hk4, hk5, ghk6a, ghk7a, ghk7bn] at ghk8a
                all_goals
                try simp only [go_sem, n1, n2, n3, n4, hk4, hk5, ghk6a, ghk7a, ghk7bn, ghk8a] at ghk8bn
                all_goals
                rcases it_some h with ⟨hk9, h⟩ | ⟨hk9, h⟩
                · try simp only [go_sem, n1, n2, n3, n4, hk4, hk5, ghk6a, ghk7a, ghk7bn, ghk8a, ghk8bn] at hk9
                  all_goals
                  obtain rfl := so_some h
                  refine ⟨0, fun L hL => ?_⟩
                  simp only [go_sem, ir24, E_spec_WorstObserver_l1, R_spec_WorstObserver_l1, ir24_b0, ir24_k0, ir24_o0, ir24_r0, hk4, hk5, lhk5, xhk5, ghk6a, ghk7a, ghk7bn, ghk8a, ghk8bn, hk9]
                · try simp only [go_sem, n1, n2, n3, n4, hk4, hk5, ghk6a, ghk7a, ghk7bn, ghk8a, ghk8bn] at hk9
                  all_goals
                  obtain rfl := so_some h
                  refine ⟨0, fun L hL => ?_⟩
                  simp only [go_sem, ir24, E_spec_WorstObserver_l1, R_spec_WorstObserver_l1, ir24_b0, ir24_k0, ir24_o0, ir24_r0, hk4, hk5, lhk5, xhk5, ghk6a, ghk7a, ghk7bn, ghk8a, ghk8bn, hk9]
      · have ghk6bn := no_f ghk6b
        try simp only [go_sem, n1, n2, n3, n4, hk4, hk5] at ghk6a
        all_goals
        try simp only [go_sem, n1, n2, n3, n4, hk4, hk5, ghk6a] at ghk6bn
        all_goals
        obtain ⟨hk7, h⟩ := ck_some h
        rcases or_split hk7 with ⟨ghk7, hk7⟩ | ghk7
        · try simp only [go_sem, n1, n2, n3, n4, hk4, hk5, ghk6a, ghk6bn] at ghk7
          all_goals
          have lhk7 := ix_lt hk7
          have xhk7 := getD_mapD (AV.int .i64) bad lhk7
          try simp only [go_sem] at lhk7
          try simp only [go_sem] at xhk7
          try simp only [go_sem, n1, n2, n3, n4, hk4, hk5, ghk6a, ghk6bn, ghk7] at hk7
          all_goals
          obtain ⟨hk8, h⟩ := ck_some h
          rcases or_split hk8 with ⟨ghk8, hk8⟩ | ghk8
          · try simp only [go_sem, n1, n2, n3, n4, hk4, hk5, ghk6a, ghk6bn, ghk7, hk7] at ghk8
            all_goals
            have lhk8 := ix_lt hk8
            have xhk8 := getD_mapD (AV.int .i64) all lhk8
            try simp only [go_sem] at lhk8
            try simp only [go_sem] at xhk8
            try simp only [go_sem, n1, n2, n3, n4, hk4, hk5, ghk6a, ghk6bn, ghk7, hk7, ghk8] at hk8
            all_goals
            rcases it_some h with ⟨hk9, h⟩ | ⟨hk9, h⟩
            · try simp only [go_sem, n1, n2, n3, n4, hk4, hk5, ghk6a, ghk6bn, ghk7, hk7, ghk8, hk8] at hk9
              all_goals
              obtain rfl := so_some h
              refine ⟨0, fun L hL => ?_⟩
              simp only [go_sem, ir24, E_spec_WorstObserver_l1, R_spec_WorstObserver_l1, ir24_b0, ir24_k0, ir24_o0, ir24_r0, hk4, hk5, lhk5, xhk5, ghk6a, ghk6bn, ghk7, hk7, lhk7, xhk7, ghk8, hk8, lhk8, xhk8, hk9]
            · try simp only [go_sem, n1, n2, n3, n4, hk4, hk5, ghk6a, ghk6bn, ghk7, hk7, ghk8, hk8] at hk9
              all_goals
              obtain rfl := so_some h
              refine ⟨0, fun L hL => ?_⟩
              simp only [go_sem, ir24, E_spec_WorstObserver_l1, R_spec_WorstObserver_l1, ir24_b0, ir24_k0, ir24_o0, ir24_r0, hk4, hk5, lhk5, xhk5, ghk6a, ghk6bn, ghk7, hk7, lhk7, xhk7, ghk8, hk8, lhk8, xhk8, hk9]
          · rcases and_f ghk8 with ghk8a | ⟨ghk8a, ghk8b⟩
            · try simp only [go_sem, n1, n2, n3, n4, hk4, hk5, ghk6a, ghk6bn, ghk7, hk7] at ghk8a
              all_goals
              rcases it_some h with ⟨hk9, h⟩ | ⟨hk9, h⟩
              · try simp only [go_sem, n1, n2, n3, n4, hk4, hk5, ghk6a, ghk6bn, ghk7, hk7, ghk8a] at hk9
                all_goals
                obtain rfl := so_some h
                refine ⟨0, fun L hL => ?_⟩
                simp only [go_sem, ir24, E_spec_WorstObserver_l1, R_spec_WorstObserver_l1, ir24_b0, ir24_k0, ir24_o0, ir24_r0, hk4, hk5, lhk5, xhk5, ghk6a, ghk6bn, ghk7, hk7, lhk7, xhk7, ghk8a, hk9]
              · try simp only [go_sem, n1, n2, n3, n4, hk4, hk5, ghk6a, ghk6bn, ghk7, hk7, ghk8a] at hk9
                all_goals
                obtain rfl := so_some h
                refine ⟨0, fun L hL => ?_⟩
                simp only [go_sem, ir24, E_spec_WorstObserver_l1, R_spec_WorstObserver_l1, ir24_b0, ir24_k0, ir24_o0, ir24_r0, hk4, hk5, lhk5, xhk5, ghk6a, ghk6bn, ghk7, hk7, lhk7, xhk7, ghk8a, hk9]
            · have ghk8bn := no_f ghk8b
              try simp only [go_sem, n1, n2, n3, n4, hk4, hk5, ghk6a, ghk6bn, ghk7, hk7] at ghk8a
              all_goals
              try simp only [go_sem, n1, n2, n3, n4, hk4, hk5, ghk6a, ghk6bn, ghk7, hk7, ghk8a] at ghk8bn
              all_goals
              rcases it_some h with ⟨hk9, h⟩ | ⟨hk9, h⟩
              · try simp only [go_sem, n1, n2, n3, n4, hk4, hk5, ghk6a, ghk6bn, ghk7, hk7, ghk8a, ghk8bn] at hk9
                all_goals
                obtain rfl := so_some h
                refine ⟨0, fun L hL => ?_⟩
                simp only [go_sem, ir24, E_spec_WorstObserver_l1, R_spec_WorstObserver_l1, ir24_b0, ir24_k0, ir24_o0, ir24_r0, hk4, hk5, lhk5, xhk5, ghk6a, ghk6bn, ghk7, hk7, lhk7, xhk7, ghk8a, ghk8bn, hk9]
              · try simp only [go_sem, n1, n2, n3, n4, hk4, hk5, ghk6a, ghk6bn, ghk7, hk7, ghk8a, ghk8bn] at hk9
                all_goals
                obtain rfl := so_some h
                refine ⟨0, fun L hL => ?_⟩
                simp only [go_sem, ir24, E_spec_WorstObserver_l1, R_spec_WorstObserver_l1, ir24_b0, ir24_k0, ir24_o0, ir24_r0, hk4, hk5, lhk5, xhk5, ghk6a, ghk6bn, ghk7, hk7, lhk7, xhk7, ghk8a, ghk8bn, hk9]
        · rcases and_f ghk7 with ghk7a | ⟨ghk7a, ghk7b⟩
          · try simp only [go_sem, n1, n2, n3, n4, hk4, hk5, ghk6a, ghk6bn] at ghk7a
            all_goals
            obtain ⟨hk8, h⟩ := ck_some h
            rcases or_split hk8 with ⟨ghk8, hk8⟩ | ghk8
            · try simp only [go_sem, n1, n2, n3, n4, hk4, hk5, ghk6a, ghk6bn, ghk7a] at ghk8
              all_goals
              have lhk8 := ix_lt hk8
              have xhk8 := getD_mapD (AV.int .i64) all lhk8
              try simp only [go_sem] at lhk8
              try simp only [go_sem] at xhk8
              try simp only [go_sem, n1, n2, n3, n4, hk4, hk5, ghk6a, ghk6bn, ghk7a, ghk8] at hk8
              all_goals
              rcases it_some h with ⟨hk9, h⟩ | ⟨hk9, h⟩
              · try simp only [go_sem, n1, n2, n3, n4, hk4, hk5, ghk6a, ghk6bn, ghk7a, ghk8, hk8] at hk9
                all_goals
                obtain rfl := so_some h
                refine ⟨0, fun L hL => ?_⟩
                simp only [go_sem, ir24, E_spec_WorstObserver_l1, R_spec_WorstObserver_l1, ir24_b0, ir24_k0, ir24_o0, ir24_r0, hk4, hk5, lhk5, xhk5, ghk6a, ghk6bn, ghk7a, ghk8, hk8, lhk8, xhk8, hk9]
              · try simp only [go_sem, n1, n2, n3, n4, hk4, hk5, ghk6a, ghk6bn, ghk7a, ghk8, hk8] at hk9
                all_goals
                obtain rfl := so_some h
                refine ⟨0, fun L hL => ?_⟩
                simp only [go_sem, ir24, E_spec_WorstObserver_l1, R_spec_WorstObserver_l1, ir24_b0, ir24_k0, ir24_o0, ir24_r0, hk4, hk5, lhk5, xhk5, ghk6a, ghk6bn, ghk7a, ghk8, hk8, lhk8, xhk8, hk9]
            · rcases and_f ghk8 with ghk8a | ⟨ghk8a, ghk8b⟩
              · try simp only [go_sem, n1, n2, n3, n4, hk4, hk5, ghk6a, ghk6bn, ghk7a] at ghk8a
                all_goals
                rcases it_some h with ⟨hk9, h⟩ | ⟨hk9, h⟩
                · try simp only [go_sem, n1, n2, n3, n4, hk4, hk5, ghk6a, ghk6bn, ghk7a, ghk8a] at hk9
                  all_goals
                  obtain rfl := so_some h
                  refine ⟨0, fun L hL => ?_⟩
                  simp only [go_sem, ir24, E_spec_WorstObserver_l1, R_spec_WorstObserver_l1, ir24_b0, ir24_k0, ir24_o0, ir24_r0, hk4, hk5, lhk5, xhk5, ghk6a, ghk6bn, ghk7a, ghk8a, hk9]
                · try simp only [go_sem, n1, n2, n3, n4, hk4, hk5, ghk6a, ghk6bn, ghk7a, ghk8a] at hk9
                  all_goals
                  obtain rfl := so_some h
                  refine ⟨0, fun L hL => ?_⟩
                  simp only [go_sem, ir24, E_spec_WorstObserver_l1, R_spec_WorstObserver_l1, ir24_b0, ir24_k0, ir24_o0, ir24_r0, hk4, hk5, lhk5, xhk5, ghk6a, ghk6bn, ghk7a, ghk8a, hk9]
              · have ghk8bn := no_f ghk8b
                try simp only [go_sem, n1, n2, n3, n4, hk4, hk5, ghk6a, ghk6bn, ghk7a] at ghk8a
                all_goals
                try simp only [go_sem, n1, n2, n3, n4, hk4, hk5, ghk6a, ghk6bn, ghk7a, ghk8a] at ghk8bn
                all_goals
                rcases it_some h with ⟨hk9, h⟩ | ⟨hk9, h⟩
                · try simp only [go_sem, n1, n2, n3, n4, hk4, hk5, ghk6a, ghk6bn, ghk7a, ghk8a, ghk8bn] at hk9
                  all_goals
                  obtain rfl := so_some h
                  refine ⟨0, fun L hL => ?_⟩
                  simp only [go_sem, ir24, E_spec_WorstObserver_l1, R_spec_WorstObserver_l1, ir24_b0, ir24_k0, ir24_o0, ir24_r0, hk4, hk5, lhk5, xhk5, ghk6a, ghk6bn, ghk7a, ghk8a, ghk8bn, hk9]
                · try simp only [go_sem, n1, n2, n3, n4, hk4, hk5, ghk6a, ghk6bn, ghk7a, ghk8a, ghk8bn] at hk9
                  all_goals
                  obtain rfl := so_some h
                  refine ⟨0, fun L hL => ?_⟩
                  simp only [go_sem, ir24, E_spec_WorstObserver_l1, R_spec_WorstObserver_l1, ir24_b0, ir24_k0, ir24_o0, ir24_r0, hk4, hk5, lhk5, xhk5, ghk6a, ghk6bn, ghk7a, ghk8a, ghk8bn, hk9]
          · have ghk7bn := no_f ghk7b
            try simp only [go_sem, n1, n2, n3, n4, hk4, hk5, ghk6a, ghk6bn] at ghk7a
            all_goals
            try simp only [go_sem, n1, n2, n3, n4, hk4, hk5, ghk6a, ghk6bn, ghk7a] at ghk7bn
            all_goals
            obtain ⟨hk8, h⟩ := ck_some h
            rcases or_split hk8 with ⟨ghk8, hk8⟩ | ghk8
            · try simp only [go_sem, n1, n2, n3, n4, hk4, hk5, ghk6a, ghk6bn, ghk7a, ghk7bn] at ghk8
              all_goals
              have lhk8 := ix_lt hk8
              have xhk8 := getD_mapD (AV.int .i64) all lhk8
              try simp only [go_sem] at lhk8
              try simp only [go_sem] at xhk8
              try simp only [go_sem, n1, n2, n3, n4, hk4, hk5, ghk6a, ghk6bn, ghk7a, ghk7bn, ghk8] at hk8
              all_goals
              rcases it_some h with ⟨hk9, h⟩ | ⟨hk9, h⟩
              · try simp only [go_sem, n1, n2, n3, n4, hk4, hk5, ghk6a, ghk6bn, ghk7a, ghk7bn, ghk8, hk8] at hk9
                all_goals
                obtain rfl := so_some h
                refine ⟨0, fun L hL => ?_⟩
                simp only [go_sem, ir24, E_spec_WorstObserver_l1, R_spec_WorstObserver_l1, ir24_b0, ir24_k0, ir24_o0, ir24_r0, hk4, hk5, lhk5, xhk5, ghk6a, ghk6bn, ghk7a, ghk7bn, ghk8, hk8, lhk8, xhk8, hk9]
              · try simp only [go_sem, n1, n2, n3, n4, hk4, hk5, ghk6a, ghk6bn, ghk7a, ghk7bn, ghk8, hk8] at hk9
                all_goals
                obtain rfl := so_some h
                refine ⟨0, fun L hL => ?_⟩
                simp only [go_sem, ir24, E_spec_WorstObserver_l1, R_spec_WorstObserver_l1, ir24_b0, ir24_k0, ir24_o0, ir24_r0, hk4, hk5, lhk5, xhk5, ghk6a, ghk6bn, ghk7a, ghk7bn, ghk8, hk8, lhk8, xhk8, hk9]
            · rcases and_f ghk8 with ghk8a | ⟨ghk8a, ghk8b⟩
              · try simp only [go_sem, n1, n2, n3, n4, hk4, hk5, ghk6a, ghk6bn, ghk7a, ghk7bn] at ghk8a
                all_goals
                rcases it_some h with ⟨hk9, h⟩ | ⟨hk9, h⟩
                · try simp only [go_sem, n1, n2, n3, n4, hk4, hk5, ghk6a, ghk6bn, ghk7a, ghk7bn, ghk8a] at hk9
                  all_goals
                  obtain rfl := so_some h
                  refine ⟨0, fun L hL => ?_⟩
                  simp only [go_sem, ir24, E_spec_WorstObserver_l1, R_spec_WorstObserver_l1, ir24_b0, ir24_k0, ir24_o0, ir24_r0, hk4, hk5, lhk5, xhk5, ghk6a, ghk6bn, ghk7a, ghk7bn, ghk8a, hk9]
                · try simp only [go_sem, n1, n2, n3, n4, hk4, hk5, ghk6a, ghk6bn, ghk7a, ghk7bn, ghk8a] at hk9
                  all_goals
                  obtain rfl := so_some h
                  refine ⟨0, fun L hL => ?_⟩
                  simp only [go_sem, ir24, E_spec_WorstObserver_l1, R_spec_WorstObserver_l1, ir24_b0, ir24_k0, ir24_o0, ir24_r0, hk4, hk5, lhk5, xhk5, ghk6a, ghk6bn, ghk7a, ghk7bn, ghk8a, hk9]
              · have ghk8bn := no_f ghk8b
                try simp only [go_sem, n1, n2, n3, n4, hk4, hk5, ghk6a, ghk6bn, ghk7a, ghk7bn] at ghk8a
                all_goals
                try simp only [go_sem, n1, n2, n3, n4, hk4, hk5, ghk6a, ghk6bn, ghk7a, ghk7bn, ghk8a] at ghk8bn
                all_goals
                rcases it_some h with ⟨hk9, h⟩ | ⟨hk9, h⟩
                · try simp only [go_sem, n1, n2, n3, n4, hk4, hk5, ghk6a, ghk6bn, ghk7a, ghk7bn, ghk8a, ghk8bn] at hk9
                  all_goals
                  obtain rfl := so_some h
                  refine ⟨0, fun L hL => ?_⟩
                  simp only [go_sem, ir24, E_spec_WorstObserver_l1, R_spec_WorstObserver_l1, ir24_b0, ir24_k0, ir24_o0, ir24_r0, hk4, hk5, lhk5, xhk5, ghk6a, ghk6bn, ghk7a, ghk7bn, ghk8a, ghk8bn, hk9]
                · try simp only [go_sem, n1, n2, n3, n4, hk4, hk5, ghk6a, ghk6bn, ghk7a, ghk7bn, ghk8a, ghk8bn] at hk9
                  all_goals
                  obtain rfl := so_some h
                  refine ⟨0, fun L hL => ?_⟩
                  simp only [go_sem, ir24, E_spec_WorstObserver_l1, R_spec_WorstObserver_l1, ir24_b0, ir24_k0, ir24_o0, ir24_r0, hk4, hk5, lhk5, xhk5, ghk6a, ghk6bn, ghk7a, ghk7bn, ghk8a, ghk8bn, hk9]
  · try simp only [go_sem, n1, n2, n3, n4] at hk4
    all_goals
    obtain rfl := so_some h
    refine ⟨0, fun L hL => ?_⟩
    simp only [go_sem, ir24, E_spec_WorstObserver_l1, R_spec_WorstObserver_l1, ir24_b0, ir24_k0, ir24_o0, ir24_r0, hk4]

theorem Fs_spec_WorstObserver {list : List Estimate} {faults : List Fault} {y_ : (List UInt8) × Int} (h : spec_WorstObserver list faults = some y_) : c_spec_WorstObserver.F [.sl 5 (List.map Estimate_av list), .sl 2 (List.map Fault_av faults)] = ⟨true, .tup [.str y_.1, .int .i64 y_.2], [.any, .any]⟩ := by
  refine mkF_E rfl ?_
  dsimp only [spec_WorstObserver] at h
  obtain ⟨y_1, hk1, h⟩ := bd_some h
  have fhk1 := Fs_spec_l26Code hk1
  try simp only [go_sem] at fhk1
  rcases it_some h with ⟨hk2, h⟩ | ⟨hk2, h⟩
  · try simp only [go_sem, n1, n2, n3, n4] at hk2
    all_goals
    obtain rfl := so_some h
    refine ⟨0, fun L hL => ?_⟩
    simp only [go_sem, ir24, E_spec_WorstObserver_l1, R_spec_WorstObserver_l1, ir24_k0, ir24_o0, ir24_r0, fhk1, hk2]
  · try simp only [go_sem, n1, n2, n3, n4] at hk2
    all_goals
    obtain ⟨y_3, hk3, h⟩ := bd_some h
    have fhk3 := Fs_spec_l26Shares hk3
    try simp only [go_sem, hk2] at fhk3
    obtain ⟨y_10, hk10, h⟩ := bd_some h
    obtain ⟨Lhk10, ehk10⟩ := spec_WorstObserver_l1_ex hk10
    rcases it_some h with ⟨hk11, h⟩ | ⟨hk11, h⟩
    · try simp only [go_sem, n1, n2, n3, n4, hk2] at hk11
      all_goals
      obtain rfl := so_some h
      refine ⟨Lhk10, fun L hL => ?_⟩
      have ehk10 := ehk10 L (by omega)
      try simp only [go_sem, E_spec_WorstObserver_l1, R_spec_WorstObserver_l1, ir24_k0, ir24_o0, ir24_r0, hk2, hk11] at ehk10
      simp only [go_sem, ir24, E_spec_WorstObserver_l1, R_spec_WorstObserver_l1, ir24_k0, ir24_o0, ir24_r0, fhk1, hk2, fhk3, hk11, ehk10]
    · try simp only [go_sem, n1, n2, n3, n4, hk2] at hk11
      all_goals
      obtain ⟨hk12, h⟩ := ck_some h
      have lhk12 := ix_lt hk12
      have xhk12 := getD_mapD AV.str y_3.1 lhk12
      try simp only [go_sem] at lhk12
      try simp only [go_sem] at xhk12
      try simp only [go_sem, n1, n2, n3, n4, hk2, hk11] at hk12
      all_goals
      obtain rfl := so_some h
      refine ⟨Lhk10, fun L hL => ?_⟩
      have ehk10 := ehk10 L (by omega)
      try simp only [go_sem, E_spec_WorstObserver_l1, R_spec_WorstObserver_l1, ir24_k0, ir24_o0, ir24_r0, hk2, hk11, hk12] at ehk10
      simp only [go_sem, ir24, E_spec_WorstObserver_l1, R_spec_WorstObserver_l1, ir24_k0, ir24_o0, ir24_r0, fhk1, hk2, fhk3, hk11, hk12, lhk12, xhk12, ehk10]


def ir46_v : List Nat := [0, 1, 2, 6]
def ir46 : AFn := ⟨3, 4, .seq (.region false [
    ⟨.var 3, 6, none, .mov (.c (.bool false))⟩])
 (.seq (.region false [
    ⟨.push, 7, none, .mov (.v 0)⟩,
    ⟨.push, 8, none, .mov (.v 1)⟩,
    ⟨.push, 9, none, .bin false .geq (.s 1) (.s 0)⟩,
    ⟨.push, 10, none, .mov (.s 0)⟩,
    ⟨.push, 11, (some ((.s 0), true)), .mov (.v 0)⟩,
    ⟨.push, 12, (some ((.s 1), true)), .mov (.v 2)⟩,
    ⟨.push, 13, (some ((.s 2), true)), .bin false .leq (.s 1) (.s 0)⟩,
    ⟨.push, 14, none, .pick (.s 3) (.s 0) (.c (.bool false))⟩,
    ⟨.var 3, 6, none, .mov (.s 0)⟩])
 (.ret)), [.t 3]⟩
noncomputable def t_impl_in : List (Nat × Ctr) := []
noncomputable def c_impl_in : Ctr := mkF t_impl_in ir46 [.bor, .bor, .bor]
theorem s_impl_in : Sound Try.prog 46 c_impl_in := mkF_sound _ rfl snd_nil (by kernel_rfl : chkFn Try.prog 46 ir46 ir46_v = true)
theorem M_impl_in : c_impl_in.modes = [.bor, .bor, .bor] := rfl
theorem Fl_impl_in : c_impl_in.flat = true := rfl
attribute [go_sem] M_impl_in Fl_impl_in
theorem Fs_impl_in {n : Int} {low : Int} {high : Int} {y_ : Bool} (h : impl_in n low high = some y_) : c_impl_in.F [.int .i64 n, .int .i64 low, .int .i64 high] = ⟨true, .bool y_, [.any, .any, .any]⟩ := by
  refine mkF_E rfl ?_
  dsimp only [impl_in] at h
  obtain rfl := so_some h
  refine ⟨0, fun L hL => ?_⟩
  simp only [go_sem, ir46]


def ir98_v : List Nat := [0, 2]
def ir98 : AFn := ⟨1, 2, .seq (.region false [
    ⟨.var 1, 2, none, .mov (.c (.bool false))⟩])
 (.seq (.region false [
    ⟨.push, 3, none, .mov (.v 0)⟩,
    ⟨.push, 4, none, .call 46 [(.s 0), (.c (.int .i64 (0))), (.c (.int .i64 (10000000)))]⟩,
    ⟨.var 1, 2, none, .mov (.s 0)⟩])
 (.ret)), [.t 1]⟩
noncomputable def t_impl_ValidTime : List (Nat × Ctr) := [(46, c_impl_in)]
theorem lk_impl_ValidTime_46 : look t_impl_ValidTime 46 = some c_impl_in := rfl
noncomputable def c_impl_ValidTime : Ctr := mkF t_impl_ValidTime ir98 [.bor]
theorem s_impl_ValidTime : Sound Try.prog 98 c_impl_ValidTime := mkF_sound _ rfl (snd_cons s_impl_in snd_nil) (by kernel_rfl : chkFn Try.prog 98 ir98 ir98_v = true)
theorem M_impl_ValidTime : c_impl_ValidTime.modes = [.bor] := rfl
theorem Fl_impl_ValidTime : c_impl_ValidTime.flat = true := rfl
attribute [go_sem] M_impl_ValidTime Fl_impl_ValidTime
attribute [go_sem] lk_impl_ValidTime_46
theorem Fs_impl_ValidTime {t : Int} {y_ : Bool} (h : impl_ValidTime t = some y_) : c_impl_ValidTime.F [.int .i64 t] = ⟨true, .bool y_, [.any]⟩ := by
  refine mkF_E rfl ?_
  dsimp only [impl_ValidTime] at h
  obtain ⟨y_1, hk1, h⟩ := bd_some h
  have fhk1 := Fs_impl_in hk1
  try simp only [go_sem] at fhk1
  obtain rfl := so_some h
  refine ⟨0, fun L hL => ?_⟩
  simp only [go_sem, ir98, fhk1]


end Go.Proofs.Ytcfjogkgmkagiab
