/- Codes and contracts of the functions that A6 reaches, and that their typed forms say what they do. No condition. -/
import Derived.Test.YtgbibhhblimfiabR6T
import Derived.Test.YtgbibhhblimfiabRows
import Derived.WalkKit
namespace Go.Proofs.Ytgbibhhblimfiab
open Go Go.RowKit
set_option linter.unusedVariables false
set_option linter.unusedSimpArgs false
set_option maxRecDepth 10000

def ir53_v : List Nat := [0, 1, 2, 4]
def ir53 : AFn := ⟨2, 4, .seq (.region false [
    ⟨.var 2, 2, none, .box (.v 0)⟩,
    ⟨.var 3, 4, none, .mov (.c (.int .i64 (0)))⟩])
 (.seq (.region false [
    ⟨.push, 5, none, .mov (.v 1)⟩,
    ⟨.push, 6, none, .fldAddr 1 (.v 2)⟩,
    ⟨.push, 7, none, .load false 1 (.s 0)⟩,
    ⟨.push, 8, none, .len true (.s 0)⟩,
    ⟨.push, 9, none, .bin false .sub (.s 3) (.s 0)⟩,
    ⟨.var 1, 1, none, .mov (.s 0)⟩])
 (.seq (.test false [
    ⟨.push, 10, none, .mov (.v 1)⟩,
    ⟨.push, 11, none, .bin false .lss (.s 0) (.c (.int .i64 (0)))⟩] (.s 0)
  (.seq (.region false [
      ⟨.var 3, 4, none, .mov (.c (.int .i64 (-1)))⟩])
   (.ret))
  (.skip))
 (.seq (.region false [
    ⟨.push, 12, none, .mov (.v 1)⟩,
    ⟨.push, 13, none, .fldAddr 2 (.v 2)⟩,
    ⟨.push, 14, none, .load false 1 (.s 0)⟩,
    ⟨.push, 15, none, .len true (.s 0)⟩,
    ⟨.push, 16, none, .bin false .sub (.s 3) (.s 0)⟩,
    ⟨.var 1, 1, none, .mov (.s 0)⟩])
 (.seq (.test false [
    ⟨.push, 17, none, .mov (.v 1)⟩,
    ⟨.push, 18, none, .bin false .lss (.s 0) (.c (.int .i64 (0)))⟩] (.s 0)
  (.seq (.region false [
      ⟨.var 3, 4, none, .mov (.c (.int .i64 (-1)))⟩])
   (.ret))
  (.skip))
 (.seq (.region false [
    ⟨.push, 19, none, .mov (.v 1)⟩,
    ⟨.var 3, 4, none, .mov (.s 0)⟩])
 (.ret)))))), [.t 3]⟩
noncomputable def t_laws_szEstimate : List (Nat × Ctr) := []
noncomputable def c_laws_szEstimate : Ctr := mkF t_laws_szEstimate ir53 [.bor, .bor]
theorem s_laws_szEstimate : Sound Try.prog 53 c_laws_szEstimate := mkF_sound _ rfl snd_nil (by kernel_rfl : chkFn Try.prog 53 ir53 ir53_v = true)
theorem M_laws_szEstimate : c_laws_szEstimate.modes = [.bor, .bor] := rfl
theorem Fl_laws_szEstimate : c_laws_szEstimate.flat = true := rfl
attribute [go_sem] M_laws_szEstimate Fl_laws_szEstimate
theorem Fs_laws_szEstimate {a : Estimate} {left_ : Int} {y_ : Int} (h : laws_szEstimate a left_ = some y_) : c_laws_szEstimate.F [Estimate_av a, .int .i64 left_] = ⟨true, .int .i64 y_, [.any, .any]⟩ := by
  refine mkF_E rfl ?_
  dsimp only [laws_szEstimate] at h
  rcases it_some h with ⟨hk1, h⟩ | ⟨hk1, h⟩
  · try simp only [go_sem, n1, n2, n3, n4] at hk1
    all_goals
    obtain rfl := so_some h
    refine ⟨0, fun L hL => ?_⟩
    simp only [go_sem, ir53, hk1]
  · try simp only [go_sem, n1, n2, n3, n4] at hk1
    all_goals
    rcases it_some h with ⟨hk2, h⟩ | ⟨hk2, h⟩
    · try simp only [go_sem, n1, n2, n3, n4, hk1] at hk2
      all_goals
      obtain rfl := so_some h
      refine ⟨0, fun L hL => ?_⟩
      simp only [go_sem, ir53, hk1, hk2]
    · try simp only [go_sem, n1, n2, n3, n4, hk1] at hk2
      all_goals
      obtain rfl := so_some h
      refine ⟨0, fun L hL => ?_⟩
      simp only [go_sem, ir53, hk1, hk2]


def ir15_b0 : IR := .seq (.test false [
    ⟨.push, 12, none, .mov (.v 3)⟩,
    ⟨.push, 13, none, .mov (.v 0)⟩,
    ⟨.push, 14, none, .len false (.s 0)⟩,
    ⟨.push, 15, none, .bin false .lss (.s 2) (.s 0)⟩] (.s 0)
  (.skip)
  (.exit 0))
 (.seq (.block 1 (.seq (.region false [
      ⟨.push, 18, none, .mov (.v 0)⟩,
      ⟨.push, 19, none, .mov (.v 3)⟩,
      ⟨.push, 20, none, .ixAddr 5 (.s 1) (.s 0)⟩,
      ⟨.push, 21, none, .load true 5 (.s 0)⟩,
      ⟨.push, 22, none, .mov (.v 1)⟩,
      ⟨.push, 23, none, .call 53 [(.s 1), (.s 0)]⟩,
      ⟨.var 1, 1, none, .mov (.s 0)⟩])
   (.test false [
     ⟨.push, 24, none, .mov (.v 1)⟩,
     ⟨.push, 25, none, .bin false .lss (.s 0) (.c (.int .i64 (0)))⟩] (.s 0)
   (.seq (.region false [
       ⟨.var 2, 4, none, .mov (.c (.int .i64 (-1)))⟩])
    (.ret))
   (.skip))))
 (.region false [
   ⟨.push, 16, none, .mov (.v 3)⟩,
   ⟨.push, 17, none, .bin false .add (.s 0) (.c (.int .i64 (1)))⟩,
   ⟨.var 3, 5, none, .mov (.s 0)⟩]))
def ir15_k0 : List Bool := [true, true, false, true]
def ir15_o0 : List Bool := [false, true, false, false]
def ir15_r0 : List Bool := [false, false, true, false]
def ir15_v : List Nat := [0, 1, 4, 5]
def ir15 : AFn := ⟨2, 4, .seq (.region false [
    ⟨.var 2, 4, none, .mov (.c (.int .i64 (0)))⟩])
 (.seq (.region false [
    ⟨.push, 6, none, .mov (.v 1)⟩,
    ⟨.push, 7, none, .mov (.v 0)⟩,
    ⟨.push, 8, none, .len false (.s 0)⟩,
    ⟨.push, 9, none, .bin false .sub (.s 2) (.s 0)⟩,
    ⟨.var 1, 1, none, .mov (.s 0)⟩])
 (.seq (.test false [
    ⟨.push, 10, none, .mov (.v 1)⟩,
    ⟨.push, 11, none, .bin false .lss (.s 0) (.c (.int .i64 (0)))⟩] (.s 0)
  (.seq (.region false [
      ⟨.var 2, 4, none, .mov (.c (.int .i64 (-1)))⟩])
   (.ret))
  (.skip))
 (.seq (.seq (.region false [
     ⟨.var 3, 5, none, .mov (.c (.int .i64 (0)))⟩])
  (.block 0 (.loop ir15_k0 ir15_o0 ir15_r0 ir15_b0)))
 (.seq (.region false [
    ⟨.push, 26, none, .mov (.v 1)⟩,
    ⟨.var 2, 4, none, .mov (.s 0)⟩])
 (.ret))))), [.t 2]⟩
noncomputable def t_laws_szEstimateS : List (Nat × Ctr) := [(53, c_laws_szEstimate)]
theorem lk_laws_szEstimateS_53 : look t_laws_szEstimateS 53 = some c_laws_szEstimate := rfl
noncomputable def c_laws_szEstimateS : Ctr := mkF t_laws_szEstimateS ir15 [.bor, .bor]
theorem s_laws_szEstimateS : Sound Try.prog 15 c_laws_szEstimateS := mkF_sound _ rfl (snd_cons s_laws_szEstimate snd_nil) (by kernel_rfl : chkFn Try.prog 15 ir15 ir15_v = true)
theorem M_laws_szEstimateS : c_laws_szEstimateS.modes = [.bor, .bor] := rfl
theorem Fl_laws_szEstimateS : c_laws_szEstimateS.flat = true := rfl
attribute [go_sem] M_laws_szEstimateS Fl_laws_szEstimateS
attribute [go_sem] lk_laws_szEstimateS_53
def E_laws_szEstimateS_l1 (a : List Estimate) : (Int × Int) → St
  | (left_, i) => ⟨[.sl 5 (List.map Estimate_av a), .int .i64 left_, .any, .int .i64 i], [], [], true⟩
def R_laws_szEstimateS_l1 (a : List Estimate) : (Int ⊕ Int) → Res
  | .inl y => (.exit 0, ⟨[.any, .int .i64 y, .any, .any], [], [], true⟩)
  | .inr y => (.ret, ⟨[.any, .any, .int .i64 y, .any], [], [], true⟩)
theorem laws_szEstimateS_l1_ex {a : List Estimate} {sgm_ : Int × Int} {rho_ : Int ⊕ Int} (h : whileE (laws_szEstimateS_l1 a) sgm_ = some rho_) : ∃ L0, ∀ L, L0 ≤ L → iter (exec (look t_laws_szEstimateS) L ir15_b0) ir15_k0 ir15_o0 ir15_r0 L (E_laws_szEstimateS_l1 a sgm_) = R_laws_szEstimateS_l1 a rho_ := by
  refine loop_ex (E := E_laws_szEstimateS_l1 a) (R := R_laws_szEstimateS_l1 a) (fun y => by first | (intro c; cases c) | (rcases y with y | y <;> (intro c; cases c)) | (rcases y with y | y | y <;> (intro c; cases c))) ?_ h
  clear h
  rintro ⟨left_, i⟩ o_ h
  dsimp only [laws_szEstimateS_l1] at h
  rcases it_some h with ⟨hk2, h⟩ | ⟨hk2, h⟩
  · try simp only [go_sem, n1, n2, n3, n4] at hk2
    all_goals
    obtain ⟨hk3, h⟩ := ck_some h
    have lhk3 := ix_lt hk3
    have xhk3 := getD_mapD Estimate_av a lhk3
    try simp only [go_sem] at lhk3
    try simp only [go_sem] at xhk3
    try simp only [go_sem, n1, n2, n3, n4, hk2] at hk3
    all_goals
    obtain ⟨y_4, hk4, h⟩ := bd_some h
    have fhk4 := Fs_laws_szEstimate hk4
    try simp only [go_sem] at fhk4
    rcases it_some h with ⟨hk5, h⟩ | ⟨hk5, h⟩
    · try simp only [go_sem, n1, n2, n3, n4, hk2, hk3] at hk5
      all_goals
      obtain rfl := so_some h
      refine ⟨0, fun L hL => ?_⟩
      simp only [go_sem, ir15, E_laws_szEstimateS_l1, R_laws_szEstimateS_l1, ir15_b0, ir15_k0, ir15_o0, ir15_r0, hk2, hk3, lhk3, xhk3, fhk4, hk5]
    · try simp only [go_sem, n1, n2, n3, n4, hk2, hk3] at hk5
      all_goals
      obtain rfl := so_some h
      refine ⟨0, fun L hL => ?_⟩
      simp only [go_sem, ir15, E_laws_szEstimateS_l1, R_laws_szEstimateS_l1, ir15_b0, ir15_k0, ir15_o0, ir15_r0, hk2, hk3, lhk3, xhk3, fhk4, hk5]
  · try simp only [go_sem, n1, n2, n3, n4] at hk2
    all_goals
    obtain rfl := so_some h
    refine ⟨0, fun L hL => ?_⟩
    simp only [go_sem, ir15, E_laws_szEstimateS_l1, R_laws_szEstimateS_l1, ir15_b0, ir15_k0, ir15_o0, ir15_r0, hk2]

theorem Fs_laws_szEstimateS {a : List Estimate} {left_ : Int} {y_ : Int} (h : laws_szEstimateS a left_ = some y_) : c_laws_szEstimateS.F [.sl 5 (List.map Estimate_av a), .int .i64 left_] = ⟨true, .int .i64 y_, [.any, .any]⟩ := by
  refine mkF_E rfl ?_
  dsimp only [laws_szEstimateS] at h
  rcases it_some h with ⟨hk1, h⟩ | ⟨hk1, h⟩
  · try simp only [go_sem, n1, n2, n3, n4] at hk1
    all_goals
    obtain rfl := so_some h
    refine ⟨0, fun L hL => ?_⟩
    simp only [go_sem, ir15, E_laws_szEstimateS_l1, R_laws_szEstimateS_l1, ir15_k0, ir15_o0, ir15_r0, hk1]
  · try simp only [go_sem, n1, n2, n3, n4] at hk1
    all_goals
    obtain ⟨y_6, hk6, h⟩ := bd_some h
    obtain ⟨Lhk6, ehk6⟩ := laws_szEstimateS_l1_ex hk6
    rcases y_6 with y_6a | y_6b
    · dsimp only at h
      obtain rfl := so_some h
      refine ⟨Lhk6, fun L hL => ?_⟩
      have ehk6 := ehk6 L (by omega)
      try simp only [go_sem, E_laws_szEstimateS_l1, R_laws_szEstimateS_l1, ir15_k0, ir15_o0, ir15_r0] at ehk6
      simp only [go_sem, ir15, E_laws_szEstimateS_l1, R_laws_szEstimateS_l1, ir15_k0, ir15_o0, ir15_r0, hk1, ehk6]
    · dsimp only at h
      obtain rfl := so_some h
      refine ⟨Lhk6, fun L hL => ?_⟩
      have ehk6 := ehk6 L (by omega)
      try simp only [go_sem, E_laws_szEstimateS_l1, R_laws_szEstimateS_l1, ir15_k0, ir15_o0, ir15_r0] at ehk6
      simp only [go_sem, ir15, E_laws_szEstimateS_l1, R_laws_szEstimateS_l1, ir15_k0, ir15_o0, ir15_r0, hk1, ehk6]


def ir16_v : List Nat := [0, 1, 4]
def ir16 : AFn := ⟨2, 3, .seq (.region false [
    ⟨.var 2, 4, none, .mov (.c (.int .i64 (0)))⟩])
 (.seq (.region false [
    ⟨.push, 5, none, .mov (.v 1)⟩,
    ⟨.push, 6, none, .mov (.v 0)⟩,
    ⟨.push, 7, none, .len false (.s 0)⟩,
    ⟨.push, 8, none, .bin false .sub (.s 2) (.s 0)⟩,
    ⟨.var 1, 1, none, .mov (.s 0)⟩])
 (.seq (.test false [
    ⟨.push, 9, none, .mov (.v 1)⟩,
    ⟨.push, 10, none, .bin false .lss (.s 0) (.c (.int .i64 (0)))⟩] (.s 0)
  (.seq (.region false [
      ⟨.var 2, 4, none, .mov (.c (.int .i64 (-1)))⟩])
   (.ret))
  (.skip))
 (.seq (.region false [
    ⟨.push, 11, none, .mov (.v 1)⟩,
    ⟨.var 2, 4, none, .mov (.s 0)⟩])
 (.ret)))), [.t 2]⟩
noncomputable def t_laws_szFaultS : List (Nat × Ctr) := []
noncomputable def c_laws_szFaultS : Ctr := mkF t_laws_szFaultS ir16 [.bor, .bor]
theorem s_laws_szFaultS : Sound Try.prog 16 c_laws_szFaultS := mkF_sound _ rfl snd_nil (by kernel_rfl : chkFn Try.prog 16 ir16 ir16_v = true)
theorem M_laws_szFaultS : c_laws_szFaultS.modes = [.bor, .bor] := rfl
theorem Fl_laws_szFaultS : c_laws_szFaultS.flat = true := rfl
attribute [go_sem] M_laws_szFaultS Fl_laws_szFaultS
theorem Fs_laws_szFaultS {a : List Fault} {left_ : Int} {y_ : Int} (h : laws_szFaultS a left_ = some y_) : c_laws_szFaultS.F [.sl 2 (List.map Fault_av a), .int .i64 left_] = ⟨true, .int .i64 y_, [.any, .any]⟩ := by
  refine mkF_E rfl ?_
  dsimp only [laws_szFaultS] at h
  rcases it_some h with ⟨hk1, h⟩ | ⟨hk1, h⟩
  · try simp only [go_sem, n1, n2, n3, n4] at hk1
    all_goals
    obtain rfl := so_some h
    refine ⟨0, fun L hL => ?_⟩
    simp only [go_sem, ir16, hk1]
  · try simp only [go_sem, n1, n2, n3, n4] at hk1
    all_goals
    obtain rfl := so_some h
    refine ⟨0, fun L hL => ?_⟩
    simp only [go_sem, ir16, hk1]


def ir56_v : List Nat := [0, 1, 2, 3]
def ir56 : AFn := ⟨1, 4, .seq (.region false [
    ⟨.var 1, 1, none, .box (.v 0)⟩,
    ⟨.var 2, 2, none, .alloc (.agg [.int .i64 (0), .str [], .str [], .int .i64 (0), .bool false])⟩])
 (.seq (.region false [
    ⟨.var 3, 3, none, .alloc (.agg [.int .i64 (0), .str [], .str [], .int .i64 (0), .bool false])⟩])
 (.seq (.region false [
    ⟨.push, 4, none, .fldAddr 0 (.v 1)⟩,
    ⟨.push, 5, none, .load false 1 (.s 0)⟩,
    ⟨.push, 6, none, .fldAddr 0 (.v 3)⟩,
    ⟨.no, 0, none, .store 1 (.s 0) (.s 1)⟩])
 (.seq (.region false [
    ⟨.push, 7, none, .fldAddr 1 (.v 1)⟩,
    ⟨.push, 8, none, .load false 1 (.s 0)⟩,
    ⟨.push, 9, none, .fldAddr 1 (.v 3)⟩,
    ⟨.no, 0, none, .store 1 (.s 0) (.s 1)⟩])
 (.seq (.region false [
    ⟨.push, 10, none, .fldAddr 2 (.v 1)⟩,
    ⟨.push, 11, none, .load false 1 (.s 0)⟩,
    ⟨.push, 12, none, .fldAddr 2 (.v 3)⟩,
    ⟨.no, 0, none, .store 1 (.s 0) (.s 1)⟩])
 (.seq (.region false [
    ⟨.push, 13, none, .fldAddr 3 (.v 1)⟩,
    ⟨.push, 14, none, .load false 1 (.s 0)⟩,
    ⟨.push, 15, none, .fldAddr 3 (.v 3)⟩,
    ⟨.no, 0, none, .store 1 (.s 0) (.s 1)⟩])
 (.seq (.region false [
    ⟨.push, 16, none, .fldAddr 4 (.v 1)⟩,
    ⟨.push, 17, none, .load false 1 (.s 0)⟩,
    ⟨.push, 18, none, .fldAddr 4 (.v 3)⟩,
    ⟨.no, 0, none, .store 1 (.s 0) (.s 1)⟩])
 (.seq (.region false [
    ⟨.push, 19, none, .load true 5 (.v 3)⟩,
    ⟨.no, 0, none, .store 5 (.v 2) (.s 0)⟩])
 (.ret)))))))), [.cell true 5 2]⟩
noncomputable def t_laws_toEstimate : List (Nat × Ctr) := []
noncomputable def c_laws_toEstimate : Ctr := mkN t_laws_toEstimate ir56 [.bor]
theorem s_laws_toEstimate : Sound Try.prog 56 c_laws_toEstimate := mkN_sound _ snd_nil (by kernel_rfl : chkFn Try.prog 56 ir56 ir56_v = true)
theorem M_laws_toEstimate : c_laws_toEstimate.modes = [.bor] := rfl
theorem Fl_laws_toEstimate : c_laws_toEstimate.flat = false := rfl
attribute [go_sem] M_laws_toEstimate Fl_laws_toEstimate
theorem Fs_laws_toEstimate {a : Estimate} {y_ : Estimate} (h : laws_toEstimate a = some y_) : c_laws_toEstimate.F [Estimate_av a] = ⟨true, Estimate_av y_, [.any]⟩ := by
  refine mkN_E ?_
  dsimp only [laws_toEstimate] at h
  obtain rfl := so_some h
  refine ⟨0, fun L hL => ?_⟩
  simp only [go_sem, ir56]


def ir18_b0 : IR := .seq (.test false [
    ⟨.push, 8, none, .mov (.v 3)⟩,
    ⟨.push, 9, none, .mov (.v 0)⟩,
    ⟨.push, 10, none, .len false (.s 0)⟩,
    ⟨.push, 11, none, .bin false .lss (.s 2) (.s 0)⟩] (.s 0)
  (.skip)
  (.exit 0))
 (.seq (.block 1 (.region false [
     ⟨.push, 14, none, .mov (.v 2)⟩,
     ⟨.push, 15, none, .mov (.v 3)⟩,
     ⟨.push, 16, none, .mov (.v 0)⟩,
     ⟨.push, 17, none, .mov (.v 3)⟩,
     ⟨.push, 18, none, .ixAddr 5 (.s 1) (.s 0)⟩,
     ⟨.push, 19, none, .load true 5 (.s 0)⟩,
     ⟨.push, 20, none, .call 56 [(.s 0)]⟩,
     ⟨.push, 21, none, .ixAddr 5 (.s 6) (.s 5)⟩,
     ⟨.no, 0, none, .store 5 (.s 0) (.s 1)⟩]))
 (.region false [
   ⟨.push, 12, none, .mov (.v 3)⟩,
   ⟨.push, 13, none, .bin false .add (.s 0) (.c (.int .i64 (1)))⟩,
   ⟨.var 3, 4, none, .mov (.s 0)⟩]))
def ir18_k0 : List Bool := [true, false, true, true]
def ir18_o0 : List Bool := [false, false, true, false]
def ir18_r0 : List Bool := [false, true, false, false]
def ir18_v : List Nat := [0, 2, 3, 4]
def ir18 : AFn := ⟨1, 4, .seq (.region false [
    ⟨.var 1, 2, none, .newnil 5⟩])
 (.seq (.region false [
    ⟨.push, 5, none, .mov (.v 0)⟩,
    ⟨.push, 6, none, .len false (.s 0)⟩,
    ⟨.push, 7, none, .make 5 56 (.agg [.int .i64 (0), .str [], .str [], .int .i64 (0), .bool false]) (.s 0) (.s 0)⟩,
    ⟨.var 2, 3, none, .mov (.s 0)⟩])
 (.seq (.seq (.region false [
     ⟨.var 3, 4, none, .mov (.c (.int .i64 (0)))⟩])
  (.block 0 (.loop ir18_k0 ir18_o0 ir18_r0 ir18_b0)))
 (.seq (.region false [
    ⟨.push, 22, none, .mov (.v 2)⟩,
    ⟨.var 1, 2, none, .mov (.s 0)⟩])
 (.ret)))), [.t 1]⟩
noncomputable def t_laws_toEstimateS : List (Nat × Ctr) := [(56, c_laws_toEstimate)]
theorem lk_laws_toEstimateS_56 : look t_laws_toEstimateS 56 = some c_laws_toEstimate := rfl
noncomputable def c_laws_toEstimateS : Ctr := mkF t_laws_toEstimateS ir18 [.bor]
theorem s_laws_toEstimateS : Sound Try.prog 18 c_laws_toEstimateS := mkF_sound _ rfl (snd_cons s_laws_toEstimate snd_nil) (by kernel_rfl : chkFn Try.prog 18 ir18 ir18_v = true)
theorem M_laws_toEstimateS : c_laws_toEstimateS.modes = [.bor] := rfl
theorem Fl_laws_toEstimateS : c_laws_toEstimateS.flat = true := rfl
attribute [go_sem] M_laws_toEstimateS Fl_laws_toEstimateS
attribute [go_sem] lk_laws_toEstimateS_56
def E_laws_toEstimateS_l1 (a : List Estimate) : ((List Estimate) × Int) → St
  | (out, i) => ⟨[.sl 5 (List.map Estimate_av a), .any, .own 3200000, .int .i64 i], [], [(3200000, ⟨5, List.map Estimate_av out⟩)], true⟩
def R_laws_toEstimateS_l1 (a : List Estimate) (y : (List Estimate)) : Res := (.exit 0, ⟨[.any, .any, .own 3200000, .any], [], [(3200000, ⟨5, List.map Estimate_av y⟩)], true⟩)
theorem laws_toEstimateS_l1_ex {a : List Estimate} {sgm_ : (List Estimate) × Int} {rho_ : (List Estimate)} (h : whileE (laws_toEstimateS_l1 a) sgm_ = some rho_) : ∃ L0, ∀ L, L0 ≤ L → iter (exec (look t_laws_toEstimateS) L ir18_b0) ir18_k0 ir18_o0 ir18_r0 L (E_laws_toEstimateS_l1 a sgm_) = R_laws_toEstimateS_l1 a rho_ := by
  refine loop_ex (E := E_laws_toEstimateS_l1 a) (R := R_laws_toEstimateS_l1 a) (fun y => by first | (intro c; cases c) | (rcases y with y | y <;> (intro c; cases c)) | (rcases y with y | y | y <;> (intro c; cases c))) ?_ h
  clear h
  rintro ⟨out, i⟩ o_ h
  dsimp only [laws_toEstimateS_l1] at h
  rcases it_some h with ⟨hk2, h⟩ | ⟨hk2, h⟩
  · try simp only [go_sem, n1, n2, n3, n4] at hk2
    all_goals
    obtain ⟨hk3, h⟩ := ck_some h
    have lhk3 := ix_lt hk3
    have xhk3 := getD_mapD Estimate_av a lhk3
    try simp only [go_sem] at lhk3
    try simp only [go_sem] at xhk3
    try simp only [go_sem, n1, n2, n3, n4, hk2] at hk3
    all_goals
    obtain ⟨y_4, hk4, h⟩ := bd_some h
    have fhk4 := Fs_laws_toEstimate hk4
    try simp only [go_sem] at fhk4
    obtain ⟨hk5, h⟩ := ck_some h
    have lhk5 := ix_lt hk5
    have xhk5 := getD_mapD Estimate_av out lhk5
    try simp only [go_sem] at lhk5
    try simp only [go_sem] at xhk5
    try simp only [go_sem, n1, n2, n3, n4, hk2, hk3] at hk5
    all_goals
    obtain rfl := so_some h
    refine ⟨0, fun L hL => ?_⟩
    simp only [go_sem, ir18, E_laws_toEstimateS_l1, R_laws_toEstimateS_l1, ir18_b0, ir18_k0, ir18_o0, ir18_r0, hk2, hk3, lhk3, xhk3, fhk4, hk5, lhk5, xhk5]
  · try simp only [go_sem, n1, n2, n3, n4] at hk2
    all_goals
    obtain rfl := so_some h
    refine ⟨0, fun L hL => ?_⟩
    simp only [go_sem, ir18, E_laws_toEstimateS_l1, R_laws_toEstimateS_l1, ir18_b0, ir18_k0, ir18_o0, ir18_r0, hk2]

theorem Fs_laws_toEstimateS {a : List Estimate} {y_ : (List Estimate)} (h : laws_toEstimateS a = some y_) : c_laws_toEstimateS.F [.sl 5 (List.map Estimate_av a)] = ⟨true, .fresh 5 (List.map Estimate_av y_), [.any]⟩ := by
  refine mkF_E (by simp only [flatA, flatB, flat1, List.all_cons, List.all_nil, Bool.and_self, flatE_map (f := Estimate_av) (fun _ => rfl)]) ?_
  dsimp only [laws_toEstimateS] at h
  obtain ⟨hk1, h⟩ := ck_some h
  try simp only [go_sem, n1, n2, n3, n4] at hk1
  all_goals
  obtain ⟨y_6, hk6, h⟩ := bd_some h
  obtain ⟨Lhk6, ehk6⟩ := laws_toEstimateS_l1_ex hk6
  obtain rfl := so_some h
  refine ⟨Lhk6, fun L hL => ?_⟩
  have ehk6 := ehk6 L (by omega)
  try simp only [go_sem, E_laws_toEstimateS_l1, R_laws_toEstimateS_l1, ir18_k0, ir18_o0, ir18_r0] at ehk6
  simp only [go_sem, ir18, E_laws_toEstimateS_l1, R_laws_toEstimateS_l1, ir18_k0, ir18_o0, ir18_r0, hk1, ehk6]


def ir57_v : List Nat := [0, 1, 2, 3]
def ir57 : AFn := ⟨1, 4, .seq (.region false [
    ⟨.var 1, 1, none, .box (.v 0)⟩,
    ⟨.var 2, 2, none, .alloc (.agg [.int .i64 (0), .int .i64 (0)])⟩])
 (.seq (.region false [
    ⟨.var 3, 3, none, .alloc (.agg [.int .i64 (0), .int .i64 (0)])⟩])
 (.seq (.region false [
    ⟨.push, 4, none, .fldAddr 0 (.v 1)⟩,
    ⟨.push, 5, none, .load false 1 (.s 0)⟩,
    ⟨.push, 6, none, .fldAddr 0 (.v 3)⟩,
    ⟨.no, 0, none, .store 1 (.s 0) (.s 1)⟩])
 (.seq (.region false [
    ⟨.push, 7, none, .fldAddr 1 (.v 1)⟩,
    ⟨.push, 8, none, .load false 1 (.s 0)⟩,
    ⟨.push, 9, none, .fldAddr 1 (.v 3)⟩,
    ⟨.no, 0, none, .store 1 (.s 0) (.s 1)⟩])
 (.seq (.region false [
    ⟨.push, 10, none, .load true 2 (.v 3)⟩,
    ⟨.no, 0, none, .store 2 (.v 2) (.s 0)⟩])
 (.ret))))), [.cell true 2 2]⟩
noncomputable def t_laws_toFault : List (Nat × Ctr) := []
noncomputable def c_laws_toFault : Ctr := mkN t_laws_toFault ir57 [.bor]
theorem s_laws_toFault : Sound Try.prog 57 c_laws_toFault := mkN_sound _ snd_nil (by kernel_rfl : chkFn Try.prog 57 ir57 ir57_v = true)
theorem M_laws_toFault : c_laws_toFault.modes = [.bor] := rfl
theorem Fl_laws_toFault : c_laws_toFault.flat = false := rfl
attribute [go_sem] M_laws_toFault Fl_laws_toFault
theorem Fs_laws_toFault {a : Fault} {y_ : Fault} (h : laws_toFault a = some y_) : c_laws_toFault.F [Fault_av a] = ⟨true, Fault_av y_, [.any]⟩ := by
  refine mkN_E ?_
  dsimp only [laws_toFault] at h
  obtain rfl := so_some h
  refine ⟨0, fun L hL => ?_⟩
  simp only [go_sem, ir57]


def ir19_b0 : IR := .seq (.test false [
    ⟨.push, 8, none, .mov (.v 3)⟩,
    ⟨.push, 9, none, .mov (.v 0)⟩,
    ⟨.push, 10, none, .len false (.s 0)⟩,
    ⟨.push, 11, none, .bin false .lss (.s 2) (.s 0)⟩] (.s 0)
  (.skip)
  (.exit 0))
 (.seq (.block 1 (.region false [
     ⟨.push, 14, none, .mov (.v 2)⟩,
     ⟨.push, 15, none, .mov (.v 3)⟩,
     ⟨.push, 16, none, .mov (.v 0)⟩,
     ⟨.push, 17, none, .mov (.v 3)⟩,
     ⟨.push, 18, none, .ixAddr 2 (.s 1) (.s 0)⟩,
     ⟨.push, 19, none, .load true 2 (.s 0)⟩,
     ⟨.push, 20, none, .call 57 [(.s 0)]⟩,
     ⟨.push, 21, none, .ixAddr 2 (.s 6) (.s 5)⟩,
     ⟨.no, 0, none, .store 2 (.s 0) (.s 1)⟩]))
 (.region false [
   ⟨.push, 12, none, .mov (.v 3)⟩,
   ⟨.push, 13, none, .bin false .add (.s 0) (.c (.int .i64 (1)))⟩,
   ⟨.var 3, 4, none, .mov (.s 0)⟩]))
def ir19_k0 : List Bool := [true, false, true, true]
def ir19_o0 : List Bool := [false, false, true, false]
def ir19_r0 : List Bool := [false, true, false, false]
def ir19_v : List Nat := [0, 2, 3, 4]
def ir19 : AFn := ⟨1, 4, .seq (.region false [
    ⟨.var 1, 2, none, .newnil 2⟩])
 (.seq (.region false [
    ⟨.push, 5, none, .mov (.v 0)⟩,
    ⟨.push, 6, none, .len false (.s 0)⟩,
    ⟨.push, 7, none, .make 2 16 (.agg [.int .i64 (0), .int .i64 (0)]) (.s 0) (.s 0)⟩,
    ⟨.var 2, 3, none, .mov (.s 0)⟩])
 (.seq (.seq (.region false [
     ⟨.var 3, 4, none, .mov (.c (.int .i64 (0)))⟩])
  (.block 0 (.loop ir19_k0 ir19_o0 ir19_r0 ir19_b0)))
 (.seq (.region false [
    ⟨.push, 22, none, .mov (.v 2)⟩,
    ⟨.var 1, 2, none, .mov (.s 0)⟩])
 (.ret)))), [.t 1]⟩
noncomputable def t_laws_toFaultS : List (Nat × Ctr) := [(57, c_laws_toFault)]
theorem lk_laws_toFaultS_57 : look t_laws_toFaultS 57 = some c_laws_toFault := rfl
noncomputable def c_laws_toFaultS : Ctr := mkF t_laws_toFaultS ir19 [.bor]
theorem s_laws_toFaultS : Sound Try.prog 19 c_laws_toFaultS := mkF_sound _ rfl (snd_cons s_laws_toFault snd_nil) (by kernel_rfl : chkFn Try.prog 19 ir19 ir19_v = true)
theorem M_laws_toFaultS : c_laws_toFaultS.modes = [.bor] := rfl
theorem Fl_laws_toFaultS : c_laws_toFaultS.flat = true := rfl
attribute [go_sem] M_laws_toFaultS Fl_laws_toFaultS
attribute [go_sem] lk_laws_toFaultS_57
def E_laws_toFaultS_l1 (a : List Fault) : ((List Fault) × Int) → St
  | (out, i) => ⟨[.sl 2 (List.map Fault_av a), .any, .own 3200000, .int .i64 i], [], [(3200000, ⟨2, List.map Fault_av out⟩)], true⟩
def R_laws_toFaultS_l1 (a : List Fault) (y : (List Fault)) : Res := (.exit 0, ⟨[.any, .any, .own 3200000, .any], [], [(3200000, ⟨2, List.map Fault_av y⟩)], true⟩)
theorem laws_toFaultS_l1_ex {a : List Fault} {sgm_ : (List Fault) × Int} {rho_ : (List Fault)} (h : whileE (laws_toFaultS_l1 a) sgm_ = some rho_) : ∃ L0, ∀ L, L0 ≤ L → iter (exec (look t_laws_toFaultS) L ir19_b0) ir19_k0 ir19_o0 ir19_r0 L (E_laws_toFaultS_l1 a sgm_) = R_laws_toFaultS_l1 a rho_ := by
  refine loop_ex (E := E_laws_toFaultS_l1 a) (R := R_laws_toFaultS_l1 a) (fun y => by first | (intro c; cases c) | (rcases y with y | y <;> (intro c; cases c)) | (rcases y with y | y | y <;> (intro c; cases c))) ?_ h
  clear h
  rintro ⟨out, i⟩ o_ h
  dsimp only [laws_toFaultS_l1] at h
  rcases it_some h with ⟨hk2, h⟩ | ⟨hk2, h⟩
  · try simp only [go_sem, n1, n2, n3, n4] at hk2
    all_goals
    obtain ⟨hk3, h⟩ := ck_some h
    have lhk3 := ix_lt hk3
    have xhk3 := getD_mapD Fault_av a lhk3
    try simp only [go_sem] at lhk3
    try simp only [go_sem] at xhk3
    try simp only [go_sem, n1, n2, n3, n4, hk2] at hk3
    all_goals
    obtain ⟨y_4, hk4, h⟩ := bd_some h
    have fhk4 := Fs_laws_toFault hk4
    try simp only [go_sem] at fhk4
    obtain ⟨hk5, h⟩ := ck_some h
    have lhk5 := ix_lt hk5
    have xhk5 := getD_mapD Fault_av out lhk5
    try simp only [go_sem] at lhk5
    try simp only [go_sem] at xhk5
    try simp only [go_sem, n1, n2, n3, n4, hk2, hk3] at hk5
    all_goals
    obtain rfl := so_some h
    refine ⟨0, fun L hL => ?_⟩
    simp only [go_sem, ir19, E_laws_toFaultS_l1, R_laws_toFaultS_l1, ir19_b0, ir19_k0, ir19_o0, ir19_r0, hk2, hk3, lhk3, xhk3, fhk4, hk5, lhk5, xhk5]
  · try simp only [go_sem, n1, n2, n3, n4] at hk2
    all_goals
    obtain rfl := so_some h
    refine ⟨0, fun L hL => ?_⟩
    simp only [go_sem, ir19, E_laws_toFaultS_l1, R_laws_toFaultS_l1, ir19_b0, ir19_k0, ir19_o0, ir19_r0, hk2]

theorem Fs_laws_toFaultS {a : List Fault} {y_ : (List Fault)} (h : laws_toFaultS a = some y_) : c_laws_toFaultS.F [.sl 2 (List.map Fault_av a)] = ⟨true, .fresh 2 (List.map Fault_av y_), [.any]⟩ := by
  refine mkF_E (by simp only [flatA, flatB, flat1, List.all_cons, List.all_nil, Bool.and_self, flatE_map (f := Fault_av) (fun _ => rfl)]) ?_
  dsimp only [laws_toFaultS] at h
  obtain ⟨hk1, h⟩ := ck_some h
  try simp only [go_sem, n1, n2, n3, n4] at hk1
  all_goals
  obtain ⟨y_6, hk6, h⟩ := bd_some h
  obtain ⟨Lhk6, ehk6⟩ := laws_toFaultS_l1_ex hk6
  obtain rfl := so_some h
  refine ⟨Lhk6, fun L hL => ?_⟩
  have ehk6 := ehk6 L (by omega)
  try simp only [go_sem, E_laws_toFaultS_l1, R_laws_toFaultS_l1, ir19_k0, ir19_o0, ir19_r0] at ehk6
  simp only [go_sem, ir19, E_laws_toFaultS_l1, R_laws_toFaultS_l1, ir19_k0, ir19_o0, ir19_r0, hk1, ehk6]


def ir51_v : List Nat := [0, 1, 2, 6]
def ir51 : AFn := ⟨3, 4, .seq (.region false [
    ⟨.var 3, 6, none, .mov (.c (.bool false))⟩])
 (.seq (.region false [
    ⟨.push, 7, none, .mov (.v 0)⟩,
    ⟨.push, 8, none, .mov (.v 1)⟩,
    ⟨.push, 9, none, .bin false .geq (.s 1) (.s 0)⟩,
    ⟨.push, 10, none, .mov (.s 0)⟩,
    ⟨.push, 11, (some ((.s 0), true)), .mov (.v 0)⟩,
    ⟨.push, 12, (some ((.s 1), true)), .mov (.v 2)⟩,
    ⟨.push, 13, (some ((.s 2), true)), .bin false .leq (.s 1) (.s 0)⟩,
    ⟨.push, 14, none, .pick (.s 3) (.s 0) (.c (.bool false))⟩,
    ⟨.var 3, 6, none, .mov (.s 0)⟩])
 (.ret)), [.t 3]⟩
noncomputable def t_spec_l00In : List (Nat × Ctr) := []
noncomputable def c_spec_l00In : Ctr := mkF t_spec_l00In ir51 [.bor, .bor, .bor]
theorem s_spec_l00In : Sound Try.prog 51 c_spec_l00In := mkF_sound _ rfl snd_nil (by kernel_rfl : chkFn Try.prog 51 ir51 ir51_v = true)
theorem M_spec_l00In : c_spec_l00In.modes = [.bor, .bor, .bor] := rfl
theorem Fl_spec_l00In : c_spec_l00In.flat = true := rfl
attribute [go_sem] M_spec_l00In Fl_spec_l00In
theorem Fs_spec_l00In {n : Int} {low : Int} {high : Int} {y_ : Bool} (h : spec_l00In n low high = some y_) : c_spec_l00In.F [.int .i64 n, .int .i64 low, .int .i64 high] = ⟨true, .bool y_, [.any, .any, .any]⟩ := by
  refine mkF_E rfl ?_
  dsimp only [spec_l00In] at h
  obtain rfl := so_some h
  refine ⟨0, fun L hL => ?_⟩
  simp only [go_sem, ir51]


def ir84_v : List Nat := [0, 2]
def ir84 : AFn := ⟨1, 2, .seq (.region false [
    ⟨.var 1, 2, none, .mov (.c (.bool false))⟩])
 (.seq (.region false [
    ⟨.push, 3, none, .mov (.v 0)⟩,
    ⟨.push, 4, none, .call 51 [(.s 0), (.c (.int .i64 (0))), (.c (.int .i64 (10000000)))]⟩,
    ⟨.var 1, 2, none, .mov (.s 0)⟩])
 (.ret)), [.t 1]⟩
noncomputable def t_spec_l06Time : List (Nat × Ctr) := [(51, c_spec_l00In)]
theorem lk_spec_l06Time_51 : look t_spec_l06Time 51 = some c_spec_l00In := rfl
noncomputable def c_spec_l06Time : Ctr := mkF t_spec_l06Time ir84 [.bor]
theorem s_spec_l06Time : Sound Try.prog 84 c_spec_l06Time := mkF_sound _ rfl (snd_cons s_spec_l00In snd_nil) (by kernel_rfl : chkFn Try.prog 84 ir84 ir84_v = true)
theorem M_spec_l06Time : c_spec_l06Time.modes = [.bor] := rfl
theorem Fl_spec_l06Time : c_spec_l06Time.flat = true := rfl
attribute [go_sem] M_spec_l06Time Fl_spec_l06Time
attribute [go_sem] lk_spec_l06Time_51
theorem Fs_spec_l06Time {n : Int} {y_ : Bool} (h : spec_l06Time n = some y_) : c_spec_l06Time.F [.int .i64 n] = ⟨true, .bool y_, [.any]⟩ := by
  refine mkF_E rfl ?_
  dsimp only [spec_l06Time] at h
  obtain ⟨y_1, hk1, h⟩ := bd_some h
  have fhk1 := Fs_spec_l00In hk1
  try simp only [go_sem] at fhk1
  obtain rfl := so_some h
  refine ⟨0, fun L hL => ?_⟩
  simp only [go_sem, ir84, fhk1]


def ir130_v : List Nat := [0, 2]
def ir130 : AFn := ⟨1, 2, .seq (.region false [
    ⟨.var 1, 2, none, .mov (.c (.bool false))⟩])
 (.seq (.region false [
    ⟨.push, 3, none, .mov (.v 0)⟩,
    ⟨.push, 4, none, .bin false .geq (.s 0) (.c (.int .u8 (97)))⟩,
    ⟨.push, 5, none, .mov (.s 0)⟩,
    ⟨.push, 6, (some ((.s 0), true)), .mov (.v 0)⟩,
    ⟨.push, 7, (some ((.s 1), true)), .bin false .leq (.s 0) (.c (.int .u8 (122)))⟩,
    ⟨.push, 8, none, .pick (.s 2) (.s 0) (.c (.bool false))⟩,
    ⟨.var 1, 2, none, .mov (.s 0)⟩])
 (.ret)), [.t 1]⟩
noncomputable def t_spec_l01Small : List (Nat × Ctr) := []
noncomputable def c_spec_l01Small : Ctr := mkF t_spec_l01Small ir130 [.bor]
theorem s_spec_l01Small : Sound Try.prog 130 c_spec_l01Small := mkF_sound _ rfl snd_nil (by kernel_rfl : chkFn Try.prog 130 ir130 ir130_v = true)
theorem M_spec_l01Small : c_spec_l01Small.modes = [.bor] := rfl
theorem Fl_spec_l01Small : c_spec_l01Small.flat = true := rfl
attribute [go_sem] M_spec_l01Small Fl_spec_l01Small
theorem Fs_spec_l01Small {c : UInt8} {y_ : Bool} (h : spec_l01Small c = some y_) : c_spec_l01Small.F [.int .u8 (c.toNat : Int)] = ⟨true, .bool y_, [.any]⟩ := by
  refine mkF_E rfl ?_
  dsimp only [spec_l01Small] at h
  obtain rfl := so_some h
  refine ⟨0, fun L hL => ?_⟩
  simp only [go_sem, ir130]


def ir131_v : List Nat := [0, 2]
def ir131 : AFn := ⟨1, 2, .seq (.region false [
    ⟨.var 1, 2, none, .mov (.c (.bool false))⟩])
 (.seq (.region false [
    ⟨.push, 3, none, .mov (.v 0)⟩,
    ⟨.push, 4, none, .bin false .geq (.s 0) (.c (.int .u8 (48)))⟩,
    ⟨.push, 5, none, .mov (.s 0)⟩,
    ⟨.push, 6, (some ((.s 0), true)), .mov (.v 0)⟩,
    ⟨.push, 7, (some ((.s 1), true)), .bin false .leq (.s 0) (.c (.int .u8 (57)))⟩,
    ⟨.push, 8, none, .pick (.s 2) (.s 0) (.c (.bool false))⟩,
    ⟨.var 1, 2, none, .mov (.s 0)⟩])
 (.ret)), [.t 1]⟩
noncomputable def t_spec_l01Digit : List (Nat × Ctr) := []
noncomputable def c_spec_l01Digit : Ctr := mkF t_spec_l01Digit ir131 [.bor]
theorem s_spec_l01Digit : Sound Try.prog 131 c_spec_l01Digit := mkF_sound _ rfl snd_nil (by kernel_rfl : chkFn Try.prog 131 ir131 ir131_v = true)
theorem M_spec_l01Digit : c_spec_l01Digit.modes = [.bor] := rfl
theorem Fl_spec_l01Digit : c_spec_l01Digit.flat = true := rfl
attribute [go_sem] M_spec_l01Digit Fl_spec_l01Digit
theorem Fs_spec_l01Digit {c : UInt8} {y_ : Bool} (h : spec_l01Digit c = some y_) : c_spec_l01Digit.F [.int .u8 (c.toNat : Int)] = ⟨true, .bool y_, [.any]⟩ := by
  refine mkF_E rfl ?_
  dsimp only [spec_l01Digit] at h
  obtain rfl := so_some h
  refine ⟨0, fun L hL => ?_⟩
  simp only [go_sem, ir131]


def ir119_b0 : IR := .seq (.test false [
    ⟨.push, 17, none, .mov (.v 2)⟩,
    ⟨.push, 18, none, .mov (.v 0)⟩,
    ⟨.push, 19, none, .len true (.s 0)⟩,
    ⟨.push, 20, none, .bin false .lss (.s 2) (.s 0)⟩] (.s 0)
  (.skip)
  (.exit 0))
 (.seq (.block 1 (.test false [
     ⟨.push, 23, none, .mov (.v 0)⟩,
     ⟨.push, 24, none, .mov (.v 2)⟩,
     ⟨.push, 25, none, .ixStr (.s 1) (.s 0)⟩,
     ⟨.push, 26, none, .call 130 [(.s 0)]⟩,
     ⟨.push, 27, none, .un .not (.s 0)⟩,
     ⟨.push, 28, none, .mov (.s 0)⟩,
     ⟨.push, 29, (some ((.s 0), true)), .mov (.v 0)⟩,
     ⟨.push, 30, (some ((.s 1), true)), .mov (.v 2)⟩,
     ⟨.push, 31, (some ((.s 2), true)), .ixStr (.s 1) (.s 0)⟩,
     ⟨.push, 32, (some ((.s 3), true)), .call 131 [(.s 0)]⟩,
     ⟨.push, 33, (some ((.s 4), true)), .un .not (.s 0)⟩,
     ⟨.push, 34, none, .pick (.s 5) (.s 0) (.c (.bool false))⟩,
     ⟨.push, 35, none, .mov (.s 0)⟩,
     ⟨.push, 36, (some ((.s 0), true)), .mov (.v 0)⟩,
     ⟨.push, 37, (some ((.s 1), true)), .mov (.v 2)⟩,
     ⟨.push, 38, (some ((.s 2), true)), .ixStr (.s 1) (.s 0)⟩,
     ⟨.push, 39, (some ((.s 3), true)), .bin false .neq (.s 0) (.c (.int .u8 (45)))⟩,
     ⟨.push, 40, none, .pick (.s 4) (.s 0) (.c (.bool false))⟩] (.s 0)
   (.seq (.region false [
       ⟨.var 1, 2, none, .mov (.c (.bool false))⟩])
    (.ret))
   (.skip)))
 (.region false [
   ⟨.push, 21, none, .mov (.v 2)⟩,
   ⟨.push, 22, none, .bin false .add (.s 0) (.c (.int .i64 (1)))⟩,
   ⟨.var 2, 3, none, .mov (.s 0)⟩]))
def ir119_k0 : List Bool := [true, false, true]
def ir119_o0 : List Bool := [false, false, false]
def ir119_r0 : List Bool := [false, true, false]
def ir119_v : List Nat := [0, 2, 3]
def ir119 : AFn := ⟨1, 3, .seq (.region false [
    ⟨.var 1, 2, none, .mov (.c (.bool false))⟩])
 (.seq (.test false [
    ⟨.push, 4, none, .mov (.v 0)⟩,
    ⟨.push, 5, none, .bin false .eql (.s 0) (.c (.str []))⟩,
    ⟨.push, 6, none, .mov (.s 0)⟩,
    ⟨.push, 7, (some ((.s 0), false)), .mov (.v 0)⟩,
    ⟨.push, 8, (some ((.s 1), false)), .len true (.s 0)⟩,
    ⟨.push, 9, (some ((.s 2), false)), .bin false .gtr (.s 0) (.c (.int .i64 (12)))⟩,
    ⟨.push, 10, none, .pick (.s 3) (.c (.bool true)) (.s 0)⟩,
    ⟨.push, 11, none, .mov (.s 0)⟩,
    ⟨.push, 12, (some ((.s 0), false)), .mov (.v 0)⟩,
    ⟨.push, 13, (some ((.s 1), false)), .ixStr (.s 0) (.c (.int .i64 (0)))⟩,
    ⟨.push, 14, (some ((.s 2), false)), .call 130 [(.s 0)]⟩,
    ⟨.push, 15, (some ((.s 3), false)), .un .not (.s 0)⟩,
    ⟨.push, 16, none, .pick (.s 4) (.c (.bool true)) (.s 0)⟩] (.s 0)
  (.seq (.region false [
      ⟨.var 1, 2, none, .mov (.c (.bool false))⟩])
   (.ret))
  (.skip))
 (.seq (.seq (.region false [
     ⟨.var 2, 3, none, .mov (.c (.int .i64 (0)))⟩])
  (.block 0 (.loop ir119_k0 ir119_o0 ir119_r0 ir119_b0)))
 (.seq (.region false [
    ⟨.var 1, 2, none, .mov (.c (.bool true))⟩])
 (.ret)))), [.t 1]⟩
noncomputable def t_spec_IsName : List (Nat × Ctr) := [(130, c_spec_l01Small), (131, c_spec_l01Digit)]
theorem lk_spec_IsName_130 : look t_spec_IsName 130 = some c_spec_l01Small := rfl
theorem lk_spec_IsName_131 : look t_spec_IsName 131 = some c_spec_l01Digit := rfl
noncomputable def c_spec_IsName : Ctr := mkF t_spec_IsName ir119 [.bor]
theorem s_spec_IsName : Sound Try.prog 119 c_spec_IsName := mkF_sound _ rfl (snd_cons s_spec_l01Small (snd_cons s_spec_l01Digit snd_nil)) (by kernel_rfl : chkFn Try.prog 119 ir119 ir119_v = true)
theorem M_spec_IsName : c_spec_IsName.modes = [.bor] := rfl
theorem Fl_spec_IsName : c_spec_IsName.flat = true := rfl
attribute [go_sem] M_spec_IsName Fl_spec_IsName
attribute [go_sem] lk_spec_IsName_130 lk_spec_IsName_131
def E_spec_IsName_l1 (s_ : List UInt8) : Int → St
  | i => ⟨[.str s_, .any, .int .i64 i], [], [], true⟩
def R_spec_IsName_l1 (s_ : List UInt8) : (Unit ⊕ Bool) → Res
  | .inl y => (.exit 0, ⟨[.any, .any, .any], [], [], true⟩)
  | .inr y => (.ret, ⟨[.any, .bool y, .any], [], [], true⟩)
theorem spec_IsName_l1_ex {s_ : List UInt8} {sgm_ : Int} {rho_ : Unit ⊕ Bool} (h : whileE (spec_IsName_l1 s_) sgm_ = some rho_) : ∃ L0, ∀ L, L0 ≤ L → iter (exec (look t_spec_IsName) L ir119_b0) ir119_k0 ir119_o0 ir119_r0 L (E_spec_IsName_l1 s_ sgm_) = R_spec_IsName_l1 s_ rho_ := by
  refine loop_ex (E := E_spec_IsName_l1 s_) (R := R_spec_IsName_l1 s_) (fun y => by first | (intro c; cases c) | (rcases y with y | y <;> (intro c; cases c)) | (rcases y with y | y | y <;> (intro c; cases c))) ?_ h
  clear h
  intro i o_ h
  dsimp only [spec_IsName_l1] at h
  rcases it_some h with ⟨hk4, h⟩ | ⟨hk4, h⟩
  · try simp only [go_sem, n1, n2, n3, n4] at hk4
    all_goals
    obtain ⟨hk5, h⟩ := ck_some h
    try simp only [go_sem, n1, n2, n3, n4, hk4] at hk5
    all_goals
    obtain ⟨y_6, hk6, h⟩ := bd_some h
    have fhk6 := Fs_spec_l01Small hk6
    try simp only [go_sem] at fhk6
    obtain ⟨hk7, h⟩ := ck_some h
    rcases or_split hk7 with ⟨ghk7, hk7⟩ | ghk7
    · try simp only [go_sem, n1, n2, n3, n4, hk4, hk5] at ghk7
      all_goals
      obtain ⟨y_7, hhk7⟩ := Option.isSome_iff_exists.1 hk7
      have fhk7 := Fs_spec_l01Digit hhk7
      try simp only [go_sem] at fhk7
      rcases it_some h with ⟨hk8, h⟩ | ⟨hk8, h⟩
      · try simp only [go_sem, n1, n2, n3, n4, hk4, hk5, ghk7, hhk7] at hk8
        all_goals
        obtain rfl := so_some h
        refine ⟨0, fun L hL => ?_⟩
        simp only [go_sem, ir119, E_spec_IsName_l1, R_spec_IsName_l1, ir119_b0, ir119_k0, ir119_o0, ir119_r0, hk4, hk5, fhk6, ghk7, hhk7, fhk7, hk8]
      · try simp only [go_sem, n1, n2, n3, n4, hk4, hk5, ghk7, hhk7] at hk8
        all_goals
        obtain rfl := so_some h
        refine ⟨0, fun L hL => ?_⟩
        simp only [go_sem, ir119, E_spec_IsName_l1, R_spec_IsName_l1, ir119_b0, ir119_k0, ir119_o0, ir119_r0, hk4, hk5, fhk6, ghk7, hhk7, fhk7, hk8]
    · have ghk7n := no_f ghk7
      try simp only [go_sem, n1, n2, n3, n4, hk4, hk5] at ghk7n
      all_goals
      rcases it_some h with ⟨hk8, h⟩ | ⟨hk8, h⟩
      · try simp only [go_sem, n1, n2, n3, n4, hk4, hk5, ghk7n] at hk8
        all_goals
        obtain rfl := so_some h
        refine ⟨0, fun L hL => ?_⟩
        simp only [go_sem, ir119, E_spec_IsName_l1, R_spec_IsName_l1, ir119_b0, ir119_k0, ir119_o0, ir119_r0, hk4, hk5, fhk6, ghk7n, hk8]
      · try simp only [go_sem, n1, n2, n3, n4, hk4, hk5, ghk7n] at hk8
        all_goals
        obtain rfl := so_some h
        refine ⟨0, fun L hL => ?_⟩
        simp only [go_sem, ir119, E_spec_IsName_l1, R_spec_IsName_l1, ir119_b0, ir119_k0, ir119_o0, ir119_r0, hk4, hk5, fhk6, ghk7n, hk8]
  · try simp only [go_sem, n1, n2, n3, n4] at hk4
    all_goals
    obtain rfl := so_some h
    refine ⟨0, fun L hL => ?_⟩
    simp only [go_sem, ir119, E_spec_IsName_l1, R_spec_IsName_l1, ir119_b0, ir119_k0, ir119_o0, ir119_r0, hk4]

theorem Fs_spec_IsName {s_ : List UInt8} {y_ : Bool} (h : spec_IsName s_ = some y_) : c_spec_IsName.F [.str s_] = ⟨true, .bool y_, [.any]⟩ := by
  refine mkF_E rfl ?_
  dsimp only [spec_IsName] at h
  obtain ⟨hk1, h⟩ := ck_some h
  rcases or_split hk1 with ⟨ghk1, hk1⟩ | ghk1
  · try simp only [go_sem, n1, n2, n3, n4] at ghk1
    all_goals
    try simp only [go_sem, n1, n2, n3, n4, ghk1] at hk1
    all_goals
    obtain ⟨hk2, h⟩ := ck_some h
    rcases or_split hk2 with ⟨ghk2, hk2⟩ | ghk2
    · try simp only [go_sem, n1, n2, n3, n4, ghk1, hk1] at ghk2
      all_goals
      obtain ⟨y_2, hhk2⟩ := Option.isSome_iff_exists.1 hk2
      have fhk2 := Fs_spec_l01Small hhk2
      try simp only [go_sem] at fhk2
      rcases it_some h with ⟨hk3, h⟩ | ⟨hk3, h⟩
      · try simp only [go_sem, n1, n2, n3, n4, ghk1, hk1, ghk2, hhk2] at hk3
        all_goals
        obtain rfl := so_some h
        refine ⟨0, fun L hL => ?_⟩
        simp only [go_sem, ir119, E_spec_IsName_l1, R_spec_IsName_l1, ir119_k0, ir119_o0, ir119_r0, ghk1, hk1, ghk2, hhk2, fhk2, hk3]
      · try simp only [go_sem, n1, n2, n3, n4, ghk1, hk1, ghk2, hhk2] at hk3
        all_goals
        obtain ⟨y_9, hk9, h⟩ := bd_some h
        obtain ⟨Lhk9, ehk9⟩ := spec_IsName_l1_ex hk9
        rcases y_9 with y_9a | y_9b
        · dsimp only at h
          obtain rfl := so_some h
          refine ⟨Lhk9, fun L hL => ?_⟩
          have ehk9 := ehk9 L (by omega)
          try simp only [go_sem, E_spec_IsName_l1, R_spec_IsName_l1, ir119_k0, ir119_o0, ir119_r0] at ehk9
          simp only [go_sem, ir119, E_spec_IsName_l1, R_spec_IsName_l1, ir119_k0, ir119_o0, ir119_r0, ghk1, hk1, ghk2, hhk2, fhk2, hk3, ehk9]
        · dsimp only at h
          obtain rfl := so_some h
          refine ⟨Lhk9, fun L hL => ?_⟩
          have ehk9 := ehk9 L (by omega)
          try simp only [go_sem, E_spec_IsName_l1, R_spec_IsName_l1, ir119_k0, ir119_o0, ir119_r0] at ehk9
          simp only [go_sem, ir119, E_spec_IsName_l1, R_spec_IsName_l1, ir119_k0, ir119_o0, ir119_r0, ghk1, hk1, ghk2, hhk2, fhk2, hk3, ehk9]
    · have ghk2n := no_f ghk2
      rcases or_t ghk2n with ghk2na | ⟨ghk2na, ghk2nb⟩
      · try simp only [go_sem, n1, n2, n3, n4, ghk1, hk1] at ghk2na
        all_goals
        rcases it_some h with ⟨hk3, h⟩ | ⟨hk3, h⟩
        · try simp only [go_sem, n1, n2, n3, n4, ghk1, hk1, ghk2na] at hk3
          all_goals
          obtain rfl := so_some h
          refine ⟨0, fun L hL => ?_⟩
          simp only [go_sem, ir119, E_spec_IsName_l1, R_spec_IsName_l1, ir119_k0, ir119_o0, ir119_r0, ghk1, hk1, ghk2na, hk3]
        · try simp only [go_sem, n1, n2, n3, n4, ghk1, hk1, ghk2na] at hk3
          all_goals
          obtain ⟨y_9, hk9, h⟩ := bd_some h
          obtain ⟨Lhk9, ehk9⟩ := spec_IsName_l1_ex hk9
          rcases y_9 with y_9a | y_9b
          · dsimp only at h
            obtain rfl := so_some h
            refine ⟨Lhk9, fun L hL => ?_⟩
            have ehk9 := ehk9 L (by omega)
            try simp only [go_sem, E_spec_IsName_l1, R_spec_IsName_l1, ir119_k0, ir119_o0, ir119_r0] at ehk9
            simp only [go_sem, ir119, E_spec_IsName_l1, R_spec_IsName_l1, ir119_k0, ir119_o0, ir119_r0, ghk1, hk1, ghk2na, hk3, ehk9]
          · dsimp only at h
            obtain rfl := so_some h
            refine ⟨Lhk9, fun L hL => ?_⟩
            have ehk9 := ehk9 L (by omega)
            try simp only [go_sem, E_spec_IsName_l1, R_spec_IsName_l1, ir119_k0, ir119_o0, ir119_r0] at ehk9
            simp only [go_sem, ir119, E_spec_IsName_l1, R_spec_IsName_l1, ir119_k0, ir119_o0, ir119_r0, ghk1, hk1, ghk2na, hk3, ehk9]
      · try simp only [go_sem, n1, n2, n3, n4, ghk1, hk1] at ghk2na
        all_goals
        try simp only [go_sem, n1, n2, n3, n4, ghk1, hk1, ghk2na] at ghk2nb
        all_goals
        rcases it_some h with ⟨hk3, h⟩ | ⟨hk3, h⟩
        · try simp only [go_sem, n1, n2, n3, n4, ghk1, hk1, ghk2na, ghk2nb] at hk3
          all_goals
          obtain rfl := so_some h
          refine ⟨0, fun L hL => ?_⟩
          simp only [go_sem, ir119, E_spec_IsName_l1, R_spec_IsName_l1, ir119_k0, ir119_o0, ir119_r0, ghk1, hk1, ghk2na, ghk2nb, hk3]
        · try simp only [go_sem, n1, n2, n3, n4, ghk1, hk1, ghk2na, ghk2nb] at hk3
          all_goals
          obtain ⟨y_9, hk9, h⟩ := bd_some h
          obtain ⟨Lhk9, ehk9⟩ := spec_IsName_l1_ex hk9
          rcases y_9 with y_9a | y_9b
          · dsimp only at h
            obtain rfl := so_some h
            refine ⟨Lhk9, fun L hL => ?_⟩
            have ehk9 := ehk9 L (by omega)
            try simp only [go_sem, E_spec_IsName_l1, R_spec_IsName_l1, ir119_k0, ir119_o0, ir119_r0] at ehk9
            simp only [go_sem, ir119, E_spec_IsName_l1, R_spec_IsName_l1, ir119_k0, ir119_o0, ir119_r0, ghk1, hk1, ghk2na, ghk2nb, hk3, ehk9]
          · dsimp only at h
            obtain rfl := so_some h
            refine ⟨Lhk9, fun L hL => ?_⟩
            have ehk9 := ehk9 L (by omega)
            try simp only [go_sem, E_spec_IsName_l1, R_spec_IsName_l1, ir119_k0, ir119_o0, ir119_r0] at ehk9
            simp only [go_sem, ir119, E_spec_IsName_l1, R_spec_IsName_l1, ir119_k0, ir119_o0, ir119_r0, ghk1, hk1, ghk2na, ghk2nb, hk3, ehk9]
  · have ghk1n := no_f ghk1
    rcases or_t ghk1n with ghk1na | ⟨ghk1na, ghk1nb⟩
    · try simp only [go_sem, n1, n2, n3, n4] at ghk1na
      all_goals
      obtain ⟨hk2, h⟩ := ck_some h
      rcases or_split hk2 with ⟨ghk2, hk2⟩ | ghk2
      · try simp only [go_sem, n1, n2, n3, n4, ghk1na] at ghk2
        all_goals
        obtain ⟨y_2, hhk2⟩ := Option.isSome_iff_exists.1 hk2
        have fhk2 := Fs_spec_l01Small hhk2
        try simp only [go_sem] at fhk2
        rcases it_some h with ⟨hk3, h⟩ | ⟨hk3, h⟩
        · try simp only [go_sem, n1, n2, n3, n4, ghk1na, ghk2, hhk2] at hk3
          all_goals
          obtain rfl := so_some h
          refine ⟨0, fun L hL => ?_⟩
          simp only [go_sem, ir119, E_spec_IsName_l1, R_spec_IsName_l1, ir119_k0, ir119_o0, ir119_r0, ghk1na, ghk2, hhk2, fhk2, hk3]
        · try simp only [go_sem, n1, n2, n3, n4, ghk1na, ghk2, hhk2] at hk3
          all_goals
          obtain ⟨y_9, hk9, h⟩ := bd_some h
          obtain ⟨Lhk9, ehk9⟩ := spec_IsName_l1_ex hk9
          rcases y_9 with y_9a | y_9b
          · dsimp only at h
            obtain rfl := so_some h
            refine ⟨Lhk9, fun L hL => ?_⟩
            have ehk9 := ehk9 L (by omega)
            try simp only [go_sem, E_spec_IsName_l1, R_spec_IsName_l1, ir119_k0, ir119_o0, ir119_r0] at ehk9
            simp only [go_sem, ir119, E_spec_IsName_l1, R_spec_IsName_l1, ir119_k0, ir119_o0, ir119_r0, ghk1na, ghk2, hhk2, fhk2, hk3, ehk9]
          · dsimp only at h
            obtain rfl := so_some h
            refine ⟨Lhk9, fun L hL => ?_⟩
            have ehk9 := ehk9 L (by omega)
            try simp only [go_sem, E_spec_IsName_l1, R_spec_IsName_l1, ir119_k0, ir119_o0, ir119_r0] at ehk9
            simp only [go_sem, ir119, E_spec_IsName_l1, R_spec_IsName_l1, ir119_k0, ir119_o0, ir119_r0, ghk1na, ghk2, hhk2, fhk2, hk3, ehk9]
      · have ghk2n := no_f ghk2
        rcases or_t ghk2n with ghk2na | ⟨ghk2na, ghk2nb⟩
        · try simp only [go_sem, n1, n2, n3, n4, ghk1na] at ghk2na
          all_goals
          rcases it_some h with ⟨hk3, h⟩ | ⟨hk3, h⟩
          · try simp only [go_sem, n1, n2, n3, n4, ghk1na, ghk2na] at hk3
            all_goals
            obtain rfl := so_some h
            refine ⟨0, fun L hL => ?_⟩
            simp only [go_sem, ir119, E_spec_IsName_l1, R_spec_IsName_l1, ir119_k0, ir119_o0, ir119_r0, ghk1na, ghk2na, hk3]
          · try simp only [go_sem, n1, n2, n3, n4, ghk1na, ghk2na] at hk3
            all_goals
            obtain ⟨y_9, hk9, h⟩ := bd_some h
            obtain ⟨Lhk9, ehk9⟩ := spec_IsName_l1_ex hk9
            rcases y_9 with y_9a | y_9b
            · dsimp only at h
              obtain rfl := so_some h
              refine ⟨Lhk9, fun L hL => ?_⟩
              have ehk9 := ehk9 L (by omega)
              try simp only [go_sem, E_spec_IsName_l1, R_spec_IsName_l1, ir119_k0, ir119_o0, ir119_r0] at ehk9
              simp only [go_sem, ir119, E_spec_IsName_l1, R_spec_IsName_l1, ir119_k0, ir119_o0, ir119_r0, ghk1na, ghk2na, hk3, ehk9]
            · dsimp only at h
              obtain rfl := so_some h
              refine ⟨Lhk9, fun L hL => ?_⟩
              have ehk9 := ehk9 L (by omega)
              try simp only [go_sem, E_spec_IsName_l1, R_spec_IsName_l1, ir119_k0, ir119_o0, ir119_r0] at ehk9
              simp only [go_sem, ir119, E_spec_IsName_l1, R_spec_IsName_l1, ir119_k0, ir119_o0, ir119_r0, ghk1na, ghk2na, hk3, ehk9]
        · try simp only [go_sem, n1, n2, n3, n4, ghk1na] at ghk2na
          all_goals
          try simp only [go_sem, n1, n2, n3, n4, ghk1na, ghk2na] at ghk2nb
          all_goals
          rcases it_some h with ⟨hk3, h⟩ | ⟨hk3, h⟩
          · try simp only [go_sem, n1, n2, n3, n4, ghk1na, ghk2na, ghk2nb] at hk3
            all_goals
            obtain rfl := so_some h
            refine ⟨0, fun L hL => ?_⟩
            simp only [go_sem, ir119, E_spec_IsName_l1, R_spec_IsName_l1, ir119_k0, ir119_o0, ir119_r0, ghk1na, ghk2na, ghk2nb, hk3]
          · try simp only [go_sem, n1, n2, n3, n4, ghk1na, ghk2na, ghk2nb] at hk3
            all_goals
            obtain ⟨y_9, hk9, h⟩ := bd_some h
            obtain ⟨Lhk9, ehk9⟩ := spec_IsName_l1_ex hk9
            rcases y_9 with y_9a | y_9b
            · dsimp only at h
              obtain rfl := so_some h
              refine ⟨Lhk9, fun L hL => ?_⟩
              have ehk9 := ehk9 L (by omega)
              try simp only [go_sem, E_spec_IsName_l1, R_spec_IsName_l1, ir119_k0, ir119_o0, ir119_r0] at ehk9
              simp only [go_sem, ir119, E_spec_IsName_l1, R_spec_IsName_l1, ir119_k0, ir119_o0, ir119_r0, ghk1na, ghk2na, ghk2nb, hk3, ehk9]
            · dsimp only at h
              obtain rfl := so_some h
              refine ⟨Lhk9, fun L hL => ?_⟩
              have ehk9 := ehk9 L (by omega)
              try simp only [go_sem, E_spec_IsName_l1, R_spec_IsName_l1, ir119_k0, ir119_o0, ir119_r0] at ehk9
              simp only [go_sem, ir119, E_spec_IsName_l1, R_spec_IsName_l1, ir119_k0, ir119_o0, ir119_r0, ghk1na, ghk2na, ghk2nb, hk3, ehk9]
    · try simp only [go_sem, n1, n2, n3, n4] at ghk1na
      all_goals
      try simp only [go_sem, n1, n2, n3, n4, ghk1na] at ghk1nb
      all_goals
      obtain ⟨hk2, h⟩ := ck_some h
      rcases or_split hk2 with ⟨ghk2, hk2⟩ | ghk2
      · try simp only [go_sem, n1, n2, n3, n4, ghk1na, ghk1nb] at ghk2
        all_goals
        obtain ⟨y_2, hhk2⟩ := Option.isSome_iff_exists.1 hk2
        have fhk2 := Fs_spec_l01Small hhk2
        try simp only [go_sem] at fhk2
        rcases it_some h with ⟨hk3, h⟩ | ⟨hk3, h⟩
        · try simp only [go_sem, n1, n2, n3, n4, ghk1na, ghk1nb, ghk2, hhk2] at hk3
          all_goals
          obtain rfl := so_some h
          refine ⟨0, fun L hL => ?_⟩
          simp only [go_sem, ir119, E_spec_IsName_l1, R_spec_IsName_l1, ir119_k0, ir119_o0, ir119_r0, ghk1na, ghk1nb, ghk2, hhk2, fhk2, hk3]
        · try simp only [go_sem, n1, n2, n3, n4, ghk1na, ghk1nb, ghk2, hhk2] at hk3
          all_goals
          obtain ⟨y_9, hk9, h⟩ := bd_some h
          obtain ⟨Lhk9, ehk9⟩ := spec_IsName_l1_ex hk9
          rcases y_9 with y_9a | y_9b
          · dsimp only at h
            obtain rfl := so_some h
            refine ⟨Lhk9, fun L hL => ?_⟩
            have ehk9 := ehk9 L (by omega)
            try simp only [go_sem, E_spec_IsName_l1, R_spec_IsName_l1, ir119_k0, ir119_o0, ir119_r0] at ehk9
            simp only [go_sem, ir119, E_spec_IsName_l1, R_spec_IsName_l1, ir119_k0, ir119_o0, ir119_r0, ghk1na, ghk1nb, ghk2, hhk2, fhk2, hk3, ehk9]
          · dsimp only at h
            obtain rfl := so_some h
            refine ⟨Lhk9, fun L hL => ?_⟩
            have ehk9 := ehk9 L (by omega)
            try simp only [go_sem, E_spec_IsName_l1, R_spec_IsName_l1, ir119_k0, ir119_o0, ir119_r0] at ehk9
            simp only [go_sem, ir119, E_spec_IsName_l1, R_spec_IsName_l1, ir119_k0, ir119_o0, ir119_r0, ghk1na, ghk1nb, ghk2, hhk2, fhk2, hk3, ehk9]
      · have ghk2n := no_f ghk2
        rcases or_t ghk2n with ghk2na | ⟨ghk2na, ghk2nb⟩
        · try simp only [go_sem, n1, n2, n3, n4, ghk1na, ghk1nb] at ghk2na
          all_goals
          rcases it_some h with ⟨hk3, h⟩ | ⟨hk3, h⟩
          · try simp only [go_sem, n1, n2, n3, n4, ghk1na, ghk1nb, ghk2na] at hk3
            all_goals
            obtain rfl := so_some h
            refine ⟨0, fun L hL => ?_⟩
            simp only [go_sem, ir119, E_spec_IsName_l1, R_spec_IsName_l1, ir119_k0, ir119_o0, ir119_r0, ghk1na, ghk1nb, ghk2na, hk3]
          · try simp only [go_sem, n1, n2, n3, n4, ghk1na, ghk1nb, ghk2na] at hk3
            all_goals
            obtain ⟨y_9, hk9, h⟩ := bd_some h
            obtain ⟨Lhk9, ehk9⟩ := spec_IsName_l1_ex hk9
            rcases y_9 with y_9a | y_9b
            · dsimp only at h
              obtain rfl := so_some h
              refine ⟨Lhk9, fun L hL => ?_⟩
              have ehk9 := ehk9 L (by omega)
              try simp only [go_sem, E_spec_IsName_l1, R_spec_IsName_l1, ir119_k0, ir119_o0, ir119_r0] at ehk9
              simp only [go_sem, ir119, E_spec_IsName_l1, R_spec_IsName_l1, ir119_k0, ir119_o0, ir119_r0, ghk1na, ghk1nb, ghk2na, hk3, ehk9]
            · dsimp only at h
              obtain rfl := so_some h
              refine ⟨Lhk9, fun L hL => ?_⟩
              have ehk9 := ehk9 L (by omega)
              try simp only [go_sem, E_spec_IsName_l1, R_spec_IsName_l1, ir119_k0, ir119_o0, ir119_r0] at ehk9
              simp only [go_sem, ir119, E_spec_IsName_l1, R_spec_IsName_l1, ir119_k0, ir119_o0, ir119_r0, ghk1na, ghk1nb, ghk2na, hk3, ehk9]
        · try simp only [go_sem, n1, n2, n3, n4, ghk1na, ghk1nb] at ghk2na
          all_goals
          try simp only [go_sem, n1, n2, n3, n4, ghk1na, ghk1nb, ghk2na] at ghk2nb
          all_goals
          rcases it_some h with ⟨hk3, h⟩ | ⟨hk3, h⟩
          · try simp only [go_sem, n1, n2, n3, n4, ghk1na, ghk1nb, ghk2na, ghk2nb] at hk3
            all_goals
            obtain rfl := so_some h
            refine ⟨0, fun L hL => ?_⟩
            simp only [go_sem, ir119, E_spec_IsName_l1, R_spec_IsName_l1, ir119_k0, ir119_o0, ir119_r0, ghk1na, ghk1nb, ghk2na, ghk2nb, hk3]
          · try simp only [go_sem, n1, n2, n3, n4, ghk1na, ghk1nb, ghk2na, ghk2nb] at hk3
            all_goals
            obtain ⟨y_9, hk9, h⟩ := bd_some h
            obtain ⟨Lhk9, ehk9⟩ := spec_IsName_l1_ex hk9
            rcases y_9 with y_9a | y_9b
            · dsimp only at h
              obtain rfl := so_some h
              refine ⟨Lhk9, fun L hL => ?_⟩
              have ehk9 := ehk9 L (by omega)
              try simp only [go_sem, E_spec_IsName_l1, R_spec_IsName_l1, ir119_k0, ir119_o0, ir119_r0] at ehk9
              simp only [go_sem, ir119, E_spec_IsName_l1, R_spec_IsName_l1, ir119_k0, ir119_o0, ir119_r0, ghk1na, ghk1nb, ghk2na, ghk2nb, hk3, ehk9]
            · dsimp only at h
              obtain rfl := so_some h
              refine ⟨Lhk9, fun L hL => ?_⟩
              have ehk9 := ehk9 L (by omega)
              try simp only [go_sem, E_spec_IsName_l1, R_spec_IsName_l1, ir119_k0, ir119_o0, ir119_r0] at ehk9
              simp only [go_sem, ir119, E_spec_IsName_l1, R_spec_IsName_l1, ir119_k0, ir119_o0, ir119_r0, ghk1na, ghk1nb, ghk2na, ghk2nb, hk3, ehk9]


def ir85_v : List Nat := [0, 2]
def ir85 : AFn := ⟨1, 2, .seq (.region false [
    ⟨.var 1, 2, none, .mov (.c (.bool false))⟩])
 (.seq (.region false [
    ⟨.push, 3, none, .mov (.v 0)⟩,
    ⟨.push, 4, none, .call 51 [(.s 0), (.c (.int .i64 (-2000))), (.c (.int .i64 (20000)))]⟩,
    ⟨.var 1, 2, none, .mov (.s 0)⟩])
 (.ret)), [.t 1]⟩
noncomputable def t_spec_l02Mag : List (Nat × Ctr) := [(51, c_spec_l00In)]
theorem lk_spec_l02Mag_51 : look t_spec_l02Mag 51 = some c_spec_l00In := rfl
noncomputable def c_spec_l02Mag : Ctr := mkF t_spec_l02Mag ir85 [.bor]
theorem s_spec_l02Mag : Sound Try.prog 85 c_spec_l02Mag := mkF_sound _ rfl (snd_cons s_spec_l00In snd_nil) (by kernel_rfl : chkFn Try.prog 85 ir85 ir85_v = true)
theorem M_spec_l02Mag : c_spec_l02Mag.modes = [.bor] := rfl
theorem Fl_spec_l02Mag : c_spec_l02Mag.flat = true := rfl
attribute [go_sem] M_spec_l02Mag Fl_spec_l02Mag
attribute [go_sem] lk_spec_l02Mag_51
theorem Fs_spec_l02Mag {m : Int} {y_ : Bool} (h : spec_l02Mag m = some y_) : c_spec_l02Mag.F [.int .i64 m] = ⟨true, .bool y_, [.any]⟩ := by
  refine mkF_E rfl ?_
  dsimp only [spec_l02Mag] at h
  obtain ⟨y_1, hk1, h⟩ := bd_some h
  have fhk1 := Fs_spec_l00In hk1
  try simp only [go_sem] at fhk1
  obtain rfl := so_some h
  refine ⟨0, fun L hL => ?_⟩
  simp only [go_sem, ir85, fhk1]


def ir86_v : List Nat := [0, 2]
def ir86 : AFn := ⟨1, 2, .seq (.region false [
    ⟨.var 1, 2, none, .mov (.c (.bool false))⟩])
 (.seq (.region false [
    ⟨.push, 3, none, .mov (.v 0)⟩,
    ⟨.push, 4, none, .nilck (.s 0)⟩,
    ⟨.push, 5, none, .fldAddr 0 (.s 0)⟩,
    ⟨.push, 6, none, .load false 1 (.s 0)⟩,
    ⟨.push, 7, none, .call 84 [(.s 0)]⟩,
    ⟨.push, 8, none, .mov (.s 0)⟩,
    ⟨.push, 9, (some ((.s 0), true)), .mov (.v 0)⟩,
    ⟨.push, 10, (some ((.s 1), true)), .nilck (.s 0)⟩,
    ⟨.push, 11, (some ((.s 2), true)), .fldAddr 1 (.s 0)⟩,
    ⟨.push, 12, (some ((.s 3), true)), .load false 1 (.s 0)⟩,
    ⟨.push, 13, (some ((.s 4), true)), .call 119 [(.s 0)]⟩,
    ⟨.push, 14, none, .pick (.s 5) (.s 0) (.c (.bool false))⟩,
    ⟨.push, 15, none, .mov (.s 0)⟩,
    ⟨.push, 16, (some ((.s 0), true)), .mov (.v 0)⟩,
    ⟨.push, 17, (some ((.s 1), true)), .nilck (.s 0)⟩,
    ⟨.push, 18, (some ((.s 2), true)), .fldAddr 2 (.s 0)⟩,
    ⟨.push, 19, (some ((.s 3), true)), .load false 1 (.s 0)⟩,
    ⟨.push, 20, (some ((.s 4), true)), .call 119 [(.s 0)]⟩,
    ⟨.push, 21, none, .pick (.s 5) (.s 0) (.c (.bool false))⟩,
    ⟨.push, 22, none, .mov (.s 0)⟩,
    ⟨.push, 23, (some ((.s 0), true)), .mov (.v 0)⟩,
    ⟨.push, 24, (some ((.s 1), true)), .nilck (.s 0)⟩,
    ⟨.push, 25, (some ((.s 2), true)), .fldAddr 3 (.s 0)⟩,
    ⟨.push, 26, (some ((.s 3), true)), .load false 1 (.s 0)⟩,
    ⟨.push, 27, (some ((.s 4), true)), .call 85 [(.s 0)]⟩,
    ⟨.push, 28, none, .pick (.s 5) (.s 0) (.c (.bool false))⟩,
    ⟨.var 1, 2, none, .mov (.s 0)⟩])
 (.ret)), [.t 1]⟩
noncomputable def t_spec_l06One : List (Nat × Ctr) := [(84, c_spec_l06Time), (119, c_spec_IsName), (85, c_spec_l02Mag)]
theorem lk_spec_l06One_84 : look t_spec_l06One 84 = some c_spec_l06Time := rfl
theorem lk_spec_l06One_119 : look t_spec_l06One 119 = some c_spec_IsName := rfl
theorem lk_spec_l06One_85 : look t_spec_l06One 85 = some c_spec_l02Mag := rfl
noncomputable def c_spec_l06One : Ctr := mkF t_spec_l06One ir86 [.bor]
theorem s_spec_l06One : Sound Try.prog 86 c_spec_l06One := mkF_sound _ rfl (snd_cons s_spec_l06Time (snd_cons s_spec_IsName (snd_cons s_spec_l02Mag snd_nil))) (by kernel_rfl : chkFn Try.prog 86 ir86 ir86_v = true)
theorem M_spec_l06One : c_spec_l06One.modes = [.bor] := rfl
theorem Fl_spec_l06One : c_spec_l06One.flat = true := rfl
attribute [go_sem] M_spec_l06One Fl_spec_l06One
attribute [go_sem] lk_spec_l06One_84 lk_spec_l06One_119 lk_spec_l06One_85
theorem Fs_spec_l06One {e_ : Estimate} {y_ : Bool} (h : spec_l06One e_ = some y_) : c_spec_l06One.F [.ptr 5 [Estimate_av e_] 0 0] = ⟨true, .bool y_, [.any]⟩ := by
  refine mkF_E rfl ?_
  dsimp only [spec_l06One] at h
  obtain ⟨y_1, hk1, h⟩ := bd_some h
  have fhk1 := Fs_spec_l06Time hk1
  try simp only [go_sem] at fhk1
  obtain ⟨hk2, h⟩ := ck_some h
  rcases or_split hk2 with ⟨ghk2, hk2⟩ | ghk2
  · try simp only [go_sem, n1, n2, n3, n4] at ghk2
    all_goals
    obtain ⟨y_2, hhk2⟩ := Option.isSome_iff_exists.1 hk2
    have fhk2 := Fs_spec_IsName hhk2
    try simp only [go_sem] at fhk2
    obtain ⟨hk3, h⟩ := ck_some h
    rcases or_split hk3 with ⟨ghk3, hk3⟩ | ghk3
    · try simp only [go_sem, n1, n2, n3, n4, ghk2, hhk2] at ghk3
      all_goals
      obtain ⟨y_3, hhk3⟩ := Option.isSome_iff_exists.1 hk3
      have fhk3 := Fs_spec_IsName hhk3
      try simp only [go_sem] at fhk3
      obtain ⟨hk4, h⟩ := ck_some h
      rcases or_split hk4 with ⟨ghk4, hk4⟩ | ghk4
      · try simp only [go_sem, n1, n2, n3, n4, ghk2, hhk2, ghk3, hhk3] at ghk4
        all_goals
        obtain ⟨y_4, hhk4⟩ := Option.isSome_iff_exists.1 hk4
        have fhk4 := Fs_spec_l02Mag hhk4
        try simp only [go_sem] at fhk4
        obtain rfl := so_some h
        refine ⟨0, fun L hL => ?_⟩
        simp only [go_sem, ir86, fhk1, ghk2, hhk2, fhk2, ghk3, hhk3, fhk3, ghk4, hhk4, fhk4]
      · rcases and_f ghk4 with ghk4a | ⟨ghk4a, ghk4b⟩
        · rcases and_f ghk4a with ghk4aa | ⟨ghk4aa, ghk4ab⟩
          · try simp only [go_sem, n1, n2, n3, n4, ghk2, hhk2, ghk3, hhk3] at ghk4aa
            all_goals
            obtain rfl := so_some h
            refine ⟨0, fun L hL => ?_⟩
            simp only [go_sem, ir86, fhk1, ghk2, hhk2, fhk2, ghk3, hhk3, fhk3, ghk4aa]
          · try simp only [go_sem, n1, n2, n3, n4, ghk2, hhk2, ghk3, hhk3] at ghk4aa
            all_goals
            try simp only [go_sem, n1, n2, n3, n4, ghk2, hhk2, ghk3, hhk3, ghk4aa] at ghk4ab
            all_goals
            obtain rfl := so_some h
            refine ⟨0, fun L hL => ?_⟩
            simp only [go_sem, ir86, fhk1, ghk2, hhk2, fhk2, ghk3, hhk3, fhk3, ghk4aa, ghk4ab]
        · obtain ⟨ghk4aa, ghk4ab⟩ := and_t ghk4a
          try simp only [go_sem, n1, n2, n3, n4, ghk2, hhk2, ghk3, hhk3] at ghk4aa
          all_goals
          try simp only [go_sem, n1, n2, n3, n4, ghk2, hhk2, ghk3, hhk3, ghk4aa] at ghk4ab
          all_goals
          try simp only [go_sem, n1, n2, n3, n4, ghk2, hhk2, ghk3, hhk3, ghk4aa, ghk4ab] at ghk4b
          all_goals
          obtain rfl := so_some h
          refine ⟨0, fun L hL => ?_⟩
          simp only [go_sem, ir86, fhk1, ghk2, hhk2, fhk2, ghk3, hhk3, fhk3, ghk4aa, ghk4ab, ghk4b]
    · rcases and_f ghk3 with ghk3a | ⟨ghk3a, ghk3b⟩
      · try simp only [go_sem, n1, n2, n3, n4, ghk2, hhk2] at ghk3a
        all_goals
        obtain ⟨hk4, h⟩ := ck_some h
        rcases or_split hk4 with ⟨ghk4, hk4⟩ | ghk4
        · try simp only [go_sem, n1, n2, n3, n4, ghk2, hhk2, ghk3a] at ghk4
          all_goals
          obtain ⟨y_4, hhk4⟩ := Option.isSome_iff_exists.1 hk4
          have fhk4 := Fs_spec_l02Mag hhk4
          try simp only [go_sem] at fhk4
          obtain rfl := so_some h
          refine ⟨0, fun L hL => ?_⟩
          simp only [go_sem, ir86, fhk1, ghk2, hhk2, fhk2, ghk3a, ghk4, hhk4, fhk4]
        · rcases and_f ghk4 with ghk4a | ⟨ghk4a, ghk4b⟩
          · rcases and_f ghk4a with ghk4aa | ⟨ghk4aa, ghk4ab⟩
            · try simp only [go_sem, n1, n2, n3, n4, ghk2, hhk2, ghk3a] at ghk4aa
              all_goals
              obtain rfl := so_some h
              refine ⟨0, fun L hL => ?_⟩
              simp only [go_sem, ir86, fhk1, ghk2, hhk2, fhk2, ghk3a, ghk4aa]
            · try simp only [go_sem, n1, n2, n3, n4, ghk2, hhk2, ghk3a] at ghk4aa
              all_goals
              try simp only [go_sem, n1, n2, n3, n4, ghk2, hhk2, ghk3a, ghk4aa] at ghk4ab
              all_goals
              obtain rfl := so_some h
              refine ⟨0, fun L hL => ?_⟩
              simp only [go_sem, ir86, fhk1, ghk2, hhk2, fhk2, ghk3a, ghk4aa, ghk4ab]
          · obtain ⟨ghk4aa, ghk4ab⟩ := and_t ghk4a
            try simp only [go_sem, n1, n2, n3, n4, ghk2, hhk2, ghk3a] at ghk4aa
            all_goals
            try simp only [go_sem, n1, n2, n3, n4, ghk2, hhk2, ghk3a, ghk4aa] at ghk4ab
            all_goals
            try simp only [go_sem, n1, n2, n3, n4, ghk2, hhk2, ghk3a, ghk4aa, ghk4ab] at ghk4b
            all_goals
            obtain rfl := so_some h
            refine ⟨0, fun L hL => ?_⟩
            simp only [go_sem, ir86, fhk1, ghk2, hhk2, fhk2, ghk3a, ghk4aa, ghk4ab, ghk4b]
      · try simp only [go_sem, n1, n2, n3, n4, ghk2, hhk2] at ghk3a
        all_goals
        try simp only [go_sem, n1, n2, n3, n4, ghk2, hhk2, ghk3a] at ghk3b
        all_goals
        obtain ⟨hk4, h⟩ := ck_some h
        rcases or_split hk4 with ⟨ghk4, hk4⟩ | ghk4
        · try simp only [go_sem, n1, n2, n3, n4, ghk2, hhk2, ghk3a, ghk3b] at ghk4
          all_goals
          obtain ⟨y_4, hhk4⟩ := Option.isSome_iff_exists.1 hk4
          have fhk4 := Fs_spec_l02Mag hhk4
          try simp only [go_sem] at fhk4
          obtain rfl := so_some h
          refine ⟨0, fun L hL => ?_⟩
          simp only [go_sem, ir86, fhk1, ghk2, hhk2, fhk2, ghk3a, ghk3b, ghk4, hhk4, fhk4]
        · rcases and_f ghk4 with ghk4a | ⟨ghk4a, ghk4b⟩
          · rcases and_f ghk4a with ghk4aa | ⟨ghk4aa, ghk4ab⟩
            · try simp only [go_sem, n1, n2, n3, n4, ghk2, hhk2, ghk3a, ghk3b] at ghk4aa
              all_goals
              obtain rfl := so_some h
              refine ⟨0, fun L hL => ?_⟩
              simp only [go_sem, ir86, fhk1, ghk2, hhk2, fhk2, ghk3a, ghk3b, ghk4aa]
            · try simp only [go_sem, n1, n2, n3, n4, ghk2, hhk2, ghk3a, ghk3b] at ghk4aa
              all_goals
              try simp only [go_sem, n1, n2, n3, n4, ghk2, hhk2, ghk3a, ghk3b, ghk4aa] at ghk4ab
              all_goals
              obtain rfl := so_some h
              refine ⟨0, fun L hL => ?_⟩
              simp only [go_sem, ir86, fhk1, ghk2, hhk2, fhk2, ghk3a, ghk3b, ghk4aa, ghk4ab]
          · obtain ⟨ghk4aa, ghk4ab⟩ := and_t ghk4a
            try simp only [go_sem, n1, n2, n3, n4, ghk2, hhk2, ghk3a, ghk3b] at ghk4aa
            all_goals
            try simp only [go_sem, n1, n2, n3, n4, ghk2, hhk2, ghk3a, ghk3b, ghk4aa] at ghk4ab
            all_goals
            try simp only [go_sem, n1, n2, n3, n4, ghk2, hhk2, ghk3a, ghk3b, ghk4aa, ghk4ab] at ghk4b
            all_goals
            obtain rfl := so_some h
            refine ⟨0, fun L hL => ?_⟩
            simp only [go_sem, ir86, fhk1, ghk2, hhk2, fhk2, ghk3a, ghk3b, ghk4aa, ghk4ab, ghk4b]
  · try simp only [go_sem, n1, n2, n3, n4] at ghk2
    all_goals
    obtain ⟨hk3, h⟩ := ck_some h
    rcases or_split hk3 with ⟨ghk3, hk3⟩ | ghk3
    · try simp only [go_sem, n1, n2, n3, n4, ghk2] at ghk3
      all_goals
      obtain ⟨y_3, hhk3⟩ := Option.isSome_iff_exists.1 hk3
      have fhk3 := Fs_spec_IsName hhk3
      try simp only [go_sem] at fhk3
      obtain ⟨hk4, h⟩ := ck_some h
      rcases or_split hk4 with ⟨ghk4, hk4⟩ | ghk4
      · try simp only [go_sem, n1, n2, n3, n4, ghk2, ghk3, hhk3] at ghk4
        all_goals
        obtain ⟨y_4, hhk4⟩ := Option.isSome_iff_exists.1 hk4
        have fhk4 := Fs_spec_l02Mag hhk4
        try simp only [go_sem] at fhk4
        obtain rfl := so_some h
        refine ⟨0, fun L hL => ?_⟩
        simp only [go_sem, ir86, fhk1, ghk2, ghk3, hhk3, fhk3, ghk4, hhk4, fhk4]
      · rcases and_f ghk4 with ghk4a | ⟨ghk4a, ghk4b⟩
        · rcases and_f ghk4a with ghk4aa | ⟨ghk4aa, ghk4ab⟩
          · try simp only [go_sem, n1, n2, n3, n4, ghk2, ghk3, hhk3] at ghk4aa
            all_goals
            obtain rfl := so_some h
            refine ⟨0, fun L hL => ?_⟩
            simp only [go_sem, ir86, fhk1, ghk2, ghk3, hhk3, fhk3, ghk4aa]
          · try simp only [go_sem, n1, n2, n3, n4, ghk2, ghk3, hhk3] at ghk4aa
            all_goals
            try simp only [go_sem, n1, n2, n3, n4, ghk2, ghk3, hhk3, ghk4aa] at ghk4ab
            all_goals
            obtain rfl := so_some h
            refine ⟨0, fun L hL => ?_⟩
            simp only [go_sem, ir86, fhk1, ghk2, ghk3, hhk3, fhk3, ghk4aa, ghk4ab]
        · obtain ⟨ghk4aa, ghk4ab⟩ := and_t ghk4a
          try simp only [go_sem, n1, n2, n3, n4, ghk2, ghk3, hhk3] at ghk4aa
          all_goals
          try simp only [go_sem, n1, n2, n3, n4, ghk2, ghk3, hhk3, ghk4aa] at ghk4ab
          all_goals
          try simp only [go_sem, n1, n2, n3, n4, ghk2, ghk3, hhk3, ghk4aa, ghk4ab] at ghk4b
          all_goals
          obtain rfl := so_some h
          refine ⟨0, fun L hL => ?_⟩
          simp only [go_sem, ir86, fhk1, ghk2, ghk3, hhk3, fhk3, ghk4aa, ghk4ab, ghk4b]
    · rcases and_f ghk3 with ghk3a | ⟨ghk3a, ghk3b⟩
      · try simp only [go_sem, n1, n2, n3, n4, ghk2] at ghk3a
        all_goals
        obtain ⟨hk4, h⟩ := ck_some h
        rcases or_split hk4 with ⟨ghk4, hk4⟩ | ghk4
        · try simp only [go_sem, n1, n2, n3, n4, ghk2, ghk3a] at ghk4
          all_goals
          obtain ⟨y_4, hhk4⟩ := Option.isSome_iff_exists.1 hk4
          have fhk4 := Fs_spec_l02Mag hhk4
          try simp only [go_sem] at fhk4
          obtain rfl := so_some h
          refine ⟨0, fun L hL => ?_⟩
          simp only [go_sem, ir86, fhk1, ghk2, ghk3a, ghk4, hhk4, fhk4]
        · rcases and_f ghk4 with ghk4a | ⟨ghk4a, ghk4b⟩
          · rcases and_f ghk4a with ghk4aa | ⟨ghk4aa, ghk4ab⟩
            · try simp only [go_sem, n1, n2, n3, n4, ghk2, ghk3a] at ghk4aa
              all_goals
              obtain rfl := so_some h
              refine ⟨0, fun L hL => ?_⟩
              simp only [go_sem, ir86, fhk1, ghk2, ghk3a, ghk4aa]
            · try simp only [go_sem, n1, n2, n3, n4, ghk2, ghk3a] at ghk4aa
              all_goals
              try simp only [go_sem, n1, n2, n3, n4, ghk2, ghk3a, ghk4aa] at ghk4ab
              all_goals
              obtain rfl := so_some h
              refine ⟨0, fun L hL => ?_⟩
              simp only [go_sem, ir86, fhk1, ghk2, ghk3a, ghk4aa, ghk4ab]
          · obtain ⟨ghk4aa, ghk4ab⟩ := and_t ghk4a
            try simp only [go_sem, n1, n2, n3, n4, ghk2, ghk3a] at ghk4aa
            all_goals
            try simp only [go_sem, n1, n2, n3, n4, ghk2, ghk3a, ghk4aa] at ghk4ab
            all_goals
            try simp only [go_sem, n1, n2, n3, n4, ghk2, ghk3a, ghk4aa, ghk4ab] at ghk4b
            all_goals
            obtain rfl := so_some h
            refine ⟨0, fun L hL => ?_⟩
            simp only [go_sem, ir86, fhk1, ghk2, ghk3a, ghk4aa, ghk4ab, ghk4b]
      · try simp only [go_sem, n1, n2, n3, n4, ghk2] at ghk3a
        all_goals
        try simp only [go_sem, n1, n2, n3, n4, ghk2, ghk3a] at ghk3b
        all_goals
        obtain ⟨hk4, h⟩ := ck_some h
        rcases or_split hk4 with ⟨ghk4, hk4⟩ | ghk4
        · try simp only [go_sem, n1, n2, n3, n4, ghk2, ghk3a, ghk3b] at ghk4
          all_goals
          obtain ⟨y_4, hhk4⟩ := Option.isSome_iff_exists.1 hk4
          have fhk4 := Fs_spec_l02Mag hhk4
          try simp only [go_sem] at fhk4
          obtain rfl := so_some h
          refine ⟨0, fun L hL => ?_⟩
          simp only [go_sem, ir86, fhk1, ghk2, ghk3a, ghk3b, ghk4, hhk4, fhk4]
        · rcases and_f ghk4 with ghk4a | ⟨ghk4a, ghk4b⟩
          · rcases and_f ghk4a with ghk4aa | ⟨ghk4aa, ghk4ab⟩
            · try simp only [go_sem, n1, n2, n3, n4, ghk2, ghk3a, ghk3b] at ghk4aa
              all_goals
              obtain rfl := so_some h
              refine ⟨0, fun L hL => ?_⟩
              simp only [go_sem, ir86, fhk1, ghk2, ghk3a, ghk3b, ghk4aa]
            · try simp only [go_sem, n1, n2, n3, n4, ghk2, ghk3a, ghk3b] at ghk4aa
              all_goals
              try simp only [go_sem, n1, n2, n3, n4, ghk2, ghk3a, ghk3b, ghk4aa] at ghk4ab
              all_goals
              obtain rfl := so_some h
              refine ⟨0, fun L hL => ?_⟩
              simp only [go_sem, ir86, fhk1, ghk2, ghk3a, ghk3b, ghk4aa, ghk4ab]
          · obtain ⟨ghk4aa, ghk4ab⟩ := and_t ghk4a
            try simp only [go_sem, n1, n2, n3, n4, ghk2, ghk3a, ghk3b] at ghk4aa
            all_goals
            try simp only [go_sem, n1, n2, n3, n4, ghk2, ghk3a, ghk3b, ghk4aa] at ghk4ab
            all_goals
            try simp only [go_sem, n1, n2, n3, n4, ghk2, ghk3a, ghk3b, ghk4aa, ghk4ab] at ghk4b
            all_goals
            obtain rfl := so_some h
            refine ⟨0, fun L hL => ?_⟩
            simp only [go_sem, ir86, fhk1, ghk2, ghk3a, ghk3b, ghk4aa, ghk4ab, ghk4b]


def ir87_v : List Nat := [0, 1, 4]
def ir87 : AFn := ⟨2, 3, .seq (.region false [
    ⟨.var 2, 4, none, .mov (.c (.bool false))⟩])
 (.seq (.anyo 9 [
    ⟨.slot 0, 5, none, .mov (.v 0)⟩,
    ⟨.slot 1, 6, none, .nilck (.s 0)⟩,
    ⟨.slot 2, 7, none, .fldAddr 0 (.s 1)⟩,
    ⟨.slot 3, 8, none, .load false 1 (.s 2)⟩,
    ⟨.slot 4, 9, none, .mov (.v 1)⟩,
    ⟨.slot 5, 10, none, .nilck (.s 4)⟩,
    ⟨.slot 6, 11, none, .fldAddr 0 (.s 5)⟩,
    ⟨.slot 7, 12, none, .load false 1 (.s 6)⟩,
    ⟨.slot 8, 13, none, .bin false .neq (.s 3) (.s 7)⟩] [] (.cond (.s 8)
  (.seq (.anyo 9 [
      ⟨.slot 0, 14, none, .mov (.v 0)⟩,
      ⟨.slot 1, 15, none, .nilck (.s 0)⟩,
      ⟨.slot 2, 16, none, .fldAddr 0 (.s 1)⟩,
      ⟨.slot 3, 17, none, .load false 1 (.s 2)⟩,
      ⟨.slot 4, 18, none, .mov (.v 1)⟩,
      ⟨.slot 5, 19, none, .nilck (.s 4)⟩,
      ⟨.slot 6, 20, none, .fldAddr 0 (.s 5)⟩,
      ⟨.slot 7, 21, none, .load false 1 (.s 6)⟩,
      ⟨.slot 8, 22, none, .bin false .lss (.s 3) (.s 7)⟩,
      ⟨.var 2, 4, none, .mov (.s 8)⟩] [] .skip)
   (.ret))
  (.skip)))
 (.seq (.anyo 9 [
    ⟨.slot 0, 23, none, .mov (.v 0)⟩,
    ⟨.slot 1, 24, none, .nilck (.s 0)⟩,
    ⟨.slot 2, 25, none, .fldAddr 1 (.s 1)⟩,
    ⟨.slot 3, 26, none, .load false 1 (.s 2)⟩,
    ⟨.slot 4, 27, none, .mov (.v 1)⟩,
    ⟨.slot 5, 28, none, .nilck (.s 4)⟩,
    ⟨.slot 6, 29, none, .fldAddr 1 (.s 5)⟩,
    ⟨.slot 7, 30, none, .load false 1 (.s 6)⟩,
    ⟨.slot 8, 31, none, .bin false .neq (.s 3) (.s 7)⟩] [] (.cond (.s 8)
  (.seq (.anyo 9 [
      ⟨.slot 0, 32, none, .mov (.v 0)⟩,
      ⟨.slot 1, 33, none, .nilck (.s 0)⟩,
      ⟨.slot 2, 34, none, .fldAddr 1 (.s 1)⟩,
      ⟨.slot 3, 35, none, .load false 1 (.s 2)⟩,
      ⟨.slot 4, 36, none, .mov (.v 1)⟩,
      ⟨.slot 5, 37, none, .nilck (.s 4)⟩,
      ⟨.slot 6, 38, none, .fldAddr 1 (.s 5)⟩,
      ⟨.slot 7, 39, none, .load false 1 (.s 6)⟩,
      ⟨.slot 8, 40, none, .bin false .lss (.s 3) (.s 7)⟩,
      ⟨.var 2, 4, none, .mov (.s 8)⟩] [] .skip)
   (.ret))
  (.skip)))
 (.seq (.anyo 9 [
    ⟨.slot 0, 41, none, .mov (.v 0)⟩,
    ⟨.slot 1, 42, none, .nilck (.s 0)⟩,
    ⟨.slot 2, 43, none, .fldAddr 2 (.s 1)⟩,
    ⟨.slot 3, 44, none, .load false 1 (.s 2)⟩,
    ⟨.slot 4, 45, none, .mov (.v 1)⟩,
    ⟨.slot 5, 46, none, .nilck (.s 4)⟩,
    ⟨.slot 6, 47, none, .fldAddr 2 (.s 5)⟩,
    ⟨.slot 7, 48, none, .load false 1 (.s 6)⟩,
    ⟨.slot 8, 49, none, .bin false .lss (.s 3) (.s 7)⟩,
    ⟨.var 2, 4, none, .mov (.s 8)⟩] [] .skip)
 (.ret)))), [.t 2]⟩
noncomputable def t_spec_l06Before : List (Nat × Ctr) := []
noncomputable def c_spec_l06Before : Ctr := mkF t_spec_l06Before ir87 [.bor, .bor]
theorem s_spec_l06Before : Sound Try.prog 87 c_spec_l06Before := mkF_sound _ rfl snd_nil (by kernel_rfl : chkFn Try.prog 87 ir87 ir87_v = true)
theorem M_spec_l06Before : c_spec_l06Before.modes = [.bor, .bor] := rfl
theorem Fl_spec_l06Before : c_spec_l06Before.flat = true := rfl
attribute [go_sem] M_spec_l06Before Fl_spec_l06Before
theorem Fs_spec_l06Before {a : Estimate} {b : Estimate} {y_ : Bool} (h : spec_l06Before a b = some y_) : c_spec_l06Before.F [.ptr 5 [Estimate_av a] 0 0, .ptr 5 [Estimate_av b] 0 0] = ⟨true, .bool y_, [.any, .any]⟩ := by
  refine mkF_E rfl ?_
  dsimp only [spec_l06Before] at h
  rcases it_some h with ⟨hk1, h⟩ | ⟨hk1, h⟩
  · try simp only [go_sem, n1, n2, n3, n4] at hk1
    all_goals
    obtain rfl := so_some h
    refine ⟨0, fun L hL => ?_⟩
    simp only [go_sem, ir87, hk1]
  · try simp only [go_sem, n1, n2, n3, n4] at hk1
    all_goals
    rcases it_some h with ⟨hk2, h⟩ | ⟨hk2, h⟩
    · try simp only [go_sem, n1, n2, n3, n4, hk1] at hk2
      all_goals
      obtain rfl := so_some h
      refine ⟨0, fun L hL => ?_⟩
      simp only [go_sem, ir87, hk1, hk2]
    · try simp only [go_sem, n1, n2, n3, n4, hk1] at hk2
      all_goals
      obtain rfl := so_some h
      refine ⟨0, fun L hL => ?_⟩
      simp only [go_sem, ir87, hk1, hk2]


def ir50_b0 : IR := .seq (.test false [
    ⟨.push, 4, none, .mov (.v 2)⟩,
    ⟨.push, 5, none, .mov (.v 0)⟩,
    ⟨.push, 6, none, .len false (.s 0)⟩,
    ⟨.push, 7, none, .bin false .lss (.s 2) (.s 0)⟩] (.s 0)
  (.skip)
  (.exit 0))
 (.seq (.block 1 (.anyo 20 [
     ⟨.slot 0, 10, none, .mov (.v 0)⟩,
     ⟨.slot 1, 11, none, .mov (.v 2)⟩,
     ⟨.slot 2, 12, none, .ixAddr 5 (.s 0) (.s 1)⟩,
     ⟨.slot 3, 13, none, .callp 86 [(.s 2)]⟩,
     ⟨.slot 4, 14, none, .un .not (.s 3)⟩,
     ⟨.slot 5, 15, none, .mov (.s 4)⟩,
     ⟨.slot 6, 16, (some ((.s 5), false)), .mov (.v 2)⟩,
     ⟨.slot 7, 17, (some ((.s 5), false)), .bin false .gtr (.s 6) (.c (.int .i64 (0)))⟩,
     ⟨.slot 8, 18, (some ((.s 5), false)), .mov (.s 7)⟩,
     ⟨.slot 9, 19, (some ((.s 8), true)), .mov (.v 0)⟩,
     ⟨.slot 10, 20, (some ((.s 8), true)), .mov (.v 2)⟩,
     ⟨.slot 11, 21, (some ((.s 8), true)), .bin false .sub (.s 10) (.c (.int .i64 (1)))⟩,
     ⟨.slot 12, 22, (some ((.s 8), true)), .ixAddr 5 (.s 9) (.s 11)⟩,
     ⟨.slot 13, 23, (some ((.s 8), true)), .mov (.v 0)⟩,
     ⟨.slot 14, 24, (some ((.s 8), true)), .mov (.v 2)⟩,
     ⟨.slot 15, 25, (some ((.s 8), true)), .ixAddr 5 (.s 13) (.s 14)⟩,
     ⟨.slot 16, 26, (some ((.s 8), true)), .call 87 [(.s 12), (.s 15)]⟩,
     ⟨.slot 17, 27, (some ((.s 8), true)), .un .not (.s 16)⟩,
     ⟨.slot 18, 28, (some ((.s 5), false)), .pick (.s 8) (.s 17) (.c (.bool false))⟩,
     ⟨.slot 19, 29, none, .pick (.s 5) (.c (.bool true)) (.s 18)⟩] [] (.cond (.s 19)
   (.seq (.region false [
       ⟨.var 1, 2, none, .mov (.c (.bool false))⟩])
    (.ret))
   (.skip))))
 (.region false [
   ⟨.push, 8, none, .mov (.v 2)⟩,
   ⟨.push, 9, none, .bin false .add (.s 0) (.c (.int .i64 (1)))⟩,
   ⟨.var 2, 3, none, .mov (.s 0)⟩]))
def ir50_k0 : List Bool := [true, false, true]
def ir50_o0 : List Bool := [true, false, false]
def ir50_r0 : List Bool := [false, true, false]
def ir50_v : List Nat := [0, 2, 3]
def ir50 : AFn := ⟨1, 3, .seq (.region false [
    ⟨.var 1, 2, none, .mov (.c (.bool false))⟩])
 (.seq (.seq (.region false [
     ⟨.var 2, 3, none, .mov (.c (.int .i64 (0)))⟩])
  (.block 0 (.loop ir50_k0 ir50_o0 ir50_r0 ir50_b0)))
 (.seq (.region false [
    ⟨.push, 30, none, .mov (.v 0)⟩,
    ⟨.push, 31, none, .len false (.s 0)⟩,
    ⟨.push, 32, none, .bin false .leq (.s 0) (.c (.int .i64 (100)))⟩,
    ⟨.var 1, 2, none, .mov (.s 0)⟩])
 (.ret))), [.t 1]⟩
noncomputable def t_spec_l06Ok : List (Nat × Ctr) := [(86, c_spec_l06One), (87, c_spec_l06Before)]
theorem lk_spec_l06Ok_86 : look t_spec_l06Ok 86 = some c_spec_l06One := rfl
theorem lk_spec_l06Ok_87 : look t_spec_l06Ok 87 = some c_spec_l06Before := rfl
noncomputable def c_spec_l06Ok : Ctr := mkF t_spec_l06Ok ir50 [.bor]
theorem s_spec_l06Ok : Sound Try.prog 50 c_spec_l06Ok := mkF_sound _ rfl (snd_cons s_spec_l06One (snd_cons s_spec_l06Before snd_nil)) (by kernel_rfl : chkFn Try.prog 50 ir50 ir50_v = true)
theorem M_spec_l06Ok : c_spec_l06Ok.modes = [.bor] := rfl
theorem Fl_spec_l06Ok : c_spec_l06Ok.flat = true := rfl
attribute [go_sem] M_spec_l06Ok Fl_spec_l06Ok
attribute [go_sem] lk_spec_l06Ok_86 lk_spec_l06Ok_87
def E_spec_l06Ok_l1 (list : List Estimate) : Int → St
  | i => ⟨[.sl 5 (List.map Estimate_av list), .any, .int .i64 i], [], [], true⟩
def R_spec_l06Ok_l1 (list : List Estimate) : (Unit ⊕ Bool) → Res
  | .inl y => (.exit 0, ⟨[.sl 5 (List.map Estimate_av list), .any, .any], [], [], true⟩)
  | .inr y => (.ret, ⟨[.any, .bool y, .any], [], [], true⟩)
theorem spec_l06Ok_l1_ex {list : List Estimate} {sgm_ : Int} {rho_ : Unit ⊕ Bool} (h : whileE (spec_l06Ok_l1 list) sgm_ = some rho_) : ∃ L0, ∀ L, L0 ≤ L → iter (exec (look t_spec_l06Ok) L ir50_b0) ir50_k0 ir50_o0 ir50_r0 L (E_spec_l06Ok_l1 list sgm_) = R_spec_l06Ok_l1 list rho_ := by
  refine loop_ex (E := E_spec_l06Ok_l1 list) (R := R_spec_l06Ok_l1 list) (fun y => by first | (intro c; cases c) | (rcases y with y | y <;> (intro c; cases c)) | (rcases y with y | y | y <;> (intro c; cases c))) ?_ h
  clear h
  intro i o_ h
  dsimp only [spec_l06Ok_l1] at h
  rcases it_some h with ⟨hk1, h⟩ | ⟨hk1, h⟩
  · try simp only [go_sem, n1, n2, n3, n4] at hk1
    all_goals
    obtain ⟨hk2, h⟩ := ck_some h
    have lhk2 := ix_lt hk2
    have xhk2 := getD_mapD Estimate_av list lhk2
    try simp only [go_sem] at lhk2
    try simp only [go_sem] at xhk2
    try simp only [go_sem, n1, n2, n3, n4, hk1] at hk2
    all_goals
    obtain ⟨y_3, hk3, h⟩ := bd_some h
    have fhk3 := Fs_spec_l06One hk3
    try simp only [go_sem] at fhk3
    obtain ⟨hk4, h⟩ := ck_some h
    rcases or_split hk4 with ⟨ghk4, hk4⟩ | ghk4
    · try simp only [go_sem, n1, n2, n3, n4, hk1, hk2] at ghk4
      all_goals
      have lhk4 := ix_lt hk4
      have xhk4 := getD_mapD Estimate_av list lhk4
      try simp only [go_sem] at lhk4
      try simp only [go_sem] at xhk4
      try simp only [go_sem, n1, n2, n3, n4, hk1, hk2, ghk4] at hk4
      all_goals
      obtain ⟨hk5, h⟩ := ck_some h
      rcases or_split hk5 with ⟨ghk5, hk5⟩ | ghk5
      · try simp only [go_sem, n1, n2, n3, n4, hk1, hk2, ghk4, hk4] at ghk5
        all_goals
        obtain ⟨y_5, hhk5⟩ := Option.isSome_iff_exists.1 hk5
        have fhk5 := Fs_spec_l06Before hhk5
        try simp only [go_sem] at fhk5
        rcases it_some h with ⟨hk6, h⟩ | ⟨hk6, h⟩
        · try simp only [go_sem, n1, n2, n3, n4, hk1, hk2, ghk4, hk4, ghk5, hhk5] at hk6
          all_goals
          obtain rfl := so_some h
          refine ⟨0, fun L hL => ?_⟩
          simp only [go_sem, ir50, E_spec_l06Ok_l1, R_spec_l06Ok_l1, ir50_b0, ir50_k0, ir50_o0, ir50_r0, hk1, hk2, lhk2, xhk2, fhk3, ghk4, hk4, lhk4, xhk4, ghk5, hhk5, fhk5, hk6]
        · try simp only [go_sem, n1, n2, n3, n4, hk1, hk2, ghk4, hk4, ghk5, hhk5] at hk6
          all_goals
          obtain rfl := so_some h
          refine ⟨0, fun L hL => ?_⟩
          simp only [go_sem, ir50, E_spec_l06Ok_l1, R_spec_l06Ok_l1, ir50_b0, ir50_k0, ir50_o0, ir50_r0, hk1, hk2, lhk2, xhk2, fhk3, ghk4, hk4, lhk4, xhk4, ghk5, hhk5, fhk5, hk6]
      · rcases and_f ghk5 with ghk5a | ⟨ghk5a, ghk5b⟩
        · have ghk5an := no_f ghk5a
          have ghk5ann := no_t ghk5an
          try simp only [go_sem, n1, n2, n3, n4, hk1, hk2, ghk4, hk4] at ghk5ann
          all_goals
          rcases it_some h with ⟨hk6, h⟩ | ⟨hk6, h⟩
          · try simp only [go_sem, n1, n2, n3, n4, hk1, hk2, ghk4, hk4, ghk5ann] at hk6
            all_goals
            obtain rfl := so_some h
            refine ⟨0, fun L hL => ?_⟩
            simp only [go_sem, ir50, E_spec_l06Ok_l1, R_spec_l06Ok_l1, ir50_b0, ir50_k0, ir50_o0, ir50_r0, hk1, hk2, lhk2, xhk2, fhk3, ghk4, hk4, lhk4, xhk4, ghk5ann, hk6]
          · try simp only [go_sem, n1, n2, n3, n4, hk1, hk2, ghk4, hk4, ghk5ann] at hk6
            all_goals
            obtain rfl := so_some h
            refine ⟨0, fun L hL => ?_⟩
            simp only [go_sem, ir50, E_spec_l06Ok_l1, R_spec_l06Ok_l1, ir50_b0, ir50_k0, ir50_o0, ir50_r0, hk1, hk2, lhk2, xhk2, fhk3, ghk4, hk4, lhk4, xhk4, ghk5ann, hk6]
        · have ghk5an := no_t ghk5a
          have ghk5ann := no_f ghk5an
          try simp only [go_sem, n1, n2, n3, n4, hk1, hk2, ghk4, hk4] at ghk5ann
          all_goals
          try simp only [go_sem, n1, n2, n3, n4, hk1, hk2, ghk4, hk4, ghk5ann] at ghk5b
          all_goals
          rcases it_some h with ⟨hk6, h⟩ | ⟨hk6, h⟩
          · try simp only [go_sem, n1, n2, n3, n4, hk1, hk2, ghk4, hk4, ghk5ann, ghk5b] at hk6
            all_goals
            obtain rfl := so_some h
            refine ⟨0, fun L hL => ?_⟩
            simp only [go_sem, ir50, E_spec_l06Ok_l1, R_spec_l06Ok_l1, ir50_b0, ir50_k0, ir50_o0, ir50_r0, hk1, hk2, lhk2, xhk2, fhk3, ghk4, hk4, lhk4, xhk4, ghk5ann, ghk5b, hk6]
          · try simp only [go_sem, n1, n2, n3, n4, hk1, hk2, ghk4, hk4, ghk5ann, ghk5b] at hk6
            all_goals
            obtain rfl := so_some h
            refine ⟨0, fun L hL => ?_⟩
            simp only [go_sem, ir50, E_spec_l06Ok_l1, R_spec_l06Ok_l1, ir50_b0, ir50_k0, ir50_o0, ir50_r0, hk1, hk2, lhk2, xhk2, fhk3, ghk4, hk4, lhk4, xhk4, ghk5ann, ghk5b, hk6]
    · rcases and_f ghk4 with ghk4a | ⟨ghk4a, ghk4b⟩
      · have ghk4an := no_f ghk4a
        have ghk4ann := no_t ghk4an
        try simp only [go_sem, n1, n2, n3, n4, hk1, hk2] at ghk4ann
        all_goals
        obtain ⟨hk5, h⟩ := ck_some h
        rcases or_split hk5 with ⟨ghk5, hk5⟩ | ghk5
        · try simp only [go_sem, n1, n2, n3, n4, hk1, hk2, ghk4ann] at ghk5
          all_goals
          obtain ⟨y_5, hhk5⟩ := Option.isSome_iff_exists.1 hk5
          have fhk5 := Fs_spec_l06Before hhk5
          try simp only [go_sem] at fhk5
          rcases it_some h with ⟨hk6, h⟩ | ⟨hk6, h⟩
          · try simp only [go_sem, n1, n2, n3, n4, hk1, hk2, ghk4ann, ghk5, hhk5] at hk6
            all_goals
            obtain rfl := so_some h
            refine ⟨0, fun L hL => ?_⟩
            simp only [go_sem, ir50, E_spec_l06Ok_l1, R_spec_l06Ok_l1, ir50_b0, ir50_k0, ir50_o0, ir50_r0, hk1, hk2, lhk2, xhk2, fhk3, ghk4ann, ghk5, hhk5, fhk5, hk6]
          · try simp only [go_sem, n1, n2, n3, n4, hk1, hk2, ghk4ann, ghk5, hhk5] at hk6
            all_goals
            obtain rfl := so_some h
            refine ⟨0, fun L hL => ?_⟩
            simp only [go_sem, ir50, E_spec_l06Ok_l1, R_spec_l06Ok_l1, ir50_b0, ir50_k0, ir50_o0, ir50_r0, hk1, hk2, lhk2, xhk2, fhk3, ghk4ann, ghk5, hhk5, fhk5, hk6]
        · rcases and_f ghk5 with ghk5a | ⟨ghk5a, ghk5b⟩
          · have ghk5an := no_f ghk5a
            have ghk5ann := no_t ghk5an
            try simp only [go_sem, n1, n2, n3, n4, hk1, hk2, ghk4ann] at ghk5ann
            all_goals
            rcases it_some h with ⟨hk6, h⟩ | ⟨hk6, h⟩
            · try simp only [go_sem, n1, n2, n3, n4, hk1, hk2, ghk4ann, ghk5ann] at hk6
              all_goals
              obtain rfl := so_some h
              refine ⟨0, fun L hL => ?_⟩
              simp only [go_sem, ir50, E_spec_l06Ok_l1, R_spec_l06Ok_l1, ir50_b0, ir50_k0, ir50_o0, ir50_r0, hk1, hk2, lhk2, xhk2, fhk3, ghk4ann, ghk5ann, hk6]
            · try simp only [go_sem, n1, n2, n3, n4, hk1, hk2, ghk4ann, ghk5ann] at hk6
              all_goals
              obtain rfl := so_some h
              refine ⟨0, fun L hL => ?_⟩
              simp only [go_sem, ir50, E_spec_l06Ok_l1, R_spec_l06Ok_l1, ir50_b0, ir50_k0, ir50_o0, ir50_r0, hk1, hk2, lhk2, xhk2, fhk3, ghk4ann, ghk5ann, hk6]
          · have ghk5an := no_t ghk5a
            have ghk5ann := no_f ghk5an
            try simp only [go_sem, n1, n2, n3, n4, hk1, hk2, ghk4ann] at ghk5ann
            all_goals
            try simp only [go_sem, n1, n2, n3, n4, hk1, hk2, ghk4ann, ghk5ann] at ghk5b
            all_goals
            rcases it_some h with ⟨hk6, h⟩ | ⟨hk6, h⟩
            · try simp only [go_sem, n1, n2, n3, n4, hk1, hk2, ghk4ann, ghk5ann, ghk5b] at hk6
              all_goals
              obtain rfl := so_some h
              refine ⟨0, fun L hL => ?_⟩
              simp only [go_sem, ir50, E_spec_l06Ok_l1, R_spec_l06Ok_l1, ir50_b0, ir50_k0, ir50_o0, ir50_r0, hk1, hk2, lhk2, xhk2, fhk3, ghk4ann, ghk5ann, ghk5b, hk6]
            · try simp only [go_sem, n1, n2, n3, n4, hk1, hk2, ghk4ann, ghk5ann, ghk5b] at hk6
              all_goals
              obtain rfl := so_some h
              refine ⟨0, fun L hL => ?_⟩
              simp only [go_sem, ir50, E_spec_l06Ok_l1, R_spec_l06Ok_l1, ir50_b0, ir50_k0, ir50_o0, ir50_r0, hk1, hk2, lhk2, xhk2, fhk3, ghk4ann, ghk5ann, ghk5b, hk6]
      · have ghk4an := no_t ghk4a
        have ghk4ann := no_f ghk4an
        try simp only [go_sem, n1, n2, n3, n4, hk1, hk2] at ghk4ann
        all_goals
        try simp only [go_sem, n1, n2, n3, n4, hk1, hk2, ghk4ann] at ghk4b
        all_goals
        obtain ⟨hk5, h⟩ := ck_some h
        rcases or_split hk5 with ⟨ghk5, hk5⟩ | ghk5
        · try simp only [go_sem, n1, n2, n3, n4, hk1, hk2, ghk4ann, ghk4b] at ghk5
          all_goals
          obtain ⟨y_5, hhk5⟩ := Option.isSome_iff_exists.1 hk5
          have fhk5 := Fs_spec_l06Before hhk5
          try simp only [go_sem] at fhk5
          rcases it_some h with ⟨hk6, h⟩ | ⟨hk6, h⟩
          · try simp only [go_sem, n1, n2, n3, n4, hk1, hk2, ghk4ann, ghk4b, ghk5, hhk5] at hk6
            all_goals
            obtain rfl := so_some h
            refine ⟨0, fun L hL => ?_⟩
            simp only [go_sem, ir50, E_spec_l06Ok_l1, R_spec_l06Ok_l1, ir50_b0, ir50_k0, ir50_o0, ir50_r0, hk1, hk2, lhk2, xhk2, fhk3, ghk4ann, ghk4b, ghk5, hhk5, fhk5, hk6]
          · try simp only [go_sem, n1, n2, n3, n4, hk1, hk2, ghk4ann, ghk4b, ghk5, hhk5] at hk6
            all_goals
            obtain rfl := so_some h
            refine ⟨0, fun L hL => ?_⟩
            simp only [go_sem, ir50, E_spec_l06Ok_l1, R_spec_l06Ok_l1, ir50_b0, ir50_k0, ir50_o0, ir50_r0, hk1, hk2, lhk2, xhk2, fhk3, ghk4ann, ghk4b, ghk5, hhk5, fhk5, hk6]
        · rcases and_f ghk5 with ghk5a | ⟨ghk5a, ghk5b⟩
          · have ghk5an := no_f ghk5a
            have ghk5ann := no_t ghk5an
            try simp only [go_sem, n1, n2, n3, n4, hk1, hk2, ghk4ann, ghk4b] at ghk5ann
            all_goals
            rcases it_some h with ⟨hk6, h⟩ | ⟨hk6, h⟩
            · try simp only [go_sem, n1, n2, n3, n4, hk1, hk2, ghk4ann, ghk4b, ghk5ann] at hk6
              all_goals
              obtain rfl := so_some h
              refine ⟨0, fun L hL => ?_⟩
              simp only [go_sem, ir50, E_spec_l06Ok_l1, R_spec_l06Ok_l1, ir50_b0, ir50_k0, ir50_o0, ir50_r0, hk1, hk2, lhk2, xhk2, fhk3, ghk4ann, ghk4b, ghk5ann, hk6]
            · try simp only [go_sem, n1, n2, n3, n4, hk1, hk2, ghk4ann, ghk4b, ghk5ann] at hk6
              all_goals
              obtain rfl := so_some h
              refine ⟨0, fun L hL => ?_⟩
              simp only [go_sem, ir50, E_spec_l06Ok_l1, R_spec_l06Ok_l1, ir50_b0, ir50_k0, ir50_o0, ir50_r0, hk1, hk2, lhk2, xhk2, fhk3, ghk4ann, ghk4b, ghk5ann, hk6]
          · have ghk5an := no_t ghk5a
            have ghk5ann := no_f ghk5an
            try simp only [go_sem, n1, n2, n3, n4, hk1, hk2, ghk4ann, ghk4b] at ghk5ann
            all_goals
            try simp only [go_sem, n1, n2, n3, n4, hk1, hk2, ghk4ann, ghk4b, ghk5ann] at ghk5b
            all_goals
            rcases it_some h with ⟨hk6, h⟩ | ⟨hk6, h⟩
            · try simp only [go_sem, n1, n2, n3, n4, hk1, hk2, ghk4ann, ghk4b, ghk5ann, ghk5b] at hk6
              all_goals
              obtain rfl := so_some h
              refine ⟨0, fun L hL => ?_⟩
              simp only [go_sem, ir50, E_spec_l06Ok_l1, R_spec_l06Ok_l1, ir50_b0, ir50_k0, ir50_o0, ir50_r0, hk1, hk2, lhk2, xhk2, fhk3, ghk4ann, ghk4b, ghk5ann, ghk5b, hk6]
            · try simp only [go_sem, n1, n2, n3, n4, hk1, hk2, ghk4ann, ghk4b, ghk5ann, ghk5b] at hk6
              all_goals
              obtain rfl := so_some h
              refine ⟨0, fun L hL => ?_⟩
              simp only [go_sem, ir50, E_spec_l06Ok_l1, R_spec_l06Ok_l1, ir50_b0, ir50_k0, ir50_o0, ir50_r0, hk1, hk2, lhk2, xhk2, fhk3, ghk4ann, ghk4b, ghk5ann, ghk5b, hk6]
  · try simp only [go_sem, n1, n2, n3, n4] at hk1
    all_goals
    obtain rfl := so_some h
    refine ⟨0, fun L hL => ?_⟩
    simp only [go_sem, ir50, E_spec_l06Ok_l1, R_spec_l06Ok_l1, ir50_b0, ir50_k0, ir50_o0, ir50_r0, hk1]

theorem Fs_spec_l06Ok {list : List Estimate} {y_ : Bool} (h : spec_l06Ok list = some y_) : c_spec_l06Ok.F [.sl 5 (List.map Estimate_av list)] = ⟨true, .bool y_, [.any]⟩ := by
  refine mkF_E rfl ?_
  dsimp only [spec_l06Ok] at h
  obtain ⟨y_7, hk7, h⟩ := bd_some h
  obtain ⟨Lhk7, ehk7⟩ := spec_l06Ok_l1_ex hk7
  rcases y_7 with y_7a | y_7b
  · dsimp only at h
    obtain rfl := so_some h
    refine ⟨Lhk7, fun L hL => ?_⟩
    have ehk7 := ehk7 L (by omega)
    try simp only [go_sem, E_spec_l06Ok_l1, R_spec_l06Ok_l1, ir50_k0, ir50_o0, ir50_r0] at ehk7
    simp only [go_sem, ir50, E_spec_l06Ok_l1, R_spec_l06Ok_l1, ir50_k0, ir50_o0, ir50_r0, ehk7]
  · dsimp only at h
    obtain rfl := so_some h
    refine ⟨Lhk7, fun L hL => ?_⟩
    have ehk7 := ehk7 L (by omega)
    try simp only [go_sem, E_spec_l06Ok_l1, R_spec_l06Ok_l1, ir50_k0, ir50_o0, ir50_r0] at ehk7
    simp only [go_sem, ir50, E_spec_l06Ok_l1, R_spec_l06Ok_l1, ir50_k0, ir50_o0, ir50_r0, ehk7]


def ir120_v : List Nat := [0, 2]
def ir120 : AFn := ⟨1, 2, .seq (.region false [
    ⟨.var 1, 2, none, .mov (.c (.bool false))⟩])
 (.seq (.region false [
    ⟨.push, 3, none, .mov (.v 0)⟩,
    ⟨.push, 4, none, .call 51 [(.s 0), (.c (.int .i64 (1))), (.c (.int .i64 (5)))]⟩,
    ⟨.var 1, 2, none, .mov (.s 0)⟩])
 (.ret)), [.t 1]⟩
noncomputable def t_spec_l26Kind : List (Nat × Ctr) := [(51, c_spec_l00In)]
theorem lk_spec_l26Kind_51 : look t_spec_l26Kind 51 = some c_spec_l00In := rfl
noncomputable def c_spec_l26Kind : Ctr := mkF t_spec_l26Kind ir120 [.bor]
theorem s_spec_l26Kind : Sound Try.prog 120 c_spec_l26Kind := mkF_sound _ rfl (snd_cons s_spec_l00In snd_nil) (by kernel_rfl : chkFn Try.prog 120 ir120 ir120_v = true)
theorem M_spec_l26Kind : c_spec_l26Kind.modes = [.bor] := rfl
theorem Fl_spec_l26Kind : c_spec_l26Kind.flat = true := rfl
attribute [go_sem] M_spec_l26Kind Fl_spec_l26Kind
attribute [go_sem] lk_spec_l26Kind_51
theorem Fs_spec_l26Kind {n : Int} {y_ : Bool} (h : spec_l26Kind n = some y_) : c_spec_l26Kind.F [.int .i64 n] = ⟨true, .bool y_, [.any]⟩ := by
  refine mkF_E rfl ?_
  dsimp only [spec_l26Kind] at h
  obtain ⟨y_1, hk1, h⟩ := bd_some h
  have fhk1 := Fs_spec_l00In hk1
  try simp only [go_sem] at fhk1
  obtain rfl := so_some h
  refine ⟨0, fun L hL => ?_⟩
  simp only [go_sem, ir120, fhk1]


def ir89_b0 : IR := .seq (.test false [
    ⟨.push, 7, none, .mov (.v 3)⟩,
    ⟨.push, 8, none, .mov (.v 0)⟩,
    ⟨.push, 9, none, .len false (.s 0)⟩,
    ⟨.push, 10, none, .bin false .lss (.s 2) (.s 0)⟩] (.s 0)
  (.skip)
  (.exit 0))
 (.seq (.block 1 (.seq (.region false [
      ⟨.push, 13, none, .mov (.v 0)⟩,
      ⟨.push, 14, none, .mov (.v 3)⟩,
      ⟨.push, 15, none, .ixAddr 2 (.s 1) (.s 0)⟩,
      ⟨.var 4, 6, none, .mov (.s 0)⟩])
   (.seq (.test false [
      ⟨.push, 16, none, .mov (.v 4)⟩,
      ⟨.push, 17, none, .nilck (.s 0)⟩,
      ⟨.push, 18, none, .fldAddr 0 (.s 0)⟩,
      ⟨.push, 19, none, .load false 1 (.s 0)⟩,
      ⟨.push, 20, none, .mov (.v 1)⟩,
      ⟨.push, 21, none, .bin false .sub (.s 0) (.c (.int .i64 (1)))⟩,
      ⟨.push, 22, none, .call 51 [(.s 2), (.c (.int .i64 (0))), (.s 0)]⟩,
      ⟨.push, 23, none, .un .not (.s 0)⟩,
      ⟨.push, 24, none, .mov (.s 0)⟩,
      ⟨.push, 25, (some ((.s 0), false)), .mov (.v 4)⟩,
      ⟨.push, 26, (some ((.s 1), false)), .nilck (.s 0)⟩,
      ⟨.push, 27, (some ((.s 2), false)), .fldAddr 1 (.s 0)⟩,
      ⟨.push, 28, (some ((.s 3), false)), .load false 1 (.s 0)⟩,
      ⟨.push, 29, (some ((.s 4), false)), .call 120 [(.s 0)]⟩,
      ⟨.push, 30, (some ((.s 5), false)), .un .not (.s 0)⟩,
      ⟨.push, 31, none, .pick (.s 6) (.c (.bool true)) (.s 0)⟩] (.s 0)
    (.seq (.region false [
        ⟨.var 2, 4, none, .mov (.c (.bool false))⟩])
     (.ret))
    (.skip))
   (.anyo 41 [
     ⟨.slot 0, 32, none, .mov (.v 3)⟩,
     ⟨.slot 1, 33, none, .bin false .gtr (.s 0) (.c (.int .i64 (0)))⟩,
     ⟨.slot 2, 34, none, .mov (.s 1)⟩,
     ⟨.slot 3, 35, (some ((.s 2), true)), .mov (.v 0)⟩,
     ⟨.slot 4, 36, (some ((.s 2), true)), .mov (.v 3)⟩,
     ⟨.slot 5, 37, (some ((.s 2), true)), .bin false .sub (.s 4) (.c (.int .i64 (1)))⟩,
     ⟨.slot 6, 38, (some ((.s 2), true)), .ixAddr 2 (.s 3) (.s 5)⟩,
     ⟨.slot 7, 39, (some ((.s 2), true)), .fldAddr 0 (.s 6)⟩,
     ⟨.slot 8, 40, (some ((.s 2), true)), .load false 1 (.s 7)⟩,
     ⟨.slot 9, 41, (some ((.s 2), true)), .mov (.v 4)⟩,
     ⟨.slot 10, 42, (some ((.s 2), true)), .nilck (.s 9)⟩,
     ⟨.slot 11, 43, (some ((.s 2), true)), .fldAddr 0 (.s 10)⟩,
     ⟨.slot 12, 44, (some ((.s 2), true)), .load false 1 (.s 11)⟩,
     ⟨.slot 13, 45, (some ((.s 2), true)), .bin false .gtr (.s 8) (.s 12)⟩,
     ⟨.slot 14, 46, (some ((.s 2), true)), .mov (.s 13)⟩,
     ⟨.slot 15, 47, (some ((.s 14), false)), .mov (.v 0)⟩,
     ⟨.slot 16, 48, (some ((.s 14), false)), .mov (.v 3)⟩,
     ⟨.slot 17, 49, (some ((.s 14), false)), .bin false .sub (.s 16) (.c (.int .i64 (1)))⟩,
     ⟨.slot 18, 50, (some ((.s 14), false)), .ixAddr 2 (.s 15) (.s 17)⟩,
     ⟨.slot 19, 51, (some ((.s 14), false)), .fldAddr 0 (.s 18)⟩,
     ⟨.slot 20, 52, (some ((.s 14), false)), .load false 1 (.s 19)⟩,
     ⟨.slot 21, 53, (some ((.s 14), false)), .mov (.v 4)⟩,
     ⟨.slot 22, 54, (some ((.s 14), false)), .nilck (.s 21)⟩,
     ⟨.slot 23, 55, (some ((.s 14), false)), .fldAddr 0 (.s 22)⟩,
     ⟨.slot 24, 56, (some ((.s 14), false)), .load false 1 (.s 23)⟩,
     ⟨.slot 25, 57, (some ((.s 14), false)), .bin false .eql (.s 20) (.s 24)⟩,
     ⟨.slot 26, 58, (some ((.s 14), false)), .mov (.s 25)⟩,
     ⟨.slot 27, 59, (some ((.s 26), true)), .mov (.v 0)⟩,
     ⟨.slot 28, 60, (some ((.s 26), true)), .mov (.v 3)⟩,
     ⟨.slot 29, 61, (some ((.s 26), true)), .bin false .sub (.s 28) (.c (.int .i64 (1)))⟩,
     ⟨.slot 30, 62, (some ((.s 26), true)), .ixAddr 2 (.s 27) (.s 29)⟩,
     ⟨.slot 31, 63, (some ((.s 26), true)), .fldAddr 1 (.s 30)⟩,
     ⟨.slot 32, 64, (some ((.s 26), true)), .load false 1 (.s 31)⟩,
     ⟨.slot 33, 65, (some ((.s 26), true)), .mov (.v 4)⟩,
     ⟨.slot 34, 66, (some ((.s 26), true)), .nilck (.s 33)⟩,
     ⟨.slot 35, 67, (some ((.s 26), true)), .fldAddr 1 (.s 34)⟩,
     ⟨.slot 36, 68, (some ((.s 26), true)), .load false 1 (.s 35)⟩,
     ⟨.slot 37, 69, (some ((.s 26), true)), .bin false .geq (.s 32) (.s 36)⟩,
     ⟨.slot 38, 70, (some ((.s 14), false)), .pick (.s 26) (.s 37) (.c (.bool false))⟩,
     ⟨.slot 39, 71, (some ((.s 2), true)), .pick (.s 14) (.c (.bool true)) (.s 38)⟩,
     ⟨.slot 40, 72, none, .pick (.s 2) (.s 39) (.c (.bool false))⟩] [] (.cond (.s 40)
   (.seq (.region false [
       ⟨.var 2, 4, none, .mov (.c (.bool false))⟩])
    (.ret))
   (.skip))))))
 (.region false [
   ⟨.push, 11, none, .mov (.v 3)⟩,
   ⟨.push, 12, none, .bin false .add (.s 0) (.c (.int .i64 (1)))⟩,
   ⟨.var 3, 5, none, .mov (.s 0)⟩]))
def ir89_k0 : List Bool := [true, true, false, true, false]
def ir89_o0 : List Bool := [false, false, false, false, false]
def ir89_r0 : List Bool := [false, false, true, false, false]
def ir89_v : List Nat := [0, 1, 4, 5, 6]
def ir89 : AFn := ⟨2, 5, .seq (.region false [
    ⟨.var 2, 4, none, .mov (.c (.bool false))⟩])
 (.seq (.seq (.region false [
     ⟨.var 3, 5, none, .mov (.c (.int .i64 (0)))⟩])
  (.block 0 (.loop ir89_k0 ir89_o0 ir89_r0 ir89_b0)))
 (.seq (.region false [
    ⟨.var 2, 4, none, .mov (.c (.bool true))⟩])
 (.ret))), [.t 2]⟩
noncomputable def t_spec_l26Faults : List (Nat × Ctr) := [(51, c_spec_l00In), (120, c_spec_l26Kind)]
theorem lk_spec_l26Faults_51 : look t_spec_l26Faults 51 = some c_spec_l00In := rfl
theorem lk_spec_l26Faults_120 : look t_spec_l26Faults 120 = some c_spec_l26Kind := rfl
noncomputable def c_spec_l26Faults : Ctr := mkF t_spec_l26Faults ir89 [.bor, .bor]
theorem s_spec_l26Faults : Sound Try.prog 89 c_spec_l26Faults := mkF_sound _ rfl (snd_cons s_spec_l00In (snd_cons s_spec_l26Kind snd_nil)) (by kernel_rfl : chkFn Try.prog 89 ir89 ir89_v = true)
theorem M_spec_l26Faults : c_spec_l26Faults.modes = [.bor, .bor] := rfl
theorem Fl_spec_l26Faults : c_spec_l26Faults.flat = true := rfl
attribute [go_sem] M_spec_l26Faults Fl_spec_l26Faults
attribute [go_sem] lk_spec_l26Faults_51 lk_spec_l26Faults_120
def E_spec_l26Faults_l1 (faults : List Fault) (count : Int) : Int → St
  | i => ⟨[.sl 2 (List.map Fault_av faults), .int .i64 count, .any, .int .i64 i, .any], [], [], true⟩
def R_spec_l26Faults_l1 (faults : List Fault) (count : Int) : (Unit ⊕ Bool) → Res
  | .inl y => (.exit 0, ⟨[.any, .any, .any, .any, .any], [], [], true⟩)
  | .inr y => (.ret, ⟨[.any, .any, .bool y, .any, .any], [], [], true⟩)
theorem spec_l26Faults_l1_ex {faults : List Fault} {count : Int} {sgm_ : Int} {rho_ : Unit ⊕ Bool} (h : whileE (spec_l26Faults_l1 faults count) sgm_ = some rho_) : ∃ L0, ∀ L, L0 ≤ L → iter (exec (look t_spec_l26Faults) L ir89_b0) ir89_k0 ir89_o0 ir89_r0 L (E_spec_l26Faults_l1 faults count sgm_) = R_spec_l26Faults_l1 faults count rho_ := by
  refine loop_ex (E := E_spec_l26Faults_l1 faults count) (R := R_spec_l26Faults_l1 faults count) (fun y => by first | (intro c; cases c) | (rcases y with y | y <;> (intro c; cases c)) | (rcases y with y | y | y <;> (intro c; cases c))) ?_ h
  clear h
  intro i o_ h
  dsimp only [spec_l26Faults_l1] at h
  rcases it_some h with ⟨hk1, h⟩ | ⟨hk1, h⟩
  · try simp only [go_sem, n1, n2, n3, n4] at hk1
    all_goals
    obtain ⟨hk2, h⟩ := ck_some h
    have lhk2 := ix_lt hk2
    have xhk2 := getD_mapD Fault_av faults lhk2
    try simp only [go_sem] at lhk2
    try simp only [go_sem] at xhk2
    try simp only [go_sem, n1, n2, n3, n4, hk1] at hk2
    all_goals
    obtain ⟨y_3, hk3, h⟩ := bd_some h
    have fhk3 := Fs_spec_l00In hk3
    try simp only [go_sem] at fhk3
    obtain ⟨hk4, h⟩ := ck_some h
    rcases or_split hk4 with ⟨ghk4, hk4⟩ | ghk4
    · try simp only [go_sem, n1, n2, n3, n4, hk1, hk2] at ghk4
      all_goals
      obtain ⟨y_4, hhk4⟩ := Option.isSome_iff_exists.1 hk4
      have fhk4 := Fs_spec_l26Kind hhk4
      try simp only [go_sem] at fhk4
      rcases it_some h with ⟨hk5, h⟩ | ⟨hk5, h⟩
      · try simp only [go_sem, n1, n2, n3, n4, hk1, hk2, ghk4, hhk4] at hk5
        all_goals
        obtain rfl := so_some h
        refine ⟨0, fun L hL => ?_⟩
        simp only [go_sem, ir89, E_spec_l26Faults_l1, R_spec_l26Faults_l1, ir89_b0, ir89_k0, ir89_o0, ir89_r0, hk1, hk2, lhk2, xhk2, fhk3, ghk4, hhk4, fhk4, hk5]
      · try simp only [go_sem, n1, n2, n3, n4, hk1, hk2, ghk4, hhk4] at hk5
        all_goals
        obtain ⟨hk6, h⟩ := ck_some h
        rcases or_split hk6 with ⟨ghk6, hk6⟩ | ghk6
        · try simp only [go_sem, n1, n2, n3, n4, hk1, hk2, ghk4, hhk4, hk5] at ghk6
          all_goals
          have lhk6 := ix_lt hk6
          have xhk6 := getD_mapD Fault_av faults lhk6
          try simp only [go_sem] at lhk6
          try simp only [go_sem] at xhk6
          try simp only [go_sem, n1, n2, n3, n4, hk1, hk2, ghk4, hhk4, hk5, ghk6] at hk6
          all_goals
          obtain ⟨hk7, h⟩ := ck_some h
          rcases or_split hk7 with ⟨ghk7, hk7⟩ | ghk7
          · try simp only [go_sem, n1, n2, n3, n4, hk1, hk2, ghk4, hhk4, hk5, ghk6, hk6] at ghk7
            all_goals
            have lhk7 := ix_lt hk7
            have xhk7 := getD_mapD Fault_av faults lhk7
            try simp only [go_sem] at lhk7
            try simp only [go_sem] at xhk7
            try simp only [go_sem, n1, n2, n3, n4, hk1, hk2, ghk4, hhk4, hk5, ghk6, hk6, ghk7] at hk7
            all_goals
            obtain ⟨hk8, h⟩ := ck_some h
            rcases or_split hk8 with ⟨ghk8, hk8⟩ | ghk8
            · try simp only [go_sem, n1, n2, n3, n4, hk1, hk2, ghk4, hhk4, hk5, ghk6, hk6, ghk7, hk7] at ghk8
              all_goals
              have lhk8 := ix_lt hk8
              have xhk8 := getD_mapD Fault_av faults lhk8
              try simp only [go_sem] at lhk8
              try simp only [go_sem] at xhk8
              try simp only [go_sem, n1, n2, n3, n4, hk1, hk2, ghk4, hhk4, hk5, ghk6, hk6, ghk7, hk7, ghk8] at hk8
              all_goals
              rcases it_some h with ⟨hk9, h⟩ | ⟨hk9, h⟩
              · try simp only [go_sem, n1, n2, n3, n4, hk1, hk2, ghk4, hhk4, hk5, ghk6, hk6, ghk7, hk7, ghk8, hk8] at hk9
                all_goals
                obtain rfl := so_some h
                refine ⟨0, fun L hL => ?_⟩
                simp only [go_sem, ir89, E_spec_l26Faults_l1, R_spec_l26Faults_l1, ir89_b0, ir89_k0, ir89_o0, ir89_r0, hk1, hk2, lhk2, xhk2, fhk3, ghk4, hhk4, fhk4, hk5, ghk6, hk6, lhk6, xhk6, ghk7, hk7, lhk7, xhk7, ghk8, hk8, lhk8, xhk8, hk9]
              · try simp only [go_sem, n1, n2, n3, n4, hk1, hk2, ghk4, hhk4, hk5, ghk6, hk6, ghk7, hk7, ghk8, hk8] at hk9
                all_goals
                obtain rfl := so_some h
                refine ⟨0, fun L hL => ?_⟩
                simp only [go_sem, ir89, E_spec_l26Faults_l1, R_spec_l26Faults_l1, ir89_b0, ir89_k0, ir89_o0, ir89_r0, hk1, hk2, lhk2, xhk2, fhk3, ghk4, hhk4, fhk4, hk5, ghk6, hk6, lhk6, xhk6, ghk7, hk7, lhk7, xhk7, ghk8, hk8, lhk8, xhk8, hk9]
            · rcases and_f ghk8 with ghk8a | ⟨ghk8a, ghk8b⟩
              · rcases and_f ghk8a with ghk8aa | ⟨ghk8aa, ghk8ab⟩
                · try simp only [go_sem, n1, n2, n3, n4, hk1, hk2, ghk4, hhk4, hk5, ghk6, hk6, ghk7, hk7] at ghk8aa
                  all_goals
                  rcases it_some h with ⟨hk9, h⟩ | ⟨hk9, h⟩
                  · try simp only [go_sem, n1, n2, n3, n4, hk1, hk2, ghk4, hhk4, hk5, ghk6, hk6, ghk7, hk7, ghk8aa] at hk9
                    all_goals
                    obtain rfl := so_some h
                    refine ⟨0, fun L hL => ?_⟩
                    simp only [go_sem, ir89, E_spec_l26Faults_l1, R_spec_l26Faults_l1, ir89_b0, ir89_k0, ir89_o0, ir89_r0, hk1, hk2, lhk2, xhk2, fhk3, ghk4, hhk4, fhk4, hk5, ghk6, hk6, lhk6, xhk6, ghk7, hk7, lhk7, xhk7, ghk8aa, hk9]
                  · try simp only [go_sem, n1, n2, n3, n4, hk1, hk2, ghk4, hhk4, hk5, ghk6, hk6, ghk7, hk7, ghk8aa] at hk9
                    all_goals
                    obtain rfl := so_some h
                    refine ⟨0, fun L hL => ?_⟩
                    simp only [go_sem, ir89, E_spec_l26Faults_l1, R_spec_l26Faults_l1, ir89_b0, ir89_k0, ir89_o0, ir89_r0, hk1, hk2, lhk2, xhk2, fhk3, ghk4, hhk4, fhk4, hk5, ghk6, hk6, lhk6, xhk6, ghk7, hk7, lhk7, xhk7, ghk8aa, hk9]
                · have ghk8abn := no_f ghk8ab
                  try simp only [go_sem, n1, n2, n3, n4, hk1, hk2, ghk4, hhk4, hk5, ghk6, hk6, ghk7, hk7] at ghk8aa
                  all_goals
                  try simp only [go_sem, n1, n2, n3, n4, hk1, hk2, ghk4, hhk4, hk5, ghk6, hk6, ghk7, hk7, ghk8aa] at ghk8abn
                  all_goals
                  rcases it_some h with ⟨hk9, h⟩ | ⟨hk9, h⟩
                  · try simp only [go_sem, n1, n2, n3, n4, hk1, hk2, ghk4, hhk4, hk5, ghk6, hk6, ghk7, hk7, ghk8aa, ghk8abn] at hk9
                    all_goals
                    obtain rfl := so_some h
                    refine ⟨0, fun L hL => ?_⟩
                    simp only [go_sem, ir89, E_spec_l26Faults_l1, R_spec_l26Faults_l1, ir89_b0, ir89_k0, ir89_o0, ir89_r0, hk1, hk2, lhk2, xhk2, fhk3, ghk4, hhk4, fhk4, hk5, ghk6, hk6, lhk6, xhk6, ghk7, hk7, lhk7, xhk7, ghk8aa, ghk8abn, hk9]
                  · try simp only [go_sem, n1, n2, n3, n4, hk1, hk2, ghk4, hhk4, hk5, ghk6, hk6, ghk7, hk7, ghk8aa, ghk8abn] at hk9
                    all_goals
                    obtain rfl := so_some h
                    refine ⟨0, fun L hL => ?_⟩
                    simp only [go_sem, ir89, E_spec_l26Faults_l1, R_spec_l26Faults_l1, ir89_b0, ir89_k0, ir89_o0, ir89_r0, hk1, hk2, lhk2, xhk2, fhk3, ghk4, hhk4, fhk4, hk5, ghk6, hk6, lhk6, xhk6, ghk7, hk7, lhk7, xhk7, ghk8aa, ghk8abn, hk9]
              · obtain ⟨ghk8aa, ghk8ab⟩ := and_t ghk8a
                have ghk8abn := no_t ghk8ab
                try simp only [go_sem, n1, n2, n3, n4, hk1, hk2, ghk4, hhk4, hk5, ghk6, hk6, ghk7, hk7] at ghk8aa
                all_goals
                try simp only [go_sem, n1, n2, n3, n4, hk1, hk2, ghk4, hhk4, hk5, ghk6, hk6, ghk7, hk7, ghk8aa] at ghk8abn
                all_goals
                try simp only [go_sem, n1, n2, n3, n4, hk1, hk2, ghk4, hhk4, hk5, ghk6, hk6, ghk7, hk7, ghk8aa, ghk8abn] at ghk8b
                all_goals
                rcases it_some h with ⟨hk9, h⟩ | ⟨hk9, h⟩
                · try simp only [go_sem, n1, n2, n3, n4, hk1, hk2, ghk4, hhk4, hk5, ghk6, hk6, ghk7, hk7, ghk8aa, ghk8abn, ghk8b] at hk9
                  all_goals
                  obtain rfl := so_some h
                  refine ⟨0, fun L hL => ?_⟩
                  simp only [go_sem, ir89, E_spec_l26Faults_l1, R_spec_l26Faults_l1, ir89_b0, ir89_k0, ir89_o0, ir89_r0, hk1, hk2, lhk2, xhk2, fhk3, ghk4, hhk4, fhk4, hk5, ghk6, hk6, lhk6, xhk6, ghk7, hk7, lhk7, xhk7, ghk8aa, ghk8abn, ghk8b, hk9]
                · try simp only [go_sem, n1, n2, n3, n4, hk1, hk2, ghk4, hhk4, hk5, ghk6, hk6, ghk7, hk7, ghk8aa, ghk8abn, ghk8b] at hk9
                  all_goals
                  obtain rfl := so_some h
                  refine ⟨0, fun L hL => ?_⟩
                  simp only [go_sem, ir89, E_spec_l26Faults_l1, R_spec_l26Faults_l1, ir89_b0, ir89_k0, ir89_o0, ir89_r0, hk1, hk2, lhk2, xhk2, fhk3, ghk4, hhk4, fhk4, hk5, ghk6, hk6, lhk6, xhk6, ghk7, hk7, lhk7, xhk7, ghk8aa, ghk8abn, ghk8b, hk9]
          · rcases and_f ghk7 with ghk7a | ⟨ghk7a, ghk7b⟩
            · try simp only [go_sem, n1, n2, n3, n4, hk1, hk2, ghk4, hhk4, hk5, ghk6, hk6] at ghk7a
              all_goals
              obtain ⟨hk8, h⟩ := ck_some h
              rcases or_split hk8 with ⟨ghk8, hk8⟩ | ghk8
              · try simp only [go_sem, n1, n2, n3, n4, hk1, hk2, ghk4, hhk4, hk5, ghk6, hk6, ghk7a] at ghk8
                all_goals
                have lhk8 := ix_lt hk8
                have xhk8 := getD_mapD Fault_av faults lhk8
                try simp only [go_sem] at lhk8
                try simp only [go_sem] at xhk8
                try simp only [go_sem, n1, n2, n3, n4, hk1, hk2, ghk4, hhk4, hk5, ghk6, hk6, ghk7a, ghk8] at hk8
                all_goals
                rcases it_some h with ⟨hk9, h⟩ | ⟨hk9, h⟩
                · try simp only [go_sem, n1, n2, n3, n4, hk1, hk2, ghk4, hhk4, hk5, ghk6, hk6, ghk7a, ghk8, hk8] at hk9
                  all_goals
                  obtain rfl := so_some h
                  refine ⟨0, fun L hL => ?_⟩
                  simp only [go_sem, ir89, E_spec_l26Faults_l1, R_spec_l26Faults_l1, ir89_b0, ir89_k0, ir89_o0, ir89_r0, hk1, hk2, lhk2, xhk2, fhk3, ghk4, hhk4, fhk4, hk5, ghk6, hk6, lhk6, xhk6, ghk7a, ghk8, hk8, lhk8, xhk8, hk9]
                · try simp only [go_sem, n1, n2, n3, n4, hk1, hk2, ghk4, hhk4, hk5, ghk6, hk6, ghk7a, ghk8, hk8] at hk9
                  all_goals
                  obtain rfl := so_some h
                  refine ⟨0, fun L hL => ?_⟩
                  simp only [go_sem, ir89, E_spec_l26Faults_l1, R_spec_l26Faults_l1, ir89_b0, ir89_k0, ir89_o0, ir89_r0, hk1, hk2, lhk2, xhk2, fhk3, ghk4, hhk4, fhk4, hk5, ghk6, hk6, lhk6, xhk6, ghk7a, ghk8, hk8, lhk8, xhk8, hk9]
              · rcases and_f ghk8 with ghk8a | ⟨ghk8a, ghk8b⟩
                · rcases and_f ghk8a with ghk8aa | ⟨ghk8aa, ghk8ab⟩
                  · try simp only [go_sem, n1, n2, n3, n4, hk1, hk2, ghk4, hhk4, hk5, ghk6, hk6, ghk7a] at ghk8aa
                    all_goals
                    rcases it_some h with ⟨hk9, h⟩ | ⟨hk9, h⟩
                    · try simp only [go_sem, n1, n2, n3, n4, hk1, hk2, ghk4, hhk4, hk5, ghk6, hk6, ghk7a, ghk8aa] at hk9
                      all_goals
                      obtain rfl := so_some h
                      refine ⟨0, fun L hL => ?_⟩
                      simp only [go_sem, ir89, E_spec_l26Faults_l1, R_spec_l26Faults_l1, ir89_b0, ir89_k0, ir89_o0, ir89_r0, hk1, hk2, lhk2, xhk2, fhk3, ghk4, hhk4, fhk4, hk5, ghk6, hk6, lhk6, xhk6, ghk7a, ghk8aa, hk9]
                    · try simp only [go_sem, n1, n2, n3, n4, hk1, hk2, ghk4, hhk4, hk5, ghk6, hk6, ghk7a, ghk8aa] at hk9
                      all_goals
                      obtain rfl := so_some h
                      refine ⟨0, fun L hL => ?_⟩
                      simp only [go_sem, ir89, E_spec_l26Faults_l1, R_spec_l26Faults_l1, ir89_b0, ir89_k0, ir89_o0, ir89_r0, hk1, hk2, lhk2, xhk2, fhk3, ghk4, hhk4, fhk4, hk5, ghk6, hk6, lhk6, xhk6, ghk7a, ghk8aa, hk9]
                  · have ghk8abn := no_f ghk8ab
                    try simp only [go_sem, n1, n2, n3, n4, hk1, hk2, ghk4, hhk4, hk5, ghk6, hk6, ghk7a] at ghk8aa
                    all_goals
                    try simp only [go_sem, n1, n2, n3, n4, hk1, hk2, ghk4, hhk4, hk5, ghk6, hk6, ghk7a, ghk8aa] at ghk8abn
                    all_goals
                    rcases it_some h with ⟨hk9, h⟩ | ⟨hk9, h⟩
                    · try simp only [go_sem, n1, n2, n3, n4, hk1, hk2, ghk4, hhk4, hk5, ghk6, hk6, ghk7a, ghk8aa, ghk8abn] at hk9
                      all_goals
                      obtain rfl := so_some h
                      refine ⟨0, fun L hL => ?_⟩
                      simp only [go_sem, ir89, E_spec_l26Faults_l1, R_spec_l26Faults_l1, ir89_b0, ir89_k0, ir89_o0, ir89_r0, hk1, hk2, lhk2, xhk2, fhk3, ghk4, hhk4, fhk4, hk5, ghk6, hk6, lhk6, xhk6, ghk7a, ghk8aa, ghk8abn, hk9]
                    · try simp only [go_sem, n1, n2, n3, n4, hk1, hk2, ghk4, hhk4, hk5, ghk6, hk6, ghk7a, ghk8aa, ghk8abn] at hk9
                      all_goals
                      obtain rfl := so_some h
                      refine ⟨0, fun L hL => ?_⟩
                      simp only [go_sem, ir89, E_spec_l26Faults_l1, R_spec_l26Faults_l1, ir89_b0, ir89_k0, ir89_o0, ir89_r0, hk1, hk2, lhk2, xhk2, fhk3, ghk4, hhk4, fhk4, hk5, ghk6, hk6, lhk6, xhk6, ghk7a, ghk8aa, ghk8abn, hk9]
                · obtain ⟨ghk8aa, ghk8ab⟩ := and_t ghk8a
                  have ghk8abn := no_t ghk8ab
                  try simp only [go_sem, n1, n2, n3, n4, hk1, hk2, ghk4, hhk4, hk5, ghk6, hk6, ghk7a] at ghk8aa
                  all_goals
                  try simp only [go_sem, n1, n2, n3, n4, hk1, hk2, ghk4, hhk4, hk5, ghk6, hk6, ghk7a, ghk8aa] at ghk8abn
                  all_goals
                  try simp only [go_sem, n1, n2, n3, n4, hk1, hk2, ghk4, hhk4, hk5, ghk6, hk6, ghk7a, ghk8aa, ghk8abn] at ghk8b
                  all_goals
                  rcases it_some h with ⟨hk9, h⟩ | ⟨hk9, h⟩
                  · try simp only [go_sem, n1, n2, n3, n4, hk1, hk2, ghk4, hhk4, hk5, ghk6, hk6, ghk7a, ghk8aa, ghk8abn, ghk8b] at hk9
                    all_goals
                    obtain rfl := so_some h
                    refine ⟨0, fun L hL => ?_⟩
                    simp only [go_sem, ir89, E_spec_l26Faults_l1, R_spec_l26Faults_l1, ir89_b0, ir89_k0, ir89_o0, ir89_r0, hk1, hk2, lhk2, xhk2, fhk3, ghk4, hhk4, fhk4, hk5, ghk6, hk6, lhk6, xhk6, ghk7a, ghk8aa, ghk8abn, ghk8b, hk9]
                  · try simp only [go_sem, n1, n2, n3, n4, hk1, hk2, ghk4, hhk4, hk5, ghk6, hk6, ghk7a, ghk8aa, ghk8abn, ghk8b] at hk9
                    all_goals
                    obtain rfl := so_some h
                    refine ⟨0, fun L hL => ?_⟩
                    simp only [go_sem, ir89, E_spec_l26Faults_l1, R_spec_l26Faults_l1, ir89_b0, ir89_k0, ir89_o0, ir89_r0, hk1, hk2, lhk2, xhk2, fhk3, ghk4, hhk4, fhk4, hk5, ghk6, hk6, lhk6, xhk6, ghk7a, ghk8aa, ghk8abn, ghk8b, hk9]
            · have ghk7bn := no_f ghk7b
              try simp only [go_sem, n1, n2, n3, n4, hk1, hk2, ghk4, hhk4, hk5, ghk6, hk6] at ghk7a
              all_goals
              try simp only [go_sem, n1, n2, n3, n4, hk1, hk2, ghk4, hhk4, hk5, ghk6, hk6, ghk7a] at ghk7bn
              all_goals
              obtain ⟨hk8, h⟩ := ck_some h
              rcases or_split hk8 with ⟨ghk8, hk8⟩ | ghk8
              · try simp only [go_sem, n1, n2, n3, n4, hk1, hk2, ghk4, hhk4, hk5, ghk6, hk6, ghk7a, ghk7bn] at ghk8
                all_goals
                have lhk8 := ix_lt hk8
                have xhk8 := getD_mapD Fault_av faults lhk8
                try simp only [go_sem] at lhk8
                try simp only [go_sem] at xhk8
                try simp only [go_sem, n1, n2, n3, n4, hk1, hk2, ghk4, hhk4, hk5, ghk6, hk6, ghk7a, ghk7bn, ghk8] at hk8
                all_goals
                rcases it_some h with ⟨hk9, h⟩ | ⟨hk9, h⟩
                · try simp only [go_sem, n1, n2, n3, n4, hk1, hk2, ghk4, hhk4, hk5, ghk6, hk6, ghk7a, ghk7bn, ghk8, hk8] at hk9
                  all_goals
                  obtain rfl := so_some h
                  refine ⟨0, fun L hL => ?_⟩
                  simp only [go_sem, ir89, E_spec_l26Faults_l1, R_spec_l26Faults_l1, ir89_b0, ir89_k0, ir89_o0, ir89_r0, hk1, hk2, lhk2, xhk2, fhk3, ghk4, hhk4, fhk4, hk5, ghk6, hk6, lhk6, xhk6, ghk7a, ghk7bn, ghk8, hk8, lhk8, xhk8, hk9]
                · try simp only [go_sem, n1, n2, n3, n4, hk1, hk2, ghk4, hhk4, hk5, ghk6, hk6, ghk7a, ghk7bn, ghk8, hk8] at hk9
                  all_goals
                  obtain rfl := so_some h
                  refine ⟨0, fun L hL => ?_⟩
                  simp only [go_sem, ir89, E_spec_l26Faults_l1, R_spec_l26Faults_l1, ir89_b0, ir89_k0, ir89_o0, ir89_r0, hk1, hk2, lhk2, xhk2, fhk3, ghk4, hhk4, fhk4, hk5, ghk6, hk6, lhk6, xhk6, ghk7a, ghk7bn, ghk8, hk8, lhk8, xhk8, hk9]
              · rcases and_f ghk8 with ghk8a | ⟨ghk8a, ghk8b⟩
                · rcases and_f ghk8a with ghk8aa | ⟨ghk8aa, ghk8ab⟩
                  · try simp only [go_sem, n1, n2, n3, n4, hk1, hk2, ghk4, hhk4, hk5, ghk6, hk6, ghk7a, ghk7bn] at ghk8aa
                    all_goals
                    rcases it_some h with ⟨hk9, h⟩ | ⟨hk9, h⟩
                    · try simp only [go_sem, n1, n2, n3, n4, hk1, hk2, ghk4, hhk4, hk5, ghk6, hk6, ghk7a, ghk7bn, ghk8aa] at hk9
                      all_goals
                      obtain rfl := so_some h
                      refine ⟨0, fun L hL => ?_⟩
                      simp only [go_sem, ir89, E_spec_l26Faults_l1, R_spec_l26Faults_l1, ir89_b0, ir89_k0, ir89_o0, ir89_r0, hk1, hk2, lhk2, xhk2, fhk3, ghk4, hhk4, fhk4, hk5, ghk6, hk6, lhk6, xhk6, ghk7a, ghk7bn, ghk8aa, hk9]
                    · try simp only [go_sem, n1, n2, n3, n4, hk1, hk2, ghk4, hhk4, hk5, ghk6, hk6, ghk7a, ghk7bn, ghk8aa] at hk9
                      all_goals
                      obtain rfl := so_some h
                      refine ⟨0, fun L hL => ?_⟩
                      simp only [go_sem, ir89, E_spec_l26Faults_l1, R_spec_l26Faults_l1, ir89_b0, ir89_k0, ir89_o0, ir89_r0, hk1, hk2, lhk2, xhk2, fhk3, ghk4, hhk4, fhk4, hk5, ghk6, hk6, lhk6, xhk6, ghk7a, ghk7bn, ghk8aa, hk9]
                  · have ghk8abn := no_f ghk8ab
                    try simp only [go_sem, n1, n2, n3, n4, hk1, hk2, ghk4, hhk4, hk5, ghk6, hk6, ghk7a, ghk7bn] at ghk8aa
                    all_goals
                    try simp only [go_sem, n1, n2, n3, n4, hk1, hk2, ghk4, hhk4, hk5, ghk6, hk6, ghk7a, ghk7bn, ghk8aa] at ghk8abn
                    all_goals
                    rcases it_some h with ⟨hk9, h⟩ | ⟨hk9, h⟩
                    · try simp only [go_sem, n1, n2, n3, n4, hk1, hk2, ghk4, hhk4, hk5, ghk6, hk6, ghk7a, ghk7bn, ghk8aa, ghk8abn] at hk9
                      all_goals
                      obtain rfl := so_some h
                      refine ⟨0, fun L hL => ?_⟩
                      simp only [go_sem, ir89, E_spec_l26Faults_l1, R_spec_l26Faults_l1, ir89_b0, ir89_k0, ir89_o0, ir89_r0, hk1, hk2, lhk2, xhk2, fhk3, ghk4, hhk4, fhk4, hk5, ghk6, hk6, lhk6, xhk6, ghk7a, ghk7bn, ghk8aa, ghk8abn, hk9]
                    · try simp only [go_sem, n1, n2, n3, n4, hk1, hk2, ghk4, hhk4, hk5, ghk6, hk6, ghk7a, ghk7bn, ghk8aa, ghk8abn] at hk9
                      all_goals
                      obtain rfl := so_some h
                      refine ⟨0, fun L hL => ?_⟩
                      simp only [go_sem, ir89, E_spec_l26Faults_l1, R_spec_l26Faults_l1, ir89_b0, ir89_k0, ir89_o0, ir89_r0, hk1, hk2, lhk2, xhk2, fhk3, ghk4, hhk4, fhk4, hk5, ghk6, hk6, lhk6, xhk6, ghk7a, ghk7bn, ghk8aa, ghk8abn, hk9]
                · obtain ⟨ghk8aa, ghk8ab⟩ := and_t ghk8a
                  have ghk8abn := no_t ghk8ab
                  try simp only [go_sem, n1, n2, n3, n4, hk1, hk2, ghk4, hhk4, hk5, ghk6, hk6, ghk7a, ghk7bn] at ghk8aa
                  all_goals
                  try simp only [go_sem, n1, n2, n3, n4, hk1, hk2, ghk4, hhk4, hk5, ghk6, hk6, ghk7a, ghk7bn, ghk8aa] at ghk8abn
                  all_goals
                  try simp only [go_sem, n1, n2, n3, n4, hk1, hk2, ghk4, hhk4, hk5, ghk6, hk6, ghk7a, ghk7bn, ghk8aa, ghk8abn] at ghk8b
                  all_goals
                  rcases it_some h with ⟨hk9, h⟩ | ⟨hk9, h⟩
                  · try simp only [go_sem, n1, n2, n3, n4, hk1, hk2, ghk4, hhk4, hk5, ghk6, hk6, ghk7a, ghk7bn, ghk8aa, ghk8abn, ghk8b] at hk9
                    all_goals
                    obtain rfl := so_some h
                    refine ⟨0, fun L hL => ?_⟩
                    simp only [go_sem, ir89, E_spec_l26Faults_l1, R_spec_l26Faults_l1, ir89_b0, ir89_k0, ir89_o0, ir89_r0, hk1, hk2, lhk2, xhk2, fhk3, ghk4, hhk4, fhk4, hk5, ghk6, hk6, lhk6, xhk6, ghk7a, ghk7bn, ghk8aa, ghk8abn, ghk8b, hk9]
                  · try simp only [go_sem, n1, n2, n3, n4, hk1, hk2, ghk4, hhk4, hk5, ghk6, hk6, ghk7a, ghk7bn, ghk8aa, ghk8abn, ghk8b] at hk9
                    all_goals
                    obtain rfl := so_some h
                    refine ⟨0, fun L hL => ?_⟩
                    simp only [go_sem, ir89, E_spec_l26Faults_l1, R_spec_l26Faults_l1, ir89_b0, ir89_k0, ir89_o0, ir89_r0, hk1, hk2, lhk2, xhk2, fhk3, ghk4, hhk4, fhk4, hk5, ghk6, hk6, lhk6, xhk6, ghk7a, ghk7bn, ghk8aa, ghk8abn, ghk8b, hk9]
        · try simp only [go_sem, n1, n2, n3, n4, hk1, hk2, ghk4, hhk4, hk5] at ghk6
          all_goals
          obtain ⟨hk7, h⟩ := ck_some h
          rcases or_split hk7 with ⟨ghk7, hk7⟩ | ghk7
          · try simp only [go_sem, n1, n2, n3, n4, hk1, hk2, ghk4, hhk4, hk5, ghk6] at ghk7
            all_goals
            have lhk7 := ix_lt hk7
            have xhk7 := getD_mapD Fault_av faults lhk7
            try simp only [go_sem] at lhk7
            try simp only [go_sem] at xhk7
            try simp only [go_sem, n1, n2, n3, n4, hk1, hk2, ghk4, hhk4, hk5, ghk6, ghk7] at hk7
            all_goals
            obtain ⟨hk8, h⟩ := ck_some h
            rcases or_split hk8 with ⟨ghk8, hk8⟩ | ghk8
            · try simp only [go_sem, n1, n2, n3, n4, hk1, hk2, ghk4, hhk4, hk5, ghk6, ghk7, hk7] at ghk8
              all_goals
              have lhk8 := ix_lt hk8
              have xhk8 := getD_mapD Fault_av faults lhk8
              try simp only [go_sem] at lhk8
              try simp only [go_sem] at xhk8
              try simp only [go_sem, n1, n2, n3, n4, hk1, hk2, ghk4, hhk4, hk5, ghk6, ghk7, hk7, ghk8] at hk8
              all_goals
              rcases it_some h with ⟨hk9, h⟩ | ⟨hk9, h⟩
              · try simp only [go_sem, n1, n2, n3, n4, hk1, hk2, ghk4, hhk4, hk5, ghk6, ghk7, hk7, ghk8, hk8] at hk9
                all_goals
                obtain rfl := so_some h
                refine ⟨0, fun L hL => ?_⟩
                simp only [go_sem, ir89, E_spec_l26Faults_l1, R_spec_l26Faults_l1, ir89_b0, ir89_k0, ir89_o0, ir89_r0, hk1, hk2, lhk2, xhk2, fhk3, ghk4, hhk4, fhk4, hk5, ghk6, ghk7, hk7, lhk7, xhk7, ghk8, hk8, lhk8, xhk8, hk9]
              · try simp only [go_sem, n1, n2, n3, n4, hk1, hk2, ghk4, hhk4, hk5, ghk6, ghk7, hk7, ghk8, hk8] at hk9
                all_goals
                obtain rfl := so_some h
                refine ⟨0, fun L hL => ?_⟩
                simp only [go_sem, ir89, E_spec_l26Faults_l1, R_spec_l26Faults_l1, ir89_b0, ir89_k0, ir89_o0, ir89_r0, hk1, hk2, lhk2, xhk2, fhk3, ghk4, hhk4, fhk4, hk5, ghk6, ghk7, hk7, lhk7, xhk7, ghk8, hk8, lhk8, xhk8, hk9]
            · rcases and_f ghk8 with ghk8a | ⟨ghk8a, ghk8b⟩
              · rcases and_f ghk8a with ghk8aa | ⟨ghk8aa, ghk8ab⟩
                · try simp only [go_sem, n1, n2, n3, n4, hk1, hk2, ghk4, hhk4, hk5, ghk6, ghk7, hk7] at ghk8aa
                  all_goals
                  rcases it_some h with ⟨hk9, h⟩ | ⟨hk9, h⟩
                  · try simp only [go_sem, n1, n2, n3, n4, hk1, hk2, ghk4, hhk4, hk5, ghk6, ghk7, hk7, ghk8aa] at hk9
                    all_goals
                    obtain rfl := so_some h
                    refine ⟨0, fun L hL => ?_⟩
                    simp only [go_sem, ir89, E_spec_l26Faults_l1, R_spec_l26Faults_l1, ir89_b0, ir89_k0, ir89_o0, ir89_r0, hk1, hk2, lhk2, xhk2, fhk3, ghk4, hhk4, fhk4, hk5, ghk6, ghk7, hk7, lhk7, xhk7, ghk8aa, hk9]
                  · try simp only [go_sem, n1, n2, n3, n4, hk1, hk2, ghk4, hhk4, hk5, ghk6, ghk7, hk7, ghk8aa] at hk9
                    all_goals
                    obtain rfl := so_some h
                    refine ⟨0, fun L hL => ?_⟩
                    simp only [go_sem, ir89, E_spec_l26Faults_l1, R_spec_l26Faults_l1, ir89_b0, ir89_k0, ir89_o0, ir89_r0, hk1, hk2, lhk2, xhk2, fhk3, ghk4, hhk4, fhk4, hk5, ghk6, ghk7, hk7, lhk7, xhk7, ghk8aa, hk9]
                · have ghk8abn := no_f ghk8ab
                  try simp only [go_sem, n1, n2, n3, n4, hk1, hk2, ghk4, hhk4, hk5, ghk6, ghk7, hk7] at ghk8aa
                  all_goals
                  try simp only [go_sem, n1, n2, n3, n4, hk1, hk2, ghk4, hhk4, hk5, ghk6, ghk7, hk7, ghk8aa] at ghk8abn
                  all_goals
                  rcases it_some h with ⟨hk9, h⟩ | ⟨hk9, h⟩
                  · try simp only [go_sem, n1, n2, n3, n4, hk1, hk2, ghk4, hhk4, hk5, ghk6, ghk7, hk7, ghk8aa, ghk8abn] at hk9
                    all_goals
                    obtain rfl := so_some h
                    refine ⟨0, fun L hL => ?_⟩
                    simp only [go_sem, ir89, E_spec_l26Faults_l1, R_spec_l26Faults_l1, ir89_b0, ir89_k0, ir89_o0, ir89_r0, hk1, hk2, lhk2, xhk2, fhk3, ghk4, hhk4, fhk4, hk5, ghk6, ghk7, hk7, lhk7, xhk7, ghk8aa, ghk8abn, hk9]
                  · try simp only [go_sem, n1, n2, n3, n4, hk1, hk2, ghk4, hhk4, hk5, ghk6, ghk7, hk7, ghk8aa, ghk8abn] at hk9
                    all_goals
                    obtain rfl := so_some h
                    refine ⟨0, fun L hL => ?_⟩
                    simp only [go_sem, ir89, E_spec_l26Faults_l1, R_spec_l26Faults_l1, ir89_b0, ir89_k0, ir89_o0, ir89_r0, hk1, hk2, lhk2, xhk2, fhk3, ghk4, hhk4, fhk4, hk5, ghk6, ghk7, hk7, lhk7, xhk7, ghk8aa, ghk8abn, hk9]
              · obtain ⟨ghk8aa, ghk8ab⟩ := and_t ghk8a
                have ghk8abn := no_t ghk8ab
                try simp only [go_sem, n1, n2, n3, n4, hk1, hk2, ghk4, hhk4, hk5, ghk6, ghk7, hk7] at ghk8aa
                all_goals
                try simp only [go_sem, n1, n2, n3, n4, hk1, hk2, ghk4, hhk4, hk5, ghk6, ghk7, hk7, ghk8aa] at ghk8abn
                all_goals
                try simp only [go_sem, n1, n2, n3, n4, hk1, hk2, ghk4, hhk4, hk5, ghk6, ghk7, hk7, ghk8aa, ghk8abn] at ghk8b
                all_goals
                rcases it_some h with ⟨hk9, h⟩ | ⟨hk9, h⟩
                · try simp only [go_sem, n1, n2, n3, n4, hk1, hk2, ghk4, hhk4, hk5, ghk6, ghk7, hk7, ghk8aa, ghk8abn, ghk8b] at hk9
                  all_goals
                  obtain rfl := so_some h
                  refine ⟨0, fun L hL => ?_⟩
                  simp only [go_sem, ir89, E_spec_l26Faults_l1, R_spec_l26Faults_l1, ir89_b0, ir89_k0, ir89_o0, ir89_r0, hk1, hk2, lhk2, xhk2, fhk3, ghk4, hhk4, fhk4, hk5, ghk6, ghk7, hk7, lhk7, xhk7, ghk8aa, ghk8abn, ghk8b, hk9]
                · try simp only [go_sem, n1, n2, n3, n4, hk1, hk2, ghk4, hhk4, hk5, ghk6, ghk7, hk7, ghk8aa, ghk8abn, ghk8b] at hk9
                  all_goals
                  obtain rfl := so_some h
                  refine ⟨0, fun L hL => ?_⟩
                  simp only [go_sem, ir89, E_spec_l26Faults_l1, R_spec_l26Faults_l1, ir89_b0, ir89_k0, ir89_o0, ir89_r0, hk1, hk2, lhk2, xhk2, fhk3, ghk4, hhk4, fhk4, hk5, ghk6, ghk7, hk7, lhk7, xhk7, ghk8aa, ghk8abn, ghk8b, hk9]
          · rcases and_f ghk7 with ghk7a | ⟨ghk7a, ghk7b⟩
            · try simp only [go_sem, n1, n2, n3, n4, hk1, hk2, ghk4, hhk4, hk5, ghk6] at ghk7a
              all_goals
              obtain ⟨hk8, h⟩ := ck_some h
              rcases or_split hk8 with ⟨ghk8, hk8⟩ | ghk8
              · try simp only [go_sem, n1, n2, n3, n4, hk1, hk2, ghk4, hhk4, hk5, ghk6, ghk7a] at ghk8
                all_goals
                have lhk8 := ix_lt hk8
                have xhk8 := getD_mapD Fault_av faults lhk8
                try simp only [go_sem] at lhk8
                try simp only [go_sem] at xhk8
                try simp only [go_sem, n1, n2, n3, n4, hk1, hk2, ghk4, hhk4, hk5, ghk6, ghk7a, ghk8] at hk8
                all_goals
                rcases it_some h with ⟨hk9, h⟩ | ⟨hk9, h⟩
                · try simp only [go_sem, n1, n2, n3, n4, hk1, hk2, ghk4, hhk4, hk5, ghk6, ghk7a, ghk8, hk8] at hk9
                  all_goals
                  obtain rfl := so_some h
                  refine ⟨0, fun L hL => ?_⟩
                  simp only [go_sem, ir89, E_spec_l26Faults_l1, R_spec_l26Faults_l1, ir89_b0, ir89_k0, ir89_o0, ir89_r0, hk1, hk2, lhk2, xhk2, fhk3, ghk4, hhk4, fhk4, hk5, ghk6, ghk7a, ghk8, hk8, lhk8, xhk8, hk9]
                · try simp only [go_sem, n1, n2, n3, n4, hk1, hk2, ghk4, hhk4, hk5, ghk6, ghk7a, ghk8, hk8] at hk9
                  all_goals
                  obtain rfl := so_some h
                  refine ⟨0, fun L hL => ?_⟩
                  simp only [go_sem, ir89, E_spec_l26Faults_l1, R_spec_l26Faults_l1, ir89_b0, ir89_k0, ir89_o0, ir89_r0, hk1, hk2, lhk2, xhk2, fhk3, ghk4, hhk4, fhk4, hk5, ghk6, ghk7a, ghk8, hk8, lhk8, xhk8, hk9]
              · rcases and_f ghk8 with ghk8a | ⟨ghk8a, ghk8b⟩
                · rcases and_f ghk8a with ghk8aa | ⟨ghk8aa, ghk8ab⟩
                  · try simp only [go_sem, n1, n2, n3, n4, hk1, hk2, ghk4, hhk4, hk5, ghk6, ghk7a] at ghk8aa
                    all_goals
                    rcases it_some h with ⟨hk9, h⟩ | ⟨hk9, h⟩
                    · try simp only [go_sem, n1, n2, n3, n4, hk1, hk2, ghk4, hhk4, hk5, ghk6, ghk7a, ghk8aa] at hk9
                      all_goals
                      obtain rfl := so_some h
                      refine ⟨0, fun L hL => ?_⟩
                      simp only [go_sem, ir89, E_spec_l26Faults_l1, R_spec_l26Faults_l1, ir89_b0, ir89_k0, ir89_o0, ir89_r0, hk1, hk2, lhk2, xhk2, fhk3, ghk4, hhk4, fhk4, hk5, ghk6, ghk7a, ghk8aa, hk9]
                    · try simp only [go_sem, n1, n2, n3, n4, hk1, hk2, ghk4, hhk4, hk5, ghk6, ghk7a, ghk8aa] at hk9
                      all_goals
                      obtain rfl := so_some h
                      refine ⟨0, fun L hL => ?_⟩
                      simp only [go_sem, ir89, E_spec_l26Faults_l1, R_spec_l26Faults_l1, ir89_b0, ir89_k0, ir89_o0, ir89_r0, hk1, hk2, lhk2, xhk2, fhk3, ghk4, hhk4, fhk4, hk5, ghk6, ghk7a, ghk8aa, hk9]
                  · have ghk8abn := no_f ghk8ab
                    try simp only [go_sem, n1, n2, n3, n4, hk1, hk2, ghk4, hhk4, hk5, ghk6, ghk7a] at ghk8aa
                    all_goals
                    try simp only [go_sem, n1, n2, n3, n4, hk1, hk2, ghk4, hhk4, hk5, ghk6, ghk7a, ghk8aa] at ghk8abn
                    all_goals
                    rcases it_some h with ⟨hk9, h⟩ | ⟨hk9, h⟩
                    · try simp only [go_sem, n1, n2, n3, n4, hk1, hk2, ghk4, hhk4, hk5, ghk6, ghk7a, ghk8aa, ghk8abn] at hk9
                      all_goals
                      obtain rfl := so_some h
                      refine ⟨0, fun L hL => ?_⟩
                      simp only [go_sem, ir89, E_spec_l26Faults_l1, R_spec_l26Faults_l1, ir89_b0, ir89_k0, ir89_o0, ir89_r0, hk1, hk2, lhk2, xhk2, fhk3, ghk4, hhk4, fhk4, hk5, ghk6, ghk7a, ghk8aa, ghk8abn, hk9]
                    · try simp only [go_sem, n1, n2, n3, n4, hk1, hk2, ghk4, hhk4, hk5, ghk6, ghk7a, ghk8aa, ghk8abn] at hk9
                      all_goals
                      obtain rfl := so_some h
                      refine ⟨0, fun L hL => ?_⟩
                      simp only [go_sem, ir89, E_spec_l26Faults_l1, R_spec_l26Faults_l1, ir89_b0, ir89_k0, ir89_o0, ir89_r0, hk1, hk2, lhk2, xhk2, fhk3, ghk4, hhk4, fhk4, hk5, ghk6, ghk7a, ghk8aa, ghk8abn, hk9]
                · obtain ⟨ghk8aa, ghk8ab⟩ := and_t ghk8a
                  have ghk8abn := no_t ghk8ab
                  try simp only [go_sem, n1, n2, n3, n4, hk1, hk2, ghk4, hhk4, hk5, ghk6, ghk7a] at ghk8aa
                  all_goals
                  try simp only [go_sem, n1, n2, n3, n4, hk1, hk2, ghk4, hhk4, hk5, ghk6, ghk7a, ghk8aa] at ghk8abn
                  all_goals
                  try simp only [go_sem, n1, n2, n3, n4, hk1, hk2, ghk4, hhk4, hk5, ghk6, ghk7a, ghk8aa, ghk8abn] at ghk8b
                  all_goals
                  rcases it_some h with ⟨hk9, h⟩ | ⟨hk9, h⟩
                  · try simp only [go_sem, n1, n2, n3, n4, hk1, hk2, ghk4, hhk4, hk5, ghk6, ghk7a, ghk8aa, ghk8abn, ghk8b] at hk9
                    all_goals
                    obtain rfl := so_some h
                    refine ⟨0, fun L hL => ?_⟩
                    simp only [go_sem, ir89, E_spec_l26Faults_l1, R_spec_l26Faults_l1, ir89_b0, ir89_k0, ir89_o0, ir89_r0, hk1, hk2, lhk2, xhk2, fhk3, ghk4, hhk4, fhk4, hk5, ghk6, ghk7a, ghk8aa, ghk8abn, ghk8b, hk9]
                  · try simp only [go_sem, n1, n2, n3, n4, hk1, hk2, ghk4, hhk4, hk5, ghk6, ghk7a, ghk8aa, ghk8abn, ghk8b] at hk9
                    all_goals
                    obtain rfl := so_some h
                    refine ⟨0, fun L hL => ?_⟩
                    simp only [go_sem, ir89, E_spec_l26Faults_l1, R_spec_l26Faults_l1, ir89_b0, ir89_k0, ir89_o0, ir89_r0, hk1, hk2, lhk2, xhk2, fhk3, ghk4, hhk4, fhk4, hk5, ghk6, ghk7a, ghk8aa, ghk8abn, ghk8b, hk9]
            · have ghk7bn := no_f ghk7b
              try simp only [go_sem, n1, n2, n3, n4, hk1, hk2, ghk4, hhk4, hk5, ghk6] at ghk7a
              all_goals
              try simp only [go_sem, n1, n2, n3, n4, hk1, hk2, ghk4, hhk4, hk5, ghk6, ghk7a] at ghk7bn
              all_goals
              obtain ⟨hk8, h⟩ := ck_some h
              rcases or_split hk8 with ⟨ghk8, hk8⟩ | ghk8
              · try simp only [go_sem, n1, n2, n3, n4, hk1, hk2, ghk4, hhk4, hk5, ghk6, ghk7a, ghk7bn] at ghk8
                all_goals
                have lhk8 := ix_lt hk8
                have xhk8 := getD_mapD Fault_av faults lhk8
                try simp only [go_sem] at lhk8
                try simp only [go_sem] at xhk8
                try simp only [go_sem, n1, n2, n3, n4, hk1, hk2, ghk4, hhk4, hk5, ghk6, ghk7a, ghk7bn, ghk8] at hk8
                all_goals
                rcases it_some h with ⟨hk9, h⟩ | ⟨hk9, h⟩
                · try simp only [go_sem, n1, n2, n3, n4, hk1, hk2, ghk4, hhk4, hk5, ghk6, ghk7a, ghk7bn, ghk8, hk8] at hk9
                  all_goals
                  obtain rfl := so_some h
                  refine ⟨0, fun L hL => ?_⟩
                  simp only [go_sem, ir89, E_spec_l26Faults_l1, R_spec_l26Faults_l1, ir89_b0, ir89_k0, ir89_o0, ir89_r0, hk1, hk2, lhk2, xhk2, fhk3, ghk4, hhk4, fhk4, hk5, ghk6, ghk7a, ghk7bn, ghk8, hk8, lhk8, xhk8, hk9]
                · try simp only [go_sem, n1, n2, n3, n4, hk1, hk2, ghk4, hhk4, hk5, ghk6, ghk7a, ghk7bn, ghk8, hk8] at hk9
                  all_goals
                  obtain rfl := so_some h
                  refine ⟨0, fun L hL => ?_⟩
                  simp only [go_sem, ir89, E_spec_l26Faults_l1, R_spec_l26Faults_l1, ir89_b0, ir89_k0, ir89_o0, ir89_r0, hk1, hk2, lhk2, xhk2, fhk3, ghk4, hhk4, fhk4, hk5, ghk6, ghk7a, ghk7bn, ghk8, hk8, lhk8, xhk8, hk9]
              · rcases and_f ghk8 with ghk8a | ⟨ghk8a, ghk8b⟩
                · rcases and_f ghk8a with ghk8aa | ⟨ghk8aa, ghk8ab⟩
                  · try simp only [go_sem, n1, n2, n3, n4, hk1, hk2, ghk4, hhk4, hk5, ghk6, ghk7a, ghk7bn] at ghk8aa
                    all_goals
                    rcases it_some h with ⟨hk9, h⟩ | ⟨hk9, h⟩
                    · try simp only [go_sem, n1, n2, n3, n4, hk1, hk2, ghk4, hhk4, hk5, ghk6, ghk7a, ghk7bn, ghk8aa] at hk9
                      all_goals
                      obtain rfl := so_some h
                      refine ⟨0, fun L hL => ?_⟩
                      simp only [go_sem, ir89, E_spec_l26Faults_l1, R_spec_l26Faults_l1, ir89_b0, ir89_k0, ir89_o0, ir89_r0, hk1, hk2, lhk2, xhk2, fhk3, ghk4, hhk4, fhk4, hk5, ghk6, ghk7a, ghk7bn, ghk8aa, hk9]
                    · try simp only [go_sem, n1, n2, n3, n4, hk1, hk2, ghk4, hhk4, hk5, ghk6, ghk7a, ghk7bn, ghk8aa] at hk9
                      all_goals
                      obtain rfl := so_some h
                      refine ⟨0, fun L hL => ?_⟩
                      simp only [go_sem, ir89, E_spec_l26Faults_l1, R_spec_l26Faults_l1, ir89_b0, ir89_k0, ir89_o0, ir89_r0, hk1, hk2, lhk2, xhk2, fhk3, ghk4, hhk4, fhk4, hk5, ghk6, ghk7a, ghk7bn, ghk8aa, hk9]
                  · have ghk8abn := no_f ghk8ab
                    try simp only [go_sem, n1, n2, n3, n4, hk1, hk2, ghk4, hhk4, hk5, ghk6, ghk7a, ghk7bn] at ghk8aa
                    all_goals
                    try simp only [go_sem, n1, n2, n3, n4, hk1, hk2, ghk4, hhk4, hk5, ghk6, ghk7a, ghk7bn, ghk8aa] at ghk8abn
                    all_goals
                    rcases it_some h with ⟨hk9, h⟩ | ⟨hk9, h⟩
                    · try simp only [go_sem, n1, n2, n3, n4, hk1, hk2, ghk4, hhk4, hk5, ghk6, ghk7a, ghk7bn, ghk8aa, ghk8abn] at hk9
                      all_goals
                      obtain rfl := so_some h
                      refine ⟨0, fun L hL => ?_⟩
                      simp only [go_sem, ir89, E_spec_l26Faults_l1, R_spec_l26Faults_l1, ir89_b0, ir89_k0, ir89_o0, ir89_r0, hk1, hk2, lhk2, xhk2, fhk3, ghk4, hhk4, fhk4, hk5, ghk6, ghk7a, ghk7bn, ghk8aa, ghk8abn, hk9]
                    · try simp only [go_sem, n1, n2, n3, n4, hk1, hk2, ghk4, hhk4, hk5, ghk6, ghk7a, ghk7bn, ghk8aa, ghk8abn] at hk9
                      all_goals
                      obtain rfl := so_some h
                      refine ⟨0, fun L hL => ?_⟩
                      simp only [go_sem, ir89, E_spec_l26Faults_l1, R_spec_l26Faults_l1, ir89_b0, ir89_k0, ir89_o0, ir89_r0, hk1, hk2, lhk2, xhk2, fhk3, ghk4, hhk4, fhk4, hk5, ghk6, ghk7a, ghk7bn, ghk8aa, ghk8abn, hk9]
                · obtain ⟨ghk8aa, ghk8ab⟩ := and_t ghk8a
                  have ghk8abn := no_t ghk8ab
                  try simp only [go_sem, n1, n2, n3, n4, hk1, hk2, ghk4, hhk4, hk5, ghk6, ghk7a, ghk7bn] at ghk8aa
                  all_goals
                  try simp only [go_sem, n1, n2, n3, n4, hk1, hk2, ghk4, hhk4, hk5, ghk6, ghk7a, ghk7bn, ghk8aa] at ghk8abn
                  all_goals
                  try simp only [go_sem, n1, n2, n3, n4, hk1, hk2, ghk4, hhk4, hk5, ghk6, ghk7a, ghk7bn, ghk8aa, ghk8abn] at ghk8b
                  all_goals
                  rcases it_some h with ⟨hk9, h⟩ | ⟨hk9, h⟩
                  · try simp only [go_sem, n1, n2, n3, n4, hk1, hk2, ghk4, hhk4, hk5, ghk6, ghk7a, ghk7bn, ghk8aa, ghk8abn, ghk8b] at hk9
                    all_goals
                    obtain rfl := so_some h
                    refine ⟨0, fun L hL => ?_⟩
                    simp only [go_sem, ir89, E_spec_l26Faults_l1, R_spec_l26Faults_l1, ir89_b0, ir89_k0, ir89_o0, ir89_r0, hk1, hk2, lhk2, xhk2, fhk3, ghk4, hhk4, fhk4, hk5, ghk6, ghk7a, ghk7bn, ghk8aa, ghk8abn, ghk8b, hk9]
                  · try simp only [go_sem, n1, n2, n3, n4, hk1, hk2, ghk4, hhk4, hk5, ghk6, ghk7a, ghk7bn, ghk8aa, ghk8abn, ghk8b] at hk9
                    all_goals
                    obtain rfl := so_some h
                    refine ⟨0, fun L hL => ?_⟩
                    simp only [go_sem, ir89, E_spec_l26Faults_l1, R_spec_l26Faults_l1, ir89_b0, ir89_k0, ir89_o0, ir89_r0, hk1, hk2, lhk2, xhk2, fhk3, ghk4, hhk4, fhk4, hk5, ghk6, ghk7a, ghk7bn, ghk8aa, ghk8abn, ghk8b, hk9]
    · have ghk4n := no_f ghk4
      have ghk4nn := no_t ghk4n
      try simp only [go_sem, n1, n2, n3, n4, hk1, hk2] at ghk4nn
      all_goals
      rcases it_some h with ⟨hk5, h⟩ | ⟨hk5, h⟩
      · try simp only [go_sem, n1, n2, n3, n4, hk1, hk2, ghk4nn] at hk5
        all_goals
        obtain rfl := so_some h
        refine ⟨0, fun L hL => ?_⟩
        simp only [go_sem, ir89, E_spec_l26Faults_l1, R_spec_l26Faults_l1, ir89_b0, ir89_k0, ir89_o0, ir89_r0, hk1, hk2, lhk2, xhk2, fhk3, ghk4nn, hk5]
      · try simp only [go_sem, n1, n2, n3, n4, hk1, hk2, ghk4nn] at hk5
        all_goals
        obtain ⟨hk6, h⟩ := ck_some h
        rcases or_split hk6 with ⟨ghk6, hk6⟩ | ghk6
        · try simp only [go_sem, n1, n2, n3, n4, hk1, hk2, ghk4nn, hk5] at ghk6
          all_goals
          have lhk6 := ix_lt hk6
          have xhk6 := getD_mapD Fault_av faults lhk6
          try simp only [go_sem] at lhk6
          try simp only [go_sem] at xhk6
          try simp only [go_sem, n1, n2, n3, n4, hk1, hk2, ghk4nn, hk5, ghk6] at hk6
          all_goals
          obtain ⟨hk7, h⟩ := ck_some h
          rcases or_split hk7 with ⟨ghk7, hk7⟩ | ghk7
          · try simp only [go_sem, n1, n2, n3, n4, hk1, hk2, ghk4nn, hk5, ghk6, hk6] at ghk7
            all_goals
            have lhk7 := ix_lt hk7
            have xhk7 := getD_mapD Fault_av faults lhk7
            try simp only [go_sem] at lhk7
            try simp only [go_sem] at xhk7
            try simp only [go_sem, n1, n2, n3, n4, hk1, hk2, ghk4nn, hk5, ghk6, hk6, ghk7] at hk7
            all_goals
            obtain ⟨hk8, h⟩ := ck_some h
            rcases or_split hk8 with ⟨ghk8, hk8⟩ | ghk8
            · try simp only [go_sem, n1, n2, n3, n4, hk1, hk2, ghk4nn, hk5, ghk6, hk6, ghk7, hk7] at ghk8
              all_goals
              have lhk8 := ix_lt hk8
              have xhk8 := getD_mapD Fault_av faults lhk8
              try simp only [go_sem] at lhk8
              try simp only [go_sem] at xhk8
              try simp only [go_sem, n1, n2, n3, n4, hk1, hk2, ghk4nn, hk5, ghk6, hk6, ghk7, hk7, ghk8] at hk8
              all_goals
              rcases it_some h with ⟨hk9, h⟩ | ⟨hk9, h⟩
              · try simp only [go_sem, n1, n2, n3, n4, hk1, hk2, ghk4nn, hk5, ghk6, hk6, ghk7, hk7, ghk8, hk8] at hk9
                all_goals
                obtain rfl := so_some h
                refine ⟨0, fun L hL => ?_⟩
                simp only [go_sem, ir89, E_spec_l26Faults_l1, R_spec_l26Faults_l1, ir89_b0, ir89_k0, ir89_o0, ir89_r0, hk1, hk2, lhk2, xhk2, fhk3, ghk4nn, hk5, ghk6, hk6, lhk6, xhk6, ghk7, hk7, lhk7, xhk7, ghk8, hk8, lhk8, xhk8, hk9]
              · try simp only [go_sem, n1, n2, n3, n4, hk1, hk2, ghk4nn, hk5, ghk6, hk6, ghk7, hk7, ghk8, hk8] at hk9
                all_goals
                obtain rfl := so_some h
                refine ⟨0, fun L hL => ?_⟩
                simp only [go_sem, ir89, E_spec_l26Faults_l1, R_spec_l26Faults_l1, ir89_b0, ir89_k0, ir89_o0, ir89_r0, hk1, hk2, lhk2, xhk2, fhk3, ghk4nn, hk5, ghk6, hk6, lhk6, xhk6, ghk7, hk7, lhk7, xhk7, ghk8, hk8, lhk8, xhk8, hk9]
            · rcases and_f ghk8 with ghk8a | ⟨ghk8a, ghk8b⟩
              · rcases and_f ghk8a with ghk8aa | ⟨ghk8aa, ghk8ab⟩
                · try simp only [go_sem, n1, n2, n3, n4, hk1, hk2, ghk4nn, hk5, ghk6, hk6, ghk7, hk7] at ghk8aa
                  all_goals
                  rcases it_some h with ⟨hk9, h⟩ | ⟨hk9, h⟩
                  · try simp only [go_sem, n1, n2, n3, n4, hk1, hk2, ghk4nn, hk5, ghk6, hk6, ghk7, hk7, ghk8aa] at hk9
                    all_goals
                    obtain rfl := so_some h
                    refine ⟨0, fun L hL => ?_⟩
                    simp only [go_sem, ir89, E_spec_l26Faults_l1, R_spec_l26Faults_l1, ir89_b0, ir89_k0, ir89_o0, ir89_r0, hk1, hk2, lhk2, xhk2, fhk3, ghk4nn, hk5, ghk6, hk6, lhk6, xhk6, ghk7, hk7, lhk7, xhk7, ghk8aa, hk9]
                  · try simp only [go_sem, n1, n2, n3, n4, hk1, hk2, ghk4nn, hk5, ghk6, hk6, ghk7, hk7, ghk8aa] at hk9
                    all_goals
                    obtain rfl := so_some h
                    refine ⟨0, fun L hL => ?_⟩
                    simp only [go_sem, ir89, E_spec_l26Faults_l1, R_spec_l26Faults_l1, ir89_b0, ir89_k0, ir89_o0, ir89_r0, hk1, hk2, lhk2, xhk2, fhk3, ghk4nn, hk5, ghk6, hk6, lhk6, xhk6, ghk7, hk7, lhk7, xhk7, ghk8aa, hk9]
                · have ghk8abn := no_f ghk8ab
                  try simp only [go_sem, n1, n2, n3, n4, hk1, hk2, ghk4nn, hk5, ghk6, hk6, ghk7, hk7] at ghk8aa
                  all_goals
                  try simp only [go_sem, n1, n2, n3, n4, hk1, hk2, ghk4nn, hk5, ghk6, hk6, ghk7, hk7, ghk8aa] at ghk8abn
                  all_goals
                  rcases it_some h with ⟨hk9, h⟩ | ⟨hk9, h⟩
                  · try simp only [go_sem, n1, n2, n3, n4, hk1, hk2, ghk4nn, hk5, ghk6, hk6, ghk7, hk7, ghk8aa, ghk8abn] at hk9
                    all_goals
                    obtain rfl := so_some h
                    refine ⟨0, fun L hL => ?_⟩
                    simp only [go_sem, ir89, E_spec_l26Faults_l1, R_spec_l26Faults_l1, ir89_b0, ir89_k0, ir89_o0, ir89_r0, hk1, hk2, lhk2, xhk2, fhk3, ghk4nn, hk5, ghk6, hk6, lhk6, xhk6, ghk7, hk7, lhk7, xhk7, ghk8aa, ghk8abn, hk9]
                  · try simp only [go_sem, n1, n2, n3, n4, hk1, hk2, ghk4nn, hk5, ghk6, hk6, ghk7, hk7, ghk8aa, ghk8abn] at hk9
                    all_goals
                    obtain rfl := so_some h
                    refine ⟨0, fun L hL => ?_⟩
                    simp only [go_sem, ir89, E_spec_l26Faults_l1, R_spec_l26Faults_l1, ir89_b0, ir89_k0, ir89_o0, ir89_r0, hk1, hk2, lhk2, xhk2, fhk3, ghk4nn, hk5, ghk6, hk6, lhk6, xhk6, ghk7, hk7, lhk7, xhk7, ghk8aa, ghk8abn, hk9]
              · obtain ⟨ghk8aa, ghk8ab⟩ := and_t ghk8a
                have ghk8abn := no_t ghk8ab
                try simp only [go_sem, n1, n2, n3, n4, hk1, hk2, ghk4nn, hk5, ghk6, hk6, ghk7, hk7] at ghk8aa
                all_goals
                try simp only [go_sem, n1, n2, n3, n4, hk1, hk2, ghk4nn, hk5, ghk6, hk6, ghk7, hk7, ghk8aa] at ghk8abn
                all_goals
                try simp only [go_sem, n1, n2, n3, n4, hk1, hk2, ghk4nn, hk5, ghk6, hk6, ghk7, hk7, ghk8aa, ghk8abn] at ghk8b
                all_goals
                rcases it_some h with ⟨hk9, h⟩ | ⟨hk9, h⟩
                · try simp only [go_sem, n1, n2, n3, n4, hk1, hk2, ghk4nn, hk5, ghk6, hk6, ghk7, hk7, ghk8aa, ghk8abn, ghk8b] at hk9
                  all_goals
                  obtain rfl := so_some h
                  refine ⟨0, fun L hL => ?_⟩
                  simp only [go_sem, ir89, E_spec_l26Faults_l1, R_spec_l26Faults_l1, ir89_b0, ir89_k0, ir89_o0, ir89_r0, hk1, hk2, lhk2, xhk2, fhk3, ghk4nn, hk5, ghk6, hk6, lhk6, xhk6, ghk7, hk7, lhk7, xhk7, ghk8aa, ghk8abn, ghk8b, hk9]
                · try simp only [go_sem, n1, n2, n3, n4, hk1, hk2, ghk4nn, hk5, ghk6, hk6, ghk7, hk7, ghk8aa, ghk8abn, ghk8b] at hk9
                  all_goals
                  obtain rfl := so_some h
                  refine ⟨0, fun L hL => ?_⟩
                  simp only [go_sem, ir89, E_spec_l26Faults_l1, R_spec_l26Faults_l1, ir89_b0, ir89_k0, ir89_o0, ir89_r0, hk1, hk2, lhk2, xhk2, fhk3, ghk4nn, hk5, ghk6, hk6, lhk6, xhk6, ghk7, hk7, lhk7, xhk7, ghk8aa, ghk8abn, ghk8b, hk9]
          · rcases and_f ghk7 with ghk7a | ⟨ghk7a, ghk7b⟩
            · try simp only [go_sem, n1, n2, n3, n4, hk1, hk2, ghk4nn, hk5, ghk6, hk6] at ghk7a
              all_goals
              obtain ⟨hk8, h⟩ := ck_some h
              rcases or_split hk8 with ⟨ghk8, hk8⟩ | ghk8
              · try simp only [go_sem, n1, n2, n3, n4, hk1, hk2, ghk4nn, hk5, ghk6, hk6, ghk7a] at ghk8
                all_goals
                have lhk8 := ix_lt hk8
                have xhk8 := getD_mapD Fault_av faults lhk8
                try simp only [go_sem] at lhk8
                try simp only [go_sem] at xhk8
                try simp only [go_sem, n1, n2, n3, n4, hk1, hk2, ghk4nn, hk5, ghk6, hk6, ghk7a, ghk8] at hk8
                all_goals
                rcases it_some h with ⟨hk9, h⟩ | ⟨hk9, h⟩
                · try simp only [go_sem, n1, n2, n3, n4, hk1, hk2, ghk4nn, hk5, ghk6, hk6, ghk7a, ghk8, hk8] at hk9
                  all_goals
                  obtain rfl := so_some h
                  refine ⟨0, fun L hL => ?_⟩
                  simp only [go_sem, ir89, E_spec_l26Faults_l1, R_spec_l26Faults_l1, ir89_b0, ir89_k0, ir89_o0, ir89_r0, hk1, hk2, lhk2, xhk2, fhk3, ghk4nn, hk5, ghk6, hk6, lhk6, xhk6, ghk7a, ghk8, hk8, lhk8, xhk8, hk9]
                · try simp only [go_sem, n1, n2, n3, n4, hk1, hk2, ghk4nn, hk5, ghk6, hk6, ghk7a, ghk8, hk8] at hk9
                  all_goals
                  obtain rfl := so_some h
                  refine ⟨0, fun L hL => ?_⟩
                  simp only [go_sem, ir89, E_spec_l26Faults_l1, R_spec_l26Faults_l1, ir89_b0, ir89_k0, ir89_o0, ir89_r0, hk1, hk2, lhk2, xhk2, fhk3, ghk4nn, hk5, ghk6, hk6, lhk6, xhk6, ghk7a, ghk8, hk8, lhk8, xhk8, hk9]
              · rcases and_f ghk8 with ghk8a | ⟨ghk8a, ghk8b⟩
                · rcases and_f ghk8a with ghk8aa | ⟨ghk8aa, ghk8ab⟩
                  · try simp only [go_sem, n1, n2, n3, n4, hk1, hk2, ghk4nn, hk5, ghk6, hk6, ghk7a] at ghk8aa
                    all_goals
                    rcases it_some h with ⟨hk9, h⟩ | ⟨hk9, h⟩
                    · try simp only [go_sem, n1, n2, n3, n4, hk1, hk2, ghk4nn, hk5, ghk6, hk6, ghk7a, ghk8aa] at hk9
                      all_goals
                      obtain rfl := so_some h
                      refine ⟨0, fun L hL => ?_⟩
                      simp only [go_sem, ir89, E_spec_l26Faults_l1, R_spec_l26Faults_l1, ir89_b0, ir89_k0, ir89_o0, ir89_r0, hk1, hk2, lhk2, xhk2, fhk3, ghk4nn, hk5, ghk6, hk6, lhk6, xhk6, ghk7a, ghk8aa, hk9]
                    · try simp only [go_sem, n1, n2, n3, n4, hk1, hk2, ghk4nn, hk5, ghk6, hk6, ghk7a, ghk8aa] at hk9
                      all_goals
                      obtain rfl := so_some h
                      refine ⟨0, fun L hL => ?_⟩
                      simp only [go_sem, ir89, E_spec_l26Faults_l1, R_spec_l26Faults_l1, ir89_b0, ir89_k0, ir89_o0, ir89_r0, hk1, hk2, lhk2, xhk2, fhk3, ghk4nn, hk5, ghk6, hk6, lhk6, xhk6, ghk7a, ghk8aa, hk9]
                  · have ghk8abn := no_f ghk8ab
                    try simp only [go_sem, n1, n2, n3, n4, hk1, hk2, ghk4nn, hk5, ghk6, hk6, ghk7a] at ghk8aa
                    all_goals
                    try simp only [go_sem, n1, n2, n3, n4, hk1, hk2, ghk4nn, hk5, ghk6, hk6, ghk7a, ghk8aa] at ghk8abn
                    all_goals
                    rcases it_some h with ⟨hk9, h⟩ | ⟨hk9, h⟩
                    · try simp only [go_sem, n1, n2, n3, n4, hk1, hk2, ghk4nn, hk5, ghk6, hk6, ghk7a, ghk8aa, ghk8abn] at hk9
                      all_goals
                      obtain rfl := so_some h
                      refine ⟨0, fun L hL => ?_⟩
                      simp only [go_sem, ir89, E_spec_l26Faults_l1, R_spec_l26Faults_l1, ir89_b0, ir89_k0, ir89_o0, ir89_r0, hk1, hk2, lhk2, xhk2, fhk3, ghk4nn, hk5, ghk6, hk6, lhk6, xhk6, ghk7a, ghk8aa, ghk8abn, hk9]
                    · try simp only [go_sem, n1, n2, n3, n4, hk1, hk2, ghk4nn, hk5, ghk6, hk6, ghk7a, ghk8aa, ghk8abn] at hk9
                      all_goals
                      obtain rfl := so_some h
                      refine ⟨0, fun L hL => ?_⟩
                      simp only [go_sem, ir89, E_spec_l26Faults_l1, R_spec_l26Faults_l1, ir89_b0, ir89_k0, ir89_o0, ir89_r0, hk1, hk2, lhk2, xhk2, fhk3, ghk4nn, hk5, ghk6, hk6, lhk6, xhk6, ghk7a, ghk8aa, ghk8abn, hk9]
                · obtain ⟨ghk8aa, ghk8ab⟩ := and_t ghk8a
                  have ghk8abn := no_t ghk8ab
                  try simp only [go_sem, n1, n2, n3, n4, hk1, hk2, ghk4nn, hk5, ghk6, hk6, ghk7a] at ghk8aa
                  all_goals
                  try simp only [go_sem, n1, n2, n3, n4, hk1, hk2, ghk4nn, hk5, ghk6, hk6, ghk7a, ghk8aa] at ghk8abn
                  all_goals
                  try simp only [go_sem, n1, n2, n3, n4, hk1, hk2, ghk4nn, hk5, ghk6, hk6, ghk7a, ghk8aa, ghk8abn] at ghk8b
                  all_goals
                  rcases it_some h with ⟨hk9, h⟩ | ⟨hk9, h⟩
                  · try simp only [go_sem, n1, n2, n3, n4, hk1, hk2, ghk4nn, hk5, ghk6, hk6, ghk7a, ghk8aa, ghk8abn, ghk8b] at hk9
                    all_goals
                    obtain rfl := so_some h
                    refine ⟨0, fun L hL => ?_⟩
                    simp only [go_sem, ir89, E_spec_l26Faults_l1, R_spec_l26Faults_l1, ir89_b0, ir89_k0, ir89_o0, ir89_r0, hk1, hk2, lhk2, xhk2, fhk3, ghk4nn, hk5, ghk6, hk6, lhk6, xhk6, ghk7a, ghk8aa, ghk8abn, ghk8b, hk9]
                  · try simp only [go_sem, n1, n2, n3, n4, hk1, hk2, ghk4nn, hk5, ghk6, hk6, ghk7a, ghk8aa, ghk8abn, ghk8b] at hk9
                    all_goals
                    obtain rfl := so_some h
                    refine ⟨0, fun L hL => ?_⟩
                    simp only [go_sem, ir89, E_spec_l26Faults_l1, R_spec_l26Faults_l1, ir89_b0, ir89_k0, ir89_o0, ir89_r0, hk1, hk2, lhk2, xhk2, fhk3, ghk4nn, hk5, ghk6, hk6, lhk6, xhk6, ghk7a, ghk8aa, ghk8abn, ghk8b, hk9]
            · have ghk7bn := no_f ghk7b
              try simp only [go_sem, n1, n2, n3, n4, hk1, hk2, ghk4nn, hk5, ghk6, hk6] at ghk7a
              all_goals
              try simp only [go_sem, n1, n2, n3, n4, hk1, hk2, ghk4nn, hk5, ghk6, hk6, ghk7a] at ghk7bn
              all_goals
              obtain ⟨hk8, h⟩ := ck_some h
              rcases or_split hk8 with ⟨ghk8, hk8⟩ | ghk8
              · try simp only [go_sem, n1, n2, n3, n4, hk1, hk2, ghk4nn, hk5, ghk6, hk6, ghk7a, ghk7bn] at ghk8
                all_goals
                have lhk8 := ix_lt hk8
                have xhk8 := getD_mapD Fault_av faults lhk8
                try simp only [go_sem] at lhk8
                try simp only [go_sem] at xhk8
                try simp only [go_sem, n1, n2, n3, n4, hk1, hk2, ghk4nn, hk5, ghk6, hk6, ghk7a, ghk7bn, ghk8] at hk8
                all_goals
                rcases it_some h with ⟨hk9, h⟩ | ⟨hk9, h⟩
                · try simp only [go_sem, n1, n2, n3, n4, hk1, hk2, ghk4nn, hk5, ghk6, hk6, ghk7a, ghk7bn, ghk8, hk8] at hk9
                  all_goals
                  obtain rfl := so_some h
                  refine ⟨0, fun L hL => ?_⟩
                  simp only [go_sem, ir89, E_spec_l26Faults_l1, R_spec_l26Faults_l1, ir89_b0, ir89_k0, ir89_o0, ir89_r0, hk1, hk2, lhk2, xhk2, fhk3, ghk4nn, hk5, ghk6, hk6, lhk6, xhk6, ghk7a, ghk7bn, ghk8, hk8, lhk8, xhk8, hk9]
                · try simp only [go_sem, n1, n2, n3, n4, hk1, hk2, ghk4nn, hk5, ghk6, hk6, ghk7a, ghk7bn, ghk8, hk8] at hk9
                  all_goals
                  obtain rfl := so_some h
                  refine ⟨0, fun L hL => ?_⟩
                  simp only [go_sem, ir89, E_spec_l26Faults_l1, R_spec_l26Faults_l1, ir89_b0, ir89_k0, ir89_o0, ir89_r0, hk1, hk2, lhk2, xhk2, fhk3, ghk4nn, hk5, ghk6, hk6, lhk6, xhk6, ghk7a, ghk7bn, ghk8, hk8, lhk8, xhk8, hk9]
              · rcases and_f ghk8 with ghk8a | ⟨ghk8a, ghk8b⟩
                · rcases and_f ghk8a with ghk8aa | ⟨ghk8aa, ghk8ab⟩
                  · try simp only [go_sem, n1, n2, n3, n4, hk1, hk2, ghk4nn, hk5, ghk6, hk6, ghk7a, ghk7bn] at ghk8aa
                    all_goals
                    rcases it_some h with ⟨hk9, h⟩ | ⟨hk9, h⟩
                    · try simp only [go_sem, n1, n2, n3, n4, hk1, hk2, ghk4nn, hk5, ghk6, hk6, ghk7a, ghk7bn, ghk8aa] at hk9
                      all_goals
                      obtain rfl := so_some h
                      refine ⟨0, fun L hL => ?_⟩
                      simp only [go_sem, ir89, E_spec_l26Faults_l1, R_spec_l26Faults_l1, ir89_b0, ir89_k0, ir89_o0, ir89_r0, hk1, hk2, lhk2, xhk2, fhk3, ghk4nn, hk5, ghk6, hk6, lhk6, xhk6, ghk7a, ghk7bn, ghk8aa, hk9]
                    · try simp only [go_sem, n1, n2, n3, n4, hk1, hk2, ghk4nn, hk5, ghk6, hk6, ghk7a, ghk7bn, ghk8aa] at hk9
                      all_goals
                      obtain rfl := so_some h
                      refine ⟨0, fun L hL => ?_⟩
                      simp only [go_sem, ir89, E_spec_l26Faults_l1, R_spec_l26Faults_l1, ir89_b0, ir89_k0, ir89_o0, ir89_r0, hk1, hk2, lhk2, xhk2, fhk3, ghk4nn, hk5, ghk6, hk6, lhk6, xhk6, ghk7a, ghk7bn, ghk8aa, hk9]
                  · have ghk8abn := no_f ghk8ab
                    try simp only [go_sem, n1, n2, n3, n4, hk1, hk2, ghk4nn, hk5, ghk6, hk6, ghk7a, ghk7bn] at ghk8aa
                    all_goals
                    try simp only [go_sem, n1, n2, n3, n4, hk1, hk2, ghk4nn, hk5, ghk6, hk6, ghk7a, ghk7bn, ghk8aa] at ghk8abn
                    all_goals
                    rcases it_some h with ⟨hk9, h⟩ | ⟨hk9, h⟩
                    · try simp only [go_sem, n1, n2, n3, n4, hk1, hk2, ghk4nn, hk5, ghk6, hk6, ghk7a, ghk7bn, ghk8aa, ghk8abn] at hk9
                      all_goals
                      obtain rfl := so_some h
                      refine ⟨0, fun L hL => ?_⟩
                      simp only [go_sem, ir89, E_spec_l26Faults_l1, R_spec_l26Faults_l1, ir89_b0, ir89_k0, ir89_o0, ir89_r0, hk1, hk2, lhk2, xhk2, fhk3, ghk4nn, hk5, ghk6, hk6, lhk6, xhk6, ghk7a, ghk7bn, ghk8aa, ghk8abn, hk9]
                    · try simp only [go_sem, n1, n2, n3, n4, hk1, hk2, ghk4nn, hk5, ghk6, hk6, ghk7a, ghk7bn, ghk8aa, ghk8abn] at hk9
                      all_goals
                      obtain rfl := so_some h
                      refine ⟨0, fun L hL => ?_⟩
                      simp only [go_sem, ir89, E_spec_l26Faults_l1, R_spec_l26Faults_l1, ir89_b0, ir89_k0, ir89_o0, ir89_r0, hk1, hk2, lhk2, xhk2, fhk3, ghk4nn, hk5, ghk6, hk6, lhk6, xhk6, ghk7a, ghk7bn, ghk8aa, ghk8abn, hk9]
                · obtain ⟨ghk8aa, ghk8ab⟩ := and_t ghk8a
                  have ghk8abn := no_t ghk8ab
                  try simp only [go_sem, n1, n2, n3, n4, hk1, hk2, ghk4nn, hk5, ghk6, hk6, ghk7a, ghk7bn] at ghk8aa
                  all_goals
                  try simp only [go_sem, n1, n2, n3, n4, hk1, hk2, ghk4nn, hk5, ghk6, hk6, ghk7a, ghk7bn, ghk8aa] at ghk8abn
                  all_goals
                  try simp only [go_sem, n1, n2, n3, n4, hk1, hk2, ghk4nn, hk5, ghk6, hk6, ghk7a, ghk7bn, ghk8aa, ghk8abn] at ghk8b
                  all_goals
                  rcases it_some h with ⟨hk9, h⟩ | ⟨hk9, h⟩
                  · try simp only [go_sem, n1, n2, n3, n4, hk1, hk2, ghk4nn, hk5, ghk6, hk6, ghk7a, ghk7bn, ghk8aa, ghk8abn, ghk8b] at hk9
                    all_goals
                    obtain rfl := so_some h
                    refine ⟨0, fun L hL => ?_⟩
                    simp only [go_sem, ir89, E_spec_l26Faults_l1, R_spec_l26Faults_l1, ir89_b0, ir89_k0, ir89_o0, ir89_r0, hk1, hk2, lhk2, xhk2, fhk3, ghk4nn, hk5, ghk6, hk6, lhk6, xhk6, ghk7a, ghk7bn, ghk8aa, ghk8abn, ghk8b, hk9]
                  · try simp only [go_sem, n1, n2, n3, n4, hk1, hk2, ghk4nn, hk5, ghk6, hk6, ghk7a, ghk7bn, ghk8aa, ghk8abn, ghk8b] at hk9
                    all_goals
                    obtain rfl := so_some h
                    refine ⟨0, fun L hL => ?_⟩
                    simp only [go_sem, ir89, E_spec_l26Faults_l1, R_spec_l26Faults_l1, ir89_b0, ir89_k0, ir89_o0, ir89_r0, hk1, hk2, lhk2, xhk2, fhk3, ghk4nn, hk5, ghk6, hk6, lhk6, xhk6, ghk7a, ghk7bn, ghk8aa, ghk8abn, ghk8b, hk9]
        · try simp only [go_sem, n1, n2, n3, n4, hk1, hk2, ghk4nn, hk5] at ghk6
          all_goals
          obtain ⟨hk7, h⟩ := ck_some h
          rcases or_split hk7 with ⟨ghk7, hk7⟩ | ghk7
          · try simp only [go_sem, n1, n2, n3, n4, hk1, hk2, ghk4nn, hk5, ghk6] at ghk7
            all_goals
            have lhk7 := ix_lt hk7
            have xhk7 := getD_mapD Fault_av faults lhk7
            try simp only [go_sem] at lhk7
            try simp only [go_sem] at xhk7
            try simp only [go_sem, n1, n2, n3, n4, hk1, hk2, ghk4nn, hk5, ghk6, ghk7] at hk7
            all_goals
            obtain ⟨hk8, h⟩ := ck_some h
            rcases or_split hk8 with ⟨ghk8, hk8⟩ | ghk8
            · try simp only [go_sem, n1, n2, n3, n4, hk1, hk2, ghk4nn, hk5, ghk6, ghk7, hk7] at ghk8
              all_goals
              have lhk8 := ix_lt hk8
              have xhk8 := getD_mapD Fault_av faults lhk8
              try simp only [go_sem] at lhk8
              try simp only [go_sem] at xhk8
              try simp only [go_sem, n1, n2, n3, n4, hk1, hk2, ghk4nn, hk5, ghk6, ghk7, hk7, ghk8] at hk8
              all_goals
              rcases it_some h with ⟨hk9, h⟩ | ⟨hk9, h⟩
              · try simp only [go_sem, n1, n2, n3, n4, hk1, hk2, ghk4nn, hk5, ghk6, ghk7, hk7, ghk8, hk8] at hk9
                all_goals
                obtain rfl := so_some h
                refine ⟨0, fun L hL => ?_⟩
                simp only [go_sem, ir89, E_spec_l26Faults_l1, R_spec_l26Faults_l1, ir89_b0, ir89_k0, ir89_o0, ir89_r0, hk1, hk2, lhk2, xhk2, fhk3, ghk4nn, hk5, ghk6, ghk7, hk7, lhk7, xhk7, ghk8, hk8, lhk8, xhk8, hk9]
              · try simp only [go_sem, n1, n2, n3, n4, hk1, hk2, ghk4nn, hk5, ghk6, ghk7, hk7, ghk8, hk8] at hk9
                all_goals
                obtain rfl := so_some h
                refine ⟨0, fun L hL => ?_⟩
                simp only [go_sem, ir89, E_spec_l26Faults_l1, R_spec_l26Faults_l1, ir89_b0, ir89_k0, ir89_o0, ir89_r0, hk1, hk2, lhk2, xhk2, fhk3, ghk4nn, hk5, ghk6, ghk7, hk7, lhk7, xhk7, ghk8, hk8, lhk8, xhk8, hk9]
            · rcases and_f ghk8 with ghk8a | ⟨ghk8a, ghk8b⟩
              · rcases and_f ghk8a with ghk8aa | ⟨ghk8aa, ghk8ab⟩
                · try simp only [go_sem, n1, n2, n3, n4, hk1, hk2, ghk4nn, hk5, ghk6, ghk7, hk7] at ghk8aa
                  all_goals
                  rcases it_some h with ⟨hk9, h⟩ | ⟨hk9, h⟩
                  · try simp only [go_sem, n1, n2, n3, n4, hk1, hk2, ghk4nn, hk5, ghk6, ghk7, hk7, ghk8aa] at hk9
                    all_goals
                    obtain rfl := so_some h
                    refine ⟨0, fun L hL => ?_⟩
                    simp only [go_sem, ir89, E_spec_l26Faults_l1, R_spec_l26Faults_l1, ir89_b0, ir89_k0, ir89_o0, ir89_r0, hk1, hk2, lhk2, xhk2, fhk3, ghk4nn, hk5, ghk6, ghk7, hk7, lhk7, xhk7, ghk8aa, hk9]
                  · try simp only [go_sem, n1, n2, n3, n4, hk1, hk2, ghk4nn, hk5, ghk6, ghk7, hk7, ghk8aa] at hk9
                    all_goals
                    obtain rfl := so_some h
                    refine ⟨0, fun L hL => ?_⟩
                    simp only [go_sem, ir89, E_spec_l26Faults_l1, R_spec_l26Faults_l1, ir89_b0, ir89_k0, ir89_o0, ir89_r0, hk1, hk2, lhk2, xhk2, fhk3, ghk4nn, hk5, ghk6, ghk7, hk7, lhk7, xhk7, ghk8aa, hk9]
                · have ghk8abn := no_f ghk8ab
                  try simp only [go_sem, n1, n2, n3, n4, hk1, hk2, ghk4nn, hk5, ghk6, ghk7, hk7] at ghk8aa
                  all_goals
                  try simp only [go_sem, n1, n2, n3, n4, hk1, hk2, ghk4nn, hk5, ghk6, ghk7, hk7, ghk8aa] at ghk8abn
                  all_goals
                  rcases it_some h with ⟨hk9, h⟩ | ⟨hk9, h⟩
                  · try simp only [go_sem, n1, n2, n3, n4, hk1, hk2, ghk4nn, hk5, ghk6, ghk7, hk7, ghk8aa, ghk8abn] at hk9
                    all_goals
                    obtain rfl := so_some h
                    refine ⟨0, fun L hL => ?_⟩
                    simp only [go_sem, ir89, E_spec_l26Faults_l1, R_spec_l26Faults_l1, ir89_b0, ir89_k0, ir89_o0, ir89_r0, hk1, hk2, lhk2, xhk2, fhk3, ghk4nn, hk5, ghk6, ghk7, hk7, lhk7, xhk7, ghk8aa, ghk8abn, hk9]
                  · try simp only [go_sem, n1, n2, n3, n4, hk1, hk2, ghk4nn, hk5, ghk6, ghk7, hk7, ghk8aa, ghk8abn] at hk9
                    all_goals
                    obtain rfl := so_some h
                    refine ⟨0, fun L hL => ?_⟩
                    simp only [go_sem, ir89, E_spec_l26Faults_l1, R_spec_l26Faults_l1, ir89_b0, ir89_k0, ir89_o0, ir89_r0, hk1, hk2, lhk2, xhk2, fhk3, ghk4nn, hk5, ghk6, ghk7, hk7, lhk7, xhk7, ghk8aa, ghk8abn, hk9]
              · obtain ⟨ghk8aa, ghk8ab⟩ := and_t ghk8a
                have ghk8abn := no_t ghk8ab
                try simp only [go_sem, n1, n2, n3, n4, hk1, hk2, ghk4nn, hk5, ghk6, ghk7, hk7] at ghk8aa
                all_goals
                try simp only [go_sem, n1, n2, n3, n4, hk1, hk2, ghk4nn, hk5, ghk6, ghk7, hk7, ghk8aa] at ghk8abn
                all_goals
                try simp only [go_sem, n1, n2, n3, n4, hk1, hk2, ghk4nn, hk5, ghk6, ghk7, hk7, ghk8aa, ghk8abn] at ghk8b
                all_goals
                rcases it_some h with ⟨hk9, h⟩ | ⟨hk9, h⟩
                · try simp only [go_sem, n1, n2, n3, n4, hk1, hk2, ghk4nn, hk5, ghk6, ghk7, hk7, ghk8aa, ghk8abn, ghk8b] at hk9
                  all_goals
                  obtain rfl := so_some h
                  refine ⟨0, fun L hL => ?_⟩
                  simp only [go_sem, ir89, E_spec_l26Faults_l1, R_spec_l26Faults_l1, ir89_b0, ir89_k0, ir89_o0, ir89_r0, hk1, hk2, lhk2, xhk2, fhk3, ghk4nn, hk5, ghk6, ghk7, hk7, lhk7, xhk7, ghk8aa, ghk8abn, ghk8b, hk9]
                · try simp only [go_sem, n1, n2, n3, n4, hk1, hk2, ghk4nn, hk5, ghk6, ghk7, hk7, ghk8aa, ghk8abn, ghk8b] at hk9
                  all_goals
                  obtain rfl := so_some h
                  refine ⟨0, fun L hL => ?_⟩
                  simp only [go_sem, ir89, E_spec_l26Faults_l1, R_spec_l26Faults_l1, ir89_b0, ir89_k0, ir89_o0, ir89_r0, hk1, hk2, lhk2, xhk2, fhk3, ghk4nn, hk5, ghk6, ghk7, hk7, lhk7, xhk7, ghk8aa, ghk8abn, ghk8b, hk9]
          · rcases and_f ghk7 with ghk7a | ⟨ghk7a, ghk7b⟩
            · try simp only [go_sem, n1, n2, n3, n4, hk1, hk2, ghk4nn, hk5, ghk6] at ghk7a
              all_goals
              obtain ⟨hk8, h⟩ := ck_some h
              rcases or_split hk8 with ⟨ghk8, hk8⟩ | ghk8
              · try simp only [go_sem, n1, n2, n3, n4, hk1, hk2, ghk4nn, hk5, ghk6, ghk7a] at ghk8
                all_goals
                have lhk8 := ix_lt hk8
                have xhk8 := getD_mapD Fault_av faults lhk8
                try simp only [go_sem] at lhk8
                try simp only [go_sem] at xhk8
                try simp only [go_sem, n1, n2, n3, n4, hk1, hk2, ghk4nn, hk5, ghk6, ghk7a, ghk8] at hk8
                all_goals
                rcases it_some h with ⟨hk9, h⟩ | ⟨hk9, h⟩
                · try simp only [go_sem, n1, n2, n3, n4, hk1, hk2, ghk4nn, hk5, ghk6, ghk7a, ghk8, hk8] at hk9
                  all_goals
                  obtain rfl := so_some h
                  refine ⟨0, fun L hL => ?_⟩
                  simp only [go_sem, ir89, E_spec_l26Faults_l1, R_spec_l26Faults_l1, ir89_b0, ir89_k0, ir89_o0, ir89_r0, hk1, hk2, lhk2, xhk2, fhk3, ghk4nn, hk5, ghk6, ghk7a, ghk8, hk8, lhk8, xhk8, hk9]
                · try simp only [go_sem, n1, n2, n3, n4, hk1, hk2, ghk4nn, hk5, ghk6, ghk7a, ghk8, hk8] at hk9
                  all_goals
                  obtain rfl := so_some h
                  refine ⟨0, fun L hL => ?_⟩
                  simp only [go_sem, ir89, E_spec_l26Faults_l1, R_spec_l26Faults_l1, ir89_b0, ir89_k0, ir89_o0, ir89_r0, hk1, hk2, lhk2, xhk2, fhk3, ghk4nn, hk5, ghk6, ghk7a, ghk8, hk8, lhk8, xhk8, hk9]
              · rcases and_f ghk8 with ghk8a | ⟨ghk8a, ghk8b⟩
                · rcases and_f ghk8a with ghk8aa | ⟨ghk8aa, ghk8ab⟩
                  · try simp only [go_sem, n1, n2, n3, n4, hk1, hk2, ghk4nn, hk5, ghk6, ghk7a] at ghk8aa
                    all_goals
                    rcases it_some h with ⟨hk9, h⟩ | ⟨hk9, h⟩
                    · try simp only [go_sem, n1, n2, n3, n4, hk1, hk2, ghk4nn, hk5, ghk6, ghk7a, ghk8aa] at hk9
                      all_goals
                      obtain rfl := so_some h
                      refine ⟨0, fun L hL => ?_⟩
                      simp only [go_sem, ir89, E_spec_l26Faults_l1, R_spec_l26Faults_l1, ir89_b0, ir89_k0, ir89_o0, ir89_r0, hk1, hk2, lhk2, xhk2, fhk3, ghk4nn, hk5, ghk6, ghk7a, ghk8aa, hk9]
                    · try simp only [go_sem, n1, n2, n3, n4, hk1, hk2, ghk4nn, hk5, ghk6, ghk7a, ghk8aa] at hk9
                      all_goals
                      obtain rfl := so_some h
                      refine ⟨0, fun L hL => ?_⟩
                      simp only [go_sem, ir89, E_spec_l26Faults_l1, R_spec_l26Faults_l1, ir89_b0, ir89_k0, ir89_o0, ir89_r0, hk1, hk2, lhk2, xhk2, fhk3, ghk4nn, hk5, ghk6, ghk7a, ghk8aa, hk9]
                  · have ghk8abn := no_f ghk8ab
                    try simp only [go_sem, n1, n2, n3, n4, hk1, hk2, ghk4nn, hk5, ghk6, ghk7a] at ghk8aa
                    all_goals
                    try simp only [go_sem, n1, n2, n3, n4, hk1, hk2, ghk4nn, hk5, ghk6, ghk7a, ghk8aa] at ghk8abn
                    all_goals
                    rcases it_some h with ⟨hk9, h⟩ | ⟨hk9, h⟩
                    · try simp only [go_sem, n1, n2, n3, n4, hk1, hk2, ghk4nn, hk5, ghk6, ghk7a, ghk8aa, ghk8abn] at hk9
                      all_goals
                      obtain rfl := so_some h
                      refine ⟨0, fun L hL => ?_⟩
                      simp only [go_sem, ir89, E_spec_l26Faults_l1, R_spec_l26Faults_l1, ir89_b0, ir89_k0, ir89_o0, ir89_r0, hk1, hk2, lhk2, xhk2, fhk3, ghk4nn, hk5, ghk6, ghk7a, ghk8aa, ghk8abn, hk9]
                    · try simp only [go_sem, n1, n2, n3, n4, hk1, hk2, ghk4nn, hk5, ghk6, ghk7a, ghk8aa, ghk8abn] at hk9
                      all_goals
                      obtain rfl := so_some h
                      refine ⟨0, fun L hL => ?_⟩
                      simp only [go_sem, ir89, E_spec_l26Faults_l1, R_spec_l26Faults_l1, ir89_b0, ir89_k0, ir89_o0, ir89_r0, hk1, hk2, lhk2, xhk2, fhk3, ghk4nn, hk5, ghk6, ghk7a, ghk8aa, ghk8abn, hk9]
                · obtain ⟨ghk8aa, ghk8ab⟩ := and_t ghk8a
                  have ghk8abn := no_t ghk8ab
                  try simp only [go_sem, n1, n2, n3, n4, hk1, hk2, ghk4nn, hk5, ghk6, ghk7a] at ghk8aa
                  all_goals
                  try simp only [go_sem, n1, n2, n3, n4, hk1, hk2, ghk4nn, hk5, ghk6, ghk7a, ghk8aa] at ghk8abn
                  all_goals
                  try simp only [go_sem, n1, n2, n3, n4, hk1, hk2, ghk4nn, hk5, ghk6, ghk7a, ghk8aa, ghk8abn] at ghk8b
                  all_goals
                  rcases it_some h with ⟨hk9, h⟩ | ⟨hk9, h⟩
                  · try simp only [go_sem, n1, n2, n3, n4, hk1, hk2, ghk4nn, hk5, ghk6, ghk7a, ghk8aa, ghk8abn, ghk8b] at hk9
                    all_goals
                    obtain rfl := so_some h
                    refine ⟨0, fun L hL => ?_⟩
                    simp only [go_sem, ir89, E_spec_l26Faults_l1, R_spec_l26Faults_l1, ir89_b0, ir89_k0, ir89_o0, ir89_r0, hk1, hk2, lhk2, xhk2, fhk3, ghk4nn, hk5, ghk6, ghk7a, ghk8aa, ghk8abn, ghk8b, hk9]
                  · try simp only [go_sem, n1, n2, n3, n4, hk1, hk2, ghk4nn, hk5, ghk6, ghk7a, ghk8aa, ghk8abn, ghk8b] at hk9
                    all_goals
                    obtain rfl := so_some h
                    refine ⟨0, fun L hL => ?_⟩
                    simp only [go_sem, ir89, E_spec_l26Faults_l1, R_spec_l26Faults_l1, ir89_b0, ir89_k0, ir89_o0, ir89_r0, hk1, hk2, lhk2, xhk2, fhk3, ghk4nn, hk5, ghk6, ghk7a, ghk8aa, ghk8abn, ghk8b, hk9]
            · have ghk7bn := no_f ghk7b
              try simp only [go_sem, n1, n2, n3, n4, hk1, hk2, ghk4nn, hk5, ghk6] at ghk7a
              all_goals
              try simp only [go_sem, n1, n2, n3, n4, hk1, hk2, ghk4nn, hk5, ghk6, ghk7a] at ghk7bn
              all_goals
              obtain ⟨hk8, h⟩ := ck_some h
              rcases or_split hk8 with ⟨ghk8, hk8⟩ | ghk8
              · try simp only [go_sem, n1, n2, n3, n4, hk1, hk2, ghk4nn, hk5, ghk6, ghk7a, ghk7bn] at ghk8
                all_goals
                have lhk8 := ix_lt hk8
                have xhk8 := getD_mapD Fault_av faults lhk8
                try simp only [go_sem] at lhk8
                try simp only [go_sem] at xhk8
                try simp only [go_sem, n1, n2, n3, n4, hk1, hk2, ghk4nn, hk5, ghk6, ghk7a, ghk7bn, ghk8] at hk8
                all_goals
                rcases it_some h with ⟨hk9, h⟩ | ⟨hk9, h⟩
                · try simp only [go_sem, n1, n2, n3, n4, hk1, hk2, ghk4nn, hk5, ghk6, ghk7a, ghk7bn, ghk8, hk8] at hk9
                  all_goals
                  obtain rfl := so_some h
                  refine ⟨0, fun L hL => ?_⟩
                  simp only [go_sem, ir89, E_spec_l26Faults_l1, R_spec_l26Faults_l1, ir89_b0, ir89_k0, ir89_o0, ir89_r0, hk1, hk2, lhk2, xhk2, fhk3, ghk4nn, hk5, ghk6, ghk7a, ghk7bn, ghk8, hk8, lhk8, xhk8, hk9]
                · try simp only [go_sem, n1, n2, n3, n4, hk1, hk2, ghk4nn, hk5, ghk6, ghk7a, ghk7bn, ghk8, hk8] at hk9
                  all_goals
                  obtain rfl := so_some h
                  refine ⟨0, fun L hL => ?_⟩
                  simp only [go_sem, ir89, E_spec_l26Faults_l1, R_spec_l26Faults_l1, ir89_b0, ir89_k0, ir89_o0, ir89_r0, hk1, hk2, lhk2, xhk2, fhk3, ghk4nn, hk5, ghk6, ghk7a, ghk7bn, ghk8, hk8, lhk8, xhk8, hk9]
              · rcases and_f ghk8 with ghk8a | ⟨ghk8a, ghk8b⟩
                · rcases and_f ghk8a with ghk8aa | ⟨ghk8aa, ghk8ab⟩
                  · try simp only [go_sem, n1, n2, n3, n4, hk1, hk2, ghk4nn, hk5, ghk6, ghk7a, ghk7bn] at ghk8aa
                    all_goals
                    rcases it_some h with ⟨hk9, h⟩ | ⟨hk9, h⟩
                    · try simp only [go_sem, n1, n2, n3, n4, hk1, hk2, ghk4nn, hk5, ghk6, ghk7a, ghk7bn, ghk8aa] at hk9
                      all_goals
                      obtain rfl := so_some h
                      refine ⟨0, fun L hL => ?_⟩
                      simp only [go_sem, ir89, E_spec_l26Faults_l1, R_spec_l26Faults_l1, ir89_b0, ir89_k0, ir89_o0, ir89_r0, hk1, hk2, lhk2, xhk2, fhk3, ghk4nn, hk5, ghk6, ghk7a, ghk7bn, ghk8aa, hk9]
                    · try simp only [go_sem, n1, n2, n3, n4, hk1, hk2, ghk4nn, hk5, ghk6, ghk7a, ghk7bn, ghk8aa] at hk9
                      all_goals
                      obtain rfl := so_some h
                      refine ⟨0, fun L hL => ?_⟩
                      simp only [go_sem, ir89, E_spec_l26Faults_l1, R_spec_l26Faults_l1, ir89_b0, ir89_k0, ir89_o0, ir89_r0, hk1, hk2, lhk2, xhk2, fhk3, ghk4nn, hk5, ghk6, ghk7a, ghk7bn, ghk8aa, hk9]
                  · have ghk8abn := no_f ghk8ab
                    try simp only [go_sem, n1, n2, n3, n4, hk1, hk2, ghk4nn, hk5, ghk6, ghk7a, ghk7bn] at ghk8aa
                    all_goals
                    try simp only [go_sem, n1, n2, n3, n4, hk1, hk2, ghk4nn, hk5, ghk6, ghk7a, ghk7bn, ghk8aa] at ghk8abn
                    all_goals
                    rcases it_some h with ⟨hk9, h⟩ | ⟨hk9, h⟩
                    · try simp only [go_sem, n1, n2, n3, n4, hk1, hk2, ghk4nn, hk5, ghk6, ghk7a, ghk7bn, ghk8aa, ghk8abn] at hk9
                      all_goals
                      obtain rfl := so_some h
                      refine ⟨0, fun L hL => ?_⟩
                      simp only [go_sem, ir89, E_spec_l26Faults_l1, R_spec_l26Faults_l1, ir89_b0, ir89_k0, ir89_o0, ir89_r0, hk1, hk2, lhk2, xhk2, fhk3, ghk4nn, hk5, ghk6, ghk7a, ghk7bn, ghk8aa, ghk8abn, hk9]
                    · try simp only [go_sem, n1, n2, n3, n4, hk1, hk2, ghk4nn, hk5, ghk6, ghk7a, ghk7bn, ghk8aa, ghk8abn] at hk9
                      all_goals
                      obtain rfl := so_some h
                      refine ⟨0, fun L hL => ?_⟩
                      simp only [go_sem, ir89, E_spec_l26Faults_l1, R_spec_l26Faults_l1, ir89_b0, ir89_k0, ir89_o0, ir89_r0, hk1, hk2, lhk2, xhk2, fhk3, ghk4nn, hk5, ghk6, ghk7a, ghk7bn, ghk8aa, ghk8abn, hk9]
                · obtain ⟨ghk8aa, ghk8ab⟩ := and_t ghk8a
                  have ghk8abn := no_t ghk8ab
                  try simp only [go_sem, n1, n2, n3, n4, hk1, hk2, ghk4nn, hk5, ghk6, ghk7a, ghk7bn] at ghk8aa
                  all_goals
                  try simp only [go_sem, n1, n2, n3, n4, hk1, hk2, ghk4nn, hk5, ghk6, ghk7a, ghk7bn, ghk8aa] at ghk8abn
                  all_goals
                  try simp only [go_sem, n1, n2, n3, n4, hk1, hk2, ghk4nn, hk5, ghk6, ghk7a, ghk7bn, ghk8aa, ghk8abn] at ghk8b
                  all_goals
                  rcases it_some h with ⟨hk9, h⟩ | ⟨hk9, h⟩
                  · try simp only [go_sem, n1, n2, n3, n4, hk1, hk2, ghk4nn, hk5, ghk6, ghk7a, ghk7bn, ghk8aa, ghk8abn, ghk8b] at hk9
                    all_goals
                    obtain rfl := so_some h
                    refine ⟨0, fun L hL => ?_⟩
                    simp only [go_sem, ir89, E_spec_l26Faults_l1, R_spec_l26Faults_l1, ir89_b0, ir89_k0, ir89_o0, ir89_r0, hk1, hk2, lhk2, xhk2, fhk3, ghk4nn, hk5, ghk6, ghk7a, ghk7bn, ghk8aa, ghk8abn, ghk8b, hk9]
                  · try simp only [go_sem, n1, n2, n3, n4, hk1, hk2, ghk4nn, hk5, ghk6, ghk7a, ghk7bn, ghk8aa, ghk8abn, ghk8b] at hk9
                    all_goals
                    obtain rfl := so_some h
                    refine ⟨0, fun L hL => ?_⟩
                    simp only [go_sem, ir89, E_spec_l26Faults_l1, R_spec_l26Faults_l1, ir89_b0, ir89_k0, ir89_o0, ir89_r0, hk1, hk2, lhk2, xhk2, fhk3, ghk4nn, hk5, ghk6, ghk7a, ghk7bn, ghk8aa, ghk8abn, ghk8b, hk9]
  · try simp only [go_sem, n1, n2, n3, n4] at hk1
    all_goals
    obtain rfl := so_some h
    refine ⟨0, fun L hL => ?_⟩
    simp only [go_sem, ir89, E_spec_l26Faults_l1, R_spec_l26Faults_l1, ir89_b0, ir89_k0, ir89_o0, ir89_r0, hk1]

theorem Fs_spec_l26Faults {faults : List Fault} {count : Int} {y_ : Bool} (h : spec_l26Faults faults count = some y_) : c_spec_l26Faults.F [.sl 2 (List.map Fault_av faults), .int .i64 count] = ⟨true, .bool y_, [.any, .any]⟩ := by
  refine mkF_E rfl ?_
  dsimp only [spec_l26Faults] at h
  obtain ⟨y_10, hk10, h⟩ := bd_some h
  obtain ⟨Lhk10, ehk10⟩ := spec_l26Faults_l1_ex hk10
  rcases y_10 with y_10a | y_10b
  · dsimp only at h
    obtain rfl := so_some h
    refine ⟨Lhk10, fun L hL => ?_⟩
    have ehk10 := ehk10 L (by omega)
    try simp only [go_sem, E_spec_l26Faults_l1, R_spec_l26Faults_l1, ir89_k0, ir89_o0, ir89_r0] at ehk10
    simp only [go_sem, ir89, E_spec_l26Faults_l1, R_spec_l26Faults_l1, ir89_k0, ir89_o0, ir89_r0, ehk10]
  · dsimp only at h
    obtain rfl := so_some h
    refine ⟨Lhk10, fun L hL => ?_⟩
    have ehk10 := ehk10 L (by omega)
    try simp only [go_sem, E_spec_l26Faults_l1, R_spec_l26Faults_l1, ir89_k0, ir89_o0, ir89_r0] at ehk10
    simp only [go_sem, ir89, E_spec_l26Faults_l1, R_spec_l26Faults_l1, ir89_k0, ir89_o0, ir89_r0, ehk10]


def ir54_v : List Nat := [0, 1, 4]
def ir54 : AFn := ⟨2, 3, .seq (.region false [
    ⟨.var 2, 4, none, .mov (.c (.int .i64 (0)))⟩])
 (.seq (.test false [
    ⟨.push, 5, none, .mov (.v 0)⟩,
    ⟨.push, 6, none, .call 50 [(.s 0)]⟩,
    ⟨.push, 7, none, .un .not (.s 0)⟩] (.s 0)
  (.seq (.region false [
      ⟨.var 2, 4, none, .mov (.c (.int .i64 (1)))⟩])
   (.ret))
  (.skip))
 (.seq (.test false [
    ⟨.push, 8, none, .mov (.v 1)⟩,
    ⟨.push, 9, none, .mov (.v 0)⟩,
    ⟨.push, 10, none, .len false (.s 0)⟩,
    ⟨.push, 11, none, .call 89 [(.s 2), (.s 0)]⟩,
    ⟨.push, 12, none, .un .not (.s 0)⟩] (.s 0)
  (.seq (.region false [
      ⟨.var 2, 4, none, .mov (.c (.int .i64 (2)))⟩])
   (.ret))
  (.skip))
 (.seq (.region false [
    ⟨.var 2, 4, none, .mov (.c (.int .i64 (0)))⟩])
 (.ret)))), [.t 2]⟩
noncomputable def t_spec_l26Code : List (Nat × Ctr) := [(50, c_spec_l06Ok), (89, c_spec_l26Faults)]
theorem lk_spec_l26Code_50 : look t_spec_l26Code 50 = some c_spec_l06Ok := rfl
theorem lk_spec_l26Code_89 : look t_spec_l26Code 89 = some c_spec_l26Faults := rfl
noncomputable def c_spec_l26Code : Ctr := mkF t_spec_l26Code ir54 [.bor, .bor]
theorem s_spec_l26Code : Sound Try.prog 54 c_spec_l26Code := mkF_sound _ rfl (snd_cons s_spec_l06Ok (snd_cons s_spec_l26Faults snd_nil)) (by kernel_rfl : chkFn Try.prog 54 ir54 ir54_v = true)
theorem M_spec_l26Code : c_spec_l26Code.modes = [.bor, .bor] := rfl
theorem Fl_spec_l26Code : c_spec_l26Code.flat = true := rfl
attribute [go_sem] M_spec_l26Code Fl_spec_l26Code
attribute [go_sem] lk_spec_l26Code_50 lk_spec_l26Code_89
theorem Fs_spec_l26Code {list : List Estimate} {faults : List Fault} {y_ : Int} (h : spec_l26Code list faults = some y_) : c_spec_l26Code.F [.sl 5 (List.map Estimate_av list), .sl 2 (List.map Fault_av faults)] = ⟨true, .int .i64 y_, [.any, .any]⟩ := by
  refine mkF_E rfl ?_
  dsimp only [spec_l26Code] at h
  obtain ⟨y_1, hk1, h⟩ := bd_some h
  have fhk1 := Fs_spec_l06Ok hk1
  try simp only [go_sem] at fhk1
  rcases it_some h with ⟨hk2, h⟩ | ⟨hk2, h⟩
  · try simp only [go_sem, n1, n2, n3, n4] at hk2
    all_goals
    obtain rfl := so_some h
    refine ⟨0, fun L hL => ?_⟩
    simp only [go_sem, ir54, fhk1, hk2]
  · try simp only [go_sem, n1, n2, n3, n4] at hk2
    all_goals
    obtain ⟨y_3, hk3, h⟩ := bd_some h
    have fhk3 := Fs_spec_l26Faults hk3
    try simp only [go_sem] at fhk3
    rcases it_some h with ⟨hk4, h⟩ | ⟨hk4, h⟩
    · try simp only [go_sem, n1, n2, n3, n4, hk2] at hk4
      all_goals
      obtain rfl := so_some h
      refine ⟨0, fun L hL => ?_⟩
      simp only [go_sem, ir54, fhk1, hk2, fhk3, hk4]
    · try simp only [go_sem, n1, n2, n3, n4, hk2] at hk4
      all_goals
      obtain rfl := so_some h
      refine ⟨0, fun L hL => ?_⟩
      simp only [go_sem, ir54, fhk1, hk2, fhk3, hk4]


def ir55_b0 : IR := .seq (.test false [
    ⟨.push, 6, none, .mov (.v 3)⟩,
    ⟨.push, 7, none, .mov (.v 0)⟩,
    ⟨.push, 8, none, .len false (.s 0)⟩,
    ⟨.push, 9, none, .bin false .lss (.s 2) (.s 0)⟩] (.s 0)
  (.skip)
  (.exit 0))
 (.seq (.block 1 (.test false [
     ⟨.push, 12, none, .mov (.v 0)⟩,
     ⟨.push, 13, none, .mov (.v 3)⟩,
     ⟨.push, 14, none, .ixAddr 2 (.s 1) (.s 0)⟩,
     ⟨.push, 15, none, .fldAddr 0 (.s 0)⟩,
     ⟨.push, 16, none, .load false 1 (.s 0)⟩,
     ⟨.push, 17, none, .mov (.v 1)⟩,
     ⟨.push, 18, none, .bin false .eql (.s 1) (.s 0)⟩] (.s 0)
   (.seq (.region false [
       ⟨.var 2, 4, none, .mov (.c (.bool true))⟩])
    (.ret))
   (.skip)))
 (.region false [
   ⟨.push, 10, none, .mov (.v 3)⟩,
   ⟨.push, 11, none, .bin false .add (.s 0) (.c (.int .i64 (1)))⟩,
   ⟨.var 3, 5, none, .mov (.s 0)⟩]))
def ir55_k0 : List Bool := [true, true, false, true]
def ir55_o0 : List Bool := [false, false, false, false]
def ir55_r0 : List Bool := [false, false, true, false]
def ir55_v : List Nat := [0, 1, 4, 5]
def ir55 : AFn := ⟨2, 4, .seq (.region false [
    ⟨.var 2, 4, none, .mov (.c (.bool false))⟩])
 (.seq (.seq (.region false [
     ⟨.var 3, 5, none, .mov (.c (.int .i64 (0)))⟩])
  (.block 0 (.loop ir55_k0 ir55_o0 ir55_r0 ir55_b0)))
 (.seq (.region false [
    ⟨.var 2, 4, none, .mov (.c (.bool false))⟩])
 (.ret))), [.t 2]⟩
noncomputable def t_spec_l26Has : List (Nat × Ctr) := []
noncomputable def c_spec_l26Has : Ctr := mkF t_spec_l26Has ir55 [.bor, .bor]
theorem s_spec_l26Has : Sound Try.prog 55 c_spec_l26Has := mkF_sound _ rfl snd_nil (by kernel_rfl : chkFn Try.prog 55 ir55 ir55_v = true)
theorem M_spec_l26Has : c_spec_l26Has.modes = [.bor, .bor] := rfl
theorem Fl_spec_l26Has : c_spec_l26Has.flat = true := rfl
attribute [go_sem] M_spec_l26Has Fl_spec_l26Has
def E_spec_l26Has_l1 (faults : List Fault) (index : Int) : Int → St
  | i => ⟨[.sl 2 (List.map Fault_av faults), .int .i64 index, .any, .int .i64 i], [], [], true⟩
def R_spec_l26Has_l1 (faults : List Fault) (index : Int) : (Unit ⊕ Bool) → Res
  | .inl y => (.exit 0, ⟨[.any, .any, .any, .any], [], [], true⟩)
  | .inr y => (.ret, ⟨[.any, .any, .bool y, .any], [], [], true⟩)
theorem spec_l26Has_l1_ex {faults : List Fault} {index : Int} {sgm_ : Int} {rho_ : Unit ⊕ Bool} (h : whileE (spec_l26Has_l1 faults index) sgm_ = some rho_) : ∃ L0, ∀ L, L0 ≤ L → iter (exec (look t_spec_l26Has) L ir55_b0) ir55_k0 ir55_o0 ir55_r0 L (E_spec_l26Has_l1 faults index sgm_) = R_spec_l26Has_l1 faults index rho_ := by
  refine loop_ex (E := E_spec_l26Has_l1 faults index) (R := R_spec_l26Has_l1 faults index) (fun y => by first | (intro c; cases c) | (rcases y with y | y <;> (intro c; cases c)) | (rcases y with y | y | y <;> (intro c; cases c))) ?_ h
  clear h
  intro i o_ h
  dsimp only [spec_l26Has_l1] at h
  rcases it_some h with ⟨hk1, h⟩ | ⟨hk1, h⟩
  · try simp only [go_sem, n1, n2, n3, n4] at hk1
    all_goals
    obtain ⟨hk2, h⟩ := ck_some h
    have lhk2 := ix_lt hk2
    have xhk2 := getD_mapD Fault_av faults lhk2
    try simp only [go_sem] at lhk2
    try simp only [go_sem] at xhk2
    try simp only [go_sem, n1, n2, n3, n4, hk1] at hk2
    all_goals
    rcases it_some h with ⟨hk3, h⟩ | ⟨hk3, h⟩
    · try simp only [go_sem, n1, n2, n3, n4, hk1, hk2] at hk3
      all_goals
      obtain rfl := so_some h
      refine ⟨0, fun L hL => ?_⟩
      simp only [go_sem, ir55, E_spec_l26Has_l1, R_spec_l26Has_l1, ir55_b0, ir55_k0, ir55_o0, ir55_r0, hk1, hk2, lhk2, xhk2, hk3]
    · try simp only [go_sem, n1, n2, n3, n4, hk1, hk2] at hk3
      all_goals
      obtain rfl := so_some h
      refine ⟨0, fun L hL => ?_⟩
      simp only [go_sem, ir55, E_spec_l26Has_l1, R_spec_l26Has_l1, ir55_b0, ir55_k0, ir55_o0, ir55_r0, hk1, hk2, lhk2, xhk2, hk3]
  · try simp only [go_sem, n1, n2, n3, n4] at hk1
    all_goals
    obtain rfl := so_some h
    refine ⟨0, fun L hL => ?_⟩
    simp only [go_sem, ir55, E_spec_l26Has_l1, R_spec_l26Has_l1, ir55_b0, ir55_k0, ir55_o0, ir55_r0, hk1]

theorem Fs_spec_l26Has {faults : List Fault} {index : Int} {y_ : Bool} (h : spec_l26Has faults index = some y_) : c_spec_l26Has.F [.sl 2 (List.map Fault_av faults), .int .i64 index] = ⟨true, .bool y_, [.any, .any]⟩ := by
  refine mkF_E rfl ?_
  dsimp only [spec_l26Has] at h
  obtain ⟨y_4, hk4, h⟩ := bd_some h
  obtain ⟨Lhk4, ehk4⟩ := spec_l26Has_l1_ex hk4
  rcases y_4 with y_4a | y_4b
  · dsimp only at h
    obtain rfl := so_some h
    refine ⟨Lhk4, fun L hL => ?_⟩
    have ehk4 := ehk4 L (by omega)
    try simp only [go_sem, E_spec_l26Has_l1, R_spec_l26Has_l1, ir55_k0, ir55_o0, ir55_r0] at ehk4
    simp only [go_sem, ir55, E_spec_l26Has_l1, R_spec_l26Has_l1, ir55_k0, ir55_o0, ir55_r0, ehk4]
  · dsimp only at h
    obtain rfl := so_some h
    refine ⟨Lhk4, fun L hL => ?_⟩
    have ehk4 := ehk4 L (by omega)
    try simp only [go_sem, E_spec_l26Has_l1, R_spec_l26Has_l1, ir55_k0, ir55_o0, ir55_r0] at ehk4
    simp only [go_sem, ir55, E_spec_l26Has_l1, R_spec_l26Has_l1, ir55_k0, ir55_o0, ir55_r0, ehk4]


def ir17_b0 : IR := .seq (.test false [
    ⟨.push, 16, none, .mov (.v 6)⟩,
    ⟨.push, 17, none, .mov (.v 0)⟩,
    ⟨.push, 18, none, .len false (.s 0)⟩,
    ⟨.push, 19, none, .bin false .lss (.s 2) (.s 0)⟩] (.s 0)
  (.skip)
  (.exit 0))
 (.seq (.block 1 (.test false [
     ⟨.push, 22, none, .mov (.v 1)⟩,
     ⟨.push, 23, none, .mov (.v 6)⟩,
     ⟨.push, 24, none, .call 55 [(.s 1), (.s 0)]⟩,
     ⟨.push, 25, none, .un .not (.s 0)⟩] (.s 0)
   (.region false [
      ⟨.push, 26, none, .mov (.v 5)⟩,
      ⟨.push, 27, none, .mov (.v 0)⟩,
      ⟨.push, 28, none, .mov (.v 6)⟩,
      ⟨.push, 29, none, .ixAddr 5 (.s 1) (.s 0)⟩,
      ⟨.push, 30, none, .load true 5 (.s 0)⟩,
      ⟨.push, 31, none, .mkSl 5 (.agg [.int .i64 (0), .str [], .str [], .int .i64 (0), .bool false]) 1 [(0, (.s 0))]⟩,
      ⟨.push, 32, none, .app 5 56 (.agg [.int .i64 (0), .str [], .str [], .int .i64 (0), .bool false]) (.s 5) (.s 0)⟩,
      ⟨.var 5, 7, none, .mov (.s 0)⟩])
   (.skip)))
 (.region false [
   ⟨.push, 20, none, .mov (.v 6)⟩,
   ⟨.push, 21, none, .bin false .add (.s 0) (.c (.int .i64 (1)))⟩,
   ⟨.var 6, 8, none, .mov (.s 0)⟩]))
def ir17_k0 : List Bool := [true, true, false, false, false, true, true]
def ir17_o0 : List Bool := [false, false, false, false, false, true, false]
def ir17_r0 : List Bool := [false, false, true, true, false, false, false]
def ir17_v : List Nat := [0, 1, 4, 5, 6, 7, 8]
def ir17 : AFn := ⟨2, 7, .seq (.region false [
    ⟨.var 2, 4, none, .newnil 5⟩,
    ⟨.var 3, 5, none, .mov (.c (.int .i64 (0)))⟩])
 (.seq (.region false [
    ⟨.push, 9, none, .mov (.v 0)⟩,
    ⟨.push, 10, none, .mov (.v 1)⟩,
    ⟨.push, 11, none, .call 54 [(.s 1), (.s 0)]⟩,
    ⟨.var 4, 6, none, .mov (.s 0)⟩])
 (.seq (.test false [
    ⟨.push, 12, none, .mov (.v 4)⟩,
    ⟨.push, 13, none, .bin false .neq (.s 0) (.c (.int .i64 (0)))⟩] (.s 0)
  (.seq (.region false [
      ⟨.push, 14, none, .mov (.v 4)⟩,
      ⟨.var 2, 4, none, .newnil 5⟩,
      ⟨.var 3, 5, none, .mov (.s 0)⟩])
   (.ret))
  (.skip))
 (.seq (.region false [
    ⟨.push, 15, none, .mkSl 5 (.agg [.int .i64 (0), .str [], .str [], .int .i64 (0), .bool false]) 0 []⟩,
    ⟨.var 5, 7, none, .mov (.s 0)⟩])
 (.seq (.seq (.region false [
     ⟨.var 6, 8, none, .mov (.c (.int .i64 (0)))⟩])
  (.block 0 (.loop ir17_k0 ir17_o0 ir17_r0 ir17_b0)))
 (.seq (.region false [
    ⟨.push, 33, none, .mov (.v 5)⟩,
    ⟨.var 2, 4, none, .mov (.s 0)⟩,
    ⟨.var 3, 5, none, .mov (.c (.int .i64 (0)))⟩])
 (.ret)))))), [.t 2, .t 3]⟩
noncomputable def t_spec_CleanEstimates : List (Nat × Ctr) := [(54, c_spec_l26Code), (55, c_spec_l26Has)]
theorem lk_spec_CleanEstimates_54 : look t_spec_CleanEstimates 54 = some c_spec_l26Code := rfl
theorem lk_spec_CleanEstimates_55 : look t_spec_CleanEstimates 55 = some c_spec_l26Has := rfl
noncomputable def c_spec_CleanEstimates : Ctr := mkF t_spec_CleanEstimates ir17 [.bor, .bor]
theorem s_spec_CleanEstimates : Sound Try.prog 17 c_spec_CleanEstimates := mkF_sound _ rfl (snd_cons s_spec_l26Code (snd_cons s_spec_l26Has snd_nil)) (by kernel_rfl : chkFn Try.prog 17 ir17 ir17_v = true)
theorem M_spec_CleanEstimates : c_spec_CleanEstimates.modes = [.bor, .bor] := rfl
theorem Fl_spec_CleanEstimates : c_spec_CleanEstimates.flat = true := rfl
attribute [go_sem] M_spec_CleanEstimates Fl_spec_CleanEstimates
attribute [go_sem] lk_spec_CleanEstimates_54 lk_spec_CleanEstimates_55
def E_spec_CleanEstimates_l1 (list : List Estimate) (faults : List Fault) : ((List Estimate) × Int) → St
  | (out, i) => ⟨[.sl 5 (List.map Estimate_av list), .sl 2 (List.map Fault_av faults), .any, .any, .any, .own 3200000, .int .i64 i], [], [(3200000, ⟨5, List.map Estimate_av out⟩)], true⟩
def R_spec_CleanEstimates_l1 (list : List Estimate) (faults : List Fault) (y : (List Estimate)) : Res := (.exit 0, ⟨[.any, .any, .any, .any, .any, .own 3200000, .any], [], [(3200000, ⟨5, List.map Estimate_av y⟩)], true⟩)
theorem spec_CleanEstimates_l1_ex {list : List Estimate} {faults : List Fault} {sgm_ : (List Estimate) × Int} {rho_ : (List Estimate)} (h : whileE (spec_CleanEstimates_l1 list faults) sgm_ = some rho_) : ∃ L0, ∀ L, L0 ≤ L → iter (exec (look t_spec_CleanEstimates) L ir17_b0) ir17_k0 ir17_o0 ir17_r0 L (E_spec_CleanEstimates_l1 list faults sgm_) = R_spec_CleanEstimates_l1 list faults rho_ := by
  refine loop_ex (E := E_spec_CleanEstimates_l1 list faults) (R := R_spec_CleanEstimates_l1 list faults) (fun y => by first | (intro c; cases c) | (rcases y with y | y <;> (intro c; cases c)) | (rcases y with y | y | y <;> (intro c; cases c))) ?_ h
  clear h
  rintro ⟨out, i⟩ o_ h
  dsimp only [spec_CleanEstimates_l1] at h
  rcases it_some h with ⟨hk3, h⟩ | ⟨hk3, h⟩
  · try simp only [go_sem, n1, n2, n3, n4] at hk3
    all_goals
    obtain ⟨y_4, hk4, h⟩ := bd_some h
    have fhk4 := Fs_spec_l26Has hk4
    try simp only [go_sem] at fhk4
    rcases it_some h with ⟨hk5, h⟩ | ⟨hk5, h⟩
    · try simp only [go_sem, n1, n2, n3, n4, hk3] at hk5
      all_goals
      obtain ⟨hk6, h⟩ := ck_some h
      have lhk6 := ix_lt hk6
      have xhk6 := getD_mapD Estimate_av list lhk6
      try simp only [go_sem] at lhk6
      try simp only [go_sem] at xhk6
      try simp only [go_sem, n1, n2, n3, n4, hk3, hk5] at hk6
      all_goals
      obtain ⟨hk7, h⟩ := ck_some h
      try simp only [go_sem, n1, n2, n3, n4, hk3, hk5, hk6] at hk7
      all_goals
      obtain rfl := so_some h
      refine ⟨0, fun L hL => ?_⟩
      simp only [go_sem, ir17, E_spec_CleanEstimates_l1, R_spec_CleanEstimates_l1, ir17_b0, ir17_k0, ir17_o0, ir17_r0, hk3, fhk4, hk5, hk6, lhk6, xhk6, hk7]
    · try simp only [go_sem, n1, n2, n3, n4, hk3] at hk5
      all_goals
      obtain rfl := so_some h
      refine ⟨0, fun L hL => ?_⟩
      simp only [go_sem, ir17, E_spec_CleanEstimates_l1, R_spec_CleanEstimates_l1, ir17_b0, ir17_k0, ir17_o0, ir17_r0, hk3, fhk4, hk5]
  · try simp only [go_sem, n1, n2, n3, n4] at hk3
    all_goals
    obtain rfl := so_some h
    refine ⟨0, fun L hL => ?_⟩
    simp only [go_sem, ir17, E_spec_CleanEstimates_l1, R_spec_CleanEstimates_l1, ir17_b0, ir17_k0, ir17_o0, ir17_r0, hk3]

theorem Fs_spec_CleanEstimates {list : List Estimate} {faults : List Fault} {y_ : (List Estimate) × Int} (h : spec_CleanEstimates list faults = some y_) : c_spec_CleanEstimates.F [.sl 5 (List.map Estimate_av list), .sl 2 (List.map Fault_av faults)] = ⟨true, .tup [.fresh 5 (List.map Estimate_av y_.1), .int .i64 y_.2], [.any, .any]⟩ := by
  refine mkF_E (by simp only [flatA, flatB, flat1, List.all_cons, List.all_nil, Bool.and_self, flatE_map (f := Estimate_av) (fun _ => rfl)]) ?_
  dsimp only [spec_CleanEstimates] at h
  obtain ⟨y_1, hk1, h⟩ := bd_some h
  have fhk1 := Fs_spec_l26Code hk1
  try simp only [go_sem] at fhk1
  rcases it_some h with ⟨hk2, h⟩ | ⟨hk2, h⟩
  · try simp only [go_sem, n1, n2, n3, n4] at hk2
    all_goals
    obtain rfl := so_some h
    refine ⟨0, fun L hL => ?_⟩
    simp only [go_sem, ir17, E_spec_CleanEstimates_l1, R_spec_CleanEstimates_l1, ir17_k0, ir17_o0, ir17_r0, fhk1, hk2]
  · try simp only [go_sem, n1, n2, n3, n4] at hk2
    all_goals
    obtain ⟨y_8, hk8, h⟩ := bd_some h
    obtain ⟨Lhk8, ehk8⟩ := spec_CleanEstimates_l1_ex hk8
    obtain rfl := so_some h
    refine ⟨Lhk8, fun L hL => ?_⟩
    have ehk8 := ehk8 L (by omega)
    try simp only [go_sem, E_spec_CleanEstimates_l1, R_spec_CleanEstimates_l1, ir17_k0, ir17_o0, ir17_r0] at ehk8
    simp only [go_sem, ir17, E_spec_CleanEstimates_l1, R_spec_CleanEstimates_l1, ir17_k0, ir17_o0, ir17_r0, fhk1, hk2, ehk8]


def ir45_v : List Nat := [0, 1, 2, 6]
def ir45 : AFn := ⟨3, 4, .seq (.region false [
    ⟨.var 3, 6, none, .mov (.c (.bool false))⟩])
 (.seq (.region false [
    ⟨.push, 7, none, .mov (.v 0)⟩,
    ⟨.push, 8, none, .mov (.v 1)⟩,
    ⟨.push, 9, none, .bin false .geq (.s 1) (.s 0)⟩,
    ⟨.push, 10, none, .mov (.s 0)⟩,
    ⟨.push, 11, (some ((.s 0), true)), .mov (.v 0)⟩,
    ⟨.push, 12, (some ((.s 1), true)), .mov (.v 2)⟩,
    ⟨.push, 13, (some ((.s 2), true)), .bin false .leq (.s 1) (.s 0)⟩,
    ⟨.push, 14, none, .pick (.s 3) (.s 0) (.c (.bool false))⟩,
    ⟨.var 3, 6, none, .mov (.s 0)⟩])
 (.ret)), [.t 3]⟩
noncomputable def t_impl_in : List (Nat × Ctr) := []
noncomputable def c_impl_in : Ctr := mkF t_impl_in ir45 [.bor, .bor, .bor]
theorem s_impl_in : Sound Try.prog 45 c_impl_in := mkF_sound _ rfl snd_nil (by kernel_rfl : chkFn Try.prog 45 ir45 ir45_v = true)
theorem M_impl_in : c_impl_in.modes = [.bor, .bor, .bor] := rfl
theorem Fl_impl_in : c_impl_in.flat = true := rfl
attribute [go_sem] M_impl_in Fl_impl_in
theorem Fs_impl_in {n : Int} {low : Int} {high : Int} {y_ : Bool} (h : impl_in n low high = some y_) : c_impl_in.F [.int .i64 n, .int .i64 low, .int .i64 high] = ⟨true, .bool y_, [.any, .any, .any]⟩ := by
  refine mkF_E rfl ?_
  dsimp only [impl_in] at h
  obtain rfl := so_some h
  refine ⟨0, fun L hL => ?_⟩
  simp only [go_sem, ir45]


def ir113_v : List Nat := [0, 2]
def ir113 : AFn := ⟨1, 2, .seq (.region false [
    ⟨.var 1, 2, none, .mov (.c (.bool false))⟩])
 (.seq (.region false [
    ⟨.push, 3, none, .mov (.v 0)⟩,
    ⟨.push, 4, none, .call 45 [(.s 0), (.c (.int .i64 (0))), (.c (.int .i64 (10000000)))]⟩,
    ⟨.var 1, 2, none, .mov (.s 0)⟩])
 (.ret)), [.t 1]⟩
noncomputable def t_impl_ValidTime : List (Nat × Ctr) := [(45, c_impl_in)]
theorem lk_impl_ValidTime_45 : look t_impl_ValidTime 45 = some c_impl_in := rfl
noncomputable def c_impl_ValidTime : Ctr := mkF t_impl_ValidTime ir113 [.bor]
theorem s_impl_ValidTime : Sound Try.prog 113 c_impl_ValidTime := mkF_sound _ rfl (snd_cons s_impl_in snd_nil) (by kernel_rfl : chkFn Try.prog 113 ir113 ir113_v = true)
theorem M_impl_ValidTime : c_impl_ValidTime.modes = [.bor] := rfl
theorem Fl_impl_ValidTime : c_impl_ValidTime.flat = true := rfl
attribute [go_sem] M_impl_ValidTime Fl_impl_ValidTime
attribute [go_sem] lk_impl_ValidTime_45
theorem Fs_impl_ValidTime {t : Int} {y_ : Bool} (h : impl_ValidTime t = some y_) : c_impl_ValidTime.F [.int .i64 t] = ⟨true, .bool y_, [.any]⟩ := by
  refine mkF_E rfl ?_
  dsimp only [impl_ValidTime] at h
  obtain ⟨y_1, hk1, h⟩ := bd_some h
  have fhk1 := Fs_impl_in hk1
  try simp only [go_sem] at fhk1
  obtain rfl := so_some h
  refine ⟨0, fun L hL => ?_⟩
  simp only [go_sem, ir113, fhk1]


def ir40_b0 : IR := .seq (.region false [
    ⟨.var 7, 17, none, .bin false .lss (.v 6) (.v 5)⟩])
 (.seq (.cond (.v 7) (.skip)
  (.exit 0))
 (.seq (.block 1 (.seq (.region false [
      ⟨.push, 18, none, .mov (.v 6)⟩,
      ⟨.var 2, 3, none, .mov (.s 0)⟩])
   (.seq (.region false [
      ⟨.push, 19, none, .mov (.v 0)⟩,
      ⟨.push, 20, none, .mov (.v 2)⟩,
      ⟨.push, 21, none, .ixStr (.s 1) (.s 0)⟩,
      ⟨.push, 22, none, .bin false .geq (.s 0) (.c (.int .u8 (97)))⟩,
      ⟨.push, 23, none, .mov (.s 0)⟩,
      ⟨.push, 24, (some ((.s 0), true)), .mov (.v 0)⟩,
      ⟨.push, 25, (some ((.s 1), true)), .mov (.v 2)⟩,
      ⟨.push, 26, (some ((.s 2), true)), .ixStr (.s 1) (.s 0)⟩,
      ⟨.push, 27, (some ((.s 3), true)), .bin false .leq (.s 0) (.c (.int .u8 (122)))⟩,
      ⟨.push, 28, none, .pick (.s 4) (.s 0) (.c (.bool false))⟩,
      ⟨.var 3, 4, none, .mov (.s 0)⟩])
   (.seq (.region false [
      ⟨.push, 29, none, .mov (.v 0)⟩,
      ⟨.push, 30, none, .mov (.v 2)⟩,
      ⟨.push, 31, none, .ixStr (.s 1) (.s 0)⟩,
      ⟨.push, 32, none, .bin false .geq (.s 0) (.c (.int .u8 (48)))⟩,
      ⟨.push, 33, none, .mov (.s 0)⟩,
      ⟨.push, 34, (some ((.s 0), true)), .mov (.v 0)⟩,
      ⟨.push, 35, (some ((.s 1), true)), .mov (.v 2)⟩,
      ⟨.push, 36, (some ((.s 2), true)), .ixStr (.s 1) (.s 0)⟩,
      ⟨.push, 37, (some ((.s 3), true)), .bin false .leq (.s 0) (.c (.int .u8 (57)))⟩,
      ⟨.push, 38, none, .pick (.s 4) (.s 0) (.c (.bool false))⟩,
      ⟨.push, 39, none, .mov (.s 0)⟩,
      ⟨.push, 40, (some ((.s 0), false)), .mov (.v 0)⟩,
      ⟨.push, 41, (some ((.s 1), false)), .mov (.v 2)⟩,
      ⟨.push, 42, (some ((.s 2), false)), .ixStr (.s 1) (.s 0)⟩,
      ⟨.push, 43, (some ((.s 3), false)), .bin false .eql (.s 0) (.c (.int .u8 (45)))⟩,
      ⟨.push, 44, none, .pick (.s 4) (.c (.bool true)) (.s 0)⟩,
      ⟨.var 4, 5, none, .mov (.s 0)⟩])
   (.test false [
     ⟨.push, 45, none, .mov (.v 3)⟩,
     ⟨.push, 46, none, .un .not (.s 0)⟩,
     ⟨.push, 47, none, .mov (.s 0)⟩,
     ⟨.push, 48, (some ((.s 0), true)), .mov (.v 2)⟩,
     ⟨.push, 49, (some ((.s 1), true)), .bin false .eql (.s 0) (.c (.int .i64 (0)))⟩,
     ⟨.push, 50, (some ((.s 2), true)), .mov (.s 0)⟩,
     ⟨.push, 51, (some ((.s 0), false)), .mov (.v 4)⟩,
     ⟨.push, 52, (some ((.s 1), false)), .un .not (.s 0)⟩,
     ⟨.push, 53, (some ((.s 5), true)), .pick (.s 2) (.c (.bool true)) (.s 0)⟩,
     ⟨.push, 54, none, .pick (.s 6) (.s 0) (.c (.bool false))⟩] (.s 0)
   (.seq (.region false [
       ⟨.var 1, 2, none, .mov (.c (.bool false))⟩])
    (.ret))
   (.skip))))))
 (.region false [
   ⟨.push, 55, none, .bin false .add (.v 6) (.c (.int .i64 (1)))⟩,
   ⟨.var 6, 16, none, .mov (.s 0)⟩])))
def ir40_k0 : List Bool := [true, false, false, false, false, true, true, false]
def ir40_o0 : List Bool := [false, false, false, false, false, false, false, false]
def ir40_r0 : List Bool := [false, true, false, false, false, false, false, false]
def ir40_v : List Nat := [0, 2, 3, 4, 5, 15, 16, 17]
def ir40 : AFn := ⟨1, 8, .seq (.region false [
    ⟨.var 1, 2, none, .mov (.c (.bool false))⟩])
 (.seq (.test false [
    ⟨.push, 6, none, .mov (.v 0)⟩,
    ⟨.push, 7, none, .len true (.s 0)⟩,
    ⟨.push, 8, none, .bin false .lss (.s 0) (.c (.int .i64 (1)))⟩,
    ⟨.push, 9, none, .mov (.s 0)⟩,
    ⟨.push, 10, (some ((.s 0), false)), .mov (.v 0)⟩,
    ⟨.push, 11, (some ((.s 1), false)), .len true (.s 0)⟩,
    ⟨.push, 12, (some ((.s 2), false)), .bin false .gtr (.s 0) (.c (.int .i64 (12)))⟩,
    ⟨.push, 13, none, .pick (.s 3) (.c (.bool true)) (.s 0)⟩] (.s 0)
  (.seq (.region false [
      ⟨.var 1, 2, none, .mov (.c (.bool false))⟩])
   (.ret))
  (.skip))
 (.seq (.seq (.region false [
     ⟨.push, 14, none, .mov (.v 0)⟩,
     ⟨.var 5, 15, none, .len true (.s 0)⟩,
     ⟨.var 6, 16, none, .mov (.c (.int .i64 (0)))⟩])
  (.block 0 (.loop ir40_k0 ir40_o0 ir40_r0 ir40_b0)))
 (.seq (.region false [
    ⟨.var 1, 2, none, .mov (.c (.bool true))⟩])
 (.ret)))), [.t 1]⟩
noncomputable def t_impl_IsName : List (Nat × Ctr) := []
noncomputable def c_impl_IsName : Ctr := mkF t_impl_IsName ir40 [.bor]
theorem s_impl_IsName : Sound Try.prog 40 c_impl_IsName := mkF_sound _ rfl snd_nil (by kernel_rfl : chkFn Try.prog 40 ir40 ir40_v = true)
theorem M_impl_IsName : c_impl_IsName.modes = [.bor] := rfl
theorem Fl_impl_IsName : c_impl_IsName.flat = true := rfl
attribute [go_sem] M_impl_IsName Fl_impl_IsName
def E_impl_IsName_l1 (s_ : List UInt8) (t15 : Int) : Int → St
  | t16 => ⟨[.str s_, .any, .any, .any, .any, .int .i64 t15, .int .i64 t16, .any], [], [], true⟩
def R_impl_IsName_l1 (s_ : List UInt8) (t15 : Int) : (Unit ⊕ Bool) → Res
  | .inl y => (.exit 0, ⟨[.any, .any, .any, .any, .any, .any, .any, .any], [], [], true⟩)
  | .inr y => (.ret, ⟨[.any, .bool y, .any, .any, .any, .any, .any, .any], [], [], true⟩)
theorem impl_IsName_l1_ex {s_ : List UInt8} {t15 : Int} {sgm_ : Int} {rho_ : Unit ⊕ Bool} (h : whileE (impl_IsName_l1 s_ t15) sgm_ = some rho_) : ∃ L0, ∀ L, L0 ≤ L → iter (exec (look t_impl_IsName) L ir40_b0) ir40_k0 ir40_o0 ir40_r0 L (E_impl_IsName_l1 s_ t15 sgm_) = R_impl_IsName_l1 s_ t15 rho_ := by
  refine loop_ex (E := E_impl_IsName_l1 s_ t15) (R := R_impl_IsName_l1 s_ t15) (fun y => by first | (intro c; cases c) | (rcases y with y | y <;> (intro c; cases c)) | (rcases y with y | y | y <;> (intro c; cases c))) ?_ h
  clear h
  intro t16 o_ h
  dsimp only [impl_IsName_l1] at h
  rcases it_some h with ⟨hk2, h⟩ | ⟨hk2, h⟩
  · try simp only [go_sem, n1, n2, n3, n4] at hk2
    all_goals
    obtain ⟨hk3, h⟩ := ck_some h
    try simp only [go_sem, n1, n2, n3, n4, hk2] at hk3
    all_goals
    rcases it_some h with ⟨hk4, h⟩ | ⟨hk4, h⟩
    · try simp only [go_sem, n1, n2, n3, n4, hk2, hk3] at hk4
      all_goals
      obtain rfl := so_some h
      refine ⟨0, fun L hL => ?_⟩
      simp only [go_sem, ir40, E_impl_IsName_l1, R_impl_IsName_l1, ir40_b0, ir40_k0, ir40_o0, ir40_r0, hk2, hk3, hk4]
    · try simp only [go_sem, n1, n2, n3, n4, hk2, hk3] at hk4
      all_goals
      obtain rfl := so_some h
      refine ⟨0, fun L hL => ?_⟩
      simp only [go_sem, ir40, E_impl_IsName_l1, R_impl_IsName_l1, ir40_b0, ir40_k0, ir40_o0, ir40_r0, hk2, hk3, hk4]
  · try simp only [go_sem, n1, n2, n3, n4] at hk2
    all_goals
    obtain rfl := so_some h
    refine ⟨0, fun L hL => ?_⟩
    simp only [go_sem, ir40, E_impl_IsName_l1, R_impl_IsName_l1, ir40_b0, ir40_k0, ir40_o0, ir40_r0, hk2]

theorem Fs_impl_IsName {s_ : List UInt8} {y_ : Bool} (h : impl_IsName s_ = some y_) : c_impl_IsName.F [.str s_] = ⟨true, .bool y_, [.any]⟩ := by
  refine mkF_E rfl ?_
  dsimp only [impl_IsName] at h
  rcases it_some h with ⟨hk1, h⟩ | ⟨hk1, h⟩
  · try simp only [go_sem, n1, n2, n3, n4] at hk1
    all_goals
    obtain rfl := so_some h
    refine ⟨0, fun L hL => ?_⟩
    simp only [go_sem, ir40, E_impl_IsName_l1, R_impl_IsName_l1, ir40_k0, ir40_o0, ir40_r0, hk1]
  · try simp only [go_sem, n1, n2, n3, n4] at hk1
    all_goals
    obtain ⟨y_5, hk5, h⟩ := bd_some h
    obtain ⟨Lhk5, ehk5⟩ := impl_IsName_l1_ex hk5
    rcases y_5 with y_5a | y_5b
    · dsimp only at h
      obtain rfl := so_some h
      refine ⟨Lhk5, fun L hL => ?_⟩
      have ehk5 := ehk5 L (by omega)
      try simp only [go_sem, E_impl_IsName_l1, R_impl_IsName_l1, ir40_k0, ir40_o0, ir40_r0] at ehk5
      simp only [go_sem, ir40, E_impl_IsName_l1, R_impl_IsName_l1, ir40_k0, ir40_o0, ir40_r0, hk1, ehk5]
    · dsimp only at h
      obtain rfl := so_some h
      refine ⟨Lhk5, fun L hL => ?_⟩
      have ehk5 := ehk5 L (by omega)
      try simp only [go_sem, E_impl_IsName_l1, R_impl_IsName_l1, ir40_k0, ir40_o0, ir40_r0] at ehk5
      simp only [go_sem, ir40, E_impl_IsName_l1, R_impl_IsName_l1, ir40_k0, ir40_o0, ir40_r0, hk1, ehk5]


def ir114_v : List Nat := [0, 2]
def ir114 : AFn := ⟨1, 2, .seq (.region false [
    ⟨.var 1, 2, none, .mov (.c (.bool false))⟩])
 (.seq (.region false [
    ⟨.push, 3, none, .mov (.v 0)⟩,
    ⟨.push, 4, none, .call 45 [(.s 0), (.c (.int .i64 (-2000))), (.c (.int .i64 (20000)))]⟩,
    ⟨.var 1, 2, none, .mov (.s 0)⟩])
 (.ret)), [.t 1]⟩
noncomputable def t_impl_ValidMag : List (Nat × Ctr) := [(45, c_impl_in)]
theorem lk_impl_ValidMag_45 : look t_impl_ValidMag 45 = some c_impl_in := rfl
noncomputable def c_impl_ValidMag : Ctr := mkF t_impl_ValidMag ir114 [.bor]
theorem s_impl_ValidMag : Sound Try.prog 114 c_impl_ValidMag := mkF_sound _ rfl (snd_cons s_impl_in snd_nil) (by kernel_rfl : chkFn Try.prog 114 ir114 ir114_v = true)
theorem M_impl_ValidMag : c_impl_ValidMag.modes = [.bor] := rfl
theorem Fl_impl_ValidMag : c_impl_ValidMag.flat = true := rfl
attribute [go_sem] M_impl_ValidMag Fl_impl_ValidMag
attribute [go_sem] lk_impl_ValidMag_45
theorem Fs_impl_ValidMag {m : Int} {y_ : Bool} (h : impl_ValidMag m = some y_) : c_impl_ValidMag.F [.int .i64 m] = ⟨true, .bool y_, [.any]⟩ := by
  refine mkF_E rfl ?_
  dsimp only [impl_ValidMag] at h
  obtain ⟨y_1, hk1, h⟩ := bd_some h
  have fhk1 := Fs_impl_in hk1
  try simp only [go_sem] at fhk1
  obtain rfl := so_some h
  refine ⟨0, fun L hL => ?_⟩
  simp only [go_sem, ir114, fhk1]


def ir79_v : List Nat := [0, 1, 2]
def ir79 : AFn := ⟨1, 3, .seq (.region false [
    ⟨.var 1, 1, none, .box (.v 0)⟩,
    ⟨.var 2, 2, none, .mov (.c (.bool false))⟩])
 (.seq (.region false [
    ⟨.push, 3, none, .fldAddr 0 (.v 1)⟩,
    ⟨.push, 4, none, .load false 1 (.s 0)⟩,
    ⟨.push, 5, none, .call 113 [(.s 0)]⟩,
    ⟨.push, 6, none, .mov (.s 0)⟩,
    ⟨.push, 7, (some ((.s 0), true)), .fldAddr 1 (.v 1)⟩,
    ⟨.push, 8, (some ((.s 1), true)), .load false 1 (.s 0)⟩,
    ⟨.push, 9, (some ((.s 2), true)), .call 40 [(.s 0)]⟩,
    ⟨.push, 10, none, .pick (.s 3) (.s 0) (.c (.bool false))⟩,
    ⟨.push, 11, none, .mov (.s 0)⟩,
    ⟨.push, 12, (some ((.s 0), true)), .fldAddr 2 (.v 1)⟩,
    ⟨.push, 13, (some ((.s 1), true)), .load false 1 (.s 0)⟩,
    ⟨.push, 14, (some ((.s 2), true)), .call 40 [(.s 0)]⟩,
    ⟨.push, 15, none, .pick (.s 3) (.s 0) (.c (.bool false))⟩,
    ⟨.push, 16, none, .mov (.s 0)⟩,
    ⟨.push, 17, (some ((.s 0), true)), .fldAddr 3 (.v 1)⟩,
    ⟨.push, 18, (some ((.s 1), true)), .load false 1 (.s 0)⟩,
    ⟨.push, 19, (some ((.s 2), true)), .call 114 [(.s 0)]⟩,
    ⟨.push, 20, none, .pick (.s 3) (.s 0) (.c (.bool false))⟩,
    ⟨.var 2, 2, none, .mov (.s 0)⟩])
 (.ret)), [.t 2]⟩
noncomputable def t_impl_isEstimate : List (Nat × Ctr) := [(113, c_impl_ValidTime), (40, c_impl_IsName), (114, c_impl_ValidMag)]
theorem lk_impl_isEstimate_113 : look t_impl_isEstimate 113 = some c_impl_ValidTime := rfl
theorem lk_impl_isEstimate_40 : look t_impl_isEstimate 40 = some c_impl_IsName := rfl
theorem lk_impl_isEstimate_114 : look t_impl_isEstimate 114 = some c_impl_ValidMag := rfl
noncomputable def c_impl_isEstimate : Ctr := mkF t_impl_isEstimate ir79 [.bor]
theorem s_impl_isEstimate : Sound Try.prog 79 c_impl_isEstimate := mkF_sound _ rfl (snd_cons s_impl_ValidTime (snd_cons s_impl_IsName (snd_cons s_impl_ValidMag snd_nil))) (by kernel_rfl : chkFn Try.prog 79 ir79 ir79_v = true)
theorem M_impl_isEstimate : c_impl_isEstimate.modes = [.bor] := rfl
theorem Fl_impl_isEstimate : c_impl_isEstimate.flat = true := rfl
attribute [go_sem] M_impl_isEstimate Fl_impl_isEstimate
attribute [go_sem] lk_impl_isEstimate_113 lk_impl_isEstimate_40 lk_impl_isEstimate_114
theorem Fs_impl_isEstimate {e_ : Estimate} {y_ : Bool} (h : impl_isEstimate e_ = some y_) : c_impl_isEstimate.F [Estimate_av e_] = ⟨true, .bool y_, [.any]⟩ := by
  refine mkF_E rfl ?_
  dsimp only [impl_isEstimate] at h
  obtain ⟨y_1, hk1, h⟩ := bd_some h
  have fhk1 := Fs_impl_ValidTime hk1
  try simp only [go_sem] at fhk1
  obtain ⟨hk2, h⟩ := ck_some h
  rcases or_split hk2 with ⟨ghk2, hk2⟩ | ghk2
  · try simp only [go_sem, n1, n2, n3, n4] at ghk2
    all_goals
    obtain ⟨y_2, hhk2⟩ := Option.isSome_iff_exists.1 hk2
    have fhk2 := Fs_impl_IsName hhk2
    try simp only [go_sem] at fhk2
    obtain ⟨hk3, h⟩ := ck_some h
    rcases or_split hk3 with ⟨ghk3, hk3⟩ | ghk3
    · try simp only [go_sem, n1, n2, n3, n4, ghk2, hhk2] at ghk3
      all_goals
      obtain ⟨y_3, hhk3⟩ := Option.isSome_iff_exists.1 hk3
      have fhk3 := Fs_impl_IsName hhk3
      try simp only [go_sem] at fhk3
      obtain ⟨hk4, h⟩ := ck_some h
      rcases or_split hk4 with ⟨ghk4, hk4⟩ | ghk4
      · try simp only [go_sem, n1, n2, n3, n4, ghk2, hhk2, ghk3, hhk3] at ghk4
        all_goals
        obtain ⟨y_4, hhk4⟩ := Option.isSome_iff_exists.1 hk4
        have fhk4 := Fs_impl_ValidMag hhk4
        try simp only [go_sem] at fhk4
        obtain rfl := so_some h
        refine ⟨0, fun L hL => ?_⟩
        simp only [go_sem, ir79, fhk1, ghk2, hhk2, fhk2, ghk3, hhk3, fhk3, ghk4, hhk4, fhk4]
      · rcases and_f ghk4 with ghk4a | ⟨ghk4a, ghk4b⟩
        · rcases and_f ghk4a with ghk4aa | ⟨ghk4aa, ghk4ab⟩
          · try simp only [go_sem, n1, n2, n3, n4, ghk2, hhk2, ghk3, hhk3] at ghk4aa
            all_goals
            obtain rfl := so_some h
            refine ⟨0, fun L hL => ?_⟩
            simp only [go_sem, ir79, fhk1, ghk2, hhk2, fhk2, ghk3, hhk3, fhk3, ghk4aa]
          · try simp only [go_sem, n1, n2, n3, n4, ghk2, hhk2, ghk3, hhk3] at ghk4aa
            all_goals
            try simp only [go_sem, n1, n2, n3, n4, ghk2, hhk2, ghk3, hhk3, ghk4aa] at ghk4ab
            all_goals
            obtain rfl := so_some h
            refine ⟨0, fun L hL => ?_⟩
            simp only [go_sem, ir79, fhk1, ghk2, hhk2, fhk2, ghk3, hhk3, fhk3, ghk4aa, ghk4ab]
        · obtain ⟨ghk4aa, ghk4ab⟩ := and_t ghk4a
          try simp only [go_sem, n1, n2, n3, n4, ghk2, hhk2, ghk3, hhk3] at ghk4aa
          all_goals
          try simp only [go_sem, n1, n2, n3, n4, ghk2, hhk2, ghk3, hhk3, ghk4aa] at ghk4ab
          all_goals
          try simp only [go_sem, n1, n2, n3, n4, ghk2, hhk2, ghk3, hhk3, ghk4aa, ghk4ab] at ghk4b
          all_goals
          obtain rfl := so_some h
          refine ⟨0, fun L hL => ?_⟩
          simp only [go_sem, ir79, fhk1, ghk2, hhk2, fhk2, ghk3, hhk3, fhk3, ghk4aa, ghk4ab, ghk4b]
    · rcases and_f ghk3 with ghk3a | ⟨ghk3a, ghk3b⟩
      · try simp only [go_sem, n1, n2, n3, n4, ghk2, hhk2] at ghk3a
        all_goals
        obtain ⟨hk4, h⟩ := ck_some h
        rcases or_split hk4 with ⟨ghk4, hk4⟩ | ghk4
        · try simp only [go_sem, n1, n2, n3, n4, ghk2, hhk2, ghk3a] at ghk4
          all_goals
          obtain ⟨y_4, hhk4⟩ := Option.isSome_iff_exists.1 hk4
          have fhk4 := Fs_impl_ValidMag hhk4
          try simp only [go_sem] at fhk4
          obtain rfl := so_some h
          refine ⟨0, fun L hL => ?_⟩
          simp only [go_sem, ir79, fhk1, ghk2, hhk2, fhk2, ghk3a, ghk4, hhk4, fhk4]
        · rcases and_f ghk4 with ghk4a | ⟨ghk4a, ghk4b⟩
          · rcases and_f ghk4a with ghk4aa | ⟨ghk4aa, ghk4ab⟩
            · try simp only [go_sem, n1, n2, n3, n4, ghk2, hhk2, ghk3a] at ghk4aa
              all_goals
              obtain rfl := so_some h
              refine ⟨0, fun L hL => ?_⟩
              simp only [go_sem, ir79, fhk1, ghk2, hhk2, fhk2, ghk3a, ghk4aa]
            · try simp only [go_sem, n1, n2, n3, n4, ghk2, hhk2, ghk3a] at ghk4aa
              all_goals
              try simp only [go_sem, n1, n2, n3, n4, ghk2, hhk2, ghk3a, ghk4aa] at ghk4ab
              all_goals
              obtain rfl := so_some h
              refine ⟨0, fun L hL => ?_⟩
              simp only [go_sem, ir79, fhk1, ghk2, hhk2, fhk2, ghk3a, ghk4aa, ghk4ab]
          · obtain ⟨ghk4aa, ghk4ab⟩ := and_t ghk4a
            try simp only [go_sem, n1, n2, n3, n4, ghk2, hhk2, ghk3a] at ghk4aa
            all_goals
            try simp only [go_sem, n1, n2, n3, n4, ghk2, hhk2, ghk3a, ghk4aa] at ghk4ab
            all_goals
            try simp only [go_sem, n1, n2, n3, n4, ghk2, hhk2, ghk3a, ghk4aa, ghk4ab] at ghk4b
            all_goals
            obtain rfl := so_some h
            refine ⟨0, fun L hL => ?_⟩
            simp only [go_sem, ir79, fhk1, ghk2, hhk2, fhk2, ghk3a, ghk4aa, ghk4ab, ghk4b]
      · try simp only [go_sem, n1, n2, n3, n4, ghk2, hhk2] at ghk3a
        all_goals
        try simp only [go_sem, n1, n2, n3, n4, ghk2, hhk2, ghk3a] at ghk3b
        all_goals
        obtain ⟨hk4, h⟩ := ck_some h
        rcases or_split hk4 with ⟨ghk4, hk4⟩ | ghk4
        · try simp only [go_sem, n1, n2, n3, n4, ghk2, hhk2, ghk3a, ghk3b] at ghk4
          all_goals
          obtain ⟨y_4, hhk4⟩ := Option.isSome_iff_exists.1 hk4
          have fhk4 := Fs_impl_ValidMag hhk4
          try simp only [go_sem] at fhk4
          obtain rfl := so_some h
          refine ⟨0, fun L hL => ?_⟩
          simp only [go_sem, ir79, fhk1, ghk2, hhk2, fhk2, ghk3a, ghk3b, ghk4, hhk4, fhk4]
        · rcases and_f ghk4 with ghk4a | ⟨ghk4a, ghk4b⟩
          · rcases and_f ghk4a with ghk4aa | ⟨ghk4aa, ghk4ab⟩
            · try simp only [go_sem, n1, n2, n3, n4, ghk2, hhk2, ghk3a, ghk3b] at ghk4aa
              all_goals
              obtain rfl := so_some h
              refine ⟨0, fun L hL => ?_⟩
              simp only [go_sem, ir79, fhk1, ghk2, hhk2, fhk2, ghk3a, ghk3b, ghk4aa]
            · try simp only [go_sem, n1, n2, n3, n4, ghk2, hhk2, ghk3a, ghk3b] at ghk4aa
              all_goals
              try simp only [go_sem, n1, n2, n3, n4, ghk2, hhk2, ghk3a, ghk3b, ghk4aa] at ghk4ab
              all_goals
              obtain rfl := so_some h
              refine ⟨0, fun L hL => ?_⟩
              simp only [go_sem, ir79, fhk1, ghk2, hhk2, fhk2, ghk3a, ghk3b, ghk4aa, ghk4ab]
          · obtain ⟨ghk4aa, ghk4ab⟩ := and_t ghk4a
            try simp only [go_sem, n1, n2, n3, n4, ghk2, hhk2, ghk3a, ghk3b] at ghk4aa
            all_goals
            try simp only [go_sem, n1, n2, n3, n4, ghk2, hhk2, ghk3a, ghk3b, ghk4aa] at ghk4ab
            all_goals
            try simp only [go_sem, n1, n2, n3, n4, ghk2, hhk2, ghk3a, ghk3b, ghk4aa, ghk4ab] at ghk4b
            all_goals
            obtain rfl := so_some h
            refine ⟨0, fun L hL => ?_⟩
            simp only [go_sem, ir79, fhk1, ghk2, hhk2, fhk2, ghk3a, ghk3b, ghk4aa, ghk4ab, ghk4b]
  · try simp only [go_sem, n1, n2, n3, n4] at ghk2
    all_goals
    obtain ⟨hk3, h⟩ := ck_some h
    rcases or_split hk3 with ⟨ghk3, hk3⟩ | ghk3
    · try simp only [go_sem, n1, n2, n3, n4, ghk2] at ghk3
      all_goals
      obtain ⟨y_3, hhk3⟩ := Option.isSome_iff_exists.1 hk3
      have fhk3 := Fs_impl_IsName hhk3
      try simp only [go_sem] at fhk3
      obtain ⟨hk4, h⟩ := ck_some h
      rcases or_split hk4 with ⟨ghk4, hk4⟩ | ghk4
      · try simp only [go_sem, n1, n2, n3, n4, ghk2, ghk3, hhk3] at ghk4
        all_goals
        obtain ⟨y_4, hhk4⟩ := Option.isSome_iff_exists.1 hk4
        have fhk4 := Fs_impl_ValidMag hhk4
        try simp only [go_sem] at fhk4
        obtain rfl := so_some h
        refine ⟨0, fun L hL => ?_⟩
        simp only [go_sem, ir79, fhk1, ghk2, ghk3, hhk3, fhk3, ghk4, hhk4, fhk4]
      · rcases and_f ghk4 with ghk4a | ⟨ghk4a, ghk4b⟩
        · rcases and_f ghk4a with ghk4aa | ⟨ghk4aa, ghk4ab⟩
          · try simp only [go_sem, n1, n2, n3, n4, ghk2, ghk3, hhk3] at ghk4aa
            all_goals
            obtain rfl := so_some h
            refine ⟨0, fun L hL => ?_⟩
            simp only [go_sem, ir79, fhk1, ghk2, ghk3, hhk3, fhk3, ghk4aa]
          · try simp only [go_sem, n1, n2, n3, n4, ghk2, ghk3, hhk3] at ghk4aa
            all_goals
            try simp only [go_sem, n1, n2, n3, n4, ghk2, ghk3, hhk3, ghk4aa] at ghk4ab
            all_goals
            obtain rfl := so_some h
            refine ⟨0, fun L hL => ?_⟩
            simp only [go_sem, ir79, fhk1, ghk2, ghk3, hhk3, fhk3, ghk4aa, ghk4ab]
        · obtain ⟨ghk4aa, ghk4ab⟩ := and_t ghk4a
          try simp only [go_sem, n1, n2, n3, n4, ghk2, ghk3, hhk3] at ghk4aa
          all_goals
          try simp only [go_sem, n1, n2, n3, n4, ghk2, ghk3, hhk3, ghk4aa] at ghk4ab
          all_goals
          try simp only [go_sem, n1, n2, n3, n4, ghk2, ghk3, hhk3, ghk4aa, ghk4ab] at ghk4b
          all_goals
          obtain rfl := so_some h
          refine ⟨0, fun L hL => ?_⟩
          simp only [go_sem, ir79, fhk1, ghk2, ghk3, hhk3, fhk3, ghk4aa, ghk4ab, ghk4b]
    · rcases and_f ghk3 with ghk3a | ⟨ghk3a, ghk3b⟩
      · try simp only [go_sem, n1, n2, n3, n4, ghk2] at ghk3a
        all_goals
        obtain ⟨hk4, h⟩ := ck_some h
        rcases or_split hk4 with ⟨ghk4, hk4⟩ | ghk4
        · try simp only [go_sem, n1, n2, n3, n4, ghk2, ghk3a] at ghk4
          all_goals
          obtain ⟨y_4, hhk4⟩ := Option.isSome_iff_exists.1 hk4
          have fhk4 := Fs_impl_ValidMag hhk4
          try simp only [go_sem] at fhk4
          obtain rfl := so_some h
          refine ⟨0, fun L hL => ?_⟩
          simp only [go_sem, ir79, fhk1, ghk2, ghk3a, ghk4, hhk4, fhk4]
        · rcases and_f ghk4 with ghk4a | ⟨ghk4a, ghk4b⟩
          · rcases and_f ghk4a with ghk4aa | ⟨ghk4aa, ghk4ab⟩
            · try simp only [go_sem, n1, n2, n3, n4, ghk2, ghk3a] at ghk4aa
              all_goals
              obtain rfl := so_some h
              refine ⟨0, fun L hL => ?_⟩
              simp only [go_sem, ir79, fhk1, ghk2, ghk3a, ghk4aa]
            · try simp only [go_sem, n1, n2, n3, n4, ghk2, ghk3a] at ghk4aa
              all_goals
              try simp only [go_sem, n1, n2, n3, n4, ghk2, ghk3a, ghk4aa] at ghk4ab
              all_goals
              obtain rfl := so_some h
              refine ⟨0, fun L hL => ?_⟩
              simp only [go_sem, ir79, fhk1, ghk2, ghk3a, ghk4aa, ghk4ab]
          · obtain ⟨ghk4aa, ghk4ab⟩ := and_t ghk4a
            try simp only [go_sem, n1, n2, n3, n4, ghk2, ghk3a] at ghk4aa
            all_goals
            try simp only [go_sem, n1, n2, n3, n4, ghk2, ghk3a, ghk4aa] at ghk4ab
            all_goals
            try simp only [go_sem, n1, n2, n3, n4, ghk2, ghk3a, ghk4aa, ghk4ab] at ghk4b
            all_goals
            obtain rfl := so_some h
            refine ⟨0, fun L hL => ?_⟩
            simp only [go_sem, ir79, fhk1, ghk2, ghk3a, ghk4aa, ghk4ab, ghk4b]
      · try simp only [go_sem, n1, n2, n3, n4, ghk2] at ghk3a
        all_goals
        try simp only [go_sem, n1, n2, n3, n4, ghk2, ghk3a] at ghk3b
        all_goals
        obtain ⟨hk4, h⟩ := ck_some h
        rcases or_split hk4 with ⟨ghk4, hk4⟩ | ghk4
        · try simp only [go_sem, n1, n2, n3, n4, ghk2, ghk3a, ghk3b] at ghk4
          all_goals
          obtain ⟨y_4, hhk4⟩ := Option.isSome_iff_exists.1 hk4
          have fhk4 := Fs_impl_ValidMag hhk4
          try simp only [go_sem] at fhk4
          obtain rfl := so_some h
          refine ⟨0, fun L hL => ?_⟩
          simp only [go_sem, ir79, fhk1, ghk2, ghk3a, ghk3b, ghk4, hhk4, fhk4]
        · rcases and_f ghk4 with ghk4a | ⟨ghk4a, ghk4b⟩
          · rcases and_f ghk4a with ghk4aa | ⟨ghk4aa, ghk4ab⟩
            · try simp only [go_sem, n1, n2, n3, n4, ghk2, ghk3a, ghk3b] at ghk4aa
              all_goals
              obtain rfl := so_some h
              refine ⟨0, fun L hL => ?_⟩
              simp only [go_sem, ir79, fhk1, ghk2, ghk3a, ghk3b, ghk4aa]
            · try simp only [go_sem, n1, n2, n3, n4, ghk2, ghk3a, ghk3b] at ghk4aa
              all_goals
              try simp only [go_sem, n1, n2, n3, n4, ghk2, ghk3a, ghk3b, ghk4aa] at ghk4ab
              all_goals
              obtain rfl := so_some h
              refine ⟨0, fun L hL => ?_⟩
              simp only [go_sem, ir79, fhk1, ghk2, ghk3a, ghk3b, ghk4aa, ghk4ab]
          · obtain ⟨ghk4aa, ghk4ab⟩ := and_t ghk4a
            try simp only [go_sem, n1, n2, n3, n4, ghk2, ghk3a, ghk3b] at ghk4aa
            all_goals
            try simp only [go_sem, n1, n2, n3, n4, ghk2, ghk3a, ghk3b, ghk4aa] at ghk4ab
            all_goals
            try simp only [go_sem, n1, n2, n3, n4, ghk2, ghk3a, ghk3b, ghk4aa, ghk4ab] at ghk4b
            all_goals
            obtain rfl := so_some h
            refine ⟨0, fun L hL => ?_⟩
            simp only [go_sem, ir79, fhk1, ghk2, ghk3a, ghk3b, ghk4aa, ghk4ab, ghk4b]


def ir128_v : List Nat := [0, 2]
def ir128 : AFn := ⟨1, 2, .seq (.region false [
    ⟨.var 1, 2, none, .mov (.c (.bool false))⟩])
 (.seq (.region false [
    ⟨.push, 3, none, .mov (.v 0)⟩,
    ⟨.push, 4, none, .mov (.v 0)⟩,
    ⟨.push, 5, none, .bin false .neq (.s 1) (.s 0)⟩,
    ⟨.var 1, 2, none, .mov (.s 0)⟩])
 (.ret)), [.t 1]⟩
noncomputable def t_cmp_isNaN_int64 : List (Nat × Ctr) := []
noncomputable def c_cmp_isNaN_int64 : Ctr := mkF t_cmp_isNaN_int64 ir128 [.bor]
theorem s_cmp_isNaN_int64 : Sound Try.prog 128 c_cmp_isNaN_int64 := mkF_sound _ rfl snd_nil (by kernel_rfl : chkFn Try.prog 128 ir128 ir128_v = true)
theorem M_cmp_isNaN_int64 : c_cmp_isNaN_int64.modes = [.bor] := rfl
theorem Fl_cmp_isNaN_int64 : c_cmp_isNaN_int64.flat = true := rfl
attribute [go_sem] M_cmp_isNaN_int64 Fl_cmp_isNaN_int64
theorem Fs_cmp_isNaN_int64 {x : Int} {y_ : Bool} (h : cmp_isNaN_int64 x = some y_) : c_cmp_isNaN_int64.F [.int .i64 x] = ⟨true, .bool y_, [.any]⟩ := by
  refine mkF_E rfl ?_
  dsimp only [cmp_isNaN_int64] at h
  obtain rfl := so_some h
  refine ⟨0, fun L hL => ?_⟩
  simp only [go_sem, ir128]


def ir116_v : List Nat := [0, 1, 4, 5, 6]
def ir116 : AFn := ⟨2, 5, .seq (.region false [
    ⟨.var 2, 4, none, .mov (.c (.int .i64 (0)))⟩])
 (.seq (.region false [
    ⟨.push, 7, none, .mov (.v 0)⟩,
    ⟨.push, 8, none, .call 128 [(.s 0)]⟩,
    ⟨.var 3, 5, none, .mov (.s 0)⟩])
 (.seq (.region false [
    ⟨.push, 9, none, .mov (.v 1)⟩,
    ⟨.push, 10, none, .call 128 [(.s 0)]⟩,
    ⟨.var 4, 6, none, .mov (.s 0)⟩])
 (.seq (.test false [
    ⟨.push, 11, none, .mov (.v 3)⟩] (.s 0)
  (.seq (.test false [
      ⟨.push, 12, none, .mov (.v 4)⟩] (.s 0)
    (.seq (.region false [
        ⟨.var 2, 4, none, .mov (.c (.int .i64 (0)))⟩])
     (.ret))
    (.skip))
   (.seq (.region false [
      ⟨.var 2, 4, none, .mov (.c (.int .i64 (-1)))⟩])
   (.ret)))
  (.skip))
 (.seq (.test false [
    ⟨.push, 13, none, .mov (.v 4)⟩] (.s 0)
  (.seq (.region false [
      ⟨.var 2, 4, none, .mov (.c (.int .i64 (1)))⟩])
   (.ret))
  (.skip))
 (.seq (.test false [
    ⟨.push, 14, none, .mov (.v 0)⟩,
    ⟨.push, 15, none, .mov (.v 1)⟩,
    ⟨.push, 16, none, .bin false .lss (.s 1) (.s 0)⟩] (.s 0)
  (.seq (.region false [
      ⟨.var 2, 4, none, .mov (.c (.int .i64 (-1)))⟩])
   (.ret))
  (.skip))
 (.seq (.test false [
    ⟨.push, 17, none, .mov (.v 0)⟩,
    ⟨.push, 18, none, .mov (.v 1)⟩,
    ⟨.push, 19, none, .bin false .gtr (.s 1) (.s 0)⟩] (.s 0)
  (.seq (.region false [
      ⟨.var 2, 4, none, .mov (.c (.int .i64 (1)))⟩])
   (.ret))
  (.skip))
 (.seq (.region false [
    ⟨.var 2, 4, none, .mov (.c (.int .i64 (0)))⟩])
 (.ret)))))))), [.t 2]⟩
noncomputable def t_cmp_Compare_int64 : List (Nat × Ctr) := [(128, c_cmp_isNaN_int64)]
theorem lk_cmp_Compare_int64_128 : look t_cmp_Compare_int64 128 = some c_cmp_isNaN_int64 := rfl
noncomputable def c_cmp_Compare_int64 : Ctr := mkF t_cmp_Compare_int64 ir116 [.bor, .bor]
theorem s_cmp_Compare_int64 : Sound Try.prog 116 c_cmp_Compare_int64 := mkF_sound _ rfl (snd_cons s_cmp_isNaN_int64 snd_nil) (by kernel_rfl : chkFn Try.prog 116 ir116 ir116_v = true)
theorem M_cmp_Compare_int64 : c_cmp_Compare_int64.modes = [.bor, .bor] := rfl
theorem Fl_cmp_Compare_int64 : c_cmp_Compare_int64.flat = true := rfl
attribute [go_sem] M_cmp_Compare_int64 Fl_cmp_Compare_int64
attribute [go_sem] lk_cmp_Compare_int64_128
theorem Fs_cmp_Compare_int64 {x : Int} {y : Int} {y_ : Int} (h : cmp_Compare_int64 x y = some y_) : c_cmp_Compare_int64.F [.int .i64 x, .int .i64 y] = ⟨true, .int .i64 y_, [.any, .any]⟩ := by
  refine mkF_E rfl ?_
  dsimp only [cmp_Compare_int64] at h
  obtain ⟨y_1, hk1, h⟩ := bd_some h
  have fhk1 := Fs_cmp_isNaN_int64 hk1
  try simp only [go_sem] at fhk1
  obtain ⟨y_2, hk2, h⟩ := bd_some h
  have fhk2 := Fs_cmp_isNaN_int64 hk2
  try simp only [go_sem] at fhk2
  rcases it_some h with ⟨hk3, h⟩ | ⟨hk3, h⟩
  · try simp only [go_sem, n1, n2, n3, n4] at hk3
    all_goals
    rcases it_some h with ⟨hk4, h⟩ | ⟨hk4, h⟩
    · try simp only [go_sem, n1, n2, n3, n4, hk3] at hk4
      all_goals
      obtain rfl := so_some h
      refine ⟨0, fun L hL => ?_⟩
      simp only [go_sem, ir116, fhk1, fhk2, hk3, hk4]
    · try simp only [go_sem, n1, n2, n3, n4, hk3] at hk4
      all_goals
      obtain rfl := so_some h
      refine ⟨0, fun L hL => ?_⟩
      simp only [go_sem, ir116, fhk1, fhk2, hk3, hk4]
  · try simp only [go_sem, n1, n2, n3, n4] at hk3
    all_goals
    rcases it_some h with ⟨hk5, h⟩ | ⟨hk5, h⟩
    · try simp only [go_sem, n1, n2, n3, n4, hk3] at hk5
      all_goals
      obtain rfl := so_some h
      refine ⟨0, fun L hL => ?_⟩
      simp only [go_sem, ir116, fhk1, fhk2, hk3, hk5]
    · try simp only [go_sem, n1, n2, n3, n4, hk3] at hk5
      all_goals
      rcases it_some h with ⟨hk6, h⟩ | ⟨hk6, h⟩
      · try simp only [go_sem, n1, n2, n3, n4, hk3, hk5] at hk6
        all_goals
        obtain rfl := so_some h
        refine ⟨0, fun L hL => ?_⟩
        simp only [go_sem, ir116, fhk1, fhk2, hk3, hk5, hk6]
      · try simp only [go_sem, n1, n2, n3, n4, hk3, hk5] at hk6
        all_goals
        rcases it_some h with ⟨hk7, h⟩ | ⟨hk7, h⟩
        · try simp only [go_sem, n1, n2, n3, n4, hk3, hk5, hk6] at hk7
          all_goals
          obtain rfl := so_some h
          refine ⟨0, fun L hL => ?_⟩
          simp only [go_sem, ir116, fhk1, fhk2, hk3, hk5, hk6, hk7]
        · try simp only [go_sem, n1, n2, n3, n4, hk3, hk5, hk6] at hk7
          all_goals
          obtain rfl := so_some h
          refine ⟨0, fun L hL => ?_⟩
          simp only [go_sem, ir116, fhk1, fhk2, hk3, hk5, hk6, hk7]


theorem s_hCmp : Sound Try.prog 133 c_hCmp := hCmp_sound Try.func133 (by kernel_rfl) (by kernel_rfl) (by kernel_rfl) (by kernel_rfl)

def ir129_v : List Nat := [0, 1, 4]
def ir129 : AFn := ⟨2, 3, .seq (.region false [
    ⟨.var 2, 4, none, .mov (.c (.int .i64 (0)))⟩])
 (.seq (.region false [
    ⟨.push, 5, none, .mov (.v 0)⟩,
    ⟨.push, 6, none, .mov (.v 1)⟩,
    ⟨.push, 7, none, .call 133 [(.s 1), (.s 0)]⟩,
    ⟨.var 2, 4, none, .mov (.s 0)⟩])
 (.ret)), [.t 2]⟩
noncomputable def t_internal_bytealg_CompareString : List (Nat × Ctr) := [(133, c_hCmp)]
theorem lk_internal_bytealg_CompareString_133 : look t_internal_bytealg_CompareString 133 = some c_hCmp := rfl
noncomputable def c_internal_bytealg_CompareString : Ctr := mkF t_internal_bytealg_CompareString ir129 [.bor, .bor]
theorem s_internal_bytealg_CompareString : Sound Try.prog 129 c_internal_bytealg_CompareString := mkF_sound _ rfl (snd_cons s_hCmp snd_nil) (by kernel_rfl : chkFn Try.prog 129 ir129 ir129_v = true)
theorem M_internal_bytealg_CompareString : c_internal_bytealg_CompareString.modes = [.bor, .bor] := rfl
theorem Fl_internal_bytealg_CompareString : c_internal_bytealg_CompareString.flat = true := rfl
attribute [go_sem] M_internal_bytealg_CompareString Fl_internal_bytealg_CompareString
attribute [go_sem] lk_internal_bytealg_CompareString_133
theorem Fs_internal_bytealg_CompareString {a : List UInt8} {b : List UInt8} {y_ : Int} (h : internal_bytealg_CompareString a b = some y_) : c_internal_bytealg_CompareString.F [.str a, .str b] = ⟨true, .int .i64 y_, [.any, .any]⟩ := by
  refine mkF_E rfl ?_
  dsimp only [internal_bytealg_CompareString] at h
  obtain ⟨y_1, hk1, h⟩ := bd_some h
  have fhk1 := Fs_hCmp hk1
  try simp only [go_sem] at fhk1
  obtain rfl := so_some h
  refine ⟨0, fun L hL => ?_⟩
  simp only [go_sem, ir129, fhk1]


def ir117_v : List Nat := [0, 1, 4]
def ir117 : AFn := ⟨2, 3, .seq (.region false [
    ⟨.var 2, 4, none, .mov (.c (.int .i64 (0)))⟩])
 (.seq (.region false [
    ⟨.push, 5, none, .mov (.v 0)⟩,
    ⟨.push, 6, none, .mov (.v 1)⟩,
    ⟨.push, 7, none, .call 129 [(.s 1), (.s 0)]⟩,
    ⟨.var 2, 4, none, .mov (.s 0)⟩])
 (.ret)), [.t 2]⟩
noncomputable def t_strings_Compare : List (Nat × Ctr) := [(129, c_internal_bytealg_CompareString)]
theorem lk_strings_Compare_129 : look t_strings_Compare 129 = some c_internal_bytealg_CompareString := rfl
noncomputable def c_strings_Compare : Ctr := mkF t_strings_Compare ir117 [.bor, .bor]
theorem s_strings_Compare : Sound Try.prog 117 c_strings_Compare := mkF_sound _ rfl (snd_cons s_internal_bytealg_CompareString snd_nil) (by kernel_rfl : chkFn Try.prog 117 ir117 ir117_v = true)
theorem M_strings_Compare : c_strings_Compare.modes = [.bor, .bor] := rfl
theorem Fl_strings_Compare : c_strings_Compare.flat = true := rfl
attribute [go_sem] M_strings_Compare Fl_strings_Compare
attribute [go_sem] lk_strings_Compare_129
theorem Fs_strings_Compare {a : List UInt8} {b : List UInt8} {y_ : Int} (h : strings_Compare a b = some y_) : c_strings_Compare.F [.str a, .str b] = ⟨true, .int .i64 y_, [.any, .any]⟩ := by
  refine mkF_E rfl ?_
  dsimp only [strings_Compare] at h
  obtain ⟨y_1, hk1, h⟩ := bd_some h
  have fhk1 := Fs_internal_bytealg_CompareString hk1
  try simp only [go_sem] at fhk1
  obtain rfl := so_some h
  refine ⟨0, fun L hL => ?_⟩
  simp only [go_sem, ir117, fhk1]


def ir115_b0 : IR := .seq (.region false [
    ⟨.var 7, 9, none, .bin false .lss (.v 6) (.v 5)⟩])
 (.seq (.cond (.v 7) (.skip)
  (.exit 0))
 (.seq (.block 1 (.seq (.region false [
      ⟨.push, 10, none, .ixAddr 1 (.v 4) (.v 6)⟩,
      ⟨.push, 11, none, .load false 1 (.s 0)⟩,
      ⟨.var 3, 5, none, .mov (.s 0)⟩])
   (.test false [
     ⟨.push, 12, none, .mov (.v 3)⟩,
     ⟨.push, 13, none, .mov (.v 2)⟩,
     ⟨.push, 14, none, .bin false .neq (.s 1) (.s 0)⟩] (.s 0)
   (.seq (.region false [
       ⟨.push, 15, none, .mov (.v 3)⟩,
       ⟨.var 1, 2, none, .mov (.s 0)⟩])
    (.ret))
   (.skip))))
 (.region false [
   ⟨.push, 16, none, .bin false .add (.v 6) (.c (.int .i64 (1)))⟩,
   ⟨.var 6, 8, none, .mov (.s 0)⟩])))
def ir115_k0 : List Bool := [false, false, true, false, true, true, true, false]
def ir115_o0 : List Bool := [false, false, true, false, false, false, false, false]
def ir115_r0 : List Bool := [false, true, false, false, false, false, false, false]
def ir115_v : List Nat := [0, 2, 3, 5, 6, 7, 8, 9]
def ir115 : AFn := ⟨1, 8, .seq (.region false [
    ⟨.var 1, 2, none, .mov (.c (.int .i64 (0)))⟩])
 (.seq (.region false [
    ⟨.var 2, 3, none, .mov (.c (.int .i64 (0)))⟩])
 (.seq (.seq (.region false [
     ⟨.var 4, 6, none, .mov (.v 0)⟩,
     ⟨.var 5, 7, none, .len false (.v 4)⟩,
     ⟨.var 6, 8, none, .mov (.c (.int .i64 (0)))⟩])
  (.block 0 (.loop ir115_k0 ir115_o0 ir115_r0 ir115_b0)))
 (.seq (.region false [
    ⟨.push, 17, none, .mov (.v 2)⟩,
    ⟨.var 1, 2, none, .mov (.s 0)⟩])
 (.ret)))), [.t 1]⟩
noncomputable def t_cmp_Or_int : List (Nat × Ctr) := []
noncomputable def c_cmp_Or_int : Ctr := mkF t_cmp_Or_int ir115 [.bor]
theorem s_cmp_Or_int : Sound Try.prog 115 c_cmp_Or_int := mkF_sound _ rfl snd_nil (by kernel_rfl : chkFn Try.prog 115 ir115 ir115_v = true)
theorem M_cmp_Or_int : c_cmp_Or_int.modes = [.bor] := rfl
theorem Fl_cmp_Or_int : c_cmp_Or_int.flat = true := rfl
attribute [go_sem] M_cmp_Or_int Fl_cmp_Or_int
def E_cmp_Or_int_l1 (zero : Int) (t6 : List Int) (t7 : Int) : Int → St
  | t8 => ⟨[.any, .any, .int .i64 zero, .any, .sl 1 (List.map (AV.int .i64) t6), .int .i64 t7, .int .i64 t8, .any], [], [], true⟩
def R_cmp_Or_int_l1 (zero : Int) (t6 : List Int) (t7 : Int) : (Unit ⊕ Int) → Res
  | .inl y => (.exit 0, ⟨[.any, .any, .int .i64 zero, .any, .any, .any, .any, .any], [], [], true⟩)
  | .inr y => (.ret, ⟨[.any, .int .i64 y, .any, .any, .any, .any, .any, .any], [], [], true⟩)
theorem cmp_Or_int_l1_ex {zero : Int} {t6 : List Int} {t7 : Int} {sgm_ : Int} {rho_ : Unit ⊕ Int} (h : whileE (cmp_Or_int_l1 zero t6 t7) sgm_ = some rho_) : ∃ L0, ∀ L, L0 ≤ L → iter (exec (look t_cmp_Or_int) L ir115_b0) ir115_k0 ir115_o0 ir115_r0 L (E_cmp_Or_int_l1 zero t6 t7 sgm_) = R_cmp_Or_int_l1 zero t6 t7 rho_ := by
  refine loop_ex (E := E_cmp_Or_int_l1 zero t6 t7) (R := R_cmp_Or_int_l1 zero t6 t7) (fun y => by first | (intro c; cases c) | (rcases y with y | y <;> (intro c; cases c)) | (rcases y with y | y | y <;> (intro c; cases c))) ?_ h
  clear h
  intro t8 o_ h
  dsimp only [cmp_Or_int_l1] at h
  rcases it_some h with ⟨hk1, h⟩ | ⟨hk1, h⟩
  · try simp only [go_sem, n1, n2, n3, n4] at hk1
    all_goals
    obtain ⟨hk2, h⟩ := ck_some h
    have lhk2 := ix_lt hk2
    have xhk2 := getD_mapD (AV.int .i64) t6 lhk2
    try simp only [go_sem] at lhk2
    try simp only [go_sem] at xhk2
    try simp only [go_sem, n1, n2, n3, n4, hk1] at hk2
    all_goals
    rcases it_some h with ⟨hk3, h⟩ | ⟨hk3, h⟩
    · try simp only [go_sem, n1, n2, n3, n4, hk1, hk2] at hk3
      all_goals
      obtain rfl := so_some h
      refine ⟨0, fun L hL => ?_⟩
      simp only [go_sem, ir115, E_cmp_Or_int_l1, R_cmp_Or_int_l1, ir115_b0, ir115_k0, ir115_o0, ir115_r0, hk1, hk2, lhk2, xhk2, hk3]
    · try simp only [go_sem, n1, n2, n3, n4, hk1, hk2] at hk3
      all_goals
      obtain rfl := so_some h
      refine ⟨0, fun L hL => ?_⟩
      simp only [go_sem, ir115, E_cmp_Or_int_l1, R_cmp_Or_int_l1, ir115_b0, ir115_k0, ir115_o0, ir115_r0, hk1, hk2, lhk2, xhk2, hk3]
  · try simp only [go_sem, n1, n2, n3, n4] at hk1
    all_goals
    obtain rfl := so_some h
    refine ⟨0, fun L hL => ?_⟩
    simp only [go_sem, ir115, E_cmp_Or_int_l1, R_cmp_Or_int_l1, ir115_b0, ir115_k0, ir115_o0, ir115_r0, hk1]

theorem Fs_cmp_Or_int {vals : List Int} {y_ : Int} (h : cmp_Or_int vals = some y_) : c_cmp_Or_int.F [.sl 1 (List.map (AV.int .i64) vals)] = ⟨true, .int .i64 y_, [.any]⟩ := by
  refine mkF_E rfl ?_
  dsimp only [cmp_Or_int] at h
  obtain ⟨y_4, hk4, h⟩ := bd_some h
  obtain ⟨Lhk4, ehk4⟩ := cmp_Or_int_l1_ex hk4
  rcases y_4 with y_4a | y_4b
  · dsimp only at h
    obtain rfl := so_some h
    refine ⟨Lhk4, fun L hL => ?_⟩
    have ehk4 := ehk4 L (by omega)
    try simp only [go_sem, E_cmp_Or_int_l1, R_cmp_Or_int_l1, ir115_k0, ir115_o0, ir115_r0] at ehk4
    simp only [go_sem, ir115, E_cmp_Or_int_l1, R_cmp_Or_int_l1, ir115_k0, ir115_o0, ir115_r0, ehk4]
  · dsimp only at h
    obtain rfl := so_some h
    refine ⟨Lhk4, fun L hL => ?_⟩
    have ehk4 := ehk4 L (by omega)
    try simp only [go_sem, E_cmp_Or_int_l1, R_cmp_Or_int_l1, ir115_k0, ir115_o0, ir115_r0] at ehk4
    simp only [go_sem, ir115, E_cmp_Or_int_l1, R_cmp_Or_int_l1, ir115_k0, ir115_o0, ir115_r0, ehk4]


def ir80_v : List Nat := [0, 1, 2, 3, 4]
def ir80 : AFn := ⟨2, 5, .seq (.region false [
    ⟨.var 2, 2, none, .box (.v 0)⟩,
    ⟨.var 3, 3, none, .box (.v 1)⟩,
    ⟨.var 4, 4, none, .mov (.c (.int .i64 (0)))⟩])
 (.seq (.anyo 17 [
    ⟨.slot 0, 5, none, .fldAddr 0 (.v 2)⟩,
    ⟨.slot 1, 6, none, .load false 1 (.s 0)⟩,
    ⟨.slot 2, 7, none, .fldAddr 0 (.v 3)⟩,
    ⟨.slot 3, 8, none, .load false 1 (.s 2)⟩,
    ⟨.slot 4, 9, none, .callp 116 [(.s 1), (.s 3)]⟩,
    ⟨.slot 5, 10, none, .fldAddr 1 (.v 2)⟩,
    ⟨.slot 6, 11, none, .load false 1 (.s 5)⟩,
    ⟨.slot 7, 12, none, .fldAddr 1 (.v 3)⟩,
    ⟨.slot 8, 13, none, .load false 1 (.s 7)⟩,
    ⟨.slot 9, 14, none, .callp 117 [(.s 6), (.s 8)]⟩,
    ⟨.slot 10, 15, none, .fldAddr 2 (.v 2)⟩,
    ⟨.slot 11, 16, none, .load false 1 (.s 10)⟩,
    ⟨.slot 12, 17, none, .fldAddr 2 (.v 3)⟩,
    ⟨.slot 13, 18, none, .load false 1 (.s 12)⟩,
    ⟨.slot 14, 19, none, .callp 117 [(.s 11), (.s 13)]⟩,
    ⟨.slot 15, 20, none, .pur (.mkSl 1 (.int .i64 (0)) 3 [(0, (.s 4)), (1, (.s 9)), (2, (.s 14))])⟩,
    ⟨.slot 16, 21, none, .callp 115 [(.s 15)]⟩,
    ⟨.var 4, 4, none, .mov (.s 16)⟩] [] .skip)
 (.ret)), [.t 4]⟩
noncomputable def t_impl_compareEstimates : List (Nat × Ctr) := [(116, c_cmp_Compare_int64), (117, c_strings_Compare), (115, c_cmp_Or_int)]
theorem lk_impl_compareEstimates_116 : look t_impl_compareEstimates 116 = some c_cmp_Compare_int64 := rfl
theorem lk_impl_compareEstimates_117 : look t_impl_compareEstimates 117 = some c_strings_Compare := rfl
theorem lk_impl_compareEstimates_115 : look t_impl_compareEstimates 115 = some c_cmp_Or_int := rfl
noncomputable def c_impl_compareEstimates : Ctr := mkF t_impl_compareEstimates ir80 [.bor, .bor]
theorem s_impl_compareEstimates : Sound Try.prog 80 c_impl_compareEstimates := mkF_sound _ rfl (snd_cons s_cmp_Compare_int64 (snd_cons s_strings_Compare (snd_cons s_cmp_Or_int snd_nil))) (by kernel_rfl : chkFn Try.prog 80 ir80 ir80_v = true)
theorem M_impl_compareEstimates : c_impl_compareEstimates.modes = [.bor, .bor] := rfl
theorem Fl_impl_compareEstimates : c_impl_compareEstimates.flat = true := rfl
attribute [go_sem] M_impl_compareEstimates Fl_impl_compareEstimates
attribute [go_sem] lk_impl_compareEstimates_116 lk_impl_compareEstimates_117 lk_impl_compareEstimates_115
theorem Fs_impl_compareEstimates {a : Estimate} {b : Estimate} {y_ : Int} (h : impl_compareEstimates a b = some y_) : c_impl_compareEstimates.F [Estimate_av a, Estimate_av b] = ⟨true, .int .i64 y_, [.any, .any]⟩ := by
  refine mkF_E rfl ?_
  dsimp only [impl_compareEstimates] at h
  obtain ⟨y_1, hk1, h⟩ := bd_some h
  have fhk1 := Fs_cmp_Compare_int64 hk1
  try simp only [go_sem] at fhk1
  obtain ⟨y_2, hk2, h⟩ := bd_some h
  have fhk2 := Fs_strings_Compare hk2
  try simp only [go_sem] at fhk2
  obtain ⟨y_3, hk3, h⟩ := bd_some h
  have fhk3 := Fs_strings_Compare hk3
  try simp only [go_sem] at fhk3
  obtain ⟨y_4, hk4, h⟩ := bd_some h
  have fhk4 := Fs_cmp_Or_int hk4
  try simp only [go_sem] at fhk4
  obtain rfl := so_some h
  refine ⟨0, fun L hL => ?_⟩
  simp only [go_sem, ir80, fhk1, fhk2, fhk3, fhk4]


def ir39_b0 : IR := .seq (.region false [
    ⟨.var 7, 11, none, .bin false .lss (.v 6) (.v 5)⟩])
 (.seq (.cond (.v 7) (.skip)
  (.exit 0))
 (.seq (.block 1 (.seq (.region false [
      ⟨.push, 12, none, .mov (.v 6)⟩,
      ⟨.push, 13, none, .ixAddr 5 (.v 4) (.v 6)⟩,
      ⟨.push, 14, none, .load true 5 (.s 0)⟩,
      ⟨.var 3, 4, none, .alloc (.agg [.int .i64 (0), .str [], .str [], .int .i64 (0), .bool false])⟩,
      ⟨.var 2, 3, none, .mov (.s 2)⟩,
      ⟨.no, 0, none, .store 5 (.v 3) (.s 0)⟩])
   (.anyo 17 [
     ⟨.slot 0, 15, none, .load true 5 (.v 3)⟩,
     ⟨.slot 1, 16, none, .callp 79 [(.s 0)]⟩,
     ⟨.slot 2, 17, none, .un .not (.s 1)⟩,
     ⟨.slot 3, 18, none, .mov (.s 2)⟩,
     ⟨.slot 4, 19, (some ((.s 3), false)), .mov (.v 2)⟩,
     ⟨.slot 5, 20, (some ((.s 3), false)), .bin false .gtr (.s 4) (.c (.int .i64 (0)))⟩,
     ⟨.slot 6, 21, (some ((.s 3), false)), .mov (.s 5)⟩,
     ⟨.slot 7, 22, (some ((.s 6), true)), .mov (.v 0)⟩,
     ⟨.slot 8, 23, (some ((.s 6), true)), .mov (.v 2)⟩,
     ⟨.slot 9, 24, (some ((.s 6), true)), .bin false .sub (.s 8) (.c (.int .i64 (1)))⟩,
     ⟨.slot 10, 25, (some ((.s 6), true)), .ixAddr 5 (.s 7) (.s 9)⟩,
     ⟨.slot 11, 26, (some ((.s 6), true)), .load true 5 (.s 10)⟩,
     ⟨.slot 12, 27, (some ((.s 6), true)), .load true 5 (.v 3)⟩,
     ⟨.slot 13, 28, (some ((.s 6), true)), .call 80 [(.s 11), (.s 12)]⟩,
     ⟨.slot 14, 29, (some ((.s 6), true)), .bin false .geq (.s 13) (.c (.int .i64 (0)))⟩,
     ⟨.slot 15, 30, (some ((.s 3), false)), .pick (.s 6) (.s 14) (.c (.bool false))⟩,
     ⟨.slot 16, 31, none, .pick (.s 3) (.c (.bool true)) (.s 15)⟩] [] (.cond (.s 16)
   (.seq (.region false [
       ⟨.var 1, 2, none, .mov (.c (.bool false))⟩])
    (.ret))
   (.skip)))))
 (.region false [
   ⟨.push, 32, none, .bin false .add (.v 6) (.c (.int .i64 (1)))⟩,
   ⟨.var 6, 10, none, .mov (.s 0)⟩])))
def ir39_k0 : List Bool := [true, false, false, false, true, true, true, false]
def ir39_o0 : List Bool := [false, false, false, false, false, false, false, false]
def ir39_r0 : List Bool := [false, true, false, false, false, false, false, false]
def ir39_v : List Nat := [0, 2, 3, 4, 8, 9, 10, 11]
def ir39 : AFn := ⟨1, 8, .seq (.region false [
    ⟨.var 1, 2, none, .mov (.c (.bool false))⟩])
 (.seq (.test false [
    ⟨.push, 5, none, .mov (.v 0)⟩,
    ⟨.push, 6, none, .len false (.s 0)⟩,
    ⟨.push, 7, none, .bin false .gtr (.s 0) (.c (.int .i64 (100)))⟩] (.s 0)
  (.seq (.region false [
      ⟨.var 1, 2, none, .mov (.c (.bool false))⟩])
   (.ret))
  (.skip))
 (.seq (.seq (.region false [
     ⟨.var 4, 8, none, .mov (.v 0)⟩,
     ⟨.var 5, 9, none, .len false (.v 4)⟩,
     ⟨.var 6, 10, none, .mov (.c (.int .i64 (0)))⟩])
  (.block 0 (.loop ir39_k0 ir39_o0 ir39_r0 ir39_b0)))
 (.seq (.region false [
    ⟨.var 1, 2, none, .mov (.c (.bool true))⟩])
 (.ret)))), [.t 1]⟩
noncomputable def t_impl_ValidEstimates : List (Nat × Ctr) := [(79, c_impl_isEstimate), (80, c_impl_compareEstimates)]
theorem lk_impl_ValidEstimates_79 : look t_impl_ValidEstimates 79 = some c_impl_isEstimate := rfl
theorem lk_impl_ValidEstimates_80 : look t_impl_ValidEstimates 80 = some c_impl_compareEstimates := rfl
noncomputable def c_impl_ValidEstimates : Ctr := mkF t_impl_ValidEstimates ir39 [.bor]
theorem s_impl_ValidEstimates : Sound Try.prog 39 c_impl_ValidEstimates := mkF_sound _ rfl (snd_cons s_impl_isEstimate (snd_cons s_impl_compareEstimates snd_nil)) (by kernel_rfl : chkFn Try.prog 39 ir39 ir39_v = true)
theorem M_impl_ValidEstimates : c_impl_ValidEstimates.modes = [.bor] := rfl
theorem Fl_impl_ValidEstimates : c_impl_ValidEstimates.flat = true := rfl
attribute [go_sem] M_impl_ValidEstimates Fl_impl_ValidEstimates
attribute [go_sem] lk_impl_ValidEstimates_79 lk_impl_ValidEstimates_80
def E_impl_ValidEstimates_l1 (list : List Estimate) (t8 : List Estimate) (t9 : Int) : Int → St
  | t10 => ⟨[.sl 5 (List.map Estimate_av list), .any, .any, .any, .sl 5 (List.map Estimate_av t8), .int .i64 t9, .int .i64 t10, .any], [], [], true⟩
def R_impl_ValidEstimates_l1 (list : List Estimate) (t8 : List Estimate) (t9 : Int) : (Unit ⊕ Bool) → Res
  | .inl y => (.exit 0, ⟨[.any, .any, .any, .any, .any, .any, .any, .any], [], [], true⟩)
  | .inr y => (.ret, ⟨[.any, .bool y, .any, .any, .any, .any, .any, .any], [], [], true⟩)
theorem impl_ValidEstimates_l1_ex {list : List Estimate} {t8 : List Estimate} {t9 : Int} {sgm_ : Int} {rho_ : Unit ⊕ Bool} (h : whileE (impl_ValidEstimates_l1 list t8 t9) sgm_ = some rho_) : ∃ L0, ∀ L, L0 ≤ L → iter (exec (look t_impl_ValidEstimates) L ir39_b0) ir39_k0 ir39_o0 ir39_r0 L (E_impl_ValidEstimates_l1 list t8 t9 sgm_) = R_impl_ValidEstimates_l1 list t8 t9 rho_ := by
  refine loop_ex (E := E_impl_ValidEstimates_l1 list t8 t9) (R := R_impl_ValidEstimates_l1 list t8 t9) (fun y => by first | (intro c; cases c) | (rcases y with y | y <;> (intro c; cases c)) | (rcases y with y | y | y <;> (intro c; cases c))) ?_ h
  clear h
  intro t10 o_ h
  dsimp only [impl_ValidEstimates_l1] at h
  rcases it_some h with ⟨hk2, h⟩ | ⟨hk2, h⟩
  · try simp only [go_sem, n1, n2, n3, n4] at hk2
    all_goals
    obtain ⟨hk3, h⟩ := ck_some h
    have lhk3 := ix_lt hk3
    have xhk3 := getD_mapD Estimate_av t8 lhk3
    try simp only [go_sem] at lhk3
    try simp only [go_sem] at xhk3
    try simp only [go_sem, n1, n2, n3, n4, hk2] at hk3
    all_goals
    obtain ⟨y_4, hk4, h⟩ := bd_some h
    have fhk4 := Fs_impl_isEstimate hk4
    try simp only [go_sem] at fhk4
    obtain ⟨hk5, h⟩ := ck_some h
    rcases or_split hk5 with ⟨ghk5, hk5⟩ | ghk5
    · try simp only [go_sem, n1, n2, n3, n4, hk2, hk3] at ghk5
      all_goals
      have lhk5 := ix_lt hk5
      have xhk5 := getD_mapD Estimate_av list lhk5
      try simp only [go_sem] at lhk5
      try simp only [go_sem] at xhk5
      try simp only [go_sem, n1, n2, n3, n4, hk2, hk3, ghk5] at hk5
      all_goals
      obtain ⟨hk6, h⟩ := ck_some h
      rcases or_split hk6 with ⟨ghk6, hk6⟩ | ghk6
      · try simp only [go_sem, n1, n2, n3, n4, hk2, hk3, ghk5, hk5] at ghk6
        all_goals
        obtain ⟨y_6, hhk6⟩ := Option.isSome_iff_exists.1 hk6
        have fhk6 := Fs_impl_compareEstimates hhk6
        try simp only [go_sem] at fhk6
        rcases it_some h with ⟨hk7, h⟩ | ⟨hk7, h⟩
        · try simp only [go_sem, n1, n2, n3, n4, hk2, hk3, ghk5, hk5, ghk6, hhk6] at hk7
          all_goals
          obtain rfl := so_some h
          refine ⟨0, fun L hL => ?_⟩
          simp only [go_sem, ir39, E_impl_ValidEstimates_l1, R_impl_ValidEstimates_l1, ir39_b0, ir39_k0, ir39_o0, ir39_r0, hk2, hk3, lhk3, xhk3, fhk4, ghk5, hk5, lhk5, xhk5, ghk6, hhk6, fhk6, hk7]
        · try simp only [go_sem, n1, n2, n3, n4, hk2, hk3, ghk5, hk5, ghk6, hhk6] at hk7
          all_goals
          obtain rfl := so_some h
          refine ⟨0, fun L hL => ?_⟩
          simp only [go_sem, ir39, E_impl_ValidEstimates_l1, R_impl_ValidEstimates_l1, ir39_b0, ir39_k0, ir39_o0, ir39_r0, hk2, hk3, lhk3, xhk3, fhk4, ghk5, hk5, lhk5, xhk5, ghk6, hhk6, fhk6, hk7]
      · rcases and_f ghk6 with ghk6a | ⟨ghk6a, ghk6b⟩
        · have ghk6an := no_f ghk6a
          have ghk6ann := no_t ghk6an
          try simp only [go_sem, n1, n2, n3, n4, hk2, hk3, ghk5, hk5] at ghk6ann
          all_goals
          rcases it_some h with ⟨hk7, h⟩ | ⟨hk7, h⟩
          · try simp only [go_sem, n1, n2, n3, n4, hk2, hk3, ghk5, hk5, ghk6ann] at hk7
            all_goals
            obtain rfl := so_some h
            refine ⟨0, fun L hL => ?_⟩
            simp only [go_sem, ir39, E_impl_ValidEstimates_l1, R_impl_ValidEstimates_l1, ir39_b0, ir39_k0, ir39_o0, ir39_r0, hk2, hk3, lhk3, xhk3, fhk4, ghk5, hk5, lhk5, xhk5, ghk6ann, hk7]
          · try simp only [go_sem, n1, n2, n3, n4, hk2, hk3, ghk5, hk5, ghk6ann] at hk7
            all_goals
            obtain rfl := so_some h
            refine ⟨0, fun L hL => ?_⟩
            simp only [go_sem, ir39, E_impl_ValidEstimates_l1, R_impl_ValidEstimates_l1, ir39_b0, ir39_k0, ir39_o0, ir39_r0, hk2, hk3, lhk3, xhk3, fhk4, ghk5, hk5, lhk5, xhk5, ghk6ann, hk7]
        · have ghk6an := no_t ghk6a
          have ghk6ann := no_f ghk6an
          try simp only [go_sem, n1, n2, n3, n4, hk2, hk3, ghk5, hk5] at ghk6ann
          all_goals
          try simp only [go_sem, n1, n2, n3, n4, hk2, hk3, ghk5, hk5, ghk6ann] at ghk6b
          all_goals
          rcases it_some h with ⟨hk7, h⟩ | ⟨hk7, h⟩
          · try simp only [go_sem, n1, n2, n3, n4, hk2, hk3, ghk5, hk5, ghk6ann, ghk6b] at hk7
            all_goals
            obtain rfl := so_some h
            refine ⟨0, fun L hL => ?_⟩
            simp only [go_sem, ir39, E_impl_ValidEstimates_l1, R_impl_ValidEstimates_l1, ir39_b0, ir39_k0, ir39_o0, ir39_r0, hk2, hk3, lhk3, xhk3, fhk4, ghk5, hk5, lhk5, xhk5, ghk6ann, ghk6b, hk7]
          · try simp only [go_sem, n1, n2, n3, n4, hk2, hk3, ghk5, hk5, ghk6ann, ghk6b] at hk7
            all_goals
            obtain rfl := so_some h
            refine ⟨0, fun L hL => ?_⟩
            simp only [go_sem, ir39, E_impl_ValidEstimates_l1, R_impl_ValidEstimates_l1, ir39_b0, ir39_k0, ir39_o0, ir39_r0, hk2, hk3, lhk3, xhk3, fhk4, ghk5, hk5, lhk5, xhk5, ghk6ann, ghk6b, hk7]
    · rcases and_f ghk5 with ghk5a | ⟨ghk5a, ghk5b⟩
      · have ghk5an := no_f ghk5a
        have ghk5ann := no_t ghk5an
        try simp only [go_sem, n1, n2, n3, n4, hk2, hk3] at ghk5ann
        all_goals
        obtain ⟨hk6, h⟩ := ck_some h
        rcases or_split hk6 with ⟨ghk6, hk6⟩ | ghk6
        · try simp only [go_sem, n1, n2, n3, n4, hk2, hk3, ghk5ann] at ghk6
          all_goals
          obtain ⟨y_6, hhk6⟩ := Option.isSome_iff_exists.1 hk6
          have fhk6 := Fs_impl_compareEstimates hhk6
          try simp only [go_sem] at fhk6
          rcases it_some h with ⟨hk7, h⟩ | ⟨hk7, h⟩
          · try simp only [go_sem, n1, n2, n3, n4, hk2, hk3, ghk5ann, ghk6, hhk6] at hk7
            all_goals
            obtain rfl := so_some h
            refine ⟨0, fun L hL => ?_⟩
            simp only [go_sem, ir39, E_impl_ValidEstimates_l1, R_impl_ValidEstimates_l1, ir39_b0, ir39_k0, ir39_o0, ir39_r0, hk2, hk3, lhk3, xhk3, fhk4, ghk5ann, ghk6, hhk6, fhk6, hk7]
          · try simp only [go_sem, n1, n2, n3, n4, hk2, hk3, ghk5ann, ghk6, hhk6] at hk7
            all_goals
            obtain rfl := so_some h
            refine ⟨0, fun L hL => ?_⟩
            simp only [go_sem, ir39, E_impl_ValidEstimates_l1, R_impl_ValidEstimates_l1, ir39_b0, ir39_k0, ir39_o0, ir39_r0, hk2, hk3, lhk3, xhk3, fhk4, ghk5ann, ghk6, hhk6, fhk6, hk7]
        · rcases and_f ghk6 with ghk6a | ⟨ghk6a, ghk6b⟩
          · have ghk6an := no_f ghk6a
            have ghk6ann := no_t ghk6an
            try simp only [go_sem, n1, n2, n3, n4, hk2, hk3, ghk5ann] at ghk6ann
            all_goals
            rcases it_some h with ⟨hk7, h⟩ | ⟨hk7, h⟩
            · try simp only [go_sem, n1, n2, n3, n4, hk2, hk3, ghk5ann, ghk6ann] at hk7
              all_goals
              obtain rfl := so_some h
              refine ⟨0, fun L hL => ?_⟩
              simp only [go_sem, ir39, E_impl_ValidEstimates_l1, R_impl_ValidEstimates_l1, ir39_b0, ir39_k0, ir39_o0, ir39_r0, hk2, hk3, lhk3, xhk3, fhk4, ghk5ann, ghk6ann, hk7]
            · try simp only [go_sem, n1, n2, n3, n4, hk2, hk3, ghk5ann, ghk6ann] at hk7
              all_goals
              obtain rfl := so_some h
              refine ⟨0, fun L hL => ?_⟩
              simp only [go_sem, ir39, E_impl_ValidEstimates_l1, R_impl_ValidEstimates_l1, ir39_b0, ir39_k0, ir39_o0, ir39_r0, hk2, hk3, lhk3, xhk3, fhk4, ghk5ann, ghk6ann, hk7]
          · have ghk6an := no_t ghk6a
            have ghk6ann := no_f ghk6an
            try simp only [go_sem, n1, n2, n3, n4, hk2, hk3, ghk5ann] at ghk6ann
            all_goals
            try simp only [go_sem, n1, n2, n3, n4, hk2, hk3, ghk5ann, ghk6ann] at ghk6b
            all_goals
            rcases it_some h with ⟨hk7, h⟩ | ⟨hk7, h⟩
            · try simp only [go_sem, n1, n2, n3, n4, hk2, hk3, ghk5ann, ghk6ann, ghk6b] at hk7
              all_goals
              obtain rfl := so_some h
              refine ⟨0, fun L hL => ?_⟩
              simp only [go_sem, ir39, E_impl_ValidEstimates_l1, R_impl_ValidEstimates_l1, ir39_b0, ir39_k0, ir39_o0, ir39_r0, hk2, hk3, lhk3, xhk3, fhk4, ghk5ann, ghk6ann, ghk6b, hk7]
            · try simp only [go_sem, n1, n2, n3, n4, hk2, hk3, ghk5ann, ghk6ann, ghk6b] at hk7
              all_goals
              obtain rfl := so_some h
              refine ⟨0, fun L hL => ?_⟩
              simp only [go_sem, ir39, E_impl_ValidEstimates_l1, R_impl_ValidEstimates_l1, ir39_b0, ir39_k0, ir39_o0, ir39_r0, hk2, hk3, lhk3, xhk3, fhk4, ghk5ann, ghk6ann, ghk6b, hk7]
      · have ghk5an := no_t ghk5a
        have ghk5ann := no_f ghk5an
        try simp only [go_sem, n1, n2, n3, n4, hk2, hk3] at ghk5ann
        all_goals
        try simp only [go_sem, n1, n2, n3, n4, hk2, hk3, ghk5ann] at ghk5b
        all_goals
        obtain ⟨hk6, h⟩ := ck_some h
        rcases or_split hk6 with ⟨ghk6, hk6⟩ | ghk6
        · try simp only [go_sem, n1, n2, n3, n4, hk2, hk3, ghk5ann, ghk5b] at ghk6
          all_goals
          obtain ⟨y_6, hhk6⟩ := Option.isSome_iff_exists.1 hk6
          have fhk6 := Fs_impl_compareEstimates hhk6
          try simp only [go_sem] at fhk6
          rcases it_some h with ⟨hk7, h⟩ | ⟨hk7, h⟩
          · try simp only [go_sem, n1, n2, n3, n4, hk2, hk3, ghk5ann, ghk5b, ghk6, hhk6] at hk7
            all_goals
            obtain rfl := so_some h
            refine ⟨0, fun L hL => ?_⟩
            simp only [go_sem, ir39, E_impl_ValidEstimates_l1, R_impl_ValidEstimates_l1, ir39_b0, ir39_k0, ir39_o0, ir39_r0, hk2, hk3, lhk3, xhk3, fhk4, ghk5ann, ghk5b, ghk6, hhk6, fhk6, hk7]
          · try simp only [go_sem, n1, n2, n3, n4, hk2, hk3, ghk5ann, ghk5b, ghk6, hhk6] at hk7
            all_goals
            obtain rfl := so_some h
            refine ⟨0, fun L hL => ?_⟩
            simp only [go_sem, ir39, E_impl_ValidEstimates_l1, R_impl_ValidEstimates_l1, ir39_b0, ir39_k0, ir39_o0, ir39_r0, hk2, hk3, lhk3, xhk3, fhk4, ghk5ann, ghk5b, ghk6, hhk6, fhk6, hk7]
        · rcases and_f ghk6 with ghk6a | ⟨ghk6a, ghk6b⟩
          · have ghk6an := no_f ghk6a
            have ghk6ann := no_t ghk6an
            try simp only [go_sem, n1, n2, n3, n4, hk2, hk3, ghk5ann, ghk5b] at ghk6ann
            all_goals
            rcases it_some h with ⟨hk7, h⟩ | ⟨hk7, h⟩
            · try simp only [go_sem, n1, n2, n3, n4, hk2, hk3, ghk5ann, ghk5b, ghk6ann] at hk7
              all_goals
              obtain rfl := so_some h
              refine ⟨0, fun L hL => ?_⟩
              simp only [go_sem, ir39, E_impl_ValidEstimates_l1, R_impl_ValidEstimates_l1, ir39_b0, ir39_k0, ir39_o0, ir39_r0, hk2, hk3, lhk3, xhk3, fhk4, ghk5ann, ghk5b, ghk6ann, hk7]
            · try simp only [go_sem, n1, n2, n3, n4, hk2, hk3, ghk5ann, ghk5b, ghk6ann] at hk7
              all_goals
              obtain rfl := so_some h
              refine ⟨0, fun L hL => ?_⟩
              simp only [go_sem, ir39, E_impl_ValidEstimates_l1, R_impl_ValidEstimates_l1, ir39_b0, ir39_k0, ir39_o0, ir39_r0, hk2, hk3, lhk3, xhk3, fhk4, ghk5ann, ghk5b, ghk6ann, hk7]
          · have ghk6an := no_t ghk6a
            have ghk6ann := no_f ghk6an
            try simp only [go_sem, n1, n2, n3, n4, hk2, hk3, ghk5ann, ghk5b] at ghk6ann
            all_goals
            try simp only [go_sem, n1, n2, n3, n4, hk2, hk3, ghk5ann, ghk5b, ghk6ann] at ghk6b
            all_goals
            rcases it_some h with ⟨hk7, h⟩ | ⟨hk7, h⟩
            · try simp only [go_sem, n1, n2, n3, n4, hk2, hk3, ghk5ann, ghk5b, ghk6ann, ghk6b] at hk7
              all_goals
              obtain rfl := so_some h
              refine ⟨0, fun L hL => ?_⟩
              simp only [go_sem, ir39, E_impl_ValidEstimates_l1, R_impl_ValidEstimates_l1, ir39_b0, ir39_k0, ir39_o0, ir39_r0, hk2, hk3, lhk3, xhk3, fhk4, ghk5ann, ghk5b, ghk6ann, ghk6b, hk7]
            · try simp only [go_sem, n1, n2, n3, n4, hk2, hk3, ghk5ann, ghk5b, ghk6ann, ghk6b] at hk7
              all_goals
              obtain rfl := so_some h
              refine ⟨0, fun L hL => ?_⟩
              simp only [go_sem, ir39, E_impl_ValidEstimates_l1, R_impl_ValidEstimates_l1, ir39_b0, ir39_k0, ir39_o0, ir39_r0, hk2, hk3, lhk3, xhk3, fhk4, ghk5ann, ghk5b, ghk6ann, ghk6b, hk7]
  · try simp only [go_sem, n1, n2, n3, n4] at hk2
    all_goals
    obtain rfl := so_some h
    refine ⟨0, fun L hL => ?_⟩
    simp only [go_sem, ir39, E_impl_ValidEstimates_l1, R_impl_ValidEstimates_l1, ir39_b0, ir39_k0, ir39_o0, ir39_r0, hk2]

theorem Fs_impl_ValidEstimates {list : List Estimate} {y_ : Bool} (h : impl_ValidEstimates list = some y_) : c_impl_ValidEstimates.F [.sl 5 (List.map Estimate_av list)] = ⟨true, .bool y_, [.any]⟩ := by
  refine mkF_E rfl ?_
  dsimp only [impl_ValidEstimates] at h
  rcases it_some h with ⟨hk1, h⟩ | ⟨hk1, h⟩
  · try simp only [go_sem, n1, n2, n3, n4] at hk1
    all_goals
    obtain rfl := so_some h
    refine ⟨0, fun L hL => ?_⟩
    simp only [go_sem, ir39, E_impl_ValidEstimates_l1, R_impl_ValidEstimates_l1, ir39_k0, ir39_o0, ir39_r0, hk1]
  · try simp only [go_sem, n1, n2, n3, n4] at hk1
    all_goals
    obtain ⟨y_8, hk8, h⟩ := bd_some h
    obtain ⟨Lhk8, ehk8⟩ := impl_ValidEstimates_l1_ex hk8
    rcases y_8 with y_8a | y_8b
    · dsimp only at h
      obtain rfl := so_some h
      refine ⟨Lhk8, fun L hL => ?_⟩
      have ehk8 := ehk8 L (by omega)
      try simp only [go_sem, E_impl_ValidEstimates_l1, R_impl_ValidEstimates_l1, ir39_k0, ir39_o0, ir39_r0] at ehk8
      simp only [go_sem, ir39, E_impl_ValidEstimates_l1, R_impl_ValidEstimates_l1, ir39_k0, ir39_o0, ir39_r0, hk1, ehk8]
    · dsimp only at h
      obtain rfl := so_some h
      refine ⟨Lhk8, fun L hL => ?_⟩
      have ehk8 := ehk8 L (by omega)
      try simp only [go_sem, E_impl_ValidEstimates_l1, R_impl_ValidEstimates_l1, ir39_k0, ir39_o0, ir39_r0] at ehk8
      simp only [go_sem, ir39, E_impl_ValidEstimates_l1, R_impl_ValidEstimates_l1, ir39_k0, ir39_o0, ir39_r0, hk1, ehk8]


def ir91_v : List Nat := [0, 2]
def ir91 : AFn := ⟨1, 2, .seq (.region false [
    ⟨.var 1, 2, none, .mov (.c (.int .i64 (0)))⟩])
 (.seq (.region false [
    ⟨.push, 3, none, .mov (.v 0)⟩,
    ⟨.push, 4, none, .len false (.s 0)⟩,
    ⟨.var 1, 2, none, .mov (.s 0)⟩])
 (.ret)), [.t 1]⟩
noncomputable def t_impl_count_impl_Estimate : List (Nat × Ctr) := []
noncomputable def c_impl_count_impl_Estimate : Ctr := mkF t_impl_count_impl_Estimate ir91 [.bor]
theorem s_impl_count_impl_Estimate : Sound Try.prog 91 c_impl_count_impl_Estimate := mkF_sound _ rfl snd_nil (by kernel_rfl : chkFn Try.prog 91 ir91 ir91_v = true)
theorem M_impl_count_impl_Estimate : c_impl_count_impl_Estimate.modes = [.bor] := rfl
theorem Fl_impl_count_impl_Estimate : c_impl_count_impl_Estimate.flat = true := rfl
attribute [go_sem] M_impl_count_impl_Estimate Fl_impl_count_impl_Estimate
theorem Fs_impl_count_impl_Estimate {list : List Estimate} {y_ : Int} (h : impl_count_impl_Estimate list = some y_) : c_impl_count_impl_Estimate.F [.sl 5 (List.map Estimate_av list)] = ⟨true, .int .i64 y_, [.any]⟩ := by
  refine mkF_E rfl ?_
  dsimp only [impl_count_impl_Estimate] at h
  obtain rfl := so_some h
  refine ⟨0, fun L hL => ?_⟩
  simp only [go_sem, ir91]


end Go.Proofs.Ytgbibhhblimfiab
