/- Codes and contracts of the functions that R8 reaches, and that their typed forms say what they do. No condition. -/
import Derived.Test.YtcfjogkgmkagiabR8Kb
import Derived.Test.YtcfjogkgmkagiabRows
import Derived.WalkKit
namespace Go.Proofs.Ytcfjogkgmkagiab
open Go Go.RowKit
set_option linter.unusedVariables false
set_option linter.unusedSimpArgs false
set_option maxRecDepth 10000

def ir18_b0 : IR := .seq (.test false [
    ⟨.push, 6, none, .mov (.v 3)⟩,
    ⟨.push, 7, none, .mov (.v 0)⟩,
    ⟨.push, 8, none, .len false (.s 0)⟩,
    ⟨.push, 9, none, .bin false .lss (.s 2) (.s 0)⟩] (.s 0)
  (.skip)
  (.exit 0))
 (.seq (.block 1 (.seq (.region false [
      ⟨.push, 12, none, .mov (.v 0)⟩,
      ⟨.push, 13, none, .mov (.v 3)⟩,
      ⟨.push, 14, none, .mov (.v 1)⟩,
      ⟨.push, 15, none, .ixAddr 5 (.s 2) (.s 1)⟩,
      ⟨.push, 16, none, .fldAddr 0 (.s 0)⟩,
      ⟨.no, 0, none, .store 1 (.s 0) (.s 2)⟩])
   (.seq (.region false [
      ⟨.push, 17, none, .mov (.v 1)⟩,
      ⟨.push, 18, none, .bin false .add (.s 0) (.c (.int .i64 (1)))⟩,
      ⟨.var 1, 1, none, .mov (.s 0)⟩])
   (.seq (.region false [
      ⟨.push, 19, none, .mov (.v 0)⟩,
      ⟨.push, 20, none, .mov (.v 3)⟩,
      ⟨.push, 21, none, .mov (.v 1)⟩,
      ⟨.push, 22, none, .call 52 [(.s 0)]⟩,
      ⟨.push, 23, none, .ixAddr 5 (.s 3) (.s 2)⟩,
      ⟨.push, 24, none, .fldAddr 1 (.s 0)⟩,
      ⟨.no, 0, none, .store 1 (.s 0) (.s 2)⟩])
   (.seq (.region false [
      ⟨.push, 25, none, .mov (.v 1)⟩,
      ⟨.push, 26, none, .bin false .add (.s 0) (.c (.int .i64 (1)))⟩,
      ⟨.var 1, 1, none, .mov (.s 0)⟩])
   (.seq (.region false [
      ⟨.push, 27, none, .mov (.v 0)⟩,
      ⟨.push, 28, none, .mov (.v 3)⟩,
      ⟨.push, 29, none, .mov (.v 1)⟩,
      ⟨.push, 30, none, .call 52 [(.s 0)]⟩,
      ⟨.push, 31, none, .ixAddr 5 (.s 3) (.s 2)⟩,
      ⟨.push, 32, none, .fldAddr 2 (.s 0)⟩,
      ⟨.no, 0, none, .store 1 (.s 0) (.s 2)⟩])
   (.seq (.region false [
      ⟨.push, 33, none, .mov (.v 1)⟩,
      ⟨.push, 34, none, .bin false .add (.s 0) (.c (.int .i64 (1)))⟩,
      ⟨.var 1, 1, none, .mov (.s 0)⟩])
   (.seq (.region false [
      ⟨.push, 35, none, .mov (.v 0)⟩,
      ⟨.push, 36, none, .mov (.v 3)⟩,
      ⟨.push, 37, none, .mov (.v 1)⟩,
      ⟨.push, 38, none, .ixAddr 5 (.s 2) (.s 1)⟩,
      ⟨.push, 39, none, .fldAddr 3 (.s 0)⟩,
      ⟨.no, 0, none, .store 1 (.s 0) (.s 2)⟩])
   (.seq (.region false [
      ⟨.push, 40, none, .mov (.v 1)⟩,
      ⟨.push, 41, none, .bin false .add (.s 0) (.c (.int .i64 (1)))⟩,
      ⟨.var 1, 1, none, .mov (.s 0)⟩])
   (.seq (.region false [
      ⟨.push, 42, none, .mov (.v 0)⟩,
      ⟨.push, 43, none, .mov (.v 3)⟩,
      ⟨.push, 44, none, .mov (.v 1)⟩,
      ⟨.push, 45, none, .bin false .rem (.s 0) (.c (.int .i64 (3)))⟩,
      ⟨.push, 46, none, .bin false .eql (.s 0) (.c (.int .i64 (0)))⟩,
      ⟨.push, 47, none, .ixAddr 5 (.s 4) (.s 3)⟩,
      ⟨.push, 48, none, .fldAddr 4 (.s 0)⟩,
      ⟨.no, 0, none, .store 1 (.s 0) (.s 2)⟩])
   (.region false [
     ⟨.push, 49, none, .mov (.v 1)⟩,
     ⟨.push, 50, none, .bin false .add (.s 0) (.c (.int .i64 (1)))⟩,
     ⟨.var 1, 1, none, .mov (.s 0)⟩])))))))))))
 (.region false [
   ⟨.push, 10, none, .mov (.v 3)⟩,
   ⟨.push, 11, none, .bin false .add (.s 0) (.c (.int .i64 (1)))⟩,
   ⟨.var 3, 5, none, .mov (.s 0)⟩]))
def ir18_k0 : List Bool := [true, true, false, true]
def ir18_o0 : List Bool := [true, true, false, false]
def ir18_r0 : List Bool := [true, false, true, false]
def ir18_v : List Nat := [0, 1, 4, 5]
def ir18 : AFn := ⟨2, 4, .seq (.region false [
    ⟨.var 2, 4, none, .mov (.c (.int .i64 (0)))⟩])
 (.seq (.seq (.region false [
     ⟨.var 3, 5, none, .mov (.c (.int .i64 (0)))⟩])
  (.block 0 (.loop ir18_k0 ir18_o0 ir18_r0 ir18_b0)))
 (.seq (.region false [
    ⟨.push, 51, none, .mov (.v 1)⟩,
    ⟨.var 2, 4, none, .mov (.s 0)⟩])
 (.ret))), [.t 2]⟩
noncomputable def t_laws_markEstimateS : List (Nat × Ctr) := [(52, c_laws_markText)]
theorem lk_laws_markEstimateS_52 : look t_laws_markEstimateS 52 = some c_laws_markText := rfl
noncomputable def c_laws_markEstimateS : Ctr := mkN t_laws_markEstimateS ir18 [.io, .bor]
theorem s_laws_markEstimateS : Sound Try.prog 18 c_laws_markEstimateS := mkN_sound _ (snd_cons s_laws_markText snd_nil) (by kernel_rfl : chkFn Try.prog 18 ir18 ir18_v = true)
theorem M_laws_markEstimateS : c_laws_markEstimateS.modes = [.io, .bor] := rfl
theorem Fl_laws_markEstimateS : c_laws_markEstimateS.flat = false := rfl
attribute [go_sem] M_laws_markEstimateS Fl_laws_markEstimateS
attribute [go_sem] lk_laws_markEstimateS_52
def E_laws_markEstimateS_l1  : ((List Estimate) × Int × Int) → St
  | (a, k, i) => ⟨[.own 31, .int .i64 k, .any, .int .i64 i], [], [(31, ⟨5, List.map Estimate_av a⟩)], true⟩
def R_laws_markEstimateS_l1  (y : (List Estimate) × Int) : Res := (.exit 0, ⟨[.own 31, .int .i64 y.2, .any, .any], [], [(31, ⟨5, List.map Estimate_av y.1⟩)], true⟩)
theorem laws_markEstimateS_l1_ex  {sgm_ : (List Estimate) × Int × Int} {rho_ : (List Estimate) × Int} (h : whileE (laws_markEstimateS_l1) sgm_ = some rho_) : ∃ L0, ∀ L, L0 ≤ L → iter (exec (look t_laws_markEstimateS) L ir18_b0) ir18_k0 ir18_o0 ir18_r0 L (E_laws_markEstimateS_l1 sgm_) = R_laws_markEstimateS_l1 rho_ := by
  refine loop_ex (E := E_laws_markEstimateS_l1) (R := R_laws_markEstimateS_l1) (fun y => by first | (intro c; cases c) | (rcases y with y | y <;> (intro c; cases c)) | (rcases y with y | y | y <;> (intro c; cases c))) ?_ h
  clear h
  rintro ⟨a, k, i⟩ o_ h
  dsimp only [laws_markEstimateS_l1] at h
  rcases it_some h with ⟨hk1, h⟩ | ⟨hk1, h⟩
  · try simp only [go_sem, n1, n2, n3, n4] at hk1
    all_goals
    obtain ⟨hk2, h⟩ := ck_some h
    have lhk2 := ix_lt hk2
    have xhk2 := getD_mapD Estimate_av a lhk2
    try simp only [go_sem] at lhk2
    try simp only [go_sem] at xhk2
    try simp only [go_sem, n1, n2, n3, n4, hk1] at hk2
    all_goals
    obtain ⟨y_3, hk3, h⟩ := bd_some h
    have fhk3 := Fs_laws_markText hk3
    try simp only [go_sem, hk1, hk2] at fhk3
    obtain ⟨y_4, hk4, h⟩ := bd_some h
    have fhk4 := Fs_laws_markText hk4
    try simp only [go_sem, hk1, hk2] at fhk4
    obtain ⟨hk5, h⟩ := ck_some h
    try simp only [go_sem, n1, n2, n3, n4, hk1, hk2] at hk5
    all_goals
    obtain rfl := so_some h
    refine ⟨0, fun L hL => ?_⟩
    simp only [go_sem, ir18, E_laws_markEstimateS_l1, R_laws_markEstimateS_l1, ir18_b0, ir18_k0, ir18_o0, ir18_r0, hk1, hk2, lhk2, xhk2, fhk3, fhk4, hk5]
  · try simp only [go_sem, n1, n2, n3, n4] at hk1
    all_goals
    obtain rfl := so_some h
    refine ⟨0, fun L hL => ?_⟩
    simp only [go_sem, ir18, E_laws_markEstimateS_l1, R_laws_markEstimateS_l1, ir18_b0, ir18_k0, ir18_o0, ir18_r0, hk1]

theorem Fs_laws_markEstimateS {a : List Estimate} {k : Int} {y_ : Int × (List Estimate)} (h : laws_markEstimateS a k = some y_) : c_laws_markEstimateS.F [.fresh 5 (List.map Estimate_av a), .int .i64 k] = ⟨true, .int .i64 y_.1, [.fresh 5 (List.map Estimate_av y_.2), .any]⟩ := by
  refine mkN_E ?_
  dsimp only [laws_markEstimateS] at h
  obtain ⟨y_6, hk6, h⟩ := bd_some h
  obtain ⟨Lhk6, ehk6⟩ := laws_markEstimateS_l1_ex hk6
  obtain ⟨hk7, h⟩ := ck_some h
  try simp only [go_sem, n1, n2, n3, n4] at hk7
  all_goals
  obtain rfl := so_some h
  refine ⟨Lhk6, fun L hL => ?_⟩
  have ehk6 := ehk6 L (by omega)
  try simp only [go_sem, E_laws_markEstimateS_l1, R_laws_markEstimateS_l1, ir18_k0, ir18_o0, ir18_r0, hk7] at ehk6
  simp only [go_sem, ir18, E_laws_markEstimateS_l1, R_laws_markEstimateS_l1, ir18_k0, ir18_o0, ir18_r0, hk7, ehk6]


def ir21_b0 : IR := .seq (.test false [
    ⟨.push, 6, none, .mov (.v 3)⟩,
    ⟨.push, 7, none, .mov (.v 0)⟩,
    ⟨.push, 8, none, .len false (.s 0)⟩,
    ⟨.push, 9, none, .bin false .lss (.s 2) (.s 0)⟩] (.s 0)
  (.skip)
  (.exit 0))
 (.seq (.block 1 (.seq (.region false [
      ⟨.push, 12, none, .mov (.v 0)⟩,
      ⟨.push, 13, none, .mov (.v 3)⟩,
      ⟨.push, 14, none, .mov (.v 1)⟩,
      ⟨.push, 15, none, .ixAddr 2 (.s 2) (.s 1)⟩,
      ⟨.push, 16, none, .fldAddr 0 (.s 0)⟩,
      ⟨.no, 0, none, .store 1 (.s 0) (.s 2)⟩])
   (.seq (.region false [
      ⟨.push, 17, none, .mov (.v 1)⟩,
      ⟨.push, 18, none, .bin false .add (.s 0) (.c (.int .i64 (1)))⟩,
      ⟨.var 1, 1, none, .mov (.s 0)⟩])
   (.seq (.region false [
      ⟨.push, 19, none, .mov (.v 0)⟩,
      ⟨.push, 20, none, .mov (.v 3)⟩,
      ⟨.push, 21, none, .mov (.v 1)⟩,
      ⟨.push, 22, none, .ixAddr 2 (.s 2) (.s 1)⟩,
      ⟨.push, 23, none, .fldAddr 1 (.s 0)⟩,
      ⟨.no, 0, none, .store 1 (.s 0) (.s 2)⟩])
   (.region false [
     ⟨.push, 24, none, .mov (.v 1)⟩,
     ⟨.push, 25, none, .bin false .add (.s 0) (.c (.int .i64 (1)))⟩,
     ⟨.var 1, 1, none, .mov (.s 0)⟩])))))
 (.region false [
   ⟨.push, 10, none, .mov (.v 3)⟩,
   ⟨.push, 11, none, .bin false .add (.s 0) (.c (.int .i64 (1)))⟩,
   ⟨.var 3, 5, none, .mov (.s 0)⟩]))
def ir21_k0 : List Bool := [true, true, false, true]
def ir21_o0 : List Bool := [true, true, false, false]
def ir21_r0 : List Bool := [true, false, true, false]
def ir21_v : List Nat := [0, 1, 4, 5]
def ir21 : AFn := ⟨2, 4, .seq (.region false [
    ⟨.var 2, 4, none, .mov (.c (.int .i64 (0)))⟩])
 (.seq (.seq (.region false [
     ⟨.var 3, 5, none, .mov (.c (.int .i64 (0)))⟩])
  (.block 0 (.loop ir21_k0 ir21_o0 ir21_r0 ir21_b0)))
 (.seq (.region false [
    ⟨.push, 26, none, .mov (.v 1)⟩,
    ⟨.var 2, 4, none, .mov (.s 0)⟩])
 (.ret))), [.t 2]⟩
noncomputable def t_laws_markFaultS : List (Nat × Ctr) := []
noncomputable def c_laws_markFaultS : Ctr := mkN t_laws_markFaultS ir21 [.io, .bor]
theorem s_laws_markFaultS : Sound Try.prog 21 c_laws_markFaultS := mkN_sound _ snd_nil (by kernel_rfl : chkFn Try.prog 21 ir21 ir21_v = true)
theorem M_laws_markFaultS : c_laws_markFaultS.modes = [.io, .bor] := rfl
theorem Fl_laws_markFaultS : c_laws_markFaultS.flat = false := rfl
attribute [go_sem] M_laws_markFaultS Fl_laws_markFaultS
def E_laws_markFaultS_l1  : ((List Fault) × Int × Int) → St
  | (a, k, i) => ⟨[.own 31, .int .i64 k, .any, .int .i64 i], [], [(31, ⟨2, List.map Fault_av a⟩)], true⟩
def R_laws_markFaultS_l1  (y : (List Fault) × Int) : Res := (.exit 0, ⟨[.own 31, .int .i64 y.2, .any, .any], [], [(31, ⟨2, List.map Fault_av y.1⟩)], true⟩)
theorem laws_markFaultS_l1_ex  {sgm_ : (List Fault) × Int × Int} {rho_ : (List Fault) × Int} (h : whileE (laws_markFaultS_l1) sgm_ = some rho_) : ∃ L0, ∀ L, L0 ≤ L → iter (exec (look t_laws_markFaultS) L ir21_b0) ir21_k0 ir21_o0 ir21_r0 L (E_laws_markFaultS_l1 sgm_) = R_laws_markFaultS_l1 rho_ := by
  refine loop_ex (E := E_laws_markFaultS_l1) (R := R_laws_markFaultS_l1) (fun y => by first | (intro c; cases c) | (rcases y with y | y <;> (intro c; cases c)) | (rcases y with y | y | y <;> (intro c; cases c))) ?_ h
  clear h
  rintro ⟨a, k, i⟩ o_ h
  dsimp only [laws_markFaultS_l1] at h
  rcases it_some h with ⟨hk1, h⟩ | ⟨hk1, h⟩
  · try simp only [go_sem, n1, n2, n3, n4] at hk1
    all_goals
    obtain ⟨hk2, h⟩ := ck_some h
    have lhk2 := ix_lt hk2
    have xhk2 := getD_mapD Fault_av a lhk2
    try simp only [go_sem] at lhk2
    try simp only [go_sem] at xhk2
    try simp only [go_sem, n1, n2, n3, n4, hk1] at hk2
    all_goals
    obtain rfl := so_some h
    refine ⟨0, fun L hL => ?_⟩
    simp only [go_sem, ir21, E_laws_markFaultS_l1, R_laws_markFaultS_l1, ir21_b0, ir21_k0, ir21_o0, ir21_r0, hk1, hk2, lhk2, xhk2]
  · try simp only [go_sem, n1, n2, n3, n4] at hk1
    all_goals
    obtain rfl := so_some h
    refine ⟨0, fun L hL => ?_⟩
    simp only [go_sem, ir21, E_laws_markFaultS_l1, R_laws_markFaultS_l1, ir21_b0, ir21_k0, ir21_o0, ir21_r0, hk1]

theorem Fs_laws_markFaultS {a : List Fault} {k : Int} {y_ : Int × (List Fault)} (h : laws_markFaultS a k = some y_) : c_laws_markFaultS.F [.fresh 2 (List.map Fault_av a), .int .i64 k] = ⟨true, .int .i64 y_.1, [.fresh 2 (List.map Fault_av y_.2), .any]⟩ := by
  refine mkN_E ?_
  dsimp only [laws_markFaultS] at h
  obtain ⟨y_3, hk3, h⟩ := bd_some h
  obtain ⟨Lhk3, ehk3⟩ := laws_markFaultS_l1_ex hk3
  obtain ⟨hk4, h⟩ := ck_some h
  try simp only [go_sem, n1, n2, n3, n4] at hk4
  all_goals
  obtain rfl := so_some h
  refine ⟨Lhk3, fun L hL => ?_⟩
  have ehk3 := ehk3 L (by omega)
  try simp only [go_sem, E_laws_markFaultS_l1, R_laws_markFaultS_l1, ir21_k0, ir21_o0, ir21_r0, hk4] at ehk3
  simp only [go_sem, ir21, E_laws_markFaultS_l1, R_laws_markFaultS_l1, ir21_k0, ir21_o0, ir21_r0, hk4, ehk3]


def ir30_b0 : IR := .seq (.test false [
    ⟨.push, 6, none, .mov (.v 3)⟩,
    ⟨.push, 7, none, .mov (.v 0)⟩,
    ⟨.push, 8, none, .len false (.s 0)⟩,
    ⟨.push, 9, none, .bin false .lss (.s 2) (.s 0)⟩] (.s 0)
  (.skip)
  (.exit 0))
 (.seq (.block 1 (.seq (.region false [
      ⟨.push, 12, none, .mov (.v 0)⟩,
      ⟨.push, 13, none, .mov (.v 3)⟩,
      ⟨.push, 14, none, .mov (.v 1)⟩,
      ⟨.push, 15, none, .ixAddr 2 (.s 2) (.s 1)⟩,
      ⟨.push, 16, none, .fldAddr 0 (.s 0)⟩,
      ⟨.no, 0, none, .store 1 (.s 0) (.s 2)⟩])
   (.seq (.region false [
      ⟨.push, 17, none, .mov (.v 1)⟩,
      ⟨.push, 18, none, .bin false .add (.s 0) (.c (.int .i64 (1)))⟩,
      ⟨.var 1, 1, none, .mov (.s 0)⟩])
   (.seq (.region false [
      ⟨.push, 19, none, .mov (.v 0)⟩,
      ⟨.push, 20, none, .mov (.v 3)⟩,
      ⟨.push, 21, none, .mov (.v 1)⟩,
      ⟨.push, 22, none, .ixAddr 2 (.s 2) (.s 1)⟩,
      ⟨.push, 23, none, .fldAddr 1 (.s 0)⟩,
      ⟨.no, 0, none, .store 1 (.s 0) (.s 2)⟩])
   (.region false [
     ⟨.push, 24, none, .mov (.v 1)⟩,
     ⟨.push, 25, none, .bin false .add (.s 0) (.c (.int .i64 (1)))⟩,
     ⟨.var 1, 1, none, .mov (.s 0)⟩])))))
 (.region false [
   ⟨.push, 10, none, .mov (.v 3)⟩,
   ⟨.push, 11, none, .bin false .add (.s 0) (.c (.int .i64 (1)))⟩,
   ⟨.var 3, 5, none, .mov (.s 0)⟩]))
def ir30_k0 : List Bool := [true, true, false, true]
def ir30_o0 : List Bool := [true, true, false, false]
def ir30_r0 : List Bool := [true, false, true, false]
def ir30_v : List Nat := [0, 1, 4, 5]
def ir30 : AFn := ⟨2, 4, .seq (.region false [
    ⟨.var 2, 4, none, .mov (.c (.int .i64 (0)))⟩])
 (.seq (.seq (.region false [
     ⟨.var 3, 5, none, .mov (.c (.int .i64 (0)))⟩])
  (.block 0 (.loop ir30_k0 ir30_o0 ir30_r0 ir30_b0)))
 (.seq (.region false [
    ⟨.push, 26, none, .mov (.v 1)⟩,
    ⟨.var 2, 4, none, .mov (.s 0)⟩])
 (.ret))), [.t 2]⟩
noncomputable def t_laws_markFractionS : List (Nat × Ctr) := []
noncomputable def c_laws_markFractionS : Ctr := mkN t_laws_markFractionS ir30 [.io, .bor]
theorem s_laws_markFractionS : Sound Try.prog 30 c_laws_markFractionS := mkN_sound _ snd_nil (by kernel_rfl : chkFn Try.prog 30 ir30 ir30_v = true)
theorem M_laws_markFractionS : c_laws_markFractionS.modes = [.io, .bor] := rfl
theorem Fl_laws_markFractionS : c_laws_markFractionS.flat = false := rfl
attribute [go_sem] M_laws_markFractionS Fl_laws_markFractionS
def E_laws_markFractionS_l1  : ((List Fraction) × Int × Int) → St
  | (a, k, i) => ⟨[.own 31, .int .i64 k, .any, .int .i64 i], [], [(31, ⟨2, List.map Fraction_av a⟩)], true⟩
def R_laws_markFractionS_l1  (y : (List Fraction) × Int) : Res := (.exit 0, ⟨[.own 31, .int .i64 y.2, .any, .any], [], [(31, ⟨2, List.map Fraction_av y.1⟩)], true⟩)
theorem laws_markFractionS_l1_ex  {sgm_ : (List Fraction) × Int × Int} {rho_ : (List Fraction) × Int} (h : whileE (laws_markFractionS_l1) sgm_ = some rho_) : ∃ L0, ∀ L, L0 ≤ L → iter (exec (look t_laws_markFractionS) L ir30_b0) ir30_k0 ir30_o0 ir30_r0 L (E_laws_markFractionS_l1 sgm_) = R_laws_markFractionS_l1 rho_ := by
  refine loop_ex (E := E_laws_markFractionS_l1) (R := R_laws_markFractionS_l1) (fun y => by first | (intro c; cases c) | (rcases y with y | y <;> (intro c; cases c)) | (rcases y with y | y | y <;> (intro c; cases c))) ?_ h
  clear h
  rintro ⟨a, k, i⟩ o_ h
  dsimp only [laws_markFractionS_l1] at h
  rcases it_some h with ⟨hk1, h⟩ | ⟨hk1, h⟩
  · try simp only [go_sem, n1, n2, n3, n4] at hk1
    all_goals
    obtain ⟨hk2, h⟩ := ck_some h
    have lhk2 := ix_lt hk2
    have xhk2 := getD_mapD Fraction_av a lhk2
    try simp only [go_sem] at lhk2
    try simp only [go_sem] at xhk2
    try simp only [go_sem, n1, n2, n3, n4, hk1] at hk2
    all_goals
    obtain rfl := so_some h
    refine ⟨0, fun L hL => ?_⟩
    simp only [go_sem, ir30, E_laws_markFractionS_l1, R_laws_markFractionS_l1, ir30_b0, ir30_k0, ir30_o0, ir30_r0, hk1, hk2, lhk2, xhk2]
  · try simp only [go_sem, n1, n2, n3, n4] at hk1
    all_goals
    obtain rfl := so_some h
    refine ⟨0, fun L hL => ?_⟩
    simp only [go_sem, ir30, E_laws_markFractionS_l1, R_laws_markFractionS_l1, ir30_b0, ir30_k0, ir30_o0, ir30_r0, hk1]

theorem Fs_laws_markFractionS {a : List Fraction} {k : Int} {y_ : Int × (List Fraction)} (h : laws_markFractionS a k = some y_) : c_laws_markFractionS.F [.fresh 2 (List.map Fraction_av a), .int .i64 k] = ⟨true, .int .i64 y_.1, [.fresh 2 (List.map Fraction_av y_.2), .any]⟩ := by
  refine mkN_E ?_
  dsimp only [laws_markFractionS] at h
  obtain ⟨y_3, hk3, h⟩ := bd_some h
  obtain ⟨Lhk3, ehk3⟩ := laws_markFractionS_l1_ex hk3
  obtain ⟨hk4, h⟩ := ck_some h
  try simp only [go_sem, n1, n2, n3, n4] at hk4
  all_goals
  obtain rfl := so_some h
  refine ⟨Lhk3, fun L hL => ?_⟩
  have ehk3 := ehk3 L (by omega)
  try simp only [go_sem, E_laws_markFractionS_l1, R_laws_markFractionS_l1, ir30_k0, ir30_o0, ir30_r0, hk4] at ehk3
  simp only [go_sem, ir30, E_laws_markFractionS_l1, R_laws_markFractionS_l1, ir30_k0, ir30_o0, ir30_r0, hk4, ehk3]


def ir31_b0 : IR := .seq (.test false [
    ⟨.push, 6, none, .mov (.v 3)⟩,
    ⟨.push, 7, none, .mov (.v 0)⟩,
    ⟨.push, 8, none, .len false (.s 0)⟩,
    ⟨.push, 9, none, .bin false .lss (.s 2) (.s 0)⟩] (.s 0)
  (.skip)
  (.exit 0))
 (.seq (.block 1 (.seq (.test false [
      ⟨.push, 12, none, .mov (.v 0)⟩,
      ⟨.push, 13, none, .mov (.v 3)⟩,
      ⟨.push, 14, none, .ixAddr 2 (.s 1) (.s 0)⟩,
      ⟨.push, 15, none, .fldAddr 0 (.s 0)⟩,
      ⟨.push, 16, none, .load false 1 (.s 0)⟩,
      ⟨.push, 17, none, .mov (.v 1)⟩,
      ⟨.push, 18, none, .bin false .neq (.s 1) (.s 0)⟩] (.s 0)
    (.seq (.region false [
        ⟨.var 2, 4, none, .mov (.c (.int .i64 (-1)))⟩])
     (.ret))
    (.skip))
   (.seq (.region false [
      ⟨.push, 19, none, .mov (.v 1)⟩,
      ⟨.push, 20, none, .bin false .add (.s 0) (.c (.int .i64 (1)))⟩,
      ⟨.var 1, 1, none, .mov (.s 0)⟩])
   (.seq (.test false [
      ⟨.push, 21, none, .mov (.v 0)⟩,
      ⟨.push, 22, none, .mov (.v 3)⟩,
      ⟨.push, 23, none, .ixAddr 2 (.s 1) (.s 0)⟩,
      ⟨.push, 24, none, .fldAddr 1 (.s 0)⟩,
      ⟨.push, 25, none, .load false 1 (.s 0)⟩,
      ⟨.push, 26, none, .mov (.v 1)⟩,
      ⟨.push, 27, none, .bin false .neq (.s 1) (.s 0)⟩] (.s 0)
    (.seq (.region false [
        ⟨.var 2, 4, none, .mov (.c (.int .i64 (-1)))⟩])
     (.ret))
    (.skip))
   (.region false [
     ⟨.push, 28, none, .mov (.v 1)⟩,
     ⟨.push, 29, none, .bin false .add (.s 0) (.c (.int .i64 (1)))⟩,
     ⟨.var 1, 1, none, .mov (.s 0)⟩])))))
 (.region false [
   ⟨.push, 10, none, .mov (.v 3)⟩,
   ⟨.push, 11, none, .bin false .add (.s 0) (.c (.int .i64 (1)))⟩,
   ⟨.var 3, 5, none, .mov (.s 0)⟩]))
def ir31_k0 : List Bool := [true, true, false, true]
def ir31_o0 : List Bool := [false, true, false, false]
def ir31_r0 : List Bool := [false, false, true, false]
def ir31_v : List Nat := [0, 1, 4, 5]
def ir31 : AFn := ⟨2, 4, .seq (.region false [
    ⟨.var 2, 4, none, .mov (.c (.int .i64 (0)))⟩])
 (.seq (.seq (.region false [
     ⟨.var 3, 5, none, .mov (.c (.int .i64 (0)))⟩])
  (.block 0 (.loop ir31_k0 ir31_o0 ir31_r0 ir31_b0)))
 (.seq (.region false [
    ⟨.push, 30, none, .mov (.v 1)⟩,
    ⟨.var 2, 4, none, .mov (.s 0)⟩])
 (.ret))), [.t 2]⟩
noncomputable def t_laws_heldFractionS : List (Nat × Ctr) := []
noncomputable def c_laws_heldFractionS : Ctr := mkF t_laws_heldFractionS ir31 [.bor, .bor]
theorem s_laws_heldFractionS : Sound Try.prog 31 c_laws_heldFractionS := mkF_sound _ rfl snd_nil (by kernel_rfl : chkFn Try.prog 31 ir31 ir31_v = true)
theorem M_laws_heldFractionS : c_laws_heldFractionS.modes = [.bor, .bor] := rfl
theorem Fl_laws_heldFractionS : c_laws_heldFractionS.flat = true := rfl
attribute [go_sem] M_laws_heldFractionS Fl_laws_heldFractionS
def E_laws_heldFractionS_l1 (a : List Fraction) : (Int × Int) → St
  | (k, i) => ⟨[.sl 2 (List.map Fraction_av a), .int .i64 k, .any, .int .i64 i], [], [], true⟩
def R_laws_heldFractionS_l1 (a : List Fraction) : (Int ⊕ Int) → Res
  | .inl y => (.exit 0, ⟨[.any, .int .i64 y, .any, .any], [], [], true⟩)
  | .inr y => (.ret, ⟨[.any, .any, .int .i64 y, .any], [], [], true⟩)
theorem laws_heldFractionS_l1_ex {a : List Fraction} {sgm_ : Int × Int} {rho_ : Int ⊕ Int} (h : whileE (laws_heldFractionS_l1 a) sgm_ = some rho_) : ∃ L0, ∀ L, L0 ≤ L → iter (exec (look t_laws_heldFractionS) L ir31_b0) ir31_k0 ir31_o0 ir31_r0 L (E_laws_heldFractionS_l1 a sgm_) = R_laws_heldFractionS_l1 a rho_ := by
  refine loop_ex (E := E_laws_heldFractionS_l1 a) (R := R_laws_heldFractionS_l1 a) (fun y => by first | (intro c; cases c) | (rcases y with y | y <;> (intro c; cases c)) | (rcases y with y | y | y <;> (intro c; cases c))) ?_ h
  clear h
  rintro ⟨k, i⟩ o_ h
  dsimp only [laws_heldFractionS_l1] at h
  rcases it_some h with ⟨hk1, h⟩ | ⟨hk1, h⟩
  · try simp only [go_sem, n1, n2, n3, n4] at hk1
    all_goals
    obtain ⟨hk2, h⟩ := ck_some h
    have lhk2 := ix_lt hk2
    have xhk2 := getD_mapD Fraction_av a lhk2
    try simp only [go_sem] at lhk2
    try simp only [go_sem] at xhk2
    try simp only [go_sem, n1, n2, n3, n4, hk1] at hk2
    all_goals
    rcases it_some h with ⟨hk3, h⟩ | ⟨hk3, h⟩
    · try simp only [go_sem, n1, n2, n3, n4, hk1, hk2] at hk3
      all_goals
      obtain rfl := so_some h
      refine ⟨0, fun L hL => ?_⟩
      simp only [go_sem, ir31, E_laws_heldFractionS_l1, R_laws_heldFractionS_l1, ir31_b0, ir31_k0, ir31_o0, ir31_r0, hk1, hk2, lhk2, xhk2, hk3]
    · try simp only [go_sem, n1, n2, n3, n4, hk1, hk2] at hk3
      all_goals
      rcases it_some h with ⟨hk4, h⟩ | ⟨hk4, h⟩
      · try simp only [go_sem, n1, n2, n3, n4, hk1, hk2, hk3] at hk4
        all_goals
        obtain rfl := so_some h
        refine ⟨0, fun L hL => ?_⟩
        simp only [go_sem, ir31, E_laws_heldFractionS_l1, R_laws_heldFractionS_l1, ir31_b0, ir31_k0, ir31_o0, ir31_r0, hk1, hk2, lhk2, xhk2, hk3, hk4]
      · try simp only [go_sem, n1, n2, n3, n4, hk1, hk2, hk3] at hk4
        all_goals
        obtain rfl := so_some h
        refine ⟨0, fun L hL => ?_⟩
        simp only [go_sem, ir31, E_laws_heldFractionS_l1, R_laws_heldFractionS_l1, ir31_b0, ir31_k0, ir31_o0, ir31_r0, hk1, hk2, lhk2, xhk2, hk3, hk4]
  · try simp only [go_sem, n1, n2, n3, n4] at hk1
    all_goals
    obtain rfl := so_some h
    refine ⟨0, fun L hL => ?_⟩
    simp only [go_sem, ir31, E_laws_heldFractionS_l1, R_laws_heldFractionS_l1, ir31_b0, ir31_k0, ir31_o0, ir31_r0, hk1]

theorem Fs_laws_heldFractionS {a : List Fraction} {k : Int} {y_ : Int} (h : laws_heldFractionS a k = some y_) : c_laws_heldFractionS.F [.sl 2 (List.map Fraction_av a), .int .i64 k] = ⟨true, .int .i64 y_, [.any, .any]⟩ := by
  refine mkF_E rfl ?_
  dsimp only [laws_heldFractionS] at h
  obtain ⟨y_5, hk5, h⟩ := bd_some h
  obtain ⟨Lhk5, ehk5⟩ := laws_heldFractionS_l1_ex hk5
  rcases y_5 with y_5a | y_5b
  · dsimp only at h
    obtain rfl := so_some h
    refine ⟨Lhk5, fun L hL => ?_⟩
    have ehk5 := ehk5 L (by omega)
    try simp only [go_sem, E_laws_heldFractionS_l1, R_laws_heldFractionS_l1, ir31_k0, ir31_o0, ir31_r0] at ehk5
    simp only [go_sem, ir31, E_laws_heldFractionS_l1, R_laws_heldFractionS_l1, ir31_k0, ir31_o0, ir31_r0, ehk5]
  · dsimp only at h
    obtain rfl := so_some h
    refine ⟨Lhk5, fun L hL => ?_⟩
    have ehk5 := ehk5 L (by omega)
    try simp only [go_sem, E_laws_heldFractionS_l1, R_laws_heldFractionS_l1, ir31_k0, ir31_o0, ir31_r0] at ehk5
    simp only [go_sem, ir31, E_laws_heldFractionS_l1, R_laws_heldFractionS_l1, ir31_k0, ir31_o0, ir31_r0, ehk5]


def ir5_v : List Nat := [0, 1, 4, 5, 6, 7, 8, 9, 10, 11, 12, 13, 14, 15, 16]
def ir5 : AFn := ⟨2, 15, .seq (.region false [
    ⟨.var 2, 4, none, .mov (.c (.bool false))⟩])
 (.seq (.region false [
    ⟨.var 3, 5, none, .mov (.c (.int .i64 (1048576)))⟩])
 (.seq (.region false [
    ⟨.push, 17, none, .mov (.v 0)⟩,
    ⟨.push, 18, none, .mov (.v 3)⟩,
    ⟨.push, 19, none, .call 6 [(.s 1), (.s 0)]⟩,
    ⟨.var 3, 5, none, .mov (.s 0)⟩])
 (.seq (.test false [
    ⟨.push, 20, none, .mov (.v 3)⟩,
    ⟨.push, 21, none, .bin false .lss (.s 0) (.c (.int .i64 (0)))⟩] (.s 0)
  (.seq (.region false [
      ⟨.var 2, 4, none, .mov (.c (.bool true))⟩])
   (.ret))
  (.skip))
 (.seq (.region false [
    ⟨.push, 22, none, .mov (.v 1)⟩,
    ⟨.push, 23, none, .mov (.v 3)⟩,
    ⟨.push, 24, none, .call 23 [(.s 1), (.s 0)]⟩,
    ⟨.var 3, 5, none, .mov (.s 0)⟩])
 (.seq (.test false [
    ⟨.push, 25, none, .mov (.v 3)⟩,
    ⟨.push, 26, none, .bin false .lss (.s 0) (.c (.int .i64 (0)))⟩] (.s 0)
  (.seq (.region false [
      ⟨.var 2, 4, none, .mov (.c (.bool true))⟩])
   (.ret))
  (.skip))
 (.seq (.region false [
    ⟨.push, 28, none, .mov (.v 0)⟩,
    ⟨.push, 29, none, .call 10 [(.s 0)]⟩,
    ⟨.push, 30, none, .mov (.v 1)⟩,
    ⟨.push, 31, none, .call 25 [(.s 0)]⟩,
    ⟨.push, 32, none, .call 27 [(.s 2), (.s 0)]⟩,
    ⟨.push, 27, none, .mov (.s 0)⟩,
    ⟨.push, 33, none, .ext (.s 0) 0⟩,
    ⟨.push, 34, none, .ext (.s 1) 1⟩,
    ⟨.var 4, 6, none, .mov (.s 1)⟩,
    ⟨.var 5, 7, none, .mov (.s 0)⟩])
 (.seq (.region false [
    ⟨.push, 35, none, .mov (.v 0)⟩,
    ⟨.push, 36, none, .call 10 [(.s 0)]⟩,
    ⟨.var 6, 8, none, .mov (.s 0)⟩])
 (.seq (.region false [
    ⟨.push, 37, none, .mov (.v 1)⟩,
    ⟨.push, 38, none, .call 25 [(.s 0)]⟩,
    ⟨.var 7, 9, none, .mov (.s 0)⟩])
 (.seq (.region false [
    ⟨.push, 40, none, .mov (.v 6)⟩,
    ⟨.push, 41, none, .mov (.v 7)⟩,
    ⟨.push, 42, none, .call 28 [(.s 1), (.s 0)]⟩,
    ⟨.push, 39, none, .mov (.s 0)⟩,
    ⟨.push, 43, none, .ext (.s 0) 0⟩,
    ⟨.push, 44, none, .ext (.s 1) 1⟩,
    ⟨.var 8, 10, none, .mov (.s 1)⟩,
    ⟨.var 9, 11, none, .mov (.s 0)⟩])
 (.seq (.test false [
    ⟨.push, 45, none, .mov (.v 8)⟩,
    ⟨.push, 46, none, .mov (.v 4)⟩,
    ⟨.push, 47, none, .call 29 [(.s 1), (.s 0)]⟩,
    ⟨.push, 48, none, .un .not (.s 0)⟩,
    ⟨.push, 49, none, .mov (.s 0)⟩,
    ⟨.push, 50, (some ((.s 0), false)), .mov (.v 9)⟩,
    ⟨.push, 51, (some ((.s 1), false)), .mov (.v 5)⟩,
    ⟨.push, 52, (some ((.s 2), false)), .bin false .neq (.s 1) (.s 0)⟩,
    ⟨.push, 53, none, .pick (.s 3) (.c (.bool true)) (.s 0)⟩] (.s 0)
  (.seq (.region false [
      ⟨.var 2, 4, none, .mov (.c (.bool false))⟩])
   (.ret))
  (.skip))
 (.seq (.test false [
    ⟨.push, 54, none, .mov (.v 6)⟩,
    ⟨.push, 55, none, .mov (.v 0)⟩,
    ⟨.push, 56, none, .call 10 [(.s 0)]⟩,
    ⟨.push, 57, none, .call 15 [(.s 2), (.s 0)]⟩,
    ⟨.push, 58, none, .un .not (.s 0)⟩] (.s 0)
  (.seq (.region false [
      ⟨.var 2, 4, none, .mov (.c (.bool false))⟩])
   (.ret))
  (.skip))
 (.seq (.test false [
    ⟨.push, 59, none, .mov (.v 7)⟩,
    ⟨.push, 60, none, .mov (.v 1)⟩,
    ⟨.push, 61, none, .call 25 [(.s 0)]⟩,
    ⟨.push, 62, none, .call 14 [(.s 2), (.s 0)]⟩,
    ⟨.push, 63, none, .un .not (.s 0)⟩] (.s 0)
  (.seq (.region false [
      ⟨.var 2, 4, none, .mov (.c (.bool false))⟩])
   (.ret))
  (.skip))
 (.seq (.region false [
    ⟨.var 10, 12, none, .mov (.c (.int .i64 (1)))⟩])
 (.seq (.region false [
    ⟨.push, 64, none, .mov (.v 6)⟩,
    ⟨.push, 65, none, .mov (.v 10)⟩,
    ⟨.push, 66, none, .call 18 [(.s 1), (.s 0)]⟩,
    ⟨.var 10, 12, none, .mov (.s 0)⟩])
 (.seq (.region false [
    ⟨.push, 67, none, .mov (.v 7)⟩,
    ⟨.push, 68, none, .mov (.v 10)⟩,
    ⟨.push, 69, none, .call 21 [(.s 1), (.s 0)]⟩,
    ⟨.var 10, 12, none, .mov (.s 0)⟩])
 (.seq (.test false [
    ⟨.push, 70, none, .mov (.v 10)⟩,
    ⟨.push, 71, none, .bin false .lss (.s 0) (.c (.int .i64 (0)))⟩,
    ⟨.push, 72, none, .mov (.s 0)⟩,
    ⟨.push, 73, (some ((.s 0), false)), .mov (.v 8)⟩,
    ⟨.push, 74, (some ((.s 1), false)), .mov (.v 4)⟩,
    ⟨.push, 75, (some ((.s 2), false)), .call 29 [(.s 1), (.s 0)]⟩,
    ⟨.push, 76, (some ((.s 3), false)), .un .not (.s 0)⟩,
    ⟨.push, 77, none, .pick (.s 4) (.c (.bool true)) (.s 0)⟩,
    ⟨.push, 78, none, .mov (.s 0)⟩,
    ⟨.push, 79, (some ((.s 0), false)), .mov (.v 9)⟩,
    ⟨.push, 80, (some ((.s 1), false)), .mov (.v 5)⟩,
    ⟨.push, 81, (some ((.s 2), false)), .bin false .neq (.s 1) (.s 0)⟩,
    ⟨.push, 82, none, .pick (.s 3) (.c (.bool true)) (.s 0)⟩] (.s 0)
  (.seq (.region false [
      ⟨.var 2, 4, none, .mov (.c (.bool false))⟩])
   (.ret))
  (.skip))
 (.seq (.region false [
    ⟨.var 11, 13, none, .mov (.c (.int .i64 (1)))⟩])
 (.seq (.region false [
    ⟨.push, 83, none, .mov (.v 8)⟩,
    ⟨.push, 84, none, .mov (.v 11)⟩,
    ⟨.push, 85, none, .call 30 [(.s 1), (.s 0)]⟩,
    ⟨.var 11, 13, none, .mov (.s 0)⟩])
 (.seq (.region false [
    ⟨.var 12, 14, none, .mov (.c (.int .i64 (1)))⟩])
 (.seq (.region false [
    ⟨.push, 86, none, .mov (.v 8)⟩,
    ⟨.push, 87, none, .mov (.v 12)⟩,
    ⟨.push, 88, none, .call 31 [(.s 1), (.s 0)]⟩,
    ⟨.var 12, 14, none, .mov (.s 0)⟩])
 (.seq (.test false [
    ⟨.push, 89, none, .mov (.v 12)⟩,
    ⟨.push, 90, none, .bin false .lss (.s 0) (.c (.int .i64 (0)))⟩] (.s 0)
  (.seq (.region false [
      ⟨.var 2, 4, none, .mov (.c (.bool false))⟩])
   (.ret))
  (.skip))
 (.seq (.test false [
    ⟨.push, 91, none, .mov (.v 12)⟩,
    ⟨.push, 92, none, .mov (.v 11)⟩,
    ⟨.push, 93, none, .bin false .neq (.s 1) (.s 0)⟩] (.s 0)
  (.seq (.region false [
      ⟨.var 2, 4, none, .mov (.c (.bool false))⟩])
   (.ret))
  (.skip))
 (.seq (.region false [
    ⟨.push, 95, none, .mov (.v 0)⟩,
    ⟨.push, 96, none, .call 10 [(.s 0)]⟩,
    ⟨.push, 97, none, .mov (.v 1)⟩,
    ⟨.push, 98, none, .call 25 [(.s 0)]⟩,
    ⟨.push, 99, none, .call 28 [(.s 2), (.s 0)]⟩,
    ⟨.push, 94, none, .mov (.s 0)⟩,
    ⟨.push, 100, none, .ext (.s 0) 0⟩,
    ⟨.push, 101, none, .ext (.s 1) 1⟩,
    ⟨.var 13, 15, none, .mov (.s 1)⟩,
    ⟨.var 14, 16, none, .mov (.s 0)⟩])
 (.seq (.test false [
    ⟨.push, 102, none, .mov (.v 13)⟩,
    ⟨.push, 103, none, .mov (.v 4)⟩,
    ⟨.push, 104, none, .call 29 [(.s 1), (.s 0)]⟩,
    ⟨.push, 105, none, .un .not (.s 0)⟩,
    ⟨.push, 106, none, .mov (.s 0)⟩,
    ⟨.push, 107, (some ((.s 0), false)), .mov (.v 14)⟩,
    ⟨.push, 108, (some ((.s 1), false)), .mov (.v 5)⟩,
    ⟨.push, 109, (some ((.s 2), false)), .bin false .neq (.s 1) (.s 0)⟩,
    ⟨.push, 110, none, .pick (.s 3) (.c (.bool true)) (.s 0)⟩] (.s 0)
  (.seq (.region false [
      ⟨.var 2, 4, none, .mov (.c (.bool false))⟩])
   (.ret))
  (.skip))
 (.seq (.region false [
    ⟨.var 12, 14, none, .mov (.c (.int .i64 (1)))⟩])
 (.seq (.region false [
    ⟨.push, 111, none, .mov (.v 8)⟩,
    ⟨.push, 112, none, .mov (.v 12)⟩,
    ⟨.push, 113, none, .call 31 [(.s 1), (.s 0)]⟩,
    ⟨.var 12, 14, none, .mov (.s 0)⟩])
 (.seq (.test false [
    ⟨.push, 114, none, .mov (.v 12)⟩,
    ⟨.push, 115, none, .bin false .lss (.s 0) (.c (.int .i64 (0)))⟩] (.s 0)
  (.seq (.region false [
      ⟨.var 2, 4, none, .mov (.c (.bool false))⟩])
   (.ret))
  (.skip))
 (.seq (.test false [
    ⟨.push, 116, none, .mov (.v 12)⟩,
    ⟨.push, 117, none, .mov (.v 11)⟩,
    ⟨.push, 118, none, .bin false .neq (.s 1) (.s 0)⟩] (.s 0)
  (.seq (.region false [
      ⟨.var 2, 4, none, .mov (.c (.bool false))⟩])
   (.ret))
  (.skip))
 (.seq (.region false [
    ⟨.var 2, 4, none, .mov (.c (.bool true))⟩])
 (.ret)))))))))))))))))))))))))))))), [.t 2]⟩
noncomputable def t_laws_FnExactFaultShares : List (Nat × Ctr) := [(6, c_laws_szEstimateS), (23, c_laws_szFaultS), (10, c_laws_toEstimateS), (25, c_laws_toFaultS), (27, c_spec_FaultShares), (28, c_impl_FaultShares), (29, c_laws_eqFractionS), (15, c_laws_eqEstimateS), (14, c_laws_eqFaultS), (18, c_laws_markEstimateS), (21, c_laws_markFaultS), (30, c_laws_markFractionS), (31, c_laws_heldFractionS)]
theorem lk_laws_FnExactFaultShares_6 : look t_laws_FnExactFaultShares 6 = some c_laws_szEstimateS := rfl
theorem lk_laws_FnExactFaultShares_23 : look t_laws_FnExactFaultShares 23 = some c_laws_szFaultS := rfl
theorem lk_laws_FnExactFaultShares_10 : look t_laws_FnExactFaultShares 10 = some c_laws_toEstimateS := rfl
theorem lk_laws_FnExactFaultShares_25 : look t_laws_FnExactFaultShares 25 = some c_laws_toFaultS := rfl
theorem lk_laws_FnExactFaultShares_27 : look t_laws_FnExactFaultShares 27 = some c_spec_FaultShares := rfl
theorem lk_laws_FnExactFaultShares_28 : look t_laws_FnExactFaultShares 28 = some c_impl_FaultShares := rfl
theorem lk_laws_FnExactFaultShares_29 : look t_laws_FnExactFaultShares 29 = some c_laws_eqFractionS := rfl
theorem lk_laws_FnExactFaultShares_15 : look t_laws_FnExactFaultShares 15 = some c_laws_eqEstimateS := rfl
theorem lk_laws_FnExactFaultShares_14 : look t_laws_FnExactFaultShares 14 = some c_laws_eqFaultS := rfl
theorem lk_laws_FnExactFaultShares_18 : look t_laws_FnExactFaultShares 18 = some c_laws_markEstimateS := rfl
theorem lk_laws_FnExactFaultShares_21 : look t_laws_FnExactFaultShares 21 = some c_laws_markFaultS := rfl
theorem lk_laws_FnExactFaultShares_30 : look t_laws_FnExactFaultShares 30 = some c_laws_markFractionS := rfl
theorem lk_laws_FnExactFaultShares_31 : look t_laws_FnExactFaultShares 31 = some c_laws_heldFractionS := rfl
noncomputable def c_laws_FnExactFaultShares : Ctr := mkF t_laws_FnExactFaultShares ir5 [.bor, .bor]
theorem s_laws_FnExactFaultShares : Sound Try.prog 5 c_laws_FnExactFaultShares := mkF_sound _ rfl (snd_cons s_laws_szEstimateS (snd_cons s_laws_szFaultS (snd_cons s_laws_toEstimateS (snd_cons s_laws_toFaultS (snd_cons s_spec_FaultShares (snd_cons s_impl_FaultShares (snd_cons s_laws_eqFractionS (snd_cons s_laws_eqEstimateS (snd_cons s_laws_eqFaultS (snd_cons s_laws_markEstimateS (snd_cons s_laws_markFaultS (snd_cons s_laws_markFractionS (snd_cons s_laws_heldFractionS snd_nil))))))))))))) (by kernel_rfl : chkFn Try.prog 5 ir5 ir5_v = true)
theorem M_laws_FnExactFaultShares : c_laws_FnExactFaultShares.modes = [.bor, .bor] := rfl
theorem Fl_laws_FnExactFaultShares : c_laws_FnExactFaultShares.flat = true := rfl
attribute [go_sem] M_laws_FnExactFaultShares Fl_laws_FnExactFaultShares
attribute [go_sem] lk_laws_FnExactFaultShares_6 lk_laws_FnExactFaultShares_23 lk_laws_FnExactFaultShares_10 lk_laws_FnExactFaultShares_25 lk_laws_FnExactFaultShares_27 lk_laws_FnExactFaultShares_28 lk_laws_FnExactFaultShares_29 lk_laws_FnExactFaultShares_15 lk_laws_FnExactFaultShares_14 lk_laws_FnExactFaultShares_18 lk_laws_FnExactFaultShares_21 lk_laws_FnExactFaultShares_30 lk_laws_FnExactFaultShares_31
theorem Fs_laws_FnExactFaultShares {aList : List Estimate} {aFaults : List Fault} {y_ : Bool} (h : laws_FnExactFaultShares aList aFaults = some y_) : c_laws_FnExactFaultShares.F [.sl 5 (List.map Estimate_av aList), .sl 2 (List.map Fault_av aFaults)] = ⟨true, .bool y_, [.any, .any]⟩ := by
  refine mkF_E rfl ?_
  dsimp only [laws_FnExactFaultShares] at h
  obtain ⟨y_1, hk1, h⟩ := bd_some h
  have fhk1 := Fs_laws_szEstimateS hk1
  try simp only [go_sem] at fhk1
  rcases it_some h with ⟨hk2, h⟩ | ⟨hk2, h⟩
  · try simp only [go_sem, n1, n2, n3, n4] at hk2
    all_goals
    obtain rfl := so_some h
    refine ⟨0, fun L hL => ?_⟩
    simp only [go_sem, ir5, fhk1, hk2]
  · try simp only [go_sem, n1, n2, n3, n4] at hk2
    all_goals
    obtain ⟨y_3, hk3, h⟩ := bd_some h
    have fhk3 := Fs_laws_szFaultS hk3
    try simp only [go_sem, hk2] at fhk3
    rcases it_some h with ⟨hk4, h⟩ | ⟨hk4, h⟩
    · try simp only [go_sem, n1, n2, n3, n4, hk2] at hk4
      all_goals
      obtain rfl := so_some h
      refine ⟨0, fun L hL => ?_⟩
      simp only [go_sem, ir5, fhk1, hk2, fhk3, hk4]
    · try simp only [go_sem, n1, n2, n3, n4, hk2] at hk4
      all_goals
      obtain ⟨y_5, hk5, h⟩ := bd_some h
      have fhk5 := Fs_laws_toEstimateS hk5
      try simp only [go_sem, hk2, hk4] at fhk5
      obtain ⟨y_6, hk6, h⟩ := bd_some h
      have fhk6 := Fs_laws_toFaultS hk6
      try simp only [go_sem, hk2, hk4] at fhk6
      obtain ⟨y_7, hk7, h⟩ := bd_some h
      have fhk7 := Fs_spec_FaultShares hk7
      try simp only [go_sem, hk2, hk4] at fhk7
      obtain ⟨y_8, hk8, h⟩ := bd_some h
      have fhk8 := Fs_impl_FaultShares hk8
      try simp only [go_sem, hk2, hk4] at fhk8
      obtain ⟨y_9, hk9, h⟩ := bd_some h
      have fhk9 := Fs_laws_eqFractionS hk9
      try simp only [go_sem, hk2, hk4] at fhk9
      rcases it_some h with ⟨hk10, h⟩ | ⟨hk10, h⟩
      · try simp only [go_sem, n1, n2, n3, n4, hk2, hk4] at hk10
        all_goals
        obtain rfl := so_some h
        refine ⟨0, fun L hL => ?_⟩
        simp only [go_sem, ir5, fhk1, hk2, fhk3, hk4, fhk5, fhk6, fhk7, fhk8, fhk9, hk10]
      · try simp only [go_sem, n1, n2, n3, n4, hk2, hk4] at hk10
        all_goals
        obtain ⟨y_11, hk11, h⟩ := bd_some h
        have fhk11 := Fs_laws_eqEstimateS hk11
        try simp only [go_sem, hk2, hk4, hk10] at fhk11
        rcases it_some h with ⟨hk12, h⟩ | ⟨hk12, h⟩
        · try simp only [go_sem, n1, n2, n3, n4, hk2, hk4, hk10] at hk12
          all_goals
          obtain rfl := so_some h
          refine ⟨0, fun L hL => ?_⟩
          simp only [go_sem, ir5, fhk1, hk2, fhk3, hk4, fhk5, fhk6, fhk7, fhk8, fhk9, hk10, fhk11, hk12]
        · try simp only [go_sem, n1, n2, n3, n4, hk2, hk4, hk10] at hk12
          all_goals
          obtain ⟨y_13, hk13, h⟩ := bd_some h
          have fhk13 := Fs_laws_eqFaultS hk13
          try simp only [go_sem, hk2, hk4, hk10, hk12] at fhk13
          rcases it_some h with ⟨hk14, h⟩ | ⟨hk14, h⟩
          · try simp only [go_sem, n1, n2, n3, n4, hk2, hk4, hk10, hk12] at hk14
            all_goals
            obtain rfl := so_some h
            refine ⟨0, fun L hL => ?_⟩
            simp only [go_sem, ir5, fhk1, hk2, fhk3, hk4, fhk5, fhk6, fhk7, fhk8, fhk9, hk10, fhk11, hk12, fhk13, hk14]
          · try simp only [go_sem, n1, n2, n3, n4, hk2, hk4, hk10, hk12] at hk14
            all_goals
            obtain ⟨y_15, hk15, h⟩ := bd_some h
            have fhk15 := Fs_laws_markEstimateS hk15
            try simp only [go_sem, hk2, hk4, hk10, hk12, hk14] at fhk15
            obtain ⟨y_16, hk16, h⟩ := bd_some h
            have fhk16 := Fs_laws_markFaultS hk16
            try simp only [go_sem, hk2, hk4, hk10, hk12, hk14] at fhk16
            rcases it_some h with ⟨hk18, h⟩ | ⟨hk18, h⟩
            · try simp only [go_sem, n1, n2, n3, n4, hk2, hk4, hk10, hk12, hk14] at hk18
              all_goals
              obtain rfl := so_some h
              refine ⟨0, fun L hL => ?_⟩
              simp only [go_sem, ir5, fhk1, hk2, fhk3, hk4, fhk5, fhk6, fhk7, fhk8, fhk9, hk10, fhk11, hk12, fhk13, hk14, fhk15, fhk16, hk18]
            · try simp only [go_sem, n1, n2, n3, n4, hk2, hk4, hk10, hk12, hk14] at hk18
              all_goals
              obtain ⟨y_19, hk19, h⟩ := bd_some h
              have fhk19 := Fs_laws_markFractionS hk19
              try simp only [go_sem, hk2, hk4, hk10, hk12, hk14, hk18] at fhk19
              obtain ⟨y_20, hk20, h⟩ := bd_some h
              have fhk20 := Fs_laws_heldFractionS hk20
              try simp only [go_sem, hk2, hk4, hk10, hk12, hk14, hk18] at fhk20
              rcases it_some h with ⟨hk21, h⟩ | ⟨hk21, h⟩
              · try simp only [go_sem, n1, n2, n3, n4, hk2, hk4, hk10, hk12, hk14, hk18] at hk21
                all_goals
                obtain rfl := so_some h
                refine ⟨0, fun L hL => ?_⟩
                simp only [go_sem, ir5, fhk1, hk2, fhk3, hk4, fhk5, fhk6, fhk7, fhk8, fhk9, hk10, fhk11, hk12, fhk13, hk14, fhk15, fhk16, hk18, fhk19, fhk20, hk21]
              · try simp only [go_sem, n1, n2, n3, n4, hk2, hk4, hk10, hk12, hk14, hk18] at hk21
                all_goals
                rcases it_some h with ⟨hk22, h⟩ | ⟨hk22, h⟩
                · try simp only [go_sem, n1, n2, n3, n4, hk2, hk4, hk10, hk12, hk14, hk18, hk21] at hk22
                  all_goals
                  obtain rfl := so_some h
                  refine ⟨0, fun L hL => ?_⟩
                  simp only [go_sem, ir5, fhk1, hk2, fhk3, hk4, fhk5, fhk6, fhk7, fhk8, fhk9, hk10, fhk11, hk12, fhk13, hk14, fhk15, fhk16, hk18, fhk19, fhk20, hk21, hk22]
                · try simp only [go_sem, n1, n2, n3, n4, hk2, hk4, hk10, hk12, hk14, hk18, hk21] at hk22
                  all_goals
                  obtain rfl := so_some h
                  refine ⟨0, fun L hL => ?_⟩
                  simp only [go_sem, ir5, fhk1, hk2, fhk3, hk4, fhk5, fhk6, fhk7, fhk8, fhk9, hk10, fhk11, hk12, fhk13, hk14, fhk15, fhk16, hk18, fhk19, fhk20, hk21, hk22]


end Go.Proofs.Ytcfjogkgmkagiab
