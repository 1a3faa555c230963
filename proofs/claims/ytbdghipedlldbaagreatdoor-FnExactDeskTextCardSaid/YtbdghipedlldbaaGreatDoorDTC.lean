/- Codes and contracts of the functions that DT reaches, and that their typed forms say what they do. No condition. -/
import Derived.Test.YtbdghipedlldbaaGreatDoorDTT
import Derived.Test.YtbdghipedlldbaaGreatDoorEngSCut
import Derived.Test.YtbdghipedlldbaaGreatDoorEngSF
import Derived.Test.YtbdghipedlldbaaGreatDoorEngSRd
import Derived.Test.YtbdghipedlldbaaGreatDoorRows
import Derived.WalkKit
namespace Go.Proofs.YtbdghipedlldbaaGreatDoor
open Go Go.RowKit
set_option linter.unusedVariables false
set_option linter.unusedSimpArgs false
set_option maxRecDepth 10000

def ir26_v : List Nat := [0, 1, 2, 3]
def ir26 : AFn := ⟨1, 4, .seq (.region false [
    ⟨.var 1, 1, none, .box (.v 0)⟩,
    ⟨.var 2, 2, none, .alloc (.agg [.str [], .int .i64 (0), .int .i64 (0), .int .i64 (0), .int .i64 (0)])⟩])
 (.seq (.region false [
    ⟨.var 3, 3, none, .alloc (.agg [.str [], .int .i64 (0), .int .i64 (0), .int .i64 (0), .int .i64 (0)])⟩])
 (.seq (.region false [
    ⟨.push, 4, none, .fldAddr 0 (.v 1)⟩,
    ⟨.push, 5, none, .load false 1 (.s 0)⟩,
    ⟨.push, 6, none, .fldAddr 0 (.v 3)⟩,
    ⟨.no, 0, none, .store 1 (.s 0) (.s 1)⟩])
 (.seq (.region false [
    ⟨.push, 7, none, .fldAddr 1 (.v 1)⟩,
    ⟨.push, 8, none, .load false 1 (.s 0)⟩,
    ⟨.push, 9, none, .fldAddr 1 (.v 3)⟩,
    ⟨.no, 0, none, .store 1 (.s 0) (.s 1)⟩])
 (.seq (.region false [
    ⟨.push, 10, none, .fldAddr 2 (.v 1)⟩,
    ⟨.push, 11, none, .load false 1 (.s 0)⟩,
    ⟨.push, 12, none, .fldAddr 2 (.v 3)⟩,
    ⟨.no, 0, none, .store 1 (.s 0) (.s 1)⟩])
 (.seq (.region false [
    ⟨.push, 13, none, .fldAddr 3 (.v 1)⟩,
    ⟨.push, 14, none, .load false 1 (.s 0)⟩,
    ⟨.push, 15, none, .fldAddr 3 (.v 3)⟩,
    ⟨.no, 0, none, .store 1 (.s 0) (.s 1)⟩])
 (.seq (.region false [
    ⟨.push, 16, none, .fldAddr 4 (.v 1)⟩,
    ⟨.push, 17, none, .load false 1 (.s 0)⟩,
    ⟨.push, 18, none, .fldAddr 4 (.v 3)⟩,
    ⟨.no, 0, none, .store 1 (.s 0) (.s 1)⟩])
 (.seq (.region false [
    ⟨.push, 19, none, .load true 5 (.v 3)⟩,
    ⟨.no, 0, none, .store 5 (.v 2) (.s 0)⟩])
 (.ret)))))))), [.cell true 5 2]⟩
noncomputable def t_laws_toStar : List (Nat × Ctr) := []
noncomputable def c_laws_toStar : Ctr := mkN t_laws_toStar ir26 [.bor]
theorem s_laws_toStar : Sound Tryz.prog 26 c_laws_toStar := mkN_sound _ snd_nil (by kernel_rfl : chkFn Tryz.prog 26 ir26 ir26_v = true)
theorem M_laws_toStar : c_laws_toStar.modes = [.bor] := rfl
theorem Fl_laws_toStar : c_laws_toStar.flat = false := rfl
attribute [go_sem] M_laws_toStar Fl_laws_toStar
theorem Fs_laws_toStar {a : Star} {y_ : Star} (h : laws_toStar a = some y_) : c_laws_toStar.F [Star_av a] = ⟨true, Star_av y_, [.any]⟩ := by
  refine mkN_E ?_
  dsimp only [laws_toStar] at h
  obtain rfl := so_some h
  refine ⟨0, fun L hL => ?_⟩
  simp only [go_sem, ir26]


def ir13_b0 : IR := .seq (.test false [
    ⟨.push, 8, none, .mov (.v 3)⟩,
    ⟨.push, 9, none, .mov (.v 0)⟩,
    ⟨.push, 10, none, .len false (.s 0)⟩,
    ⟨.push, 11, none, .bin false .lss (.s 2) (.s 0)⟩] (.s 0)
  (.skip)
  (.exit 0))
 (.seq (.block 1 (.region false [
     ⟨.push, 14, none, .mov (.v 2)⟩,
     ⟨.push, 15, none, .mov (.v 3)⟩,
     ⟨.push, 16, none, .mov (.v 0)⟩,
     ⟨.push, 17, none, .mov (.v 3)⟩,
     ⟨.push, 18, none, .ixAddr 5 (.s 1) (.s 0)⟩,
     ⟨.push, 19, none, .load true 5 (.s 0)⟩,
     ⟨.push, 20, none, .call 26 [(.s 0)]⟩,
     ⟨.push, 21, none, .ixAddr 5 (.s 6) (.s 5)⟩,
     ⟨.no, 0, none, .store 5 (.s 0) (.s 1)⟩]))
 (.region false [
   ⟨.push, 12, none, .mov (.v 3)⟩,
   ⟨.push, 13, none, .bin false .add (.s 0) (.c (.int .i64 (1)))⟩,
   ⟨.var 3, 4, none, .mov (.s 0)⟩]))
def ir13_k0 : List Bool := [true, false, true, true]
def ir13_o0 : List Bool := [false, false, true, false]
def ir13_r0 : List Bool := [false, true, false, false]
def ir13_v : List Nat := [0, 2, 3, 4]
def ir13 : AFn := ⟨1, 4, .seq (.region false [
    ⟨.var 1, 2, none, .newnil 5⟩])
 (.seq (.region false [
    ⟨.push, 5, none, .mov (.v 0)⟩,
    ⟨.push, 6, none, .len false (.s 0)⟩,
    ⟨.push, 7, none, .make 5 48 (.agg [.str [], .int .i64 (0), .int .i64 (0), .int .i64 (0), .int .i64 (0)]) (.s 0) (.s 0)⟩,
    ⟨.var 2, 3, none, .mov (.s 0)⟩])
 (.seq (.seq (.region false [
     ⟨.var 3, 4, none, .mov (.c (.int .i64 (0)))⟩])
  (.block 0 (.loop ir13_k0 ir13_o0 ir13_r0 ir13_b0)))
 (.seq (.region false [
    ⟨.push, 22, none, .mov (.v 2)⟩,
    ⟨.var 1, 2, none, .mov (.s 0)⟩])
 (.ret)))), [.t 1]⟩
noncomputable def t_laws_toStarS : List (Nat × Ctr) := [(26, c_laws_toStar)]
theorem lk_laws_toStarS_26 : look t_laws_toStarS 26 = some c_laws_toStar := rfl
noncomputable def c_laws_toStarS : Ctr := mkF t_laws_toStarS ir13 [.bor]
theorem s_laws_toStarS : Sound Tryz.prog 13 c_laws_toStarS := mkF_sound _ rfl (snd_cons s_laws_toStar snd_nil) (by kernel_rfl : chkFn Tryz.prog 13 ir13 ir13_v = true)
theorem M_laws_toStarS : c_laws_toStarS.modes = [.bor] := rfl
theorem Fl_laws_toStarS : c_laws_toStarS.flat = true := rfl
attribute [go_sem] M_laws_toStarS Fl_laws_toStarS
attribute [go_sem] lk_laws_toStarS_26
def E_laws_toStarS_l1 (a : List Star) : ((List Star) × Int) → St
  | (out, i) => ⟨[.sl 5 (List.map Star_av a), .any, .own 3200000, .int .i64 i], [], [(3200000, ⟨5, List.map Star_av out⟩)], true⟩
def R_laws_toStarS_l1 (a : List Star) (y : (List Star)) : Res := (.exit 0, ⟨[.any, .any, .own 3200000, .any], [], [(3200000, ⟨5, List.map Star_av y⟩)], true⟩)
theorem laws_toStarS_l1_ex {a : List Star} {sgm_ : (List Star) × Int} {rho_ : (List Star)} (h : whileE (laws_toStarS_l1 a) sgm_ = some rho_) : ∃ L0, ∀ L, L0 ≤ L → iter (exec (look t_laws_toStarS) L ir13_b0) ir13_k0 ir13_o0 ir13_r0 L (E_laws_toStarS_l1 a sgm_) = R_laws_toStarS_l1 a rho_ := by
  refine loop_ex (E := E_laws_toStarS_l1 a) (R := R_laws_toStarS_l1 a) (fun y => by first | (intro c; cases c) | (rcases y with y | y <;> (intro c; cases c)) | (rcases y with y | y | y <;> (intro c; cases c))) ?_ h
  clear h
  rintro ⟨out, i⟩ o_ h
  dsimp only [laws_toStarS_l1] at h
  rcases it_some h with ⟨hk2, h⟩ | ⟨hk2, h⟩
  · try simp only [go_sem, n1, n2, n3, n4] at hk2
    all_goals
    obtain ⟨hk3, h⟩ := ck_some h
    have lhk3 := ix_lt hk3
    have xhk3 := getD_mapD Star_av a lhk3
    try simp only [go_sem] at lhk3
    try simp only [go_sem] at xhk3
    try simp only [go_sem, n1, n2, n3, n4, hk2] at hk3
    all_goals
    obtain ⟨y_4, hk4, h⟩ := bd_some h
    have fhk4 := Fs_laws_toStar hk4
    try simp only [go_sem, hk2, hk3] at fhk4
    obtain ⟨hk5, h⟩ := ck_some h
    have lhk5 := ix_lt hk5
    have xhk5 := getD_mapD Star_av out lhk5
    try simp only [go_sem] at lhk5
    try simp only [go_sem] at xhk5
    try simp only [go_sem, n1, n2, n3, n4, hk2, hk3] at hk5
    all_goals
    obtain rfl := so_some h
    refine ⟨0, fun L hL => ?_⟩
    simp only [go_sem, ir13, E_laws_toStarS_l1, R_laws_toStarS_l1, ir13_b0, ir13_k0, ir13_o0, ir13_r0, hk2, hk3, lhk3, xhk3, fhk4, hk5, lhk5, xhk5]
  · try simp only [go_sem, n1, n2, n3, n4] at hk2
    all_goals
    obtain rfl := so_some h
    refine ⟨0, fun L hL => ?_⟩
    simp only [go_sem, ir13, E_laws_toStarS_l1, R_laws_toStarS_l1, ir13_b0, ir13_k0, ir13_o0, ir13_r0, hk2]

theorem Fs_laws_toStarS {a : List Star} {y_ : (List Star)} (h : laws_toStarS a = some y_) : c_laws_toStarS.F [.sl 5 (List.map Star_av a)] = ⟨true, .fresh 5 (List.map Star_av y_), [.any]⟩ := by
  refine mkF_E (by simp only [flatA, flatB, flat1, List.all_cons, List.all_nil, Bool.and_self, flatE_map (f := Star_av) (fun _ => rfl)]) ?_
  dsimp only [laws_toStarS] at h
  obtain ⟨hk1, h⟩ := ck_some h
  try simp only [go_sem, n1, n2, n3, n4] at hk1
  all_goals
  obtain ⟨y_6, hk6, h⟩ := bd_some h
  obtain ⟨Lhk6, ehk6⟩ := laws_toStarS_l1_ex hk6
  obtain rfl := so_some h
  refine ⟨Lhk6, fun L hL => ?_⟩
  have ehk6 := ehk6 L (by omega)
  try simp only [go_sem, E_laws_toStarS_l1, R_laws_toStarS_l1, ir13_k0, ir13_o0, ir13_r0, hk1] at ehk6
  simp only [go_sem, ir13, E_laws_toStarS_l1, R_laws_toStarS_l1, ir13_k0, ir13_o0, ir13_r0, hk1, ehk6]


def ir27_v : List Nat := [0, 1, 2, 3]
def ir27 : AFn := ⟨1, 4, .seq (.region false [
    ⟨.var 1, 1, none, .box (.v 0)⟩,
    ⟨.var 2, 2, none, .alloc (.agg [.int .i64 (0), .str [], .str [], .int .i64 (0), .bool false])⟩])
 (.seq (.region false [
    ⟨.var 3, 3, none, .alloc (.agg [.int .i64 (0), .str [], .str [], .int .i64 (0), .bool false])⟩])
 (.seq (.region false [
    ⟨.push, 4, none, .fldAddr 0 (.v 1)⟩,
    ⟨.push, 5, none, .load false 1 (.s 0)⟩,
    ⟨.push, 6, none, .fldAddr 0 (.v 3)⟩,
    ⟨.no, 0, none, .store 1 (.s 0) (.s 1)⟩])
 (.seq (.region false [
    ⟨.push, 7, none, .fldAddr 1 (.v 1)⟩,
    ⟨.push, 8, none, .load false 1 (.s 0)⟩,
    ⟨.push, 9, none, .fldAddr 1 (.v 3)⟩,
    ⟨.no, 0, none, .store 1 (.s 0) (.s 1)⟩])
 (.seq (.region false [
    ⟨.push, 10, none, .fldAddr 2 (.v 1)⟩,
    ⟨.push, 11, none, .load false 1 (.s 0)⟩,
    ⟨.push, 12, none, .fldAddr 2 (.v 3)⟩,
    ⟨.no, 0, none, .store 1 (.s 0) (.s 1)⟩])
 (.seq (.region false [
    ⟨.push, 13, none, .fldAddr 3 (.v 1)⟩,
    ⟨.push, 14, none, .load false 1 (.s 0)⟩,
    ⟨.push, 15, none, .fldAddr 3 (.v 3)⟩,
    ⟨.no, 0, none, .store 1 (.s 0) (.s 1)⟩])
 (.seq (.region false [
    ⟨.push, 16, none, .fldAddr 4 (.v 1)⟩,
    ⟨.push, 17, none, .load false 1 (.s 0)⟩,
    ⟨.push, 18, none, .fldAddr 4 (.v 3)⟩,
    ⟨.no, 0, none, .store 1 (.s 0) (.s 1)⟩])
 (.seq (.region false [
    ⟨.push, 19, none, .load true 5 (.v 3)⟩,
    ⟨.no, 0, none, .store 5 (.v 2) (.s 0)⟩])
 (.ret)))))))), [.cell true 5 2]⟩
noncomputable def t_laws_toEstimate : List (Nat × Ctr) := []
noncomputable def c_laws_toEstimate : Ctr := mkN t_laws_toEstimate ir27 [.bor]
theorem s_laws_toEstimate : Sound Tryz.prog 27 c_laws_toEstimate := mkN_sound _ snd_nil (by kernel_rfl : chkFn Tryz.prog 27 ir27 ir27_v = true)
theorem M_laws_toEstimate : c_laws_toEstimate.modes = [.bor] := rfl
theorem Fl_laws_toEstimate : c_laws_toEstimate.flat = false := rfl
attribute [go_sem] M_laws_toEstimate Fl_laws_toEstimate
theorem Fs_laws_toEstimate {a : Estimate} {y_ : Estimate} (h : laws_toEstimate a = some y_) : c_laws_toEstimate.F [Estimate_av a] = ⟨true, Estimate_av y_, [.any]⟩ := by
  refine mkN_E ?_
  dsimp only [laws_toEstimate] at h
  obtain rfl := so_some h
  refine ⟨0, fun L hL => ?_⟩
  simp only [go_sem, ir27]


def ir14_b0 : IR := .seq (.test false [
    ⟨.push, 8, none, .mov (.v 3)⟩,
    ⟨.push, 9, none, .mov (.v 0)⟩,
    ⟨.push, 10, none, .len false (.s 0)⟩,
    ⟨.push, 11, none, .bin false .lss (.s 2) (.s 0)⟩] (.s 0)
  (.skip)
  (.exit 0))
 (.seq (.block 1 (.region false [
     ⟨.push, 14, none, .mov (.v 2)⟩,
     ⟨.push, 15, none, .mov (.v 3)⟩,
     ⟨.push, 16, none, .mov (.v 0)⟩,
     ⟨.push, 17, none, .mov (.v 3)⟩,
     ⟨.push, 18, none, .ixAddr 5 (.s 1) (.s 0)⟩,
     ⟨.push, 19, none, .load true 5 (.s 0)⟩,
     ⟨.push, 20, none, .call 27 [(.s 0)]⟩,
     ⟨.push, 21, none, .ixAddr 5 (.s 6) (.s 5)⟩,
     ⟨.no, 0, none, .store 5 (.s 0) (.s 1)⟩]))
 (.region false [
   ⟨.push, 12, none, .mov (.v 3)⟩,
   ⟨.push, 13, none, .bin false .add (.s 0) (.c (.int .i64 (1)))⟩,
   ⟨.var 3, 4, none, .mov (.s 0)⟩]))
def ir14_k0 : List Bool := [true, false, true, true]
def ir14_o0 : List Bool := [false, false, true, false]
def ir14_r0 : List Bool := [false, true, false, false]
def ir14_v : List Nat := [0, 2, 3, 4]
def ir14 : AFn := ⟨1, 4, .seq (.region false [
    ⟨.var 1, 2, none, .newnil 5⟩])
 (.seq (.region false [
    ⟨.push, 5, none, .mov (.v 0)⟩,
    ⟨.push, 6, none, .len false (.s 0)⟩,
    ⟨.push, 7, none, .make 5 56 (.agg [.int .i64 (0), .str [], .str [], .int .i64 (0), .bool false]) (.s 0) (.s 0)⟩,
    ⟨.var 2, 3, none, .mov (.s 0)⟩])
 (.seq (.seq (.region false [
     ⟨.var 3, 4, none, .mov (.c (.int .i64 (0)))⟩])
  (.block 0 (.loop ir14_k0 ir14_o0 ir14_r0 ir14_b0)))
 (.seq (.region false [
    ⟨.push, 22, none, .mov (.v 2)⟩,
    ⟨.var 1, 2, none, .mov (.s 0)⟩])
 (.ret)))), [.t 1]⟩
noncomputable def t_laws_toEstimateS : List (Nat × Ctr) := [(27, c_laws_toEstimate)]
theorem lk_laws_toEstimateS_27 : look t_laws_toEstimateS 27 = some c_laws_toEstimate := rfl
noncomputable def c_laws_toEstimateS : Ctr := mkF t_laws_toEstimateS ir14 [.bor]
theorem s_laws_toEstimateS : Sound Tryz.prog 14 c_laws_toEstimateS := mkF_sound _ rfl (snd_cons s_laws_toEstimate snd_nil) (by kernel_rfl : chkFn Tryz.prog 14 ir14 ir14_v = true)
theorem M_laws_toEstimateS : c_laws_toEstimateS.modes = [.bor] := rfl
theorem Fl_laws_toEstimateS : c_laws_toEstimateS.flat = true := rfl
attribute [go_sem] M_laws_toEstimateS Fl_laws_toEstimateS
attribute [go_sem] lk_laws_toEstimateS_27
def E_laws_toEstimateS_l1 (a : List Estimate) : ((List Estimate) × Int) → St
  | (out, i) => ⟨[.sl 5 (List.map Estimate_av a), .any, .own 3200000, .int .i64 i], [], [(3200000, ⟨5, List.map Estimate_av out⟩)], true⟩
def R_laws_toEstimateS_l1 (a : List Estimate) (y : (List Estimate)) : Res := (.exit 0, ⟨[.any, .any, .own 3200000, .any], [], [(3200000, ⟨5, List.map Estimate_av y⟩)], true⟩)
theorem laws_toEstimateS_l1_ex {a : List Estimate} {sgm_ : (List Estimate) × Int} {rho_ : (List Estimate)} (h : whileE (laws_toEstimateS_l1 a) sgm_ = some rho_) : ∃ L0, ∀ L, L0 ≤ L → iter (exec (look t_laws_toEstimateS) L ir14_b0) ir14_k0 ir14_o0 ir14_r0 L (E_laws_toEstimateS_l1 a sgm_) = R_laws_toEstimateS_l1 a rho_ := by
  refine loop_ex (E := E_laws_toEstimateS_l1 a) (R := R_laws_toEstimateS_l1 a) (fun y => by first | (intro c; cases c) | (rcases y with y | y <;> (intro c; cases c)) | (rcases y with y | y | y <;> (intro c; cases c))) ?_ h
  clear h
  rintro ⟨out, i⟩ o_ h
  dsimp only [laws_toEstimateS_l1] at h
  rcases it_some h with ⟨hk2, h⟩ | ⟨hk2, h⟩
  · try simp only [go_sem, n1, n2, n3, n4] at hk2
    all_goals
    obtain ⟨hk3, h⟩ := ck_some h
    have lhk3 := ix_lt hk3
    have xhk3 := getD_mapD Estimate_av a lhk3
    try simp only [go_sem] at lhk3
    try simp only [go_sem] at xhk3
    try simp only [go_sem, n1, n2, n3, n4, hk2] at hk3
    all_goals
    obtain ⟨y_4, hk4, h⟩ := bd_some h
    have fhk4 := Fs_laws_toEstimate hk4
    try simp only [go_sem, hk2, hk3] at fhk4
    obtain ⟨hk5, h⟩ := ck_some h
    have lhk5 := ix_lt hk5
    have xhk5 := getD_mapD Estimate_av out lhk5
    try simp only [go_sem] at lhk5
    try simp only [go_sem] at xhk5
    try simp only [go_sem, n1, n2, n3, n4, hk2, hk3] at hk5
    all_goals
    obtain rfl := so_some h
    refine ⟨0, fun L hL => ?_⟩
    simp only [go_sem, ir14, E_laws_toEstimateS_l1, R_laws_toEstimateS_l1, ir14_b0, ir14_k0, ir14_o0, ir14_r0, hk2, hk3, lhk3, xhk3, fhk4, hk5, lhk5, xhk5]
  · try simp only [go_sem, n1, n2, n3, n4] at hk2
    all_goals
    obtain rfl := so_some h
    refine ⟨0, fun L hL => ?_⟩
    simp only [go_sem, ir14, E_laws_toEstimateS_l1, R_laws_toEstimateS_l1, ir14_b0, ir14_k0, ir14_o0, ir14_r0, hk2]

theorem Fs_laws_toEstimateS {a : List Estimate} {y_ : (List Estimate)} (h : laws_toEstimateS a = some y_) : c_laws_toEstimateS.F [.sl 5 (List.map Estimate_av a)] = ⟨true, .fresh 5 (List.map Estimate_av y_), [.any]⟩ := by
  refine mkF_E (by simp only [flatA, flatB, flat1, List.all_cons, List.all_nil, Bool.and_self, flatE_map (f := Estimate_av) (fun _ => rfl)]) ?_
  dsimp only [laws_toEstimateS] at h
  obtain ⟨hk1, h⟩ := ck_some h
  try simp only [go_sem, n1, n2, n3, n4] at hk1
  all_goals
  obtain ⟨y_6, hk6, h⟩ := bd_some h
  obtain ⟨Lhk6, ehk6⟩ := laws_toEstimateS_l1_ex hk6
  obtain rfl := so_some h
  refine ⟨Lhk6, fun L hL => ?_⟩
  have ehk6 := ehk6 L (by omega)
  try simp only [go_sem, E_laws_toEstimateS_l1, R_laws_toEstimateS_l1, ir14_k0, ir14_o0, ir14_r0, hk1] at ehk6
  simp only [go_sem, ir14, E_laws_toEstimateS_l1, R_laws_toEstimateS_l1, ir14_k0, ir14_o0, ir14_r0, hk1, ehk6]


def ir6_v : List Nat := [0, 1, 2, 3]
def ir6 : AFn := ⟨1, 4, .seq (.region false [
    ⟨.var 1, 1, none, .box (.v 0)⟩,
    ⟨.var 2, 2, none, .alloc (.agg [.sl 5 [], .sl 5 [], .str []])⟩])
 (.seq (.region false [
    ⟨.var 3, 3, none, .alloc (.agg [.sl 5 [], .sl 5 [], .str []])⟩])
 (.seq (.region false [
    ⟨.push, 4, none, .fldAddr 0 (.v 1)⟩,
    ⟨.push, 5, none, .load false 1 (.s 0)⟩,
    ⟨.push, 6, none, .call 13 [(.s 0)]⟩,
    ⟨.push, 7, none, .fldAddr 0 (.v 3)⟩,
    ⟨.no, 0, none, .store 1 (.s 0) (.s 1)⟩])
 (.seq (.region false [
    ⟨.push, 8, none, .fldAddr 1 (.v 1)⟩,
    ⟨.push, 9, none, .load false 1 (.s 0)⟩,
    ⟨.push, 10, none, .call 14 [(.s 0)]⟩,
    ⟨.push, 11, none, .fldAddr 1 (.v 3)⟩,
    ⟨.no, 0, none, .store 1 (.s 0) (.s 1)⟩])
 (.seq (.region false [
    ⟨.push, 12, none, .fldAddr 2 (.v 1)⟩,
    ⟨.push, 13, none, .load false 1 (.s 0)⟩,
    ⟨.push, 14, none, .fldAddr 2 (.v 3)⟩,
    ⟨.no, 0, none, .store 1 (.s 0) (.s 1)⟩])
 (.seq (.region false [
    ⟨.push, 15, none, .load true 3 (.v 3)⟩,
    ⟨.no, 0, none, .store 3 (.v 2) (.s 0)⟩])
 (.ret)))))), [.cell true 3 2]⟩
noncomputable def t_laws_toDesk : List (Nat × Ctr) := [(13, c_laws_toStarS), (14, c_laws_toEstimateS)]
theorem lk_laws_toDesk_13 : look t_laws_toDesk 13 = some c_laws_toStarS := rfl
theorem lk_laws_toDesk_14 : look t_laws_toDesk 14 = some c_laws_toEstimateS := rfl
noncomputable def c_laws_toDesk : Ctr := mkN t_laws_toDesk ir6 [.bor]
theorem s_laws_toDesk : Sound Tryz.prog 6 c_laws_toDesk := mkN_sound _ (snd_cons s_laws_toStarS (snd_cons s_laws_toEstimateS snd_nil)) (by kernel_rfl : chkFn Tryz.prog 6 ir6 ir6_v = true)
theorem M_laws_toDesk : c_laws_toDesk.modes = [.bor] := rfl
theorem Fl_laws_toDesk : c_laws_toDesk.flat = false := rfl
attribute [go_sem] M_laws_toDesk Fl_laws_toDesk
attribute [go_sem] lk_laws_toDesk_13 lk_laws_toDesk_14
theorem Fs_laws_toDesk {a : Desk} {y_ : Desk} (h : laws_toDesk a = some y_) : c_laws_toDesk.F [Desk_av a] = ⟨true, Desk_av y_, [.any]⟩ := by
  refine mkN_E ?_
  dsimp only [laws_toDesk] at h
  obtain ⟨y_1, hk1, h⟩ := bd_some h
  have fhk1 := Fs_laws_toStarS hk1
  try simp only [go_sem] at fhk1
  obtain ⟨y_2, hk2, h⟩ := bd_some h
  have fhk2 := Fs_laws_toEstimateS hk2
  try simp only [go_sem] at fhk2
  obtain rfl := so_some h
  refine ⟨0, fun L hL => ?_⟩
  simp only [go_sem, ir6, fhk1, fhk2]


def ir35_v : List Nat := [0, 1, 2, 3, 4]
def ir35 : AFn := ⟨2, 5, .seq (.region false [
    ⟨.var 2, 2, none, .box (.v 0)⟩,
    ⟨.var 3, 3, none, .box (.v 1)⟩,
    ⟨.var 4, 4, none, .mov (.c (.bool false))⟩])
 (.seq (.test false [
    ⟨.push, 5, none, .fldAddr 0 (.v 2)⟩,
    ⟨.push, 6, none, .load false 1 (.s 0)⟩,
    ⟨.push, 7, none, .fldAddr 0 (.v 3)⟩,
    ⟨.push, 8, none, .load false 1 (.s 0)⟩,
    ⟨.push, 9, none, .bin false .neq (.s 2) (.s 0)⟩] (.s 0)
  (.seq (.region false [
      ⟨.var 4, 4, none, .mov (.c (.bool false))⟩])
   (.ret))
  (.skip))
 (.seq (.test false [
    ⟨.push, 10, none, .fldAddr 1 (.v 2)⟩,
    ⟨.push, 11, none, .load false 1 (.s 0)⟩,
    ⟨.push, 12, none, .fldAddr 1 (.v 3)⟩,
    ⟨.push, 13, none, .load false 1 (.s 0)⟩,
    ⟨.push, 14, none, .bin false .neq (.s 2) (.s 0)⟩] (.s 0)
  (.seq (.region false [
      ⟨.var 4, 4, none, .mov (.c (.bool false))⟩])
   (.ret))
  (.skip))
 (.seq (.test false [
    ⟨.push, 15, none, .fldAddr 2 (.v 2)⟩,
    ⟨.push, 16, none, .load false 1 (.s 0)⟩,
    ⟨.push, 17, none, .fldAddr 2 (.v 3)⟩,
    ⟨.push, 18, none, .load false 1 (.s 0)⟩,
    ⟨.push, 19, none, .bin false .neq (.s 2) (.s 0)⟩] (.s 0)
  (.seq (.region false [
      ⟨.var 4, 4, none, .mov (.c (.bool false))⟩])
   (.ret))
  (.skip))
 (.seq (.test false [
    ⟨.push, 20, none, .fldAddr 3 (.v 2)⟩,
    ⟨.push, 21, none, .load false 1 (.s 0)⟩,
    ⟨.push, 22, none, .fldAddr 3 (.v 3)⟩,
    ⟨.push, 23, none, .load false 1 (.s 0)⟩,
    ⟨.push, 24, none, .bin false .neq (.s 2) (.s 0)⟩] (.s 0)
  (.seq (.region false [
      ⟨.var 4, 4, none, .mov (.c (.bool false))⟩])
   (.ret))
  (.skip))
 (.seq (.test false [
    ⟨.push, 25, none, .fldAddr 4 (.v 2)⟩,
    ⟨.push, 26, none, .load false 1 (.s 0)⟩,
    ⟨.push, 27, none, .fldAddr 4 (.v 3)⟩,
    ⟨.push, 28, none, .load false 1 (.s 0)⟩,
    ⟨.push, 29, none, .bin false .neq (.s 2) (.s 0)⟩] (.s 0)
  (.seq (.region false [
      ⟨.var 4, 4, none, .mov (.c (.bool false))⟩])
   (.ret))
  (.skip))
 (.seq (.region false [
    ⟨.var 4, 4, none, .mov (.c (.bool true))⟩])
 (.ret))))))), [.t 4]⟩
noncomputable def t_laws_eqStar : List (Nat × Ctr) := []
noncomputable def c_laws_eqStar : Ctr := mkF t_laws_eqStar ir35 [.bor, .bor]
theorem s_laws_eqStar : Sound Tryz.prog 35 c_laws_eqStar := mkF_sound _ rfl snd_nil (by kernel_rfl : chkFn Tryz.prog 35 ir35 ir35_v = true)
theorem M_laws_eqStar : c_laws_eqStar.modes = [.bor, .bor] := rfl
theorem Fl_laws_eqStar : c_laws_eqStar.flat = true := rfl
attribute [go_sem] M_laws_eqStar Fl_laws_eqStar
theorem Fs_laws_eqStar {a : Star} {b : Star} {y_ : Bool} (h : laws_eqStar a b = some y_) : c_laws_eqStar.F [Star_av a, Star_av b] = ⟨true, .bool y_, [.any, .any]⟩ := by
  refine mkF_E rfl ?_
  dsimp only [laws_eqStar] at h
  rcases it_some h with ⟨hk1, h⟩ | ⟨hk1, h⟩
  · try simp only [go_sem, n1, n2, n3, n4] at hk1
    all_goals
    obtain rfl := so_some h
    refine ⟨0, fun L hL => ?_⟩
    simp only [go_sem, ir35, hk1]
  · try simp only [go_sem, n1, n2, n3, n4] at hk1
    all_goals
    rcases it_some h with ⟨hk2, h⟩ | ⟨hk2, h⟩
    · try simp only [go_sem, n1, n2, n3, n4, hk1] at hk2
      all_goals
      obtain rfl := so_some h
      refine ⟨0, fun L hL => ?_⟩
      simp only [go_sem, ir35, hk1, hk2]
    · try simp only [go_sem, n1, n2, n3, n4, hk1] at hk2
      all_goals
      rcases it_some h with ⟨hk3, h⟩ | ⟨hk3, h⟩
      · try simp only [go_sem, n1, n2, n3, n4, hk1, hk2] at hk3
        all_goals
        obtain rfl := so_some h
        refine ⟨0, fun L hL => ?_⟩
        simp only [go_sem, ir35, hk1, hk2, hk3]
      · try simp only [go_sem, n1, n2, n3, n4, hk1, hk2] at hk3
        all_goals
        rcases it_some h with ⟨hk4, h⟩ | ⟨hk4, h⟩
        · try simp only [go_sem, n1, n2, n3, n4, hk1, hk2, hk3] at hk4
          all_goals
          obtain rfl := so_some h
          refine ⟨0, fun L hL => ?_⟩
          simp only [go_sem, ir35, hk1, hk2, hk3, hk4]
        · try simp only [go_sem, n1, n2, n3, n4, hk1, hk2, hk3] at hk4
          all_goals
          rcases it_some h with ⟨hk5, h⟩ | ⟨hk5, h⟩
          · try simp only [go_sem, n1, n2, n3, n4, hk1, hk2, hk3, hk4] at hk5
            all_goals
            obtain rfl := so_some h
            refine ⟨0, fun L hL => ?_⟩
            simp only [go_sem, ir35, hk1, hk2, hk3, hk4, hk5]
          · try simp only [go_sem, n1, n2, n3, n4, hk1, hk2, hk3, hk4] at hk5
            all_goals
            obtain rfl := so_some h
            refine ⟨0, fun L hL => ?_⟩
            simp only [go_sem, ir35, hk1, hk2, hk3, hk4, hk5]


def ir17_b0 : IR := .seq (.test false [
    ⟨.push, 11, none, .mov (.v 3)⟩,
    ⟨.push, 12, none, .mov (.v 0)⟩,
    ⟨.push, 13, none, .len false (.s 0)⟩,
    ⟨.push, 14, none, .bin false .lss (.s 2) (.s 0)⟩] (.s 0)
  (.skip)
  (.exit 0))
 (.seq (.block 1 (.anyo 10 [
     ⟨.slot 0, 17, none, .mov (.v 0)⟩,
     ⟨.slot 1, 18, none, .mov (.v 3)⟩,
     ⟨.slot 2, 19, none, .ixAddr 5 (.s 0) (.s 1)⟩,
     ⟨.slot 3, 20, none, .load true 5 (.s 2)⟩,
     ⟨.slot 4, 21, none, .mov (.v 1)⟩,
     ⟨.slot 5, 22, none, .mov (.v 3)⟩,
     ⟨.slot 6, 23, none, .ixAddr 5 (.s 4) (.s 5)⟩,
     ⟨.slot 7, 24, none, .load true 5 (.s 6)⟩,
     ⟨.slot 8, 25, none, .callp 35 [(.s 3), (.s 7)]⟩,
     ⟨.slot 9, 26, none, .un .not (.s 8)⟩] [] (.cond (.s 9)
   (.seq (.region false [
       ⟨.var 2, 4, none, .mov (.c (.bool false))⟩])
    (.ret))
   (.skip))))
 (.region false [
   ⟨.push, 15, none, .mov (.v 3)⟩,
   ⟨.push, 16, none, .bin false .add (.s 0) (.c (.int .i64 (1)))⟩,
   ⟨.var 3, 5, none, .mov (.s 0)⟩]))
def ir17_k0 : List Bool := [true, true, false, true]
def ir17_o0 : List Bool := [false, false, false, false]
def ir17_r0 : List Bool := [false, false, true, false]
def ir17_v : List Nat := [0, 1, 4, 5]
def ir17 : AFn := ⟨2, 4, .seq (.region false [
    ⟨.var 2, 4, none, .mov (.c (.bool false))⟩])
 (.seq (.test false [
    ⟨.push, 6, none, .mov (.v 0)⟩,
    ⟨.push, 7, none, .len false (.s 0)⟩,
    ⟨.push, 8, none, .mov (.v 1)⟩,
    ⟨.push, 9, none, .len false (.s 0)⟩,
    ⟨.push, 10, none, .bin false .neq (.s 2) (.s 0)⟩] (.s 0)
  (.seq (.region false [
      ⟨.var 2, 4, none, .mov (.c (.bool false))⟩])
   (.ret))
  (.skip))
 (.seq (.seq (.region false [
     ⟨.var 3, 5, none, .mov (.c (.int .i64 (0)))⟩])
  (.block 0 (.loop ir17_k0 ir17_o0 ir17_r0 ir17_b0)))
 (.seq (.region false [
    ⟨.var 2, 4, none, .mov (.c (.bool true))⟩])
 (.ret)))), [.t 2]⟩
noncomputable def t_laws_eqStarS : List (Nat × Ctr) := [(35, c_laws_eqStar)]
theorem lk_laws_eqStarS_35 : look t_laws_eqStarS 35 = some c_laws_eqStar := rfl
noncomputable def c_laws_eqStarS : Ctr := mkF t_laws_eqStarS ir17 [.bor, .bor]
theorem s_laws_eqStarS : Sound Tryz.prog 17 c_laws_eqStarS := mkF_sound _ rfl (snd_cons s_laws_eqStar snd_nil) (by kernel_rfl : chkFn Tryz.prog 17 ir17 ir17_v = true)
theorem M_laws_eqStarS : c_laws_eqStarS.modes = [.bor, .bor] := rfl
theorem Fl_laws_eqStarS : c_laws_eqStarS.flat = true := rfl
attribute [go_sem] M_laws_eqStarS Fl_laws_eqStarS
attribute [go_sem] lk_laws_eqStarS_35
def E_laws_eqStarS_l1 (a : List Star) (b : List Star) : Int → St
  | i => ⟨[.sl 5 (List.map Star_av a), .sl 5 (List.map Star_av b), .any, .int .i64 i], [], [], true⟩
def R_laws_eqStarS_l1 (a : List Star) (b : List Star) : (Unit ⊕ Bool) → Res
  | .inl y => (.exit 0, ⟨[.any, .any, .any, .any], [], [], true⟩)
  | .inr y => (.ret, ⟨[.any, .any, .bool y, .any], [], [], true⟩)
theorem laws_eqStarS_l1_ex {a : List Star} {b : List Star} {sgm_ : Int} {rho_ : Unit ⊕ Bool} (h : whileE (laws_eqStarS_l1 a b) sgm_ = some rho_) : ∃ L0, ∀ L, L0 ≤ L → iter (exec (look t_laws_eqStarS) L ir17_b0) ir17_k0 ir17_o0 ir17_r0 L (E_laws_eqStarS_l1 a b sgm_) = R_laws_eqStarS_l1 a b rho_ := by
  refine loop_ex (E := E_laws_eqStarS_l1 a b) (R := R_laws_eqStarS_l1 a b) (fun y => by first | (intro c; cases c) | (rcases y with y | y <;> (intro c; cases c)) | (rcases y with y | y | y <;> (intro c; cases c))) ?_ h
  clear h
  intro i o_ h
  dsimp only [laws_eqStarS_l1] at h
  rcases it_some h with ⟨hk2, h⟩ | ⟨hk2, h⟩
  · try simp only [go_sem, n1, n2, n3, n4] at hk2
    all_goals
    obtain ⟨hk3, h⟩ := ck_some h
    have lhk3 := ix_lt hk3
    have xhk3 := getD_mapD Star_av a lhk3
    try simp only [go_sem] at lhk3
    try simp only [go_sem] at xhk3
    try simp only [go_sem, n1, n2, n3, n4, hk2] at hk3
    all_goals
    obtain ⟨hk4, h⟩ := ck_some h
    have lhk4 := ix_lt hk4
    have xhk4 := getD_mapD Star_av b lhk4
    try simp only [go_sem] at lhk4
    try simp only [go_sem] at xhk4
    try simp only [go_sem, n1, n2, n3, n4, hk2, hk3] at hk4
    all_goals
    obtain ⟨y_5, hk5, h⟩ := bd_some h
    have fhk5 := Fs_laws_eqStar hk5
    try simp only [go_sem, hk2, hk3, hk4] at fhk5
    rcases it_some h with ⟨hk6, h⟩ | ⟨hk6, h⟩
    · try simp only [go_sem, n1, n2, n3, n4, hk2, hk3, hk4] at hk6
      all_goals
      obtain rfl := so_some h
      refine ⟨0, fun L hL => ?_⟩
      simp only [go_sem, ir17, E_laws_eqStarS_l1, R_laws_eqStarS_l1, ir17_b0, ir17_k0, ir17_o0, ir17_r0, hk2, hk3, lhk3, xhk3, hk4, lhk4, xhk4, fhk5, hk6]
    · try simp only [go_sem, n1, n2, n3, n4, hk2, hk3, hk4] at hk6
      all_goals
      obtain rfl := so_some h
      refine ⟨0, fun L hL => ?_⟩
      simp only [go_sem, ir17, E_laws_eqStarS_l1, R_laws_eqStarS_l1, ir17_b0, ir17_k0, ir17_o0, ir17_r0, hk2, hk3, lhk3, xhk3, hk4, lhk4, xhk4, fhk5, hk6]
  · try simp only [go_sem, n1, n2, n3, n4] at hk2
    all_goals
    obtain rfl := so_some h
    refine ⟨0, fun L hL => ?_⟩
    simp only [go_sem, ir17, E_laws_eqStarS_l1, R_laws_eqStarS_l1, ir17_b0, ir17_k0, ir17_o0, ir17_r0, hk2]

theorem Fs_laws_eqStarS {a : List Star} {b : List Star} {y_ : Bool} (h : laws_eqStarS a b = some y_) : c_laws_eqStarS.F [.sl 5 (List.map Star_av a), .sl 5 (List.map Star_av b)] = ⟨true, .bool y_, [.any, .any]⟩ := by
  refine mkF_E rfl ?_
  dsimp only [laws_eqStarS] at h
  rcases it_some h with ⟨hk1, h⟩ | ⟨hk1, h⟩
  · try simp only [go_sem, n1, n2, n3, n4] at hk1
    all_goals
    obtain rfl := so_some h
    refine ⟨0, fun L hL => ?_⟩
    simp only [go_sem, ir17, E_laws_eqStarS_l1, R_laws_eqStarS_l1, ir17_k0, ir17_o0, ir17_r0, hk1]
  · try simp only [go_sem, n1, n2, n3, n4] at hk1
    all_goals
    obtain ⟨y_7, hk7, h⟩ := bd_some h
    obtain ⟨Lhk7, ehk7⟩ := laws_eqStarS_l1_ex hk7
    rcases y_7 with y_7a | y_7b
    · dsimp only at h
      obtain rfl := so_some h
      refine ⟨Lhk7, fun L hL => ?_⟩
      have ehk7 := ehk7 L (by omega)
      try simp only [go_sem, E_laws_eqStarS_l1, R_laws_eqStarS_l1, ir17_k0, ir17_o0, ir17_r0, hk1] at ehk7
      simp only [go_sem, ir17, E_laws_eqStarS_l1, R_laws_eqStarS_l1, ir17_k0, ir17_o0, ir17_r0, hk1, ehk7]
    · dsimp only at h
      obtain rfl := so_some h
      refine ⟨Lhk7, fun L hL => ?_⟩
      have ehk7 := ehk7 L (by omega)
      try simp only [go_sem, E_laws_eqStarS_l1, R_laws_eqStarS_l1, ir17_k0, ir17_o0, ir17_r0, hk1] at ehk7
      simp only [go_sem, ir17, E_laws_eqStarS_l1, R_laws_eqStarS_l1, ir17_k0, ir17_o0, ir17_r0, hk1, ehk7]


def ir36_v : List Nat := [0, 1, 2, 3, 4]
def ir36 : AFn := ⟨2, 5, .seq (.region false [
    ⟨.var 2, 2, none, .box (.v 0)⟩,
    ⟨.var 3, 3, none, .box (.v 1)⟩,
    ⟨.var 4, 4, none, .mov (.c (.bool false))⟩])
 (.seq (.test false [
    ⟨.push, 5, none, .fldAddr 0 (.v 2)⟩,
    ⟨.push, 6, none, .load false 1 (.s 0)⟩,
    ⟨.push, 7, none, .fldAddr 0 (.v 3)⟩,
    ⟨.push, 8, none, .load false 1 (.s 0)⟩,
    ⟨.push, 9, none, .bin false .neq (.s 2) (.s 0)⟩] (.s 0)
  (.seq (.region false [
      ⟨.var 4, 4, none, .mov (.c (.bool false))⟩])
   (.ret))
  (.skip))
 (.seq (.test false [
    ⟨.push, 10, none, .fldAddr 1 (.v 2)⟩,
    ⟨.push, 11, none, .load false 1 (.s 0)⟩,
    ⟨.push, 12, none, .fldAddr 1 (.v 3)⟩,
    ⟨.push, 13, none, .load false 1 (.s 0)⟩,
    ⟨.push, 14, none, .bin false .neq (.s 2) (.s 0)⟩] (.s 0)
  (.seq (.region false [
      ⟨.var 4, 4, none, .mov (.c (.bool false))⟩])
   (.ret))
  (.skip))
 (.seq (.test false [
    ⟨.push, 15, none, .fldAddr 2 (.v 2)⟩,
    ⟨.push, 16, none, .load false 1 (.s 0)⟩,
    ⟨.push, 17, none, .fldAddr 2 (.v 3)⟩,
    ⟨.push, 18, none, .load false 1 (.s 0)⟩,
    ⟨.push, 19, none, .bin false .neq (.s 2) (.s 0)⟩] (.s 0)
  (.seq (.region false [
      ⟨.var 4, 4, none, .mov (.c (.bool false))⟩])
   (.ret))
  (.skip))
 (.seq (.test false [
    ⟨.push, 20, none, .fldAddr 3 (.v 2)⟩,
    ⟨.push, 21, none, .load false 1 (.s 0)⟩,
    ⟨.push, 22, none, .fldAddr 3 (.v 3)⟩,
    ⟨.push, 23, none, .load false 1 (.s 0)⟩,
    ⟨.push, 24, none, .bin false .neq (.s 2) (.s 0)⟩] (.s 0)
  (.seq (.region false [
      ⟨.var 4, 4, none, .mov (.c (.bool false))⟩])
   (.ret))
  (.skip))
 (.seq (.test false [
    ⟨.push, 25, none, .fldAddr 4 (.v 2)⟩,
    ⟨.push, 26, none, .load false 1 (.s 0)⟩,
    ⟨.push, 27, none, .fldAddr 4 (.v 3)⟩,
    ⟨.push, 28, none, .load false 1 (.s 0)⟩,
    ⟨.push, 29, none, .bin true .neq (.s 2) (.s 0)⟩] (.s 0)
  (.seq (.region false [
      ⟨.var 4, 4, none, .mov (.c (.bool false))⟩])
   (.ret))
  (.skip))
 (.seq (.region false [
    ⟨.var 4, 4, none, .mov (.c (.bool true))⟩])
 (.ret))))))), [.t 4]⟩
noncomputable def t_laws_eqEstimate : List (Nat × Ctr) := []
noncomputable def c_laws_eqEstimate : Ctr := mkF t_laws_eqEstimate ir36 [.bor, .bor]
theorem s_laws_eqEstimate : Sound Tryz.prog 36 c_laws_eqEstimate := mkF_sound _ rfl snd_nil (by kernel_rfl : chkFn Tryz.prog 36 ir36 ir36_v = true)
theorem M_laws_eqEstimate : c_laws_eqEstimate.modes = [.bor, .bor] := rfl
theorem Fl_laws_eqEstimate : c_laws_eqEstimate.flat = true := rfl
attribute [go_sem] M_laws_eqEstimate Fl_laws_eqEstimate
theorem Fs_laws_eqEstimate {a : Estimate} {b : Estimate} {y_ : Bool} (h : laws_eqEstimate a b = some y_) : c_laws_eqEstimate.F [Estimate_av a, Estimate_av b] = ⟨true, .bool y_, [.any, .any]⟩ := by
  refine mkF_E rfl ?_
  dsimp only [laws_eqEstimate] at h
  rcases it_some h with ⟨hk1, h⟩ | ⟨hk1, h⟩
  · try simp only [go_sem, n1, n2, n3, n4] at hk1
    all_goals
    obtain rfl := so_some h
    refine ⟨0, fun L hL => ?_⟩
    simp only [go_sem, ir36, hk1]
  · try simp only [go_sem, n1, n2, n3, n4] at hk1
    all_goals
    rcases it_some h with ⟨hk2, h⟩ | ⟨hk2, h⟩
    · try simp only [go_sem, n1, n2, n3, n4, hk1] at hk2
      all_goals
      obtain rfl := so_some h
      refine ⟨0, fun L hL => ?_⟩
      simp only [go_sem, ir36, hk1, hk2]
    · try simp only [go_sem, n1, n2, n3, n4, hk1] at hk2
      all_goals
      rcases it_some h with ⟨hk3, h⟩ | ⟨hk3, h⟩
      · try simp only [go_sem, n1, n2, n3, n4, hk1, hk2] at hk3
        all_goals
        obtain rfl := so_some h
        refine ⟨0, fun L hL => ?_⟩
        simp only [go_sem, ir36, hk1, hk2, hk3]
      · try simp only [go_sem, n1, n2, n3, n4, hk1, hk2] at hk3
        all_goals
        rcases it_some h with ⟨hk4, h⟩ | ⟨hk4, h⟩
        · try simp only [go_sem, n1, n2, n3, n4, hk1, hk2, hk3] at hk4
          all_goals
          obtain rfl := so_some h
          refine ⟨0, fun L hL => ?_⟩
          simp only [go_sem, ir36, hk1, hk2, hk3, hk4]
        · try simp only [go_sem, n1, n2, n3, n4, hk1, hk2, hk3] at hk4
          all_goals
          rcases it_some h with ⟨hk5, h⟩ | ⟨hk5, h⟩
          · try simp only [go_sem, n1, n2, n3, n4, hk1, hk2, hk3, hk4] at hk5
            all_goals
            obtain rfl := so_some h
            refine ⟨0, fun L hL => ?_⟩
            simp only [go_sem, ir36, hk1, hk2, hk3, hk4, hk5]
          · try simp only [go_sem, n1, n2, n3, n4, hk1, hk2, hk3, hk4] at hk5
            all_goals
            obtain rfl := so_some h
            refine ⟨0, fun L hL => ?_⟩
            simp only [go_sem, ir36, hk1, hk2, hk3, hk4, hk5]


def ir18_b0 : IR := .seq (.test false [
    ⟨.push, 11, none, .mov (.v 3)⟩,
    ⟨.push, 12, none, .mov (.v 0)⟩,
    ⟨.push, 13, none, .len false (.s 0)⟩,
    ⟨.push, 14, none, .bin false .lss (.s 2) (.s 0)⟩] (.s 0)
  (.skip)
  (.exit 0))
 (.seq (.block 1 (.anyo 10 [
     ⟨.slot 0, 17, none, .mov (.v 0)⟩,
     ⟨.slot 1, 18, none, .mov (.v 3)⟩,
     ⟨.slot 2, 19, none, .ixAddr 5 (.s 0) (.s 1)⟩,
     ⟨.slot 3, 20, none, .load true 5 (.s 2)⟩,
     ⟨.slot 4, 21, none, .mov (.v 1)⟩,
     ⟨.slot 5, 22, none, .mov (.v 3)⟩,
     ⟨.slot 6, 23, none, .ixAddr 5 (.s 4) (.s 5)⟩,
     ⟨.slot 7, 24, none, .load true 5 (.s 6)⟩,
     ⟨.slot 8, 25, none, .callp 36 [(.s 3), (.s 7)]⟩,
     ⟨.slot 9, 26, none, .un .not (.s 8)⟩] [] (.cond (.s 9)
   (.seq (.region false [
       ⟨.var 2, 4, none, .mov (.c (.bool false))⟩])
    (.ret))
   (.skip))))
 (.region false [
   ⟨.push, 15, none, .mov (.v 3)⟩,
   ⟨.push, 16, none, .bin false .add (.s 0) (.c (.int .i64 (1)))⟩,
   ⟨.var 3, 5, none, .mov (.s 0)⟩]))
def ir18_k0 : List Bool := [true, true, false, true]
def ir18_o0 : List Bool := [false, false, false, false]
def ir18_r0 : List Bool := [false, false, true, false]
def ir18_v : List Nat := [0, 1, 4, 5]
def ir18 : AFn := ⟨2, 4, .seq (.region false [
    ⟨.var 2, 4, none, .mov (.c (.bool false))⟩])
 (.seq (.test false [
    ⟨.push, 6, none, .mov (.v 0)⟩,
    ⟨.push, 7, none, .len false (.s 0)⟩,
    ⟨.push, 8, none, .mov (.v 1)⟩,
    ⟨.push, 9, none, .len false (.s 0)⟩,
    ⟨.push, 10, none, .bin false .neq (.s 2) (.s 0)⟩] (.s 0)
  (.seq (.region false [
      ⟨.var 2, 4, none, .mov (.c (.bool false))⟩])
   (.ret))
  (.skip))
 (.seq (.seq (.region false [
     ⟨.var 3, 5, none, .mov (.c (.int .i64 (0)))⟩])
  (.block 0 (.loop ir18_k0 ir18_o0 ir18_r0 ir18_b0)))
 (.seq (.region false [
    ⟨.var 2, 4, none, .mov (.c (.bool true))⟩])
 (.ret)))), [.t 2]⟩
noncomputable def t_laws_eqEstimateS : List (Nat × Ctr) := [(36, c_laws_eqEstimate)]
theorem lk_laws_eqEstimateS_36 : look t_laws_eqEstimateS 36 = some c_laws_eqEstimate := rfl
noncomputable def c_laws_eqEstimateS : Ctr := mkF t_laws_eqEstimateS ir18 [.bor, .bor]
theorem s_laws_eqEstimateS : Sound Tryz.prog 18 c_laws_eqEstimateS := mkF_sound _ rfl (snd_cons s_laws_eqEstimate snd_nil) (by kernel_rfl : chkFn Tryz.prog 18 ir18 ir18_v = true)
theorem M_laws_eqEstimateS : c_laws_eqEstimateS.modes = [.bor, .bor] := rfl
theorem Fl_laws_eqEstimateS : c_laws_eqEstimateS.flat = true := rfl
attribute [go_sem] M_laws_eqEstimateS Fl_laws_eqEstimateS
attribute [go_sem] lk_laws_eqEstimateS_36
def E_laws_eqEstimateS_l1 (a : List Estimate) (b : List Estimate) : Int → St
  | i => ⟨[.sl 5 (List.map Estimate_av a), .sl 5 (List.map Estimate_av b), .any, .int .i64 i], [], [], true⟩
def R_laws_eqEstimateS_l1 (a : List Estimate) (b : List Estimate) : (Unit ⊕ Bool) → Res
  | .inl y => (.exit 0, ⟨[.any, .any, .any, .any], [], [], true⟩)
  | .inr y => (.ret, ⟨[.any, .any, .bool y, .any], [], [], true⟩)
theorem laws_eqEstimateS_l1_ex {a : List Estimate} {b : List Estimate} {sgm_ : Int} {rho_ : Unit ⊕ Bool} (h : whileE (laws_eqEstimateS_l1 a b) sgm_ = some rho_) : ∃ L0, ∀ L, L0 ≤ L → iter (exec (look t_laws_eqEstimateS) L ir18_b0) ir18_k0 ir18_o0 ir18_r0 L (E_laws_eqEstimateS_l1 a b sgm_) = R_laws_eqEstimateS_l1 a b rho_ := by
  refine loop_ex (E := E_laws_eqEstimateS_l1 a b) (R := R_laws_eqEstimateS_l1 a b) (fun y => by first | (intro c; cases c) | (rcases y with y | y <;> (intro c; cases c)) | (rcases y with y | y | y <;> (intro c; cases c))) ?_ h
  clear h
  intro i o_ h
  dsimp only [laws_eqEstimateS_l1] at h
  rcases it_some h with ⟨hk2, h⟩ | ⟨hk2, h⟩
  · try simp only [go_sem, n1, n2, n3, n4] at hk2
    all_goals
    obtain ⟨hk3, h⟩ := ck_some h
    have lhk3 := ix_lt hk3
    have xhk3 := getD_mapD Estimate_av a lhk3
    try simp only [go_sem] at lhk3
    try simp only [go_sem] at xhk3
    try simp only [go_sem, n1, n2, n3, n4, hk2] at hk3
    all_goals
    obtain ⟨hk4, h⟩ := ck_some h
    have lhk4 := ix_lt hk4
    have xhk4 := getD_mapD Estimate_av b lhk4
    try simp only [go_sem] at lhk4
    try simp only [go_sem] at xhk4
    try simp only [go_sem, n1, n2, n3, n4, hk2, hk3] at hk4
    all_goals
    obtain ⟨y_5, hk5, h⟩ := bd_some h
    have fhk5 := Fs_laws_eqEstimate hk5
    try simp only [go_sem, hk2, hk3, hk4] at fhk5
    rcases it_some h with ⟨hk6, h⟩ | ⟨hk6, h⟩
    · try simp only [go_sem, n1, n2, n3, n4, hk2, hk3, hk4] at hk6
      all_goals
      obtain rfl := so_some h
      refine ⟨0, fun L hL => ?_⟩
      simp only [go_sem, ir18, E_laws_eqEstimateS_l1, R_laws_eqEstimateS_l1, ir18_b0, ir18_k0, ir18_o0, ir18_r0, hk2, hk3, lhk3, xhk3, hk4, lhk4, xhk4, fhk5, hk6]
    · try simp only [go_sem, n1, n2, n3, n4, hk2, hk3, hk4] at hk6
      all_goals
      obtain rfl := so_some h
      refine ⟨0, fun L hL => ?_⟩
      simp only [go_sem, ir18, E_laws_eqEstimateS_l1, R_laws_eqEstimateS_l1, ir18_b0, ir18_k0, ir18_o0, ir18_r0, hk2, hk3, lhk3, xhk3, hk4, lhk4, xhk4, fhk5, hk6]
  · try simp only [go_sem, n1, n2, n3, n4] at hk2
    all_goals
    obtain rfl := so_some h
    refine ⟨0, fun L hL => ?_⟩
    simp only [go_sem, ir18, E_laws_eqEstimateS_l1, R_laws_eqEstimateS_l1, ir18_b0, ir18_k0, ir18_o0, ir18_r0, hk2]

theorem Fs_laws_eqEstimateS {a : List Estimate} {b : List Estimate} {y_ : Bool} (h : laws_eqEstimateS a b = some y_) : c_laws_eqEstimateS.F [.sl 5 (List.map Estimate_av a), .sl 5 (List.map Estimate_av b)] = ⟨true, .bool y_, [.any, .any]⟩ := by
  refine mkF_E rfl ?_
  dsimp only [laws_eqEstimateS] at h
  rcases it_some h with ⟨hk1, h⟩ | ⟨hk1, h⟩
  · try simp only [go_sem, n1, n2, n3, n4] at hk1
    all_goals
    obtain rfl := so_some h
    refine ⟨0, fun L hL => ?_⟩
    simp only [go_sem, ir18, E_laws_eqEstimateS_l1, R_laws_eqEstimateS_l1, ir18_k0, ir18_o0, ir18_r0, hk1]
  · try simp only [go_sem, n1, n2, n3, n4] at hk1
    all_goals
    obtain ⟨y_7, hk7, h⟩ := bd_some h
    obtain ⟨Lhk7, ehk7⟩ := laws_eqEstimateS_l1_ex hk7
    rcases y_7 with y_7a | y_7b
    · dsimp only at h
      obtain rfl := so_some h
      refine ⟨Lhk7, fun L hL => ?_⟩
      have ehk7 := ehk7 L (by omega)
      try simp only [go_sem, E_laws_eqEstimateS_l1, R_laws_eqEstimateS_l1, ir18_k0, ir18_o0, ir18_r0, hk1] at ehk7
      simp only [go_sem, ir18, E_laws_eqEstimateS_l1, R_laws_eqEstimateS_l1, ir18_k0, ir18_o0, ir18_r0, hk1, ehk7]
    · dsimp only at h
      obtain rfl := so_some h
      refine ⟨Lhk7, fun L hL => ?_⟩
      have ehk7 := ehk7 L (by omega)
      try simp only [go_sem, E_laws_eqEstimateS_l1, R_laws_eqEstimateS_l1, ir18_k0, ir18_o0, ir18_r0, hk1] at ehk7
      simp only [go_sem, ir18, E_laws_eqEstimateS_l1, R_laws_eqEstimateS_l1, ir18_k0, ir18_o0, ir18_r0, hk1, ehk7]


def ir8_v : List Nat := [0, 1, 2, 3, 4]
def ir8 : AFn := ⟨2, 5, .seq (.region false [
    ⟨.var 2, 2, none, .box (.v 0)⟩,
    ⟨.var 3, 3, none, .box (.v 1)⟩,
    ⟨.var 4, 4, none, .mov (.c (.bool false))⟩])
 (.seq (.test false [
    ⟨.push, 5, none, .fldAddr 0 (.v 2)⟩,
    ⟨.push, 6, none, .load false 1 (.s 0)⟩,
    ⟨.push, 7, none, .fldAddr 0 (.v 3)⟩,
    ⟨.push, 8, none, .load false 1 (.s 0)⟩,
    ⟨.push, 9, none, .call 17 [(.s 2), (.s 0)]⟩,
    ⟨.push, 10, none, .un .not (.s 0)⟩] (.s 0)
  (.seq (.region false [
      ⟨.var 4, 4, none, .mov (.c (.bool false))⟩])
   (.ret))
  (.skip))
 (.seq (.test false [
    ⟨.push, 11, none, .fldAddr 1 (.v 2)⟩,
    ⟨.push, 12, none, .load false 1 (.s 0)⟩,
    ⟨.push, 13, none, .fldAddr 1 (.v 3)⟩,
    ⟨.push, 14, none, .load false 1 (.s 0)⟩,
    ⟨.push, 15, none, .call 18 [(.s 2), (.s 0)]⟩,
    ⟨.push, 16, none, .un .not (.s 0)⟩] (.s 0)
  (.seq (.region false [
      ⟨.var 4, 4, none, .mov (.c (.bool false))⟩])
   (.ret))
  (.skip))
 (.seq (.test false [
    ⟨.push, 17, none, .fldAddr 2 (.v 2)⟩,
    ⟨.push, 18, none, .load false 1 (.s 0)⟩,
    ⟨.push, 19, none, .fldAddr 2 (.v 3)⟩,
    ⟨.push, 20, none, .load false 1 (.s 0)⟩,
    ⟨.push, 21, none, .bin false .neq (.s 2) (.s 0)⟩] (.s 0)
  (.seq (.region false [
      ⟨.var 4, 4, none, .mov (.c (.bool false))⟩])
   (.ret))
  (.skip))
 (.seq (.region false [
    ⟨.var 4, 4, none, .mov (.c (.bool true))⟩])
 (.ret))))), [.t 4]⟩
noncomputable def t_laws_eqDesk : List (Nat × Ctr) := [(17, c_laws_eqStarS), (18, c_laws_eqEstimateS)]
theorem lk_laws_eqDesk_17 : look t_laws_eqDesk 17 = some c_laws_eqStarS := rfl
theorem lk_laws_eqDesk_18 : look t_laws_eqDesk 18 = some c_laws_eqEstimateS := rfl
noncomputable def c_laws_eqDesk : Ctr := mkF t_laws_eqDesk ir8 [.bor, .bor]
theorem s_laws_eqDesk : Sound Tryz.prog 8 c_laws_eqDesk := mkF_sound _ rfl (snd_cons s_laws_eqStarS (snd_cons s_laws_eqEstimateS snd_nil)) (by kernel_rfl : chkFn Tryz.prog 8 ir8 ir8_v = true)
theorem M_laws_eqDesk : c_laws_eqDesk.modes = [.bor, .bor] := rfl
theorem Fl_laws_eqDesk : c_laws_eqDesk.flat = true := rfl
attribute [go_sem] M_laws_eqDesk Fl_laws_eqDesk
attribute [go_sem] lk_laws_eqDesk_17 lk_laws_eqDesk_18
theorem Fs_laws_eqDesk {a : Desk} {b : Desk} {y_ : Bool} (h : laws_eqDesk a b = some y_) : c_laws_eqDesk.F [Desk_av a, Desk_av b] = ⟨true, .bool y_, [.any, .any]⟩ := by
  refine mkF_E rfl ?_
  dsimp only [laws_eqDesk] at h
  obtain ⟨y_1, hk1, h⟩ := bd_some h
  have fhk1 := Fs_laws_eqStarS hk1
  try simp only [go_sem] at fhk1
  rcases it_some h with ⟨hk2, h⟩ | ⟨hk2, h⟩
  · try simp only [go_sem, n1, n2, n3, n4] at hk2
    all_goals
    obtain rfl := so_some h
    refine ⟨0, fun L hL => ?_⟩
    simp only [go_sem, ir8, fhk1, hk2]
  · try simp only [go_sem, n1, n2, n3, n4] at hk2
    all_goals
    obtain ⟨y_3, hk3, h⟩ := bd_some h
    have fhk3 := Fs_laws_eqEstimateS hk3
    try simp only [go_sem, hk2] at fhk3
    rcases it_some h with ⟨hk4, h⟩ | ⟨hk4, h⟩
    · try simp only [go_sem, n1, n2, n3, n4, hk2] at hk4
      all_goals
      obtain rfl := so_some h
      refine ⟨0, fun L hL => ?_⟩
      simp only [go_sem, ir8, fhk1, hk2, fhk3, hk4]
    · try simp only [go_sem, n1, n2, n3, n4, hk2] at hk4
      all_goals
      rcases it_some h with ⟨hk5, h⟩ | ⟨hk5, h⟩
      · try simp only [go_sem, n1, n2, n3, n4, hk2, hk4] at hk5
        all_goals
        obtain rfl := so_some h
        refine ⟨0, fun L hL => ?_⟩
        simp only [go_sem, ir8, fhk1, hk2, fhk3, hk4, hk5]
      · try simp only [go_sem, n1, n2, n3, n4, hk2, hk4] at hk5
        all_goals
        obtain rfl := so_some h
        refine ⟨0, fun L hL => ?_⟩
        simp only [go_sem, ir8, fhk1, hk2, fhk3, hk4, hk5]


def ir19_v : List Nat := [0, 1, 2, 4]
def ir19 : AFn := ⟨2, 4, .seq (.region false [
    ⟨.var 2, 2, none, .box (.v 0)⟩,
    ⟨.var 3, 4, none, .mov (.c (.int .i64 (0)))⟩])
 (.seq (.region false [
    ⟨.push, 5, none, .mov (.v 1)⟩,
    ⟨.push, 6, none, .fldAddr 0 (.v 2)⟩,
    ⟨.push, 7, none, .load false 1 (.s 0)⟩,
    ⟨.push, 8, none, .len true (.s 0)⟩,
    ⟨.push, 9, none, .bin false .sub (.s 3) (.s 0)⟩,
    ⟨.var 1, 1, none, .mov (.s 0)⟩])
 (.seq (.test false [
    ⟨.push, 10, none, .mov (.v 1)⟩,
    ⟨.push, 11, none, .bin false .lss (.s 0) (.c (.int .i64 (0)))⟩] (.s 0)
  (.seq (.region false [
      ⟨.var 3, 4, none, .mov (.c (.int .i64 (-1)))⟩])
   (.ret))
  (.skip))
 (.seq (.region false [
    ⟨.push, 12, none, .mov (.v 1)⟩,
    ⟨.var 3, 4, none, .mov (.s 0)⟩])
 (.ret)))), [.t 3]⟩
noncomputable def t_laws_szStar : List (Nat × Ctr) := []
noncomputable def c_laws_szStar : Ctr := mkF t_laws_szStar ir19 [.bor, .bor]
theorem s_laws_szStar : Sound Tryz.prog 19 c_laws_szStar := mkF_sound _ rfl snd_nil (by kernel_rfl : chkFn Tryz.prog 19 ir19 ir19_v = true)
theorem M_laws_szStar : c_laws_szStar.modes = [.bor, .bor] := rfl
theorem Fl_laws_szStar : c_laws_szStar.flat = true := rfl
attribute [go_sem] M_laws_szStar Fl_laws_szStar
theorem Fs_laws_szStar {a : Star} {left_ : Int} {y_ : Int} (h : laws_szStar a left_ = some y_) : c_laws_szStar.F [Star_av a, .int .i64 left_] = ⟨true, .int .i64 y_, [.any, .any]⟩ := by
  refine mkF_E rfl ?_
  dsimp only [laws_szStar] at h
  rcases it_some h with ⟨hk1, h⟩ | ⟨hk1, h⟩
  · try simp only [go_sem, n1, n2, n3, n4] at hk1
    all_goals
    obtain rfl := so_some h
    refine ⟨0, fun L hL => ?_⟩
    simp only [go_sem, ir19, hk1]
  · try simp only [go_sem, n1, n2, n3, n4] at hk1
    all_goals
    obtain rfl := so_some h
    refine ⟨0, fun L hL => ?_⟩
    simp only [go_sem, ir19, hk1]


def ir9_b0 : IR := .seq (.test false [
    ⟨.push, 12, none, .mov (.v 3)⟩,
    ⟨.push, 13, none, .mov (.v 0)⟩,
    ⟨.push, 14, none, .len false (.s 0)⟩,
    ⟨.push, 15, none, .bin false .lss (.s 2) (.s 0)⟩] (.s 0)
  (.skip)
  (.exit 0))
 (.seq (.block 1 (.seq (.region false [
      ⟨.push, 18, none, .mov (.v 0)⟩,
      ⟨.push, 19, none, .mov (.v 3)⟩,
      ⟨.push, 20, none, .ixAddr 5 (.s 1) (.s 0)⟩,
      ⟨.push, 21, none, .load true 5 (.s 0)⟩,
      ⟨.push, 22, none, .mov (.v 1)⟩,
      ⟨.push, 23, none, .call 19 [(.s 1), (.s 0)]⟩,
      ⟨.var 1, 1, none, .mov (.s 0)⟩])
   (.test false [
     ⟨.push, 24, none, .mov (.v 1)⟩,
     ⟨.push, 25, none, .bin false .lss (.s 0) (.c (.int .i64 (0)))⟩] (.s 0)
   (.seq (.region false [
       ⟨.var 2, 4, none, .mov (.c (.int .i64 (-1)))⟩])
    (.ret))
   (.skip))))
 (.region false [
   ⟨.push, 16, none, .mov (.v 3)⟩,
   ⟨.push, 17, none, .bin false .add (.s 0) (.c (.int .i64 (1)))⟩,
   ⟨.var 3, 5, none, .mov (.s 0)⟩]))
def ir9_k0 : List Bool := [true, true, false, true]
def ir9_o0 : List Bool := [false, true, false, false]
def ir9_r0 : List Bool := [false, false, true, false]
def ir9_v : List Nat := [0, 1, 4, 5]
def ir9 : AFn := ⟨2, 4, .seq (.region false [
    ⟨.var 2, 4, none, .mov (.c (.int .i64 (0)))⟩])
 (.seq (.region false [
    ⟨.push, 6, none, .mov (.v 1)⟩,
    ⟨.push, 7, none, .mov (.v 0)⟩,
    ⟨.push, 8, none, .len false (.s 0)⟩,
    ⟨.push, 9, none, .bin false .sub (.s 2) (.s 0)⟩,
    ⟨.var 1, 1, none, .mov (.s 0)⟩])
 (.seq (.test false [
    ⟨.push, 10, none, .mov (.v 1)⟩,
    ⟨.push, 11, none, .bin false .lss (.s 0) (.c (.int .i64 (0)))⟩] (.s 0)
  (.seq (.region false [
      ⟨.var 2, 4, none, .mov (.c (.int .i64 (-1)))⟩])
   (.ret))
  (.skip))
 (.seq (.seq (.region false [
     ⟨.var 3, 5, none, .mov (.c (.int .i64 (0)))⟩])
  (.block 0 (.loop ir9_k0 ir9_o0 ir9_r0 ir9_b0)))
 (.seq (.region false [
    ⟨.push, 26, none, .mov (.v 1)⟩,
    ⟨.var 2, 4, none, .mov (.s 0)⟩])
 (.ret))))), [.t 2]⟩
noncomputable def t_laws_szStarS : List (Nat × Ctr) := [(19, c_laws_szStar)]
theorem lk_laws_szStarS_19 : look t_laws_szStarS 19 = some c_laws_szStar := rfl
noncomputable def c_laws_szStarS : Ctr := mkF t_laws_szStarS ir9 [.bor, .bor]
theorem s_laws_szStarS : Sound Tryz.prog 9 c_laws_szStarS := mkF_sound _ rfl (snd_cons s_laws_szStar snd_nil) (by kernel_rfl : chkFn Tryz.prog 9 ir9 ir9_v = true)
theorem M_laws_szStarS : c_laws_szStarS.modes = [.bor, .bor] := rfl
theorem Fl_laws_szStarS : c_laws_szStarS.flat = true := rfl
attribute [go_sem] M_laws_szStarS Fl_laws_szStarS
attribute [go_sem] lk_laws_szStarS_19
def E_laws_szStarS_l1 (a : List Star) : (Int × Int) → St
  | (left_, i) => ⟨[.sl 5 (List.map Star_av a), .int .i64 left_, .any, .int .i64 i], [], [], true⟩
def R_laws_szStarS_l1 (a : List Star) : (Int ⊕ Int) → Res
  | .inl y => (.exit 0, ⟨[.any, .int .i64 y, .any, .any], [], [], true⟩)
  | .inr y => (.ret, ⟨[.any, .any, .int .i64 y, .any], [], [], true⟩)
theorem laws_szStarS_l1_ex {a : List Star} {sgm_ : Int × Int} {rho_ : Int ⊕ Int} (h : whileE (laws_szStarS_l1 a) sgm_ = some rho_) : ∃ L0, ∀ L, L0 ≤ L → iter (exec (look t_laws_szStarS) L ir9_b0) ir9_k0 ir9_o0 ir9_r0 L (E_laws_szStarS_l1 a sgm_) = R_laws_szStarS_l1 a rho_ := by
  refine loop_ex (E := E_laws_szStarS_l1 a) (R := R_laws_szStarS_l1 a) (fun y => by first | (intro c; cases c) | (rcases y with y | y <;> (intro c; cases c)) | (rcases y with y | y | y <;> (intro c; cases c))) ?_ h
  clear h
  rintro ⟨left_, i⟩ o_ h
  dsimp only [laws_szStarS_l1] at h
  rcases it_some h with ⟨hk2, h⟩ | ⟨hk2, h⟩
  · try simp only [go_sem, n1, n2, n3, n4] at hk2
    all_goals
    obtain ⟨hk3, h⟩ := ck_some h
    have lhk3 := ix_lt hk3
    have xhk3 := getD_mapD Star_av a lhk3
    try simp only [go_sem] at lhk3
    try simp only [go_sem] at xhk3
    try simp only [go_sem, n1, n2, n3, n4, hk2] at hk3
    all_goals
    obtain ⟨y_4, hk4, h⟩ := bd_some h
    have fhk4 := Fs_laws_szStar hk4
    try simp only [go_sem, hk2, hk3] at fhk4
    rcases it_some h with ⟨hk5, h⟩ | ⟨hk5, h⟩
    · try simp only [go_sem, n1, n2, n3, n4, hk2, hk3] at hk5
      all_goals
      obtain rfl := so_some h
      refine ⟨0, fun L hL => ?_⟩
      simp only [go_sem, ir9, E_laws_szStarS_l1, R_laws_szStarS_l1, ir9_b0, ir9_k0, ir9_o0, ir9_r0, hk2, hk3, lhk3, xhk3, fhk4, hk5]
    · try simp only [go_sem, n1, n2, n3, n4, hk2, hk3] at hk5
      all_goals
      obtain rfl := so_some h
      refine ⟨0, fun L hL => ?_⟩
      simp only [go_sem, ir9, E_laws_szStarS_l1, R_laws_szStarS_l1, ir9_b0, ir9_k0, ir9_o0, ir9_r0, hk2, hk3, lhk3, xhk3, fhk4, hk5]
  · try simp only [go_sem, n1, n2, n3, n4] at hk2
    all_goals
    obtain rfl := so_some h
    refine ⟨0, fun L hL => ?_⟩
    simp only [go_sem, ir9, E_laws_szStarS_l1, R_laws_szStarS_l1, ir9_b0, ir9_k0, ir9_o0, ir9_r0, hk2]

theorem Fs_laws_szStarS {a : List Star} {left_ : Int} {y_ : Int} (h : laws_szStarS a left_ = some y_) : c_laws_szStarS.F [.sl 5 (List.map Star_av a), .int .i64 left_] = ⟨true, .int .i64 y_, [.any, .any]⟩ := by
  refine mkF_E rfl ?_
  dsimp only [laws_szStarS] at h
  rcases it_some h with ⟨hk1, h⟩ | ⟨hk1, h⟩
  · try simp only [go_sem, n1, n2, n3, n4] at hk1
    all_goals
    obtain rfl := so_some h
    refine ⟨0, fun L hL => ?_⟩
    simp only [go_sem, ir9, E_laws_szStarS_l1, R_laws_szStarS_l1, ir9_k0, ir9_o0, ir9_r0, hk1]
  · try simp only [go_sem, n1, n2, n3, n4] at hk1
    all_goals
    obtain ⟨y_6, hk6, h⟩ := bd_some h
    obtain ⟨Lhk6, ehk6⟩ := laws_szStarS_l1_ex hk6
    rcases y_6 with y_6a | y_6b
    · dsimp only at h
      obtain rfl := so_some h
      refine ⟨Lhk6, fun L hL => ?_⟩
      have ehk6 := ehk6 L (by omega)
      try simp only [go_sem, E_laws_szStarS_l1, R_laws_szStarS_l1, ir9_k0, ir9_o0, ir9_r0, hk1] at ehk6
      simp only [go_sem, ir9, E_laws_szStarS_l1, R_laws_szStarS_l1, ir9_k0, ir9_o0, ir9_r0, hk1, ehk6]
    · dsimp only at h
      obtain rfl := so_some h
      refine ⟨Lhk6, fun L hL => ?_⟩
      have ehk6 := ehk6 L (by omega)
      try simp only [go_sem, E_laws_szStarS_l1, R_laws_szStarS_l1, ir9_k0, ir9_o0, ir9_r0, hk1] at ehk6
      simp only [go_sem, ir9, E_laws_szStarS_l1, R_laws_szStarS_l1, ir9_k0, ir9_o0, ir9_r0, hk1, ehk6]


def ir20_v : List Nat := [0, 1, 2, 4]
def ir20 : AFn := ⟨2, 4, .seq (.region false [
    ⟨.var 2, 2, none, .box (.v 0)⟩,
    ⟨.var 3, 4, none, .mov (.c (.int .i64 (0)))⟩])
 (.seq (.region false [
    ⟨.push, 5, none, .mov (.v 1)⟩,
    ⟨.push, 6, none, .fldAddr 1 (.v 2)⟩,
    ⟨.push, 7, none, .load false 1 (.s 0)⟩,
    ⟨.push, 8, none, .len true (.s 0)⟩,
    ⟨.push, 9, none, .bin false .sub (.s 3) (.s 0)⟩,
    ⟨.var 1, 1, none, .mov (.s 0)⟩])
 (.seq (.test false [
    ⟨.push, 10, none, .mov (.v 1)⟩,
    ⟨.push, 11, none, .bin false .lss (.s 0) (.c (.int .i64 (0)))⟩] (.s 0)
  (.seq (.region false [
      ⟨.var 3, 4, none, .mov (.c (.int .i64 (-1)))⟩])
   (.ret))
  (.skip))
 (.seq (.region false [
    ⟨.push, 12, none, .mov (.v 1)⟩,
    ⟨.push, 13, none, .fldAddr 2 (.v 2)⟩,
    ⟨.push, 14, none, .load false 1 (.s 0)⟩,
    ⟨.push, 15, none, .len true (.s 0)⟩,
    ⟨.push, 16, none, .bin false .sub (.s 3) (.s 0)⟩,
    ⟨.var 1, 1, none, .mov (.s 0)⟩])
 (.seq (.test false [
    ⟨.push, 17, none, .mov (.v 1)⟩,
    ⟨.push, 18, none, .bin false .lss (.s 0) (.c (.int .i64 (0)))⟩] (.s 0)
  (.seq (.region false [
      ⟨.var 3, 4, none, .mov (.c (.int .i64 (-1)))⟩])
   (.ret))
  (.skip))
 (.seq (.region false [
    ⟨.push, 19, none, .mov (.v 1)⟩,
    ⟨.var 3, 4, none, .mov (.s 0)⟩])
 (.ret)))))), [.t 3]⟩
noncomputable def t_laws_szEstimate : List (Nat × Ctr) := []
noncomputable def c_laws_szEstimate : Ctr := mkF t_laws_szEstimate ir20 [.bor, .bor]
theorem s_laws_szEstimate : Sound Tryz.prog 20 c_laws_szEstimate := mkF_sound _ rfl snd_nil (by kernel_rfl : chkFn Tryz.prog 20 ir20 ir20_v = true)
theorem M_laws_szEstimate : c_laws_szEstimate.modes = [.bor, .bor] := rfl
theorem Fl_laws_szEstimate : c_laws_szEstimate.flat = true := rfl
attribute [go_sem] M_laws_szEstimate Fl_laws_szEstimate
theorem Fs_laws_szEstimate {a : Estimate} {left_ : Int} {y_ : Int} (h : laws_szEstimate a left_ = some y_) : c_laws_szEstimate.F [Estimate_av a, .int .i64 left_] = ⟨true, .int .i64 y_, [.any, .any]⟩ := by
  refine mkF_E rfl ?_
  dsimp only [laws_szEstimate] at h
  rcases it_some h with ⟨hk1, h⟩ | ⟨hk1, h⟩
  · try simp only [go_sem, n1, n2, n3, n4] at hk1
    all_goals
    obtain rfl := so_some h
    refine ⟨0, fun L hL => ?_⟩
    simp only [go_sem, ir20, hk1]
  · try simp only [go_sem, n1, n2, n3, n4] at hk1
    all_goals
    rcases it_some h with ⟨hk2, h⟩ | ⟨hk2, h⟩
    · try simp only [go_sem, n1, n2, n3, n4, hk1] at hk2
      all_goals
      obtain rfl := so_some h
      refine ⟨0, fun L hL => ?_⟩
      simp only [go_sem, ir20, hk1, hk2]
    · try simp only [go_sem, n1, n2, n3, n4, hk1] at hk2
      all_goals
      obtain rfl := so_some h
      refine ⟨0, fun L hL => ?_⟩
      simp only [go_sem, ir20, hk1, hk2]


def ir10_b0 : IR := .seq (.test false [
    ⟨.push, 12, none, .mov (.v 3)⟩,
    ⟨.push, 13, none, .mov (.v 0)⟩,
    ⟨.push, 14, none, .len false (.s 0)⟩,
    ⟨.push, 15, none, .bin false .lss (.s 2) (.s 0)⟩] (.s 0)
  (.skip)
  (.exit 0))
 (.seq (.block 1 (.seq (.region false [
      ⟨.push, 18, none, .mov (.v 0)⟩,
      ⟨.push, 19, none, .mov (.v 3)⟩,
      ⟨.push, 20, none, .ixAddr 5 (.s 1) (.s 0)⟩,
      ⟨.push, 21, none, .load true 5 (.s 0)⟩,
      ⟨.push, 22, none, .mov (.v 1)⟩,
      ⟨.push, 23, none, .call 20 [(.s 1), (.s 0)]⟩,
      ⟨.var 1, 1, none, .mov (.s 0)⟩])
   (.test false [
     ⟨.push, 24, none, .mov (.v 1)⟩,
     ⟨.push, 25, none, .bin false .lss (.s 0) (.c (.int .i64 (0)))⟩] (.s 0)
   (.seq (.region false [
       ⟨.var 2, 4, none, .mov (.c (.int .i64 (-1)))⟩])
    (.ret))
   (.skip))))
 (.region false [
   ⟨.push, 16, none, .mov (.v 3)⟩,
   ⟨.push, 17, none, .bin false .add (.s 0) (.c (.int .i64 (1)))⟩,
   ⟨.var 3, 5, none, .mov (.s 0)⟩]))
def ir10_k0 : List Bool := [true, true, false, true]
def ir10_o0 : List Bool := [false, true, false, false]
def ir10_r0 : List Bool := [false, false, true, false]
def ir10_v : List Nat := [0, 1, 4, 5]
def ir10 : AFn := ⟨2, 4, .seq (.region false [
    ⟨.var 2, 4, none, .mov (.c (.int .i64 (0)))⟩])
 (.seq (.region false [
    ⟨.push, 6, none, .mov (.v 1)⟩,
    ⟨.push, 7, none, .mov (.v 0)⟩,
    ⟨.push, 8, none, .len false (.s 0)⟩,
    ⟨.push, 9, none, .bin false .sub (.s 2) (.s 0)⟩,
    ⟨.var 1, 1, none, .mov (.s 0)⟩])
 (.seq (.test false [
    ⟨.push, 10, none, .mov (.v 1)⟩,
    ⟨.push, 11, none, .bin false .lss (.s 0) (.c (.int .i64 (0)))⟩] (.s 0)
  (.seq (.region false [
      ⟨.var 2, 4, none, .mov (.c (.int .i64 (-1)))⟩])
   (.ret))
  (.skip))
 (.seq (.seq (.region false [
     ⟨.var 3, 5, none, .mov (.c (.int .i64 (0)))⟩])
  (.block 0 (.loop ir10_k0 ir10_o0 ir10_r0 ir10_b0)))
 (.seq (.region false [
    ⟨.push, 26, none, .mov (.v 1)⟩,
    ⟨.var 2, 4, none, .mov (.s 0)⟩])
 (.ret))))), [.t 2]⟩
noncomputable def t_laws_szEstimateS : List (Nat × Ctr) := [(20, c_laws_szEstimate)]
theorem lk_laws_szEstimateS_20 : look t_laws_szEstimateS 20 = some c_laws_szEstimate := rfl
noncomputable def c_laws_szEstimateS : Ctr := mkF t_laws_szEstimateS ir10 [.bor, .bor]
theorem s_laws_szEstimateS : Sound Tryz.prog 10 c_laws_szEstimateS := mkF_sound _ rfl (snd_cons s_laws_szEstimate snd_nil) (by kernel_rfl : chkFn Tryz.prog 10 ir10 ir10_v = true)
theorem M_laws_szEstimateS : c_laws_szEstimateS.modes = [.bor, .bor] := rfl
theorem Fl_laws_szEstimateS : c_laws_szEstimateS.flat = true := rfl
attribute [go_sem] M_laws_szEstimateS Fl_laws_szEstimateS
attribute [go_sem] lk_laws_szEstimateS_20
def E_laws_szEstimateS_l1 (a : List Estimate) : (Int × Int) → St
  | (left_, i) => ⟨[.sl 5 (List.map Estimate_av a), .int .i64 left_, .any, .int .i64 i], [], [], true⟩
def R_laws_szEstimateS_l1 (a : List Estimate) : (Int ⊕ Int) → Res
  | .inl y => (.exit 0, ⟨[.any, .int .i64 y, .any, .any], [], [], true⟩)
  | .inr y => (.ret, ⟨[.any, .any, .int .i64 y, .any], [], [], true⟩)
theorem laws_szEstimateS_l1_ex {a : List Estimate} {sgm_ : Int × Int} {rho_ : Int ⊕ Int} (h : whileE (laws_szEstimateS_l1 a) sgm_ = some rho_) : ∃ L0, ∀ L, L0 ≤ L → iter (exec (look t_laws_szEstimateS) L ir10_b0) ir10_k0 ir10_o0 ir10_r0 L (E_laws_szEstimateS_l1 a sgm_) = R_laws_szEstimateS_l1 a rho_ := by
  refine loop_ex (E := E_laws_szEstimateS_l1 a) (R := R_laws_szEstimateS_l1 a) (fun y => by first | (intro c; cases c) | (rcases y with y | y <;> (intro c; cases c)) | (rcases y with y | y | y <;> (intro c; cases c))) ?_ h
  clear h
  rintro ⟨left_, i⟩ o_ h
  dsimp only [laws_szEstimateS_l1] at h
  rcases it_some h with ⟨hk2, h⟩ | ⟨hk2, h⟩
  · try simp only [go_sem, n1, n2, n3, n4] at hk2
    all_goals
    obtain ⟨hk3, h⟩ := ck_some h
    have lhk3 := ix_lt hk3
    have xhk3 := getD_mapD Estimate_av a lhk3
    try simp only [go_sem] at lhk3
    try simp only [go_sem] at xhk3
    try simp only [go_sem, n1, n2, n3, n4, hk2] at hk3
    all_goals
    obtain ⟨y_4, hk4, h⟩ := bd_some h
    have fhk4 := Fs_laws_szEstimate hk4
    try simp only [go_sem, hk2, hk3] at fhk4
    rcases it_some h with ⟨hk5, h⟩ | ⟨hk5, h⟩
    · try simp only [go_sem, n1, n2, n3, n4, hk2, hk3] at hk5
      all_goals
      obtain rfl := so_some h
      refine ⟨0, fun L hL => ?_⟩
      simp only [go_sem, ir10, E_laws_szEstimateS_l1, R_laws_szEstimateS_l1, ir10_b0, ir10_k0, ir10_o0, ir10_r0, hk2, hk3, lhk3, xhk3, fhk4, hk5]
    · try simp only [go_sem, n1, n2, n3, n4, hk2, hk3] at hk5
      all_goals
      obtain rfl := so_some h
      refine ⟨0, fun L hL => ?_⟩
      simp only [go_sem, ir10, E_laws_szEstimateS_l1, R_laws_szEstimateS_l1, ir10_b0, ir10_k0, ir10_o0, ir10_r0, hk2, hk3, lhk3, xhk3, fhk4, hk5]
  · try simp only [go_sem, n1, n2, n3, n4] at hk2
    all_goals
    obtain rfl := so_some h
    refine ⟨0, fun L hL => ?_⟩
    simp only [go_sem, ir10, E_laws_szEstimateS_l1, R_laws_szEstimateS_l1, ir10_b0, ir10_k0, ir10_o0, ir10_r0, hk2]

theorem Fs_laws_szEstimateS {a : List Estimate} {left_ : Int} {y_ : Int} (h : laws_szEstimateS a left_ = some y_) : c_laws_szEstimateS.F [.sl 5 (List.map Estimate_av a), .int .i64 left_] = ⟨true, .int .i64 y_, [.any, .any]⟩ := by
  refine mkF_E rfl ?_
  dsimp only [laws_szEstimateS] at h
  rcases it_some h with ⟨hk1, h⟩ | ⟨hk1, h⟩
  · try simp only [go_sem, n1, n2, n3, n4] at hk1
    all_goals
    obtain rfl := so_some h
    refine ⟨0, fun L hL => ?_⟩
    simp only [go_sem, ir10, E_laws_szEstimateS_l1, R_laws_szEstimateS_l1, ir10_k0, ir10_o0, ir10_r0, hk1]
  · try simp only [go_sem, n1, n2, n3, n4] at hk1
    all_goals
    obtain ⟨y_6, hk6, h⟩ := bd_some h
    obtain ⟨Lhk6, ehk6⟩ := laws_szEstimateS_l1_ex hk6
    rcases y_6 with y_6a | y_6b
    · dsimp only at h
      obtain rfl := so_some h
      refine ⟨Lhk6, fun L hL => ?_⟩
      have ehk6 := ehk6 L (by omega)
      try simp only [go_sem, E_laws_szEstimateS_l1, R_laws_szEstimateS_l1, ir10_k0, ir10_o0, ir10_r0, hk1] at ehk6
      simp only [go_sem, ir10, E_laws_szEstimateS_l1, R_laws_szEstimateS_l1, ir10_k0, ir10_o0, ir10_r0, hk1, ehk6]
    · dsimp only at h
      obtain rfl := so_some h
      refine ⟨Lhk6, fun L hL => ?_⟩
      have ehk6 := ehk6 L (by omega)
      try simp only [go_sem, E_laws_szEstimateS_l1, R_laws_szEstimateS_l1, ir10_k0, ir10_o0, ir10_r0, hk1] at ehk6
      simp only [go_sem, ir10, E_laws_szEstimateS_l1, R_laws_szEstimateS_l1, ir10_k0, ir10_o0, ir10_r0, hk1, ehk6]


def ir4_v : List Nat := [0, 1, 2, 4]
def ir4 : AFn := ⟨2, 4, .seq (.region false [
    ⟨.var 2, 2, none, .box (.v 0)⟩,
    ⟨.var 3, 4, none, .mov (.c (.int .i64 (0)))⟩])
 (.seq (.region false [
    ⟨.push, 5, none, .fldAddr 0 (.v 2)⟩,
    ⟨.push, 6, none, .load false 1 (.s 0)⟩,
    ⟨.push, 7, none, .mov (.v 1)⟩,
    ⟨.push, 8, none, .call 9 [(.s 1), (.s 0)]⟩,
    ⟨.var 1, 1, none, .mov (.s 0)⟩])
 (.seq (.test false [
    ⟨.push, 9, none, .mov (.v 1)⟩,
    ⟨.push, 10, none, .bin false .lss (.s 0) (.c (.int .i64 (0)))⟩] (.s 0)
  (.seq (.region false [
      ⟨.var 3, 4, none, .mov (.c (.int .i64 (-1)))⟩])
   (.ret))
  (.skip))
 (.seq (.region false [
    ⟨.push, 11, none, .fldAddr 1 (.v 2)⟩,
    ⟨.push, 12, none, .load false 1 (.s 0)⟩,
    ⟨.push, 13, none, .mov (.v 1)⟩,
    ⟨.push, 14, none, .call 10 [(.s 1), (.s 0)]⟩,
    ⟨.var 1, 1, none, .mov (.s 0)⟩])
 (.seq (.test false [
    ⟨.push, 15, none, .mov (.v 1)⟩,
    ⟨.push, 16, none, .bin false .lss (.s 0) (.c (.int .i64 (0)))⟩] (.s 0)
  (.seq (.region false [
      ⟨.var 3, 4, none, .mov (.c (.int .i64 (-1)))⟩])
   (.ret))
  (.skip))
 (.seq (.region false [
    ⟨.push, 17, none, .mov (.v 1)⟩,
    ⟨.push, 18, none, .fldAddr 2 (.v 2)⟩,
    ⟨.push, 19, none, .load false 1 (.s 0)⟩,
    ⟨.push, 20, none, .len true (.s 0)⟩,
    ⟨.push, 21, none, .bin false .sub (.s 3) (.s 0)⟩,
    ⟨.var 1, 1, none, .mov (.s 0)⟩])
 (.seq (.test false [
    ⟨.push, 22, none, .mov (.v 1)⟩,
    ⟨.push, 23, none, .bin false .lss (.s 0) (.c (.int .i64 (0)))⟩] (.s 0)
  (.seq (.region false [
      ⟨.var 3, 4, none, .mov (.c (.int .i64 (-1)))⟩])
   (.ret))
  (.skip))
 (.seq (.region false [
    ⟨.push, 24, none, .mov (.v 1)⟩,
    ⟨.var 3, 4, none, .mov (.s 0)⟩])
 (.ret)))))))), [.t 3]⟩
noncomputable def t_laws_szDesk : List (Nat × Ctr) := [(9, c_laws_szStarS), (10, c_laws_szEstimateS)]
theorem lk_laws_szDesk_9 : look t_laws_szDesk 9 = some c_laws_szStarS := rfl
theorem lk_laws_szDesk_10 : look t_laws_szDesk 10 = some c_laws_szEstimateS := rfl
noncomputable def c_laws_szDesk : Ctr := mkF t_laws_szDesk ir4 [.bor, .bor]
theorem s_laws_szDesk : Sound Tryz.prog 4 c_laws_szDesk := mkF_sound _ rfl (snd_cons s_laws_szStarS (snd_cons s_laws_szEstimateS snd_nil)) (by kernel_rfl : chkFn Tryz.prog 4 ir4 ir4_v = true)
theorem M_laws_szDesk : c_laws_szDesk.modes = [.bor, .bor] := rfl
theorem Fl_laws_szDesk : c_laws_szDesk.flat = true := rfl
attribute [go_sem] M_laws_szDesk Fl_laws_szDesk
attribute [go_sem] lk_laws_szDesk_9 lk_laws_szDesk_10
theorem Fs_laws_szDesk {a : Desk} {left_ : Int} {y_ : Int} (h : laws_szDesk a left_ = some y_) : c_laws_szDesk.F [Desk_av a, .int .i64 left_] = ⟨true, .int .i64 y_, [.any, .any]⟩ := by
  refine mkF_E rfl ?_
  dsimp only [laws_szDesk] at h
  obtain ⟨y_1, hk1, h⟩ := bd_some h
  have fhk1 := Fs_laws_szStarS hk1
  try simp only [go_sem] at fhk1
  rcases it_some h with ⟨hk2, h⟩ | ⟨hk2, h⟩
  · try simp only [go_sem, n1, n2, n3, n4] at hk2
    all_goals
    obtain rfl := so_some h
    refine ⟨0, fun L hL => ?_⟩
    simp only [go_sem, ir4, fhk1, hk2]
  · try simp only [go_sem, n1, n2, n3, n4] at hk2
    all_goals
    obtain ⟨y_3, hk3, h⟩ := bd_some h
    have fhk3 := Fs_laws_szEstimateS hk3
    try simp only [go_sem, hk2] at fhk3
    rcases it_some h with ⟨hk4, h⟩ | ⟨hk4, h⟩
    · try simp only [go_sem, n1, n2, n3, n4, hk2] at hk4
      all_goals
      obtain rfl := so_some h
      refine ⟨0, fun L hL => ?_⟩
      simp only [go_sem, ir4, fhk1, hk2, fhk3, hk4]
    · try simp only [go_sem, n1, n2, n3, n4, hk2] at hk4
      all_goals
      rcases it_some h with ⟨hk5, h⟩ | ⟨hk5, h⟩
      · try simp only [go_sem, n1, n2, n3, n4, hk2, hk4] at hk5
        all_goals
        obtain rfl := so_some h
        refine ⟨0, fun L hL => ?_⟩
        simp only [go_sem, ir4, fhk1, hk2, fhk3, hk4, hk5]
      · try simp only [go_sem, n1, n2, n3, n4, hk2, hk4] at hk5
        all_goals
        obtain rfl := so_some h
        refine ⟨0, fun L hL => ?_⟩
        simp only [go_sem, ir4, fhk1, hk2, fhk3, hk4, hk5]


def ir24_b0 : IR := .seq (.test false [
    ⟨.push, 6, none, .mov (.v 3)⟩,
    ⟨.push, 7, none, .mov (.v 0)⟩,
    ⟨.push, 8, none, .len false (.s 0)⟩,
    ⟨.push, 9, none, .bin false .lss (.s 2) (.s 0)⟩] (.s 0)
  (.skip)
  (.exit 0))
 (.seq (.block 1 (.test false [
     ⟨.push, 12, none, .mov (.v 0)⟩,
     ⟨.push, 13, none, .mov (.v 3)⟩,
     ⟨.push, 14, none, .ixAddr 5 (.s 1) (.s 0)⟩,
     ⟨.push, 15, none, .fldAddr 0 (.s 0)⟩,
     ⟨.push, 16, none, .load false 1 (.s 0)⟩,
     ⟨.push, 17, none, .mov (.v 1)⟩,
     ⟨.push, 18, none, .bin false .eql (.s 1) (.s 0)⟩] (.s 0)
   (.seq (.region false [
       ⟨.push, 19, none, .mov (.v 3)⟩,
       ⟨.var 2, 4, none, .mov (.s 0)⟩])
    (.ret))
   (.skip)))
 (.region false [
   ⟨.push, 10, none, .mov (.v 3)⟩,
   ⟨.push, 11, none, .bin false .add (.s 0) (.c (.int .i64 (1)))⟩,
   ⟨.var 3, 5, none, .mov (.s 0)⟩]))
def ir24_k0 : List Bool := [true, true, false, true]
def ir24_o0 : List Bool := [false, false, false, false]
def ir24_r0 : List Bool := [false, false, true, false]
def ir24_v : List Nat := [0, 1, 4, 5]
def ir24 : AFn := ⟨2, 4, .seq (.region false [
    ⟨.var 2, 4, none, .mov (.c (.int .i64 (0)))⟩])
 (.seq (.seq (.region false [
     ⟨.var 3, 5, none, .mov (.c (.int .i64 (0)))⟩])
  (.block 0 (.loop ir24_k0 ir24_o0 ir24_r0 ir24_b0)))
 (.seq (.region false [
    ⟨.var 2, 4, none, .mov (.c (.int .i64 (-1)))⟩])
 (.ret))), [.t 2]⟩
noncomputable def t_spec_l04Find : List (Nat × Ctr) := []
noncomputable def c_spec_l04Find : Ctr := mkF t_spec_l04Find ir24 [.bor, .bor]
theorem s_spec_l04Find : Sound Tryz.prog 24 c_spec_l04Find := mkF_sound _ rfl snd_nil (by kernel_rfl : chkFn Tryz.prog 24 ir24 ir24_v = true)
theorem M_spec_l04Find : c_spec_l04Find.modes = [.bor, .bor] := rfl
theorem Fl_spec_l04Find : c_spec_l04Find.flat = true := rfl
attribute [go_sem] M_spec_l04Find Fl_spec_l04Find
def E_spec_l04Find_l1 (list : List Star) (name : List UInt8) : Int → St
  | i => ⟨[.sl 5 (List.map Star_av list), .str name, .any, .int .i64 i], [], [], true⟩
def R_spec_l04Find_l1 (list : List Star) (name : List UInt8) : (Unit ⊕ Int) → Res
  | .inl y => (.exit 0, ⟨[.any, .any, .any, .any], [], [], true⟩)
  | .inr y => (.ret, ⟨[.any, .any, .int .i64 y, .any], [], [], true⟩)
theorem spec_l04Find_l1_ex {list : List Star} {name : List UInt8} {sgm_ : Int} {rho_ : Unit ⊕ Int} (h : whileE (spec_l04Find_l1 list name) sgm_ = some rho_) : ∃ L0, ∀ L, L0 ≤ L → iter (exec (look t_spec_l04Find) L ir24_b0) ir24_k0 ir24_o0 ir24_r0 L (E_spec_l04Find_l1 list name sgm_) = R_spec_l04Find_l1 list name rho_ := by
  refine loop_ex (E := E_spec_l04Find_l1 list name) (R := R_spec_l04Find_l1 list name) (fun y => by first | (intro c; cases c) | (rcases y with y | y <;> (intro c; cases c)) | (rcases y with y | y | y <;> (intro c; cases c))) ?_ h
  clear h
  intro i o_ h
  dsimp only [spec_l04Find_l1] at h
  rcases it_some h with ⟨hk1, h⟩ | ⟨hk1, h⟩
  · try simp only [go_sem, n1, n2, n3, n4] at hk1
    all_goals
    obtain ⟨hk2, h⟩ := ck_some h
    have lhk2 := ix_lt hk2
    have xhk2 := getD_mapD Star_av list lhk2
    try simp only [go_sem] at lhk2
    try simp only [go_sem] at xhk2
    try simp only [go_sem, n1, n2, n3, n4, hk1] at hk2
    all_goals
    rcases it_some h with ⟨hk3, h⟩ | ⟨hk3, h⟩
    · try simp only [go_sem, n1, n2, n3, n4, hk1, hk2] at hk3
      all_goals
      obtain rfl := so_some h
      refine ⟨0, fun L hL => ?_⟩
      simp only [go_sem, ir24, E_spec_l04Find_l1, R_spec_l04Find_l1, ir24_b0, ir24_k0, ir24_o0, ir24_r0, hk1, hk2, lhk2, xhk2, hk3]
    · try simp only [go_sem, n1, n2, n3, n4, hk1, hk2] at hk3
      all_goals
      obtain rfl := so_some h
      refine ⟨0, fun L hL => ?_⟩
      simp only [go_sem, ir24, E_spec_l04Find_l1, R_spec_l04Find_l1, ir24_b0, ir24_k0, ir24_o0, ir24_r0, hk1, hk2, lhk2, xhk2, hk3]
  · try simp only [go_sem, n1, n2, n3, n4] at hk1
    all_goals
    obtain rfl := so_some h
    refine ⟨0, fun L hL => ?_⟩
    simp only [go_sem, ir24, E_spec_l04Find_l1, R_spec_l04Find_l1, ir24_b0, ir24_k0, ir24_o0, ir24_r0, hk1]

theorem Fs_spec_l04Find {list : List Star} {name : List UInt8} {y_ : Int} (h : spec_l04Find list name = some y_) : c_spec_l04Find.F [.sl 5 (List.map Star_av list), .str name] = ⟨true, .int .i64 y_, [.any, .any]⟩ := by
  refine mkF_E rfl ?_
  dsimp only [spec_l04Find] at h
  obtain ⟨y_4, hk4, h⟩ := bd_some h
  obtain ⟨Lhk4, ehk4⟩ := spec_l04Find_l1_ex hk4
  rcases y_4 with y_4a | y_4b
  · dsimp only at h
    obtain rfl := so_some h
    refine ⟨Lhk4, fun L hL => ?_⟩
    have ehk4 := ehk4 L (by omega)
    try simp only [go_sem, E_spec_l04Find_l1, R_spec_l04Find_l1, ir24_k0, ir24_o0, ir24_r0] at ehk4
    simp only [go_sem, ir24, E_spec_l04Find_l1, R_spec_l04Find_l1, ir24_k0, ir24_o0, ir24_r0, ehk4]
  · dsimp only at h
    obtain rfl := so_some h
    refine ⟨Lhk4, fun L hL => ?_⟩
    have ehk4 := ehk4 L (by omega)
    try simp only [go_sem, E_spec_l04Find_l1, R_spec_l04Find_l1, ir24_k0, ir24_o0, ir24_r0] at ehk4
    simp only [go_sem, ir24, E_spec_l04Find_l1, R_spec_l04Find_l1, ir24_k0, ir24_o0, ir24_r0, ehk4]


def ir66_b0 : IR := .seq (.test false [
    ⟨.push, 9, none, .mov (.v 5)⟩,
    ⟨.push, 10, none, .mov (.v 0)⟩,
    ⟨.push, 11, none, .len true (.s 0)⟩,
    ⟨.push, 12, none, .bin false .lss (.s 2) (.s 0)⟩] (.s 0)
  (.skip)
  (.exit 0))
 (.seq (.block 1 (.test false [
     ⟨.push, 15, none, .mov (.v 0)⟩,
     ⟨.push, 16, none, .mov (.v 5)⟩,
     ⟨.push, 17, none, .ixStr (.s 1) (.s 0)⟩,
     ⟨.push, 18, none, .mov (.v 1)⟩,
     ⟨.push, 19, none, .bin false .eql (.s 1) (.s 0)⟩] (.s 0)
   (.seq (.region false [
       ⟨.push, 20, none, .mov (.v 3)⟩,
       ⟨.push, 21, none, .mov (.v 0)⟩,
       ⟨.push, 22, none, .mov (.v 4)⟩,
       ⟨.push, 23, none, .mov (.v 5)⟩,
       ⟨.push, 24, none, .slice 0 (.s 2) (some (.s 1)) (some (.s 0))⟩,
       ⟨.push, 25, none, .mkSl 1 (.str []) 1 [(0, (.s 0))]⟩,
       ⟨.push, 26, none, .app 1 16 (.str []) (.s 5) (.s 0)⟩,
       ⟨.var 3, 5, none, .mov (.s 0)⟩])
    (.region false [
      ⟨.push, 27, none, .mov (.v 5)⟩,
      ⟨.push, 28, none, .bin false .add (.s 0) (.c (.int .i64 (1)))⟩,
      ⟨.var 4, 6, none, .mov (.s 0)⟩]))
   (.skip)))
 (.region false [
   ⟨.push, 13, none, .mov (.v 5)⟩,
   ⟨.push, 14, none, .bin false .add (.s 0) (.c (.int .i64 (1)))⟩,
   ⟨.var 5, 7, none, .mov (.s 0)⟩]))
def ir66_k0 : List Bool := [true, true, false, true, true, true]
def ir66_o0 : List Bool := [true, false, false, true, true, false]
def ir66_r0 : List Bool := [false, false, true, false, false, false]
def ir66_v : List Nat := [0, 1, 4, 5, 6, 7]
def ir66 : AFn := ⟨2, 6, .seq (.region false [
    ⟨.var 2, 4, none, .newnil 1⟩])
 (.seq (.region false [
    ⟨.push, 8, none, .mkSl 1 (.str []) 0 []⟩,
    ⟨.var 3, 5, none, .mov (.s 0)⟩])
 (.seq (.region false [
    ⟨.var 4, 6, none, .mov (.c (.int .i64 (0)))⟩])
 (.seq (.seq (.region false [
     ⟨.var 5, 7, none, .mov (.c (.int .i64 (0)))⟩])
  (.block 0 (.loop ir66_k0 ir66_o0 ir66_r0 ir66_b0)))
 (.seq (.region false [
    ⟨.push, 29, none, .mov (.v 3)⟩,
    ⟨.push, 30, none, .mov (.v 0)⟩,
    ⟨.push, 31, none, .mov (.v 4)⟩,
    ⟨.push, 32, none, .slice 0 (.s 1) (some (.s 0)) none⟩,
    ⟨.push, 33, none, .mkSl 1 (.str []) 1 [(0, (.s 0))]⟩,
    ⟨.push, 34, none, .app 1 16 (.str []) (.s 4) (.s 0)⟩,
    ⟨.var 2, 4, none, .mov (.s 0)⟩])
 (.ret))))), [.t 2]⟩
noncomputable def t_spec_l01Split : List (Nat × Ctr) := []
noncomputable def c_spec_l01Split : Ctr := mkF t_spec_l01Split ir66 [.bor, .bor]
theorem s_spec_l01Split : Sound Tryz.prog 66 c_spec_l01Split := mkF_sound _ rfl snd_nil (by kernel_rfl : chkFn Tryz.prog 66 ir66 ir66_v = true)
theorem M_spec_l01Split : c_spec_l01Split.modes = [.bor, .bor] := rfl
theorem Fl_spec_l01Split : c_spec_l01Split.flat = true := rfl
attribute [go_sem] M_spec_l01Split Fl_spec_l01Split
def E_spec_l01Split_l1 (s_ : List UInt8) (by_ : UInt8) : ((List (List UInt8)) × Int × Int) → St
  | (out, from_, i) => ⟨[.str s_, .int .u8 (by_.toNat : Int), .any, .own 3200000, .int .i64 from_, .int .i64 i], [], [(3200000, ⟨1, List.map AV.str out⟩)], true⟩
def R_spec_l01Split_l1 (s_ : List UInt8) (by_ : UInt8) (y : (List (List UInt8)) × Int) : Res := (.exit 0, ⟨[.str s_, .any, .any, .own 3200000, .int .i64 y.2, .any], [], [(3200000, ⟨1, List.map AV.str y.1⟩)], true⟩)
theorem spec_l01Split_l1_ex {s_ : List UInt8} {by_ : UInt8} {sgm_ : (List (List UInt8)) × Int × Int} {rho_ : (List (List UInt8)) × Int} (h : whileE (spec_l01Split_l1 s_ by_) sgm_ = some rho_) : ∃ L0, ∀ L, L0 ≤ L → iter (exec (look t_spec_l01Split) L ir66_b0) ir66_k0 ir66_o0 ir66_r0 L (E_spec_l01Split_l1 s_ by_ sgm_) = R_spec_l01Split_l1 s_ by_ rho_ := by
  refine loop_ex (E := E_spec_l01Split_l1 s_ by_) (R := R_spec_l01Split_l1 s_ by_) (fun y => by first | (intro c; cases c) | (rcases y with y | y <;> (intro c; cases c)) | (rcases y with y | y | y <;> (intro c; cases c))) ?_ h
  clear h
  rintro ⟨out, from_, i⟩ o_ h
  dsimp only [spec_l01Split_l1] at h
  rcases it_some h with ⟨hk1, h⟩ | ⟨hk1, h⟩
  · try simp only [go_sem, n1, n2, n3, n4] at hk1
    all_goals
    obtain ⟨hk2, h⟩ := ck_some h
    try simp only [go_sem, n1, n2, n3, n4, hk1] at hk2
    all_goals
    rcases it_some h with ⟨hk3, h⟩ | ⟨hk3, h⟩
    · try simp only [go_sem, n1, n2, n3, n4, hk1, hk2] at hk3
      all_goals
      obtain ⟨hk4, h⟩ := ck_some h
      try simp only [go_sem, n1, n2, n3, n4, hk1, hk2, hk3] at hk4
      all_goals
      obtain ⟨hk5, h⟩ := ck_some h
      try simp only [go_sem, n1, n2, n3, n4, hk1, hk2, hk3, hk4] at hk5
      all_goals
      obtain rfl := so_some h
      refine ⟨0, fun L hL => ?_⟩
      simp only [go_sem, ir66, E_spec_l01Split_l1, R_spec_l01Split_l1, ir66_b0, ir66_k0, ir66_o0, ir66_r0, hk1, hk2, hk3, hk4, hk5]
    · try simp only [go_sem, n1, n2, n3, n4, hk1, hk2] at hk3
      all_goals
      obtain rfl := so_some h
      refine ⟨0, fun L hL => ?_⟩
      simp only [go_sem, ir66, E_spec_l01Split_l1, R_spec_l01Split_l1, ir66_b0, ir66_k0, ir66_o0, ir66_r0, hk1, hk2, hk3]
  · try simp only [go_sem, n1, n2, n3, n4] at hk1
    all_goals
    obtain rfl := so_some h
    refine ⟨0, fun L hL => ?_⟩
    simp only [go_sem, ir66, E_spec_l01Split_l1, R_spec_l01Split_l1, ir66_b0, ir66_k0, ir66_o0, ir66_r0, hk1]

theorem Fs_spec_l01Split {s_ : List UInt8} {by_ : UInt8} {y_ : (List (List UInt8))} (h : spec_l01Split s_ by_ = some y_) : c_spec_l01Split.F [.str s_, .int .u8 (by_.toNat : Int)] = ⟨true, .fresh 1 (List.map AV.str y_), [.any, .any]⟩ := by
  refine mkF_E (by simp only [flatA, flatB, flat1, List.all_cons, List.all_nil, Bool.and_self, flatE_map (f := AV.str) (fun _ => rfl)]) ?_
  dsimp only [spec_l01Split] at h
  obtain ⟨y_6, hk6, h⟩ := bd_some h
  obtain ⟨Lhk6, ehk6⟩ := spec_l01Split_l1_ex hk6
  obtain ⟨hk7, h⟩ := ck_some h
  try simp only [go_sem, n1, n2, n3, n4] at hk7
  all_goals
  obtain ⟨hk8, h⟩ := ck_some h
  try simp only [go_sem, n1, n2, n3, n4, hk7] at hk8
  all_goals
  obtain rfl := so_some h
  refine ⟨Lhk6, fun L hL => ?_⟩
  have ehk6 := ehk6 L (by omega)
  try simp only [go_sem, E_spec_l01Split_l1, R_spec_l01Split_l1, ir66_k0, ir66_o0, ir66_r0, hk7, hk8] at ehk6
  simp only [go_sem, ir66, E_spec_l01Split_l1, R_spec_l01Split_l1, ir66_k0, ir66_o0, ir66_r0, hk7, hk8, ehk6]


def ir25_b0 : IR := .seq (.test false [
    ⟨.push, 8, none, .mov (.v 3)⟩,
    ⟨.push, 9, none, .bin false .neq (.s 0) (.c (.int .i64 (0)))⟩] (.s 0)
  (.skip)
  (.exit 0))
 (.seq (.block 1 (.seq (.region false [
      ⟨.push, 12, none, .mov (.v 3)⟩,
      ⟨.push, 13, none, .bin false .rem (.s 0) (.c (.int .i64 (10)))⟩,
      ⟨.var 4, 5, none, .mov (.s 0)⟩])
   (.seq (.test false [
      ⟨.push, 14, none, .mov (.v 4)⟩,
      ⟨.push, 15, none, .bin false .lss (.s 0) (.c (.int .i64 (0)))⟩] (.s 0)
    (.region false [
       ⟨.push, 16, none, .mov (.v 4)⟩,
       ⟨.push, 17, none, .un .neg (.s 0)⟩,
       ⟨.var 4, 5, none, .mov (.s 0)⟩])
    (.skip))
   (.region false [
     ⟨.push, 18, none, .mov (.v 4)⟩,
     ⟨.push, 19, none, .bin false .add (.c (.int .i64 (48))) (.s 0)⟩,
     ⟨.push, 20, none, .conv .u8 (.s 0)⟩,
     ⟨.push, 21, none, .mkSl 1 (.int .u8 (0)) 1 [(0, (.s 0))]⟩,
     ⟨.push, 22, none, .mov (.v 2)⟩,
     ⟨.push, 23, none, .app 1 1 (.int .u8 (0)) (.s 1) (.s 0)⟩,
     ⟨.var 2, 3, none, .mov (.s 0)⟩]))))
 (.region false [
   ⟨.push, 10, none, .mov (.v 3)⟩,
   ⟨.push, 11, none, .bin false .quo (.s 0) (.c (.int .i64 (10)))⟩,
   ⟨.var 3, 4, none, .mov (.s 0)⟩]))
def ir25_k0 : List Bool := [true, false, true, true, false]
def ir25_o0 : List Bool := [true, false, true, false, false]
def ir25_r0 : List Bool := [false, true, false, false, false]
def ir25_v : List Nat := [0, 2, 3, 4, 5]
def ir25 : AFn := ⟨1, 5, .seq (.region false [
    ⟨.var 1, 2, none, .mov (.c (.str []))⟩])
 (.seq (.region false [
    ⟨.push, 6, none, .mkSl 1 (.int .u8 (0)) 0 []⟩,
    ⟨.var 2, 3, none, .mov (.s 0)⟩])
 (.seq (.seq (.region false [
     ⟨.push, 7, none, .mov (.v 0)⟩,
     ⟨.var 3, 4, none, .mov (.s 0)⟩])
  (.block 0 (.loop ir25_k0 ir25_o0 ir25_r0 ir25_b0)))
 (.seq (.test false [
    ⟨.push, 24, none, .mov (.v 2)⟩,
    ⟨.push, 25, none, .len false (.s 0)⟩,
    ⟨.push, 26, none, .bin false .eql (.s 0) (.c (.int .i64 (0)))⟩] (.s 0)
  (.seq (.region false [
      ⟨.var 1, 2, none, .mov (.c (.str [48]))⟩])
   (.ret))
  (.skip))
 (.seq (.test false [
    ⟨.push, 27, none, .mov (.v 0)⟩,
    ⟨.push, 28, none, .bin false .lss (.s 0) (.c (.int .i64 (0)))⟩] (.s 0)
  (.seq (.region false [
      ⟨.push, 29, none, .mov (.v 2)⟩,
      ⟨.push, 30, none, .b2s (.s 0)⟩,
      ⟨.push, 31, none, .bin false .add (.c (.str [45])) (.s 0)⟩,
      ⟨.var 1, 2, none, .mov (.s 0)⟩])
   (.ret))
  (.skip))
 (.seq (.region false [
    ⟨.push, 32, none, .mov (.v 2)⟩,
    ⟨.push, 33, none, .b2s (.s 0)⟩,
    ⟨.var 1, 2, none, .mov (.s 0)⟩])
 (.ret)))))), [.t 1]⟩
noncomputable def t_spec_l01Dec : List (Nat × Ctr) := []
noncomputable def c_spec_l01Dec : Ctr := mkF t_spec_l01Dec ir25 [.bor]
theorem s_spec_l01Dec : Sound Tryz.prog 25 c_spec_l01Dec := mkF_sound _ rfl snd_nil (by kernel_rfl : chkFn Tryz.prog 25 ir25 ir25_v = true)
theorem M_spec_l01Dec : c_spec_l01Dec.modes = [.bor] := rfl
theorem Fl_spec_l01Dec : c_spec_l01Dec.flat = true := rfl
attribute [go_sem] M_spec_l01Dec Fl_spec_l01Dec
def E_spec_l01Dec_l1 (n : Int) : ((List UInt8) × Int) → St
  | (out, k) => ⟨[.int .i64 n, .any, .own 3200000, .int .i64 k, .any], [], [(3200000, ⟨1, List.map byteAV out⟩)], true⟩
def R_spec_l01Dec_l1 (n : Int) (y : (List UInt8)) : Res := (.exit 0, ⟨[.int .i64 n, .any, .own 3200000, .any, .any], [], [(3200000, ⟨1, List.map byteAV y⟩)], true⟩)
theorem spec_l01Dec_l1_ex {n : Int} {sgm_ : (List UInt8) × Int} {rho_ : (List UInt8)} (h : whileE (spec_l01Dec_l1 n) sgm_ = some rho_) : ∃ L0, ∀ L, L0 ≤ L → iter (exec (look t_spec_l01Dec) L ir25_b0) ir25_k0 ir25_o0 ir25_r0 L (E_spec_l01Dec_l1 n sgm_) = R_spec_l01Dec_l1 n rho_ := by
  refine loop_ex (E := E_spec_l01Dec_l1 n) (R := R_spec_l01Dec_l1 n) (fun y => by first | (intro c; cases c) | (rcases y with y | y <;> (intro c; cases c)) | (rcases y with y | y | y <;> (intro c; cases c))) ?_ h
  clear h
  rintro ⟨out, k⟩ o_ h
  dsimp only [spec_l01Dec_l1] at h
  rcases it_some h with ⟨hk1, h⟩ | ⟨hk1, h⟩
  · try simp only [go_sem, n1, n2, n3, n4] at hk1
    all_goals
    obtain ⟨hk2, h⟩ := ck_some h
    try simp only [go_sem, n1, n2, n3, n4, hk1] at hk2
    all_goals
    rcases it_some h with ⟨hk3, h⟩ | ⟨hk3, h⟩
    · try simp only [go_sem, n1, n2, n3, n4, hk1, hk2] at hk3
      all_goals
      obtain ⟨hk4, h⟩ := ck_some h
      try simp only [go_sem, n1, n2, n3, n4, hk1, hk2, hk3] at hk4
      all_goals
      obtain rfl := so_some h
      refine ⟨0, fun L hL => ?_⟩
      simp only [go_sem, ir25, E_spec_l01Dec_l1, R_spec_l01Dec_l1, ir25_b0, ir25_k0, ir25_o0, ir25_r0, hk1, hk2, hk3, hk4]
    · try simp only [go_sem, n1, n2, n3, n4, hk1, hk2] at hk3
      all_goals
      obtain ⟨hk5, h⟩ := ck_some h
      try simp only [go_sem, n1, n2, n3, n4, hk1, hk2, hk3] at hk5
      all_goals
      obtain rfl := so_some h
      refine ⟨0, fun L hL => ?_⟩
      simp only [go_sem, ir25, E_spec_l01Dec_l1, R_spec_l01Dec_l1, ir25_b0, ir25_k0, ir25_o0, ir25_r0, hk1, hk2, hk3, hk5]
  · try simp only [go_sem, n1, n2, n3, n4] at hk1
    all_goals
    obtain rfl := so_some h
    refine ⟨0, fun L hL => ?_⟩
    simp only [go_sem, ir25, E_spec_l01Dec_l1, R_spec_l01Dec_l1, ir25_b0, ir25_k0, ir25_o0, ir25_r0, hk1]

theorem Fs_spec_l01Dec {n : Int} {y_ : (List UInt8)} (h : spec_l01Dec n = some y_) : c_spec_l01Dec.F [.int .i64 n] = ⟨true, .str y_, [.any]⟩ := by
  refine mkF_E rfl ?_
  dsimp only [spec_l01Dec] at h
  obtain ⟨y_6, hk6, h⟩ := bd_some h
  obtain ⟨Lhk6, ehk6⟩ := spec_l01Dec_l1_ex hk6
  rcases it_some h with ⟨hk7, h⟩ | ⟨hk7, h⟩
  · try simp only [go_sem, n1, n2, n3, n4] at hk7
    all_goals
    obtain rfl := so_some h
    refine ⟨Lhk6, fun L hL => ?_⟩
    have ehk6 := ehk6 L (by omega)
    try simp only [go_sem, E_spec_l01Dec_l1, R_spec_l01Dec_l1, ir25_k0, ir25_o0, ir25_r0, hk7] at ehk6
    simp only [go_sem, ir25, E_spec_l01Dec_l1, R_spec_l01Dec_l1, ir25_k0, ir25_o0, ir25_r0, hk7, ehk6]
  · try simp only [go_sem, n1, n2, n3, n4] at hk7
    all_goals
    rcases it_some h with ⟨hk8, h⟩ | ⟨hk8, h⟩
    · try simp only [go_sem, n1, n2, n3, n4, hk7] at hk8
      all_goals
      obtain ⟨hk9, h⟩ := ck_some h
      try simp only [go_sem, n1, n2, n3, n4, hk7, hk8] at hk9
      all_goals
      obtain rfl := so_some h
      refine ⟨Lhk6, fun L hL => ?_⟩
      have ehk6 := ehk6 L (by omega)
      try simp only [go_sem, E_spec_l01Dec_l1, R_spec_l01Dec_l1, ir25_k0, ir25_o0, ir25_r0, hk7, hk8, hk9] at ehk6
      simp only [go_sem, ir25, E_spec_l01Dec_l1, R_spec_l01Dec_l1, ir25_k0, ir25_o0, ir25_r0, hk7, hk8, hk9, ehk6]
    · try simp only [go_sem, n1, n2, n3, n4, hk7] at hk8
      all_goals
      obtain rfl := so_some h
      refine ⟨Lhk6, fun L hL => ?_⟩
      have ehk6 := ehk6 L (by omega)
      try simp only [go_sem, E_spec_l01Dec_l1, R_spec_l01Dec_l1, ir25_k0, ir25_o0, ir25_r0, hk7, hk8] at ehk6
      simp only [go_sem, ir25, E_spec_l01Dec_l1, R_spec_l01Dec_l1, ir25_k0, ir25_o0, ir25_r0, hk7, hk8, ehk6]


def ir71_v : List Nat := [0, 2]
def ir71 : AFn := ⟨1, 2, .seq (.region false [
    ⟨.var 1, 2, none, .mov (.c (.str []))⟩])
 (.seq (.anyo 18 [
    ⟨.slot 0, 3, none, .mov (.v 0)⟩,
    ⟨.slot 1, 4, none, .nilck (.s 0)⟩,
    ⟨.slot 2, 5, none, .fldAddr 0 (.s 1)⟩,
    ⟨.slot 3, 6, none, .load false 1 (.s 2)⟩,
    ⟨.slot 4, 7, none, .callp 25 [(.s 3)]⟩,
    ⟨.slot 5, 8, none, .bin false .add (.s 4) (.c (.str [32]))⟩,
    ⟨.slot 6, 9, none, .mov (.v 0)⟩,
    ⟨.slot 7, 10, none, .nilck (.s 6)⟩,
    ⟨.slot 8, 11, none, .fldAddr 1 (.s 7)⟩,
    ⟨.slot 9, 12, none, .load false 1 (.s 8)⟩,
    ⟨.slot 10, 13, none, .bin false .add (.s 5) (.s 9)⟩,
    ⟨.slot 11, 14, none, .bin false .add (.s 10) (.c (.str [32]))⟩,
    ⟨.slot 12, 15, none, .mov (.v 0)⟩,
    ⟨.slot 13, 16, none, .nilck (.s 12)⟩,
    ⟨.slot 14, 17, none, .fldAddr 2 (.s 13)⟩,
    ⟨.slot 15, 18, none, .load false 1 (.s 14)⟩,
    ⟨.slot 16, 19, none, .callp 25 [(.s 15)]⟩,
    ⟨.slot 17, 20, none, .bin false .add (.s 11) (.s 16)⟩,
    ⟨.var 1, 2, none, .mov (.s 17)⟩] [] .skip)
 (.ret)), [.t 1]⟩
noncomputable def t_spec_l27Words : List (Nat × Ctr) := [(25, c_spec_l01Dec)]
theorem lk_spec_l27Words_25 : look t_spec_l27Words 25 = some c_spec_l01Dec := rfl
noncomputable def c_spec_l27Words : Ctr := mkF t_spec_l27Words ir71 [.bor]
theorem s_spec_l27Words : Sound Tryz.prog 71 c_spec_l27Words := mkF_sound _ rfl (snd_cons s_spec_l01Dec snd_nil) (by kernel_rfl : chkFn Tryz.prog 71 ir71 ir71_v = true)
theorem M_spec_l27Words : c_spec_l27Words.modes = [.bor] := rfl
theorem Fl_spec_l27Words : c_spec_l27Words.flat = true := rfl
attribute [go_sem] M_spec_l27Words Fl_spec_l27Words
attribute [go_sem] lk_spec_l27Words_25
theorem Fs_spec_l27Words {e_ : Entry} {y_ : (List UInt8)} (h : spec_l27Words e_ = some y_) : c_spec_l27Words.F [.ptr 3 [Entry_av e_] 0 0] = ⟨true, .str y_, [.any]⟩ := by
  refine mkF_E rfl ?_
  dsimp only [spec_l27Words] at h
  obtain ⟨y_1, hk1, h⟩ := bd_some h
  have fhk1 := Fs_spec_l01Dec hk1
  try simp only [go_sem] at fhk1
  obtain ⟨hk2, h⟩ := ck_some h
  try simp only [go_sem, n1, n2, n3, n4] at hk2
  all_goals
  obtain ⟨hk3, h⟩ := ck_some h
  try simp only [go_sem, n1, n2, n3, n4, hk2] at hk3
  all_goals
  obtain ⟨hk4, h⟩ := ck_some h
  try simp only [go_sem, n1, n2, n3, n4, hk2, hk3] at hk4
  all_goals
  obtain ⟨y_5, hk5, h⟩ := bd_some h
  have fhk5 := Fs_spec_l01Dec hk5
  try simp only [go_sem, hk2, hk3, hk4] at fhk5
  obtain ⟨hk6, h⟩ := ck_some h
  try simp only [go_sem, n1, n2, n3, n4, hk2, hk3, hk4] at hk6
  all_goals
  obtain rfl := so_some h
  refine ⟨0, fun L hL => ?_⟩
  simp only [go_sem, ir71, fhk1, hk2, hk3, hk4, fhk5, hk6]


def ir70_b0 : IR := .seq (.test false [
    ⟨.push, 10, none, .mov (.v 4)⟩,
    ⟨.push, 11, none, .mov (.v 1)⟩,
    ⟨.push, 12, none, .len true (.s 0)⟩,
    ⟨.push, 13, none, .bin false .lss (.s 2) (.s 0)⟩] (.s 0)
  (.skip)
  (.exit 0))
 (.seq (.block 1 (.region false [
     ⟨.push, 16, none, .mov (.v 3)⟩,
     ⟨.push, 17, none, .bin false .mul (.c (.int .i64 (31))) (.s 0)⟩,
     ⟨.push, 18, none, .mov (.v 1)⟩,
     ⟨.push, 19, none, .mov (.v 4)⟩,
     ⟨.push, 20, none, .ixStr (.s 1) (.s 0)⟩,
     ⟨.push, 21, none, .conv .i64 (.s 0)⟩,
     ⟨.push, 22, none, .bin false .add (.s 4) (.s 0)⟩,
     ⟨.push, 23, none, .bin false .rem (.s 0) (.c (.int .i64 (65521)))⟩,
     ⟨.var 3, 5, none, .mov (.s 0)⟩]))
 (.region false [
   ⟨.push, 14, none, .mov (.v 4)⟩,
   ⟨.push, 15, none, .bin false .add (.s 0) (.c (.int .i64 (1)))⟩,
   ⟨.var 4, 6, none, .mov (.s 0)⟩]))
def ir70_k0 : List Bool := [false, true, false, true, true]
def ir70_o0 : List Bool := [false, false, false, true, false]
def ir70_r0 : List Bool := [false, false, true, false, false]
def ir70_v : List Nat := [0, 1, 4, 5, 6]
def ir70 : AFn := ⟨2, 5, .seq (.region false [
    ⟨.var 2, 4, none, .mov (.c (.int .i64 (0)))⟩])
 (.seq (.region false [
    ⟨.push, 7, none, .mov (.v 0)⟩,
    ⟨.push, 8, none, .bin false .add (.s 0) (.c (.int .i64 (23)))⟩,
    ⟨.push, 9, none, .bin false .rem (.s 0) (.c (.int .i64 (65521)))⟩,
    ⟨.var 3, 5, none, .mov (.s 0)⟩])
 (.seq (.seq (.region false [
     ⟨.var 4, 6, none, .mov (.c (.int .i64 (0)))⟩])
  (.block 0 (.loop ir70_k0 ir70_o0 ir70_r0 ir70_b0)))
 (.seq (.region false [
    ⟨.push, 24, none, .mov (.v 3)⟩,
    ⟨.var 2, 4, none, .mov (.s 0)⟩])
 (.ret)))), [.t 2]⟩
noncomputable def t_spec_l27Stamp : List (Nat × Ctr) := []
noncomputable def c_spec_l27Stamp : Ctr := mkF t_spec_l27Stamp ir70 [.bor, .bor]
theorem s_spec_l27Stamp : Sound Tryz.prog 70 c_spec_l27Stamp := mkF_sound _ rfl snd_nil (by kernel_rfl : chkFn Tryz.prog 70 ir70 ir70_v = true)
theorem M_spec_l27Stamp : c_spec_l27Stamp.modes = [.bor, .bor] := rfl
theorem Fl_spec_l27Stamp : c_spec_l27Stamp.flat = true := rfl
attribute [go_sem] M_spec_l27Stamp Fl_spec_l27Stamp
def E_spec_l27Stamp_l1 (words : List UInt8) : (Int × Int) → St
  | (sum, i) => ⟨[.any, .str words, .any, .int .i64 sum, .int .i64 i], [], [], true⟩
def R_spec_l27Stamp_l1 (words : List UInt8) (y : Int) : Res := (.exit 0, ⟨[.any, .any, .any, .int .i64 y, .any], [], [], true⟩)
theorem spec_l27Stamp_l1_ex {words : List UInt8} {sgm_ : Int × Int} {rho_ : Int} (h : whileE (spec_l27Stamp_l1 words) sgm_ = some rho_) : ∃ L0, ∀ L, L0 ≤ L → iter (exec (look t_spec_l27Stamp) L ir70_b0) ir70_k0 ir70_o0 ir70_r0 L (E_spec_l27Stamp_l1 words sgm_) = R_spec_l27Stamp_l1 words rho_ := by
  refine loop_ex (E := E_spec_l27Stamp_l1 words) (R := R_spec_l27Stamp_l1 words) (fun y => by first | (intro c; cases c) | (rcases y with y | y <;> (intro c; cases c)) | (rcases y with y | y | y <;> (intro c; cases c))) ?_ h
  clear h
  rintro ⟨sum, i⟩ o_ h
  dsimp only [spec_l27Stamp_l1] at h
  rcases it_some h with ⟨hk2, h⟩ | ⟨hk2, h⟩
  · try simp only [go_sem, n1, n2, n3, n4] at hk2
    all_goals
    obtain ⟨hk3, h⟩ := ck_some h
    try simp only [go_sem, n1, n2, n3, n4, hk2] at hk3
    all_goals
    obtain ⟨hk4, h⟩ := ck_some h
    try simp only [go_sem, n1, n2, n3, n4, hk2, hk3] at hk4
    all_goals
    obtain rfl := so_some h
    refine ⟨0, fun L hL => ?_⟩
    simp only [go_sem, ir70, E_spec_l27Stamp_l1, R_spec_l27Stamp_l1, ir70_b0, ir70_k0, ir70_o0, ir70_r0, hk2, hk3, hk4]
  · try simp only [go_sem, n1, n2, n3, n4] at hk2
    all_goals
    obtain rfl := so_some h
    refine ⟨0, fun L hL => ?_⟩
    simp only [go_sem, ir70, E_spec_l27Stamp_l1, R_spec_l27Stamp_l1, ir70_b0, ir70_k0, ir70_o0, ir70_r0, hk2]

theorem Fs_spec_l27Stamp {before : Int} {words : List UInt8} {y_ : Int} (h : spec_l27Stamp before words = some y_) : c_spec_l27Stamp.F [.int .i64 before, .str words] = ⟨true, .int .i64 y_, [.any, .any]⟩ := by
  refine mkF_E rfl ?_
  dsimp only [spec_l27Stamp] at h
  obtain ⟨hk1, h⟩ := ck_some h
  try simp only [go_sem, n1, n2, n3, n4] at hk1
  all_goals
  obtain ⟨y_5, hk5, h⟩ := bd_some h
  obtain ⟨Lhk5, ehk5⟩ := spec_l27Stamp_l1_ex hk5
  obtain rfl := so_some h
  refine ⟨Lhk5, fun L hL => ?_⟩
  have ehk5 := ehk5 L (by omega)
  try simp only [go_sem, E_spec_l27Stamp_l1, R_spec_l27Stamp_l1, ir70_k0, ir70_o0, ir70_r0, hk1] at ehk5
  simp only [go_sem, ir70, E_spec_l27Stamp_l1, R_spec_l27Stamp_l1, ir70_k0, ir70_o0, ir70_r0, hk1, ehk5]


def ir72_v : List Nat := [0, 1, 4]
def ir72 : AFn := ⟨2, 3, .seq (.region false [
    ⟨.var 2, 4, none, .mov (.c (.str []))⟩])
 (.seq (.region false [
    ⟨.push, 5, none, .mov (.v 1)⟩,
    ⟨.push, 6, none, .call 71 [(.s 0)]⟩,
    ⟨.push, 7, none, .bin false .add (.s 0) (.c (.str [32]))⟩,
    ⟨.push, 8, none, .mov (.v 0)⟩,
    ⟨.push, 9, none, .call 25 [(.s 0)]⟩,
    ⟨.push, 10, none, .bin false .add (.s 2) (.s 0)⟩,
    ⟨.push, 11, none, .bin false .add (.s 0) (.c (.str [10]))⟩,
    ⟨.var 2, 4, none, .mov (.s 0)⟩])
 (.ret)), [.t 2]⟩
noncomputable def t_spec_l27Line : List (Nat × Ctr) := [(71, c_spec_l27Words), (25, c_spec_l01Dec)]
theorem lk_spec_l27Line_71 : look t_spec_l27Line 71 = some c_spec_l27Words := rfl
theorem lk_spec_l27Line_25 : look t_spec_l27Line 25 = some c_spec_l01Dec := rfl
noncomputable def c_spec_l27Line : Ctr := mkF t_spec_l27Line ir72 [.bor, .bor]
theorem s_spec_l27Line : Sound Tryz.prog 72 c_spec_l27Line := mkF_sound _ rfl (snd_cons s_spec_l27Words (snd_cons s_spec_l01Dec snd_nil)) (by kernel_rfl : chkFn Tryz.prog 72 ir72 ir72_v = true)
theorem M_spec_l27Line : c_spec_l27Line.modes = [.bor, .bor] := rfl
theorem Fl_spec_l27Line : c_spec_l27Line.flat = true := rfl
attribute [go_sem] M_spec_l27Line Fl_spec_l27Line
attribute [go_sem] lk_spec_l27Line_71 lk_spec_l27Line_25
theorem Fs_spec_l27Line {stamp : Int} {e_ : Entry} {y_ : (List UInt8)} (h : spec_l27Line stamp e_ = some y_) : c_spec_l27Line.F [.int .i64 stamp, .ptr 3 [Entry_av e_] 0 0] = ⟨true, .str y_, [.any, .any]⟩ := by
  refine mkF_E rfl ?_
  dsimp only [spec_l27Line] at h
  obtain ⟨y_1, hk1, h⟩ := bd_some h
  have fhk1 := Fs_spec_l27Words hk1
  try simp only [go_sem] at fhk1
  obtain ⟨hk2, h⟩ := ck_some h
  try simp only [go_sem, n1, n2, n3, n4] at hk2
  all_goals
  obtain ⟨y_3, hk3, h⟩ := bd_some h
  have fhk3 := Fs_spec_l01Dec hk3
  try simp only [go_sem, hk2] at fhk3
  obtain ⟨hk4, h⟩ := ck_some h
  try simp only [go_sem, n1, n2, n3, n4, hk2] at hk4
  all_goals
  obtain ⟨hk5, h⟩ := ck_some h
  try simp only [go_sem, n1, n2, n3, n4, hk2, hk4] at hk5
  all_goals
  obtain rfl := so_some h
  refine ⟨0, fun L hL => ?_⟩
  simp only [go_sem, ir72, fhk1, hk2, fhk3, hk4, hk5]


def ir74_v : List Nat := [0, 2]
def ir74 : AFn := ⟨1, 2, .seq (.region false [
    ⟨.var 1, 2, none, .mov (.c (.bool false))⟩])
 (.seq (.region false [
    ⟨.push, 3, none, .mov (.v 0)⟩,
    ⟨.push, 4, none, .bin false .geq (.s 0) (.c (.int .u8 (48)))⟩,
    ⟨.push, 5, none, .mov (.s 0)⟩,
    ⟨.push, 6, (some ((.s 0), true)), .mov (.v 0)⟩,
    ⟨.push, 7, (some ((.s 1), true)), .bin false .leq (.s 0) (.c (.int .u8 (57)))⟩,
    ⟨.push, 8, none, .pick (.s 2) (.s 0) (.c (.bool false))⟩,
    ⟨.var 1, 2, none, .mov (.s 0)⟩])
 (.ret)), [.t 1]⟩
noncomputable def t_spec_l01Digit : List (Nat × Ctr) := []
noncomputable def c_spec_l01Digit : Ctr := mkF t_spec_l01Digit ir74 [.bor]
theorem s_spec_l01Digit : Sound Tryz.prog 74 c_spec_l01Digit := mkF_sound _ rfl snd_nil (by kernel_rfl : chkFn Tryz.prog 74 ir74 ir74_v = true)
theorem M_spec_l01Digit : c_spec_l01Digit.modes = [.bor] := rfl
theorem Fl_spec_l01Digit : c_spec_l01Digit.flat = true := rfl
attribute [go_sem] M_spec_l01Digit Fl_spec_l01Digit
theorem Fs_spec_l01Digit {c : UInt8} {y_ : Bool} (h : spec_l01Digit c = some y_) : c_spec_l01Digit.F [.int .u8 (c.toNat : Int)] = ⟨true, .bool y_, [.any]⟩ := by
  refine mkF_E rfl ?_
  dsimp only [spec_l01Digit] at h
  obtain rfl := so_some h
  refine ⟨0, fun L hL => ?_⟩
  simp only [go_sem, ir74]


def ir67_b0 : IR := .seq (.test false [
    ⟨.push, 25, none, .mov (.v 5)⟩,
    ⟨.push, 26, none, .mov (.v 3)⟩,
    ⟨.push, 27, none, .len true (.s 0)⟩,
    ⟨.push, 28, none, .bin false .lss (.s 2) (.s 0)⟩] (.s 0)
  (.skip)
  (.exit 0))
 (.seq (.block 1 (.seq (.test false [
      ⟨.push, 31, none, .mov (.v 3)⟩,
      ⟨.push, 32, none, .mov (.v 5)⟩,
      ⟨.push, 33, none, .ixStr (.s 1) (.s 0)⟩,
      ⟨.push, 34, none, .call 74 [(.s 0)]⟩,
      ⟨.push, 35, none, .un .not (.s 0)⟩] (.s 0)
    (.seq (.region false [
        ⟨.var 1, 2, none, .mov (.c (.int .i64 (0)))⟩,
        ⟨.var 2, 3, none, .mov (.c (.bool false))⟩])
     (.ret))
    (.skip))
   (.region false [
     ⟨.push, 36, none, .mov (.v 4)⟩,
     ⟨.push, 37, none, .bin false .mul (.c (.int .i64 (10))) (.s 0)⟩,
     ⟨.push, 38, none, .mov (.v 3)⟩,
     ⟨.push, 39, none, .mov (.v 5)⟩,
     ⟨.push, 40, none, .ixStr (.s 1) (.s 0)⟩,
     ⟨.push, 41, none, .bin false .sub (.s 0) (.c (.int .u8 (48)))⟩,
     ⟨.push, 42, none, .conv .i64 (.s 0)⟩,
     ⟨.push, 43, none, .bin false .add (.s 5) (.s 0)⟩,
     ⟨.var 4, 5, none, .mov (.s 0)⟩])))
 (.region false [
   ⟨.push, 29, none, .mov (.v 5)⟩,
   ⟨.push, 30, none, .bin false .add (.s 0) (.c (.int .i64 (1)))⟩,
   ⟨.var 5, 6, none, .mov (.s 0)⟩]))
def ir67_k0 : List Bool := [true, false, false, true, true, true]
def ir67_o0 : List Bool := [true, false, false, true, true, false]
def ir67_r0 : List Bool := [false, true, true, false, false, false]
def ir67_v : List Nat := [0, 2, 3, 4, 5, 6]
def ir67 : AFn := ⟨1, 6, .seq (.region false [
    ⟨.var 1, 2, none, .mov (.c (.int .i64 (0)))⟩,
    ⟨.var 2, 3, none, .mov (.c (.bool false))⟩])
 (.seq (.region false [
    ⟨.push, 7, none, .mov (.v 0)⟩,
    ⟨.var 3, 4, none, .mov (.s 0)⟩])
 (.seq (.test false [
    ⟨.push, 8, none, .mov (.v 3)⟩,
    ⟨.push, 9, none, .bin false .neq (.s 0) (.c (.str []))⟩,
    ⟨.push, 10, none, .mov (.s 0)⟩,
    ⟨.push, 11, (some ((.s 0), true)), .mov (.v 3)⟩,
    ⟨.push, 12, (some ((.s 1), true)), .ixStr (.s 0) (.c (.int .i64 (0)))⟩,
    ⟨.push, 13, (some ((.s 2), true)), .bin false .eql (.s 0) (.c (.int .u8 (45)))⟩,
    ⟨.push, 14, none, .pick (.s 3) (.s 0) (.c (.bool false))⟩] (.s 0)
  (.region false [
     ⟨.push, 15, none, .mov (.v 3)⟩,
     ⟨.push, 16, none, .slice 0 (.s 0) (some (.c (.int .i64 (1)))) none⟩,
     ⟨.var 3, 4, none, .mov (.s 0)⟩])
  (.skip))
 (.seq (.test false [
    ⟨.push, 17, none, .mov (.v 3)⟩,
    ⟨.push, 18, none, .len true (.s 0)⟩,
    ⟨.push, 19, none, .bin false .lss (.s 0) (.c (.int .i64 (1)))⟩,
    ⟨.push, 20, none, .mov (.s 0)⟩,
    ⟨.push, 21, (some ((.s 0), false)), .mov (.v 3)⟩,
    ⟨.push, 22, (some ((.s 1), false)), .len true (.s 0)⟩,
    ⟨.push, 23, (some ((.s 2), false)), .bin false .gtr (.s 0) (.c (.int .i64 (18)))⟩,
    ⟨.push, 24, none, .pick (.s 3) (.c (.bool true)) (.s 0)⟩] (.s 0)
  (.seq (.region false [
      ⟨.var 1, 2, none, .mov (.c (.int .i64 (0)))⟩,
      ⟨.var 2, 3, none, .mov (.c (.bool false))⟩])
   (.ret))
  (.skip))
 (.seq (.region false [
    ⟨.var 4, 5, none, .mov (.c (.int .i64 (0)))⟩])
 (.seq (.seq (.region false [
     ⟨.var 5, 6, none, .mov (.c (.int .i64 (0)))⟩])
  (.block 0 (.loop ir67_k0 ir67_o0 ir67_r0 ir67_b0)))
 (.seq (.test false [
    ⟨.push, 44, none, .mov (.v 3)⟩,
    ⟨.push, 45, none, .len true (.s 0)⟩,
    ⟨.push, 46, none, .mov (.v 0)⟩,
    ⟨.push, 47, none, .len true (.s 0)⟩,
    ⟨.push, 48, none, .bin false .lss (.s 2) (.s 0)⟩] (.s 0)
  (.region false [
     ⟨.push, 49, none, .mov (.v 4)⟩,
     ⟨.push, 50, none, .un .neg (.s 0)⟩,
     ⟨.var 4, 5, none, .mov (.s 0)⟩])
  (.skip))
 (.seq (.test false [
    ⟨.push, 51, none, .mov (.v 4)⟩,
    ⟨.push, 52, none, .call 25 [(.s 0)]⟩,
    ⟨.push, 53, none, .mov (.v 0)⟩,
    ⟨.push, 54, none, .bin false .neq (.s 1) (.s 0)⟩] (.s 0)
  (.seq (.region false [
      ⟨.var 1, 2, none, .mov (.c (.int .i64 (0)))⟩,
      ⟨.var 2, 3, none, .mov (.c (.bool false))⟩])
   (.ret))
  (.skip))
 (.seq (.region false [
    ⟨.push, 55, none, .mov (.v 4)⟩,
    ⟨.var 1, 2, none, .mov (.s 0)⟩,
    ⟨.var 2, 3, none, .mov (.c (.bool true))⟩])
 (.ret))))))))), [.t 1, .t 2]⟩
noncomputable def t_spec_l01Number : List (Nat × Ctr) := [(74, c_spec_l01Digit), (25, c_spec_l01Dec)]
theorem lk_spec_l01Number_74 : look t_spec_l01Number 74 = some c_spec_l01Digit := rfl
theorem lk_spec_l01Number_25 : look t_spec_l01Number 25 = some c_spec_l01Dec := rfl
noncomputable def c_spec_l01Number : Ctr := mkF t_spec_l01Number ir67 [.bor]
theorem s_spec_l01Number : Sound Tryz.prog 67 c_spec_l01Number := mkF_sound _ rfl (snd_cons s_spec_l01Digit (snd_cons s_spec_l01Dec snd_nil)) (by kernel_rfl : chkFn Tryz.prog 67 ir67 ir67_v = true)
theorem M_spec_l01Number : c_spec_l01Number.modes = [.bor] := rfl
theorem Fl_spec_l01Number : c_spec_l01Number.flat = true := rfl
attribute [go_sem] M_spec_l01Number Fl_spec_l01Number
attribute [go_sem] lk_spec_l01Number_74 lk_spec_l01Number_25
def E_spec_l01Number_l1 (s_ : List UInt8) (t : List UInt8) : (Int × Int) → St
  | (n, i) => ⟨[.str s_, .any, .any, .str t, .int .i64 n, .int .i64 i], [], [], true⟩
def R_spec_l01Number_l1 (s_ : List UInt8) (t : List UInt8) : (Int ⊕ (Int × Bool)) → Res
  | .inl y => (.exit 0, ⟨[.str s_, .any, .any, .str t, .int .i64 y, .any], [], [], true⟩)
  | .inr y => (.ret, ⟨[.any, .int .i64 y.1, .bool y.2, .any, .any, .any], [], [], true⟩)
theorem spec_l01Number_l1_ex {s_ : List UInt8} {t : List UInt8} {sgm_ : Int × Int} {rho_ : Int ⊕ (Int × Bool)} (h : whileE (spec_l01Number_l1 s_ t) sgm_ = some rho_) : ∃ L0, ∀ L, L0 ≤ L → iter (exec (look t_spec_l01Number) L ir67_b0) ir67_k0 ir67_o0 ir67_r0 L (E_spec_l01Number_l1 s_ t sgm_) = R_spec_l01Number_l1 s_ t rho_ := by
  refine loop_ex (E := E_spec_l01Number_l1 s_ t) (R := R_spec_l01Number_l1 s_ t) (fun y => by first | (intro c; cases c) | (rcases y with y | y <;> (intro c; cases c)) | (rcases y with y | y | y <;> (intro c; cases c))) ?_ h
  clear h
  rintro ⟨n, i⟩ o_ h
  dsimp only [spec_l01Number_l1] at h
  rcases it_some h with ⟨hk5, h⟩ | ⟨hk5, h⟩
  · try simp only [go_sem, n1, n2, n3, n4] at hk5
    all_goals
    obtain ⟨hk6, h⟩ := ck_some h
    try simp only [go_sem, n1, n2, n3, n4, hk5] at hk6
    all_goals
    obtain ⟨y_7, hk7, h⟩ := bd_some h
    have fhk7 := Fs_spec_l01Digit hk7
    try simp only [go_sem, hk5, hk6] at fhk7
    rcases it_some h with ⟨hk8, h⟩ | ⟨hk8, h⟩
    · try simp only [go_sem, n1, n2, n3, n4, hk5, hk6] at hk8
      all_goals
      obtain rfl := so_some h
      refine ⟨0, fun L hL => ?_⟩
      simp only [go_sem, ir67, E_spec_l01Number_l1, R_spec_l01Number_l1, ir67_b0, ir67_k0, ir67_o0, ir67_r0, hk5, hk6, fhk7, hk8]
    · try simp only [go_sem, n1, n2, n3, n4, hk5, hk6] at hk8
      all_goals
      obtain rfl := so_some h
      refine ⟨0, fun L hL => ?_⟩
      simp only [go_sem, ir67, E_spec_l01Number_l1, R_spec_l01Number_l1, ir67_b0, ir67_k0, ir67_o0, ir67_r0, hk5, hk6, fhk7, hk8]
  · try simp only [go_sem, n1, n2, n3, n4] at hk5
    all_goals
    obtain rfl := so_some h
    refine ⟨0, fun L hL => ?_⟩
    simp only [go_sem, ir67, E_spec_l01Number_l1, R_spec_l01Number_l1, ir67_b0, ir67_k0, ir67_o0, ir67_r0, hk5]

def E_spec_l01Number_l2 (s_ : List UInt8) (t : List UInt8) : (Int × Int) → St
  | (n, i) => ⟨[.str s_, .any, .any, .str t, .int .i64 n, .int .i64 i], [], [], true⟩
def R_spec_l01Number_l2 (s_ : List UInt8) (t : List UInt8) : (Int ⊕ (Int × Bool)) → Res
  | .inl y => (.exit 0, ⟨[.str s_, .any, .any, .str t, .int .i64 y, .any], [], [], true⟩)
  | .inr y => (.ret, ⟨[.any, .int .i64 y.1, .bool y.2, .any, .any, .any], [], [], true⟩)
theorem spec_l01Number_l2_ex {s_ : List UInt8} {t : List UInt8} {sgm_ : Int × Int} {rho_ : Int ⊕ (Int × Bool)} (h : whileE (spec_l01Number_l2 s_ t) sgm_ = some rho_) : ∃ L0, ∀ L, L0 ≤ L → iter (exec (look t_spec_l01Number) L ir67_b0) ir67_k0 ir67_o0 ir67_r0 L (E_spec_l01Number_l2 s_ t sgm_) = R_spec_l01Number_l2 s_ t rho_ := by
  refine loop_ex (E := E_spec_l01Number_l2 s_ t) (R := R_spec_l01Number_l2 s_ t) (fun y => by first | (intro c; cases c) | (rcases y with y | y <;> (intro c; cases c)) | (rcases y with y | y | y <;> (intro c; cases c))) ?_ h
  clear h
  rintro ⟨n, i⟩ o_ h
  dsimp only [spec_l01Number_l2] at h
  rcases it_some h with ⟨hk16, h⟩ | ⟨hk16, h⟩
  · try simp only [go_sem, n1, n2, n3, n4] at hk16
    all_goals
    obtain ⟨hk17, h⟩ := ck_some h
    try simp only [go_sem, n1, n2, n3, n4, hk16] at hk17
    all_goals
    obtain ⟨y_18, hk18, h⟩ := bd_some h
    have fhk18 := Fs_spec_l01Digit hk18
    try simp only [go_sem, hk16, hk17] at fhk18
    rcases it_some h with ⟨hk19, h⟩ | ⟨hk19, h⟩
    · try simp only [go_sem, n1, n2, n3, n4, hk16, hk17] at hk19
      all_goals
      obtain rfl := so_some h
      refine ⟨0, fun L hL => ?_⟩
      simp only [go_sem, ir67, E_spec_l01Number_l2, R_spec_l01Number_l2, ir67_b0, ir67_k0, ir67_o0, ir67_r0, E_spec_l01Number_l1, R_spec_l01Number_l1, ir67_k0, ir67_o0, ir67_r0, hk16, hk17, fhk18, hk19]
    · try simp only [go_sem, n1, n2, n3, n4, hk16, hk17] at hk19
      all_goals
      obtain rfl := so_some h
      refine ⟨0, fun L hL => ?_⟩
      simp only [go_sem, ir67, E_spec_l01Number_l2, R_spec_l01Number_l2, ir67_b0, ir67_k0, ir67_o0, ir67_r0, E_spec_l01Number_l1, R_spec_l01Number_l1, ir67_k0, ir67_o0, ir67_r0, hk16, hk17, fhk18, hk19]
  · try simp only [go_sem, n1, n2, n3, n4] at hk16
    all_goals
    obtain rfl := so_some h
    refine ⟨0, fun L hL => ?_⟩
    simp only [go_sem, ir67, E_spec_l01Number_l2, R_spec_l01Number_l2, ir67_b0, ir67_k0, ir67_o0, ir67_r0, E_spec_l01Number_l1, R_spec_l01Number_l1, ir67_k0, ir67_o0, ir67_r0, hk16]

theorem Fs_spec_l01Number {s_ : List UInt8} {y_ : Int × Bool} (h : spec_l01Number s_ = some y_) : c_spec_l01Number.F [.str s_] = ⟨true, .tup [.int .i64 y_.1, .bool y_.2], [.any]⟩ := by
  refine mkF_E rfl ?_
  dsimp only [spec_l01Number] at h
  obtain ⟨hk1, h⟩ := ck_some h
  rcases or_split hk1 with ⟨ghk1, hk1⟩ | ghk1
  · try simp only [go_sem, n1, n2, n3, n4] at ghk1
    all_goals
    try simp only [go_sem, n1, n2, n3, n4, ghk1] at hk1
    all_goals
    rcases it_some h with ⟨hk2, h⟩ | ⟨hk2, h⟩
    · try simp only [go_sem, n1, n2, n3, n4, ghk1, hk1] at hk2
      all_goals
      obtain ⟨hk3, h⟩ := ck_some h
      try simp only [go_sem, n1, n2, n3, n4, ghk1, hk1, hk2] at hk3
      all_goals
      rcases it_some h with ⟨hk4, h⟩ | ⟨hk4, h⟩
      · try simp only [go_sem, n1, n2, n3, n4, ghk1, hk1, hk2, hk3] at hk4
        all_goals
        obtain rfl := so_some h
        refine ⟨0, fun L hL => ?_⟩
        simp only [go_sem, ir67, E_spec_l01Number_l1, R_spec_l01Number_l1, ir67_k0, ir67_o0, ir67_r0, E_spec_l01Number_l2, R_spec_l01Number_l2, ir67_k0, ir67_o0, ir67_r0, ghk1, hk1, hk2, hk3, hk4]
      · try simp only [go_sem, n1, n2, n3, n4, ghk1, hk1, hk2, hk3] at hk4
        all_goals
        obtain ⟨y_9, hk9, h⟩ := bd_some h
        obtain ⟨Lhk9, ehk9⟩ := spec_l01Number_l1_ex hk9
        rcases y_9 with y_9a | y_9b
        · dsimp only at h
          rcases it_some h with ⟨hk10, h⟩ | ⟨hk10, h⟩
          · try simp only [go_sem, n1, n2, n3, n4, ghk1, hk1, hk2, hk3, hk4] at hk10
            all_goals
            obtain ⟨y_11, hk11, h⟩ := bd_some h
            have fhk11 := Fs_spec_l01Dec hk11
            try simp only [go_sem, ghk1, hk1, hk2, hk3, hk4, hk10] at fhk11
            rcases it_some h with ⟨hk12, h⟩ | ⟨hk12, h⟩
            · try simp only [go_sem, n1, n2, n3, n4, ghk1, hk1, hk2, hk3, hk4, hk10] at hk12
              all_goals
              obtain rfl := so_some h
              refine ⟨Lhk9, fun L hL => ?_⟩
              have ehk9 := ehk9 L (by omega)
              try simp only [go_sem, E_spec_l01Number_l1, R_spec_l01Number_l1, ir67_k0, ir67_o0, ir67_r0, E_spec_l01Number_l2, R_spec_l01Number_l2, ir67_k0, ir67_o0, ir67_r0, ghk1, hk1, hk2, hk3, hk4, hk10, hk12] at ehk9
              simp only [go_sem, ir67, E_spec_l01Number_l1, R_spec_l01Number_l1, ir67_k0, ir67_o0, ir67_r0, E_spec_l01Number_l2, R_spec_l01Number_l2, ir67_k0, ir67_o0, ir67_r0, ghk1, hk1, hk2, hk3, hk4, hk10, fhk11, hk12, ehk9]
            · try simp only [go_sem, n1, n2, n3, n4, ghk1, hk1, hk2, hk3, hk4, hk10] at hk12
              all_goals
              obtain rfl := so_some h
              refine ⟨Lhk9, fun L hL => ?_⟩
              have ehk9 := ehk9 L (by omega)
              try simp only [go_sem, E_spec_l01Number_l1, R_spec_l01Number_l1, ir67_k0, ir67_o0, ir67_r0, E_spec_l01Number_l2, R_spec_l01Number_l2, ir67_k0, ir67_o0, ir67_r0, ghk1, hk1, hk2, hk3, hk4, hk10, hk12] at ehk9
              simp only [go_sem, ir67, E_spec_l01Number_l1, R_spec_l01Number_l1, ir67_k0, ir67_o0, ir67_r0, E_spec_l01Number_l2, R_spec_l01Number_l2, ir67_k0, ir67_o0, ir67_r0, ghk1, hk1, hk2, hk3, hk4, hk10, fhk11, hk12, ehk9]
          · try simp only [go_sem, n1, n2, n3, n4, ghk1, hk1, hk2, hk3, hk4] at hk10
            all_goals
            obtain ⟨y_13, hk13, h⟩ := bd_some h
            have fhk13 := Fs_spec_l01Dec hk13
            try simp only [go_sem, ghk1, hk1, hk2, hk3, hk4, hk10] at fhk13
            rcases it_some h with ⟨hk14, h⟩ | ⟨hk14, h⟩
            · try simp only [go_sem, n1, n2, n3, n4, ghk1, hk1, hk2, hk3, hk4, hk10] at hk14
              all_goals
              obtain rfl := so_some h
              refine ⟨Lhk9, fun L hL => ?_⟩
              have ehk9 := ehk9 L (by omega)
              try simp only [go_sem, E_spec_l01Number_l1, R_spec_l01Number_l1, ir67_k0, ir67_o0, ir67_r0, E_spec_l01Number_l2, R_spec_l01Number_l2, ir67_k0, ir67_o0, ir67_r0, ghk1, hk1, hk2, hk3, hk4, hk10, hk14] at ehk9
              simp only [go_sem, ir67, E_spec_l01Number_l1, R_spec_l01Number_l1, ir67_k0, ir67_o0, ir67_r0, E_spec_l01Number_l2, R_spec_l01Number_l2, ir67_k0, ir67_o0, ir67_r0, ghk1, hk1, hk2, hk3, hk4, hk10, fhk13, hk14, ehk9]
            · try simp only [go_sem, n1, n2, n3, n4, ghk1, hk1, hk2, hk3, hk4, hk10] at hk14
              all_goals
              obtain rfl := so_some h
              refine ⟨Lhk9, fun L hL => ?_⟩
              have ehk9 := ehk9 L (by omega)
              try simp only [go_sem, E_spec_l01Number_l1, R_spec_l01Number_l1, ir67_k0, ir67_o0, ir67_r0, E_spec_l01Number_l2, R_spec_l01Number_l2, ir67_k0, ir67_o0, ir67_r0, ghk1, hk1, hk2, hk3, hk4, hk10, hk14] at ehk9
              simp only [go_sem, ir67, E_spec_l01Number_l1, R_spec_l01Number_l1, ir67_k0, ir67_o0, ir67_r0, E_spec_l01Number_l2, R_spec_l01Number_l2, ir67_k0, ir67_o0, ir67_r0, ghk1, hk1, hk2, hk3, hk4, hk10, fhk13, hk14, ehk9]
        · dsimp only at h
          obtain rfl := so_some h
          refine ⟨Lhk9, fun L hL => ?_⟩
          have ehk9 := ehk9 L (by omega)
          try simp only [go_sem, E_spec_l01Number_l1, R_spec_l01Number_l1, ir67_k0, ir67_o0, ir67_r0, E_spec_l01Number_l2, R_spec_l01Number_l2, ir67_k0, ir67_o0, ir67_r0, ghk1, hk1, hk2, hk3, hk4] at ehk9
          simp only [go_sem, ir67, E_spec_l01Number_l1, R_spec_l01Number_l1, ir67_k0, ir67_o0, ir67_r0, E_spec_l01Number_l2, R_spec_l01Number_l2, ir67_k0, ir67_o0, ir67_r0, ghk1, hk1, hk2, hk3, hk4, ehk9]
    · try simp only [go_sem, n1, n2, n3, n4, ghk1, hk1] at hk2
      all_goals
      rcases it_some h with ⟨hk15, h⟩ | ⟨hk15, h⟩
      · try simp only [go_sem, n1, n2, n3, n4, ghk1, hk1, hk2] at hk15
        all_goals
        obtain rfl := so_some h
        refine ⟨0, fun L hL => ?_⟩
        simp only [go_sem, ir67, E_spec_l01Number_l1, R_spec_l01Number_l1, ir67_k0, ir67_o0, ir67_r0, E_spec_l01Number_l2, R_spec_l01Number_l2, ir67_k0, ir67_o0, ir67_r0, ghk1, hk1, hk2, hk15]
      · try simp only [go_sem, n1, n2, n3, n4, ghk1, hk1, hk2] at hk15
        all_goals
        obtain ⟨y_20, hk20, h⟩ := bd_some h
        obtain ⟨Lhk20, ehk20⟩ := spec_l01Number_l2_ex hk20
        rcases y_20 with y_20a | y_20b
        · dsimp only at h
          rcases it_some h with ⟨hk21, h⟩ | ⟨hk21, h⟩
          · try simp only [go_sem, n1, n2, n3, n4, ghk1, hk1, hk2, hk15] at hk21
            all_goals
            obtain ⟨y_22, hk22, h⟩ := bd_some h
            have fhk22 := Fs_spec_l01Dec hk22
            try simp only [go_sem, ghk1, hk1, hk2, hk15, hk21] at fhk22
            rcases it_some h with ⟨hk23, h⟩ | ⟨hk23, h⟩
            · try simp only [go_sem, n1, n2, n3, n4, ghk1, hk1, hk2, hk15, hk21] at hk23
              all_goals
              obtain rfl := so_some h
              refine ⟨Lhk20, fun L hL => ?_⟩
              have ehk20 := ehk20 L (by omega)
              try simp only [go_sem, E_spec_l01Number_l1, R_spec_l01Number_l1, ir67_k0, ir67_o0, ir67_r0, E_spec_l01Number_l2, R_spec_l01Number_l2, ir67_k0, ir67_o0, ir67_r0, ghk1, hk1, hk2, hk15, hk21, hk23] at ehk20
              simp only [go_sem, ir67, E_spec_l01Number_l1, R_spec_l01Number_l1, ir67_k0, ir67_o0, ir67_r0, E_spec_l01Number_l2, R_spec_l01Number_l2, ir67_k0, ir67_o0, ir67_r0, ghk1, hk1, hk2, hk15, hk21, fhk22, hk23, ehk20]
            · try simp only [go_sem, n1, n2, n3, n4, ghk1, hk1, hk2, hk15, hk21] at hk23
              all_goals
              obtain rfl := so_some h
              refine ⟨Lhk20, fun L hL => ?_⟩
              have ehk20 := ehk20 L (by omega)
              try simp only [go_sem, E_spec_l01Number_l1, R_spec_l01Number_l1, ir67_k0, ir67_o0, ir67_r0, E_spec_l01Number_l2, R_spec_l01Number_l2, ir67_k0, ir67_o0, ir67_r0, ghk1, hk1, hk2, hk15, hk21, hk23] at ehk20
              simp only [go_sem, ir67, E_spec_l01Number_l1, R_spec_l01Number_l1, ir67_k0, ir67_o0, ir67_r0, E_spec_l01Number_l2, R_spec_l01Number_l2, ir67_k0, ir67_o0, ir67_r0, ghk1, hk1, hk2, hk15, hk21, fhk22, hk23, ehk20]
          · try simp only [go_sem, n1, n2, n3, n4, ghk1, hk1, hk2, hk15] at hk21
            all_goals
            obtain ⟨y_24, hk24, h⟩ := bd_some h
            have fhk24 := Fs_spec_l01Dec hk24
            try simp only [go_sem, ghk1, hk1, hk2, hk15, hk21] at fhk24
            rcases it_some h with ⟨hk25, h⟩ | ⟨hk25, h⟩
            · try simp only [go_sem, n1, n2, n3, n4, ghk1, hk1, hk2, hk15, hk21] at hk25
              all_goals
              obtain rfl := so_some h
              refine ⟨Lhk20, fun L hL => ?_⟩
              have ehk20 := ehk20 L (by omega)
              try simp only [go_sem, E_spec_l01Number_l1, R_spec_l01Number_l1, ir67_k0, ir67_o0, ir67_r0, E_spec_l01Number_l2, R_spec_l01Number_l2, ir67_k0, ir67_o0, ir67_r0, ghk1, hk1, hk2, hk15, hk21, hk25] at ehk20
              simp only [go_sem, ir67, E_spec_l01Number_l1, R_spec_l01Number_l1, ir67_k0, ir67_o0, ir67_r0, E_spec_l01Number_l2, R_spec_l01Number_l2, ir67_k0, ir67_o0, ir67_r0, ghk1, hk1, hk2, hk15, hk21, fhk24, hk25, ehk20]
            · try simp only [go_sem, n1, n2, n3, n4, ghk1, hk1, hk2, hk15, hk21] at hk25
              all_goals
              obtain rfl := so_some h
              refine ⟨Lhk20, fun L hL => ?_⟩
              have ehk20 := ehk20 L (by omega)
              try simp only [go_sem, E_spec_l01Number_l1, R_spec_l01Number_l1, ir67_k0, ir67_o0, ir67_r0, E_spec_l01Number_l2, R_spec_l01Number_l2, ir67_k0, ir67_o0, ir67_r0, ghk1, hk1, hk2, hk15, hk21, hk25] at ehk20
              simp only [go_sem, ir67, E_spec_l01Number_l1, R_spec_l01Number_l1, ir67_k0, ir67_o0, ir67_r0, E_spec_l01Number_l2, R_spec_l01Number_l2, ir67_k0, ir67_o0, ir67_r0, ghk1, hk1, hk2, hk15, hk21, fhk24, hk25, ehk20]
        · dsimp only at h
          obtain rfl := so_some h
          refine ⟨Lhk20, fun L hL => ?_⟩
          have ehk20 := ehk20 L (by omega)
          try simp only [go_sem, E_spec_l01Number_l1, R_spec_l01Number_l1, ir67_k0, ir67_o0, ir67_r0, E_spec_l01Number_l2, R_spec_l01Number_l2, ir67_k0, ir67_o0, ir67_r0, ghk1, hk1, hk2, hk15] at ehk20
          simp only [go_sem, ir67, E_spec_l01Number_l1, R_spec_l01Number_l1, ir67_k0, ir67_o0, ir67_r0, E_spec_l01Number_l2, R_spec_l01Number_l2, ir67_k0, ir67_o0, ir67_r0, ghk1, hk1, hk2, hk15, ehk20]
  · have ghk1n := no_f ghk1
    try simp only [go_sem, n1, n2, n3, n4] at ghk1n
    all_goals
    rcases it_some h with ⟨hk2, h⟩ | ⟨hk2, h⟩
    · try simp only [go_sem, n1, n2, n3, n4, ghk1n] at hk2
      all_goals
      obtain ⟨hk3, h⟩ := ck_some h
      try simp only [go_sem, n1, n2, n3, n4, ghk1n, hk2] at hk3
      all_goals
      rcases it_some h with ⟨hk4, h⟩ | ⟨hk4, h⟩
      · try simp only [go_sem, n1, n2, n3, n4, ghk1n, hk2, hk3] at hk4
        all_goals
        obtain rfl := so_some h
        refine ⟨0, fun L hL => ?_⟩
        simp only [go_sem, ir67, E_spec_l01Number_l1, R_spec_l01Number_l1, ir67_k0, ir67_o0, ir67_r0, E_spec_l01Number_l2, R_spec_l01Number_l2, ir67_k0, ir67_o0, ir67_r0, ghk1n, hk2, hk3, hk4]
      · try simp only [go_sem, n1, n2, n3, n4, ghk1n, hk2, hk3] at hk4
        all_goals
        obtain ⟨y_9, hk9, h⟩ := bd_some h
        obtain ⟨Lhk9, ehk9⟩ := spec_l01Number_l1_ex hk9
        rcases y_9 with y_9a | y_9b
        · dsimp only at h
          rcases it_some h with ⟨hk10, h⟩ | ⟨hk10, h⟩
          · try simp only [go_sem, n1, n2, n3, n4, ghk1n, hk2, hk3, hk4] at hk10
            all_goals
            obtain ⟨y_11, hk11, h⟩ := bd_some h
            have fhk11 := Fs_spec_l01Dec hk11
            try simp only [go_sem, ghk1n, hk2, hk3, hk4, hk10] at fhk11
            rcases it_some h with ⟨hk12, h⟩ | ⟨hk12, h⟩
            · try simp only [go_sem, n1, n2, n3, n4, ghk1n, hk2, hk3, hk4, hk10] at hk12
              all_goals
              obtain rfl := so_some h
              refine ⟨Lhk9, fun L hL => ?_⟩
              have ehk9 := ehk9 L (by omega)
              try simp only [go_sem, E_spec_l01Number_l1, R_spec_l01Number_l1, ir67_k0, ir67_o0, ir67_r0, E_spec_l01Number_l2, R_spec_l01Number_l2, ir67_k0, ir67_o0, ir67_r0, ghk1n, hk2, hk3, hk4, hk10, hk12] at ehk9
              simp only [go_sem, ir67, E_spec_l01Number_l1, R_spec_l01Number_l1, ir67_k0, ir67_o0, ir67_r0, E_spec_l01Number_l2, R_spec_l01Number_l2, ir67_k0, ir67_o0, ir67_r0, ghk1n, hk2, hk3, hk4, hk10, fhk11, hk12, ehk9]
            · try simp only [go_sem, n1, n2, n3, n4, ghk1n, hk2, hk3, hk4, hk10] at hk12
              all_goals
              obtain rfl := so_some h
              refine ⟨Lhk9, fun L hL => ?_⟩
              have ehk9 := ehk9 L (by omega)
              try simp only [go_sem, E_spec_l01Number_l1, R_spec_l01Number_l1, ir67_k0, ir67_o0, ir67_r0, E_spec_l01Number_l2, R_spec_l01Number_l2, ir67_k0, ir67_o0, ir67_r0, ghk1n, hk2, hk3, hk4, hk10, hk12] at ehk9
              simp only [go_sem, ir67, E_spec_l01Number_l1, R_spec_l01Number_l1, ir67_k0, ir67_o0, ir67_r0, E_spec_l01Number_l2, R_spec_l01Number_l2, ir67_k0, ir67_o0, ir67_r0, ghk1n, hk2, hk3, hk4, hk10, fhk11, hk12, ehk9]
          · try simp only [go_sem, n1, n2, n3, n4, ghk1n, hk2, hk3, hk4] at hk10
            all_goals
            obtain ⟨y_13, hk13, h⟩ := bd_some h
            have fhk13 := Fs_spec_l01Dec hk13
            try simp only [go_sem, ghk1n, hk2, hk3, hk4, hk10] at fhk13
            rcases it_some h with ⟨hk14, h⟩ | ⟨hk14, h⟩
            · try simp only [go_sem, n1, n2, n3, n4, ghk1n, hk2, hk3, hk4, hk10] at hk14
              all_goals
              obtain rfl := so_some h
              refine ⟨Lhk9, fun L hL => ?_⟩
              have ehk9 := ehk9 L (by omega)
              try simp only [go_sem, E_spec_l01Number_l1, R_spec_l01Number_l1, ir67_k0, ir67_o0, ir67_r0, E_spec_l01Number_l2, R_spec_l01Number_l2, ir67_k0, ir67_o0, ir67_r0, ghk1n, hk2, hk3, hk4, hk10, hk14] at ehk9
              simp only [go_sem, ir67, E_spec_l01Number_l1, R_spec_l01Number_l1, ir67_k0, ir67_o0, ir67_r0, E_spec_l01Number_l2, R_spec_l01Number_l2, ir67_k0, ir67_o0, ir67_r0, ghk1n, hk2, hk3, hk4, hk10, fhk13, hk14, ehk9]
            · try simp only [go_sem, n1, n2, n3, n4, ghk1n, hk2, hk3, hk4, hk10] at hk14
              all_goals
              obtain rfl := so_some h
              refine ⟨Lhk9, fun L hL => ?_⟩
              have ehk9 := ehk9 L (by omega)
              try simp only [go_sem, E_spec_l01Number_l1, R_spec_l01Number_l1, ir67_k0, ir67_o0, ir67_r0, E_spec_l01Number_l2, R_spec_l01Number_l2, ir67_k0, ir67_o0, ir67_r0, ghk1n, hk2, hk3, hk4, hk10, hk14] at ehk9
              simp only [go_sem, ir67, E_spec_l01Number_l1, R_spec_l01Number_l1, ir67_k0, ir67_o0, ir67_r0, E_spec_l01Number_l2, R_spec_l01Number_l2, ir67_k0, ir67_o0, ir67_r0, ghk1n, hk2, hk3, hk4, hk10, fhk13, hk14, ehk9]
        · dsimp only at h
          obtain rfl := so_some h
          refine ⟨Lhk9, fun L hL => ?_⟩
          have ehk9 := ehk9 L (by omega)
          try simp only [go_sem, E_spec_l01Number_l1, R_spec_l01Number_l1, ir67_k0, ir67_o0, ir67_r0, E_spec_l01Number_l2, R_spec_l01Number_l2, ir67_k0, ir67_o0, ir67_r0, ghk1n, hk2, hk3, hk4] at ehk9
          simp only [go_sem, ir67, E_spec_l01Number_l1, R_spec_l01Number_l1, ir67_k0, ir67_o0, ir67_r0, E_spec_l01Number_l2, R_spec_l01Number_l2, ir67_k0, ir67_o0, ir67_r0, ghk1n, hk2, hk3, hk4, ehk9]
    · try simp only [go_sem, n1, n2, n3, n4, ghk1n] at hk2
      all_goals
      rcases it_some h with ⟨hk15, h⟩ | ⟨hk15, h⟩
      · try simp only [go_sem, n1, n2, n3, n4, ghk1n, hk2] at hk15
        all_goals
        obtain rfl := so_some h
        refine ⟨0, fun L hL => ?_⟩
        simp only [go_sem, ir67, E_spec_l01Number_l1, R_spec_l01Number_l1, ir67_k0, ir67_o0, ir67_r0, E_spec_l01Number_l2, R_spec_l01Number_l2, ir67_k0, ir67_o0, ir67_r0, ghk1n, hk2, hk15]
      · try simp only [go_sem, n1, n2, n3, n4, ghk1n, hk2] at hk15
        all_goals
        obtain ⟨y_20, hk20, h⟩ := bd_some h
        obtain ⟨Lhk20, ehk20⟩ := spec_l01Number_l2_ex hk20
        rcases y_20 with y_20a | y_20b
        · dsimp only at h
          rcases it_some h with ⟨hk21, h⟩ | ⟨hk21, h⟩
          · try simp only [go_sem, n1, n2, n3, n4, ghk1n, hk2, hk15] at hk21
            all_goals
            obtain ⟨y_22, hk22, h⟩ := bd_some h
            have fhk22 := Fs_spec_l01Dec hk22
            try simp only [go_sem, ghk1n, hk2, hk15, hk21] at fhk22
            rcases it_some h with ⟨hk23, h⟩ | ⟨hk23, h⟩
            · try simp only [go_sem, n1, n2, n3, n4, ghk1n, hk2, hk15, hk21] at hk23
              all_goals
              obtain rfl := so_some h
              refine ⟨Lhk20, fun L hL => ?_⟩
              have ehk20 := ehk20 L (by omega)
              try simp only [go_sem, E_spec_l01Number_l1, R_spec_l01Number_l1, ir67_k0, ir67_o0, ir67_r0, E_spec_l01Number_l2, R_spec_l01Number_l2, ir67_k0, ir67_o0, ir67_r0, ghk1n, hk2, hk15, hk21, hk23] at ehk20
              simp only [go_sem, ir67, E_spec_l01Number_l1, R_spec_l01Number_l1, ir67_k0, ir67_o0, ir67_r0, E_spec_l01Number_l2, R_spec_l01Number_l2, ir67_k0, ir67_o0, ir67_r0, ghk1n, hk2, hk15, hk21, fhk22, hk23, ehk20]
            · try simp only [go_sem, n1, n2, n3, n4, ghk1n, hk2, hk15, hk21] at hk23
              all_goals
              obtain rfl := so_some h
              refine ⟨Lhk20, fun L hL => ?_⟩
              have ehk20 := ehk20 L (by omega)
              try simp only [go_sem, E_spec_l01Number_l1, R_spec_l01Number_l1, ir67_k0, ir67_o0, ir67_r0, E_spec_l01Number_l2, R_spec_l01Number_l2, ir67_k0, ir67_o0, ir67_r0, ghk1n, hk2, hk15, hk21, hk23] at ehk20
              simp only [go_sem, ir67, E_spec_l01Number_l1, R_spec_l01Number_l1, ir67_k0, ir67_o0, ir67_r0, E_spec_l01Number_l2, R_spec_l01Number_l2, ir67_k0, ir67_o0, ir67_r0, ghk1n, hk2, hk15, hk21, fhk22, hk23, ehk20]
          · try simp only [go_sem, n1, n2, n3, n4, ghk1n, hk2, hk15] at hk21
            all_goals
            obtain ⟨y_24, hk24, h⟩ := bd_some h
            have fhk24 := Fs_spec_l01Dec hk24
            try simp only [go_sem, ghk1n, hk2, hk15, hk21] at fhk24
            rcases it_some h with ⟨hk25, h⟩ | ⟨hk25, h⟩
            · try simp only [go_sem, n1, n2, n3, n4, ghk1n, hk2, hk15, hk21] at hk25
              all_goals
              obtain rfl := so_some h
              refine ⟨Lhk20, fun L hL => ?_⟩
              have ehk20 := ehk20 L (by omega)
              try simp only [go_sem, E_spec_l01Number_l1, R_spec_l01Number_l1, ir67_k0, ir67_o0, ir67_r0, E_spec_l01Number_l2, R_spec_l01Number_l2, ir67_k0, ir67_o0, ir67_r0, ghk1n, hk2, hk15, hk21, hk25] at ehk20
              simp only [go_sem, ir67, E_spec_l01Number_l1, R_spec_l01Number_l1, ir67_k0, ir67_o0, ir67_r0, E_spec_l01Number_l2, R_spec_l01Number_l2, ir67_k0, ir67_o0, ir67_r0, ghk1n, hk2, hk15, hk21, fhk24, hk25, ehk20]
            · try simp only [go_sem, n1, n2, n3, n4, ghk1n, hk2, hk15, hk21] at hk25
              all_goals
              obtain rfl := so_some h
              refine ⟨Lhk20, fun L hL => ?_⟩
              have ehk20 := ehk20 L (by omega)
              try simp only [go_sem, E_spec_l01Number_l1, R_spec_l01Number_l1, ir67_k0, ir67_o0, ir67_r0, E_spec_l01Number_l2, R_spec_l01Number_l2, ir67_k0, ir67_o0, ir67_r0, ghk1n, hk2, hk15, hk21, hk25] at ehk20
              simp only [go_sem, ir67, E_spec_l01Number_l1, R_spec_l01Number_l1, ir67_k0, ir67_o0, ir67_r0, E_spec_l01Number_l2, R_spec_l01Number_l2, ir67_k0, ir67_o0, ir67_r0, ghk1n, hk2, hk15, hk21, fhk24, hk25, ehk20]
        · dsimp only at h
          obtain rfl := so_some h
          refine ⟨Lhk20, fun L hL => ?_⟩
          have ehk20 := ehk20 L (by omega)
          try simp only [go_sem, E_spec_l01Number_l1, R_spec_l01Number_l1, ir67_k0, ir67_o0, ir67_r0, E_spec_l01Number_l2, R_spec_l01Number_l2, ir67_k0, ir67_o0, ir67_r0, ghk1n, hk2, hk15] at ehk20
          simp only [go_sem, ir67, E_spec_l01Number_l1, R_spec_l01Number_l1, ir67_k0, ir67_o0, ir67_r0, E_spec_l01Number_l2, R_spec_l01Number_l2, ir67_k0, ir67_o0, ir67_r0, ghk1n, hk2, hk15, ehk20]


def ir75_v : List Nat := [0, 1, 2, 6]
def ir75 : AFn := ⟨3, 4, .seq (.region false [
    ⟨.var 3, 6, none, .mov (.c (.bool false))⟩])
 (.seq (.region false [
    ⟨.push, 7, none, .mov (.v 0)⟩,
    ⟨.push, 8, none, .mov (.v 1)⟩,
    ⟨.push, 9, none, .bin false .geq (.s 1) (.s 0)⟩,
    ⟨.push, 10, none, .mov (.s 0)⟩,
    ⟨.push, 11, (some ((.s 0), true)), .mov (.v 0)⟩,
    ⟨.push, 12, (some ((.s 1), true)), .mov (.v 2)⟩,
    ⟨.push, 13, (some ((.s 2), true)), .bin false .leq (.s 1) (.s 0)⟩,
    ⟨.push, 14, none, .pick (.s 3) (.s 0) (.c (.bool false))⟩,
    ⟨.var 3, 6, none, .mov (.s 0)⟩])
 (.ret)), [.t 3]⟩
noncomputable def t_spec_l00In : List (Nat × Ctr) := []
noncomputable def c_spec_l00In : Ctr := mkF t_spec_l00In ir75 [.bor, .bor, .bor]
theorem s_spec_l00In : Sound Tryz.prog 75 c_spec_l00In := mkF_sound _ rfl snd_nil (by kernel_rfl : chkFn Tryz.prog 75 ir75 ir75_v = true)
theorem M_spec_l00In : c_spec_l00In.modes = [.bor, .bor, .bor] := rfl
theorem Fl_spec_l00In : c_spec_l00In.flat = true := rfl
attribute [go_sem] M_spec_l00In Fl_spec_l00In
theorem Fs_spec_l00In {n : Int} {low : Int} {high : Int} {y_ : Bool} (h : spec_l00In n low high = some y_) : c_spec_l00In.F [.int .i64 n, .int .i64 low, .int .i64 high] = ⟨true, .bool y_, [.any, .any, .any]⟩ := by
  refine mkF_E rfl ?_
  dsimp only [spec_l00In] at h
  obtain rfl := so_some h
  refine ⟨0, fun L hL => ?_⟩
  simp only [go_sem, ir75]


def ir85_v : List Nat := [0, 2]
def ir85 : AFn := ⟨1, 2, .seq (.region false [
    ⟨.var 1, 2, none, .mov (.c (.bool false))⟩])
 (.seq (.region false [
    ⟨.push, 3, none, .mov (.v 0)⟩,
    ⟨.push, 4, none, .call 75 [(.s 0), (.c (.int .i64 (0))), (.c (.int .i64 (100000)))]⟩,
    ⟨.var 1, 2, none, .mov (.s 0)⟩])
 (.ret)), [.t 1]⟩
noncomputable def t_spec_l27Day : List (Nat × Ctr) := [(75, c_spec_l00In)]
theorem lk_spec_l27Day_75 : look t_spec_l27Day 75 = some c_spec_l00In := rfl
noncomputable def c_spec_l27Day : Ctr := mkF t_spec_l27Day ir85 [.bor]
theorem s_spec_l27Day : Sound Tryz.prog 85 c_spec_l27Day := mkF_sound _ rfl (snd_cons s_spec_l00In snd_nil) (by kernel_rfl : chkFn Tryz.prog 85 ir85 ir85_v = true)
theorem M_spec_l27Day : c_spec_l27Day.modes = [.bor] := rfl
theorem Fl_spec_l27Day : c_spec_l27Day.flat = true := rfl
attribute [go_sem] M_spec_l27Day Fl_spec_l27Day
attribute [go_sem] lk_spec_l27Day_75
theorem Fs_spec_l27Day {n : Int} {y_ : Bool} (h : spec_l27Day n = some y_) : c_spec_l27Day.F [.int .i64 n] = ⟨true, .bool y_, [.any]⟩ := by
  refine mkF_E rfl ?_
  dsimp only [spec_l27Day] at h
  obtain ⟨y_1, hk1, h⟩ := bd_some h
  have fhk1 := Fs_spec_l00In hk1
  try simp only [go_sem] at fhk1
  obtain rfl := so_some h
  refine ⟨0, fun L hL => ?_⟩
  simp only [go_sem, ir85, fhk1]


def ir73_v : List Nat := [0, 2]
def ir73 : AFn := ⟨1, 2, .seq (.region false [
    ⟨.var 1, 2, none, .mov (.c (.bool false))⟩])
 (.seq (.region false [
    ⟨.push, 3, none, .mov (.v 0)⟩,
    ⟨.push, 4, none, .bin false .geq (.s 0) (.c (.int .u8 (97)))⟩,
    ⟨.push, 5, none, .mov (.s 0)⟩,
    ⟨.push, 6, (some ((.s 0), true)), .mov (.v 0)⟩,
    ⟨.push, 7, (some ((.s 1), true)), .bin false .leq (.s 0) (.c (.int .u8 (122)))⟩,
    ⟨.push, 8, none, .pick (.s 2) (.s 0) (.c (.bool false))⟩,
    ⟨.var 1, 2, none, .mov (.s 0)⟩])
 (.ret)), [.t 1]⟩
noncomputable def t_spec_l01Small : List (Nat × Ctr) := []
noncomputable def c_spec_l01Small : Ctr := mkF t_spec_l01Small ir73 [.bor]
theorem s_spec_l01Small : Sound Tryz.prog 73 c_spec_l01Small := mkF_sound _ rfl snd_nil (by kernel_rfl : chkFn Tryz.prog 73 ir73 ir73_v = true)
theorem M_spec_l01Small : c_spec_l01Small.modes = [.bor] := rfl
theorem Fl_spec_l01Small : c_spec_l01Small.flat = true := rfl
attribute [go_sem] M_spec_l01Small Fl_spec_l01Small
theorem Fs_spec_l01Small {c : UInt8} {y_ : Bool} (h : spec_l01Small c = some y_) : c_spec_l01Small.F [.int .u8 (c.toNat : Int)] = ⟨true, .bool y_, [.any]⟩ := by
  refine mkF_E rfl ?_
  dsimp only [spec_l01Small] at h
  obtain rfl := so_some h
  refine ⟨0, fun L hL => ?_⟩
  simp only [go_sem, ir73]


def ir51_b0 : IR := .seq (.test false [
    ⟨.push, 17, none, .mov (.v 2)⟩,
    ⟨.push, 18, none, .mov (.v 0)⟩,
    ⟨.push, 19, none, .len true (.s 0)⟩,
    ⟨.push, 20, none, .bin false .lss (.s 2) (.s 0)⟩] (.s 0)
  (.skip)
  (.exit 0))
 (.seq (.block 1 (.test false [
     ⟨.push, 23, none, .mov (.v 0)⟩,
     ⟨.push, 24, none, .mov (.v 2)⟩,
     ⟨.push, 25, none, .ixStr (.s 1) (.s 0)⟩,
     ⟨.push, 26, none, .call 73 [(.s 0)]⟩,
     ⟨.push, 27, none, .un .not (.s 0)⟩,
     ⟨.push, 28, none, .mov (.s 0)⟩,
     ⟨.push, 29, (some ((.s 0), true)), .mov (.v 0)⟩,
     ⟨.push, 30, (some ((.s 1), true)), .mov (.v 2)⟩,
     ⟨.push, 31, (some ((.s 2), true)), .ixStr (.s 1) (.s 0)⟩,
     ⟨.push, 32, (some ((.s 3), true)), .call 74 [(.s 0)]⟩,
     ⟨.push, 33, (some ((.s 4), true)), .un .not (.s 0)⟩,
     ⟨.push, 34, none, .pick (.s 5) (.s 0) (.c (.bool false))⟩,
     ⟨.push, 35, none, .mov (.s 0)⟩,
     ⟨.push, 36, (some ((.s 0), true)), .mov (.v 0)⟩,
     ⟨.push, 37, (some ((.s 1), true)), .mov (.v 2)⟩,
     ⟨.push, 38, (some ((.s 2), true)), .ixStr (.s 1) (.s 0)⟩,
     ⟨.push, 39, (some ((.s 3), true)), .bin false .neq (.s 0) (.c (.int .u8 (45)))⟩,
     ⟨.push, 40, none, .pick (.s 4) (.s 0) (.c (.bool false))⟩] (.s 0)
   (.seq (.region false [
       ⟨.var 1, 2, none, .mov (.c (.bool false))⟩])
    (.ret))
   (.skip)))
 (.region false [
   ⟨.push, 21, none, .mov (.v 2)⟩,
   ⟨.push, 22, none, .bin false .add (.s 0) (.c (.int .i64 (1)))⟩,
   ⟨.var 2, 3, none, .mov (.s 0)⟩]))
def ir51_k0 : List Bool := [true, false, true]
def ir51_o0 : List Bool := [false, false, false]
def ir51_r0 : List Bool := [false, true, false]
def ir51_v : List Nat := [0, 2, 3]
def ir51 : AFn := ⟨1, 3, .seq (.region false [
    ⟨.var 1, 2, none, .mov (.c (.bool false))⟩])
 (.seq (.test false [
    ⟨.push, 4, none, .mov (.v 0)⟩,
    ⟨.push, 5, none, .bin false .eql (.s 0) (.c (.str []))⟩,
    ⟨.push, 6, none, .mov (.s 0)⟩,
    ⟨.push, 7, (some ((.s 0), false)), .mov (.v 0)⟩,
    ⟨.push, 8, (some ((.s 1), false)), .len true (.s 0)⟩,
    ⟨.push, 9, (some ((.s 2), false)), .bin false .gtr (.s 0) (.c (.int .i64 (12)))⟩,
    ⟨.push, 10, none, .pick (.s 3) (.c (.bool true)) (.s 0)⟩,
    ⟨.push, 11, none, .mov (.s 0)⟩,
    ⟨.push, 12, (some ((.s 0), false)), .mov (.v 0)⟩,
    ⟨.push, 13, (some ((.s 1), false)), .ixStr (.s 0) (.c (.int .i64 (0)))⟩,
    ⟨.push, 14, (some ((.s 2), false)), .call 73 [(.s 0)]⟩,
    ⟨.push, 15, (some ((.s 3), false)), .un .not (.s 0)⟩,
    ⟨.push, 16, none, .pick (.s 4) (.c (.bool true)) (.s 0)⟩] (.s 0)
  (.seq (.region false [
      ⟨.var 1, 2, none, .mov (.c (.bool false))⟩])
   (.ret))
  (.skip))
 (.seq (.seq (.region false [
     ⟨.var 2, 3, none, .mov (.c (.int .i64 (0)))⟩])
  (.block 0 (.loop ir51_k0 ir51_o0 ir51_r0 ir51_b0)))
 (.seq (.region false [
    ⟨.var 1, 2, none, .mov (.c (.bool true))⟩])
 (.ret)))), [.t 1]⟩
noncomputable def t_spec_IsName : List (Nat × Ctr) := [(73, c_spec_l01Small), (74, c_spec_l01Digit)]
theorem lk_spec_IsName_73 : look t_spec_IsName 73 = some c_spec_l01Small := rfl
theorem lk_spec_IsName_74 : look t_spec_IsName 74 = some c_spec_l01Digit := rfl
noncomputable def c_spec_IsName : Ctr := mkF t_spec_IsName ir51 [.bor]
theorem s_spec_IsName : Sound Tryz.prog 51 c_spec_IsName := mkF_sound _ rfl (snd_cons s_spec_l01Small (snd_cons s_spec_l01Digit snd_nil)) (by kernel_rfl : chkFn Tryz.prog 51 ir51 ir51_v = true)
theorem M_spec_IsName : c_spec_IsName.modes = [.bor] := rfl
theorem Fl_spec_IsName : c_spec_IsName.flat = true := rfl
attribute [go_sem] M_spec_IsName Fl_spec_IsName
attribute [go_sem] lk_spec_IsName_73 lk_spec_IsName_74
def E_spec_IsName_l1 (s_ : List UInt8) : Int → St
  | i => ⟨[.str s_, .any, .int .i64 i], [], [], true⟩
def R_spec_IsName_l1 (s_ : List UInt8) : (Unit ⊕ Bool) → Res
  | .inl y => (.exit 0, ⟨[.any, .any, .any], [], [], true⟩)
  | .inr y => (.ret, ⟨[.any, .bool y, .any], [], [], true⟩)
theorem spec_IsName_l1_ex {s_ : List UInt8} {sgm_ : Int} {rho_ : Unit ⊕ Bool} (h : whileE (spec_IsName_l1 s_) sgm_ = some rho_) : ∃ L0, ∀ L, L0 ≤ L → iter (exec (look t_spec_IsName) L ir51_b0) ir51_k0 ir51_o0 ir51_r0 L (E_spec_IsName_l1 s_ sgm_) = R_spec_IsName_l1 s_ rho_ := by
  refine loop_ex (E := E_spec_IsName_l1 s_) (R := R_spec_IsName_l1 s_) (fun y => by first | (intro c; cases c) | (rcases y with y | y <;> (intro c; cases c)) | (rcases y with y | y | y <;> (intro c; cases c))) ?_ h
  clear h
  intro i o_ h
  dsimp only [spec_IsName_l1] at h
  rcases it_some h with ⟨hk4, h⟩ | ⟨hk4, h⟩
  · try simp only [go_sem, n1, n2, n3, n4] at hk4
    all_goals
    obtain ⟨hk5, h⟩ := ck_some h
    try simp only [go_sem, n1, n2, n3, n4, hk4] at hk5
    all_goals
    obtain ⟨y_6, hk6, h⟩ := bd_some h
    have fhk6 := Fs_spec_l01Small hk6
    try simp only [go_sem, hk4, hk5] at fhk6
    obtain ⟨hk7, h⟩ := ck_some h
    rcases or_split hk7 with ⟨ghk7, hk7⟩ | ghk7
    · try simp only [go_sem, n1, n2, n3, n4, hk4, hk5] at ghk7
      all_goals
      obtain ⟨y_7, hhk7⟩ := Option.isSome_iff_exists.1 hk7
      have fhk7 := Fs_spec_l01Digit hhk7
      try simp only [go_sem, hk4, hk5, ghk7] at fhk7
      rcases it_some h with ⟨hk8, h⟩ | ⟨hk8, h⟩
      · try simp only [go_sem, n1, n2, n3, n4, hk4, hk5, ghk7, hhk7] at hk8
        all_goals
        obtain rfl := so_some h
        refine ⟨0, fun L hL => ?_⟩
        simp only [go_sem, ir51, E_spec_IsName_l1, R_spec_IsName_l1, ir51_b0, ir51_k0, ir51_o0, ir51_r0, hk4, hk5, fhk6, ghk7, hhk7, fhk7, hk8]
      · try simp only [go_sem, n1, n2, n3, n4, hk4, hk5, ghk7, hhk7] at hk8
        all_goals
        obtain rfl := so_some h
        refine ⟨0, fun L hL => ?_⟩
        simp only [go_sem, ir51, E_spec_IsName_l1, R_spec_IsName_l1, ir51_b0, ir51_k0, ir51_o0, ir51_r0, hk4, hk5, fhk6, ghk7, hhk7, fhk7, hk8]
    · have ghk7n := no_f ghk7
      try simp only [go_sem, n1, n2, n3, n4, hk4, hk5] at ghk7n
      all_goals
      rcases it_some h with ⟨hk8, h⟩ | ⟨hk8, h⟩
      · try simp only [go_sem, n1, n2, n3, n4, hk4, hk5, ghk7n] at hk8
        all_goals
        obtain rfl := so_some h
        refine ⟨0, fun L hL => ?_⟩
        simp only [go_sem, ir51, E_spec_IsName_l1, R_spec_IsName_l1, ir51_b0, ir51_k0, ir51_o0, ir51_r0, hk4, hk5, fhk6, ghk7n, hk8]
      · try simp only [go_sem, n1, n2, n3, n4, hk4, hk5, ghk7n] at hk8
        all_goals
        obtain rfl := so_some h
        refine ⟨0, fun L hL => ?_⟩
        simp only [go_sem, ir51, E_spec_IsName_l1, R_spec_IsName_l1, ir51_b0, ir51_k0, ir51_o0, ir51_r0, hk4, hk5, fhk6, ghk7n, hk8]
  · try simp only [go_sem, n1, n2, n3, n4] at hk4
    all_goals
    obtain rfl := so_some h
    refine ⟨0, fun L hL => ?_⟩
    simp only [go_sem, ir51, E_spec_IsName_l1, R_spec_IsName_l1, ir51_b0, ir51_k0, ir51_o0, ir51_r0, hk4]

theorem Fs_spec_IsName {s_ : List UInt8} {y_ : Bool} (h : spec_IsName s_ = some y_) : c_spec_IsName.F [.str s_] = ⟨true, .bool y_, [.any]⟩ := by
  refine mkF_E rfl ?_
  dsimp only [spec_IsName] at h
  obtain ⟨hk1, h⟩ := ck_some h
  rcases or_split hk1 with ⟨ghk1, hk1⟩ | ghk1
  · try simp only [go_sem, n1, n2, n3, n4] at ghk1
    all_goals
    try simp only [go_sem, n1, n2, n3, n4, ghk1] at hk1
    all_goals
    obtain ⟨hk2, h⟩ := ck_some h
    rcases or_split hk2 with ⟨ghk2, hk2⟩ | ghk2
    · try simp only [go_sem, n1, n2, n3, n4, ghk1, hk1] at ghk2
      all_goals
      obtain ⟨y_2, hhk2⟩ := Option.isSome_iff_exists.1 hk2
      have fhk2 := Fs_spec_l01Small hhk2
      try simp only [go_sem, ghk1, hk1, ghk2] at fhk2
      rcases it_some h with ⟨hk3, h⟩ | ⟨hk3, h⟩
      · try simp only [go_sem, n1, n2, n3, n4, ghk1, hk1, ghk2, hhk2] at hk3
        all_goals
        obtain rfl := so_some h
        refine ⟨0, fun L hL => ?_⟩
        simp only [go_sem, ir51, E_spec_IsName_l1, R_spec_IsName_l1, ir51_k0, ir51_o0, ir51_r0, ghk1, hk1, ghk2, hhk2, fhk2, hk3]
      · try simp only [go_sem, n1, n2, n3, n4, ghk1, hk1, ghk2, hhk2] at hk3
        all_goals
        obtain ⟨y_9, hk9, h⟩ := bd_some h
        obtain ⟨Lhk9, ehk9⟩ := spec_IsName_l1_ex hk9
        rcases y_9 with y_9a | y_9b
        · dsimp only at h
          obtain rfl := so_some h
          refine ⟨Lhk9, fun L hL => ?_⟩
          have ehk9 := ehk9 L (by omega)
          try simp only [go_sem, E_spec_IsName_l1, R_spec_IsName_l1, ir51_k0, ir51_o0, ir51_r0, ghk1, hk1, ghk2, hhk2, hk3] at ehk9
          simp only [go_sem, ir51, E_spec_IsName_l1, R_spec_IsName_l1, ir51_k0, ir51_o0, ir51_r0, ghk1, hk1, ghk2, hhk2, fhk2, hk3, ehk9]
        · dsimp only at h
          obtain rfl := so_some h
          refine ⟨Lhk9, fun L hL => ?_⟩
          have ehk9 := ehk9 L (by omega)
          try simp only [go_sem, E_spec_IsName_l1, R_spec_IsName_l1, ir51_k0, ir51_o0, ir51_r0, ghk1, hk1, ghk2, hhk2, hk3] at ehk9
          simp only [go_sem, ir51, E_spec_IsName_l1, R_spec_IsName_l1, ir51_k0, ir51_o0, ir51_r0, ghk1, hk1, ghk2, hhk2, fhk2, hk3, ehk9]
    · have ghk2n := no_f ghk2
      rcases or_t ghk2n with ghk2na | ⟨ghk2na, ghk2nb⟩
      · try simp only [go_sem, n1, n2, n3, n4, ghk1, hk1] at ghk2na
        all_goals
        rcases it_some h with ⟨hk3, h⟩ | ⟨hk3, h⟩
        · try simp only [go_sem, n1, n2, n3, n4, ghk1, hk1, ghk2na] at hk3
          all_goals
          obtain rfl := so_some h
          refine ⟨0, fun L hL => ?_⟩
          simp only [go_sem, ir51, E_spec_IsName_l1, R_spec_IsName_l1, ir51_k0, ir51_o0, ir51_r0, ghk1, hk1, ghk2na, hk3]
        · try simp only [go_sem, n1, n2, n3, n4, ghk1, hk1, ghk2na] at hk3
          all_goals
          obtain ⟨y_9, hk9, h⟩ := bd_some h
          obtain ⟨Lhk9, ehk9⟩ := spec_IsName_l1_ex hk9
          rcases y_9 with y_9a | y_9b
          · dsimp only at h
            obtain rfl := so_some h
            refine ⟨Lhk9, fun L hL => ?_⟩
            have ehk9 := ehk9 L (by omega)
            try simp only [go_sem, E_spec_IsName_l1, R_spec_IsName_l1, ir51_k0, ir51_o0, ir51_r0, ghk1, hk1, ghk2na, hk3] at ehk9
            simp only [go_sem, ir51, E_spec_IsName_l1, R_spec_IsName_l1, ir51_k0, ir51_o0, ir51_r0, ghk1, hk1, ghk2na, hk3, ehk9]
          · dsimp only at h
            obtain rfl := so_some h
            refine ⟨Lhk9, fun L hL => ?_⟩
            have ehk9 := ehk9 L (by omega)
            try simp only [go_sem, E_spec_IsName_l1, R_spec_IsName_l1, ir51_k0, ir51_o0, ir51_r0, ghk1, hk1, ghk2na, hk3] at ehk9
            simp only [go_sem, ir51, E_spec_IsName_l1, R_spec_IsName_l1, ir51_k0, ir51_o0, ir51_r0, ghk1, hk1, ghk2na, hk3, ehk9]
      · try simp only [go_sem, n1, n2, n3, n4, ghk1, hk1] at ghk2na
        all_goals
        try simp only [go_sem, n1, n2, n3, n4, ghk1, hk1, ghk2na] at ghk2nb
        all_goals
        rcases it_some h with ⟨hk3, h⟩ | ⟨hk3, h⟩
        · try simp only [go_sem, n1, n2, n3, n4, ghk1, hk1, ghk2na, ghk2nb] at hk3
          all_goals
          obtain rfl := so_some h
          refine ⟨0, fun L hL => ?_⟩
          simp only [go_sem, ir51, E_spec_IsName_l1, R_spec_IsName_l1, ir51_k0, ir51_o0, ir51_r0, ghk1, hk1, ghk2na, ghk2nb, hk3]
        · try simp only [go_sem, n1, n2, n3, n4, ghk1, hk1, ghk2na, ghk2nb] at hk3
          all_goals
          obtain ⟨y_9, hk9, h⟩ := bd_some h
          obtain ⟨Lhk9, ehk9⟩ := spec_IsName_l1_ex hk9
          rcases y_9 with y_9a | y_9b
          · dsimp only at h
            obtain rfl := so_some h
            refine ⟨Lhk9, fun L hL => ?_⟩
            have ehk9 := ehk9 L (by omega)
            try simp only [go_sem, E_spec_IsName_l1, R_spec_IsName_l1, ir51_k0, ir51_o0, ir51_r0, ghk1, hk1, ghk2na, ghk2nb, hk3] at ehk9
            simp only [go_sem, ir51, E_spec_IsName_l1, R_spec_IsName_l1, ir51_k0, ir51_o0, ir51_r0, ghk1, hk1, ghk2na, ghk2nb, hk3, ehk9]
          · dsimp only at h
            obtain rfl := so_some h
            refine ⟨Lhk9, fun L hL => ?_⟩
            have ehk9 := ehk9 L (by omega)
            try simp only [go_sem, E_spec_IsName_l1, R_spec_IsName_l1, ir51_k0, ir51_o0, ir51_r0, ghk1, hk1, ghk2na, ghk2nb, hk3] at ehk9
            simp only [go_sem, ir51, E_spec_IsName_l1, R_spec_IsName_l1, ir51_k0, ir51_o0, ir51_r0, ghk1, hk1, ghk2na, ghk2nb, hk3, ehk9]
  · have ghk1n := no_f ghk1
    rcases or_t ghk1n with ghk1na | ⟨ghk1na, ghk1nb⟩
    · try simp only [go_sem, n1, n2, n3, n4] at ghk1na
      all_goals
      obtain ⟨hk2, h⟩ := ck_some h
      rcases or_split hk2 with ⟨ghk2, hk2⟩ | ghk2
      · try simp only [go_sem, n1, n2, n3, n4, ghk1na] at ghk2
        all_goals
        obtain ⟨y_2, hhk2⟩ := Option.isSome_iff_exists.1 hk2
        have fhk2 := Fs_spec_l01Small hhk2
        try simp only [go_sem, ghk1na, ghk2] at fhk2
        rcases it_some h with ⟨hk3, h⟩ | ⟨hk3, h⟩
        · try simp only [go_sem, n1, n2, n3, n4, ghk1na, ghk2, hhk2] at hk3
          all_goals
          obtain rfl := so_some h
          refine ⟨0, fun L hL => ?_⟩
          simp only [go_sem, ir51, E_spec_IsName_l1, R_spec_IsName_l1, ir51_k0, ir51_o0, ir51_r0, ghk1na, ghk2, hhk2, fhk2, hk3]
        · try simp only [go_sem, n1, n2, n3, n4, ghk1na, ghk2, hhk2] at hk3
          all_goals
          obtain ⟨y_9, hk9, h⟩ := bd_some h
          obtain ⟨Lhk9, ehk9⟩ := spec_IsName_l1_ex hk9
          rcases y_9 with y_9a | y_9b
          · dsimp only at h
            obtain rfl := so_some h
            refine ⟨Lhk9, fun L hL => ?_⟩
            have ehk9 := ehk9 L (by omega)
            try simp only [go_sem, E_spec_IsName_l1, R_spec_IsName_l1, ir51_k0, ir51_o0, ir51_r0, ghk1na, ghk2, hhk2, hk3] at ehk9
            simp only [go_sem, ir51, E_spec_IsName_l1, R_spec_IsName_l1, ir51_k0, ir51_o0, ir51_r0, ghk1na, ghk2, hhk2, fhk2, hk3, ehk9]
          · dsimp only at h
            obtain rfl := so_some h
            refine ⟨Lhk9, fun L hL => ?_⟩
            have ehk9 := ehk9 L (by omega)
            try simp only [go_sem, E_spec_IsName_l1, R_spec_IsName_l1, ir51_k0, ir51_o0, ir51_r0, ghk1na, ghk2, hhk2, hk3] at ehk9
            simp only [go_sem, ir51, E_spec_IsName_l1, R_spec_IsName_l1, ir51_k0, ir51_o0, ir51_r0, ghk1na, ghk2, hhk2, fhk2, hk3, ehk9]
      · have ghk2n := no_f ghk2
        rcases or_t ghk2n with ghk2na | ⟨ghk2na, ghk2nb⟩
        · try simp only [go_sem, n1, n2, n3, n4, ghk1na] at ghk2na
          all_goals
          rcases it_some h with ⟨hk3, h⟩ | ⟨hk3, h⟩
          · try simp only [go_sem, n1, n2, n3, n4, ghk1na, ghk2na] at hk3
            all_goals
            obtain rfl := so_some h
            refine ⟨0, fun L hL => ?_⟩
            simp only [go_sem, ir51, E_spec_IsName_l1, R_spec_IsName_l1, ir51_k0, ir51_o0, ir51_r0, ghk1na, ghk2na, hk3]
          · try simp only [go_sem, n1, n2, n3, n4, ghk1na, ghk2na] at hk3
            all_goals
            obtain ⟨y_9, hk9, h⟩ := bd_some h
            obtain ⟨Lhk9, ehk9⟩ := spec_IsName_l1_ex hk9
            rcases y_9 with y_9a | y_9b
            · dsimp only at h
              obtain rfl := so_some h
              refine ⟨Lhk9, fun L hL => ?_⟩
              have ehk9 := ehk9 L (by omega)
              try simp only [go_sem, E_spec_IsName_l1, R_spec_IsName_l1, ir51_k0, ir51_o0, ir51_r0, ghk1na, ghk2na, hk3] at ehk9
              simp only [go_sem, ir51, E_spec_IsName_l1, R_spec_IsName_l1, ir51_k0, ir51_o0, ir51_r0, ghk1na, ghk2na, hk3, ehk9]
            · dsimp only at h
              obtain rfl := so_some h
              refine ⟨Lhk9, fun L hL => ?_⟩
              have ehk9 := ehk9 L (by omega)
              try simp only [go_sem, E_spec_IsName_l1, R_spec_IsName_l1, ir51_k0, ir51_o0, ir51_r0, ghk1na, ghk2na, hk3] at ehk9
              simp only [go_sem, ir51, E_spec_IsName_l1, R_spec_IsName_l1, ir51_k0, ir51_o0, ir51_r0, ghk1na, ghk2na, hk3, ehk9]
        · try simp only [go_sem, n1, n2, n3, n4, ghk1na] at ghk2na
          all_goals
          try simp only [go_sem, n1, n2, n3, n4, ghk1na, ghk2na] at ghk2nb
          all_goals
          rcases it_some h with ⟨hk3, h⟩ | ⟨hk3, h⟩
          · try simp only [go_sem, n1, n2, n3, n4, ghk1na, ghk2na, ghk2nb] at hk3
            all_goals
            obtain rfl := so_some h
            refine ⟨0, fun L hL => ?_⟩
            simp only [go_sem, ir51, E_spec_IsName_l1, R_spec_IsName_l1, ir51_k0, ir51_o0, ir51_r0, ghk1na, ghk2na, ghk2nb, hk3]
          · try simp only [go_sem, n1, n2, n3, n4, ghk1na, ghk2na, ghk2nb] at hk3
            all_goals
            obtain ⟨y_9, hk9, h⟩ := bd_some h
            obtain ⟨Lhk9, ehk9⟩ := spec_IsName_l1_ex hk9
            rcases y_9 with y_9a | y_9b
            · dsimp only at h
              obtain rfl := so_some h
              refine ⟨Lhk9, fun L hL => ?_⟩
              have ehk9 := ehk9 L (by omega)
              try simp only [go_sem, E_spec_IsName_l1, R_spec_IsName_l1, ir51_k0, ir51_o0, ir51_r0, ghk1na, ghk2na, ghk2nb, hk3] at ehk9
              simp only [go_sem, ir51, E_spec_IsName_l1, R_spec_IsName_l1, ir51_k0, ir51_o0, ir51_r0, ghk1na, ghk2na, ghk2nb, hk3, ehk9]
            · dsimp only at h
              obtain rfl := so_some h
              refine ⟨Lhk9, fun L hL => ?_⟩
              have ehk9 := ehk9 L (by omega)
              try simp only [go_sem, E_spec_IsName_l1, R_spec_IsName_l1, ir51_k0, ir51_o0, ir51_r0, ghk1na, ghk2na, ghk2nb, hk3] at ehk9
              simp only [go_sem, ir51, E_spec_IsName_l1, R_spec_IsName_l1, ir51_k0, ir51_o0, ir51_r0, ghk1na, ghk2na, ghk2nb, hk3, ehk9]
    · try simp only [go_sem, n1, n2, n3, n4] at ghk1na
      all_goals
      try simp only [go_sem, n1, n2, n3, n4, ghk1na] at ghk1nb
      all_goals
      obtain ⟨hk2, h⟩ := ck_some h
      rcases or_split hk2 with ⟨ghk2, hk2⟩ | ghk2
      · try simp only [go_sem, n1, n2, n3, n4, ghk1na, ghk1nb] at ghk2
        all_goals
        obtain ⟨y_2, hhk2⟩ := Option.isSome_iff_exists.1 hk2
        have fhk2 := Fs_spec_l01Small hhk2
        try simp only [go_sem, ghk1na, ghk1nb, ghk2] at fhk2
        rcases it_some h with ⟨hk3, h⟩ | ⟨hk3, h⟩
        · try simp only [go_sem, n1, n2, n3, n4, ghk1na, ghk1nb, ghk2, hhk2] at hk3
          all_goals
          obtain rfl := so_some h
          refine ⟨0, fun L hL => ?_⟩
          simp only [go_sem, ir51, E_spec_IsName_l1, R_spec_IsName_l1, ir51_k0, ir51_o0, ir51_r0, ghk1na, ghk1nb, ghk2, hhk2, fhk2, hk3]
        · try simp only [go_sem, n1, n2, n3, n4, ghk1na, ghk1nb, ghk2, hhk2] at hk3
          all_goals
          obtain ⟨y_9, hk9, h⟩ := bd_some h
          obtain ⟨Lhk9, ehk9⟩ := spec_IsName_l1_ex hk9
          rcases y_9 with y_9a | y_9b
          · dsimp only at h
            obtain rfl := so_some h
            refine ⟨Lhk9, fun L hL => ?_⟩
            have ehk9 := ehk9 L (by omega)
            try simp only [go_sem, E_spec_IsName_l1, R_spec_IsName_l1, ir51_k0, ir51_o0, ir51_r0, ghk1na, ghk1nb, ghk2, hhk2, hk3] at ehk9
            simp only [go_sem, ir51, E_spec_IsName_l1, R_spec_IsName_l1, ir51_k0, ir51_o0, ir51_r0, ghk1na, ghk1nb, ghk2, hhk2, fhk2, hk3, ehk9]
          · dsimp only at h
            obtain rfl := so_some h
            refine ⟨Lhk9, fun L hL => ?_⟩
            have ehk9 := ehk9 L (by omega)
            try simp only [go_sem, E_spec_IsName_l1, R_spec_IsName_l1, ir51_k0, ir51_o0, ir51_r0, ghk1na, ghk1nb, ghk2, hhk2, hk3] at ehk9
            simp only [go_sem, ir51, E_spec_IsName_l1, R_spec_IsName_l1, ir51_k0, ir51_o0, ir51_r0, ghk1na, ghk1nb, ghk2, hhk2, fhk2, hk3, ehk9]
      · have ghk2n := no_f ghk2
        rcases or_t ghk2n with ghk2na | ⟨ghk2na, ghk2nb⟩
        · try simp only [go_sem, n1, n2, n3, n4, ghk1na, ghk1nb] at ghk2na
          all_goals
          rcases it_some h with ⟨hk3, h⟩ | ⟨hk3, h⟩
          · try simp only [go_sem, n1, n2, n3, n4, ghk1na, ghk1nb, ghk2na] at hk3
            all_goals
            obtain rfl := so_some h
            refine ⟨0, fun L hL => ?_⟩
            simp only [go_sem, ir51, E_spec_IsName_l1, R_spec_IsName_l1, ir51_k0, ir51_o0, ir51_r0, ghk1na, ghk1nb, ghk2na, hk3]
          · try simp only [go_sem, n1, n2, n3, n4, ghk1na, ghk1nb, ghk2na] at hk3
            all_goals
            obtain ⟨y_9, hk9, h⟩ := bd_some h
            obtain ⟨Lhk9, ehk9⟩ := spec_IsName_l1_ex hk9
            rcases y_9 with y_9a | y_9b
            · dsimp only at h
              obtain rfl := so_some h
              refine ⟨Lhk9, fun L hL => ?_⟩
              have ehk9 := ehk9 L (by omega)
              try simp only [go_sem, E_spec_IsName_l1, R_spec_IsName_l1, ir51_k0, ir51_o0, ir51_r0, ghk1na, ghk1nb, ghk2na, hk3] at ehk9
              simp only [go_sem, ir51, E_spec_IsName_l1, R_spec_IsName_l1, ir51_k0, ir51_o0, ir51_r0, ghk1na, ghk1nb, ghk2na, hk3, ehk9]
            · dsimp only at h
              obtain rfl := so_some h
              refine ⟨Lhk9, fun L hL => ?_⟩
              have ehk9 := ehk9 L (by omega)
              try simp only [go_sem, E_spec_IsName_l1, R_spec_IsName_l1, ir51_k0, ir51_o0, ir51_r0, ghk1na, ghk1nb, ghk2na, hk3] at ehk9
              simp only [go_sem, ir51, E_spec_IsName_l1, R_spec_IsName_l1, ir51_k0, ir51_o0, ir51_r0, ghk1na, ghk1nb, ghk2na, hk3, ehk9]
        · try simp only [go_sem, n1, n2, n3, n4, ghk1na, ghk1nb] at ghk2na
          all_goals
          try simp only [go_sem, n1, n2, n3, n4, ghk1na, ghk1nb, ghk2na] at ghk2nb
          all_goals
          rcases it_some h with ⟨hk3, h⟩ | ⟨hk3, h⟩
          · try simp only [go_sem, n1, n2, n3, n4, ghk1na, ghk1nb, ghk2na, ghk2nb] at hk3
            all_goals
            obtain rfl := so_some h
            refine ⟨0, fun L hL => ?_⟩
            simp only [go_sem, ir51, E_spec_IsName_l1, R_spec_IsName_l1, ir51_k0, ir51_o0, ir51_r0, ghk1na, ghk1nb, ghk2na, ghk2nb, hk3]
          · try simp only [go_sem, n1, n2, n3, n4, ghk1na, ghk1nb, ghk2na, ghk2nb] at hk3
            all_goals
            obtain ⟨y_9, hk9, h⟩ := bd_some h
            obtain ⟨Lhk9, ehk9⟩ := spec_IsName_l1_ex hk9
            rcases y_9 with y_9a | y_9b
            · dsimp only at h
              obtain rfl := so_some h
              refine ⟨Lhk9, fun L hL => ?_⟩
              have ehk9 := ehk9 L (by omega)
              try simp only [go_sem, E_spec_IsName_l1, R_spec_IsName_l1, ir51_k0, ir51_o0, ir51_r0, ghk1na, ghk1nb, ghk2na, ghk2nb, hk3] at ehk9
              simp only [go_sem, ir51, E_spec_IsName_l1, R_spec_IsName_l1, ir51_k0, ir51_o0, ir51_r0, ghk1na, ghk1nb, ghk2na, ghk2nb, hk3, ehk9]
            · dsimp only at h
              obtain rfl := so_some h
              refine ⟨Lhk9, fun L hL => ?_⟩
              have ehk9 := ehk9 L (by omega)
              try simp only [go_sem, E_spec_IsName_l1, R_spec_IsName_l1, ir51_k0, ir51_o0, ir51_r0, ghk1na, ghk1nb, ghk2na, ghk2nb, hk3] at ehk9
              simp only [go_sem, ir51, E_spec_IsName_l1, R_spec_IsName_l1, ir51_k0, ir51_o0, ir51_r0, ghk1na, ghk1nb, ghk2na, ghk2nb, hk3, ehk9]


def ir68_v : List Nat := [0, 2]
def ir68 : AFn := ⟨1, 2, .seq (.region false [
    ⟨.var 1, 2, none, .mov (.c (.bool false))⟩])
 (.seq (.region false [
    ⟨.push, 3, none, .mov (.v 0)⟩,
    ⟨.push, 4, none, .nilck (.s 0)⟩,
    ⟨.push, 5, none, .fldAddr 0 (.s 0)⟩,
    ⟨.push, 6, none, .load false 1 (.s 0)⟩,
    ⟨.push, 7, none, .call 85 [(.s 0)]⟩,
    ⟨.push, 8, none, .mov (.s 0)⟩,
    ⟨.push, 9, (some ((.s 0), true)), .mov (.v 0)⟩,
    ⟨.push, 10, (some ((.s 1), true)), .nilck (.s 0)⟩,
    ⟨.push, 11, (some ((.s 2), true)), .fldAddr 1 (.s 0)⟩,
    ⟨.push, 12, (some ((.s 3), true)), .load false 1 (.s 0)⟩,
    ⟨.push, 13, (some ((.s 4), true)), .call 51 [(.s 0)]⟩,
    ⟨.push, 14, none, .pick (.s 5) (.s 0) (.c (.bool false))⟩,
    ⟨.push, 15, none, .mov (.s 0)⟩,
    ⟨.push, 16, (some ((.s 0), true)), .mov (.v 0)⟩,
    ⟨.push, 17, (some ((.s 1), true)), .nilck (.s 0)⟩,
    ⟨.push, 18, (some ((.s 2), true)), .fldAddr 2 (.s 0)⟩,
    ⟨.push, 19, (some ((.s 3), true)), .load false 1 (.s 0)⟩,
    ⟨.push, 20, (some ((.s 4), true)), .call 75 [(.s 0), (.c (.int .i64 (-1000000))), (.c (.int .i64 (1000000)))]⟩,
    ⟨.push, 21, none, .pick (.s 5) (.s 0) (.c (.bool false))⟩,
    ⟨.var 1, 2, none, .mov (.s 0)⟩])
 (.ret)), [.t 1]⟩
noncomputable def t_spec_l27Ok : List (Nat × Ctr) := [(85, c_spec_l27Day), (51, c_spec_IsName), (75, c_spec_l00In)]
theorem lk_spec_l27Ok_85 : look t_spec_l27Ok 85 = some c_spec_l27Day := rfl
theorem lk_spec_l27Ok_51 : look t_spec_l27Ok 51 = some c_spec_IsName := rfl
theorem lk_spec_l27Ok_75 : look t_spec_l27Ok 75 = some c_spec_l00In := rfl
noncomputable def c_spec_l27Ok : Ctr := mkF t_spec_l27Ok ir68 [.bor]
theorem s_spec_l27Ok : Sound Tryz.prog 68 c_spec_l27Ok := mkF_sound _ rfl (snd_cons s_spec_l27Day (snd_cons s_spec_IsName (snd_cons s_spec_l00In snd_nil))) (by kernel_rfl : chkFn Tryz.prog 68 ir68 ir68_v = true)
theorem M_spec_l27Ok : c_spec_l27Ok.modes = [.bor] := rfl
theorem Fl_spec_l27Ok : c_spec_l27Ok.flat = true := rfl
attribute [go_sem] M_spec_l27Ok Fl_spec_l27Ok
attribute [go_sem] lk_spec_l27Ok_85 lk_spec_l27Ok_51 lk_spec_l27Ok_75
theorem Fs_spec_l27Ok {e_ : Entry} {y_ : Bool} (h : spec_l27Ok e_ = some y_) : c_spec_l27Ok.F [.ptr 3 [Entry_av e_] 0 0] = ⟨true, .bool y_, [.any]⟩ := by
  refine mkF_E rfl ?_
  dsimp only [spec_l27Ok] at h
  obtain ⟨y_1, hk1, h⟩ := bd_some h
  have fhk1 := Fs_spec_l27Day hk1
  try simp only [go_sem] at fhk1
  obtain ⟨hk2, h⟩ := ck_some h
  rcases or_split hk2 with ⟨ghk2, hk2⟩ | ghk2
  · try simp only [go_sem, n1, n2, n3, n4] at ghk2
    all_goals
    obtain ⟨y_2, hhk2⟩ := Option.isSome_iff_exists.1 hk2
    have fhk2 := Fs_spec_IsName hhk2
    try simp only [go_sem, ghk2] at fhk2
    obtain ⟨hk3, h⟩ := ck_some h
    rcases or_split hk3 with ⟨ghk3, hk3⟩ | ghk3
    · try simp only [go_sem, n1, n2, n3, n4, ghk2, hhk2] at ghk3
      all_goals
      obtain ⟨y_3, hhk3⟩ := Option.isSome_iff_exists.1 hk3
      have fhk3 := Fs_spec_l00In hhk3
      try simp only [go_sem, ghk2, hhk2, ghk3] at fhk3
      obtain rfl := so_some h
      refine ⟨0, fun L hL => ?_⟩
      simp only [go_sem, ir68, fhk1, ghk2, hhk2, fhk2, ghk3, hhk3, fhk3]
    · rcases and_f ghk3 with ghk3a | ⟨ghk3a, ghk3b⟩
      · try simp only [go_sem, n1, n2, n3, n4, ghk2, hhk2] at ghk3a
        all_goals
        obtain rfl := so_some h
        refine ⟨0, fun L hL => ?_⟩
        simp only [go_sem, ir68, fhk1, ghk2, hhk2, fhk2, ghk3a]
      · try simp only [go_sem, n1, n2, n3, n4, ghk2, hhk2] at ghk3a
        all_goals
        try simp only [go_sem, n1, n2, n3, n4, ghk2, hhk2, ghk3a] at ghk3b
        all_goals
        obtain rfl := so_some h
        refine ⟨0, fun L hL => ?_⟩
        simp only [go_sem, ir68, fhk1, ghk2, hhk2, fhk2, ghk3a, ghk3b]
  · try simp only [go_sem, n1, n2, n3, n4] at ghk2
    all_goals
    obtain ⟨hk3, h⟩ := ck_some h
    rcases or_split hk3 with ⟨ghk3, hk3⟩ | ghk3
    · try simp only [go_sem, n1, n2, n3, n4, ghk2] at ghk3
      all_goals
      obtain ⟨y_3, hhk3⟩ := Option.isSome_iff_exists.1 hk3
      have fhk3 := Fs_spec_l00In hhk3
      try simp only [go_sem, ghk2, ghk3] at fhk3
      obtain rfl := so_some h
      refine ⟨0, fun L hL => ?_⟩
      simp only [go_sem, ir68, fhk1, ghk2, ghk3, hhk3, fhk3]
    · rcases and_f ghk3 with ghk3a | ⟨ghk3a, ghk3b⟩
      · try simp only [go_sem, n1, n2, n3, n4, ghk2] at ghk3a
        all_goals
        obtain rfl := so_some h
        refine ⟨0, fun L hL => ?_⟩
        simp only [go_sem, ir68, fhk1, ghk2, ghk3a]
      · try simp only [go_sem, n1, n2, n3, n4, ghk2] at ghk3a
        all_goals
        try simp only [go_sem, n1, n2, n3, n4, ghk2, ghk3a] at ghk3b
        all_goals
        obtain rfl := so_some h
        refine ⟨0, fun L hL => ?_⟩
        simp only [go_sem, ir68, fhk1, ghk2, ghk3a, ghk3b]


def ir69_v : List Nat := [0, 2]
def ir69 : AFn := ⟨1, 2, .seq (.region false [
    ⟨.var 1, 2, none, .mov (.c (.int .i64 (0)))⟩])
 (.seq (.test false [
    ⟨.push, 3, none, .mov (.v 0)⟩,
    ⟨.push, 4, none, .nilck (.s 0)⟩,
    ⟨.push, 5, none, .fldAddr 3 (.s 0)⟩,
    ⟨.push, 6, none, .load false 1 (.s 0)⟩,
    ⟨.push, 7, none, .len false (.s 0)⟩,
    ⟨.push, 8, none, .bin false .eql (.s 0) (.c (.int .i64 (0)))⟩] (.s 0)
  (.seq (.region false [
      ⟨.var 1, 2, none, .mov (.c (.int .i64 (0)))⟩])
   (.ret))
  (.skip))
 (.seq (.anyo 13 [
    ⟨.slot 0, 9, none, .mov (.v 0)⟩,
    ⟨.slot 1, 10, none, .nilck (.s 0)⟩,
    ⟨.slot 2, 11, none, .fldAddr 3 (.s 1)⟩,
    ⟨.slot 3, 12, none, .load false 1 (.s 2)⟩,
    ⟨.slot 4, 13, none, .mov (.v 0)⟩,
    ⟨.slot 5, 14, none, .nilck (.s 4)⟩,
    ⟨.slot 6, 15, none, .fldAddr 3 (.s 5)⟩,
    ⟨.slot 7, 16, none, .load false 1 (.s 6)⟩,
    ⟨.slot 8, 17, none, .len false (.s 7)⟩,
    ⟨.slot 9, 18, none, .bin false .sub (.s 8) (.c (.int .i64 (1)))⟩,
    ⟨.slot 10, 19, none, .ixAddr 3 (.s 3) (.s 9)⟩,
    ⟨.slot 11, 20, none, .fldAddr 0 (.s 10)⟩,
    ⟨.slot 12, 21, none, .load false 1 (.s 11)⟩,
    ⟨.var 1, 2, none, .mov (.s 12)⟩] [] .skip)
 (.ret))), [.t 1]⟩
noncomputable def t_spec_l27R_day : List (Nat × Ctr) := []
noncomputable def c_spec_l27R_day : Ctr := mkF t_spec_l27R_day ir69 [.bor]
theorem s_spec_l27R_day : Sound Tryz.prog 69 c_spec_l27R_day := mkF_sound _ rfl snd_nil (by kernel_rfl : chkFn Tryz.prog 69 ir69 ir69_v = true)
theorem M_spec_l27R_day : c_spec_l27R_day.modes = [.bor] := rfl
theorem Fl_spec_l27R_day : c_spec_l27R_day.flat = true := rfl
attribute [go_sem] M_spec_l27R_day Fl_spec_l27R_day
theorem Fs_spec_l27R_day {r : L27R} {y_ : Int} (h : spec_l27R_day r = some y_) : c_spec_l27R_day.F [.ptr 4 [L27R_av r] 0 0] = ⟨true, .int .i64 y_, [.any]⟩ := by
  refine mkF_E rfl ?_
  dsimp only [spec_l27R_day] at h
  rcases it_some h with ⟨hk1, h⟩ | ⟨hk1, h⟩
  · try simp only [go_sem, n1, n2, n3, n4] at hk1
    all_goals
    obtain rfl := so_some h
    refine ⟨0, fun L hL => ?_⟩
    simp only [go_sem, ir69, hk1]
  · try simp only [go_sem, n1, n2, n3, n4] at hk1
    all_goals
    obtain ⟨hk2, h⟩ := ck_some h
    have lhk2 := ix_lt hk2
    have xhk2 := getD_mapD Entry_av r.list_ lhk2
    try simp only [go_sem] at lhk2
    try simp only [go_sem] at xhk2
    try simp only [go_sem, n1, n2, n3, n4, hk1] at hk2
    all_goals
    obtain rfl := so_some h
    refine ⟨0, fun L hL => ?_⟩
    simp only [go_sem, ir69, hk1, hk2, lhk2, xhk2]


section
variable (PINV : Value)
def ir50_b0 : IR := .seq (.test false [
    ⟨.push, 15, none, .mov (.v 2)⟩,
    ⟨.push, 16, none, .mov (.v 0)⟩,
    ⟨.push, 17, none, .nilck (.s 0)⟩,
    ⟨.push, 18, none, .fldAddr 0 (.s 0)⟩,
    ⟨.push, 19, none, .load false 1 (.s 0)⟩,
    ⟨.push, 20, none, .len true (.s 0)⟩,
    ⟨.push, 21, none, .bin false .lss (.s 5) (.s 0)⟩,
    ⟨.push, 22, none, .mov (.s 0)⟩,
    ⟨.push, 23, (some ((.s 0), true)), .mov (.v 0)⟩,
    ⟨.push, 24, (some ((.s 1), true)), .nilck (.s 0)⟩,
    ⟨.push, 25, (some ((.s 2), true)), .fldAddr 0 (.s 0)⟩,
    ⟨.push, 26, (some ((.s 3), true)), .load false 1 (.s 0)⟩,
    ⟨.push, 27, (some ((.s 4), true)), .mov (.v 2)⟩,
    ⟨.push, 28, (some ((.s 5), true)), .ixStr (.s 1) (.s 0)⟩,
    ⟨.push, 29, (some ((.s 6), true)), .bin false .neq (.s 0) (.c (.int .u8 (10)))⟩,
    ⟨.push, 30, none, .pick (.s 7) (.s 0) (.c (.bool false))⟩] (.s 0)
  (.skip)
  (.exit 0))
 (.block 1 (.region false [
    ⟨.push, 31, none, .mov (.v 2)⟩,
    ⟨.push, 32, none, .bin false .add (.s 0) (.c (.int .i64 (1)))⟩,
    ⟨.var 2, 3, none, .mov (.s 0)⟩]))
def ir50_k0 : List Bool := [true, true, true, false, false, false, false, false, true, true, true]
def ir50_o0 : List Bool := [true, true, true, false, false, false, false, false, true, true, true]
def ir50_r0 : List Bool := [false, true, true, false, false, false, false, false, true, true, true]
def ir50_v : List Nat := [0, 2, 3, 4, 5, 6, 7, 8, 9, 10, 0]
def ir50 : AFn := ⟨1, 11, .seq (.region false [
    ⟨.var 1, 2, none, .mov (.c (.bool false))⟩])
 (.seq (.region false [
    ⟨.push, 11, none, .mov (.v 0)⟩,
    ⟨.push, 12, none, .nilck (.s 0)⟩,
    ⟨.push, 13, none, .fldAddr 1 (.s 0)⟩,
    ⟨.push, 14, none, .load false 1 (.s 0)⟩,
    ⟨.var 2, 3, none, .mov (.s 0)⟩])
 (.seq (.block 0 (.loop ir50_k0 ir50_o0 ir50_r0 ir50_b0))
 (.seq (.test false [
    ⟨.push, 33, none, .mov (.v 2)⟩,
    ⟨.push, 34, none, .mov (.v 0)⟩,
    ⟨.push, 35, none, .nilck (.s 0)⟩,
    ⟨.push, 36, none, .fldAddr 0 (.s 0)⟩,
    ⟨.push, 37, none, .load false 1 (.s 0)⟩,
    ⟨.push, 38, none, .len true (.s 0)⟩,
    ⟨.push, 39, none, .bin false .geq (.s 5) (.s 0)⟩] (.s 0)
  (.seq (.region false [
      ⟨.var 1, 2, none, .mov (.c (.bool false))⟩])
   (.ret))
  (.skip))
 (.seq (.anyo 11 [
    ⟨.slot 0, 40, none, .mov (.v 0)⟩,
    ⟨.slot 1, 41, none, .nilck (.s 0)⟩,
    ⟨.slot 2, 42, none, .fldAddr 0 (.s 1)⟩,
    ⟨.slot 3, 43, none, .load false 1 (.s 2)⟩,
    ⟨.slot 4, 44, none, .mov (.v 0)⟩,
    ⟨.slot 5, 45, none, .nilck (.s 4)⟩,
    ⟨.slot 6, 46, none, .fldAddr 1 (.s 5)⟩,
    ⟨.slot 7, 47, none, .load false 1 (.s 6)⟩,
    ⟨.slot 8, 48, none, .mov (.v 2)⟩,
    ⟨.slot 9, 49, none, .pur (.slice 0 (.s 3) (some (.s 7)) (some (.s 8)))⟩,
    ⟨.slot 10, 50, none, .pur (.call 66 [(.s 9), (.c (.int .u8 (32)))])⟩,
    ⟨.var 3, 4, none, .mov (.s 10)⟩] [] .skip)
 (.seq (.test false [
    ⟨.push, 51, none, .mov (.v 3)⟩,
    ⟨.push, 52, none, .len false (.s 0)⟩,
    ⟨.push, 53, none, .bin false .neq (.s 0) (.c (.int .i64 (4)))⟩] (.s 0)
  (.seq (.region false [
      ⟨.var 1, 2, none, .mov (.c (.bool false))⟩])
   (.ret))
  (.skip))
 (.seq (.region false [
    ⟨.push, 55, none, .mov (.v 3)⟩,
    ⟨.push, 56, none, .ixAddr 1 (.s 0) (.c (.int .i64 (0)))⟩,
    ⟨.push, 57, none, .load false 1 (.s 0)⟩,
    ⟨.push, 58, none, .call 67 [(.s 0)]⟩,
    ⟨.push, 54, none, .mov (.s 0)⟩,
    ⟨.push, 59, none, .ext (.s 0) 0⟩,
    ⟨.push, 60, none, .ext (.s 1) 1⟩,
    ⟨.var 4, 5, none, .mov (.s 1)⟩,
    ⟨.var 5, 6, none, .mov (.s 0)⟩])
 (.seq (.region false [
    ⟨.push, 62, none, .mov (.v 3)⟩,
    ⟨.push, 63, none, .ixAddr 1 (.s 0) (.c (.int .i64 (2)))⟩,
    ⟨.push, 64, none, .load false 1 (.s 0)⟩,
    ⟨.push, 65, none, .call 67 [(.s 0)]⟩,
    ⟨.push, 61, none, .mov (.s 0)⟩,
    ⟨.push, 66, none, .ext (.s 0) 0⟩,
    ⟨.push, 67, none, .ext (.s 1) 1⟩,
    ⟨.var 6, 7, none, .mov (.s 1)⟩,
    ⟨.var 7, 8, none, .mov (.s 0)⟩])
 (.seq (.region false [
    ⟨.push, 68, none, .mov (.v 4)⟩,
    ⟨.push, 69, none, .mov (.v 3)⟩,
    ⟨.push, 70, none, .ixAddr 1 (.s 0) (.c (.int .i64 (1)))⟩,
    ⟨.push, 71, none, .load false 1 (.s 0)⟩,
    ⟨.push, 72, none, .mov (.v 6)⟩,
    ⟨.push, 73, none, .build [.int .i64 (0), .str [], .int .i64 (0)] [(0, 1, (.s 4)), (1, 1, (.s 1)), (2, 1, (.s 0))]⟩,
    ⟨.var 8, 9, none, .alloc (.agg [.int .i64 (0), .str [], .int .i64 (0)])⟩,
    ⟨.no, 0, none, .store 3 (.v 8) (.s 0)⟩])
 (.seq (.anyo 17 [
    ⟨.slot 0, 74, none, .mov (.v 5)⟩,
    ⟨.slot 1, 75, none, .un .not (.s 0)⟩,
    ⟨.slot 2, 76, none, .mov (.s 1)⟩,
    ⟨.slot 3, 77, (some ((.s 2), false)), .mov (.v 7)⟩,
    ⟨.slot 4, 78, (some ((.s 2), false)), .un .not (.s 3)⟩,
    ⟨.slot 5, 79, none, .pick (.s 2) (.c (.bool true)) (.s 4)⟩,
    ⟨.slot 6, 80, none, .mov (.s 5)⟩,
    ⟨.slot 7, 81, (some ((.s 6), false)), .call 68 [(.v 8)]⟩,
    ⟨.slot 8, 82, (some ((.s 6), false)), .un .not (.s 7)⟩,
    ⟨.slot 9, 83, none, .pick (.s 6) (.c (.bool true)) (.s 8)⟩,
    ⟨.slot 10, 84, none, .mov (.s 9)⟩,
    ⟨.slot 11, 85, (some ((.s 10), false)), .fldAddr 0 (.v 8)⟩,
    ⟨.slot 12, 86, (some ((.s 10), false)), .load false 1 (.s 11)⟩,
    ⟨.slot 13, 87, (some ((.s 10), false)), .mov (.v 0)⟩,
    ⟨.slot 14, 88, (some ((.s 10), false)), .call 69 [(.s 13)]⟩,
    ⟨.slot 15, 89, (some ((.s 10), false)), .bin false .lss (.s 12) (.s 14)⟩,
    ⟨.slot 16, 90, none, .pick (.s 10) (.c (.bool true)) (.s 15)⟩] [] (.cond (.s 16)
  (.seq (.region false [
      ⟨.var 1, 2, none, .mov (.c (.bool false))⟩])
   (.ret))
  (.skip)))
 (.seq (.anyo 6 [
    ⟨.slot 0, 91, none, .mov (.v 0)⟩,
    ⟨.slot 1, 92, none, .nilck (.s 0)⟩,
    ⟨.slot 2, 93, none, .fldAddr 2 (.s 1)⟩,
    ⟨.slot 3, 94, none, .load false 1 (.s 2)⟩,
    ⟨.slot 4, 95, none, .callp 71 [(.v 8)]⟩,
    ⟨.slot 5, 96, none, .callp 70 [(.s 3), (.s 4)]⟩,
    ⟨.var 9, 10, none, .mov (.s 5)⟩] [] .skip)
 (.seq (.anyo 14 [
    ⟨.slot 0, 97, none, .mov (.v 9)⟩,
    ⟨.slot 1, 98, none, .callp 72 [(.s 0), (.v 8)]⟩,
    ⟨.slot 2, 99, none, .mov (.v 0)⟩,
    ⟨.slot 3, 100, none, .nilck (.s 2)⟩,
    ⟨.slot 4, 101, none, .fldAddr 0 (.s 3)⟩,
    ⟨.slot 5, 102, none, .load false 1 (.s 4)⟩,
    ⟨.slot 6, 103, none, .mov (.v 0)⟩,
    ⟨.slot 7, 104, none, .nilck (.s 6)⟩,
    ⟨.slot 8, 105, none, .fldAddr 1 (.s 7)⟩,
    ⟨.slot 9, 106, none, .load false 1 (.s 8)⟩,
    ⟨.slot 10, 107, none, .mov (.v 2)⟩,
    ⟨.slot 11, 108, none, .bin false .add (.s 10) (.c (.int .i64 (1)))⟩,
    ⟨.slot 12, 109, none, .pur (.slice 0 (.s 5) (some (.s 9)) (some (.s 11)))⟩,
    ⟨.slot 13, 110, none, .bin false .neq (.s 1) (.s 12)⟩] [] (.cond (.s 13)
  (.seq (.region false [
      ⟨.var 1, 2, none, .mov (.c (.bool false))⟩])
   (.ret))
  (.skip)))
 (.skip)))))))))))), [.t 1, .t 2, .t 8, .t 9]⟩
noncomputable def t_spec_l27R_lineA : List (Nat × Ctr) := [(66, c_spec_l01Split), (67, c_spec_l01Number), (68, c_spec_l27Ok), (69, c_spec_l27R_day), (71, c_spec_l27Words), (70, c_spec_l27Stamp), (72, c_spec_l27Line)]
theorem lk_spec_l27R_lineA_66 : look t_spec_l27R_lineA 66 = some c_spec_l01Split := rfl
theorem lk_spec_l27R_lineA_67 : look t_spec_l27R_lineA 67 = some c_spec_l01Number := rfl
theorem lk_spec_l27R_lineA_68 : look t_spec_l27R_lineA 68 = some c_spec_l27Ok := rfl
theorem lk_spec_l27R_lineA_69 : look t_spec_l27R_lineA 69 = some c_spec_l27R_day := rfl
theorem lk_spec_l27R_lineA_71 : look t_spec_l27R_lineA 71 = some c_spec_l27Words := rfl
theorem lk_spec_l27R_lineA_70 : look t_spec_l27R_lineA 70 = some c_spec_l27Stamp := rfl
theorem lk_spec_l27R_lineA_72 : look t_spec_l27R_lineA 72 = some c_spec_l27Line := rfl
attribute [go_sem] lk_spec_l27R_lineA_66 lk_spec_l27R_lineA_67 lk_spec_l27R_lineA_68 lk_spec_l27R_lineA_69 lk_spec_l27R_lineA_71 lk_spec_l27R_lineA_70 lk_spec_l27R_lineA_72
def E_spec_l27R_lineA_l1 (r : L27R) (t2 : Bool) : Int → St
  | end_ => ⟨[.ptr 4 [L27R_av r] 0 0, .bool t2, .int .i64 end_, .any, .any, .any, .any, .any, .any, .any, .cv PINV], [], [], true⟩
def R_spec_l27R_lineA_l1 (r : L27R) (t2 : Bool) (y : Int) : Res := (.exit 0, ⟨[.ptr 4 [L27R_av r] 0 0, .bool t2, .int .i64 y, .any, .any, .any, .any, .any, .any, .any, .cv PINV], [], [], true⟩)
theorem spec_l27R_lineA_l1_ex {r : L27R} {t2 : Bool} {sgm_ : Int} {rho_ : Int} (h : whileE (spec_l27R_lineA_l1 r t2) sgm_ = some rho_) : ∃ L0, ∀ L, L0 ≤ L → iter (exec (look t_spec_l27R_lineA) L ir50_b0) ir50_k0 ir50_o0 ir50_r0 L (E_spec_l27R_lineA_l1 PINV r t2 sgm_) = R_spec_l27R_lineA_l1 PINV r t2 rho_ := by
  refine loop_ex (E := E_spec_l27R_lineA_l1 PINV r t2) (R := R_spec_l27R_lineA_l1 PINV r t2) (fun y => by first | (intro c; cases c) | (rcases y with y | y <;> (intro c; cases c)) | (rcases y with y | y | y <;> (intro c; cases c))) ?_ h
  clear h
  intro end_ o_ h
  dsimp only [spec_l27R_lineA_l1] at h
  obtain ⟨hk1, h⟩ := ck_some h
  rcases or_split hk1 with ⟨ghk1, hk1⟩ | ghk1
  · try simp only [go_sem, n1, n2, n3, n4] at ghk1
    all_goals
    try simp only [go_sem, n1, n2, n3, n4, ghk1] at hk1
    all_goals
    rcases it_some h with ⟨hk2, h⟩ | ⟨hk2, h⟩
    · try simp only [go_sem, n1, n2, n3, n4, ghk1, hk1] at hk2
      all_goals
      obtain rfl := so_some h
      refine ⟨0, fun L hL => ?_⟩
      simp only [go_sem, ir50, E_spec_l27R_lineA_l1, R_spec_l27R_lineA_l1, ir50_b0, ir50_k0, ir50_o0, ir50_r0, ghk1, hk1, hk2]
    · try simp only [go_sem, n1, n2, n3, n4, ghk1, hk1] at hk2
      all_goals
      obtain rfl := so_some h
      refine ⟨0, fun L hL => ?_⟩
      simp only [go_sem, ir50, E_spec_l27R_lineA_l1, R_spec_l27R_lineA_l1, ir50_b0, ir50_k0, ir50_o0, ir50_r0, ghk1, hk1, hk2]
  · try simp only [go_sem, n1, n2, n3, n4] at ghk1
    all_goals
    rcases it_some h with ⟨hk2, h⟩ | ⟨hk2, h⟩
    · try simp only [go_sem, n1, n2, n3, n4, ghk1] at hk2
      all_goals
      obtain rfl := so_some h
      refine ⟨0, fun L hL => ?_⟩
      simp only [go_sem, ir50, E_spec_l27R_lineA_l1, R_spec_l27R_lineA_l1, ir50_b0, ir50_k0, ir50_o0, ir50_r0, ghk1, hk2]
    · try simp only [go_sem, n1, n2, n3, n4, ghk1] at hk2
      all_goals
      obtain rfl := so_some h
      refine ⟨0, fun L hL => ?_⟩
      simp only [go_sem, ir50, E_spec_l27R_lineA_l1, R_spec_l27R_lineA_l1, ir50_b0, ir50_k0, ir50_o0, ir50_r0, ghk1, hk2]

def CutEnd (q : Res) (y : Option (Int × Int × Entry)) : Prop := match y with
  | none => q.1 = .ret ∧ (q.2.ok = true ∧ q.2.vs.getD 1 .any = .bool false)
  | some p => q.1 = .norm ∧ (q.2.ok = true ∧ (q.2.vs.getD 2 .any = .int .i64 p.1 ∧ (q.2.vs.getD 9 .any = .int .i64 p.2.1 ∧ q.2.vs.getD 10 .any = .cv PINV ∧ ∃ k, q.2.vs.getD 8 .any = .ref k 0 0 ∧ obGet k q.2.ob = some ⟨3, [Entry_av p.2.2]⟩)))
theorem lineA_pre {r : L27R} {y_ : Option (Int × Int × Entry)} (h : spec_l27R_lineA r = some y_) : ∃ L0, ∀ L, L0 ≤ L → CutEnd PINV (exec (look t_spec_l27R_lineA) L ir50.body ⟨[.ptr 4 [L27R_av r] 0 0, .any, .any, .any, .any, .any, .any, .any, .any, .any, .cv PINV], [], [], true⟩) y_ := by
  dsimp only [spec_l27R_lineA] at h
  obtain ⟨y_3, hk3, h⟩ := bd_some h
  obtain ⟨Lhk3, ehk3⟩ := spec_l27R_lineA_l1_ex PINV hk3
  rcases it_some h with ⟨hk4, h⟩ | ⟨hk4, h⟩
  · try simp only [go_sem, n1, n2, n3, n4] at hk4
    all_goals
    obtain rfl := so_some h
    refine ⟨Lhk3, fun L hL => ?_⟩
    have ehk3 := ehk3 L (by omega)
    try simp only [go_sem, E_spec_l27R_lineA_l1, R_spec_l27R_lineA_l1, ir50_k0, ir50_o0, ir50_r0, hk4] at ehk3
    simp only [go_sem, ir50, E_spec_l27R_lineA_l1, R_spec_l27R_lineA_l1, ir50_k0, ir50_o0, ir50_r0, hk4, ehk3]
    exact ⟨rfl, rfl, rfl⟩
  · try simp only [go_sem, n1, n2, n3, n4] at hk4
    all_goals
    obtain ⟨hk5, h⟩ := ck_some h
    try simp only [go_sem, n1, n2, n3, n4, hk4] at hk5
    all_goals
    obtain ⟨y_6, hk6, h⟩ := bd_some h
    have fhk6 := Fs_spec_l01Split hk6
    try simp only [go_sem, hk4, hk5] at fhk6
    rcases it_some h with ⟨hk7, h⟩ | ⟨hk7, h⟩
    · try simp only [go_sem, n1, n2, n3, n4, hk4, hk5] at hk7
      all_goals
      obtain rfl := so_some h
      refine ⟨Lhk3, fun L hL => ?_⟩
      have ehk3 := ehk3 L (by omega)
      try simp only [go_sem, E_spec_l27R_lineA_l1, R_spec_l27R_lineA_l1, ir50_k0, ir50_o0, ir50_r0, hk4, hk5, hk7] at ehk3
      simp only [go_sem, ir50, E_spec_l27R_lineA_l1, R_spec_l27R_lineA_l1, ir50_k0, ir50_o0, ir50_r0, hk4, hk5, fhk6, hk7, ehk3]
      exact ⟨rfl, rfl, rfl⟩
    · try simp only [go_sem, n1, n2, n3, n4, hk4, hk5] at hk7
      all_goals
      obtain ⟨hk8, h⟩ := ck_some h
      have lhk8 := ix_lt hk8
      have xhk8 := getD_mapD AV.str y_6 lhk8
      try simp only [go_sem] at lhk8
      try simp only [go_sem] at xhk8
      try simp only [go_sem, n1, n2, n3, n4, hk4, hk5, hk7] at hk8
      all_goals
      obtain ⟨y_9, hk9, h⟩ := bd_some h
      have fhk9 := Fs_spec_l01Number hk9
      try simp only [go_sem, hk4, hk5, hk7, hk8] at fhk9
      obtain ⟨hk10, h⟩ := ck_some h
      have lhk10 := ix_lt hk10
      have xhk10 := getD_mapD AV.str y_6 lhk10
      try simp only [go_sem] at lhk10
      try simp only [go_sem] at xhk10
      try simp only [go_sem, n1, n2, n3, n4, hk4, hk5, hk7, hk8] at hk10
      all_goals
      obtain ⟨y_11, hk11, h⟩ := bd_some h
      have fhk11 := Fs_spec_l01Number hk11
      try simp only [go_sem, hk4, hk5, hk7, hk8, hk10] at fhk11
      obtain ⟨hk12, h⟩ := ck_some h
      have lhk12 := ix_lt hk12
      have xhk12 := getD_mapD AV.str y_6 lhk12
      try simp only [go_sem] at lhk12
      try simp only [go_sem] at xhk12
      try simp only [go_sem, n1, n2, n3, n4, hk4, hk5, hk7, hk8, hk10] at hk12
      all_goals
      obtain ⟨hk13, h⟩ := ck_some h
      rcases or_split hk13 with ⟨ghk13, hk13⟩ | ghk13
      · try simp only [go_sem, n1, n2, n3, n4, hk4, hk5, hk7, hk8, hk10, hk12] at ghk13
        all_goals
        obtain ⟨y_13, hhk13⟩ := Option.isSome_iff_exists.1 hk13
        have fhk13 := Fs_spec_l27Ok hhk13
        try simp only [go_sem, hk4, hk5, hk7, hk8, hk10, hk12, ghk13] at fhk13
        obtain ⟨hk14, h⟩ := ck_some h
        rcases or_split hk14 with ⟨ghk14, hk14⟩ | ghk14
        · try simp only [go_sem, n1, n2, n3, n4, hk4, hk5, hk7, hk8, hk10, hk12, ghk13, hhk13] at ghk14
          all_goals
          obtain ⟨y_14, hhk14⟩ := Option.isSome_iff_exists.1 hk14
          have fhk14 := Fs_spec_l27R_day hhk14
          try simp only [go_sem, hk4, hk5, hk7, hk8, hk10, hk12, ghk13, hhk13, ghk14] at fhk14
          rcases it_some h with ⟨hk15, h⟩ | ⟨hk15, h⟩
          · try simp only [go_sem, n1, n2, n3, n4, hk4, hk5, hk7, hk8, hk10, hk12, ghk13, hhk13, ghk14, hhk14] at hk15
            all_goals
            obtain rfl := so_some h
            refine ⟨Lhk3, fun L hL => ?_⟩
            have ehk3 := ehk3 L (by omega)
            try simp only [go_sem, E_spec_l27R_lineA_l1, R_spec_l27R_lineA_l1, ir50_k0, ir50_o0, ir50_r0, hk4, hk5, hk7, hk8, hk10, hk12, ghk13, hhk13, ghk14, hhk14, hk15] at ehk3
            simp only [go_sem, ir50, E_spec_l27R_lineA_l1, R_spec_l27R_lineA_l1, ir50_k0, ir50_o0, ir50_r0, hk4, hk5, fhk6, hk7, hk8, lhk8, xhk8, fhk9, hk10, lhk10, xhk10, fhk11, hk12, lhk12, xhk12, ghk13, hhk13, fhk13, ghk14, hhk14, fhk14, hk15, ehk3]
            exact ⟨rfl, rfl, rfl⟩
          · try simp only [go_sem, n1, n2, n3, n4, hk4, hk5, hk7, hk8, hk10, hk12, ghk13, hhk13, ghk14, hhk14] at hk15
            all_goals
            obtain ⟨y_16, hk16, h⟩ := bd_some h
            have fhk16 := Fs_spec_l27Words hk16
            try simp only [go_sem, hk4, hk5, hk7, hk8, hk10, hk12, ghk13, hhk13, ghk14, hhk14, hk15] at fhk16
            obtain ⟨y_17, hk17, h⟩ := bd_some h
            have fhk17 := Fs_spec_l27Stamp hk17
            try simp only [go_sem, hk4, hk5, hk7, hk8, hk10, hk12, ghk13, hhk13, ghk14, hhk14, hk15] at fhk17
            obtain ⟨y_18, hk18, h⟩ := bd_some h
            have fhk18 := Fs_spec_l27Line hk18
            try simp only [go_sem, hk4, hk5, hk7, hk8, hk10, hk12, ghk13, hhk13, ghk14, hhk14, hk15] at fhk18
            obtain ⟨hk19, h⟩ := ck_some h
            try simp only [go_sem, n1, n2, n3, n4, hk4, hk5, hk7, hk8, hk10, hk12, ghk13, hhk13, ghk14, hhk14, hk15] at hk19
            all_goals
            rcases it_some h with ⟨hk20, h⟩ | ⟨hk20, h⟩
            · try simp only [go_sem, n1, n2, n3, n4, hk4, hk5, hk7, hk8, hk10, hk12, ghk13, hhk13, ghk14, hhk14, hk15, hk19] at hk20
              all_goals
              obtain rfl := so_some h
              refine ⟨Lhk3, fun L hL => ?_⟩
              have ehk3 := ehk3 L (by omega)
              try simp only [go_sem, E_spec_l27R_lineA_l1, R_spec_l27R_lineA_l1, ir50_k0, ir50_o0, ir50_r0, hk4, hk5, hk7, hk8, hk10, hk12, ghk13, hhk13, ghk14, hhk14, hk15, hk19, hk20] at ehk3
              simp only [go_sem, ir50, E_spec_l27R_lineA_l1, R_spec_l27R_lineA_l1, ir50_k0, ir50_o0, ir50_r0, hk4, hk5, fhk6, hk7, hk8, lhk8, xhk8, fhk9, hk10, lhk10, xhk10, fhk11, hk12, lhk12, xhk12, ghk13, hhk13, fhk13, ghk14, hhk14, fhk14, hk15, fhk16, fhk17, fhk18, hk19, hk20, ehk3]
              exact ⟨rfl, rfl, rfl⟩
            · try simp only [go_sem, n1, n2, n3, n4, hk4, hk5, hk7, hk8, hk10, hk12, ghk13, hhk13, ghk14, hhk14, hk15, hk19] at hk20
              all_goals
              obtain rfl := so_some h
              refine ⟨Lhk3, fun L hL => ?_⟩
              have ehk3 := ehk3 L (by omega)
              try simp only [go_sem, E_spec_l27R_lineA_l1, R_spec_l27R_lineA_l1, ir50_k0, ir50_o0, ir50_r0, hk4, hk5, hk7, hk8, hk10, hk12, ghk13, hhk13, ghk14, hhk14, hk15, hk19, hk20] at ehk3
              simp only [go_sem, ir50, E_spec_l27R_lineA_l1, R_spec_l27R_lineA_l1, ir50_k0, ir50_o0, ir50_r0, hk4, hk5, fhk6, hk7, hk8, lhk8, xhk8, fhk9, hk10, lhk10, xhk10, fhk11, hk12, lhk12, xhk12, ghk13, hhk13, fhk13, ghk14, hhk14, fhk14, hk15, fhk16, fhk17, fhk18, hk19, hk20, ehk3]
              exact ⟨rfl, rfl, rfl, rfl, rfl, _, rfl, rfl⟩
        · have ghk14n := no_f ghk14
          rcases or_t ghk14n with ghk14na | ⟨ghk14na, ghk14nb⟩
          · rcases or_t ghk14na with ghk14naa | ⟨ghk14naa, ghk14nab⟩
            · have ghk14naan := no_t ghk14naa
              try simp only [go_sem, n1, n2, n3, n4, hk4, hk5, hk7, hk8, hk10, hk12, ghk13, hhk13] at ghk14naan
              all_goals
              rcases it_some h with ⟨hk15, h⟩ | ⟨hk15, h⟩
              · try simp only [go_sem, n1, n2, n3, n4, hk4, hk5, hk7, hk8, hk10, hk12, ghk13, hhk13, ghk14naan] at hk15
                all_goals
                obtain rfl := so_some h
                refine ⟨Lhk3, fun L hL => ?_⟩
                have ehk3 := ehk3 L (by omega)
                try simp only [go_sem, E_spec_l27R_lineA_l1, R_spec_l27R_lineA_l1, ir50_k0, ir50_o0, ir50_r0, hk4, hk5, hk7, hk8, hk10, hk12, ghk13, hhk13, ghk14naan, hk15] at ehk3
                simp only [go_sem, ir50, E_spec_l27R_lineA_l1, R_spec_l27R_lineA_l1, ir50_k0, ir50_o0, ir50_r0, hk4, hk5, fhk6, hk7, hk8, lhk8, xhk8, fhk9, hk10, lhk10, xhk10, fhk11, hk12, lhk12, xhk12, ghk13, hhk13, fhk13, ghk14naan, hk15, ehk3]
                exact ⟨rfl, rfl, rfl⟩
              · try simp only [go_sem, n1, n2, n3, n4, hk4, hk5, hk7, hk8, hk10, hk12, ghk13, hhk13, ghk14naan] at hk15
                all_goals
                obtain ⟨y_16, hk16, h⟩ := bd_some h
                have fhk16 := Fs_spec_l27Words hk16
                try simp only [go_sem, hk4, hk5, hk7, hk8, hk10, hk12, ghk13, hhk13, ghk14naan, hk15] at fhk16
                obtain ⟨y_17, hk17, h⟩ := bd_some h
                have fhk17 := Fs_spec_l27Stamp hk17
                try simp only [go_sem, hk4, hk5, hk7, hk8, hk10, hk12, ghk13, hhk13, ghk14naan, hk15] at fhk17
                obtain ⟨y_18, hk18, h⟩ := bd_some h
                have fhk18 := Fs_spec_l27Line hk18
                try simp only [go_sem, hk4, hk5, hk7, hk8, hk10, hk12, ghk13, hhk13, ghk14naan, hk15] at fhk18
                obtain ⟨hk19, h⟩ := ck_some h
                try simp only [go_sem, n1, n2, n3, n4, hk4, hk5, hk7, hk8, hk10, hk12, ghk13, hhk13, ghk14naan, hk15] at hk19
                all_goals
                rcases it_some h with ⟨hk20, h⟩ | ⟨hk20, h⟩
                · try simp only [go_sem, n1, n2, n3, n4, hk4, hk5, hk7, hk8, hk10, hk12, ghk13, hhk13, ghk14naan, hk15, hk19] at hk20
                  all_goals
                  obtain rfl := so_some h
                  refine ⟨Lhk3, fun L hL => ?_⟩
                  have ehk3 := ehk3 L (by omega)
                  try simp only [go_sem, E_spec_l27R_lineA_l1, R_spec_l27R_lineA_l1, ir50_k0, ir50_o0, ir50_r0, hk4, hk5, hk7, hk8, hk10, hk12, ghk13, hhk13, ghk14naan, hk15, hk19, hk20] at ehk3
                  simp only [go_sem, ir50, E_spec_l27R_lineA_l1, R_spec_l27R_lineA_l1, ir50_k0, ir50_o0, ir50_r0, hk4, hk5, fhk6, hk7, hk8, lhk8, xhk8, fhk9, hk10, lhk10, xhk10, fhk11, hk12, lhk12, xhk12, ghk13, hhk13, fhk13, ghk14naan, hk15, fhk16, fhk17, fhk18, hk19, hk20, ehk3]
                  exact ⟨rfl, rfl, rfl⟩
                · try simp only [go_sem, n1, n2, n3, n4, hk4, hk5, hk7, hk8, hk10, hk12, ghk13, hhk13, ghk14naan, hk15, hk19] at hk20
                  all_goals
                  obtain rfl := so_some h
                  refine ⟨Lhk3, fun L hL => ?_⟩
                  have ehk3 := ehk3 L (by omega)
                  try simp only [go_sem, E_spec_l27R_lineA_l1, R_spec_l27R_lineA_l1, ir50_k0, ir50_o0, ir50_r0, hk4, hk5, hk7, hk8, hk10, hk12, ghk13, hhk13, ghk14naan, hk15, hk19, hk20] at ehk3
                  simp only [go_sem, ir50, E_spec_l27R_lineA_l1, R_spec_l27R_lineA_l1, ir50_k0, ir50_o0, ir50_r0, hk4, hk5, fhk6, hk7, hk8, lhk8, xhk8, fhk9, hk10, lhk10, xhk10, fhk11, hk12, lhk12, xhk12, ghk13, hhk13, fhk13, ghk14naan, hk15, fhk16, fhk17, fhk18, hk19, hk20, ehk3]
                  exact ⟨rfl, rfl, rfl, rfl, rfl, _, rfl, rfl⟩
            · have ghk14naan := no_f ghk14naa
              have ghk14nabn := no_t ghk14nab
              try simp only [go_sem, n1, n2, n3, n4, hk4, hk5, hk7, hk8, hk10, hk12, ghk13, hhk13] at ghk14naan
              all_goals
              try simp only [go_sem, n1, n2, n3, n4, hk4, hk5, hk7, hk8, hk10, hk12, ghk13, hhk13, ghk14naan] at ghk14nabn
              all_goals
              rcases it_some h with ⟨hk15, h⟩ | ⟨hk15, h⟩
              · try simp only [go_sem, n1, n2, n3, n4, hk4, hk5, hk7, hk8, hk10, hk12, ghk13, hhk13, ghk14naan, ghk14nabn] at hk15
                all_goals
                obtain rfl := so_some h
                refine ⟨Lhk3, fun L hL => ?_⟩
                have ehk3 := ehk3 L (by omega)
                try simp only [go_sem, E_spec_l27R_lineA_l1, R_spec_l27R_lineA_l1, ir50_k0, ir50_o0, ir50_r0, hk4, hk5, hk7, hk8, hk10, hk12, ghk13, hhk13, ghk14naan, ghk14nabn, hk15] at ehk3
                simp only [go_sem, ir50, E_spec_l27R_lineA_l1, R_spec_l27R_lineA_l1, ir50_k0, ir50_o0, ir50_r0, hk4, hk5, fhk6, hk7, hk8, lhk8, xhk8, fhk9, hk10, lhk10, xhk10, fhk11, hk12, lhk12, xhk12, ghk13, hhk13, fhk13, ghk14naan, ghk14nabn, hk15, ehk3]
                exact ⟨rfl, rfl, rfl⟩
              · try simp only [go_sem, n1, n2, n3, n4, hk4, hk5, hk7, hk8, hk10, hk12, ghk13, hhk13, ghk14naan, ghk14nabn] at hk15
                all_goals
                obtain ⟨y_16, hk16, h⟩ := bd_some h
                have fhk16 := Fs_spec_l27Words hk16
                try simp only [go_sem, hk4, hk5, hk7, hk8, hk10, hk12, ghk13, hhk13, ghk14naan, ghk14nabn, hk15] at fhk16
                obtain ⟨y_17, hk17, h⟩ := bd_some h
                have fhk17 := Fs_spec_l27Stamp hk17
                try simp only [go_sem, hk4, hk5, hk7, hk8, hk10, hk12, ghk13, hhk13, ghk14naan, ghk14nabn, hk15] at fhk17
                obtain ⟨y_18, hk18, h⟩ := bd_some h
                have fhk18 := Fs_spec_l27Line hk18
                try simp only [go_sem, hk4, hk5, hk7, hk8, hk10, hk12, ghk13, hhk13, ghk14naan, ghk14nabn, hk15] at fhk18
                obtain ⟨hk19, h⟩ := ck_some h
                try simp only [go_sem, n1, n2, n3, n4, hk4, hk5, hk7, hk8, hk10, hk12, ghk13, hhk13, ghk14naan, ghk14nabn, hk15] at hk19
                all_goals
                rcases it_some h with ⟨hk20, h⟩ | ⟨hk20, h⟩
                · try simp only [go_sem, n1, n2, n3, n4, hk4, hk5, hk7, hk8, hk10, hk12, ghk13, hhk13, ghk14naan, ghk14nabn, hk15, hk19] at hk20
                  all_goals
                  obtain rfl := so_some h
                  refine ⟨Lhk3, fun L hL => ?_⟩
                  have ehk3 := ehk3 L (by omega)
                  try simp only [go_sem, E_spec_l27R_lineA_l1, R_spec_l27R_lineA_l1, ir50_k0, ir50_o0, ir50_r0, hk4, hk5, hk7, hk8, hk10, hk12, ghk13, hhk13, ghk14naan, ghk14nabn, hk15, hk19, hk20] at ehk3
                  simp only [go_sem, ir50, E_spec_l27R_lineA_l1, R_spec_l27R_lineA_l1, ir50_k0, ir50_o0, ir50_r0, hk4, hk5, fhk6, hk7, hk8, lhk8, xhk8, fhk9, hk10, lhk10, xhk10, fhk11, hk12, lhk12, xhk12, ghk13, hhk13, fhk13, ghk14naan, ghk14nabn, hk15, fhk16, fhk17, fhk18, hk19, hk20, ehk3]
                  exact ⟨rfl, rfl, rfl⟩
                · try simp only [go_sem, n1, n2, n3, n4, hk4, hk5, hk7, hk8, hk10, hk12, ghk13, hhk13, ghk14naan, ghk14nabn, hk15, hk19] at hk20
                  all_goals
                  obtain rfl := so_some h
                  refine ⟨Lhk3, fun L hL => ?_⟩
                  have ehk3 := ehk3 L (by omega)
                  try simp only [go_sem, E_spec_l27R_lineA_l1, R_spec_l27R_lineA_l1, ir50_k0, ir50_o0, ir50_r0, hk4, hk5, hk7, hk8, hk10, hk12, ghk13, hhk13, ghk14naan, ghk14nabn, hk15, hk19, hk20] at ehk3
                  simp only [go_sem, ir50, E_spec_l27R_lineA_l1, R_spec_l27R_lineA_l1, ir50_k0, ir50_o0, ir50_r0, hk4, hk5, fhk6, hk7, hk8, lhk8, xhk8, fhk9, hk10, lhk10, xhk10, fhk11, hk12, lhk12, xhk12, ghk13, hhk13, fhk13, ghk14naan, ghk14nabn, hk15, fhk16, fhk17, fhk18, hk19, hk20, ehk3]
                  exact ⟨rfl, rfl, rfl, rfl, rfl, _, rfl, rfl⟩
          · obtain ⟨ghk14naa, ghk14nab⟩ := or_f ghk14na
            have ghk14naan := no_f ghk14naa
            have ghk14nabn := no_f ghk14nab
            have ghk14nbn := no_t ghk14nb
            try simp only [go_sem, n1, n2, n3, n4, hk4, hk5, hk7, hk8, hk10, hk12, ghk13, hhk13] at ghk14naan
            all_goals
            try simp only [go_sem, n1, n2, n3, n4, hk4, hk5, hk7, hk8, hk10, hk12, ghk13, hhk13, ghk14naan] at ghk14nabn
            all_goals
            try simp only [go_sem, n1, n2, n3, n4, hk4, hk5, hk7, hk8, hk10, hk12, ghk13, hhk13, ghk14naan, ghk14nabn] at ghk14nbn
            all_goals
            rcases it_some h with ⟨hk15, h⟩ | ⟨hk15, h⟩
            · try simp only [go_sem, n1, n2, n3, n4, hk4, hk5, hk7, hk8, hk10, hk12, ghk13, hhk13, ghk14naan, ghk14nabn, ghk14nbn] at hk15
              all_goals
              obtain rfl := so_some h
              refine ⟨Lhk3, fun L hL => ?_⟩
              have ehk3 := ehk3 L (by omega)
              try simp only [go_sem, E_spec_l27R_lineA_l1, R_spec_l27R_lineA_l1, ir50_k0, ir50_o0, ir50_r0, hk4, hk5, hk7, hk8, hk10, hk12, ghk13, hhk13, ghk14naan, ghk14nabn, ghk14nbn, hk15] at ehk3
              simp only [go_sem, ir50, E_spec_l27R_lineA_l1, R_spec_l27R_lineA_l1, ir50_k0, ir50_o0, ir50_r0, hk4, hk5, fhk6, hk7, hk8, lhk8, xhk8, fhk9, hk10, lhk10, xhk10, fhk11, hk12, lhk12, xhk12, ghk13, hhk13, fhk13, ghk14naan, ghk14nabn, ghk14nbn, hk15, ehk3]
              exact ⟨rfl, rfl, rfl⟩
            · try simp only [go_sem, n1, n2, n3, n4, hk4, hk5, hk7, hk8, hk10, hk12, ghk13, hhk13, ghk14naan, ghk14nabn, ghk14nbn] at hk15
              all_goals
              obtain ⟨y_16, hk16, h⟩ := bd_some h
              have fhk16 := Fs_spec_l27Words hk16
              try simp only [go_sem, hk4, hk5, hk7, hk8, hk10, hk12, ghk13, hhk13, ghk14naan, ghk14nabn, ghk14nbn, hk15] at fhk16
              obtain ⟨y_17, hk17, h⟩ := bd_some h
              have fhk17 := Fs_spec_l27Stamp hk17
              try simp only [go_sem, hk4, hk5, hk7, hk8, hk10, hk12, ghk13, hhk13, ghk14naan, ghk14nabn, ghk14nbn, hk15] at fhk17
              obtain ⟨y_18, hk18, h⟩ := bd_some h
              have fhk18 := Fs_spec_l27Line hk18
              try simp only [go_sem, hk4, hk5, hk7, hk8, hk10, hk12, ghk13, hhk13, ghk14naan, ghk14nabn, ghk14nbn, hk15] at fhk18
              obtain ⟨hk19, h⟩ := ck_some h
              try simp only [go_sem, n1, n2, n3, n4, hk4, hk5, hk7, hk8, hk10, hk12, ghk13, hhk13, ghk14naan, ghk14nabn, ghk14nbn, hk15] at hk19
              all_goals
              rcases it_some h with ⟨hk20, h⟩ | ⟨hk20, h⟩
              · try simp only [go_sem, n1, n2, n3, n4, hk4, hk5, hk7, hk8, hk10, hk12, ghk13, hhk13, ghk14naan, ghk14nabn, ghk14nbn, hk15, hk19] at hk20
                all_goals
                obtain rfl := so_some h
                refine ⟨Lhk3, fun L hL => ?_⟩
                have ehk3 := ehk3 L (by omega)
                try simp only [go_sem, E_spec_l27R_lineA_l1, R_spec_l27R_lineA_l1, ir50_k0, ir50_o0, ir50_r0, hk4, hk5, hk7, hk8, hk10, hk12, ghk13, hhk13, ghk14naan, ghk14nabn, ghk14nbn, hk15, hk19, hk20] at ehk3
                simp only [go_sem, ir50, E_spec_l27R_lineA_l1, R_spec_l27R_lineA_l1, ir50_k0, ir50_o0, ir50_r0, hk4, hk5, fhk6, hk7, hk8, lhk8, xhk8, fhk9, hk10, lhk10, xhk10, fhk11, hk12, lhk12, xhk12, ghk13, hhk13, fhk13, ghk14naan, ghk14nabn, ghk14nbn, hk15, fhk16, fhk17, fhk18, hk19, hk20, ehk3]
                exact ⟨rfl, rfl, rfl⟩
              · try simp only [go_sem, n1, n2, n3, n4, hk4, hk5, hk7, hk8, hk10, hk12, ghk13, hhk13, ghk14naan, ghk14nabn, ghk14nbn, hk15, hk19] at hk20
                all_goals
                obtain rfl := so_some h
                refine ⟨Lhk3, fun L hL => ?_⟩
                have ehk3 := ehk3 L (by omega)
                try simp only [go_sem, E_spec_l27R_lineA_l1, R_spec_l27R_lineA_l1, ir50_k0, ir50_o0, ir50_r0, hk4, hk5, hk7, hk8, hk10, hk12, ghk13, hhk13, ghk14naan, ghk14nabn, ghk14nbn, hk15, hk19, hk20] at ehk3
                simp only [go_sem, ir50, E_spec_l27R_lineA_l1, R_spec_l27R_lineA_l1, ir50_k0, ir50_o0, ir50_r0, hk4, hk5, fhk6, hk7, hk8, lhk8, xhk8, fhk9, hk10, lhk10, xhk10, fhk11, hk12, lhk12, xhk12, ghk13, hhk13, fhk13, ghk14naan, ghk14nabn, ghk14nbn, hk15, fhk16, fhk17, fhk18, hk19, hk20, ehk3]
                exact ⟨rfl, rfl, rfl, rfl, rfl, _, rfl, rfl⟩
      · have ghk13n := no_f ghk13
        rcases or_t ghk13n with ghk13na | ⟨ghk13na, ghk13nb⟩
        · have ghk13nan := no_t ghk13na
          try simp only [go_sem, n1, n2, n3, n4, hk4, hk5, hk7, hk8, hk10, hk12] at ghk13nan
          all_goals
          obtain ⟨hk14, h⟩ := ck_some h
          rcases or_split hk14 with ⟨ghk14, hk14⟩ | ghk14
          · try simp only [go_sem, n1, n2, n3, n4, hk4, hk5, hk7, hk8, hk10, hk12, ghk13nan] at ghk14
            all_goals
            obtain ⟨y_14, hhk14⟩ := Option.isSome_iff_exists.1 hk14
            have fhk14 := Fs_spec_l27R_day hhk14
            try simp only [go_sem, hk4, hk5, hk7, hk8, hk10, hk12, ghk13nan, ghk14] at fhk14
            rcases it_some h with ⟨hk15, h⟩ | ⟨hk15, h⟩
            · try simp only [go_sem, n1, n2, n3, n4, hk4, hk5, hk7, hk8, hk10, hk12, ghk13nan, ghk14, hhk14] at hk15
              all_goals
              obtain rfl := so_some h
              refine ⟨Lhk3, fun L hL => ?_⟩
              have ehk3 := ehk3 L (by omega)
              try simp only [go_sem, E_spec_l27R_lineA_l1, R_spec_l27R_lineA_l1, ir50_k0, ir50_o0, ir50_r0, hk4, hk5, hk7, hk8, hk10, hk12, ghk13nan, ghk14, hhk14, hk15] at ehk3
              simp only [go_sem, ir50, E_spec_l27R_lineA_l1, R_spec_l27R_lineA_l1, ir50_k0, ir50_o0, ir50_r0, hk4, hk5, fhk6, hk7, hk8, lhk8, xhk8, fhk9, hk10, lhk10, xhk10, fhk11, hk12, lhk12, xhk12, ghk13nan, ghk14, hhk14, fhk14, hk15, ehk3]
              exact ⟨rfl, rfl, rfl⟩
            · try simp only [go_sem, n1, n2, n3, n4, hk4, hk5, hk7, hk8, hk10, hk12, ghk13nan, ghk14, hhk14] at hk15
              all_goals
              obtain ⟨y_16, hk16, h⟩ := bd_some h
              have fhk16 := Fs_spec_l27Words hk16
              try simp only [go_sem, hk4, hk5, hk7, hk8, hk10, hk12, ghk13nan, ghk14, hhk14, hk15] at fhk16
              obtain ⟨y_17, hk17, h⟩ := bd_some h
              have fhk17 := Fs_spec_l27Stamp hk17
              try simp only [go_sem, hk4, hk5, hk7, hk8, hk10, hk12, ghk13nan, ghk14, hhk14, hk15] at fhk17
              obtain ⟨y_18, hk18, h⟩ := bd_some h
              have fhk18 := Fs_spec_l27Line hk18
              try simp only [go_sem, hk4, hk5, hk7, hk8, hk10, hk12, ghk13nan, ghk14, hhk14, hk15] at fhk18
              obtain ⟨hk19, h⟩ := ck_some h
              try simp only [go_sem, n1, n2, n3, n4, hk4, hk5, hk7, hk8, hk10, hk12, ghk13nan, ghk14, hhk14, hk15] at hk19
              all_goals
              rcases it_some h with ⟨hk20, h⟩ | ⟨hk20, h⟩
              · try simp only [go_sem, n1, n2, n3, n4, hk4, hk5, hk7, hk8, hk10, hk12, ghk13nan, ghk14, hhk14, hk15, hk19] at hk20
                all_goals
                obtain rfl := so_some h
                refine ⟨Lhk3, fun L hL => ?_⟩
                have ehk3 := ehk3 L (by omega)
                try simp only [go_sem, E_spec_l27R_lineA_l1, R_spec_l27R_lineA_l1, ir50_k0, ir50_o0, ir50_r0, hk4, hk5, hk7, hk8, hk10, hk12, ghk13nan, ghk14, hhk14, hk15, hk19, hk20] at ehk3
                simp only [go_sem, ir50, E_spec_l27R_lineA_l1, R_spec_l27R_lineA_l1, ir50_k0, ir50_o0, ir50_r0, hk4, hk5, fhk6, hk7, hk8, lhk8, xhk8, fhk9, hk10, lhk10, xhk10, fhk11, hk12, lhk12, xhk12, ghk13nan, ghk14, hhk14, fhk14, hk15, fhk16, fhk17, fhk18, hk19, hk20, ehk3]
                exact ⟨rfl, rfl, rfl⟩
              · try simp only [go_sem, n1, n2, n3, n4, hk4, hk5, hk7, hk8, hk10, hk12, ghk13nan, ghk14, hhk14, hk15, hk19] at hk20
                all_goals
                obtain rfl := so_some h
                refine ⟨Lhk3, fun L hL => ?_⟩
                have ehk3 := ehk3 L (by omega)
                try simp only [go_sem, E_spec_l27R_lineA_l1, R_spec_l27R_lineA_l1, ir50_k0, ir50_o0, ir50_r0, hk4, hk5, hk7, hk8, hk10, hk12, ghk13nan, ghk14, hhk14, hk15, hk19, hk20] at ehk3
                simp only [go_sem, ir50, E_spec_l27R_lineA_l1, R_spec_l27R_lineA_l1, ir50_k0, ir50_o0, ir50_r0, hk4, hk5, fhk6, hk7, hk8, lhk8, xhk8, fhk9, hk10, lhk10, xhk10, fhk11, hk12, lhk12, xhk12, ghk13nan, ghk14, hhk14, fhk14, hk15, fhk16, fhk17, fhk18, hk19, hk20, ehk3]
                exact ⟨rfl, rfl, rfl, rfl, rfl, _, rfl, rfl⟩
          · have ghk14n := no_f ghk14
            rcases or_t ghk14n with ghk14na | ⟨ghk14na, ghk14nb⟩
            · rcases or_t ghk14na with ghk14naa | ⟨ghk14naa, ghk14nab⟩
              · have ghk14naan := no_t ghk14naa
                try simp only [go_sem, n1, n2, n3, n4, hk4, hk5, hk7, hk8, hk10, hk12, ghk13nan] at ghk14naan
                all_goals
                rcases it_some h with ⟨hk15, h⟩ | ⟨hk15, h⟩
                · try simp only [go_sem, n1, n2, n3, n4, hk4, hk5, hk7, hk8, hk10, hk12, ghk13nan, ghk14naan] at hk15
                  all_goals
                  obtain rfl := so_some h
                  refine ⟨Lhk3, fun L hL => ?_⟩
                  have ehk3 := ehk3 L (by omega)
                  try simp only [go_sem, E_spec_l27R_lineA_l1, R_spec_l27R_lineA_l1, ir50_k0, ir50_o0, ir50_r0, hk4, hk5, hk7, hk8, hk10, hk12, ghk13nan, ghk14naan, hk15] at ehk3
                  simp only [go_sem, ir50, E_spec_l27R_lineA_l1, R_spec_l27R_lineA_l1, ir50_k0, ir50_o0, ir50_r0, hk4, hk5, fhk6, hk7, hk8, lhk8, xhk8, fhk9, hk10, lhk10, xhk10, fhk11, hk12, lhk12, xhk12, ghk13nan, ghk14naan, hk15, ehk3]
                  exact ⟨rfl, rfl, rfl⟩
                · try simp only [go_sem, n1, n2, n3, n4, hk4, hk5, hk7, hk8, hk10, hk12, ghk13nan, ghk14naan] at hk15
                  all_goals
                  obtain ⟨y_16, hk16, h⟩ := bd_some h
                  have fhk16 := Fs_spec_l27Words hk16
                  try simp only [go_sem, hk4, hk5, hk7, hk8, hk10, hk12, ghk13nan, ghk14naan, hk15] at fhk16
                  obtain ⟨y_17, hk17, h⟩ := bd_some h
                  have fhk17 := Fs_spec_l27Stamp hk17
                  try simp only [go_sem, hk4, hk5, hk7, hk8, hk10, hk12, ghk13nan, ghk14naan, hk15] at fhk17
                  obtain ⟨y_18, hk18, h⟩ := bd_some h
                  have fhk18 := Fs_spec_l27Line hk18
                  try simp only [go_sem, hk4, hk5, hk7, hk8, hk10, hk12, ghk13nan, ghk14naan, hk15] at fhk18
                  obtain ⟨hk19, h⟩ := ck_some h
                  try simp only [go_sem, n1, n2, n3, n4, hk4, hk5, hk7, hk8, hk10, hk12, ghk13nan, ghk14naan, hk15] at hk19
                  all_goals
                  rcases it_some h with ⟨hk20, h⟩ | ⟨hk20, h⟩
                  · try simp only [go_sem, n1, n2, n3, n4, hk4, hk5, hk7, hk8, hk10, hk12, ghk13nan, ghk14naan, hk15, hk19] at hk20
                    all_goals
                    obtain rfl := so_some h
                    refine ⟨Lhk3, fun L hL => ?_⟩
                    have ehk3 := ehk3 L (by omega)
                    try simp only [go_sem, E_spec_l27R_lineA_l1, R_spec_l27R_lineA_l1, ir50_k0, ir50_o0, ir50_r0, hk4, hk5, hk7, hk8, hk10, hk12, ghk13nan, ghk14naan, hk15, hk19, hk20] at ehk3
                    simp only [go_sem, ir50, E_spec_l27R_lineA_l1, R_spec_l27R_lineA_l1, ir50_k0, ir50_o0, ir50_r0, hk4, hk5, fhk6, hk7, hk8, lhk8, xhk8, fhk9, hk10, lhk10, xhk10, fhk11, hk12, lhk12, xhk12, ghk13nan, ghk14naan, hk15, fhk16, fhk17, fhk18, hk19, hk20, ehk3]
                    exact ⟨rfl, rfl, rfl⟩
                  · try simp only [go_sem, n1, n2, n3, n4, hk4, hk5, hk7, hk8, hk10, hk12, ghk13nan, ghk14naan, hk15, hk19] at hk20
                    all_goals
                    obtain rfl := so_some h
                    refine ⟨Lhk3, fun L hL => ?_⟩
                    have ehk3 := ehk3 L (by omega)
                    try simp only [go_sem, E_spec_l27R_lineA_l1, R_spec_l27R_lineA_l1, ir50_k0, ir50_o0, ir50_r0, hk4, hk5, hk7, hk8, hk10, hk12, ghk13nan, ghk14naan, hk15, hk19, hk20] at ehk3
                    simp only [go_sem, ir50, E_spec_l27R_lineA_l1, R_spec_l27R_lineA_l1, ir50_k0, ir50_o0, ir50_r0, hk4, hk5, fhk6, hk7, hk8, lhk8, xhk8, fhk9, hk10, lhk10, xhk10, fhk11, hk12, lhk12, xhk12, ghk13nan, ghk14naan, hk15, fhk16, fhk17, fhk18, hk19, hk20, ehk3]
                    exact ⟨rfl, rfl, rfl, rfl, rfl, _, rfl, rfl⟩
              · have ghk14naan := no_f ghk14naa
                have ghk14nabn := no_t ghk14nab
                try simp only [go_sem, n1, n2, n3, n4, hk4, hk5, hk7, hk8, hk10, hk12, ghk13nan] at ghk14naan
                all_goals
                try simp only [go_sem, n1, n2, n3, n4, hk4, hk5, hk7, hk8, hk10, hk12, ghk13nan, ghk14naan] at ghk14nabn
                all_goals
                rcases it_some h with ⟨hk15, h⟩ | ⟨hk15, h⟩
                · try simp only [go_sem, n1, n2, n3, n4, hk4, hk5, hk7, hk8, hk10, hk12, ghk13nan, ghk14naan, ghk14nabn] at hk15
                  all_goals
                  obtain rfl := so_some h
                  refine ⟨Lhk3, fun L hL => ?_⟩
                  have ehk3 := ehk3 L (by omega)
                  try simp only [go_sem, E_spec_l27R_lineA_l1, R_spec_l27R_lineA_l1, ir50_k0, ir50_o0, ir50_r0, hk4, hk5, hk7, hk8, hk10, hk12, ghk13nan, ghk14naan, ghk14nabn, hk15] at ehk3
                  simp only [go_sem, ir50, E_spec_l27R_lineA_l1, R_spec_l27R_lineA_l1, ir50_k0, ir50_o0, ir50_r0, hk4, hk5, fhk6, hk7, hk8, lhk8, xhk8, fhk9, hk10, lhk10, xhk10, fhk11, hk12, lhk12, xhk12, ghk13nan, ghk14naan, ghk14nabn, hk15, ehk3]
                  exact ⟨rfl, rfl, rfl⟩
                · try simp only [go_sem, n1, n2, n3, n4, hk4, hk5, hk7, hk8, hk10, hk12, ghk13nan, ghk14naan, ghk14nabn] at hk15
                  all_goals
                  obtain ⟨y_16, hk16, h⟩ := bd_some h
                  have fhk16 := Fs_spec_l27Words hk16
                  try simp only [go_sem, hk4, hk5, hk7, hk8, hk10, hk12, ghk13nan, ghk14naan, ghk14nabn, hk15] at fhk16
                  obtain ⟨y_17, hk17, h⟩ := bd_some h
                  have fhk17 := Fs_spec_l27Stamp hk17
                  try simp only [go_sem, hk4, hk5, hk7, hk8, hk10, hk12, ghk13nan, ghk14naan, ghk14nabn, hk15] at fhk17
                  obtain ⟨y_18, hk18, h⟩ := bd_some h
                  have fhk18 := Fs_spec_l27Line hk18
                  try simp only [go_sem, hk4, hk5, hk7, hk8, hk10, hk12, ghk13nan, ghk14naan, ghk14nabn, hk15] at fhk18
                  obtain ⟨hk19, h⟩ := ck_some h
                  try simp only [go_sem, n1, n2, n3, n4, hk4, hk5, hk7, hk8, hk10, hk12, ghk13nan, ghk14naan, ghk14nabn, hk15] at hk19
                  all_goals
                  rcases it_some h with ⟨hk20, h⟩ | ⟨hk20, h⟩
                  · try simp only [go_sem, n1, n2, n3, n4, hk4, hk5, hk7, hk8, hk10, hk12, ghk13nan, ghk14naan, ghk14nabn, hk15, hk19] at hk20
                    all_goals
                    obtain rfl := so_some h
                    refine ⟨Lhk3, fun L hL => ?_⟩
                    have ehk3 := ehk3 L (by omega)
                    try simp only [go_sem, E_spec_l27R_lineA_l1, R_spec_l27R_lineA_l1, ir50_k0, ir50_o0, ir50_r0, hk4, hk5, hk7, hk8, hk10, hk12, ghk13nan, ghk14naan, ghk14nabn, hk15, hk19, hk20] at ehk3
                    simp only [go_sem, ir50, E_spec_l27R_lineA_l1, R_spec_l27R_lineA_l1, ir50_k0, ir50_o0, ir50_r0, hk4, hk5, fhk6, hk7, hk8, lhk8, xhk8, fhk9, hk10, lhk10, xhk10, fhk11, hk12, lhk12, xhk12, ghk13nan, ghk14naan, ghk14nabn, hk15, fhk16, fhk17, fhk18, hk19, hk20, ehk3]
                    exact ⟨rfl, rfl, rfl⟩
                  · try simp only [go_sem, n1, n2, n3, n4, hk4, hk5, hk7, hk8, hk10, hk12, ghk13nan, ghk14naan, ghk14nabn, hk15, hk19] at hk20
                    all_goals
                    obtain rfl := so_some h
                    refine ⟨Lhk3, fun L hL => ?_⟩
                    have ehk3 := ehk3 L (by omega)
                    try simp only [go_sem, E_spec_l27R_lineA_l1, R_spec_l27R_lineA_l1, ir50_k0, ir50_o0, ir50_r0, hk4, hk5, hk7, hk8, hk10, hk12, ghk13nan, ghk14naan, ghk14nabn, hk15, hk19, hk20] at ehk3
                    simp only [go_sem, ir50, E_spec_l27R_lineA_l1, R_spec_l27R_lineA_l1, ir50_k0, ir50_o0, ir50_r0, hk4, hk5, fhk6, hk7, hk8, lhk8, xhk8, fhk9, hk10, lhk10, xhk10, fhk11, hk12, lhk12, xhk12, ghk13nan, ghk14naan, ghk14nabn, hk15, fhk16, fhk17, fhk18, hk19, hk20, ehk3]
                    exact ⟨rfl, rfl, rfl, rfl, rfl, _, rfl, rfl⟩
            · obtain ⟨ghk14naa, ghk14nab⟩ := or_f ghk14na
              have ghk14naan := no_f ghk14naa
              have ghk14nabn := no_f ghk14nab
              have ghk14nbn := no_t ghk14nb
              try simp only [go_sem, n1, n2, n3, n4, hk4, hk5, hk7, hk8, hk10, hk12, ghk13nan] at ghk14naan
              all_goals
              try simp only [go_sem, n1, n2, n3, n4, hk4, hk5, hk7, hk8, hk10, hk12, ghk13nan, ghk14naan] at ghk14nabn
              all_goals
              try simp only [go_sem, n1, n2, n3, n4, hk4, hk5, hk7, hk8, hk10, hk12, ghk13nan, ghk14naan, ghk14nabn] at ghk14nbn
              all_goals
              rcases it_some h with ⟨hk15, h⟩ | ⟨hk15, h⟩
              · try simp only [go_sem, n1, n2, n3, n4, hk4, hk5, hk7, hk8, hk10, hk12, ghk13nan, ghk14naan, ghk14nabn, ghk14nbn] at hk15
                all_goals
                obtain rfl := so_some h
                refine ⟨Lhk3, fun L hL => ?_⟩
                have ehk3 := ehk3 L (by omega)
                try simp only [go_sem, E_spec_l27R_lineA_l1, R_spec_l27R_lineA_l1, ir50_k0, ir50_o0, ir50_r0, hk4, hk5, hk7, hk8, hk10, hk12, ghk13nan, ghk14naan, ghk14nabn, ghk14nbn, hk15] at ehk3
                simp only [go_sem, ir50, E_spec_l27R_lineA_l1, R_spec_l27R_lineA_l1, ir50_k0, ir50_o0, ir50_r0, hk4, hk5, fhk6, hk7, hk8, lhk8, xhk8, fhk9, hk10, lhk10, xhk10, fhk11, hk12, lhk12, xhk12, ghk13nan, ghk14naan, ghk14nabn, ghk14nbn, hk15, ehk3]
                exact ⟨rfl, rfl, rfl⟩
              · try simp only [go_sem, n1, n2, n3, n4, hk4, hk5, hk7, hk8, hk10, hk12, ghk13nan, ghk14naan, ghk14nabn, ghk14nbn] at hk15
                all_goals
                obtain ⟨y_16, hk16, h⟩ := bd_some h
                have fhk16 := Fs_spec_l27Words hk16
                try simp only [go_sem, hk4, hk5, hk7, hk8, hk10, hk12, ghk13nan, ghk14naan, ghk14nabn, ghk14nbn, hk15] at fhk16
                obtain ⟨y_17, hk17, h⟩ := bd_some h
                have fhk17 := Fs_spec_l27Stamp hk17
                try simp only [go_sem, hk4, hk5, hk7, hk8, hk10, hk12, ghk13nan, ghk14naan, ghk14nabn, ghk14nbn, hk15] at fhk17
                obtain ⟨y_18, hk18, h⟩ := bd_some h
                have fhk18 := Fs_spec_l27Line hk18
                try simp only [go_sem, hk4, hk5, hk7, hk8, hk10, hk12, ghk13nan, ghk14naan, ghk14nabn, ghk14nbn, hk15] at fhk18
                obtain ⟨hk19, h⟩ := ck_some h
                try simp only [go_sem, n1, n2, n3, n4, hk4, hk5, hk7, hk8, hk10, hk12, ghk13nan, ghk14naan, ghk14nabn, ghk14nbn, hk15] at hk19
                all_goals
                rcases it_some h with ⟨hk20, h⟩ | ⟨hk20, h⟩
                · try simp only [go_sem, n1, n2, n3, n4, hk4, hk5, hk7, hk8, hk10, hk12, ghk13nan, ghk14naan, ghk14nabn, ghk14nbn, hk15, hk19] at hk20
                  all_goals
                  obtain rfl := so_some h
                  refine ⟨Lhk3, fun L hL => ?_⟩
                  have ehk3 := ehk3 L (by omega)
                  try simp only [go_sem, E_spec_l27R_lineA_l1, R_spec_l27R_lineA_l1, ir50_k0, ir50_o0, ir50_r0, hk4, hk5, hk7, hk8, hk10, hk12, ghk13nan, ghk14naan, ghk14nabn, ghk14nbn, hk15, hk19, hk20] at ehk3
                  simp only [go_sem, ir50, E_spec_l27R_lineA_l1, R_spec_l27R_lineA_l1, ir50_k0, ir50_o0, ir50_r0, hk4, hk5, fhk6, hk7, hk8, lhk8, xhk8, fhk9, hk10, lhk10, xhk10, fhk11, hk12, lhk12, xhk12, ghk13nan, ghk14naan, ghk14nabn, ghk14nbn, hk15, fhk16, fhk17, fhk18, hk19, hk20, ehk3]
                  exact ⟨rfl, rfl, rfl⟩
                · try simp only [go_sem, n1, n2, n3, n4, hk4, hk5, hk7, hk8, hk10, hk12, ghk13nan, ghk14naan, ghk14nabn, ghk14nbn, hk15, hk19] at hk20
                  all_goals
                  obtain rfl := so_some h
                  refine ⟨Lhk3, fun L hL => ?_⟩
                  have ehk3 := ehk3 L (by omega)
                  try simp only [go_sem, E_spec_l27R_lineA_l1, R_spec_l27R_lineA_l1, ir50_k0, ir50_o0, ir50_r0, hk4, hk5, hk7, hk8, hk10, hk12, ghk13nan, ghk14naan, ghk14nabn, ghk14nbn, hk15, hk19, hk20] at ehk3
                  simp only [go_sem, ir50, E_spec_l27R_lineA_l1, R_spec_l27R_lineA_l1, ir50_k0, ir50_o0, ir50_r0, hk4, hk5, fhk6, hk7, hk8, lhk8, xhk8, fhk9, hk10, lhk10, xhk10, fhk11, hk12, lhk12, xhk12, ghk13nan, ghk14naan, ghk14nabn, ghk14nbn, hk15, fhk16, fhk17, fhk18, hk19, hk20, ehk3]
                  exact ⟨rfl, rfl, rfl, rfl, rfl, _, rfl, rfl⟩
        · have ghk13nan := no_f ghk13na
          have ghk13nbn := no_t ghk13nb
          try simp only [go_sem, n1, n2, n3, n4, hk4, hk5, hk7, hk8, hk10, hk12] at ghk13nan
          all_goals
          try simp only [go_sem, n1, n2, n3, n4, hk4, hk5, hk7, hk8, hk10, hk12, ghk13nan] at ghk13nbn
          all_goals
          obtain ⟨hk14, h⟩ := ck_some h
          rcases or_split hk14 with ⟨ghk14, hk14⟩ | ghk14
          · try simp only [go_sem, n1, n2, n3, n4, hk4, hk5, hk7, hk8, hk10, hk12, ghk13nan, ghk13nbn] at ghk14
            all_goals
            obtain ⟨y_14, hhk14⟩ := Option.isSome_iff_exists.1 hk14
            have fhk14 := Fs_spec_l27R_day hhk14
            try simp only [go_sem, hk4, hk5, hk7, hk8, hk10, hk12, ghk13nan, ghk13nbn, ghk14] at fhk14
            rcases it_some h with ⟨hk15, h⟩ | ⟨hk15, h⟩
            · try simp only [go_sem, n1, n2, n3, n4, hk4, hk5, hk7, hk8, hk10, hk12, ghk13nan, ghk13nbn, ghk14, hhk14] at hk15
              all_goals
              obtain rfl := so_some h
              refine ⟨Lhk3, fun L hL => ?_⟩
              have ehk3 := ehk3 L (by omega)
              try simp only [go_sem, E_spec_l27R_lineA_l1, R_spec_l27R_lineA_l1, ir50_k0, ir50_o0, ir50_r0, hk4, hk5, hk7, hk8, hk10, hk12, ghk13nan, ghk13nbn, ghk14, hhk14, hk15] at ehk3
              simp only [go_sem, ir50, E_spec_l27R_lineA_l1, R_spec_l27R_lineA_l1, ir50_k0, ir50_o0, ir50_r0, hk4, hk5, fhk6, hk7, hk8, lhk8, xhk8, fhk9, hk10, lhk10, xhk10, fhk11, hk12, lhk12, xhk12, ghk13nan, ghk13nbn, ghk14, hhk14, fhk14, hk15, ehk3]
              exact ⟨rfl, rfl, rfl⟩
            · try simp only [go_sem, n1, n2, n3, n4, hk4, hk5, hk7, hk8, hk10, hk12, ghk13nan, ghk13nbn, ghk14, hhk14] at hk15
              all_goals
              obtain ⟨y_16, hk16, h⟩ := bd_some h
              have fhk16 := Fs_spec_l27Words hk16
              try simp only [go_sem, hk4, hk5, hk7, hk8, hk10, hk12, ghk13nan, ghk13nbn, ghk14, hhk14, hk15] at fhk16
              obtain ⟨y_17, hk17, h⟩ := bd_some h
              have fhk17 := Fs_spec_l27Stamp hk17
              try simp only [go_sem, hk4, hk5, hk7, hk8, hk10, hk12, ghk13nan, ghk13nbn, ghk14, hhk14, hk15] at fhk17
              obtain ⟨y_18, hk18, h⟩ := bd_some h
              have fhk18 := Fs_spec_l27Line hk18
              try simp only [go_sem, hk4, hk5, hk7, hk8, hk10, hk12, ghk13nan, ghk13nbn, ghk14, hhk14, hk15] at fhk18
              obtain ⟨hk19, h⟩ := ck_some h
              try simp only [go_sem, n1, n2, n3, n4, hk4, hk5, hk7, hk8, hk10, hk12, ghk13nan, ghk13nbn, ghk14, hhk14, hk15] at hk19
              all_goals
              rcases it_some h with ⟨hk20, h⟩ | ⟨hk20, h⟩
              · try simp only [go_sem, n1, n2, n3, n4, hk4, hk5, hk7, hk8, hk10, hk12, ghk13nan, ghk13nbn, ghk14, hhk14, hk15, hk19] at hk20
                all_goals
                obtain rfl := so_some h
                refine ⟨Lhk3, fun L hL => ?_⟩
                have ehk3 := ehk3 L (by omega)
                try simp only [go_sem, E_spec_l27R_lineA_l1, R_spec_l27R_lineA_l1, ir50_k0, ir50_o0, ir50_r0, hk4, hk5, hk7, hk8, hk10, hk12, ghk13nan, ghk13nbn, ghk14, hhk14, hk15, hk19, hk20] at ehk3
                simp only [go_sem, ir50, E_spec_l27R_lineA_l1, R_spec_l27R_lineA_l1, ir50_k0, ir50_o0, ir50_r0, hk4, hk5, fhk6, hk7, hk8, lhk8, xhk8, fhk9, hk10, lhk10, xhk10, fhk11, hk12, lhk12, xhk12, ghk13nan, ghk13nbn, ghk14, hhk14, fhk14, hk15, fhk16, fhk17, fhk18, hk19, hk20, ehk3]
                exact ⟨rfl, rfl, rfl⟩
              · try simp only [go_sem, n1, n2, n3, n4, hk4, hk5, hk7, hk8, hk10, hk12, ghk13nan, ghk13nbn, ghk14, hhk14, hk15, hk19] at hk20
                all_goals
                obtain rfl := so_some h
                refine ⟨Lhk3, fun L hL => ?_⟩
                have ehk3 := ehk3 L (by omega)
                try simp only [go_sem, E_spec_l27R_lineA_l1, R_spec_l27R_lineA_l1, ir50_k0, ir50_o0, ir50_r0, hk4, hk5, hk7, hk8, hk10, hk12, ghk13nan, ghk13nbn, ghk14, hhk14, hk15, hk19, hk20] at ehk3
                simp only [go_sem, ir50, E_spec_l27R_lineA_l1, R_spec_l27R_lineA_l1, ir50_k0, ir50_o0, ir50_r0, hk4, hk5, fhk6, hk7, hk8, lhk8, xhk8, fhk9, hk10, lhk10, xhk10, fhk11, hk12, lhk12, xhk12, ghk13nan, ghk13nbn, ghk14, hhk14, fhk14, hk15, fhk16, fhk17, fhk18, hk19, hk20, ehk3]
                exact ⟨rfl, rfl, rfl, rfl, rfl, _, rfl, rfl⟩
          · have ghk14n := no_f ghk14
            rcases or_t ghk14n with ghk14na | ⟨ghk14na, ghk14nb⟩
            · rcases or_t ghk14na with ghk14naa | ⟨ghk14naa, ghk14nab⟩
              · have ghk14naan := no_t ghk14naa
                try simp only [go_sem, n1, n2, n3, n4, hk4, hk5, hk7, hk8, hk10, hk12, ghk13nan, ghk13nbn] at ghk14naan
                all_goals
                rcases it_some h with ⟨hk15, h⟩ | ⟨hk15, h⟩
                · try simp only [go_sem, n1, n2, n3, n4, hk4, hk5, hk7, hk8, hk10, hk12, ghk13nan, ghk13nbn, ghk14naan] at hk15
                  all_goals
                  obtain rfl := so_some h
                  refine ⟨Lhk3, fun L hL => ?_⟩
                  have ehk3 := ehk3 L (by omega)
                  try simp only [go_sem, E_spec_l27R_lineA_l1, R_spec_l27R_lineA_l1, ir50_k0, ir50_o0, ir50_r0, hk4, hk5, hk7, hk8, hk10, hk12, ghk13nan, ghk13nbn, ghk14naan, hk15] at ehk3
                  simp only [go_sem, ir50, E_spec_l27R_lineA_l1, R_spec_l27R_lineA_l1, ir50_k0, ir50_o0, ir50_r0, hk4, hk5, fhk6, hk7, hk8, lhk8, xhk8, fhk9, hk10, lhk10, xhk10, fhk11, hk12, lhk12, xhk12, ghk13nan, ghk13nbn, ghk14naan, hk15, ehk3]
                  exact ⟨rfl, rfl, rfl⟩
                · try simp only [go_sem, n1, n2, n3, n4, hk4, hk5, hk7, hk8, hk10, hk12, ghk13nan, ghk13nbn, ghk14naan] at hk15
                  all_goals
                  obtain ⟨y_16, hk16, h⟩ := bd_some h
                  have fhk16 := Fs_spec_l27Words hk16
                  try simp only [go_sem, hk4, hk5, hk7, hk8, hk10, hk12, ghk13nan, ghk13nbn, ghk14naan, hk15] at fhk16
                  obtain ⟨y_17, hk17, h⟩ := bd_some h
                  have fhk17 := Fs_spec_l27Stamp hk17
                  try simp only [go_sem, hk4, hk5, hk7, hk8, hk10, hk12, ghk13nan, ghk13nbn, ghk14naan, hk15] at fhk17
                  obtain ⟨y_18, hk18, h⟩ := bd_some h
                  have fhk18 := Fs_spec_l27Line hk18
                  try simp only [go_sem, hk4, hk5, hk7, hk8, hk10, hk12, ghk13nan, ghk13nbn, ghk14naan, hk15] at fhk18
                  obtain ⟨hk19, h⟩ := ck_some h
                  try simp only [go_sem, n1, n2, n3, n4, hk4, hk5, hk7, hk8, hk10, hk12, ghk13nan, ghk13nbn, ghk14naan, hk15] at hk19
                  all_goals
                  rcases it_some h with ⟨hk20, h⟩ | ⟨hk20, h⟩
                  · try simp only [go_sem, n1, n2, n3, n4, hk4, hk5, hk7, hk8, hk10, hk12, ghk13nan, ghk13nbn, ghk14naan, hk15, hk19] at hk20
                    all_goals
                    obtain rfl := so_some h
                    refine ⟨Lhk3, fun L hL => ?_⟩
                    have ehk3 := ehk3 L (by omega)
                    try simp only [go_sem, E_spec_l27R_lineA_l1, R_spec_l27R_lineA_l1, ir50_k0, ir50_o0, ir50_r0, hk4, hk5, hk7, hk8, hk10, hk12, ghk13nan, ghk13nbn, ghk14naan, hk15, hk19, hk20] at ehk3
                    simp only [go_sem, ir50, E_spec_l27R_lineA_l1, R_spec_l27R_lineA_l1, ir50_k0, ir50_o0, ir50_r0, hk4, hk5, fhk6, hk7, hk8, lhk8, xhk8, fhk9, hk10, lhk10, xhk10, fhk11, hk12, lhk12, xhk12, ghk13nan, ghk13nbn, ghk14naan, hk15, fhk16, fhk17, fhk18, hk19, hk20, ehk3]
                    exact ⟨rfl, rfl, rfl⟩
                  · try simp only [go_sem, n1, n2, n3, n4, hk4, hk5, hk7, hk8, hk10, hk12, ghk13nan, ghk13nbn, ghk14naan, hk15, hk19] at hk20
                    all_goals
                    obtain rfl := so_some h
                    refine ⟨Lhk3, fun L hL => ?_⟩
                    have ehk3 := ehk3 L (by omega)
                    try simp only [go_sem, E_spec_l27R_lineA_l1, R_spec_l27R_lineA_l1, ir50_k0, ir50_o0, ir50_r0, hk4, hk5, hk7, hk8, hk10, hk12, ghk13nan, ghk13nbn, ghk14naan, hk15, hk19, hk20] at ehk3
                    simp only [go_sem, ir50, E_spec_l27R_lineA_l1, R_spec_l27R_lineA_l1, ir50_k0, ir50_o0, ir50_r0, hk4, hk5, fhk6, hk7, hk8, lhk8, xhk8, fhk9, hk10, lhk10, xhk10, fhk11, hk12, lhk12, xhk12, ghk13nan, ghk13nbn, ghk14naan, hk15, fhk16, fhk17, fhk18, hk19, hk20, ehk3]
                    exact ⟨rfl, rfl, rfl, rfl, rfl, _, rfl, rfl⟩
              · have ghk14naan := no_f ghk14naa
                have ghk14nabn := no_t ghk14nab
                try simp only [go_sem, n1, n2, n3, n4, hk4, hk5, hk7, hk8, hk10, hk12, ghk13nan, ghk13nbn] at ghk14naan
                all_goals
                try simp only [go_sem, n1, n2, n3, n4, hk4, hk5, hk7, hk8, hk10, hk12, ghk13nan, ghk13nbn, ghk14naan] at ghk14nabn
                all_goals
                rcases it_some h with ⟨hk15, h⟩ | ⟨hk15, h⟩
                · try simp only [go_sem, n1, n2, n3, n4, hk4, hk5, hk7, hk8, hk10, hk12, ghk13nan, ghk13nbn, ghk14naan, ghk14nabn] at hk15
                  all_goals
                  obtain rfl := so_some h
                  refine ⟨Lhk3, fun L hL => ?_⟩
                  have ehk3 := ehk3 L (by omega)
                  try simp only [go_sem, E_spec_l27R_lineA_l1, R_spec_l27R_lineA_l1, ir50_k0, ir50_o0, ir50_r0, hk4, hk5, hk7, hk8, hk10, hk12, ghk13nan, ghk13nbn, ghk14naan, ghk14nabn, hk15] at ehk3
                  simp only [go_sem, ir50, E_spec_l27R_lineA_l1, R_spec_l27R_lineA_l1, ir50_k0, ir50_o0, ir50_r0, hk4, hk5, fhk6, hk7, hk8, lhk8, xhk8, fhk9, hk10, lhk10, xhk10, fhk11, hk12, lhk12, xhk12, ghk13nan, ghk13nbn, ghk14naan, ghk14nabn, hk15, ehk3]
                  exact ⟨rfl, rfl, rfl⟩
                · try simp only [go_sem, n1, n2, n3, n4, hk4, hk5, hk7, hk8, hk10, hk12, ghk13nan, ghk13nbn, ghk14naan, ghk14nabn] at hk15
                  all_goals
                  obtain ⟨y_16, hk16, h⟩ := bd_some h
                  have fhk16 := Fs_spec_l27Words hk16
                  try simp only [go_sem, hk4, hk5, hk7, hk8, hk10, hk12, ghk13nan, ghk13nbn, ghk14naan, ghk14nabn, hk15] at fhk16
                  obtain ⟨y_17, hk17, h⟩ := bd_some h
                  have fhk17 := Fs_spec_l27Stamp hk17
                  try simp only [go_sem, hk4, hk5, hk7, hk8, hk10, hk12, ghk13nan, ghk13nbn, ghk14naan, ghk14nabn, hk15] at fhk17
                  obtain ⟨y_18, hk18, h⟩ := bd_some h
                  have fhk18 := Fs_spec_l27Line hk18
                  try simp only [go_sem, hk4, hk5, hk7, hk8, hk10, hk12, ghk13nan, ghk13nbn, ghk14naan, ghk14nabn, hk15] at fhk18
                  obtain ⟨hk19, h⟩ := ck_some h
                  try simp only [go_sem, n1, n2, n3, n4, hk4, hk5, hk7, hk8, hk10, hk12, ghk13nan, ghk13nbn, ghk14naan, ghk14nabn, hk15] at hk19
                  all_goals
                  rcases it_some h with ⟨hk20, h⟩ | ⟨hk20, h⟩
                  · try simp only [go_sem, n1, n2, n3, n4, hk4, hk5, hk7, hk8, hk10, hk12, ghk13nan, ghk13nbn, ghk14naan, ghk14nabn, hk15, hk19] at hk20
                    all_goals
                    obtain rfl := so_some h
                    refine ⟨Lhk3, fun L hL => ?_⟩
                    have ehk3 := ehk3 L (by omega)
                    try simp only [go_sem, E_spec_l27R_lineA_l1, R_spec_l27R_lineA_l1, ir50_k0, ir50_o0, ir50_r0, hk4, hk5, hk7, hk8, hk10, hk12, ghk13nan, ghk13nbn, ghk14naan, ghk14nabn, hk15, hk19, hk20] at ehk3
                    simp only [go_sem, ir50, E_spec_l27R_lineA_l1, R_spec_l27R_lineA_l1, ir50_k0, ir50_o0, ir50_r0, hk4, hk5, fhk6, hk7, hk8, lhk8, xhk8, fhk9, hk10, lhk10, xhk10, fhk11, hk12, lhk12, xhk12, ghk13nan, ghk13nbn, ghk14naan, ghk14nabn, hk15, fhk16, fhk17, fhk18, hk19, hk20, ehk3]
                    exact ⟨rfl, rfl, rfl⟩
                  · try simp only [go_sem, n1, n2, n3, n4, hk4, hk5, hk7, hk8, hk10, hk12, ghk13nan, ghk13nbn, ghk14naan, ghk14nabn, hk15, hk19] at hk20
                    all_goals
                    obtain rfl := so_some h
                    refine ⟨Lhk3, fun L hL => ?_⟩
                    have ehk3 := ehk3 L (by omega)
                    try simp only [go_sem, E_spec_l27R_lineA_l1, R_spec_l27R_lineA_l1, ir50_k0, ir50_o0, ir50_r0, hk4, hk5, hk7, hk8, hk10, hk12, ghk13nan, ghk13nbn, ghk14naan, ghk14nabn, hk15, hk19, hk20] at ehk3
                    simp only [go_sem, ir50, E_spec_l27R_lineA_l1, R_spec_l27R_lineA_l1, ir50_k0, ir50_o0, ir50_r0, hk4, hk5, fhk6, hk7, hk8, lhk8, xhk8, fhk9, hk10, lhk10, xhk10, fhk11, hk12, lhk12, xhk12, ghk13nan, ghk13nbn, ghk14naan, ghk14nabn, hk15, fhk16, fhk17, fhk18, hk19, hk20, ehk3]
                    exact ⟨rfl, rfl, rfl, rfl, rfl, _, rfl, rfl⟩
            · obtain ⟨ghk14naa, ghk14nab⟩ := or_f ghk14na
              have ghk14naan := no_f ghk14naa
              have ghk14nabn := no_f ghk14nab
              have ghk14nbn := no_t ghk14nb
              try simp only [go_sem, n1, n2, n3, n4, hk4, hk5, hk7, hk8, hk10, hk12, ghk13nan, ghk13nbn] at ghk14naan
              all_goals
              try simp only [go_sem, n1, n2, n3, n4, hk4, hk5, hk7, hk8, hk10, hk12, ghk13nan, ghk13nbn, ghk14naan] at ghk14nabn
              all_goals
              try simp only [go_sem, n1, n2, n3, n4, hk4, hk5, hk7, hk8, hk10, hk12, ghk13nan, ghk13nbn, ghk14naan, ghk14nabn] at ghk14nbn
              all_goals
              rcases it_some h with ⟨hk15, h⟩ | ⟨hk15, h⟩
              · try simp only [go_sem, n1, n2, n3, n4, hk4, hk5, hk7, hk8, hk10, hk12, ghk13nan, ghk13nbn, ghk14naan, ghk14nabn, ghk14nbn] at hk15
                all_goals
                obtain rfl := so_some h
                refine ⟨Lhk3, fun L hL => ?_⟩
                have ehk3 := ehk3 L (by omega)
                try simp only [go_sem, E_spec_l27R_lineA_l1, R_spec_l27R_lineA_l1, ir50_k0, ir50_o0, ir50_r0, hk4, hk5, hk7, hk8, hk10, hk12, ghk13nan, ghk13nbn, ghk14naan, ghk14nabn, ghk14nbn, hk15] at ehk3
                simp only [go_sem, ir50, E_spec_l27R_lineA_l1, R_spec_l27R_lineA_l1, ir50_k0, ir50_o0, ir50_r0, hk4, hk5, fhk6, hk7, hk8, lhk8, xhk8, fhk9, hk10, lhk10, xhk10, fhk11, hk12, lhk12, xhk12, ghk13nan, ghk13nbn, ghk14naan, ghk14nabn, ghk14nbn, hk15, ehk3]
                exact ⟨rfl, rfl, rfl⟩
              · try simp only [go_sem, n1, n2, n3, n4, hk4, hk5, hk7, hk8, hk10, hk12, ghk13nan, ghk13nbn, ghk14naan, ghk14nabn, ghk14nbn] at hk15
                all_goals
                obtain ⟨y_16, hk16, h⟩ := bd_some h
                have fhk16 := Fs_spec_l27Words hk16
                try simp only [go_sem, hk4, hk5, hk7, hk8, hk10, hk12, ghk13nan, ghk13nbn, ghk14naan, ghk14nabn, ghk14nbn, hk15] at fhk16
                obtain ⟨y_17, hk17, h⟩ := bd_some h
                have fhk17 := Fs_spec_l27Stamp hk17
                try simp only [go_sem, hk4, hk5, hk7, hk8, hk10, hk12, ghk13nan, ghk13nbn, ghk14naan, ghk14nabn, ghk14nbn, hk15] at fhk17
                obtain ⟨y_18, hk18, h⟩ := bd_some h
                have fhk18 := Fs_spec_l27Line hk18
                try simp only [go_sem, hk4, hk5, hk7, hk8, hk10, hk12, ghk13nan, ghk13nbn, ghk14naan, ghk14nabn, ghk14nbn, hk15] at fhk18
                obtain ⟨hk19, h⟩ := ck_some h
                try simp only [go_sem, n1, n2, n3, n4, hk4, hk5, hk7, hk8, hk10, hk12, ghk13nan, ghk13nbn, ghk14naan, ghk14nabn, ghk14nbn, hk15] at hk19
                all_goals
                rcases it_some h with ⟨hk20, h⟩ | ⟨hk20, h⟩
                · try simp only [go_sem, n1, n2, n3, n4, hk4, hk5, hk7, hk8, hk10, hk12, ghk13nan, ghk13nbn, ghk14naan, ghk14nabn, ghk14nbn, hk15, hk19] at hk20
                  all_goals
                  obtain rfl := so_some h
                  refine ⟨Lhk3, fun L hL => ?_⟩
                  have ehk3 := ehk3 L (by omega)
                  try simp only [go_sem, E_spec_l27R_lineA_l1, R_spec_l27R_lineA_l1, ir50_k0, ir50_o0, ir50_r0, hk4, hk5, hk7, hk8, hk10, hk12, ghk13nan, ghk13nbn, ghk14naan, ghk14nabn, ghk14nbn, hk15, hk19, hk20] at ehk3
                  simp only [go_sem, ir50, E_spec_l27R_lineA_l1, R_spec_l27R_lineA_l1, ir50_k0, ir50_o0, ir50_r0, hk4, hk5, fhk6, hk7, hk8, lhk8, xhk8, fhk9, hk10, lhk10, xhk10, fhk11, hk12, lhk12, xhk12, ghk13nan, ghk13nbn, ghk14naan, ghk14nabn, ghk14nbn, hk15, fhk16, fhk17, fhk18, hk19, hk20, ehk3]
                  exact ⟨rfl, rfl, rfl⟩
                · try simp only [go_sem, n1, n2, n3, n4, hk4, hk5, hk7, hk8, hk10, hk12, ghk13nan, ghk13nbn, ghk14naan, ghk14nabn, ghk14nbn, hk15, hk19] at hk20
                  all_goals
                  obtain rfl := so_some h
                  refine ⟨Lhk3, fun L hL => ?_⟩
                  have ehk3 := ehk3 L (by omega)
                  try simp only [go_sem, E_spec_l27R_lineA_l1, R_spec_l27R_lineA_l1, ir50_k0, ir50_o0, ir50_r0, hk4, hk5, hk7, hk8, hk10, hk12, ghk13nan, ghk13nbn, ghk14naan, ghk14nabn, ghk14nbn, hk15, hk19, hk20] at ehk3
                  simp only [go_sem, ir50, E_spec_l27R_lineA_l1, R_spec_l27R_lineA_l1, ir50_k0, ir50_o0, ir50_r0, hk4, hk5, fhk6, hk7, hk8, lhk8, xhk8, fhk9, hk10, lhk10, xhk10, fhk11, hk12, lhk12, xhk12, ghk13nan, ghk13nbn, ghk14naan, ghk14nabn, ghk14nbn, hk15, fhk16, fhk17, fhk18, hk19, hk20, ehk3]
                  exact ⟨rfl, rfl, rfl, rfl, rfl, _, rfl, rfl⟩

end

end Go.Proofs.YtbdghipedlldbaaGreatDoor
