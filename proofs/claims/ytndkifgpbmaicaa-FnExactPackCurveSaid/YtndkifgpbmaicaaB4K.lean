/- Codes and contracts of the functions that B4 reaches, and that their typed forms say what they do. No condition. -/
import Derived.Test.YtndkifgpbmaicaaR4T
import Derived.Test.YtndkifgpbmaicaaRows
import Derived.WalkKit
namespace Go.Proofs.Ytndkifgpbmaicaa
open Go Go.RowKit
set_option linter.unusedVariables false
set_option linter.unusedSimpArgs false
set_option maxRecDepth 10000

def ir15_v : List Nat := [0, 1, 4]
def ir15 : AFn := ⟨2, 3, .seq (.region false [
    ⟨.var 2, 4, none, .mov (.c (.int .i64 (0)))⟩])
 (.seq (.region false [
    ⟨.push, 5, none, .mov (.v 1)⟩,
    ⟨.push, 6, none, .mov (.v 0)⟩,
    ⟨.push, 7, none, .len false (.s 0)⟩,
    ⟨.push, 8, none, .bin false .sub (.s 2) (.s 0)⟩,
    ⟨.var 1, 1, none, .mov (.s 0)⟩])
 (.seq (.test false [
    ⟨.push, 9, none, .mov (.v 1)⟩,
    ⟨.push, 10, none, .bin false .lss (.s 0) (.c (.int .i64 (0)))⟩] (.s 0)
  (.seq (.region false [
      ⟨.var 2, 4, none, .mov (.c (.int .i64 (-1)))⟩])
   (.ret))
  (.skip))
 (.seq (.region false [
    ⟨.push, 11, none, .mov (.v 1)⟩,
    ⟨.var 2, 4, none, .mov (.s 0)⟩])
 (.ret)))), [.t 2]⟩
noncomputable def t_laws_szPointS : List (Nat × Ctr) := []
noncomputable def c_laws_szPointS : Ctr := mkF t_laws_szPointS ir15 [.bor, .bor]
theorem s_laws_szPointS : Sound Try.prog 15 c_laws_szPointS := mkF_sound _ rfl snd_nil (by kernel_rfl : chkFn Try.prog 15 ir15 ir15_v = true)
theorem M_laws_szPointS : c_laws_szPointS.modes = [.bor, .bor] := rfl
theorem Fl_laws_szPointS : c_laws_szPointS.flat = true := rfl
attribute [go_sem] M_laws_szPointS Fl_laws_szPointS
theorem Fs_laws_szPointS {a : List Point} {left_ : Int} {y_ : Int} (h : laws_szPointS a left_ = some y_) : c_laws_szPointS.F [.sl 2 (List.map Point_av a), .int .i64 left_] = ⟨true, .int .i64 y_, [.any, .any]⟩ := by
  refine mkF_E rfl ?_
  dsimp only [laws_szPointS] at h
  rcases it_some h with ⟨hk1, h⟩ | ⟨hk1, h⟩
  · try simp only [go_sem, n1, n2, n3, n4] at hk1
    all_goals
    obtain rfl := so_some h
    refine ⟨0, fun L hL => ?_⟩
    simp only [go_sem, ir15, hk1]
  · try simp only [go_sem, n1, n2, n3, n4] at hk1
    all_goals
    obtain rfl := so_some h
    refine ⟨0, fun L hL => ?_⟩
    simp only [go_sem, ir15, hk1]


def ir33_v : List Nat := [0, 1, 2, 3]
def ir33 : AFn := ⟨1, 4, .seq (.region false [
    ⟨.var 1, 1, none, .box (.v 0)⟩,
    ⟨.var 2, 2, none, .alloc (.agg [.int .i64 (0), .int .i64 (0)])⟩])
 (.seq (.region false [
    ⟨.var 3, 3, none, .alloc (.agg [.int .i64 (0), .int .i64 (0)])⟩])
 (.seq (.region false [
    ⟨.push, 4, none, .fldAddr 0 (.v 1)⟩,
    ⟨.push, 5, none, .load false 1 (.s 0)⟩,
    ⟨.push, 6, none, .fldAddr 0 (.v 3)⟩,
    ⟨.no, 0, none, .store 1 (.s 0) (.s 1)⟩])
 (.seq (.region false [
    ⟨.push, 7, none, .fldAddr 1 (.v 1)⟩,
    ⟨.push, 8, none, .load false 1 (.s 0)⟩,
    ⟨.push, 9, none, .fldAddr 1 (.v 3)⟩,
    ⟨.no, 0, none, .store 1 (.s 0) (.s 1)⟩])
 (.seq (.region false [
    ⟨.push, 10, none, .load true 2 (.v 3)⟩,
    ⟨.no, 0, none, .store 2 (.v 2) (.s 0)⟩])
 (.ret))))), [.cell true 2 2]⟩
noncomputable def t_laws_toPoint : List (Nat × Ctr) := []
noncomputable def c_laws_toPoint : Ctr := mkN t_laws_toPoint ir33 [.bor]
theorem s_laws_toPoint : Sound Try.prog 33 c_laws_toPoint := mkN_sound _ snd_nil (by kernel_rfl : chkFn Try.prog 33 ir33 ir33_v = true)
theorem M_laws_toPoint : c_laws_toPoint.modes = [.bor] := rfl
theorem Fl_laws_toPoint : c_laws_toPoint.flat = false := rfl
attribute [go_sem] M_laws_toPoint Fl_laws_toPoint
theorem Fs_laws_toPoint {a : Point} {y_ : Point} (h : laws_toPoint a = some y_) : c_laws_toPoint.F [Point_av a] = ⟨true, Point_av y_, [.any]⟩ := by
  refine mkN_E ?_
  dsimp only [laws_toPoint] at h
  obtain rfl := so_some h
  refine ⟨0, fun L hL => ?_⟩
  simp only [go_sem, ir33]


def ir17_b0 : IR := .seq (.test false [
    ⟨.push, 8, none, .mov (.v 3)⟩,
    ⟨.push, 9, none, .mov (.v 0)⟩,
    ⟨.push, 10, none, .len false (.s 0)⟩,
    ⟨.push, 11, none, .bin false .lss (.s 2) (.s 0)⟩] (.s 0)
  (.skip)
  (.exit 0))
 (.seq (.block 1 (.region false [
     ⟨.push, 14, none, .mov (.v 2)⟩,
     ⟨.push, 15, none, .mov (.v 3)⟩,
     ⟨.push, 16, none, .mov (.v 0)⟩,
     ⟨.push, 17, none, .mov (.v 3)⟩,
     ⟨.push, 18, none, .ixAddr 2 (.s 1) (.s 0)⟩,
     ⟨.push, 19, none, .load true 2 (.s 0)⟩,
     ⟨.push, 20, none, .call 33 [(.s 0)]⟩,
     ⟨.push, 21, none, .ixAddr 2 (.s 6) (.s 5)⟩,
     ⟨.no, 0, none, .store 2 (.s 0) (.s 1)⟩]))
 (.region false [
   ⟨.push, 12, none, .mov (.v 3)⟩,
   ⟨.push, 13, none, .bin false .add (.s 0) (.c (.int .i64 (1)))⟩,
   ⟨.var 3, 4, none, .mov (.s 0)⟩]))
def ir17_k0 : List Bool := [true, false, true, true]
def ir17_o0 : List Bool := [false, false, true, false]
def ir17_r0 : List Bool := [false, true, false, false]
def ir17_v : List Nat := [0, 2, 3, 4]
def ir17 : AFn := ⟨1, 4, .seq (.region false [
    ⟨.var 1, 2, none, .newnil 2⟩])
 (.seq (.region false [
    ⟨.push, 5, none, .mov (.v 0)⟩,
    ⟨.push, 6, none, .len false (.s 0)⟩,
    ⟨.push, 7, none, .make 2 16 (.agg [.int .i64 (0), .int .i64 (0)]) (.s 0) (.s 0)⟩,
    ⟨.var 2, 3, none, .mov (.s 0)⟩])
 (.seq (.seq (.region false [
     ⟨.var 3, 4, none, .mov (.c (.int .i64 (0)))⟩])
  (.block 0 (.loop ir17_k0 ir17_o0 ir17_r0 ir17_b0)))
 (.seq (.region false [
    ⟨.push, 22, none, .mov (.v 2)⟩,
    ⟨.var 1, 2, none, .mov (.s 0)⟩])
 (.ret)))), [.t 1]⟩
noncomputable def t_laws_toPointS : List (Nat × Ctr) := [(33, c_laws_toPoint)]
theorem lk_laws_toPointS_33 : look t_laws_toPointS 33 = some c_laws_toPoint := rfl
noncomputable def c_laws_toPointS : Ctr := mkF t_laws_toPointS ir17 [.bor]
theorem s_laws_toPointS : Sound Try.prog 17 c_laws_toPointS := mkF_sound _ rfl (snd_cons s_laws_toPoint snd_nil) (by kernel_rfl : chkFn Try.prog 17 ir17 ir17_v = true)
theorem M_laws_toPointS : c_laws_toPointS.modes = [.bor] := rfl
theorem Fl_laws_toPointS : c_laws_toPointS.flat = true := rfl
attribute [go_sem] M_laws_toPointS Fl_laws_toPointS
attribute [go_sem] lk_laws_toPointS_33
def E_laws_toPointS_l1 (a : List Point) : ((List Point) × Int) → St
  | (out, i) => ⟨[.sl 2 (List.map Point_av a), .any, .own 3200000, .int .i64 i], [], [(3200000, ⟨2, List.map Point_av out⟩)], true⟩
def R_laws_toPointS_l1 (a : List Point) (y : (List Point)) : Res := (.exit 0, ⟨[.any, .any, .own 3200000, .any], [], [(3200000, ⟨2, List.map Point_av y⟩)], true⟩)
theorem laws_toPointS_l1_ex {a : List Point} {sgm_ : (List Point) × Int} {rho_ : (List Point)} (h : whileE (laws_toPointS_l1 a) sgm_ = some rho_) : ∃ L0, ∀ L, L0 ≤ L → iter (exec (look t_laws_toPointS) L ir17_b0) ir17_k0 ir17_o0 ir17_r0 L (E_laws_toPointS_l1 a sgm_) = R_laws_toPointS_l1 a rho_ := by
  refine loop_ex (E := E_laws_toPointS_l1 a) (R := R_laws_toPointS_l1 a) (fun y => by first | (intro c; cases c) | (rcases y with y | y <;> (intro c; cases c)) | (rcases y with y | y | y <;> (intro c; cases c))) ?_ h
  clear h
  rintro ⟨out, i⟩ o_ h
  dsimp only [laws_toPointS_l1] at h
  rcases it_some h with ⟨hk2, h⟩ | ⟨hk2, h⟩
  · try simp only [go_sem, n1, n2, n3, n4] at hk2
    all_goals
    obtain ⟨hk3, h⟩ := ck_some h
    have lhk3 := ix_lt hk3
    have xhk3 := getD_mapD Point_av a lhk3
    try simp only [go_sem] at lhk3
    try simp only [go_sem] at xhk3
    try simp only [go_sem, n1, n2, n3, n4, hk2] at hk3
    all_goals
    obtain ⟨y_4, hk4, h⟩ := bd_some h
    have fhk4 := Fs_laws_toPoint hk4
    try simp only [go_sem] at fhk4
    obtain ⟨hk5, h⟩ := ck_some h
    have lhk5 := ix_lt hk5
    have xhk5 := getD_mapD Point_av out lhk5
    try simp only [go_sem] at lhk5
    try simp only [go_sem] at xhk5
    try simp only [go_sem, n1, n2, n3, n4, hk2, hk3] at hk5
    all_goals
    obtain rfl := so_some h
    refine ⟨0, fun L hL => ?_⟩
    simp only [go_sem, ir17, E_laws_toPointS_l1, R_laws_toPointS_l1, ir17_b0, ir17_k0, ir17_o0, ir17_r0, hk2, hk3, lhk3, xhk3, fhk4, hk5, lhk5, xhk5]
  · try simp only [go_sem, n1, n2, n3, n4] at hk2
    all_goals
    obtain rfl := so_some h
    refine ⟨0, fun L hL => ?_⟩
    simp only [go_sem, ir17, E_laws_toPointS_l1, R_laws_toPointS_l1, ir17_b0, ir17_k0, ir17_o0, ir17_r0, hk2]

theorem Fs_laws_toPointS {a : List Point} {y_ : (List Point)} (h : laws_toPointS a = some y_) : c_laws_toPointS.F [.sl 2 (List.map Point_av a)] = ⟨true, .fresh 2 (List.map Point_av y_), [.any]⟩ := by
  refine mkF_E (by simp only [flatA, flatB, flat1, List.all_cons, List.all_nil, Bool.and_self, flatE_map (f := Point_av) (fun _ => rfl)]) ?_
  dsimp only [laws_toPointS] at h
  obtain ⟨hk1, h⟩ := ck_some h
  try simp only [go_sem, n1, n2, n3, n4] at hk1
  all_goals
  obtain ⟨y_6, hk6, h⟩ := bd_some h
  obtain ⟨Lhk6, ehk6⟩ := laws_toPointS_l1_ex hk6
  obtain rfl := so_some h
  refine ⟨Lhk6, fun L hL => ?_⟩
  have ehk6 := ehk6 L (by omega)
  try simp only [go_sem, E_laws_toPointS_l1, R_laws_toPointS_l1, ir17_k0, ir17_o0, ir17_r0] at ehk6
  simp only [go_sem, ir17, E_laws_toPointS_l1, R_laws_toPointS_l1, ir17_k0, ir17_o0, ir17_r0, hk1, ehk6]


def ir70_v : List Nat := [0, 1, 2, 6]
def ir70 : AFn := ⟨3, 4, .seq (.region false [
    ⟨.var 3, 6, none, .mov (.c (.bool false))⟩])
 (.seq (.region false [
    ⟨.push, 7, none, .mov (.v 0)⟩,
    ⟨.push, 8, none, .mov (.v 1)⟩,
    ⟨.push, 9, none, .bin false .geq (.s 1) (.s 0)⟩,
    ⟨.push, 10, none, .mov (.s 0)⟩,
    ⟨.push, 11, (some ((.s 0), true)), .mov (.v 0)⟩,
    ⟨.push, 12, (some ((.s 1), true)), .mov (.v 2)⟩,
    ⟨.push, 13, (some ((.s 2), true)), .bin false .leq (.s 1) (.s 0)⟩,
    ⟨.push, 14, none, .pick (.s 3) (.s 0) (.c (.bool false))⟩,
    ⟨.var 3, 6, none, .mov (.s 0)⟩])
 (.ret)), [.t 3]⟩
noncomputable def t_spec_l00In : List (Nat × Ctr) := []
noncomputable def c_spec_l00In : Ctr := mkF t_spec_l00In ir70 [.bor, .bor, .bor]
theorem s_spec_l00In : Sound Try.prog 70 c_spec_l00In := mkF_sound _ rfl snd_nil (by kernel_rfl : chkFn Try.prog 70 ir70 ir70_v = true)
theorem M_spec_l00In : c_spec_l00In.modes = [.bor, .bor, .bor] := rfl
theorem Fl_spec_l00In : c_spec_l00In.flat = true := rfl
attribute [go_sem] M_spec_l00In Fl_spec_l00In
theorem Fs_spec_l00In {n : Int} {low : Int} {high : Int} {y_ : Bool} (h : spec_l00In n low high = some y_) : c_spec_l00In.F [.int .i64 n, .int .i64 low, .int .i64 high] = ⟨true, .bool y_, [.any, .any, .any]⟩ := by
  refine mkF_E rfl ?_
  dsimp only [spec_l00In] at h
  obtain rfl := so_some h
  refine ⟨0, fun L hL => ?_⟩
  simp only [go_sem, ir70]


def ir54_v : List Nat := [0, 2]
def ir54 : AFn := ⟨1, 2, .seq (.region false [
    ⟨.var 1, 2, none, .mov (.c (.bool false))⟩])
 (.seq (.region false [
    ⟨.push, 3, none, .mov (.v 0)⟩,
    ⟨.push, 4, none, .call 70 [(.s 0), (.c (.int .i64 (0))), (.c (.int .i64 (10000000)))]⟩,
    ⟨.var 1, 2, none, .mov (.s 0)⟩])
 (.ret)), [.t 1]⟩
noncomputable def t_spec_l06Time : List (Nat × Ctr) := [(70, c_spec_l00In)]
theorem lk_spec_l06Time_70 : look t_spec_l06Time 70 = some c_spec_l00In := rfl
noncomputable def c_spec_l06Time : Ctr := mkF t_spec_l06Time ir54 [.bor]
theorem s_spec_l06Time : Sound Try.prog 54 c_spec_l06Time := mkF_sound _ rfl (snd_cons s_spec_l00In snd_nil) (by kernel_rfl : chkFn Try.prog 54 ir54 ir54_v = true)
theorem M_spec_l06Time : c_spec_l06Time.modes = [.bor] := rfl
theorem Fl_spec_l06Time : c_spec_l06Time.flat = true := rfl
attribute [go_sem] M_spec_l06Time Fl_spec_l06Time
attribute [go_sem] lk_spec_l06Time_70
theorem Fs_spec_l06Time {n : Int} {y_ : Bool} (h : spec_l06Time n = some y_) : c_spec_l06Time.F [.int .i64 n] = ⟨true, .bool y_, [.any]⟩ := by
  refine mkF_E rfl ?_
  dsimp only [spec_l06Time] at h
  obtain ⟨y_1, hk1, h⟩ := bd_some h
  have fhk1 := Fs_spec_l00In hk1
  try simp only [go_sem] at fhk1
  obtain rfl := so_some h
  refine ⟨0, fun L hL => ?_⟩
  simp only [go_sem, ir54, fhk1]


def ir55_v : List Nat := [0, 2]
def ir55 : AFn := ⟨1, 2, .seq (.region false [
    ⟨.var 1, 2, none, .mov (.c (.bool false))⟩])
 (.seq (.region false [
    ⟨.push, 3, none, .mov (.v 0)⟩,
    ⟨.push, 4, none, .call 70 [(.s 0), (.c (.int .i64 (-2000))), (.c (.int .i64 (20000)))]⟩,
    ⟨.var 1, 2, none, .mov (.s 0)⟩])
 (.ret)), [.t 1]⟩
noncomputable def t_spec_l02Mag : List (Nat × Ctr) := [(70, c_spec_l00In)]
theorem lk_spec_l02Mag_70 : look t_spec_l02Mag 70 = some c_spec_l00In := rfl
noncomputable def c_spec_l02Mag : Ctr := mkF t_spec_l02Mag ir55 [.bor]
theorem s_spec_l02Mag : Sound Try.prog 55 c_spec_l02Mag := mkF_sound _ rfl (snd_cons s_spec_l00In snd_nil) (by kernel_rfl : chkFn Try.prog 55 ir55 ir55_v = true)
theorem M_spec_l02Mag : c_spec_l02Mag.modes = [.bor] := rfl
theorem Fl_spec_l02Mag : c_spec_l02Mag.flat = true := rfl
attribute [go_sem] M_spec_l02Mag Fl_spec_l02Mag
attribute [go_sem] lk_spec_l02Mag_70
theorem Fs_spec_l02Mag {m : Int} {y_ : Bool} (h : spec_l02Mag m = some y_) : c_spec_l02Mag.F [.int .i64 m] = ⟨true, .bool y_, [.any]⟩ := by
  refine mkF_E rfl ?_
  dsimp only [spec_l02Mag] at h
  obtain ⟨y_1, hk1, h⟩ := bd_some h
  have fhk1 := Fs_spec_l00In hk1
  try simp only [go_sem] at fhk1
  obtain rfl := so_some h
  refine ⟨0, fun L hL => ?_⟩
  simp only [go_sem, ir55, fhk1]


def ir31_b0 : IR := .seq (.test false [
    ⟨.push, 4, none, .mov (.v 2)⟩,
    ⟨.push, 5, none, .mov (.v 0)⟩,
    ⟨.push, 6, none, .len false (.s 0)⟩,
    ⟨.push, 7, none, .bin false .lss (.s 2) (.s 0)⟩] (.s 0)
  (.skip)
  (.exit 0))
 (.seq (.block 1 (.anyo 34 [
     ⟨.slot 0, 10, none, .mov (.v 0)⟩,
     ⟨.slot 1, 11, none, .mov (.v 2)⟩,
     ⟨.slot 2, 12, none, .ixAddr 2 (.s 0) (.s 1)⟩,
     ⟨.slot 3, 13, none, .fldAddr 0 (.s 2)⟩,
     ⟨.slot 4, 14, none, .load false 1 (.s 3)⟩,
     ⟨.slot 5, 15, none, .callp 54 [(.s 4)]⟩,
     ⟨.slot 6, 16, none, .un .not (.s 5)⟩,
     ⟨.slot 7, 17, none, .mov (.s 6)⟩,
     ⟨.slot 8, 18, (some ((.s 7), false)), .mov (.v 0)⟩,
     ⟨.slot 9, 19, (some ((.s 7), false)), .mov (.v 2)⟩,
     ⟨.slot 10, 20, (some ((.s 7), false)), .ixAddr 2 (.s 8) (.s 9)⟩,
     ⟨.slot 11, 21, (some ((.s 7), false)), .fldAddr 1 (.s 10)⟩,
     ⟨.slot 12, 22, (some ((.s 7), false)), .load false 1 (.s 11)⟩,
     ⟨.slot 13, 23, (some ((.s 7), false)), .call 55 [(.s 12)]⟩,
     ⟨.slot 14, 24, (some ((.s 7), false)), .un .not (.s 13)⟩,
     ⟨.slot 15, 25, none, .pick (.s 7) (.c (.bool true)) (.s 14)⟩,
     ⟨.slot 16, 26, none, .mov (.s 15)⟩,
     ⟨.slot 17, 27, (some ((.s 16), false)), .mov (.v 2)⟩,
     ⟨.slot 18, 28, (some ((.s 16), false)), .bin false .gtr (.s 17) (.c (.int .i64 (0)))⟩,
     ⟨.slot 19, 29, (some ((.s 16), false)), .mov (.s 18)⟩,
     ⟨.slot 20, 30, (some ((.s 19), true)), .mov (.v 0)⟩,
     ⟨.slot 21, 31, (some ((.s 19), true)), .mov (.v 2)⟩,
     ⟨.slot 22, 32, (some ((.s 19), true)), .bin false .sub (.s 21) (.c (.int .i64 (1)))⟩,
     ⟨.slot 23, 33, (some ((.s 19), true)), .ixAddr 2 (.s 20) (.s 22)⟩,
     ⟨.slot 24, 34, (some ((.s 19), true)), .fldAddr 0 (.s 23)⟩,
     ⟨.slot 25, 35, (some ((.s 19), true)), .load false 1 (.s 24)⟩,
     ⟨.slot 26, 36, (some ((.s 19), true)), .mov (.v 0)⟩,
     ⟨.slot 27, 37, (some ((.s 19), true)), .mov (.v 2)⟩,
     ⟨.slot 28, 38, (some ((.s 19), true)), .ixAddr 2 (.s 26) (.s 27)⟩,
     ⟨.slot 29, 39, (some ((.s 19), true)), .fldAddr 0 (.s 28)⟩,
     ⟨.slot 30, 40, (some ((.s 19), true)), .load false 1 (.s 29)⟩,
     ⟨.slot 31, 41, (some ((.s 19), true)), .bin false .geq (.s 25) (.s 30)⟩,
     ⟨.slot 32, 42, (some ((.s 16), false)), .pick (.s 19) (.s 31) (.c (.bool false))⟩,
     ⟨.slot 33, 43, none, .pick (.s 16) (.c (.bool true)) (.s 32)⟩] [] (.cond (.s 33)
   (.seq (.region false [
       ⟨.var 1, 2, none, .mov (.c (.bool false))⟩])
    (.ret))
   (.skip))))
 (.region false [
   ⟨.push, 8, none, .mov (.v 2)⟩,
   ⟨.push, 9, none, .bin false .add (.s 0) (.c (.int .i64 (1)))⟩,
   ⟨.var 2, 3, none, .mov (.s 0)⟩]))
def ir31_k0 : List Bool := [true, false, true]
def ir31_o0 : List Bool := [true, false, false]
def ir31_r0 : List Bool := [false, true, false]
def ir31_v : List Nat := [0, 2, 3]
def ir31 : AFn := ⟨1, 3, .seq (.region false [
    ⟨.var 1, 2, none, .mov (.c (.bool false))⟩])
 (.seq (.seq (.region false [
     ⟨.var 2, 3, none, .mov (.c (.int .i64 (0)))⟩])
  (.block 0 (.loop ir31_k0 ir31_o0 ir31_r0 ir31_b0)))
 (.seq (.region false [
    ⟨.push, 44, none, .mov (.v 0)⟩,
    ⟨.push, 45, none, .len false (.s 0)⟩,
    ⟨.push, 46, none, .bin false .leq (.s 0) (.c (.int .i64 (100)))⟩,
    ⟨.var 1, 2, none, .mov (.s 0)⟩])
 (.ret))), [.t 1]⟩
noncomputable def t_spec_l08Ok : List (Nat × Ctr) := [(54, c_spec_l06Time), (55, c_spec_l02Mag)]
theorem lk_spec_l08Ok_54 : look t_spec_l08Ok 54 = some c_spec_l06Time := rfl
theorem lk_spec_l08Ok_55 : look t_spec_l08Ok 55 = some c_spec_l02Mag := rfl
noncomputable def c_spec_l08Ok : Ctr := mkF t_spec_l08Ok ir31 [.bor]
theorem s_spec_l08Ok : Sound Try.prog 31 c_spec_l08Ok := mkF_sound _ rfl (snd_cons s_spec_l06Time (snd_cons s_spec_l02Mag snd_nil)) (by kernel_rfl : chkFn Try.prog 31 ir31 ir31_v = true)
theorem M_spec_l08Ok : c_spec_l08Ok.modes = [.bor] := rfl
theorem Fl_spec_l08Ok : c_spec_l08Ok.flat = true := rfl
attribute [go_sem] M_spec_l08Ok Fl_spec_l08Ok
attribute [go_sem] lk_spec_l08Ok_54 lk_spec_l08Ok_55
def E_spec_l08Ok_l1 (curve : List Point) : Int → St
  | i => ⟨[.sl 2 (List.map Point_av curve), .any, .int .i64 i], [], [], true⟩
def R_spec_l08Ok_l1 (curve : List Point) : (Unit ⊕ Bool) → Res
  | .inl y => (.exit 0, ⟨[.sl 2 (List.map Point_av curve), .any, .any], [], [], true⟩)
  | .inr y => (.ret, ⟨[.any, .bool y, .any], [], [], true⟩)
theorem spec_l08Ok_l1_ex {curve : List Point} {sgm_ : Int} {rho_ : Unit ⊕ Bool} (h : whileE (spec_l08Ok_l1 curve) sgm_ = some rho_) : ∃ L0, ∀ L, L0 ≤ L → iter (exec (look t_spec_l08Ok) L ir31_b0) ir31_k0 ir31_o0 ir31_r0 L (E_spec_l08Ok_l1 curve sgm_) = R_spec_l08Ok_l1 curve rho_ := by
  refine loop_ex (E := E_spec_l08Ok_l1 curve) (R := R_spec_l08Ok_l1 curve) (fun y => by first | (intro c; cases c) | (rcases y with y | y <;> (intro c; cases c)) | (rcases y with y | y | y <;> (intro c; cases c))) ?_ h
  clear h
  intro i o_ h
  dsimp only [spec_l08Ok_l1] at h
  rcases it_some h with ⟨hk1, h⟩ | ⟨hk1, h⟩
  · try simp only [go_sem, n1, n2, n3, n4] at hk1
    all_goals
    obtain ⟨hk2, h⟩ := ck_some h
    have lhk2 := ix_lt hk2
    have xhk2 := getD_mapD Point_av curve lhk2
    try simp only [go_sem] at lhk2
    try simp only [go_sem] at xhk2
    try simp only [go_sem, n1, n2, n3, n4, hk1] at hk2
    all_goals
    obtain ⟨y_3, hk3, h⟩ := bd_some h
    have fhk3 := Fs_spec_l06Time hk3
    try simp only [go_sem] at fhk3
    obtain ⟨hk4, h⟩ := ck_some h
    rcases or_split hk4 with ⟨ghk4, hk4⟩ | ghk4
    · try simp only [go_sem, n1, n2, n3, n4, hk1, hk2] at ghk4
      all_goals
      obtain ⟨y_4, hhk4⟩ := Option.isSome_iff_exists.1 hk4
      have fhk4 := Fs_spec_l02Mag hhk4
      try simp only [go_sem] at fhk4
      obtain ⟨hk5, h⟩ := ck_some h
      rcases or_split hk5 with ⟨ghk5, hk5⟩ | ghk5
      · try simp only [go_sem, n1, n2, n3, n4, hk1, hk2, ghk4, hhk4] at ghk5
        all_goals
        have lhk5 := ix_lt hk5
        have xhk5 := getD_mapD Point_av curve lhk5
        try simp only [go_sem] at lhk5
        try simp only [go_sem] at xhk5
        try simp only [go_sem, n1, n2, n3, n4, hk1, hk2, ghk4, hhk4, ghk5] at hk5
        all_goals
        rcases it_some h with ⟨hk6, h⟩ | ⟨hk6, h⟩
        · try simp only [go_sem, n1, n2, n3, n4, hk1, hk2, ghk4, hhk4, ghk5, hk5] at hk6
          all_goals
          obtain rfl := so_some h
          refine ⟨0, fun L hL => ?_⟩
          simp only [go_sem, ir31, E_spec_l08Ok_l1, R_spec_l08Ok_l1, ir31_b0, ir31_k0, ir31_o0, ir31_r0, hk1, hk2, lhk2, xhk2, fhk3, ghk4, hhk4, fhk4, ghk5, hk5, lhk5, xhk5, hk6]
        · try simp only [go_sem, n1, n2, n3, n4, hk1, hk2, ghk4, hhk4, ghk5, hk5] at hk6
          all_goals
          obtain rfl := so_some h
          refine ⟨0, fun L hL => ?_⟩
          simp only [go_sem, ir31, E_spec_l08Ok_l1, R_spec_l08Ok_l1, ir31_b0, ir31_k0, ir31_o0, ir31_r0, hk1, hk2, lhk2, xhk2, fhk3, ghk4, hhk4, fhk4, ghk5, hk5, lhk5, xhk5, hk6]
      · rcases and_f ghk5 with ghk5a | ⟨ghk5a, ghk5b⟩
        · have ghk5an := no_f ghk5a
          rcases or_t ghk5an with ghk5ana | ⟨ghk5ana, ghk5anb⟩
          · have ghk5anan := no_t ghk5ana
            try simp only [go_sem, n1, n2, n3, n4, hk1, hk2, ghk4, hhk4] at ghk5anan
            all_goals
            rcases it_some h with ⟨hk6, h⟩ | ⟨hk6, h⟩
            · try simp only [go_sem, n1, n2, n3, n4, hk1, hk2, ghk4, hhk4, ghk5anan] at hk6
              all_goals
              obtain rfl := so_some h
              refine ⟨0, fun L hL => ?_⟩
              simp only [go_sem, ir31, E_spec_l08Ok_l1, R_spec_l08Ok_l1, ir31_b0, ir31_k0, ir31_o0, ir31_r0, hk1, hk2, lhk2, xhk2, fhk3, ghk4, hhk4, fhk4, ghk5anan, hk6]
            · try simp only [go_sem, n1, n2, n3, n4, hk1, hk2, ghk4, hhk4, ghk5anan] at hk6
              all_goals
              obtain rfl := so_some h
              refine ⟨0, fun L hL => ?_⟩
              simp only [go_sem, ir31, E_spec_l08Ok_l1, R_spec_l08Ok_l1, ir31_b0, ir31_k0, ir31_o0, ir31_r0, hk1, hk2, lhk2, xhk2, fhk3, ghk4, hhk4, fhk4, ghk5anan, hk6]
          · have ghk5anan := no_f ghk5ana
            have ghk5anbn := no_t ghk5anb
            try simp only [go_sem, n1, n2, n3, n4, hk1, hk2, ghk4, hhk4] at ghk5anan
            all_goals
            try simp only [go_sem, n1, n2, n3, n4, hk1, hk2, ghk4, hhk4, ghk5anan] at ghk5anbn
            all_goals
            rcases it_some h with ⟨hk6, h⟩ | ⟨hk6, h⟩
            · try simp only [go_sem, n1, n2, n3, n4, hk1, hk2, ghk4, hhk4, ghk5anan, ghk5anbn] at hk6
              all_goals
              obtain rfl := so_some h
              refine ⟨0, fun L hL => ?_⟩
              simp only [go_sem, ir31, E_spec_l08Ok_l1, R_spec_l08Ok_l1, ir31_b0, ir31_k0, ir31_o0, ir31_r0, hk1, hk2, lhk2, xhk2, fhk3, ghk4, hhk4, fhk4, ghk5anan, ghk5anbn, hk6]
            · try simp only [go_sem, n1, n2, n3, n4, hk1, hk2, ghk4, hhk4, ghk5anan, ghk5anbn] at hk6
              all_goals
              obtain rfl := so_some h
              refine ⟨0, fun L hL => ?_⟩
              simp only [go_sem, ir31, E_spec_l08Ok_l1, R_spec_l08Ok_l1, ir31_b0, ir31_k0, ir31_o0, ir31_r0, hk1, hk2, lhk2, xhk2, fhk3, ghk4, hhk4, fhk4, ghk5anan, ghk5anbn, hk6]
        · have ghk5an := no_t ghk5a
          obtain ⟨ghk5ana, ghk5anb⟩ := or_f ghk5an
          have ghk5anan := no_f ghk5ana
          have ghk5anbn := no_f ghk5anb
          try simp only [go_sem, n1, n2, n3, n4, hk1, hk2, ghk4, hhk4] at ghk5anan
          all_goals
          try simp only [go_sem, n1, n2, n3, n4, hk1, hk2, ghk4, hhk4, ghk5anan] at ghk5anbn
          all_goals
          try simp only [go_sem, n1, n2, n3, n4, hk1, hk2, ghk4, hhk4, ghk5anan, ghk5anbn] at ghk5b
          all_goals
          rcases it_some h with ⟨hk6, h⟩ | ⟨hk6, h⟩
          · try simp only [go_sem, n1, n2, n3, n4, hk1, hk2, ghk4, hhk4, ghk5anan, ghk5anbn, ghk5b] at hk6
            all_goals
            obtain rfl := so_some h
            refine ⟨0, fun L hL => ?_⟩
            simp only [go_sem, ir31, E_spec_l08Ok_l1, R_spec_l08Ok_l1, ir31_b0, ir31_k0, ir31_o0, ir31_r0, hk1, hk2, lhk2, xhk2, fhk3, ghk4, hhk4, fhk4, ghk5anan, ghk5anbn, ghk5b, hk6]
          · try simp only [go_sem, n1, n2, n3, n4, hk1, hk2, ghk4, hhk4, ghk5anan, ghk5anbn, ghk5b] at hk6
            all_goals
            obtain rfl := so_some h
            refine ⟨0, fun L hL => ?_⟩
            simp only [go_sem, ir31, E_spec_l08Ok_l1, R_spec_l08Ok_l1, ir31_b0, ir31_k0, ir31_o0, ir31_r0, hk1, hk2, lhk2, xhk2, fhk3, ghk4, hhk4, fhk4, ghk5anan, ghk5anbn, ghk5b, hk6]
    · have ghk4n := no_f ghk4
      have ghk4nn := no_t ghk4n
      try simp only [go_sem, n1, n2, n3, n4, hk1, hk2] at ghk4nn
      all_goals
      obtain ⟨hk5, h⟩ := ck_some h
      rcases or_split hk5 with ⟨ghk5, hk5⟩ | ghk5
      · try simp only [go_sem, n1, n2, n3, n4, hk1, hk2, ghk4nn] at ghk5
        all_goals
        have lhk5 := ix_lt hk5
        have xhk5 := getD_mapD Point_av curve lhk5
        try simp only [go_sem] at lhk5
        try simp only [go_sem] at xhk5
        try simp only [go_sem, n1, n2, n3, n4, hk1, hk2, ghk4nn, ghk5] at hk5
        all_goals
        rcases it_some h with ⟨hk6, h⟩ | ⟨hk6, h⟩
        · try simp only [go_sem, n1, n2, n3, n4, hk1, hk2, ghk4nn, ghk5, hk5] at hk6
          all_goals
          obtain rfl := so_some h
          refine ⟨0, fun L hL => ?_⟩
          simp only [go_sem, ir31, E_spec_l08Ok_l1, R_spec_l08Ok_l1, ir31_b0, ir31_k0, ir31_o0, ir31_r0, hk1, hk2, lhk2, xhk2, fhk3, ghk4nn, ghk5, hk5, lhk5, xhk5, hk6]
        · try simp only [go_sem, n1, n2, n3, n4, hk1, hk2, ghk4nn, ghk5, hk5] at hk6
          all_goals
          obtain rfl := so_some h
          refine ⟨0, fun L hL => ?_⟩
          simp only [go_sem, ir31, E_spec_l08Ok_l1, R_spec_l08Ok_l1, ir31_b0, ir31_k0, ir31_o0, ir31_r0, hk1, hk2, lhk2, xhk2, fhk3, ghk4nn, ghk5, hk5, lhk5, xhk5, hk6]
      · rcases and_f ghk5 with ghk5a | ⟨ghk5a, ghk5b⟩
        · have ghk5an := no_f ghk5a
          rcases or_t ghk5an with ghk5ana | ⟨ghk5ana, ghk5anb⟩
          · have ghk5anan := no_t ghk5ana
            try simp only [go_sem, n1, n2, n3, n4, hk1, hk2, ghk4nn] at ghk5anan
            all_goals
            rcases it_some h with ⟨hk6, h⟩ | ⟨hk6, h⟩
            · try simp only [go_sem, n1, n2, n3, n4, hk1, hk2, ghk4nn, ghk5anan] at hk6
              all_goals
              obtain rfl := so_some h
              refine ⟨0, fun L hL => ?_⟩
              simp only [go_sem, ir31, E_spec_l08Ok_l1, R_spec_l08Ok_l1, ir31_b0, ir31_k0, ir31_o0, ir31_r0, hk1, hk2, lhk2, xhk2, fhk3, ghk4nn, ghk5anan, hk6]
            · try simp only [go_sem, n1, n2, n3, n4, hk1, hk2, ghk4nn, ghk5anan] at hk6
              all_goals
              obtain rfl := so_some h
              refine ⟨0, fun L hL => ?_⟩
              simp only [go_sem, ir31, E_spec_l08Ok_l1, R_spec_l08Ok_l1, ir31_b0, ir31_k0, ir31_o0, ir31_r0, hk1, hk2, lhk2, xhk2, fhk3, ghk4nn, ghk5anan, hk6]
          · have ghk5anan := no_f ghk5ana
            have ghk5anbn := no_t ghk5anb
            try simp only [go_sem, n1, n2, n3, n4, hk1, hk2, ghk4nn] at ghk5anan
            all_goals
            try simp only [go_sem, n1, n2, n3, n4, hk1, hk2, ghk4nn, ghk5anan] at ghk5anbn
            all_goals
            rcases it_some h with ⟨hk6, h⟩ | ⟨hk6, h⟩
            · try simp only [go_sem, n1, n2, n3, n4, hk1, hk2, ghk4nn, ghk5anan, ghk5anbn] at hk6
              all_goals
              obtain rfl := so_some h
              refine ⟨0, fun L hL => ?_⟩
              simp only [go_sem, ir31, E_spec_l08Ok_l1, R_spec_l08Ok_l1, ir31_b0, ir31_k0, ir31_o0, ir31_r0, hk1, hk2, lhk2, xhk2, fhk3, ghk4nn, ghk5anan, ghk5anbn, hk6]
            · try simp only [go_sem, n1, n2, n3, n4, hk1, hk2, ghk4nn, ghk5anan, ghk5anbn] at hk6
              all_goals
              obtain rfl := so_some h
              refine ⟨0, fun L hL => ?_⟩
              simp only [go_sem, ir31, E_spec_l08Ok_l1, R_spec_l08Ok_l1, ir31_b0, ir31_k0, ir31_o0, ir31_r0, hk1, hk2, lhk2, xhk2, fhk3, ghk4nn, ghk5anan, ghk5anbn, hk6]
        · have ghk5an := no_t ghk5a
          obtain ⟨ghk5ana, ghk5anb⟩ := or_f ghk5an
          have ghk5anan := no_f ghk5ana
          have ghk5anbn := no_f ghk5anb
          try simp only [go_sem, n1, n2, n3, n4, hk1, hk2, ghk4nn] at ghk5anan
          all_goals
          try simp only [go_sem, n1, n2, n3, n4, hk1, hk2, ghk4nn, ghk5anan] at ghk5anbn
          all_goals
          try simp only [go_sem, n1, n2, n3, n4, hk1, hk2, ghk4nn, ghk5anan, ghk5anbn] at ghk5b
          all_goals
          rcases it_some h with ⟨hk6, h⟩ | ⟨hk6, h⟩
          · try simp only [go_sem, n1, n2, n3, n4, hk1, hk2, ghk4nn, ghk5anan, ghk5anbn, ghk5b] at hk6
            all_goals
            obtain rfl := so_some h
            refine ⟨0, fun L hL => ?_⟩
            simp only [go_sem, ir31, E_spec_l08Ok_l1, R_spec_l08Ok_l1, ir31_b0, ir31_k0, ir31_o0, ir31_r0, hk1, hk2, lhk2, xhk2, fhk3, ghk4nn, ghk5anan, ghk5anbn, ghk5b, hk6]
          · try simp only [go_sem, n1, n2, n3, n4, hk1, hk2, ghk4nn, ghk5anan, ghk5anbn, ghk5b] at hk6
            all_goals
            obtain rfl := so_some h
            refine ⟨0, fun L hL => ?_⟩
            simp only [go_sem, ir31, E_spec_l08Ok_l1, R_spec_l08Ok_l1, ir31_b0, ir31_k0, ir31_o0, ir31_r0, hk1, hk2, lhk2, xhk2, fhk3, ghk4nn, ghk5anan, ghk5anbn, ghk5b, hk6]
  · try simp only [go_sem, n1, n2, n3, n4] at hk1
    all_goals
    obtain rfl := so_some h
    refine ⟨0, fun L hL => ?_⟩
    simp only [go_sem, ir31, E_spec_l08Ok_l1, R_spec_l08Ok_l1, ir31_b0, ir31_k0, ir31_o0, ir31_r0, hk1]

theorem Fs_spec_l08Ok {curve : List Point} {y_ : Bool} (h : spec_l08Ok curve = some y_) : c_spec_l08Ok.F [.sl 2 (List.map Point_av curve)] = ⟨true, .bool y_, [.any]⟩ := by
  refine mkF_E rfl ?_
  dsimp only [spec_l08Ok] at h
  obtain ⟨y_7, hk7, h⟩ := bd_some h
  obtain ⟨Lhk7, ehk7⟩ := spec_l08Ok_l1_ex hk7
  rcases y_7 with y_7a | y_7b
  · dsimp only at h
    obtain rfl := so_some h
    refine ⟨Lhk7, fun L hL => ?_⟩
    have ehk7 := ehk7 L (by omega)
    try simp only [go_sem, E_spec_l08Ok_l1, R_spec_l08Ok_l1, ir31_k0, ir31_o0, ir31_r0] at ehk7
    simp only [go_sem, ir31, E_spec_l08Ok_l1, R_spec_l08Ok_l1, ir31_k0, ir31_o0, ir31_r0, ehk7]
  · dsimp only at h
    obtain rfl := so_some h
    refine ⟨Lhk7, fun L hL => ?_⟩
    have ehk7 := ehk7 L (by omega)
    try simp only [go_sem, E_spec_l08Ok_l1, R_spec_l08Ok_l1, ir31_k0, ir31_o0, ir31_r0] at ehk7
    simp only [go_sem, ir31, E_spec_l08Ok_l1, R_spec_l08Ok_l1, ir31_k0, ir31_o0, ir31_r0, ehk7]


def ir56_b0 : IR := .seq (.test false [
    ⟨.push, 5, none, .mov (.v 0)⟩,
    ⟨.push, 6, none, .bin false .geq (.s 0) (.c (.int .i64 (128)))⟩] (.s 0)
  (.skip)
  (.exit 0))
 (.block 1 (.seq (.region false [
     ⟨.push, 7, none, .mov (.v 2)⟩,
     ⟨.push, 8, none, .mov (.v 0)⟩,
     ⟨.push, 9, none, .bin false .rem (.s 0) (.c (.int .i64 (128)))⟩,
     ⟨.push, 10, none, .bin false .add (.s 0) (.c (.int .i64 (128)))⟩,
     ⟨.push, 11, none, .conv .u8 (.s 0)⟩,
     ⟨.push, 12, none, .mkSl 1 (.int .u8 (0)) 1 [(0, (.s 0))]⟩,
     ⟨.push, 13, none, .app 1 1 (.int .u8 (0)) (.s 5) (.s 0)⟩,
     ⟨.var 2, 3, none, .mov (.s 0)⟩])
  (.region false [
    ⟨.push, 14, none, .mov (.v 0)⟩,
    ⟨.push, 15, none, .bin false .quo (.s 0) (.c (.int .i64 (128)))⟩,
    ⟨.var 0, 0, none, .mov (.s 0)⟩])))
def ir56_k0 : List Bool := [true, false, true]
def ir56_o0 : List Bool := [true, false, true]
def ir56_r0 : List Bool := [false, true, false]
def ir56_v : List Nat := [0, 2, 3]
def ir56 : AFn := ⟨1, 3, .seq (.region false [
    ⟨.var 1, 2, none, .newnil 1⟩])
 (.seq (.region false [
    ⟨.push, 4, none, .mkSl 1 (.int .u8 (0)) 0 []⟩,
    ⟨.var 2, 3, none, .mov (.s 0)⟩])
 (.seq (.block 0 (.loop ir56_k0 ir56_o0 ir56_r0 ir56_b0))
 (.seq (.region false [
    ⟨.push, 16, none, .mov (.v 2)⟩,
    ⟨.push, 17, none, .mov (.v 0)⟩,
    ⟨.push, 18, none, .conv .u8 (.s 0)⟩,
    ⟨.push, 19, none, .mkSl 1 (.int .u8 (0)) 1 [(0, (.s 0))]⟩,
    ⟨.push, 20, none, .app 1 1 (.int .u8 (0)) (.s 3) (.s 0)⟩,
    ⟨.var 1, 2, none, .mov (.s 0)⟩])
 (.ret)))), [.t 1]⟩
noncomputable def t_spec_l25Number : List (Nat × Ctr) := []
noncomputable def c_spec_l25Number : Ctr := mkF t_spec_l25Number ir56 [.bor]
theorem s_spec_l25Number : Sound Try.prog 56 c_spec_l25Number := mkF_sound _ rfl snd_nil (by kernel_rfl : chkFn Try.prog 56 ir56 ir56_v = true)
theorem M_spec_l25Number : c_spec_l25Number.modes = [.bor] := rfl
theorem Fl_spec_l25Number : c_spec_l25Number.flat = true := rfl
attribute [go_sem] M_spec_l25Number Fl_spec_l25Number
def E_spec_l25Number_l1  : (Int × (List UInt8)) → St
  | (n, out) => ⟨[.int .i64 n, .any, .own 3200000], [], [(3200000, ⟨1, List.map byteAV out⟩)], true⟩
def R_spec_l25Number_l1  (y : Int × (List UInt8)) : Res := (.exit 0, ⟨[.int .i64 y.1, .any, .own 3200000], [], [(3200000, ⟨1, List.map byteAV y.2⟩)], true⟩)
theorem spec_l25Number_l1_ex  {sgm_ : Int × (List UInt8)} {rho_ : Int × (List UInt8)} (h : whileE (spec_l25Number_l1) sgm_ = some rho_) : ∃ L0, ∀ L, L0 ≤ L → iter (exec (look t_spec_l25Number) L ir56_b0) ir56_k0 ir56_o0 ir56_r0 L (E_spec_l25Number_l1 sgm_) = R_spec_l25Number_l1 rho_ := by
  refine loop_ex (E := E_spec_l25Number_l1) (R := R_spec_l25Number_l1) (fun y => by first | (intro c; cases c) | (rcases y with y | y <;> (intro c; cases c)) | (rcases y with y | y | y <;> (intro c; cases c))) ?_ h
  clear h
  rintro ⟨n, out⟩ o_ h
  dsimp only [spec_l25Number_l1] at h
  rcases it_some h with ⟨hk1, h⟩ | ⟨hk1, h⟩
  · try simp only [go_sem, n1, n2, n3, n4] at hk1
    all_goals
    obtain ⟨hk2, h⟩ := ck_some h
    try simp only [go_sem, n1, n2, n3, n4, hk1] at hk2
    all_goals
    obtain ⟨hk3, h⟩ := ck_some h
    try simp only [go_sem, n1, n2, n3, n4, hk1, hk2] at hk3
    all_goals
    obtain rfl := so_some h
    refine ⟨0, fun L hL => ?_⟩
    simp only [go_sem, ir56, E_spec_l25Number_l1, R_spec_l25Number_l1, ir56_b0, ir56_k0, ir56_o0, ir56_r0, hk1, hk2, hk3]
  · try simp only [go_sem, n1, n2, n3, n4] at hk1
    all_goals
    obtain rfl := so_some h
    refine ⟨0, fun L hL => ?_⟩
    simp only [go_sem, ir56, E_spec_l25Number_l1, R_spec_l25Number_l1, ir56_b0, ir56_k0, ir56_o0, ir56_r0, hk1]

theorem Fs_spec_l25Number {n : Int} {y_ : (List UInt8)} (h : spec_l25Number n = some y_) : c_spec_l25Number.F [.int .i64 n] = ⟨true, .fresh 1 (List.map byteAV y_), [.any]⟩ := by
  refine mkF_E (by simp only [flatA, flatB, flat1, List.all_cons, List.all_nil, Bool.and_self, flatE_map (f := byteAV) (fun _ => rfl)]) ?_
  dsimp only [spec_l25Number] at h
  obtain ⟨y_4, hk4, h⟩ := bd_some h
  obtain ⟨Lhk4, ehk4⟩ := spec_l25Number_l1_ex hk4
  obtain ⟨hk5, h⟩ := ck_some h
  try simp only [go_sem, n1, n2, n3, n4] at hk5
  all_goals
  obtain rfl := so_some h
  refine ⟨Lhk4, fun L hL => ?_⟩
  have ehk4 := ehk4 L (by omega)
  try simp only [go_sem, E_spec_l25Number_l1, R_spec_l25Number_l1, ir56_k0, ir56_o0, ir56_r0] at ehk4
  simp only [go_sem, ir56, E_spec_l25Number_l1, R_spec_l25Number_l1, ir56_k0, ir56_o0, ir56_r0, hk5, ehk4]


def ir57_v : List Nat := [0, 2]
def ir57 : AFn := ⟨1, 2, .seq (.region false [
    ⟨.var 1, 2, none, .mov (.c (.int .i64 (0)))⟩])
 (.seq (.test false [
    ⟨.push, 3, none, .mov (.v 0)⟩,
    ⟨.push, 4, none, .bin false .lss (.s 0) (.c (.int .i64 (0)))⟩] (.s 0)
  (.seq (.region false [
      ⟨.push, 5, none, .mov (.v 0)⟩,
      ⟨.push, 6, none, .bin false .mul (.c (.int .i64 (-2))) (.s 0)⟩,
      ⟨.push, 7, none, .bin false .sub (.s 0) (.c (.int .i64 (1)))⟩,
      ⟨.var 1, 2, none, .mov (.s 0)⟩])
   (.ret))
  (.skip))
 (.seq (.region false [
    ⟨.push, 8, none, .mov (.v 0)⟩,
    ⟨.push, 9, none, .bin false .mul (.c (.int .i64 (2))) (.s 0)⟩,
    ⟨.var 1, 2, none, .mov (.s 0)⟩])
 (.ret))), [.t 1]⟩
noncomputable def t_spec_l25Fold : List (Nat × Ctr) := []
noncomputable def c_spec_l25Fold : Ctr := mkF t_spec_l25Fold ir57 [.bor]
theorem s_spec_l25Fold : Sound Try.prog 57 c_spec_l25Fold := mkF_sound _ rfl snd_nil (by kernel_rfl : chkFn Try.prog 57 ir57 ir57_v = true)
theorem M_spec_l25Fold : c_spec_l25Fold.modes = [.bor] := rfl
theorem Fl_spec_l25Fold : c_spec_l25Fold.flat = true := rfl
attribute [go_sem] M_spec_l25Fold Fl_spec_l25Fold
theorem Fs_spec_l25Fold {n : Int} {y_ : Int} (h : spec_l25Fold n = some y_) : c_spec_l25Fold.F [.int .i64 n] = ⟨true, .int .i64 y_, [.any]⟩ := by
  refine mkF_E rfl ?_
  dsimp only [spec_l25Fold] at h
  rcases it_some h with ⟨hk1, h⟩ | ⟨hk1, h⟩
  · try simp only [go_sem, n1, n2, n3, n4] at hk1
    all_goals
    obtain rfl := so_some h
    refine ⟨0, fun L hL => ?_⟩
    simp only [go_sem, ir57, hk1]
  · try simp only [go_sem, n1, n2, n3, n4] at hk1
    all_goals
    obtain rfl := so_some h
    refine ⟨0, fun L hL => ?_⟩
    simp only [go_sem, ir57, hk1]


def ir50_b0 : IR := .seq (.test false [
    ⟨.push, 6, none, .mov (.v 4)⟩,
    ⟨.push, 7, none, .mov (.v 0)⟩,
    ⟨.push, 8, none, .len false (.s 0)⟩,
    ⟨.push, 9, none, .bin false .lss (.s 2) (.s 0)⟩] (.s 0)
  (.skip)
  (.exit 0))
 (.seq (.block 1 (.seq (.region false [
      ⟨.push, 12, none, .mov (.v 2)⟩,
      ⟨.push, 13, none, .mov (.v 0)⟩,
      ⟨.push, 14, none, .mov (.v 4)⟩,
      ⟨.push, 15, none, .ixAddr 1 (.s 1) (.s 0)⟩,
      ⟨.push, 16, none, .load false 1 (.s 0)⟩,
      ⟨.push, 17, none, .conv .i64 (.s 0)⟩,
      ⟨.push, 18, none, .bin false .add (.s 5) (.s 0)⟩,
      ⟨.push, 19, none, .bin false .rem (.s 0) (.c (.int .i64 (251)))⟩,
      ⟨.var 2, 3, none, .mov (.s 0)⟩])
   (.region false [
     ⟨.push, 20, none, .mov (.v 3)⟩,
     ⟨.push, 21, none, .mov (.v 2)⟩,
     ⟨.push, 22, none, .bin false .add (.s 1) (.s 0)⟩,
     ⟨.push, 23, none, .bin false .rem (.s 0) (.c (.int .i64 (251)))⟩,
     ⟨.var 3, 4, none, .mov (.s 0)⟩])))
 (.region false [
   ⟨.push, 10, none, .mov (.v 4)⟩,
   ⟨.push, 11, none, .bin false .add (.s 0) (.c (.int .i64 (1)))⟩,
   ⟨.var 4, 5, none, .mov (.s 0)⟩]))
def ir50_k0 : List Bool := [true, false, true, true, true]
def ir50_o0 : List Bool := [false, false, true, true, false]
def ir50_r0 : List Bool := [false, true, false, false, false]
def ir50_v : List Nat := [0, 2, 3, 4, 5]
def ir50 : AFn := ⟨1, 5, .seq (.region false [
    ⟨.var 1, 2, none, .mov (.c (.int .i64 (0)))⟩])
 (.seq (.region false [
    ⟨.var 2, 3, none, .mov (.c (.int .i64 (1)))⟩])
 (.seq (.region false [
    ⟨.var 3, 4, none, .mov (.c (.int .i64 (0)))⟩])
 (.seq (.seq (.region false [
     ⟨.var 4, 5, none, .mov (.c (.int .i64 (0)))⟩])
  (.block 0 (.loop ir50_k0 ir50_o0 ir50_r0 ir50_b0)))
 (.seq (.region false [
    ⟨.push, 24, none, .mov (.v 3)⟩,
    ⟨.push, 25, none, .bin false .mul (.c (.int .i64 (251))) (.s 0)⟩,
    ⟨.push, 26, none, .mov (.v 2)⟩,
    ⟨.push, 27, none, .bin false .add (.s 1) (.s 0)⟩,
    ⟨.var 1, 2, none, .mov (.s 0)⟩])
 (.ret))))), [.t 1]⟩
noncomputable def t_spec_l25Sum : List (Nat × Ctr) := []
noncomputable def c_spec_l25Sum : Ctr := mkF t_spec_l25Sum ir50 [.bor]
theorem s_spec_l25Sum : Sound Try.prog 50 c_spec_l25Sum := mkF_sound _ rfl snd_nil (by kernel_rfl : chkFn Try.prog 50 ir50 ir50_v = true)
theorem M_spec_l25Sum : c_spec_l25Sum.modes = [.bor] := rfl
theorem Fl_spec_l25Sum : c_spec_l25Sum.flat = true := rfl
attribute [go_sem] M_spec_l25Sum Fl_spec_l25Sum
def E_spec_l25Sum_l1 (b : List UInt8) : (Int × Int × Int) → St
  | (sum, all, i) => ⟨[.sl 1 (List.map byteAV b), .any, .int .i64 sum, .int .i64 all, .int .i64 i], [], [], true⟩
def R_spec_l25Sum_l1 (b : List UInt8) (y : Int × Int) : Res := (.exit 0, ⟨[.any, .any, .int .i64 y.1, .int .i64 y.2, .any], [], [], true⟩)
theorem spec_l25Sum_l1_ex {b : List UInt8} {sgm_ : Int × Int × Int} {rho_ : Int × Int} (h : whileE (spec_l25Sum_l1 b) sgm_ = some rho_) : ∃ L0, ∀ L, L0 ≤ L → iter (exec (look t_spec_l25Sum) L ir50_b0) ir50_k0 ir50_o0 ir50_r0 L (E_spec_l25Sum_l1 b sgm_) = R_spec_l25Sum_l1 b rho_ := by
  refine loop_ex (E := E_spec_l25Sum_l1 b) (R := R_spec_l25Sum_l1 b) (fun y => by first | (intro c; cases c) | (rcases y with y | y <;> (intro c; cases c)) | (rcases y with y | y | y <;> (intro c; cases c))) ?_ h
  clear h
  rintro ⟨sum, all, i⟩ o_ h
  dsimp only [spec_l25Sum_l1] at h
  rcases it_some h with ⟨hk1, h⟩ | ⟨hk1, h⟩
  · try simp only [go_sem, n1, n2, n3, n4] at hk1
    all_goals
    obtain ⟨hk2, h⟩ := ck_some h
    have lhk2 := ix_lt hk2
    have xhk2 := getD_mapD byteAV b lhk2
    try simp only [go_sem] at lhk2
    try simp only [go_sem] at xhk2
    try simp only [go_sem, n1, n2, n3, n4, hk1] at hk2
    all_goals
    obtain ⟨hk3, h⟩ := ck_some h
    try simp only [go_sem, n1, n2, n3, n4, hk1, hk2] at hk3
    all_goals
    obtain rfl := so_some h
    refine ⟨0, fun L hL => ?_⟩
    simp only [go_sem, ir50, E_spec_l25Sum_l1, R_spec_l25Sum_l1, ir50_b0, ir50_k0, ir50_o0, ir50_r0, hk1, hk2, lhk2, xhk2, hk3]
  · try simp only [go_sem, n1, n2, n3, n4] at hk1
    all_goals
    obtain rfl := so_some h
    refine ⟨0, fun L hL => ?_⟩
    simp only [go_sem, ir50, E_spec_l25Sum_l1, R_spec_l25Sum_l1, ir50_b0, ir50_k0, ir50_o0, ir50_r0, hk1]

theorem Fs_spec_l25Sum {b : List UInt8} {y_ : Int} (h : spec_l25Sum b = some y_) : c_spec_l25Sum.F [.sl 1 (List.map byteAV b)] = ⟨true, .int .i64 y_, [.any]⟩ := by
  refine mkF_E rfl ?_
  dsimp only [spec_l25Sum] at h
  obtain ⟨y_4, hk4, h⟩ := bd_some h
  obtain ⟨Lhk4, ehk4⟩ := spec_l25Sum_l1_ex hk4
  obtain rfl := so_some h
  refine ⟨Lhk4, fun L hL => ?_⟩
  have ehk4 := ehk4 L (by omega)
  try simp only [go_sem, E_spec_l25Sum_l1, R_spec_l25Sum_l1, ir50_k0, ir50_o0, ir50_r0] at ehk4
  simp only [go_sem, ir50, E_spec_l25Sum_l1, R_spec_l25Sum_l1, ir50_k0, ir50_o0, ir50_r0, ehk4]


def ir58_v : List Nat := [0, 2, 3]
def ir58 : AFn := ⟨1, 3, .seq (.region false [
    ⟨.var 1, 2, none, .newnil 1⟩])
 (.seq (.region false [
    ⟨.push, 4, none, .mov (.v 0)⟩,
    ⟨.push, 5, none, .call 50 [(.s 0)]⟩,
    ⟨.var 2, 3, none, .mov (.s 0)⟩])
 (.seq (.region false [
    ⟨.push, 6, none, .mov (.v 0)⟩,
    ⟨.push, 7, none, .mov (.v 2)⟩,
    ⟨.push, 8, none, .bin false .quo (.s 0) (.c (.int .i64 (256)))⟩,
    ⟨.push, 9, none, .conv .u8 (.s 0)⟩,
    ⟨.push, 10, none, .mkSl 1 (.int .u8 (0)) 1 [(0, (.s 0))]⟩,
    ⟨.push, 11, none, .app 1 1 (.int .u8 (0)) (.s 4) (.s 0)⟩,
    ⟨.var 0, 0, none, .mov (.s 0)⟩])
 (.seq (.region false [
    ⟨.push, 12, none, .mov (.v 0)⟩,
    ⟨.push, 13, none, .mov (.v 2)⟩,
    ⟨.push, 14, none, .bin false .rem (.s 0) (.c (.int .i64 (256)))⟩,
    ⟨.push, 15, none, .conv .u8 (.s 0)⟩,
    ⟨.push, 16, none, .mkSl 1 (.int .u8 (0)) 1 [(0, (.s 0))]⟩,
    ⟨.push, 17, none, .app 1 1 (.int .u8 (0)) (.s 4) (.s 0)⟩,
    ⟨.var 1, 2, none, .mov (.s 0)⟩])
 (.ret)))), [.t 1]⟩
noncomputable def t_spec_l25Close : List (Nat × Ctr) := [(50, c_spec_l25Sum)]
theorem lk_spec_l25Close_50 : look t_spec_l25Close 50 = some c_spec_l25Sum := rfl
noncomputable def c_spec_l25Close : Ctr := mkF t_spec_l25Close ir58 [.mov]
theorem s_spec_l25Close : Sound Try.prog 58 c_spec_l25Close := mkF_sound _ rfl (snd_cons s_spec_l25Sum snd_nil) (by kernel_rfl : chkFn Try.prog 58 ir58 ir58_v = true)
theorem M_spec_l25Close : c_spec_l25Close.modes = [.mov] := rfl
theorem Fl_spec_l25Close : c_spec_l25Close.flat = true := rfl
attribute [go_sem] M_spec_l25Close Fl_spec_l25Close
attribute [go_sem] lk_spec_l25Close_50
theorem Fs_spec_l25Close {out : List UInt8} {y_ : (List UInt8)} (h : spec_l25Close out = some y_) : c_spec_l25Close.F [.fresh 1 (List.map byteAV out)] = ⟨true, .fresh 1 (List.map byteAV y_), [.any]⟩ := by
  refine mkF_E (by simp only [flatA, flatB, flat1, List.all_cons, List.all_nil, Bool.and_self, flatE_map (f := byteAV) (fun _ => rfl)]) ?_
  dsimp only [spec_l25Close] at h
  obtain ⟨y_1, hk1, h⟩ := bd_some h
  have fhk1 := Fs_spec_l25Sum hk1
  try simp only [go_sem] at fhk1
  obtain ⟨hk2, h⟩ := ck_some h
  try simp only [go_sem, n1, n2, n3, n4] at hk2
  all_goals
  obtain ⟨hk3, h⟩ := ck_some h
  try simp only [go_sem, n1, n2, n3, n4, hk2] at hk3
  all_goals
  obtain ⟨hk4, h⟩ := ck_some h
  try simp only [go_sem, n1, n2, n3, n4, hk2, hk3] at hk4
  all_goals
  obtain rfl := so_some h
  refine ⟨0, fun L hL => ?_⟩
  simp only [go_sem, ir58, fhk1, hk2, hk3, hk4]


def ir32_b0 : IR := .seq (.test false [
    ⟨.push, 13, none, .mov (.v 5)⟩,
    ⟨.push, 14, none, .mov (.v 0)⟩,
    ⟨.push, 15, none, .len false (.s 0)⟩,
    ⟨.push, 16, none, .bin false .lss (.s 2) (.s 0)⟩] (.s 0)
  (.skip)
  (.exit 0))
 (.seq (.block 1 (.seq (.region false [
      ⟨.push, 19, none, .mov (.v 2)⟩,
      ⟨.push, 20, none, .mov (.v 0)⟩,
      ⟨.push, 21, none, .mov (.v 5)⟩,
      ⟨.push, 22, none, .ixAddr 2 (.s 1) (.s 0)⟩,
      ⟨.push, 23, none, .fldAddr 0 (.s 0)⟩,
      ⟨.push, 24, none, .load false 1 (.s 0)⟩,
      ⟨.push, 25, none, .mov (.v 3)⟩,
      ⟨.push, 26, none, .bin false .sub (.s 1) (.s 0)⟩,
      ⟨.push, 27, none, .call 56 [(.s 0)]⟩,
      ⟨.push, 28, none, .app 1 1 (.int .u8 (0)) (.s 8) (.s 0)⟩,
      ⟨.var 2, 3, none, .mov (.s 0)⟩])
   (.seq (.region false [
      ⟨.push, 29, none, .mov (.v 2)⟩,
      ⟨.push, 30, none, .mov (.v 0)⟩,
      ⟨.push, 31, none, .mov (.v 5)⟩,
      ⟨.push, 32, none, .ixAddr 2 (.s 1) (.s 0)⟩,
      ⟨.push, 33, none, .fldAddr 1 (.s 0)⟩,
      ⟨.push, 34, none, .load false 1 (.s 0)⟩,
      ⟨.push, 35, none, .mov (.v 4)⟩,
      ⟨.push, 36, none, .bin false .sub (.s 1) (.s 0)⟩,
      ⟨.push, 37, none, .call 57 [(.s 0)]⟩,
      ⟨.push, 38, none, .call 56 [(.s 0)]⟩,
      ⟨.push, 39, none, .app 1 1 (.int .u8 (0)) (.s 9) (.s 0)⟩,
      ⟨.var 2, 3, none, .mov (.s 0)⟩])
   (.seq (.region false [
      ⟨.push, 40, none, .mov (.v 0)⟩,
      ⟨.push, 41, none, .mov (.v 5)⟩,
      ⟨.push, 42, none, .ixAddr 2 (.s 1) (.s 0)⟩,
      ⟨.push, 43, none, .fldAddr 0 (.s 0)⟩,
      ⟨.push, 44, none, .load false 1 (.s 0)⟩,
      ⟨.var 3, 4, none, .mov (.s 0)⟩])
   (.region false [
     ⟨.push, 45, none, .mov (.v 0)⟩,
     ⟨.push, 46, none, .mov (.v 5)⟩,
     ⟨.push, 47, none, .ixAddr 2 (.s 1) (.s 0)⟩,
     ⟨.push, 48, none, .fldAddr 1 (.s 0)⟩,
     ⟨.push, 49, none, .load false 1 (.s 0)⟩,
     ⟨.var 4, 5, none, .mov (.s 0)⟩])))))
 (.region false [
   ⟨.push, 17, none, .mov (.v 5)⟩,
   ⟨.push, 18, none, .bin false .add (.s 0) (.c (.int .i64 (1)))⟩,
   ⟨.var 5, 6, none, .mov (.s 0)⟩]))
def ir32_k0 : List Bool := [true, false, true, true, true, true]
def ir32_o0 : List Bool := [false, false, true, false, false, false]
def ir32_r0 : List Bool := [false, true, false, false, false, false]
def ir32_v : List Nat := [0, 2, 3, 4, 5, 6]
def ir32 : AFn := ⟨1, 6, .seq (.region false [
    ⟨.var 1, 2, none, .newnil 1⟩])
 (.seq (.region false [
    ⟨.push, 7, none, .mkSl 1 (.int .u8 (0)) 1 [(0, (.c (.int .u8 (67))))]⟩,
    ⟨.var 2, 3, none, .mov (.s 0)⟩])
 (.seq (.region false [
    ⟨.push, 8, none, .mov (.v 2)⟩,
    ⟨.push, 9, none, .mov (.v 0)⟩,
    ⟨.push, 10, none, .len false (.s 0)⟩,
    ⟨.push, 11, none, .call 56 [(.s 0)]⟩,
    ⟨.push, 12, none, .app 1 1 (.int .u8 (0)) (.s 3) (.s 0)⟩,
    ⟨.var 2, 3, none, .mov (.s 0)⟩])
 (.seq (.region false [
    ⟨.var 3, 4, none, .mov (.c (.int .i64 (0)))⟩])
 (.seq (.region false [
    ⟨.var 4, 5, none, .mov (.c (.int .i64 (0)))⟩])
 (.seq (.seq (.region false [
     ⟨.var 5, 6, none, .mov (.c (.int .i64 (0)))⟩])
  (.block 0 (.loop ir32_k0 ir32_o0 ir32_r0 ir32_b0)))
 (.seq (.region false [
    ⟨.push, 50, none, .mov (.v 2)⟩,
    ⟨.push, 51, none, .call 58 [(.s 0)]⟩,
    ⟨.var 1, 2, none, .mov (.s 0)⟩])
 (.ret))))))), [.t 1]⟩
noncomputable def t_spec_l25Curve : List (Nat × Ctr) := [(56, c_spec_l25Number), (57, c_spec_l25Fold), (58, c_spec_l25Close)]
theorem lk_spec_l25Curve_56 : look t_spec_l25Curve 56 = some c_spec_l25Number := rfl
theorem lk_spec_l25Curve_57 : look t_spec_l25Curve 57 = some c_spec_l25Fold := rfl
theorem lk_spec_l25Curve_58 : look t_spec_l25Curve 58 = some c_spec_l25Close := rfl
noncomputable def c_spec_l25Curve : Ctr := mkF t_spec_l25Curve ir32 [.bor]
theorem s_spec_l25Curve : Sound Try.prog 32 c_spec_l25Curve := mkF_sound _ rfl (snd_cons s_spec_l25Number (snd_cons s_spec_l25Fold (snd_cons s_spec_l25Close snd_nil))) (by kernel_rfl : chkFn Try.prog 32 ir32 ir32_v = true)
theorem M_spec_l25Curve : c_spec_l25Curve.modes = [.bor] := rfl
theorem Fl_spec_l25Curve : c_spec_l25Curve.flat = true := rfl
attribute [go_sem] M_spec_l25Curve Fl_spec_l25Curve
attribute [go_sem] lk_spec_l25Curve_56 lk_spec_l25Curve_57 lk_spec_l25Curve_58
def E_spec_l25Curve_l1 (curve : List Point) : ((List UInt8) × Int × Int × Int) → St
  | (out, time, mag, i) => ⟨[.sl 2 (List.map Point_av curve), .any, .own 3200000, .int .i64 time, .int .i64 mag, .int .i64 i], [], [(3200000, ⟨1, List.map byteAV out⟩)], true⟩
def R_spec_l25Curve_l1 (curve : List Point) (y : (List UInt8)) : Res := (.exit 0, ⟨[.any, .any, .own 3200000, .any, .any, .any], [], [(3200000, ⟨1, List.map byteAV y⟩)], true⟩)
theorem spec_l25Curve_l1_ex {curve : List Point} {sgm_ : (List UInt8) × Int × Int × Int} {rho_ : (List UInt8)} (h : whileE (spec_l25Curve_l1 curve) sgm_ = some rho_) : ∃ L0, ∀ L, L0 ≤ L → iter (exec (look t_spec_l25Curve) L ir32_b0) ir32_k0 ir32_o0 ir32_r0 L (E_spec_l25Curve_l1 curve sgm_) = R_spec_l25Curve_l1 curve rho_ := by
  refine loop_ex (E := E_spec_l25Curve_l1 curve) (R := R_spec_l25Curve_l1 curve) (fun y => by first | (intro c; cases c) | (rcases y with y | y <;> (intro c; cases c)) | (rcases y with y | y | y <;> (intro c; cases c))) ?_ h
  clear h
  rintro ⟨out, time, mag, i⟩ o_ h
  dsimp only [spec_l25Curve_l1] at h
  rcases it_some h with ⟨hk3, h⟩ | ⟨hk3, h⟩
  · try simp only [go_sem, n1, n2, n3, n4] at hk3
    all_goals
    obtain ⟨hk4, h⟩ := ck_some h
    have lhk4 := ix_lt hk4
    have xhk4 := getD_mapD Point_av curve lhk4
    try simp only [go_sem] at lhk4
    try simp only [go_sem] at xhk4
    try simp only [go_sem, n1, n2, n3, n4, hk3] at hk4
    all_goals
    obtain ⟨y_5, hk5, h⟩ := bd_some h
    have fhk5 := Fs_spec_l25Number hk5
    try simp only [go_sem] at fhk5
    obtain ⟨hk6, h⟩ := ck_some h
    try simp only [go_sem, n1, n2, n3, n4, hk3, hk4] at hk6
    all_goals
    obtain ⟨y_7, hk7, h⟩ := bd_some h
    have fhk7 := Fs_spec_l25Fold hk7
    try simp only [go_sem] at fhk7
    obtain ⟨y_8, hk8, h⟩ := bd_some h
    have fhk8 := Fs_spec_l25Number hk8
    try simp only [go_sem] at fhk8
    obtain ⟨hk9, h⟩ := ck_some h
    try simp only [go_sem, n1, n2, n3, n4, hk3, hk4, hk6] at hk9
    all_goals
    obtain rfl := so_some h
    refine ⟨0, fun L hL => ?_⟩
    simp only [go_sem, ir32, E_spec_l25Curve_l1, R_spec_l25Curve_l1, ir32_b0, ir32_k0, ir32_o0, ir32_r0, hk3, hk4, lhk4, xhk4, fhk5, hk6, fhk7, fhk8, hk9]
  · try simp only [go_sem, n1, n2, n3, n4] at hk3
    all_goals
    obtain rfl := so_some h
    refine ⟨0, fun L hL => ?_⟩
    simp only [go_sem, ir32, E_spec_l25Curve_l1, R_spec_l25Curve_l1, ir32_b0, ir32_k0, ir32_o0, ir32_r0, hk3]

theorem Fs_spec_l25Curve {curve : List Point} {y_ : (List UInt8)} (h : spec_l25Curve curve = some y_) : c_spec_l25Curve.F [.sl 2 (List.map Point_av curve)] = ⟨true, .fresh 1 (List.map byteAV y_), [.any]⟩ := by
  refine mkF_E (by simp only [flatA, flatB, flat1, List.all_cons, List.all_nil, Bool.and_self, flatE_map (f := byteAV) (fun _ => rfl)]) ?_
  dsimp only [spec_l25Curve] at h
  obtain ⟨y_1, hk1, h⟩ := bd_some h
  have fhk1 := Fs_spec_l25Number hk1
  try simp only [go_sem] at fhk1
  obtain ⟨hk2, h⟩ := ck_some h
  try simp only [go_sem, n1, n2, n3, n4] at hk2
  all_goals
  obtain ⟨y_10, hk10, h⟩ := bd_some h
  obtain ⟨Lhk10, ehk10⟩ := spec_l25Curve_l1_ex hk10
  obtain ⟨y_11, hk11, h⟩ := bd_some h
  have fhk11 := Fs_spec_l25Close hk11
  try simp only [go_sem] at fhk11
  obtain rfl := so_some h
  refine ⟨Lhk10, fun L hL => ?_⟩
  have ehk10 := ehk10 L (by omega)
  try simp only [go_sem, E_spec_l25Curve_l1, R_spec_l25Curve_l1, ir32_k0, ir32_o0, ir32_r0] at ehk10
  simp only [go_sem, ir32, E_spec_l25Curve_l1, R_spec_l25Curve_l1, ir32_k0, ir32_o0, ir32_r0, fhk1, hk2, fhk11, ehk10]


def ir16_v : List Nat := [0, 2, 3]
def ir16 : AFn := ⟨1, 3, .seq (.region false [
    ⟨.var 1, 2, none, .newnil 1⟩,
    ⟨.var 2, 3, none, .mov (.c (.int .i64 (0)))⟩])
 (.seq (.test false [
    ⟨.push, 4, none, .mov (.v 0)⟩,
    ⟨.push, 5, none, .call 31 [(.s 0)]⟩,
    ⟨.push, 6, none, .un .not (.s 0)⟩] (.s 0)
  (.seq (.region false [
      ⟨.var 1, 2, none, .newnil 1⟩,
      ⟨.var 2, 3, none, .mov (.c (.int .i64 (1)))⟩])
   (.ret))
  (.skip))
 (.seq (.region false [
    ⟨.push, 7, none, .mov (.v 0)⟩,
    ⟨.push, 8, none, .call 32 [(.s 0)]⟩,
    ⟨.var 1, 2, none, .mov (.s 0)⟩,
    ⟨.var 2, 3, none, .mov (.c (.int .i64 (0)))⟩])
 (.ret))), [.t 1, .t 2]⟩
noncomputable def t_spec_PackCurve : List (Nat × Ctr) := [(31, c_spec_l08Ok), (32, c_spec_l25Curve)]
theorem lk_spec_PackCurve_31 : look t_spec_PackCurve 31 = some c_spec_l08Ok := rfl
theorem lk_spec_PackCurve_32 : look t_spec_PackCurve 32 = some c_spec_l25Curve := rfl
noncomputable def c_spec_PackCurve : Ctr := mkF t_spec_PackCurve ir16 [.bor]
theorem s_spec_PackCurve : Sound Try.prog 16 c_spec_PackCurve := mkF_sound _ rfl (snd_cons s_spec_l08Ok (snd_cons s_spec_l25Curve snd_nil)) (by kernel_rfl : chkFn Try.prog 16 ir16 ir16_v = true)
theorem M_spec_PackCurve : c_spec_PackCurve.modes = [.bor] := rfl
theorem Fl_spec_PackCurve : c_spec_PackCurve.flat = true := rfl
attribute [go_sem] M_spec_PackCurve Fl_spec_PackCurve
attribute [go_sem] lk_spec_PackCurve_31 lk_spec_PackCurve_32
theorem Fs_spec_PackCurve {curve : List Point} {y_ : (List UInt8) × Int} (h : spec_PackCurve curve = some y_) : c_spec_PackCurve.F [.sl 2 (List.map Point_av curve)] = ⟨true, .tup [.fresh 1 (List.map byteAV y_.1), .int .i64 y_.2], [.any]⟩ := by
  refine mkF_E (by simp only [flatA, flatB, flat1, List.all_cons, List.all_nil, Bool.and_self, flatE_map (f := byteAV) (fun _ => rfl)]) ?_
  dsimp only [spec_PackCurve] at h
  obtain ⟨y_1, hk1, h⟩ := bd_some h
  have fhk1 := Fs_spec_l08Ok hk1
  try simp only [go_sem] at fhk1
  rcases it_some h with ⟨hk2, h⟩ | ⟨hk2, h⟩
  · try simp only [go_sem, n1, n2, n3, n4] at hk2
    all_goals
    obtain rfl := so_some h
    refine ⟨0, fun L hL => ?_⟩
    simp only [go_sem, ir16, fhk1, hk2]
  · try simp only [go_sem, n1, n2, n3, n4] at hk2
    all_goals
    obtain ⟨y_3, hk3, h⟩ := bd_some h
    have fhk3 := Fs_spec_l25Curve hk3
    try simp only [go_sem] at fhk3
    obtain rfl := so_some h
    refine ⟨0, fun L hL => ?_⟩
    simp only [go_sem, ir16, fhk1, hk2, fhk3]


def ir35_b0 : IR := .seq (.test false [
    ⟨.push, 5, none, .mov (.v 1)⟩,
    ⟨.push, 6, none, .bin false .geq (.s 0) (.c (.int .i64 (128)))⟩] (.s 0)
  (.skip)
  (.exit 0))
 (.seq (.block 1 (.region false [
     ⟨.push, 9, none, .mov (.v 0)⟩,
     ⟨.push, 10, none, .mov (.v 1)⟩,
     ⟨.push, 11, none, .bin false .rem (.s 0) (.c (.int .i64 (128)))⟩,
     ⟨.push, 12, none, .bin false .add (.s 0) (.c (.int .i64 (128)))⟩,
     ⟨.push, 13, none, .conv .u8 (.s 0)⟩,
     ⟨.push, 14, none, .mkSl 1 (.int .u8 (0)) 1 [(0, (.s 0))]⟩,
     ⟨.push, 15, none, .app 1 1 (.int .u8 (0)) (.s 5) (.s 0)⟩,
     ⟨.var 0, 0, none, .mov (.s 0)⟩]))
 (.region false [
   ⟨.push, 7, none, .mov (.v 1)⟩,
   ⟨.push, 8, none, .bin false .quo (.s 0) (.c (.int .i64 (128)))⟩,
   ⟨.var 1, 1, none, .mov (.s 0)⟩]))
def ir35_k0 : List Bool := [true, true, false]
def ir35_o0 : List Bool := [true, true, false]
def ir35_r0 : List Bool := [false, false, true]
def ir35_v : List Nat := [0, 1, 4]
def ir35 : AFn := ⟨2, 3, .seq (.region false [
    ⟨.var 2, 4, none, .newnil 1⟩])
 (.seq (.block 0 (.loop ir35_k0 ir35_o0 ir35_r0 ir35_b0))
 (.seq (.region false [
    ⟨.push, 16, none, .mov (.v 0)⟩,
    ⟨.push, 17, none, .mov (.v 1)⟩,
    ⟨.push, 18, none, .conv .u8 (.s 0)⟩,
    ⟨.push, 19, none, .mkSl 1 (.int .u8 (0)) 1 [(0, (.s 0))]⟩,
    ⟨.push, 20, none, .app 1 1 (.int .u8 (0)) (.s 3) (.s 0)⟩,
    ⟨.var 2, 4, none, .mov (.s 0)⟩])
 (.ret))), [.t 2]⟩
noncomputable def t_impl_appendNumber : List (Nat × Ctr) := []
noncomputable def c_impl_appendNumber : Ctr := mkF t_impl_appendNumber ir35 [.mov, .bor]
theorem s_impl_appendNumber : Sound Try.prog 35 c_impl_appendNumber := mkF_sound _ rfl snd_nil (by kernel_rfl : chkFn Try.prog 35 ir35 ir35_v = true)
theorem M_impl_appendNumber : c_impl_appendNumber.modes = [.mov, .bor] := rfl
theorem Fl_impl_appendNumber : c_impl_appendNumber.flat = true := rfl
attribute [go_sem] M_impl_appendNumber Fl_impl_appendNumber
def E_impl_appendNumber_l1  : ((List UInt8) × Int) → St
  | (b, n) => ⟨[.own 31, .int .i64 n, .any], [], [(31, ⟨1, List.map byteAV b⟩)], true⟩
def R_impl_appendNumber_l1  (y : (List UInt8) × Int) : Res := (.exit 0, ⟨[.own 31, .int .i64 y.2, .any], [], [(31, ⟨1, List.map byteAV y.1⟩)], true⟩)
theorem impl_appendNumber_l1_ex  {sgm_ : (List UInt8) × Int} {rho_ : (List UInt8) × Int} (h : whileE (impl_appendNumber_l1) sgm_ = some rho_) : ∃ L0, ∀ L, L0 ≤ L → iter (exec (look t_impl_appendNumber) L ir35_b0) ir35_k0 ir35_o0 ir35_r0 L (E_impl_appendNumber_l1 sgm_) = R_impl_appendNumber_l1 rho_ := by
  refine loop_ex (E := E_impl_appendNumber_l1) (R := R_impl_appendNumber_l1) (fun y => by first | (intro c; cases c) | (rcases y with y | y <;> (intro c; cases c)) | (rcases y with y | y | y <;> (intro c; cases c))) ?_ h
  clear h
  rintro ⟨b, n⟩ o_ h
  dsimp only [impl_appendNumber_l1] at h
  rcases it_some h with ⟨hk1, h⟩ | ⟨hk1, h⟩
  · try simp only [go_sem, n1, n2, n3, n4] at hk1
    all_goals
    obtain ⟨hk2, h⟩ := ck_some h
    try simp only [go_sem, n1, n2, n3, n4, hk1] at hk2
    all_goals
    obtain ⟨hk3, h⟩ := ck_some h
    try simp only [go_sem, n1, n2, n3, n4, hk1, hk2] at hk3
    all_goals
    obtain rfl := so_some h
    refine ⟨0, fun L hL => ?_⟩
    simp only [go_sem, ir35, E_impl_appendNumber_l1, R_impl_appendNumber_l1, ir35_b0, ir35_k0, ir35_o0, ir35_r0, hk1, hk2, hk3]
  · try simp only [go_sem, n1, n2, n3, n4] at hk1
    all_goals
    obtain rfl := so_some h
    refine ⟨0, fun L hL => ?_⟩
    simp only [go_sem, ir35, E_impl_appendNumber_l1, R_impl_appendNumber_l1, ir35_b0, ir35_k0, ir35_o0, ir35_r0, hk1]

theorem Fs_impl_appendNumber {b : List UInt8} {n : Int} {y_ : (List UInt8)} (h : impl_appendNumber b n = some y_) : c_impl_appendNumber.F [.fresh 1 (List.map byteAV b), .int .i64 n] = ⟨true, .fresh 1 (List.map byteAV y_), [.any, .any]⟩ := by
  refine mkF_E (by simp only [flatA, flatB, flat1, List.all_cons, List.all_nil, Bool.and_self, flatE_map (f := byteAV) (fun _ => rfl)]) ?_
  dsimp only [impl_appendNumber] at h
  obtain ⟨y_4, hk4, h⟩ := bd_some h
  obtain ⟨Lhk4, ehk4⟩ := impl_appendNumber_l1_ex hk4
  obtain ⟨hk5, h⟩ := ck_some h
  try simp only [go_sem, n1, n2, n3, n4] at hk5
  all_goals
  obtain rfl := so_some h
  refine ⟨Lhk4, fun L hL => ?_⟩
  have ehk4 := ehk4 L (by omega)
  try simp only [go_sem, E_impl_appendNumber_l1, R_impl_appendNumber_l1, ir35_k0, ir35_o0, ir35_r0] at ehk4
  simp only [go_sem, ir35, E_impl_appendNumber_l1, R_impl_appendNumber_l1, ir35_k0, ir35_o0, ir35_r0, hk5, ehk4]


def ir37_v : List Nat := [0, 2]
def ir37 : AFn := ⟨1, 2, .seq (.region false [
    ⟨.var 1, 2, none, .mov (.c (.int .i64 (0)))⟩])
 (.seq (.test false [
    ⟨.push, 3, none, .mov (.v 0)⟩,
    ⟨.push, 4, none, .bin false .lss (.s 0) (.c (.int .i64 (0)))⟩] (.s 0)
  (.seq (.region false [
      ⟨.push, 5, none, .mov (.v 0)⟩,
      ⟨.push, 6, none, .bin false .mul (.c (.int .i64 (-2))) (.s 0)⟩,
      ⟨.push, 7, none, .bin false .sub (.s 0) (.c (.int .i64 (1)))⟩,
      ⟨.var 1, 2, none, .mov (.s 0)⟩])
   (.ret))
  (.skip))
 (.seq (.region false [
    ⟨.push, 8, none, .mov (.v 0)⟩,
    ⟨.push, 9, none, .bin false .mul (.c (.int .i64 (2))) (.s 0)⟩,
    ⟨.var 1, 2, none, .mov (.s 0)⟩])
 (.ret))), [.t 1]⟩
noncomputable def t_impl_fold : List (Nat × Ctr) := []
noncomputable def c_impl_fold : Ctr := mkF t_impl_fold ir37 [.bor]
theorem s_impl_fold : Sound Try.prog 37 c_impl_fold := mkF_sound _ rfl snd_nil (by kernel_rfl : chkFn Try.prog 37 ir37 ir37_v = true)
theorem M_impl_fold : c_impl_fold.modes = [.bor] := rfl
theorem Fl_impl_fold : c_impl_fold.flat = true := rfl
attribute [go_sem] M_impl_fold Fl_impl_fold
theorem Fs_impl_fold {n : Int} {y_ : Int} (h : impl_fold n = some y_) : c_impl_fold.F [.int .i64 n] = ⟨true, .int .i64 y_, [.any]⟩ := by
  refine mkF_E rfl ?_
  dsimp only [impl_fold] at h
  rcases it_some h with ⟨hk1, h⟩ | ⟨hk1, h⟩
  · try simp only [go_sem, n1, n2, n3, n4] at hk1
    all_goals
    obtain rfl := so_some h
    refine ⟨0, fun L hL => ?_⟩
    simp only [go_sem, ir37, hk1]
  · try simp only [go_sem, n1, n2, n3, n4] at hk1
    all_goals
    obtain rfl := so_some h
    refine ⟨0, fun L hL => ?_⟩
    simp only [go_sem, ir37, hk1]


def ir71_v : List Nat := [0, 1, 2, 6]
def ir71 : AFn := ⟨3, 4, .seq (.region false [
    ⟨.var 3, 6, none, .mov (.c (.bool false))⟩])
 (.seq (.region false [
    ⟨.push, 7, none, .mov (.v 0)⟩,
    ⟨.push, 8, none, .mov (.v 1)⟩,
    ⟨.push, 9, none, .bin false .geq (.s 1) (.s 0)⟩,
    ⟨.push, 10, none, .mov (.s 0)⟩,
    ⟨.push, 11, (some ((.s 0), true)), .mov (.v 0)⟩,
    ⟨.push, 12, (some ((.s 1), true)), .mov (.v 2)⟩,
    ⟨.push, 13, (some ((.s 2), true)), .bin false .leq (.s 1) (.s 0)⟩,
    ⟨.push, 14, none, .pick (.s 3) (.s 0) (.c (.bool false))⟩,
    ⟨.var 3, 6, none, .mov (.s 0)⟩])
 (.ret)), [.t 3]⟩
noncomputable def t_impl_in : List (Nat × Ctr) := []
noncomputable def c_impl_in : Ctr := mkF t_impl_in ir71 [.bor, .bor, .bor]
theorem s_impl_in : Sound Try.prog 71 c_impl_in := mkF_sound _ rfl snd_nil (by kernel_rfl : chkFn Try.prog 71 ir71 ir71_v = true)
theorem M_impl_in : c_impl_in.modes = [.bor, .bor, .bor] := rfl
theorem Fl_impl_in : c_impl_in.flat = true := rfl
attribute [go_sem] M_impl_in Fl_impl_in
theorem Fs_impl_in {n : Int} {low : Int} {high : Int} {y_ : Bool} (h : impl_in n low high = some y_) : c_impl_in.F [.int .i64 n, .int .i64 low, .int .i64 high] = ⟨true, .bool y_, [.any, .any, .any]⟩ := by
  refine mkF_E rfl ?_
  dsimp only [impl_in] at h
  obtain rfl := so_some h
  refine ⟨0, fun L hL => ?_⟩
  simp only [go_sem, ir71]


def ir59_v : List Nat := [0, 2]
def ir59 : AFn := ⟨1, 2, .seq (.region false [
    ⟨.var 1, 2, none, .mov (.c (.bool false))⟩])
 (.seq (.region false [
    ⟨.push, 3, none, .mov (.v 0)⟩,
    ⟨.push, 4, none, .call 71 [(.s 0), (.c (.int .i64 (0))), (.c (.int .i64 (10000000)))]⟩,
    ⟨.var 1, 2, none, .mov (.s 0)⟩])
 (.ret)), [.t 1]⟩
noncomputable def t_impl_ValidTime : List (Nat × Ctr) := [(71, c_impl_in)]
theorem lk_impl_ValidTime_71 : look t_impl_ValidTime 71 = some c_impl_in := rfl
noncomputable def c_impl_ValidTime : Ctr := mkF t_impl_ValidTime ir59 [.bor]
theorem s_impl_ValidTime : Sound Try.prog 59 c_impl_ValidTime := mkF_sound _ rfl (snd_cons s_impl_in snd_nil) (by kernel_rfl : chkFn Try.prog 59 ir59 ir59_v = true)
theorem M_impl_ValidTime : c_impl_ValidTime.modes = [.bor] := rfl
theorem Fl_impl_ValidTime : c_impl_ValidTime.flat = true := rfl
attribute [go_sem] M_impl_ValidTime Fl_impl_ValidTime
attribute [go_sem] lk_impl_ValidTime_71
theorem Fs_impl_ValidTime {t : Int} {y_ : Bool} (h : impl_ValidTime t = some y_) : c_impl_ValidTime.F [.int .i64 t] = ⟨true, .bool y_, [.any]⟩ := by
  refine mkF_E rfl ?_
  dsimp only [impl_ValidTime] at h
  obtain ⟨y_1, hk1, h⟩ := bd_some h
  have fhk1 := Fs_impl_in hk1
  try simp only [go_sem] at fhk1
  obtain rfl := so_some h
  refine ⟨0, fun L hL => ?_⟩
  simp only [go_sem, ir59, fhk1]


def ir60_v : List Nat := [0, 2]
def ir60 : AFn := ⟨1, 2, .seq (.region false [
    ⟨.var 1, 2, none, .mov (.c (.bool false))⟩])
 (.seq (.region false [
    ⟨.push, 3, none, .mov (.v 0)⟩,
    ⟨.push, 4, none, .call 71 [(.s 0), (.c (.int .i64 (-2000))), (.c (.int .i64 (20000)))]⟩,
    ⟨.var 1, 2, none, .mov (.s 0)⟩])
 (.ret)), [.t 1]⟩
noncomputable def t_impl_ValidMag : List (Nat × Ctr) := [(71, c_impl_in)]
theorem lk_impl_ValidMag_71 : look t_impl_ValidMag 71 = some c_impl_in := rfl
noncomputable def c_impl_ValidMag : Ctr := mkF t_impl_ValidMag ir60 [.bor]
theorem s_impl_ValidMag : Sound Try.prog 60 c_impl_ValidMag := mkF_sound _ rfl (snd_cons s_impl_in snd_nil) (by kernel_rfl : chkFn Try.prog 60 ir60 ir60_v = true)
theorem M_impl_ValidMag : c_impl_ValidMag.modes = [.bor] := rfl
theorem Fl_impl_ValidMag : c_impl_ValidMag.flat = true := rfl
attribute [go_sem] M_impl_ValidMag Fl_impl_ValidMag
attribute [go_sem] lk_impl_ValidMag_71
theorem Fs_impl_ValidMag {m : Int} {y_ : Bool} (h : impl_ValidMag m = some y_) : c_impl_ValidMag.F [.int .i64 m] = ⟨true, .bool y_, [.any]⟩ := by
  refine mkF_E rfl ?_
  dsimp only [impl_ValidMag] at h
  obtain ⟨y_1, hk1, h⟩ := bd_some h
  have fhk1 := Fs_impl_in hk1
  try simp only [go_sem] at fhk1
  obtain rfl := so_some h
  refine ⟨0, fun L hL => ?_⟩
  simp only [go_sem, ir60, fhk1]


def ir34_b0 : IR := .seq (.region false [
    ⟨.var 7, 11, none, .bin false .lss (.v 6) (.v 5)⟩])
 (.seq (.cond (.v 7) (.skip)
  (.exit 0))
 (.seq (.block 1 (.seq (.region false [
      ⟨.push, 12, none, .mov (.v 6)⟩,
      ⟨.push, 13, none, .ixAddr 2 (.v 4) (.v 6)⟩,
      ⟨.push, 14, none, .load true 2 (.s 0)⟩,
      ⟨.var 3, 4, none, .alloc (.agg [.int .i64 (0), .int .i64 (0)])⟩,
      ⟨.var 2, 3, none, .mov (.s 2)⟩,
      ⟨.no, 0, none, .store 2 (.v 3) (.s 0)⟩])
   (.anyo 25 [
     ⟨.slot 0, 15, none, .fldAddr 0 (.v 3)⟩,
     ⟨.slot 1, 16, none, .load false 1 (.s 0)⟩,
     ⟨.slot 2, 17, none, .callp 59 [(.s 1)]⟩,
     ⟨.slot 3, 18, none, .un .not (.s 2)⟩,
     ⟨.slot 4, 19, none, .mov (.s 3)⟩,
     ⟨.slot 5, 20, (some ((.s 4), false)), .fldAddr 1 (.v 3)⟩,
     ⟨.slot 6, 21, (some ((.s 4), false)), .load false 1 (.s 5)⟩,
     ⟨.slot 7, 22, (some ((.s 4), false)), .call 60 [(.s 6)]⟩,
     ⟨.slot 8, 23, (some ((.s 4), false)), .un .not (.s 7)⟩,
     ⟨.slot 9, 24, none, .pick (.s 4) (.c (.bool true)) (.s 8)⟩,
     ⟨.slot 10, 25, none, .mov (.s 9)⟩,
     ⟨.slot 11, 26, (some ((.s 10), false)), .mov (.v 2)⟩,
     ⟨.slot 12, 27, (some ((.s 10), false)), .bin false .gtr (.s 11) (.c (.int .i64 (0)))⟩,
     ⟨.slot 13, 28, (some ((.s 10), false)), .mov (.s 12)⟩,
     ⟨.slot 14, 29, (some ((.s 13), true)), .mov (.v 0)⟩,
     ⟨.slot 15, 30, (some ((.s 13), true)), .mov (.v 2)⟩,
     ⟨.slot 16, 31, (some ((.s 13), true)), .bin false .sub (.s 15) (.c (.int .i64 (1)))⟩,
     ⟨.slot 17, 32, (some ((.s 13), true)), .ixAddr 2 (.s 14) (.s 16)⟩,
     ⟨.slot 18, 33, (some ((.s 13), true)), .fldAddr 0 (.s 17)⟩,
     ⟨.slot 19, 34, (some ((.s 13), true)), .load false 1 (.s 18)⟩,
     ⟨.slot 20, 35, (some ((.s 13), true)), .fldAddr 0 (.v 3)⟩,
     ⟨.slot 21, 36, (some ((.s 13), true)), .load false 1 (.s 20)⟩,
     ⟨.slot 22, 37, (some ((.s 13), true)), .bin false .geq (.s 19) (.s 21)⟩,
     ⟨.slot 23, 38, (some ((.s 10), false)), .pick (.s 13) (.s 22) (.c (.bool false))⟩,
     ⟨.slot 24, 39, none, .pick (.s 10) (.c (.bool true)) (.s 23)⟩] [] (.cond (.s 24)
   (.seq (.region false [
       ⟨.var 1, 2, none, .mov (.c (.bool false))⟩])
    (.ret))
   (.skip)))))
 (.region false [
   ⟨.push, 40, none, .bin false .add (.v 6) (.c (.int .i64 (1)))⟩,
   ⟨.var 6, 10, none, .mov (.s 0)⟩])))
def ir34_k0 : List Bool := [true, false, false, false, true, true, true, false]
def ir34_o0 : List Bool := [false, false, false, false, false, false, false, false]
def ir34_r0 : List Bool := [false, true, false, false, false, false, false, false]
def ir34_v : List Nat := [0, 2, 3, 4, 8, 9, 10, 11]
def ir34 : AFn := ⟨1, 8, .seq (.region false [
    ⟨.var 1, 2, none, .mov (.c (.bool false))⟩])
 (.seq (.test false [
    ⟨.push, 5, none, .mov (.v 0)⟩,
    ⟨.push, 6, none, .len false (.s 0)⟩,
    ⟨.push, 7, none, .bin false .gtr (.s 0) (.c (.int .i64 (100)))⟩] (.s 0)
  (.seq (.region false [
      ⟨.var 1, 2, none, .mov (.c (.bool false))⟩])
   (.ret))
  (.skip))
 (.seq (.seq (.region false [
     ⟨.var 4, 8, none, .mov (.v 0)⟩,
     ⟨.var 5, 9, none, .len false (.v 4)⟩,
     ⟨.var 6, 10, none, .mov (.c (.int .i64 (0)))⟩])
  (.block 0 (.loop ir34_k0 ir34_o0 ir34_r0 ir34_b0)))
 (.seq (.region false [
    ⟨.var 1, 2, none, .mov (.c (.bool true))⟩])
 (.ret)))), [.t 1]⟩
noncomputable def t_impl_ValidCurve : List (Nat × Ctr) := [(59, c_impl_ValidTime), (60, c_impl_ValidMag)]
theorem lk_impl_ValidCurve_59 : look t_impl_ValidCurve 59 = some c_impl_ValidTime := rfl
theorem lk_impl_ValidCurve_60 : look t_impl_ValidCurve 60 = some c_impl_ValidMag := rfl
noncomputable def c_impl_ValidCurve : Ctr := mkF t_impl_ValidCurve ir34 [.bor]
theorem s_impl_ValidCurve : Sound Try.prog 34 c_impl_ValidCurve := mkF_sound _ rfl (snd_cons s_impl_ValidTime (snd_cons s_impl_ValidMag snd_nil)) (by kernel_rfl : chkFn Try.prog 34 ir34 ir34_v = true)
theorem M_impl_ValidCurve : c_impl_ValidCurve.modes = [.bor] := rfl
theorem Fl_impl_ValidCurve : c_impl_ValidCurve.flat = true := rfl
attribute [go_sem] M_impl_ValidCurve Fl_impl_ValidCurve
attribute [go_sem] lk_impl_ValidCurve_59 lk_impl_ValidCurve_60
def E_impl_ValidCurve_l1 (curve : List Point) (t8 : List Point) (t9 : Int) : Int → St
  | t10 => ⟨[.sl 2 (List.map Point_av curve), .any, .any, .any, .sl 2 (List.map Point_av t8), .int .i64 t9, .int .i64 t10, .any], [], [], true⟩
def R_impl_ValidCurve_l1 (curve : List Point) (t8 : List Point) (t9 : Int) : (Unit ⊕ Bool) → Res
  | .inl y => (.exit 0, ⟨[.any, .any, .any, .any, .any, .any, .any, .any], [], [], true⟩)
  | .inr y => (.ret, ⟨[.any, .bool y, .any, .any, .any, .any, .any, .any], [], [], true⟩)
theorem impl_ValidCurve_l1_ex {curve : List Point} {t8 : List Point} {t9 : Int} {sgm_ : Int} {rho_ : Unit ⊕ Bool} (h : whileE (impl_ValidCurve_l1 curve t8 t9) sgm_ = some rho_) : ∃ L0, ∀ L, L0 ≤ L → iter (exec (look t_impl_ValidCurve) L ir34_b0) ir34_k0 ir34_o0 ir34_r0 L (E_impl_ValidCurve_l1 curve t8 t9 sgm_) = R_impl_ValidCurve_l1 curve t8 t9 rho_ := by
  refine loop_ex (E := E_impl_ValidCurve_l1 curve t8 t9) (R := R_impl_ValidCurve_l1 curve t8 t9) (fun y => by first | (intro c; cases c) | (rcases y with y | y <;> (intro c; cases c)) | (rcases y with y | y | y <;> (intro c; cases c))) ?_ h
  clear h
  intro t10 o_ h
  dsimp only [impl_ValidCurve_l1] at h
  rcases it_some h with ⟨hk2, h⟩ | ⟨hk2, h⟩
  · try simp only [go_sem, n1, n2, n3, n4] at hk2
    all_goals
    obtain ⟨hk3, h⟩ := ck_some h
    have lhk3 := ix_lt hk3
    have xhk3 := getD_mapD Point_av t8 lhk3
    try simp only [go_sem] at lhk3
    try simp only [go_sem] at xhk3
    try simp only [go_sem, n1, n2, n3, n4, hk2] at hk3
    all_goals
    obtain ⟨y_4, hk4, h⟩ := bd_some h
    have fhk4 := Fs_impl_ValidTime hk4
    try simp only [go_sem] at fhk4
    obtain ⟨hk5, h⟩ := ck_some h
    rcases or_split hk5 with ⟨ghk5, hk5⟩ | ghk5
    · try simp only [go_sem, n1, n2, n3, n4, hk2, hk3] at ghk5
      all_goals
      obtain ⟨y_5, hhk5⟩ := Option.isSome_iff_exists.1 hk5
      have fhk5 := Fs_impl_ValidMag hhk5
      try simp only [go_sem] at fhk5
      obtain ⟨hk6, h⟩ := ck_some h
      rcases or_split hk6 with ⟨ghk6, hk6⟩ | ghk6
      · try simp only [go_sem, n1, n2, n3, n4, hk2, hk3, ghk5, hhk5] at ghk6
        all_goals
        have lhk6 := ix_lt hk6
        have xhk6 := getD_mapD Point_av curve lhk6
        try simp only [go_sem] at lhk6
        try simp only [go_sem] at xhk6
        try simp only [go_sem, n1, n2, n3, n4, hk2, hk3, ghk5, hhk5, ghk6] at hk6
        all_goals
        rcases it_some h with ⟨hk7, h⟩ | ⟨hk7, h⟩
        · try simp only [go_sem, n1, n2, n3, n4, hk2, hk3, ghk5, hhk5, ghk6, hk6] at hk7
          all_goals
          obtain rfl := so_some h
          refine ⟨0, fun L hL => ?_⟩
          simp only [go_sem, ir34, E_impl_ValidCurve_l1, R_impl_ValidCurve_l1, ir34_b0, ir34_k0, ir34_o0, ir34_r0, hk2, hk3, lhk3, xhk3, fhk4, ghk5, hhk5, fhk5, ghk6, hk6, lhk6, xhk6, hk7]
        · try simp only [go_sem, n1, n2, n3, n4, hk2, hk3, ghk5, hhk5, ghk6, hk6] at hk7
          all_goals
          obtain rfl := so_some h
          refine ⟨0, fun L hL => ?_⟩
          simp only [go_sem, ir34, E_impl_ValidCurve_l1, R_impl_ValidCurve_l1, ir34_b0, ir34_k0, ir34_o0, ir34_r0, hk2, hk3, lhk3, xhk3, fhk4, ghk5, hhk5, fhk5, ghk6, hk6, lhk6, xhk6, hk7]
      · rcases and_f ghk6 with ghk6a | ⟨ghk6a, ghk6b⟩
        · have ghk6an := no_f ghk6a
          rcases or_t ghk6an with ghk6ana | ⟨ghk6ana, ghk6anb⟩
          · have ghk6anan := no_t ghk6ana
            try simp only [go_sem, n1, n2, n3, n4, hk2, hk3, ghk5, hhk5] at ghk6anan
            all_goals
            rcases it_some h with ⟨hk7, h⟩ | ⟨hk7, h⟩
            · try simp only [go_sem, n1, n2, n3, n4, hk2, hk3, ghk5, hhk5, ghk6anan] at hk7
              all_goals
              obtain rfl := so_some h
              refine ⟨0, fun L hL => ?_⟩
              simp only [go_sem, ir34, E_impl_ValidCurve_l1, R_impl_ValidCurve_l1, ir34_b0, ir34_k0, ir34_o0, ir34_r0, hk2, hk3, lhk3, xhk3, fhk4, ghk5, hhk5, fhk5, ghk6anan, hk7]
            · try simp only [go_sem, n1, n2, n3, n4, hk2, hk3, ghk5, hhk5, ghk6anan] at hk7
              all_goals
              obtain rfl := so_some h
              refine ⟨0, fun L hL => ?_⟩
              simp only [go_sem, ir34, E_impl_ValidCurve_l1, R_impl_ValidCurve_l1, ir34_b0, ir34_k0, ir34_o0, ir34_r0, hk2, hk3, lhk3, xhk3, fhk4, ghk5, hhk5, fhk5, ghk6anan, hk7]
          · have ghk6anan := no_f ghk6ana
            have ghk6anbn := no_t ghk6anb
            try simp only [go_sem, n1, n2, n3, n4, hk2, hk3, ghk5, hhk5] at ghk6anan
            all_goals
            try simp only [go_sem, n1, n2, n3, n4, hk2, hk3, ghk5, hhk5, ghk6anan] at ghk6anbn
            all_goals
            rcases it_some h with ⟨hk7, h⟩ | ⟨hk7, h⟩
            · try simp only [go_sem, n1, n2, n3, n4, hk2, hk3, ghk5, hhk5, ghk6anan, ghk6anbn] at hk7
              all_goals
              obtain rfl := so_some h
              refine ⟨0, fun L hL => ?_⟩
              simp only [go_sem, ir34, E_impl_ValidCurve_l1, R_impl_ValidCurve_l1, ir34_b0, ir34_k0, ir34_o0, ir34_r0, hk2, hk3, lhk3, xhk3, fhk4, ghk5, hhk5, fhk5, ghk6anan, ghk6anbn, hk7]
            · try simp only [go_sem, n1, n2, n3, n4, hk2, hk3, ghk5, hhk5, ghk6anan, ghk6anbn] at hk7
              all_goals
              obtain rfl := so_some h
              refine ⟨0, fun L hL => ?_⟩
              simp only [go_sem, ir34, E_impl_ValidCurve_l1, R_impl_ValidCurve_l1, ir34_b0, ir34_k0, ir34_o0, ir34_r0, hk2, hk3, lhk3, xhk3, fhk4, ghk5, hhk5, fhk5, ghk6anan, ghk6anbn, hk7]
        · have ghk6an := no_t ghk6a
          obtain ⟨ghk6ana, ghk6anb⟩ := or_f ghk6an
          have ghk6anan := no_f ghk6ana
          have ghk6anbn := no_f ghk6anb
          try simp only [go_sem, n1, n2, n3, n4, hk2, hk3, ghk5, hhk5] at ghk6anan
          all_goals
          try simp only [go_sem, n1, n2, n3, n4, hk2, hk3, ghk5, hhk5, ghk6anan] at ghk6anbn
          all_goals
          try simp only [go_sem, n1, n2, n3, n4, hk2, hk3, ghk5, hhk5, ghk6anan, ghk6anbn] at ghk6b
          all_goals
          rcases it_some h with ⟨hk7, h⟩ | ⟨hk7, h⟩
          · try simp only [go_sem, n1, n2, n3, n4, hk2, hk3, ghk5, hhk5, ghk6anan, ghk6anbn, ghk6b] at hk7
            all_goals
            obtain rfl := so_some h
            refine ⟨0, fun L hL => ?_⟩
            simp only [go_sem, ir34, E_impl_ValidCurve_l1, R_impl_ValidCurve_l1, ir34_b0, ir34_k0, ir34_o0, ir34_r0, hk2, hk3, lhk3, xhk3, fhk4, ghk5, hhk5, fhk5, ghk6anan, ghk6anbn, ghk6b, hk7]
          · try simp only [go_sem, n1, n2, n3, n4, hk2, hk3, ghk5, hhk5, ghk6anan, ghk6anbn, ghk6b] at hk7
            all_goals
            obtain rfl := so_some h
            refine ⟨0, fun L hL => ?_⟩
            simp only [go_sem, ir34, E_impl_ValidCurve_l1, R_impl_ValidCurve_l1, ir34_b0, ir34_k0, ir34_o0, ir34_r0, hk2, hk3, lhk3, xhk3, fhk4, ghk5, hhk5, fhk5, ghk6anan, ghk6anbn, ghk6b, hk7]
    · have ghk5n := no_f ghk5
      have ghk5nn := no_t ghk5n
      try simp only [go_sem, n1, n2, n3, n4, hk2, hk3] at ghk5nn
      all_goals
      obtain ⟨hk6, h⟩ := ck_some h
      rcases or_split hk6 with ⟨ghk6, hk6⟩ | ghk6
      · try simp only [go_sem, n1, n2, n3, n4, hk2, hk3, ghk5nn] at ghk6
        all_goals
        have lhk6 := ix_lt hk6
        have xhk6 := getD_mapD Point_av curve lhk6
        try simp only [go_sem] at lhk6
        try simp only [go_sem] at xhk6
        try simp only [go_sem, n1, n2, n3, n4, hk2, hk3, ghk5nn, ghk6] at hk6
        all_goals
        rcases it_some h with ⟨hk7, h⟩ | ⟨hk7, h⟩
        · try simp only [go_sem, n1, n2, n3, n4, hk2, hk3, ghk5nn, ghk6, hk6] at hk7
          all_goals
          obtain rfl := so_some h
          refine ⟨0, fun L hL => ?_⟩
          simp only [go_sem, ir34, E_impl_ValidCurve_l1, R_impl_ValidCurve_l1, ir34_b0, ir34_k0, ir34_o0, ir34_r0, hk2, hk3, lhk3, xhk3, fhk4, ghk5nn, ghk6, hk6, lhk6, xhk6, hk7]
        · try simp only [go_sem, n1, n2, n3, n4, hk2, hk3, ghk5nn, ghk6, hk6] at hk7
          all_goals
          obtain rfl := so_some h
          refine ⟨0, fun L hL => ?_⟩
          simp only [go_sem, ir34, E_impl_ValidCurve_l1, R_impl_ValidCurve_l1, ir34_b0, ir34_k0, ir34_o0, ir34_r0, hk2, hk3, lhk3, xhk3, fhk4, ghk5nn, ghk6, hk6, lhk6, xhk6, hk7]
      · rcases and_f ghk6 with ghk6a | ⟨ghk6a, ghk6b⟩
        · have ghk6an := no_f ghk6a
          rcases or_t ghk6an with ghk6ana | ⟨ghk6ana, ghk6anb⟩
          · have ghk6anan := no_t ghk6ana
            try simp only [go_sem, n1, n2, n3, n4, hk2, hk3, ghk5nn] at ghk6anan
            all_goals
            rcases it_some h with ⟨hk7, h⟩ | ⟨hk7, h⟩
            · try simp only [go_sem, n1, n2, n3, n4, hk2, hk3, ghk5nn, ghk6anan] at hk7
              all_goals
              obtain rfl := so_some h
              refine ⟨0, fun L hL => ?_⟩
              simp only [go_sem, ir34, E_impl_ValidCurve_l1, R_impl_ValidCurve_l1, ir34_b0, ir34_k0, ir34_o0, ir34_r0, hk2, hk3, lhk3, xhk3, fhk4, ghk5nn, ghk6anan, hk7]
            · try simp only [go_sem, n1, n2, n3, n4, hk2, hk3, ghk5nn, ghk6anan] at hk7
              all_goals
              obtain rfl := so_some h
              refine ⟨0, fun L hL => ?_⟩
              simp only [go_sem, ir34, E_impl_ValidCurve_l1, R_impl_ValidCurve_l1, ir34_b0, ir34_k0, ir34_o0, ir34_r0, hk2, hk3, lhk3, xhk3, fhk4, ghk5nn, ghk6anan, hk7]
          · have ghk6anan := no_f ghk6ana
            have ghk6anbn := no_t ghk6anb
            try simp only [go_sem, n1, n2, n3, n4, hk2, hk3, ghk5nn] at ghk6anan
            all_goals
            try simp only [go_sem, n1, n2, n3, n4, hk2, hk3, ghk5nn, ghk6anan] at ghk6anbn
            all_goals
            rcases it_some h with ⟨hk7, h⟩ | ⟨hk7, h⟩
            · try simp only [go_sem, n1, n2, n3, n4, hk2, hk3, ghk5nn, ghk6anan, ghk6anbn] at hk7
              all_goals
              obtain rfl := so_some h
              refine ⟨0, fun L hL => ?_⟩
              simp only [go_sem, ir34, E_impl_ValidCurve_l1, R_impl_ValidCurve_l1, ir34_b0, ir34_k0, ir34_o0, ir34_r0, hk2, hk3, lhk3, xhk3, fhk4, ghk5nn, ghk6anan, ghk6anbn, hk7]
            · try simp only [go_sem, n1, n2, n3, n4, hk2, hk3, ghk5nn, ghk6anan, ghk6anbn] at hk7
              all_goals
              obtain rfl := so_some h
              refine ⟨0, fun L hL => ?_⟩
              simp only [go_sem, ir34, E_impl_ValidCurve_l1, R_impl_ValidCurve_l1, ir34_b0, ir34_k0, ir34_o0, ir34_r0, hk2, hk3, lhk3, xhk3, fhk4, ghk5nn, ghk6anan, ghk6anbn, hk7]
        · have ghk6an := no_t ghk6a
          obtain ⟨ghk6ana, ghk6anb⟩ := or_f ghk6an
          have ghk6anan := no_f ghk6ana
          have ghk6anbn := no_f ghk6anb
          try simp only [go_sem, n1, n2, n3, n4, hk2, hk3, ghk5nn] at ghk6anan
          all_goals
          try simp only [go_sem, n1, n2, n3, n4, hk2, hk3, ghk5nn, ghk6anan] at ghk6anbn
          all_goals
          try simp only [go_sem, n1, n2, n3, n4, hk2, hk3, ghk5nn, ghk6anan, ghk6anbn] at ghk6b
          all_goals
          rcases it_some h with ⟨hk7, h⟩ | ⟨hk7, h⟩
          · try simp only [go_sem, n1, n2, n3, n4, hk2, hk3, ghk5nn, ghk6anan, ghk6anbn, ghk6b] at hk7
            all_goals
            obtain rfl := so_some h
            refine ⟨0, fun L hL => ?_⟩
            simp only [go_sem, ir34, E_impl_ValidCurve_l1, R_impl_ValidCurve_l1, ir34_b0, ir34_k0, ir34_o0, ir34_r0, hk2, hk3, lhk3, xhk3, fhk4, ghk5nn, ghk6anan, ghk6anbn, ghk6b, hk7]
          · try simp only [go_sem, n1, n2, n3, n4, hk2, hk3, ghk5nn, ghk6anan, ghk6anbn, ghk6b] at hk7
            all_goals
            obtain rfl := so_some h
            refine ⟨0, fun L hL => ?_⟩
            simp only [go_sem, ir34, E_impl_ValidCurve_l1, R_impl_ValidCurve_l1, ir34_b0, ir34_k0, ir34_o0, ir34_r0, hk2, hk3, lhk3, xhk3, fhk4, ghk5nn, ghk6anan, ghk6anbn, ghk6b, hk7]
  · try simp only [go_sem, n1, n2, n3, n4] at hk2
    all_goals
    obtain rfl := so_some h
    refine ⟨0, fun L hL => ?_⟩
    simp only [go_sem, ir34, E_impl_ValidCurve_l1, R_impl_ValidCurve_l1, ir34_b0, ir34_k0, ir34_o0, ir34_r0, hk2]

theorem Fs_impl_ValidCurve {curve : List Point} {y_ : Bool} (h : impl_ValidCurve curve = some y_) : c_impl_ValidCurve.F [.sl 2 (List.map Point_av curve)] = ⟨true, .bool y_, [.any]⟩ := by
  refine mkF_E rfl ?_
  dsimp only [impl_ValidCurve] at h
  rcases it_some h with ⟨hk1, h⟩ | ⟨hk1, h⟩
  · try simp only [go_sem, n1, n2, n3, n4] at hk1
    all_goals
    obtain rfl := so_some h
    refine ⟨0, fun L hL => ?_⟩
    simp only [go_sem, ir34, E_impl_ValidCurve_l1, R_impl_ValidCurve_l1, ir34_k0, ir34_o0, ir34_r0, hk1]
  · try simp only [go_sem, n1, n2, n3, n4] at hk1
    all_goals
    obtain ⟨y_8, hk8, h⟩ := bd_some h
    obtain ⟨Lhk8, ehk8⟩ := impl_ValidCurve_l1_ex hk8
    rcases y_8 with y_8a | y_8b
    · dsimp only at h
      obtain rfl := so_some h
      refine ⟨Lhk8, fun L hL => ?_⟩
      have ehk8 := ehk8 L (by omega)
      try simp only [go_sem, E_impl_ValidCurve_l1, R_impl_ValidCurve_l1, ir34_k0, ir34_o0, ir34_r0] at ehk8
      simp only [go_sem, ir34, E_impl_ValidCurve_l1, R_impl_ValidCurve_l1, ir34_k0, ir34_o0, ir34_r0, hk1, ehk8]
    · dsimp only at h
      obtain rfl := so_some h
      refine ⟨Lhk8, fun L hL => ?_⟩
      have ehk8 := ehk8 L (by omega)
      try simp only [go_sem, E_impl_ValidCurve_l1, R_impl_ValidCurve_l1, ir34_k0, ir34_o0, ir34_r0] at ehk8
      simp only [go_sem, ir34, E_impl_ValidCurve_l1, R_impl_ValidCurve_l1, ir34_k0, ir34_o0, ir34_r0, hk1, ehk8]


def ir36_v : List Nat := [0, 2]
def ir36 : AFn := ⟨1, 2, .seq (.region false [
    ⟨.var 1, 2, none, .mov (.c (.int .i64 (0)))⟩])
 (.seq (.region false [
    ⟨.push, 3, none, .mov (.v 0)⟩,
    ⟨.push, 4, none, .len false (.s 0)⟩,
    ⟨.var 1, 2, none, .mov (.s 0)⟩])
 (.ret)), [.t 1]⟩
noncomputable def t_impl_count_impl_Point : List (Nat × Ctr) := []
noncomputable def c_impl_count_impl_Point : Ctr := mkF t_impl_count_impl_Point ir36 [.bor]
theorem s_impl_count_impl_Point : Sound Try.prog 36 c_impl_count_impl_Point := mkF_sound _ rfl snd_nil (by kernel_rfl : chkFn Try.prog 36 ir36 ir36_v = true)
theorem M_impl_count_impl_Point : c_impl_count_impl_Point.modes = [.bor] := rfl
theorem Fl_impl_count_impl_Point : c_impl_count_impl_Point.flat = true := rfl
attribute [go_sem] M_impl_count_impl_Point Fl_impl_count_impl_Point
theorem Fs_impl_count_impl_Point {list : List Point} {y_ : Int} (h : impl_count_impl_Point list = some y_) : c_impl_count_impl_Point.F [.sl 2 (List.map Point_av list)] = ⟨true, .int .i64 y_, [.any]⟩ := by
  refine mkF_E rfl ?_
  dsimp only [impl_count_impl_Point] at h
  obtain rfl := so_some h
  refine ⟨0, fun L hL => ?_⟩
  simp only [go_sem, ir36]


def ir51_b0 : IR := .seq (.region false [
    ⟨.var 8, 10, none, .bin false .lss (.v 7) (.v 6)⟩])
 (.seq (.cond (.v 8) (.skip)
  (.exit 0))
 (.seq (.block 1 (.seq (.region false [
      ⟨.push, 11, none, .ixAddr 1 (.v 5) (.v 7)⟩,
      ⟨.push, 12, none, .load false 1 (.s 0)⟩,
      ⟨.var 4, 6, none, .mov (.s 0)⟩])
   (.seq (.region false [
      ⟨.push, 13, none, .mov (.v 2)⟩,
      ⟨.push, 14, none, .mov (.v 4)⟩,
      ⟨.push, 15, none, .conv .i64 (.s 0)⟩,
      ⟨.push, 16, none, .bin false .add (.s 2) (.s 0)⟩,
      ⟨.push, 17, none, .bin false .rem (.s 0) (.c (.int .i64 (251)))⟩,
      ⟨.var 2, 3, none, .mov (.s 0)⟩])
   (.region false [
     ⟨.push, 18, none, .mov (.v 3)⟩,
     ⟨.push, 19, none, .mov (.v 2)⟩,
     ⟨.push, 20, none, .bin false .add (.s 1) (.s 0)⟩,
     ⟨.push, 21, none, .bin false .rem (.s 0) (.c (.int .i64 (251)))⟩,
     ⟨.var 3, 4, none, .mov (.s 0)⟩]))))
 (.region false [
   ⟨.push, 22, none, .bin false .add (.v 7) (.c (.int .i64 (1)))⟩,
   ⟨.var 7, 9, none, .mov (.s 0)⟩])))
def ir51_k0 : List Bool := [false, false, true, true, false, true, true, true, false]
def ir51_o0 : List Bool := [false, false, true, true, false, false, false, false, false]
def ir51_r0 : List Bool := [false, true, false, false, false, false, false, false, false]
def ir51_v : List Nat := [0, 2, 3, 4, 6, 7, 8, 9, 10]
def ir51 : AFn := ⟨1, 9, .seq (.region false [
    ⟨.var 1, 2, none, .mov (.c (.int .i64 (0)))⟩])
 (.seq (.region false [
    ⟨.var 2, 3, none, .mov (.c (.int .i64 (1)))⟩,
    ⟨.var 3, 4, none, .mov (.c (.int .i64 (0)))⟩])
 (.seq (.seq (.region false [
     ⟨.var 5, 7, none, .mov (.v 0)⟩,
     ⟨.var 6, 8, none, .len false (.v 5)⟩,
     ⟨.var 7, 9, none, .mov (.c (.int .i64 (0)))⟩])
  (.block 0 (.loop ir51_k0 ir51_o0 ir51_r0 ir51_b0)))
 (.seq (.region false [
    ⟨.push, 23, none, .mov (.v 3)⟩,
    ⟨.push, 24, none, .bin false .mul (.c (.int .i64 (251))) (.s 0)⟩,
    ⟨.push, 25, none, .mov (.v 2)⟩,
    ⟨.push, 26, none, .bin false .add (.s 1) (.s 0)⟩,
    ⟨.var 1, 2, none, .mov (.s 0)⟩])
 (.ret)))), [.t 1]⟩
noncomputable def t_impl_SumOfBytes : List (Nat × Ctr) := []
noncomputable def c_impl_SumOfBytes : Ctr := mkF t_impl_SumOfBytes ir51 [.bor]
theorem s_impl_SumOfBytes : Sound Try.prog 51 c_impl_SumOfBytes := mkF_sound _ rfl snd_nil (by kernel_rfl : chkFn Try.prog 51 ir51 ir51_v = true)
theorem M_impl_SumOfBytes : c_impl_SumOfBytes.modes = [.bor] := rfl
theorem Fl_impl_SumOfBytes : c_impl_SumOfBytes.flat = true := rfl
attribute [go_sem] M_impl_SumOfBytes Fl_impl_SumOfBytes
def E_impl_SumOfBytes_l1 (t7 : List UInt8) (t8 : Int) : (Int × Int × Int) → St
  | (s_, t, t9) => ⟨[.any, .any, .int .i64 s_, .int .i64 t, .any, .sl 1 (List.map byteAV t7), .int .i64 t8, .int .i64 t9, .any], [], [], true⟩
def R_impl_SumOfBytes_l1 (t7 : List UInt8) (t8 : Int) (y : Int × Int) : Res := (.exit 0, ⟨[.any, .any, .int .i64 y.1, .int .i64 y.2, .any, .any, .any, .any, .any], [], [], true⟩)
theorem impl_SumOfBytes_l1_ex {t7 : List UInt8} {t8 : Int} {sgm_ : Int × Int × Int} {rho_ : Int × Int} (h : whileE (impl_SumOfBytes_l1 t7 t8) sgm_ = some rho_) : ∃ L0, ∀ L, L0 ≤ L → iter (exec (look t_impl_SumOfBytes) L ir51_b0) ir51_k0 ir51_o0 ir51_r0 L (E_impl_SumOfBytes_l1 t7 t8 sgm_) = R_impl_SumOfBytes_l1 t7 t8 rho_ := by
  refine loop_ex (E := E_impl_SumOfBytes_l1 t7 t8) (R := R_impl_SumOfBytes_l1 t7 t8) (fun y => by first | (intro c; cases c) | (rcases y with y | y <;> (intro c; cases c)) | (rcases y with y | y | y <;> (intro c; cases c))) ?_ h
  clear h
  rintro ⟨s_, t, t9⟩ o_ h
  dsimp only [impl_SumOfBytes_l1] at h
  rcases it_some h with ⟨hk1, h⟩ | ⟨hk1, h⟩
  · try simp only [go_sem, n1, n2, n3, n4] at hk1
    all_goals
    obtain ⟨hk2, h⟩ := ck_some h
    have lhk2 := ix_lt hk2
    have xhk2 := getD_mapD byteAV t7 lhk2
    try simp only [go_sem] at lhk2
    try simp only [go_sem] at xhk2
    try simp only [go_sem, n1, n2, n3, n4, hk1] at hk2
    all_goals
    obtain ⟨hk3, h⟩ := ck_some h
    try simp only [go_sem, n1, n2, n3, n4, hk1, hk2] at hk3
    all_goals
    obtain rfl := so_some h
    refine ⟨0, fun L hL => ?_⟩
    simp only [go_sem, ir51, E_impl_SumOfBytes_l1, R_impl_SumOfBytes_l1, ir51_b0, ir51_k0, ir51_o0, ir51_r0, hk1, hk2, lhk2, xhk2, hk3]
  · try simp only [go_sem, n1, n2, n3, n4] at hk1
    all_goals
    obtain rfl := so_some h
    refine ⟨0, fun L hL => ?_⟩
    simp only [go_sem, ir51, E_impl_SumOfBytes_l1, R_impl_SumOfBytes_l1, ir51_b0, ir51_k0, ir51_o0, ir51_r0, hk1]

theorem Fs_impl_SumOfBytes {b : List UInt8} {y_ : Int} (h : impl_SumOfBytes b = some y_) : c_impl_SumOfBytes.F [.sl 1 (List.map byteAV b)] = ⟨true, .int .i64 y_, [.any]⟩ := by
  refine mkF_E rfl ?_
  dsimp only [impl_SumOfBytes] at h
  obtain ⟨y_4, hk4, h⟩ := bd_some h
  obtain ⟨Lhk4, ehk4⟩ := impl_SumOfBytes_l1_ex hk4
  obtain rfl := so_some h
  refine ⟨Lhk4, fun L hL => ?_⟩
  have ehk4 := ehk4 L (by omega)
  try simp only [go_sem, E_impl_SumOfBytes_l1, R_impl_SumOfBytes_l1, ir51_k0, ir51_o0, ir51_r0] at ehk4
  simp only [go_sem, ir51, E_impl_SumOfBytes_l1, R_impl_SumOfBytes_l1, ir51_k0, ir51_o0, ir51_r0, ehk4]


def ir38_v : List Nat := [0, 2, 3]
def ir38 : AFn := ⟨1, 3, .seq (.region false [
    ⟨.var 1, 2, none, .newnil 1⟩])
 (.seq (.region false [
    ⟨.push, 4, none, .mov (.v 0)⟩,
    ⟨.push, 5, none, .call 51 [(.s 0)]⟩,
    ⟨.var 2, 3, none, .mov (.s 0)⟩])
 (.seq (.region false [
    ⟨.push, 6, none, .mov (.v 0)⟩,
    ⟨.push, 7, none, .mov (.v 2)⟩,
    ⟨.push, 8, none, .bin false .quo (.s 0) (.c (.int .i64 (256)))⟩,
    ⟨.push, 9, none, .conv .u8 (.s 0)⟩,
    ⟨.push, 10, none, .mov (.v 2)⟩,
    ⟨.push, 11, none, .bin false .rem (.s 0) (.c (.int .i64 (256)))⟩,
    ⟨.push, 12, none, .conv .u8 (.s 0)⟩,
    ⟨.push, 13, none, .mkSl 1 (.int .u8 (0)) 2 [(0, (.s 3)), (1, (.s 0))]⟩,
    ⟨.push, 14, none, .app 1 1 (.int .u8 (0)) (.s 7) (.s 0)⟩,
    ⟨.var 1, 2, none, .mov (.s 0)⟩])
 (.ret))), [.t 1]⟩
noncomputable def t_impl_sealed : List (Nat × Ctr) := [(51, c_impl_SumOfBytes)]
theorem lk_impl_sealed_51 : look t_impl_sealed 51 = some c_impl_SumOfBytes := rfl
noncomputable def c_impl_sealed : Ctr := mkF t_impl_sealed ir38 [.mov]
theorem s_impl_sealed : Sound Try.prog 38 c_impl_sealed := mkF_sound _ rfl (snd_cons s_impl_SumOfBytes snd_nil) (by kernel_rfl : chkFn Try.prog 38 ir38 ir38_v = true)
theorem M_impl_sealed : c_impl_sealed.modes = [.mov] := rfl
theorem Fl_impl_sealed : c_impl_sealed.flat = true := rfl
attribute [go_sem] M_impl_sealed Fl_impl_sealed
attribute [go_sem] lk_impl_sealed_51
theorem Fs_impl_sealed {b : List UInt8} {y_ : (List UInt8)} (h : impl_sealed b = some y_) : c_impl_sealed.F [.fresh 1 (List.map byteAV b)] = ⟨true, .fresh 1 (List.map byteAV y_), [.any]⟩ := by
  refine mkF_E (by simp only [flatA, flatB, flat1, List.all_cons, List.all_nil, Bool.and_self, flatE_map (f := byteAV) (fun _ => rfl)]) ?_
  dsimp only [impl_sealed] at h
  obtain ⟨y_1, hk1, h⟩ := bd_some h
  have fhk1 := Fs_impl_SumOfBytes hk1
  try simp only [go_sem] at fhk1
  obtain ⟨hk2, h⟩ := ck_some h
  try simp only [go_sem, n1, n2, n3, n4] at hk2
  all_goals
  obtain ⟨hk3, h⟩ := ck_some h
  try simp only [go_sem, n1, n2, n3, n4, hk2] at hk3
  all_goals
  obtain rfl := so_some h
  refine ⟨0, fun L hL => ?_⟩
  simp only [go_sem, ir38, fhk1, hk2, hk3]


def ir18_b0 : IR := .seq (.region false [
    ⟨.var 10, 19, none, .bin false .lss (.v 9) (.v 8)⟩])
 (.seq (.cond (.v 10) (.skip)
  (.exit 0))
 (.seq (.block 1 (.seq (.region false [
      ⟨.push, 20, none, .ixAddr 2 (.v 7) (.v 9)⟩,
      ⟨.push, 21, none, .load true 2 (.s 0)⟩,
      ⟨.var 6, 8, none, .alloc (.agg [.int .i64 (0), .int .i64 (0)])⟩,
      ⟨.no, 0, none, .store 2 (.v 6) (.s 0)⟩])
   (.seq (.anyo 12 [
      ⟨.slot 0, 22, none, .mov (.v 3)⟩,
      ⟨.slot 1, 23, none, .fldAddr 0 (.v 6)⟩,
      ⟨.slot 2, 24, none, .load false 1 (.s 1)⟩,
      ⟨.slot 3, 25, none, .mov (.v 4)⟩,
      ⟨.slot 4, 26, none, .bin false .sub (.s 2) (.s 3)⟩,
      ⟨.slot 5, 27, none, .call 35 [(.s 0), (.s 4)]⟩,
      ⟨.slot 6, 28, none, .fldAddr 1 (.v 6)⟩,
      ⟨.slot 7, 29, none, .load false 1 (.s 6)⟩,
      ⟨.slot 8, 30, none, .mov (.v 5)⟩,
      ⟨.slot 9, 31, none, .bin false .sub (.s 7) (.s 8)⟩,
      ⟨.slot 10, 32, none, .callp 37 [(.s 9)]⟩,
      ⟨.slot 11, 33, none, .call 35 [(.s 5), (.s 10)]⟩,
      ⟨.var 3, 4, none, .mov (.s 11)⟩] [[0, 1, 2, 3, 4, 6, 5, 7, 8, 9, 10, 11, 12], [0, 1, 2, 3, 4, 6, 7, 5, 8, 9, 10, 11, 12], [0, 1, 2, 3, 4, 6, 7, 8, 5, 9, 10, 11, 12], [0, 1, 2, 3, 4, 6, 7, 8, 9, 5, 10, 11, 12], [0, 1, 2, 3, 4, 6, 8, 5, 7, 9, 10, 11, 12], [0, 1, 2, 3, 4, 6, 8, 7, 5, 9, 10, 11, 12], [0, 1, 2, 3, 4, 6, 8, 7, 9, 5, 10, 11, 12], [0, 1, 2, 3, 4, 8, 5, 6, 7, 9, 10, 11, 12], [0, 1, 2, 3, 4, 8, 6, 5, 7, 9, 10, 11, 12], [0, 1, 2, 3, 4, 8, 6, 7, 5, 9, 10, 11, 12], [0, 1, 2, 3, 4, 8, 6, 7, 9, 5, 10, 11, 12]] .skip)
   (.anyo 4 [
     ⟨.slot 0, 34, none, .fldAddr 0 (.v 6)⟩,
     ⟨.slot 1, 35, none, .load false 1 (.s 0)⟩,
     ⟨.slot 2, 36, none, .fldAddr 1 (.v 6)⟩,
     ⟨.slot 3, 37, none, .load false 1 (.s 2)⟩,
     ⟨.var 4, 5, none, .mov (.s 1)⟩,
     ⟨.var 5, 6, none, .mov (.s 3)⟩] [] .skip))))
 (.region false [
   ⟨.push, 38, none, .bin false .add (.v 9) (.c (.int .i64 (1)))⟩,
   ⟨.var 9, 18, none, .mov (.s 0)⟩])))
def ir18_k0 : List Bool := [false, false, false, true, true, true, false, true, true, true, false]
def ir18_o0 : List Bool := [false, false, false, true, false, false, false, false, false, false, false]
def ir18_r0 : List Bool := [false, true, true, false, false, false, false, false, false, false, false]
def ir18_v : List Nat := [0, 2, 3, 4, 5, 6, 8, 16, 17, 18, 19]
def ir18 : AFn := ⟨1, 11, .seq (.region false [
    ⟨.var 1, 2, none, .newnil 1⟩,
    ⟨.var 2, 3, none, .mov (.c (.int .i64 (0)))⟩])
 (.seq (.test false [
    ⟨.push, 9, none, .mov (.v 0)⟩,
    ⟨.push, 10, none, .call 34 [(.s 0)]⟩,
    ⟨.push, 11, none, .un .not (.s 0)⟩] (.s 0)
  (.seq (.region false [
      ⟨.var 1, 2, none, .newnil 1⟩,
      ⟨.var 2, 3, none, .mov (.c (.int .i64 (1)))⟩])
   (.ret))
  (.skip))
 (.seq (.region false [
    ⟨.push, 12, none, .mkSl 1 (.int .u8 (0)) 1 [(0, (.c (.int .u8 (67))))]⟩,
    ⟨.push, 13, none, .mov (.v 0)⟩,
    ⟨.push, 14, none, .call 36 [(.s 0)]⟩,
    ⟨.push, 15, none, .call 35 [(.s 2), (.s 0)]⟩,
    ⟨.var 3, 4, none, .mov (.s 0)⟩])
 (.seq (.region false [
    ⟨.var 4, 5, none, .mov (.c (.int .i64 (0)))⟩,
    ⟨.var 5, 6, none, .mov (.c (.int .i64 (0)))⟩])
 (.seq (.seq (.region false [
     ⟨.var 7, 16, none, .mov (.v 0)⟩,
     ⟨.var 8, 17, none, .len false (.v 7)⟩,
     ⟨.var 9, 18, none, .mov (.c (.int .i64 (0)))⟩])
  (.block 0 (.loop ir18_k0 ir18_o0 ir18_r0 ir18_b0)))
 (.seq (.region false [
    ⟨.push, 39, none, .mov (.v 3)⟩,
    ⟨.push, 40, none, .call 38 [(.s 0)]⟩,
    ⟨.var 1, 2, none, .mov (.s 0)⟩,
    ⟨.var 2, 3, none, .mov (.c (.int .i64 (0)))⟩])
 (.ret)))))), [.t 1, .t 2]⟩
noncomputable def t_impl_PackCurve : List (Nat × Ctr) := [(34, c_impl_ValidCurve), (36, c_impl_count_impl_Point), (35, c_impl_appendNumber), (37, c_impl_fold), (38, c_impl_sealed)]
theorem lk_impl_PackCurve_34 : look t_impl_PackCurve 34 = some c_impl_ValidCurve := rfl
theorem lk_impl_PackCurve_36 : look t_impl_PackCurve 36 = some c_impl_count_impl_Point := rfl
theorem lk_impl_PackCurve_35 : look t_impl_PackCurve 35 = some c_impl_appendNumber := rfl
theorem lk_impl_PackCurve_37 : look t_impl_PackCurve 37 = some c_impl_fold := rfl
theorem lk_impl_PackCurve_38 : look t_impl_PackCurve 38 = some c_impl_sealed := rfl
noncomputable def c_impl_PackCurve : Ctr := mkF t_impl_PackCurve ir18 [.bor]
theorem s_impl_PackCurve : Sound Try.prog 18 c_impl_PackCurve := mkF_sound _ rfl (snd_cons s_impl_ValidCurve (snd_cons s_impl_count_impl_Point (snd_cons s_impl_appendNumber (snd_cons s_impl_fold (snd_cons s_impl_sealed snd_nil))))) (by kernel_rfl : chkFn Try.prog 18 ir18 ir18_v = true)
theorem M_impl_PackCurve : c_impl_PackCurve.modes = [.bor] := rfl
theorem Fl_impl_PackCurve : c_impl_PackCurve.flat = true := rfl
attribute [go_sem] M_impl_PackCurve Fl_impl_PackCurve
attribute [go_sem] lk_impl_PackCurve_34 lk_impl_PackCurve_36 lk_impl_PackCurve_35 lk_impl_PackCurve_37 lk_impl_PackCurve_38
def E_impl_PackCurve_l1 (t16 : List Point) (t17 : Int) : ((List UInt8) × Int × Int × Int) → St
  | (b, time, mag, t18) => ⟨[.any, .any, .any, .own 3200000, .int .i64 time, .int .i64 mag, .any, .sl 2 (List.map Point_av t16), .int .i64 t17, .int .i64 t18, .any], [], [(3200000, ⟨1, List.map byteAV b⟩)], true⟩
def R_impl_PackCurve_l1 (t16 : List Point) (t17 : Int) (y : (List UInt8)) : Res := (.exit 0, ⟨[.any, .any, .any, .own 3200000, .any, .any, .any, .any, .any, .any, .any], [], [(3200000, ⟨1, List.map byteAV y⟩)], true⟩)
theorem impl_PackCurve_l1_ex {t16 : List Point} {t17 : Int} {sgm_ : (List UInt8) × Int × Int × Int} {rho_ : (List UInt8)} (h : whileE (impl_PackCurve_l1 t16 t17) sgm_ = some rho_) : ∃ L0, ∀ L, L0 ≤ L → iter (exec (look t_impl_PackCurve) L ir18_b0) ir18_k0 ir18_o0 ir18_r0 L (E_impl_PackCurve_l1 t16 t17 sgm_) = R_impl_PackCurve_l1 t16 t17 rho_ := by
  refine loop_ex (E := E_impl_PackCurve_l1 t16 t17) (R := R_impl_PackCurve_l1 t16 t17) (fun y => by first | (intro c; cases c) | (rcases y with y | y <;> (intro c; cases c)) | (rcases y with y | y | y <;> (intro c; cases c))) ?_ h
  clear h
  rintro ⟨b, time, mag, t18⟩ o_ h
  dsimp only [impl_PackCurve_l1] at h
  rcases it_some h with ⟨hk5, h⟩ | ⟨hk5, h⟩
  · try simp only [go_sem, n1, n2, n3, n4] at hk5
    all_goals
    obtain ⟨hk6, h⟩ := ck_some h
    have lhk6 := ix_lt hk6
    have xhk6 := getD_mapD Point_av t16 lhk6
    try simp only [go_sem] at lhk6
    try simp only [go_sem] at xhk6
    try simp only [go_sem, n1, n2, n3, n4, hk5] at hk6
    all_goals
    obtain ⟨y_7, hk7, h⟩ := bd_some h
    have fhk7 := Fs_impl_appendNumber hk7
    try simp only [go_sem] at fhk7
    obtain ⟨y_8, hk8, h⟩ := bd_some h
    have fhk8 := Fs_impl_fold hk8
    try simp only [go_sem] at fhk8
    obtain ⟨y_9, hk9, h⟩ := bd_some h
    have fhk9 := Fs_impl_appendNumber hk9
    try simp only [go_sem] at fhk9
    obtain rfl := so_some h
    refine ⟨0, fun L hL => ?_⟩
    simp only [go_sem, ir18, E_impl_PackCurve_l1, R_impl_PackCurve_l1, ir18_b0, ir18_k0, ir18_o0, ir18_r0, hk5, hk6, lhk6, xhk6, fhk7, fhk8, fhk9]
  · try simp only [go_sem, n1, n2, n3, n4] at hk5
    all_goals
    obtain rfl := so_some h
    refine ⟨0, fun L hL => ?_⟩
    simp only [go_sem, ir18, E_impl_PackCurve_l1, R_impl_PackCurve_l1, ir18_b0, ir18_k0, ir18_o0, ir18_r0, hk5]

theorem Fs_impl_PackCurve {curve : List Point} {y_ : (List UInt8) × Int} (h : impl_PackCurve curve = some y_) : c_impl_PackCurve.F [.sl 2 (List.map Point_av curve)] = ⟨true, .tup [.fresh 1 (List.map byteAV y_.1), .int .i64 y_.2], [.any]⟩ := by
  refine mkF_E (by simp only [flatA, flatB, flat1, List.all_cons, List.all_nil, Bool.and_self, flatE_map (f := byteAV) (fun _ => rfl)]) ?_
  dsimp only [impl_PackCurve] at h
  obtain ⟨y_1, hk1, h⟩ := bd_some h
  have fhk1 := Fs_impl_ValidCurve hk1
  try simp only [go_sem] at fhk1
  rcases it_some h with ⟨hk2, h⟩ | ⟨hk2, h⟩
  · try simp only [go_sem, n1, n2, n3, n4] at hk2
    all_goals
    obtain rfl := so_some h
    refine ⟨0, fun L hL => ?_⟩
    simp only [go_sem, ir18, E_impl_PackCurve_l1, R_impl_PackCurve_l1, ir18_k0, ir18_o0, ir18_r0, fhk1, hk2]
  · try simp only [go_sem, n1, n2, n3, n4] at hk2
    all_goals
    obtain ⟨y_3, hk3, h⟩ := bd_some h
    have fhk3 := Fs_impl_count_impl_Point hk3
    try simp only [go_sem] at fhk3
    obtain ⟨y_4, hk4, h⟩ := bd_some h
    have fhk4 := Fs_impl_appendNumber hk4
    try simp only [go_sem] at fhk4
    obtain ⟨y_10, hk10, h⟩ := bd_some h
    obtain ⟨Lhk10, ehk10⟩ := impl_PackCurve_l1_ex hk10
    obtain ⟨y_11, hk11, h⟩ := bd_some h
    have fhk11 := Fs_impl_sealed hk11
    try simp only [go_sem] at fhk11
    obtain rfl := so_some h
    refine ⟨Lhk10, fun L hL => ?_⟩
    have ehk10 := ehk10 L (by omega)
    try simp only [go_sem, E_impl_PackCurve_l1, R_impl_PackCurve_l1, ir18_k0, ir18_o0, ir18_r0] at ehk10
    simp only [go_sem, ir18, E_impl_PackCurve_l1, R_impl_PackCurve_l1, ir18_k0, ir18_o0, ir18_r0, fhk1, hk2, fhk3, fhk4, fhk11, ehk10]


def ir10_b0 : IR := .seq (.test false [
    ⟨.push, 11, none, .mov (.v 3)⟩,
    ⟨.push, 12, none, .mov (.v 0)⟩,
    ⟨.push, 13, none, .len false (.s 0)⟩,
    ⟨.push, 14, none, .bin false .lss (.s 2) (.s 0)⟩] (.s 0)
  (.skip)
  (.exit 0))
 (.seq (.block 1 (.anyo 9 [
     ⟨.slot 0, 17, none, .mov (.v 0)⟩,
     ⟨.slot 1, 18, none, .mov (.v 3)⟩,
     ⟨.slot 2, 19, none, .ixAddr 1 (.s 0) (.s 1)⟩,
     ⟨.slot 3, 20, none, .load false 1 (.s 2)⟩,
     ⟨.slot 4, 21, none, .mov (.v 1)⟩,
     ⟨.slot 5, 22, none, .mov (.v 3)⟩,
     ⟨.slot 6, 23, none, .ixAddr 1 (.s 4) (.s 5)⟩,
     ⟨.slot 7, 24, none, .load false 1 (.s 6)⟩,
     ⟨.slot 8, 25, none, .bin false .neq (.s 3) (.s 7)⟩] [] (.cond (.s 8)
   (.seq (.region false [
       ⟨.var 2, 4, none, .mov (.c (.bool false))⟩])
    (.ret))
   (.skip))))
 (.region false [
   ⟨.push, 15, none, .mov (.v 3)⟩,
   ⟨.push, 16, none, .bin false .add (.s 0) (.c (.int .i64 (1)))⟩,
   ⟨.var 3, 5, none, .mov (.s 0)⟩]))
def ir10_k0 : List Bool := [true, true, false, true]
def ir10_o0 : List Bool := [false, false, false, false]
def ir10_r0 : List Bool := [false, false, true, false]
def ir10_v : List Nat := [0, 1, 4, 5]
def ir10 : AFn := ⟨2, 4, .seq (.region false [
    ⟨.var 2, 4, none, .mov (.c (.bool false))⟩])
 (.seq (.test false [
    ⟨.push, 6, none, .mov (.v 0)⟩,
    ⟨.push, 7, none, .len false (.s 0)⟩,
    ⟨.push, 8, none, .mov (.v 1)⟩,
    ⟨.push, 9, none, .len false (.s 0)⟩,
    ⟨.push, 10, none, .bin false .neq (.s 2) (.s 0)⟩] (.s 0)
  (.seq (.region false [
      ⟨.var 2, 4, none, .mov (.c (.bool false))⟩])
   (.ret))
  (.skip))
 (.seq (.seq (.region false [
     ⟨.var 3, 5, none, .mov (.c (.int .i64 (0)))⟩])
  (.block 0 (.loop ir10_k0 ir10_o0 ir10_r0 ir10_b0)))
 (.seq (.region false [
    ⟨.var 2, 4, none, .mov (.c (.bool true))⟩])
 (.ret)))), [.t 2]⟩
noncomputable def t_laws_eqByteS : List (Nat × Ctr) := []
noncomputable def c_laws_eqByteS : Ctr := mkF t_laws_eqByteS ir10 [.bor, .bor]
theorem s_laws_eqByteS : Sound Try.prog 10 c_laws_eqByteS := mkF_sound _ rfl snd_nil (by kernel_rfl : chkFn Try.prog 10 ir10 ir10_v = true)
theorem M_laws_eqByteS : c_laws_eqByteS.modes = [.bor, .bor] := rfl
theorem Fl_laws_eqByteS : c_laws_eqByteS.flat = true := rfl
attribute [go_sem] M_laws_eqByteS Fl_laws_eqByteS
def E_laws_eqByteS_l1 (a : List UInt8) (b : List UInt8) : Int → St
  | i => ⟨[.sl 1 (List.map byteAV a), .sl 1 (List.map byteAV b), .any, .int .i64 i], [], [], true⟩
def R_laws_eqByteS_l1 (a : List UInt8) (b : List UInt8) : (Unit ⊕ Bool) → Res
  | .inl y => (.exit 0, ⟨[.any, .any, .any, .any], [], [], true⟩)
  | .inr y => (.ret, ⟨[.any, .any, .bool y, .any], [], [], true⟩)
theorem laws_eqByteS_l1_ex {a : List UInt8} {b : List UInt8} {sgm_ : Int} {rho_ : Unit ⊕ Bool} (h : whileE (laws_eqByteS_l1 a b) sgm_ = some rho_) : ∃ L0, ∀ L, L0 ≤ L → iter (exec (look t_laws_eqByteS) L ir10_b0) ir10_k0 ir10_o0 ir10_r0 L (E_laws_eqByteS_l1 a b sgm_) = R_laws_eqByteS_l1 a b rho_ := by
  refine loop_ex (E := E_laws_eqByteS_l1 a b) (R := R_laws_eqByteS_l1 a b) (fun y => by first | (intro c; cases c) | (rcases y with y | y <;> (intro c; cases c)) | (rcases y with y | y | y <;> (intro c; cases c))) ?_ h
  clear h
  intro i o_ h
  dsimp only [laws_eqByteS_l1] at h
  rcases it_some h with ⟨hk2, h⟩ | ⟨hk2, h⟩
  · try simp only [go_sem, n1, n2, n3, n4] at hk2
    all_goals
    obtain ⟨hk3, h⟩ := ck_some h
    have lhk3 := ix_lt hk3
    have xhk3 := getD_mapD byteAV a lhk3
    try simp only [go_sem] at lhk3
    try simp only [go_sem] at xhk3
    try simp only [go_sem, n1, n2, n3, n4, hk2] at hk3
    all_goals
    obtain ⟨hk4, h⟩ := ck_some h
    have lhk4 := ix_lt hk4
    have xhk4 := getD_mapD byteAV b lhk4
    try simp only [go_sem] at lhk4
    try simp only [go_sem] at xhk4
    try simp only [go_sem, n1, n2, n3, n4, hk2, hk3] at hk4
    all_goals
    rcases it_some h with ⟨hk5, h⟩ | ⟨hk5, h⟩
    · try simp only [go_sem, n1, n2, n3, n4, hk2, hk3, hk4] at hk5
      all_goals
      obtain rfl := so_some h
      refine ⟨0, fun L hL => ?_⟩
      simp only [go_sem, ir10, E_laws_eqByteS_l1, R_laws_eqByteS_l1, ir10_b0, ir10_k0, ir10_o0, ir10_r0, hk2, hk3, lhk3, xhk3, hk4, lhk4, xhk4, hk5]
    · try simp only [go_sem, n1, n2, n3, n4, hk2, hk3, hk4] at hk5
      all_goals
      obtain rfl := so_some h
      refine ⟨0, fun L hL => ?_⟩
      simp only [go_sem, ir10, E_laws_eqByteS_l1, R_laws_eqByteS_l1, ir10_b0, ir10_k0, ir10_o0, ir10_r0, hk2, hk3, lhk3, xhk3, hk4, lhk4, xhk4, hk5]
  · try simp only [go_sem, n1, n2, n3, n4] at hk2
    all_goals
    obtain rfl := so_some h
    refine ⟨0, fun L hL => ?_⟩
    simp only [go_sem, ir10, E_laws_eqByteS_l1, R_laws_eqByteS_l1, ir10_b0, ir10_k0, ir10_o0, ir10_r0, hk2]

theorem Fs_laws_eqByteS {a : List UInt8} {b : List UInt8} {y_ : Bool} (h : laws_eqByteS a b = some y_) : c_laws_eqByteS.F [.sl 1 (List.map byteAV a), .sl 1 (List.map byteAV b)] = ⟨true, .bool y_, [.any, .any]⟩ := by
  refine mkF_E rfl ?_
  dsimp only [laws_eqByteS] at h
  rcases it_some h with ⟨hk1, h⟩ | ⟨hk1, h⟩
  · try simp only [go_sem, n1, n2, n3, n4] at hk1
    all_goals
    obtain rfl := so_some h
    refine ⟨0, fun L hL => ?_⟩
    simp only [go_sem, ir10, E_laws_eqByteS_l1, R_laws_eqByteS_l1, ir10_k0, ir10_o0, ir10_r0, hk1]
  · try simp only [go_sem, n1, n2, n3, n4] at hk1
    all_goals
    obtain ⟨y_6, hk6, h⟩ := bd_some h
    obtain ⟨Lhk6, ehk6⟩ := laws_eqByteS_l1_ex hk6
    rcases y_6 with y_6a | y_6b
    · dsimp only at h
      obtain rfl := so_some h
      refine ⟨Lhk6, fun L hL => ?_⟩
      have ehk6 := ehk6 L (by omega)
      try simp only [go_sem, E_laws_eqByteS_l1, R_laws_eqByteS_l1, ir10_k0, ir10_o0, ir10_r0] at ehk6
      simp only [go_sem, ir10, E_laws_eqByteS_l1, R_laws_eqByteS_l1, ir10_k0, ir10_o0, ir10_r0, hk1, ehk6]
    · dsimp only at h
      obtain rfl := so_some h
      refine ⟨Lhk6, fun L hL => ?_⟩
      have ehk6 := ehk6 L (by omega)
      try simp only [go_sem, E_laws_eqByteS_l1, R_laws_eqByteS_l1, ir10_k0, ir10_o0, ir10_r0] at ehk6
      simp only [go_sem, ir10, E_laws_eqByteS_l1, R_laws_eqByteS_l1, ir10_k0, ir10_o0, ir10_r0, hk1, ehk6]


def ir39_v : List Nat := [0, 1, 2, 3, 4]
def ir39 : AFn := ⟨2, 5, .seq (.region false [
    ⟨.var 2, 2, none, .box (.v 0)⟩,
    ⟨.var 3, 3, none, .box (.v 1)⟩,
    ⟨.var 4, 4, none, .mov (.c (.bool false))⟩])
 (.seq (.test false [
    ⟨.push, 5, none, .fldAddr 0 (.v 2)⟩,
    ⟨.push, 6, none, .load false 1 (.s 0)⟩,
    ⟨.push, 7, none, .fldAddr 0 (.v 3)⟩,
    ⟨.push, 8, none, .load false 1 (.s 0)⟩,
    ⟨.push, 9, none, .bin false .neq (.s 2) (.s 0)⟩] (.s 0)
  (.seq (.region false [
      ⟨.var 4, 4, none, .mov (.c (.bool false))⟩])
   (.ret))
  (.skip))
 (.seq (.test false [
    ⟨.push, 10, none, .fldAddr 1 (.v 2)⟩,
    ⟨.push, 11, none, .load false 1 (.s 0)⟩,
    ⟨.push, 12, none, .fldAddr 1 (.v 3)⟩,
    ⟨.push, 13, none, .load false 1 (.s 0)⟩,
    ⟨.push, 14, none, .bin false .neq (.s 2) (.s 0)⟩] (.s 0)
  (.seq (.region false [
      ⟨.var 4, 4, none, .mov (.c (.bool false))⟩])
   (.ret))
  (.skip))
 (.seq (.region false [
    ⟨.var 4, 4, none, .mov (.c (.bool true))⟩])
 (.ret)))), [.t 4]⟩
noncomputable def t_laws_eqPoint : List (Nat × Ctr) := []
noncomputable def c_laws_eqPoint : Ctr := mkF t_laws_eqPoint ir39 [.bor, .bor]
theorem s_laws_eqPoint : Sound Try.prog 39 c_laws_eqPoint := mkF_sound _ rfl snd_nil (by kernel_rfl : chkFn Try.prog 39 ir39 ir39_v = true)
theorem M_laws_eqPoint : c_laws_eqPoint.modes = [.bor, .bor] := rfl
theorem Fl_laws_eqPoint : c_laws_eqPoint.flat = true := rfl
attribute [go_sem] M_laws_eqPoint Fl_laws_eqPoint
theorem Fs_laws_eqPoint {a : Point} {b : Point} {y_ : Bool} (h : laws_eqPoint a b = some y_) : c_laws_eqPoint.F [Point_av a, Point_av b] = ⟨true, .bool y_, [.any, .any]⟩ := by
  refine mkF_E rfl ?_
  dsimp only [laws_eqPoint] at h
  rcases it_some h with ⟨hk1, h⟩ | ⟨hk1, h⟩
  · try simp only [go_sem, n1, n2, n3, n4] at hk1
    all_goals
    obtain rfl := so_some h
    refine ⟨0, fun L hL => ?_⟩
    simp only [go_sem, ir39, hk1]
  · try simp only [go_sem, n1, n2, n3, n4] at hk1
    all_goals
    rcases it_some h with ⟨hk2, h⟩ | ⟨hk2, h⟩
    · try simp only [go_sem, n1, n2, n3, n4, hk1] at hk2
      all_goals
      obtain rfl := so_some h
      refine ⟨0, fun L hL => ?_⟩
      simp only [go_sem, ir39, hk1, hk2]
    · try simp only [go_sem, n1, n2, n3, n4, hk1] at hk2
      all_goals
      obtain rfl := so_some h
      refine ⟨0, fun L hL => ?_⟩
      simp only [go_sem, ir39, hk1, hk2]


def ir19_b0 : IR := .seq (.test false [
    ⟨.push, 11, none, .mov (.v 3)⟩,
    ⟨.push, 12, none, .mov (.v 0)⟩,
    ⟨.push, 13, none, .len false (.s 0)⟩,
    ⟨.push, 14, none, .bin false .lss (.s 2) (.s 0)⟩] (.s 0)
  (.skip)
  (.exit 0))
 (.seq (.block 1 (.anyo 10 [
     ⟨.slot 0, 17, none, .mov (.v 0)⟩,
     ⟨.slot 1, 18, none, .mov (.v 3)⟩,
     ⟨.slot 2, 19, none, .ixAddr 2 (.s 0) (.s 1)⟩,
     ⟨.slot 3, 20, none, .load true 2 (.s 2)⟩,
     ⟨.slot 4, 21, none, .mov (.v 1)⟩,
     ⟨.slot 5, 22, none, .mov (.v 3)⟩,
     ⟨.slot 6, 23, none, .ixAddr 2 (.s 4) (.s 5)⟩,
     ⟨.slot 7, 24, none, .load true 2 (.s 6)⟩,
     ⟨.slot 8, 25, none, .callp 39 [(.s 3), (.s 7)]⟩,
     ⟨.slot 9, 26, none, .un .not (.s 8)⟩] [] (.cond (.s 9)
   (.seq (.region false [
       ⟨.var 2, 4, none, .mov (.c (.bool false))⟩])
    (.ret))
   (.skip))))
 (.region false [
   ⟨.push, 15, none, .mov (.v 3)⟩,
   ⟨.push, 16, none, .bin false .add (.s 0) (.c (.int .i64 (1)))⟩,
   ⟨.var 3, 5, none, .mov (.s 0)⟩]))
def ir19_k0 : List Bool := [true, true, false, true]
def ir19_o0 : List Bool := [false, false, false, false]
def ir19_r0 : List Bool := [false, false, true, false]
def ir19_v : List Nat := [0, 1, 4, 5]
def ir19 : AFn := ⟨2, 4, .seq (.region false [
    ⟨.var 2, 4, none, .mov (.c (.bool false))⟩])
 (.seq (.test false [
    ⟨.push, 6, none, .mov (.v 0)⟩,
    ⟨.push, 7, none, .len false (.s 0)⟩,
    ⟨.push, 8, none, .mov (.v 1)⟩,
    ⟨.push, 9, none, .len false (.s 0)⟩,
    ⟨.push, 10, none, .bin false .neq (.s 2) (.s 0)⟩] (.s 0)
  (.seq (.region false [
      ⟨.var 2, 4, none, .mov (.c (.bool false))⟩])
   (.ret))
  (.skip))
 (.seq (.seq (.region false [
     ⟨.var 3, 5, none, .mov (.c (.int .i64 (0)))⟩])
  (.block 0 (.loop ir19_k0 ir19_o0 ir19_r0 ir19_b0)))
 (.seq (.region false [
    ⟨.var 2, 4, none, .mov (.c (.bool true))⟩])
 (.ret)))), [.t 2]⟩
noncomputable def t_laws_eqPointS : List (Nat × Ctr) := [(39, c_laws_eqPoint)]
theorem lk_laws_eqPointS_39 : look t_laws_eqPointS 39 = some c_laws_eqPoint := rfl
noncomputable def c_laws_eqPointS : Ctr := mkF t_laws_eqPointS ir19 [.bor, .bor]
theorem s_laws_eqPointS : Sound Try.prog 19 c_laws_eqPointS := mkF_sound _ rfl (snd_cons s_laws_eqPoint snd_nil) (by kernel_rfl : chkFn Try.prog 19 ir19 ir19_v = true)
theorem M_laws_eqPointS : c_laws_eqPointS.modes = [.bor, .bor] := rfl
theorem Fl_laws_eqPointS : c_laws_eqPointS.flat = true := rfl
attribute [go_sem] M_laws_eqPointS Fl_laws_eqPointS
attribute [go_sem] lk_laws_eqPointS_39
def E_laws_eqPointS_l1 (a : List Point) (b : List Point) : Int → St
  | i => ⟨[.sl 2 (List.map Point_av a), .sl 2 (List.map Point_av b), .any, .int .i64 i], [], [], true⟩
def R_laws_eqPointS_l1 (a : List Point) (b : List Point) : (Unit ⊕ Bool) → Res
  | .inl y => (.exit 0, ⟨[.any, .any, .any, .any], [], [], true⟩)
  | .inr y => (.ret, ⟨[.any, .any, .bool y, .any], [], [], true⟩)
theorem laws_eqPointS_l1_ex {a : List Point} {b : List Point} {sgm_ : Int} {rho_ : Unit ⊕ Bool} (h : whileE (laws_eqPointS_l1 a b) sgm_ = some rho_) : ∃ L0, ∀ L, L0 ≤ L → iter (exec (look t_laws_eqPointS) L ir19_b0) ir19_k0 ir19_o0 ir19_r0 L (E_laws_eqPointS_l1 a b sgm_) = R_laws_eqPointS_l1 a b rho_ := by
  refine loop_ex (E := E_laws_eqPointS_l1 a b) (R := R_laws_eqPointS_l1 a b) (fun y => by first | (intro c; cases c) | (rcases y with y | y <;> (intro c; cases c)) | (rcases y with y | y | y <;> (intro c; cases c))) ?_ h
  clear h
  intro i o_ h
  dsimp only [laws_eqPointS_l1] at h
  rcases it_some h with ⟨hk2, h⟩ | ⟨hk2, h⟩
  · try simp only [go_sem, n1, n2, n3, n4] at hk2
    all_goals
    obtain ⟨hk3, h⟩ := ck_some h
    have lhk3 := ix_lt hk3
    have xhk3 := getD_mapD Point_av a lhk3
    try simp only [go_sem] at lhk3
    try simp only [go_sem] at xhk3
    try simp only [go_sem, n1, n2, n3, n4, hk2] at hk3
    all_goals
    obtain ⟨hk4, h⟩ := ck_some h
    have lhk4 := ix_lt hk4
    have xhk4 := getD_mapD Point_av b lhk4
    try simp only [go_sem] at lhk4
    try simp only [go_sem] at xhk4
    try simp only [go_sem, n1, n2, n3, n4, hk2, hk3] at hk4
    all_goals
    obtain ⟨y_5, hk5, h⟩ := bd_some h
    have fhk5 := Fs_laws_eqPoint hk5
    try simp only [go_sem] at fhk5
    rcases it_some h with ⟨hk6, h⟩ | ⟨hk6, h⟩
    · try simp only [go_sem, n1, n2, n3, n4, hk2, hk3, hk4] at hk6
      all_goals
      obtain rfl := so_some h
      refine ⟨0, fun L hL => ?_⟩
      simp only [go_sem, ir19, E_laws_eqPointS_l1, R_laws_eqPointS_l1, ir19_b0, ir19_k0, ir19_o0, ir19_r0, hk2, hk3, lhk3, xhk3, hk4, lhk4, xhk4, fhk5, hk6]
    · try simp only [go_sem, n1, n2, n3, n4, hk2, hk3, hk4] at hk6
      all_goals
      obtain rfl := so_some h
      refine ⟨0, fun L hL => ?_⟩
      simp only [go_sem, ir19, E_laws_eqPointS_l1, R_laws_eqPointS_l1, ir19_b0, ir19_k0, ir19_o0, ir19_r0, hk2, hk3, lhk3, xhk3, hk4, lhk4, xhk4, fhk5, hk6]
  · try simp only [go_sem, n1, n2, n3, n4] at hk2
    all_goals
    obtain rfl := so_some h
    refine ⟨0, fun L hL => ?_⟩
    simp only [go_sem, ir19, E_laws_eqPointS_l1, R_laws_eqPointS_l1, ir19_b0, ir19_k0, ir19_o0, ir19_r0, hk2]

theorem Fs_laws_eqPointS {a : List Point} {b : List Point} {y_ : Bool} (h : laws_eqPointS a b = some y_) : c_laws_eqPointS.F [.sl 2 (List.map Point_av a), .sl 2 (List.map Point_av b)] = ⟨true, .bool y_, [.any, .any]⟩ := by
  refine mkF_E rfl ?_
  dsimp only [laws_eqPointS] at h
  rcases it_some h with ⟨hk1, h⟩ | ⟨hk1, h⟩
  · try simp only [go_sem, n1, n2, n3, n4] at hk1
    all_goals
    obtain rfl := so_some h
    refine ⟨0, fun L hL => ?_⟩
    simp only [go_sem, ir19, E_laws_eqPointS_l1, R_laws_eqPointS_l1, ir19_k0, ir19_o0, ir19_r0, hk1]
  · try simp only [go_sem, n1, n2, n3, n4] at hk1
    all_goals
    obtain ⟨y_7, hk7, h⟩ := bd_some h
    obtain ⟨Lhk7, ehk7⟩ := laws_eqPointS_l1_ex hk7
    rcases y_7 with y_7a | y_7b
    · dsimp only at h
      obtain rfl := so_some h
      refine ⟨Lhk7, fun L hL => ?_⟩
      have ehk7 := ehk7 L (by omega)
      try simp only [go_sem, E_laws_eqPointS_l1, R_laws_eqPointS_l1, ir19_k0, ir19_o0, ir19_r0] at ehk7
      simp only [go_sem, ir19, E_laws_eqPointS_l1, R_laws_eqPointS_l1, ir19_k0, ir19_o0, ir19_r0, hk1, ehk7]
    · dsimp only at h
      obtain rfl := so_some h
      refine ⟨Lhk7, fun L hL => ?_⟩
      have ehk7 := ehk7 L (by omega)
      try simp only [go_sem, E_laws_eqPointS_l1, R_laws_eqPointS_l1, ir19_k0, ir19_o0, ir19_r0] at ehk7
      simp only [go_sem, ir19, E_laws_eqPointS_l1, R_laws_eqPointS_l1, ir19_k0, ir19_o0, ir19_r0, hk1, ehk7]


def ir20_b0 : IR := .seq (.test false [
    ⟨.push, 6, none, .mov (.v 3)⟩,
    ⟨.push, 7, none, .mov (.v 0)⟩,
    ⟨.push, 8, none, .len false (.s 0)⟩,
    ⟨.push, 9, none, .bin false .lss (.s 2) (.s 0)⟩] (.s 0)
  (.skip)
  (.exit 0))
 (.seq (.block 1 (.seq (.region false [
      ⟨.push, 12, none, .mov (.v 0)⟩,
      ⟨.push, 13, none, .mov (.v 3)⟩,
      ⟨.push, 14, none, .mov (.v 1)⟩,
      ⟨.push, 15, none, .ixAddr 2 (.s 2) (.s 1)⟩,
      ⟨.push, 16, none, .fldAddr 0 (.s 0)⟩,
      ⟨.no, 0, none, .store 1 (.s 0) (.s 2)⟩])
   (.seq (.region false [
      ⟨.push, 17, none, .mov (.v 1)⟩,
      ⟨.push, 18, none, .bin false .add (.s 0) (.c (.int .i64 (1)))⟩,
      ⟨.var 1, 1, none, .mov (.s 0)⟩])
   (.seq (.region false [
      ⟨.push, 19, none, .mov (.v 0)⟩,
      ⟨.push, 20, none, .mov (.v 3)⟩,
      ⟨.push, 21, none, .mov (.v 1)⟩,
      ⟨.push, 22, none, .ixAddr 2 (.s 2) (.s 1)⟩,
      ⟨.push, 23, none, .fldAddr 1 (.s 0)⟩,
      ⟨.no, 0, none, .store 1 (.s 0) (.s 2)⟩])
   (.region false [
     ⟨.push, 24, none, .mov (.v 1)⟩,
     ⟨.push, 25, none, .bin false .add (.s 0) (.c (.int .i64 (1)))⟩,
     ⟨.var 1, 1, none, .mov (.s 0)⟩])))))
 (.region false [
   ⟨.push, 10, none, .mov (.v 3)⟩,
   ⟨.push, 11, none, .bin false .add (.s 0) (.c (.int .i64 (1)))⟩,
   ⟨.var 3, 5, none, .mov (.s 0)⟩]))
def ir20_k0 : List Bool := [true, true, false, true]
def ir20_o0 : List Bool := [true, true, false, false]
def ir20_r0 : List Bool := [true, false, true, false]
def ir20_v : List Nat := [0, 1, 4, 5]
def ir20 : AFn := ⟨2, 4, .seq (.region false [
    ⟨.var 2, 4, none, .mov (.c (.int .i64 (0)))⟩])
 (.seq (.seq (.region false [
     ⟨.var 3, 5, none, .mov (.c (.int .i64 (0)))⟩])
  (.block 0 (.loop ir20_k0 ir20_o0 ir20_r0 ir20_b0)))
 (.seq (.region false [
    ⟨.push, 26, none, .mov (.v 1)⟩,
    ⟨.var 2, 4, none, .mov (.s 0)⟩])
 (.ret))), [.t 2]⟩
noncomputable def t_laws_markPointS : List (Nat × Ctr) := []
noncomputable def c_laws_markPointS : Ctr := mkN t_laws_markPointS ir20 [.io, .bor]
theorem s_laws_markPointS : Sound Try.prog 20 c_laws_markPointS := mkN_sound _ snd_nil (by kernel_rfl : chkFn Try.prog 20 ir20 ir20_v = true)
theorem M_laws_markPointS : c_laws_markPointS.modes = [.io, .bor] := rfl
theorem Fl_laws_markPointS : c_laws_markPointS.flat = false := rfl
attribute [go_sem] M_laws_markPointS Fl_laws_markPointS
def E_laws_markPointS_l1  : ((List Point) × Int × Int) → St
  | (a, k, i) => ⟨[.own 31, .int .i64 k, .any, .int .i64 i], [], [(31, ⟨2, List.map Point_av a⟩)], true⟩
def R_laws_markPointS_l1  (y : (List Point) × Int) : Res := (.exit 0, ⟨[.own 31, .int .i64 y.2, .any, .any], [], [(31, ⟨2, List.map Point_av y.1⟩)], true⟩)
theorem laws_markPointS_l1_ex  {sgm_ : (List Point) × Int × Int} {rho_ : (List Point) × Int} (h : whileE (laws_markPointS_l1) sgm_ = some rho_) : ∃ L0, ∀ L, L0 ≤ L → iter (exec (look t_laws_markPointS) L ir20_b0) ir20_k0 ir20_o0 ir20_r0 L (E_laws_markPointS_l1 sgm_) = R_laws_markPointS_l1 rho_ := by
  refine loop_ex (E := E_laws_markPointS_l1) (R := R_laws_markPointS_l1) (fun y => by first | (intro c; cases c) | (rcases y with y | y <;> (intro c; cases c)) | (rcases y with y | y | y <;> (intro c; cases c))) ?_ h
  clear h
  rintro ⟨a, k, i⟩ o_ h
  dsimp only [laws_markPointS_l1] at h
  rcases it_some h with ⟨hk1, h⟩ | ⟨hk1, h⟩
  · try simp only [go_sem, n1, n2, n3, n4] at hk1
    all_goals
    obtain ⟨hk2, h⟩ := ck_some h
    have lhk2 := ix_lt hk2
    have xhk2 := getD_mapD Point_av a lhk2
    try simp only [go_sem] at lhk2
    try simp only [go_sem] at xhk2
    try simp only [go_sem, n1, n2, n3, n4, hk1] at hk2
    all_goals
    obtain rfl := so_some h
    refine ⟨0, fun L hL => ?_⟩
    simp only [go_sem, ir20, E_laws_markPointS_l1, R_laws_markPointS_l1, ir20_b0, ir20_k0, ir20_o0, ir20_r0, hk1, hk2, lhk2, xhk2]
  · try simp only [go_sem, n1, n2, n3, n4] at hk1
    all_goals
    obtain rfl := so_some h
    refine ⟨0, fun L hL => ?_⟩
    simp only [go_sem, ir20, E_laws_markPointS_l1, R_laws_markPointS_l1, ir20_b0, ir20_k0, ir20_o0, ir20_r0, hk1]

theorem Fs_laws_markPointS {a : List Point} {k : Int} {y_ : Int × (List Point)} (h : laws_markPointS a k = some y_) : c_laws_markPointS.F [.fresh 2 (List.map Point_av a), .int .i64 k] = ⟨true, .int .i64 y_.1, [.fresh 2 (List.map Point_av y_.2), .any]⟩ := by
  refine mkN_E ?_
  dsimp only [laws_markPointS] at h
  obtain ⟨y_3, hk3, h⟩ := bd_some h
  obtain ⟨Lhk3, ehk3⟩ := laws_markPointS_l1_ex hk3
  obtain ⟨hk4, h⟩ := ck_some h
  try simp only [go_sem, n1, n2, n3, n4] at hk4
  all_goals
  obtain rfl := so_some h
  refine ⟨Lhk3, fun L hL => ?_⟩
  have ehk3 := ehk3 L (by omega)
  try simp only [go_sem, E_laws_markPointS_l1, R_laws_markPointS_l1, ir20_k0, ir20_o0, ir20_r0] at ehk3
  simp only [go_sem, ir20, E_laws_markPointS_l1, R_laws_markPointS_l1, ir20_k0, ir20_o0, ir20_r0, hk4, ehk3]


def ir13_b0 : IR := .seq (.test false [
    ⟨.push, 6, none, .mov (.v 3)⟩,
    ⟨.push, 7, none, .mov (.v 0)⟩,
    ⟨.push, 8, none, .len false (.s 0)⟩,
    ⟨.push, 9, none, .bin false .lss (.s 2) (.s 0)⟩] (.s 0)
  (.skip)
  (.exit 0))
 (.seq (.block 1 (.seq (.region false [
      ⟨.push, 12, none, .mov (.v 0)⟩,
      ⟨.push, 13, none, .mov (.v 3)⟩,
      ⟨.push, 14, none, .mov (.v 1)⟩,
      ⟨.push, 15, none, .conv .u8 (.s 0)⟩,
      ⟨.push, 16, none, .ixAddr 1 (.s 3) (.s 2)⟩,
      ⟨.no, 0, none, .store 1 (.s 0) (.s 1)⟩])
   (.region false [
     ⟨.push, 17, none, .mov (.v 1)⟩,
     ⟨.push, 18, none, .bin false .add (.s 0) (.c (.int .i64 (1)))⟩,
     ⟨.var 1, 1, none, .mov (.s 0)⟩])))
 (.region false [
   ⟨.push, 10, none, .mov (.v 3)⟩,
   ⟨.push, 11, none, .bin false .add (.s 0) (.c (.int .i64 (1)))⟩,
   ⟨.var 3, 5, none, .mov (.s 0)⟩]))
def ir13_k0 : List Bool := [true, true, false, true]
def ir13_o0 : List Bool := [true, true, false, false]
def ir13_r0 : List Bool := [true, false, true, false]
def ir13_v : List Nat := [0, 1, 4, 5]
def ir13 : AFn := ⟨2, 4, .seq (.region false [
    ⟨.var 2, 4, none, .mov (.c (.int .i64 (0)))⟩])
 (.seq (.seq (.region false [
     ⟨.var 3, 5, none, .mov (.c (.int .i64 (0)))⟩])
  (.block 0 (.loop ir13_k0 ir13_o0 ir13_r0 ir13_b0)))
 (.seq (.region false [
    ⟨.push, 19, none, .mov (.v 1)⟩,
    ⟨.var 2, 4, none, .mov (.s 0)⟩])
 (.ret))), [.t 2]⟩
noncomputable def t_laws_markByteS : List (Nat × Ctr) := []
noncomputable def c_laws_markByteS : Ctr := mkN t_laws_markByteS ir13 [.io, .bor]
theorem s_laws_markByteS : Sound Try.prog 13 c_laws_markByteS := mkN_sound _ snd_nil (by kernel_rfl : chkFn Try.prog 13 ir13 ir13_v = true)
theorem M_laws_markByteS : c_laws_markByteS.modes = [.io, .bor] := rfl
theorem Fl_laws_markByteS : c_laws_markByteS.flat = false := rfl
attribute [go_sem] M_laws_markByteS Fl_laws_markByteS
def E_laws_markByteS_l1  : ((List UInt8) × Int × Int) → St
  | (a, k, i) => ⟨[.own 31, .int .i64 k, .any, .int .i64 i], [], [(31, ⟨1, List.map byteAV a⟩)], true⟩
def R_laws_markByteS_l1  (y : (List UInt8) × Int) : Res := (.exit 0, ⟨[.own 31, .int .i64 y.2, .any, .any], [], [(31, ⟨1, List.map byteAV y.1⟩)], true⟩)
theorem laws_markByteS_l1_ex  {sgm_ : (List UInt8) × Int × Int} {rho_ : (List UInt8) × Int} (h : whileE (laws_markByteS_l1) sgm_ = some rho_) : ∃ L0, ∀ L, L0 ≤ L → iter (exec (look t_laws_markByteS) L ir13_b0) ir13_k0 ir13_o0 ir13_r0 L (E_laws_markByteS_l1 sgm_) = R_laws_markByteS_l1 rho_ := by
  refine loop_ex (E := E_laws_markByteS_l1) (R := R_laws_markByteS_l1) (fun y => by first | (intro c; cases c) | (rcases y with y | y <;> (intro c; cases c)) | (rcases y with y | y | y <;> (intro c; cases c))) ?_ h
  clear h
  rintro ⟨a, k, i⟩ o_ h
  dsimp only [laws_markByteS_l1] at h
  rcases it_some h with ⟨hk1, h⟩ | ⟨hk1, h⟩
  · try simp only [go_sem, n1, n2, n3, n4] at hk1
    all_goals
    obtain ⟨hk2, h⟩ := ck_some h
    have lhk2 := ix_lt hk2
    have xhk2 := getD_mapD byteAV a lhk2
    try simp only [go_sem] at lhk2
    try simp only [go_sem] at xhk2
    try simp only [go_sem, n1, n2, n3, n4, hk1] at hk2
    all_goals
    obtain rfl := so_some h
    refine ⟨0, fun L hL => ?_⟩
    simp only [go_sem, ir13, E_laws_markByteS_l1, R_laws_markByteS_l1, ir13_b0, ir13_k0, ir13_o0, ir13_r0, hk1, hk2, lhk2, xhk2]
  · try simp only [go_sem, n1, n2, n3, n4] at hk1
    all_goals
    obtain rfl := so_some h
    refine ⟨0, fun L hL => ?_⟩
    simp only [go_sem, ir13, E_laws_markByteS_l1, R_laws_markByteS_l1, ir13_b0, ir13_k0, ir13_o0, ir13_r0, hk1]

theorem Fs_laws_markByteS {a : List UInt8} {k : Int} {y_ : Int × (List UInt8)} (h : laws_markByteS a k = some y_) : c_laws_markByteS.F [.fresh 1 (List.map byteAV a), .int .i64 k] = ⟨true, .int .i64 y_.1, [.fresh 1 (List.map byteAV y_.2), .any]⟩ := by
  refine mkN_E ?_
  dsimp only [laws_markByteS] at h
  obtain ⟨y_3, hk3, h⟩ := bd_some h
  obtain ⟨Lhk3, ehk3⟩ := laws_markByteS_l1_ex hk3
  obtain ⟨hk4, h⟩ := ck_some h
  try simp only [go_sem, n1, n2, n3, n4] at hk4
  all_goals
  obtain rfl := so_some h
  refine ⟨Lhk3, fun L hL => ?_⟩
  have ehk3 := ehk3 L (by omega)
  try simp only [go_sem, E_laws_markByteS_l1, R_laws_markByteS_l1, ir13_k0, ir13_o0, ir13_r0] at ehk3
  simp only [go_sem, ir13, E_laws_markByteS_l1, R_laws_markByteS_l1, ir13_k0, ir13_o0, ir13_r0, hk4, ehk3]


def ir14_b0 : IR := .seq (.test false [
    ⟨.push, 6, none, .mov (.v 3)⟩,
    ⟨.push, 7, none, .mov (.v 0)⟩,
    ⟨.push, 8, none, .len false (.s 0)⟩,
    ⟨.push, 9, none, .bin false .lss (.s 2) (.s 0)⟩] (.s 0)
  (.skip)
  (.exit 0))
 (.seq (.block 1 (.seq (.test false [
      ⟨.push, 12, none, .mov (.v 0)⟩,
      ⟨.push, 13, none, .mov (.v 3)⟩,
      ⟨.push, 14, none, .ixAddr 1 (.s 1) (.s 0)⟩,
      ⟨.push, 15, none, .load false 1 (.s 0)⟩,
      ⟨.push, 16, none, .mov (.v 1)⟩,
      ⟨.push, 17, none, .conv .u8 (.s 0)⟩,
      ⟨.push, 18, none, .bin false .neq (.s 2) (.s 0)⟩] (.s 0)
    (.seq (.region false [
        ⟨.var 2, 4, none, .mov (.c (.int .i64 (-1)))⟩])
     (.ret))
    (.skip))
   (.region false [
     ⟨.push, 19, none, .mov (.v 1)⟩,
     ⟨.push, 20, none, .bin false .add (.s 0) (.c (.int .i64 (1)))⟩,
     ⟨.var 1, 1, none, .mov (.s 0)⟩])))
 (.region false [
   ⟨.push, 10, none, .mov (.v 3)⟩,
   ⟨.push, 11, none, .bin false .add (.s 0) (.c (.int .i64 (1)))⟩,
   ⟨.var 3, 5, none, .mov (.s 0)⟩]))
def ir14_k0 : List Bool := [true, true, false, true]
def ir14_o0 : List Bool := [false, true, false, false]
def ir14_r0 : List Bool := [false, false, true, false]
def ir14_v : List Nat := [0, 1, 4, 5]
def ir14 : AFn := ⟨2, 4, .seq (.region false [
    ⟨.var 2, 4, none, .mov (.c (.int .i64 (0)))⟩])
 (.seq (.seq (.region false [
     ⟨.var 3, 5, none, .mov (.c (.int .i64 (0)))⟩])
  (.block 0 (.loop ir14_k0 ir14_o0 ir14_r0 ir14_b0)))
 (.seq (.region false [
    ⟨.push, 21, none, .mov (.v 1)⟩,
    ⟨.var 2, 4, none, .mov (.s 0)⟩])
 (.ret))), [.t 2]⟩
noncomputable def t_laws_heldByteS : List (Nat × Ctr) := []
noncomputable def c_laws_heldByteS : Ctr := mkF t_laws_heldByteS ir14 [.bor, .bor]
theorem s_laws_heldByteS : Sound Try.prog 14 c_laws_heldByteS := mkF_sound _ rfl snd_nil (by kernel_rfl : chkFn Try.prog 14 ir14 ir14_v = true)
theorem M_laws_heldByteS : c_laws_heldByteS.modes = [.bor, .bor] := rfl
theorem Fl_laws_heldByteS : c_laws_heldByteS.flat = true := rfl
attribute [go_sem] M_laws_heldByteS Fl_laws_heldByteS
def E_laws_heldByteS_l1 (a : List UInt8) : (Int × Int) → St
  | (k, i) => ⟨[.sl 1 (List.map byteAV a), .int .i64 k, .any, .int .i64 i], [], [], true⟩
def R_laws_heldByteS_l1 (a : List UInt8) : (Int ⊕ Int) → Res
  | .inl y => (.exit 0, ⟨[.any, .int .i64 y, .any, .any], [], [], true⟩)
  | .inr y => (.ret, ⟨[.any, .any, .int .i64 y, .any], [], [], true⟩)
theorem laws_heldByteS_l1_ex {a : List UInt8} {sgm_ : Int × Int} {rho_ : Int ⊕ Int} (h : whileE (laws_heldByteS_l1 a) sgm_ = some rho_) : ∃ L0, ∀ L, L0 ≤ L → iter (exec (look t_laws_heldByteS) L ir14_b0) ir14_k0 ir14_o0 ir14_r0 L (E_laws_heldByteS_l1 a sgm_) = R_laws_heldByteS_l1 a rho_ := by
  refine loop_ex (E := E_laws_heldByteS_l1 a) (R := R_laws_heldByteS_l1 a) (fun y => by first | (intro c; cases c) | (rcases y with y | y <;> (intro c; cases c)) | (rcases y with y | y | y <;> (intro c; cases c))) ?_ h
  clear h
  rintro ⟨k, i⟩ o_ h
  dsimp only [laws_heldByteS_l1] at h
  rcases it_some h with ⟨hk1, h⟩ | ⟨hk1, h⟩
  · try simp only [go_sem, n1, n2, n3, n4] at hk1
    all_goals
    obtain ⟨hk2, h⟩ := ck_some h
    have lhk2 := ix_lt hk2
    have xhk2 := getD_mapD byteAV a lhk2
    try simp only [go_sem] at lhk2
    try simp only [go_sem] at xhk2
    try simp only [go_sem, n1, n2, n3, n4, hk1] at hk2
    all_goals
    rcases it_some h with ⟨hk3, h⟩ | ⟨hk3, h⟩
    · try simp only [go_sem, n1, n2, n3, n4, hk1, hk2] at hk3
      all_goals
      obtain rfl := so_some h
      refine ⟨0, fun L hL => ?_⟩
      simp only [go_sem, ir14, E_laws_heldByteS_l1, R_laws_heldByteS_l1, ir14_b0, ir14_k0, ir14_o0, ir14_r0, hk1, hk2, lhk2, xhk2, hk3]
    · try simp only [go_sem, n1, n2, n3, n4, hk1, hk2] at hk3
      all_goals
      obtain rfl := so_some h
      refine ⟨0, fun L hL => ?_⟩
      simp only [go_sem, ir14, E_laws_heldByteS_l1, R_laws_heldByteS_l1, ir14_b0, ir14_k0, ir14_o0, ir14_r0, hk1, hk2, lhk2, xhk2, hk3]
  · try simp only [go_sem, n1, n2, n3, n4] at hk1
    all_goals
    obtain rfl := so_some h
    refine ⟨0, fun L hL => ?_⟩
    simp only [go_sem, ir14, E_laws_heldByteS_l1, R_laws_heldByteS_l1, ir14_b0, ir14_k0, ir14_o0, ir14_r0, hk1]

theorem Fs_laws_heldByteS {a : List UInt8} {k : Int} {y_ : Int} (h : laws_heldByteS a k = some y_) : c_laws_heldByteS.F [.sl 1 (List.map byteAV a), .int .i64 k] = ⟨true, .int .i64 y_, [.any, .any]⟩ := by
  refine mkF_E rfl ?_
  dsimp only [laws_heldByteS] at h
  obtain ⟨y_4, hk4, h⟩ := bd_some h
  obtain ⟨Lhk4, ehk4⟩ := laws_heldByteS_l1_ex hk4
  rcases y_4 with y_4a | y_4b
  · dsimp only at h
    obtain rfl := so_some h
    refine ⟨Lhk4, fun L hL => ?_⟩
    have ehk4 := ehk4 L (by omega)
    try simp only [go_sem, E_laws_heldByteS_l1, R_laws_heldByteS_l1, ir14_k0, ir14_o0, ir14_r0] at ehk4
    simp only [go_sem, ir14, E_laws_heldByteS_l1, R_laws_heldByteS_l1, ir14_k0, ir14_o0, ir14_r0, ehk4]
  · dsimp only at h
    obtain rfl := so_some h
    refine ⟨Lhk4, fun L hL => ?_⟩
    have ehk4 := ehk4 L (by omega)
    try simp only [go_sem, E_laws_heldByteS_l1, R_laws_heldByteS_l1, ir14_k0, ir14_o0, ir14_r0] at ehk4
    simp only [go_sem, ir14, E_laws_heldByteS_l1, R_laws_heldByteS_l1, ir14_k0, ir14_o0, ir14_r0, ehk4]


def ir5_v : List Nat := [0, 2, 3, 4, 5, 6, 7, 8, 9, 10, 11, 12, 13]
def ir5 : AFn := ⟨1, 13, .seq (.region false [
    ⟨.var 1, 2, none, .mov (.c (.bool false))⟩])
 (.seq (.region false [
    ⟨.var 2, 3, none, .mov (.c (.int .i64 (1048576)))⟩])
 (.seq (.region false [
    ⟨.push, 14, none, .mov (.v 0)⟩,
    ⟨.push, 15, none, .mov (.v 2)⟩,
    ⟨.push, 16, none, .call 15 [(.s 1), (.s 0)]⟩,
    ⟨.var 2, 3, none, .mov (.s 0)⟩])
 (.seq (.test false [
    ⟨.push, 17, none, .mov (.v 2)⟩,
    ⟨.push, 18, none, .bin false .lss (.s 0) (.c (.int .i64 (0)))⟩] (.s 0)
  (.seq (.region false [
      ⟨.var 1, 2, none, .mov (.c (.bool true))⟩])
   (.ret))
  (.skip))
 (.seq (.region false [
    ⟨.push, 20, none, .mov (.v 0)⟩,
    ⟨.push, 21, none, .call 17 [(.s 0)]⟩,
    ⟨.push, 22, none, .call 16 [(.s 0)]⟩,
    ⟨.push, 19, none, .mov (.s 0)⟩,
    ⟨.push, 23, none, .ext (.s 0) 0⟩,
    ⟨.push, 24, none, .ext (.s 1) 1⟩,
    ⟨.var 3, 4, none, .mov (.s 1)⟩,
    ⟨.var 4, 5, none, .mov (.s 0)⟩])
 (.seq (.region false [
    ⟨.push, 25, none, .mov (.v 0)⟩,
    ⟨.push, 26, none, .call 17 [(.s 0)]⟩,
    ⟨.var 5, 6, none, .mov (.s 0)⟩])
 (.seq (.region false [
    ⟨.push, 28, none, .mov (.v 5)⟩,
    ⟨.push, 29, none, .call 18 [(.s 0)]⟩,
    ⟨.push, 27, none, .mov (.s 0)⟩,
    ⟨.push, 30, none, .ext (.s 0) 0⟩,
    ⟨.push, 31, none, .ext (.s 1) 1⟩,
    ⟨.var 6, 7, none, .mov (.s 1)⟩,
    ⟨.var 7, 8, none, .mov (.s 0)⟩])
 (.seq (.test false [
    ⟨.push, 32, none, .mov (.v 6)⟩,
    ⟨.push, 33, none, .mov (.v 3)⟩,
    ⟨.push, 34, none, .call 10 [(.s 1), (.s 0)]⟩,
    ⟨.push, 35, none, .un .not (.s 0)⟩,
    ⟨.push, 36, none, .mov (.s 0)⟩,
    ⟨.push, 37, (some ((.s 0), false)), .mov (.v 7)⟩,
    ⟨.push, 38, (some ((.s 1), false)), .mov (.v 4)⟩,
    ⟨.push, 39, (some ((.s 2), false)), .bin false .neq (.s 1) (.s 0)⟩,
    ⟨.push, 40, none, .pick (.s 3) (.c (.bool true)) (.s 0)⟩] (.s 0)
  (.seq (.region false [
      ⟨.var 1, 2, none, .mov (.c (.bool false))⟩])
   (.ret))
  (.skip))
 (.seq (.test false [
    ⟨.push, 41, none, .mov (.v 5)⟩,
    ⟨.push, 42, none, .mov (.v 0)⟩,
    ⟨.push, 43, none, .call 17 [(.s 0)]⟩,
    ⟨.push, 44, none, .call 19 [(.s 2), (.s 0)]⟩,
    ⟨.push, 45, none, .un .not (.s 0)⟩] (.s 0)
  (.seq (.region false [
      ⟨.var 1, 2, none, .mov (.c (.bool false))⟩])
   (.ret))
  (.skip))
 (.seq (.region false [
    ⟨.var 8, 9, none, .mov (.c (.int .i64 (1)))⟩])
 (.seq (.region false [
    ⟨.push, 46, none, .mov (.v 5)⟩,
    ⟨.push, 47, none, .mov (.v 8)⟩,
    ⟨.push, 48, none, .call 20 [(.s 1), (.s 0)]⟩,
    ⟨.var 8, 9, none, .mov (.s 0)⟩])
 (.seq (.test false [
    ⟨.push, 49, none, .mov (.v 8)⟩,
    ⟨.push, 50, none, .bin false .lss (.s 0) (.c (.int .i64 (0)))⟩,
    ⟨.push, 51, none, .mov (.s 0)⟩,
    ⟨.push, 52, (some ((.s 0), false)), .mov (.v 6)⟩,
    ⟨.push, 53, (some ((.s 1), false)), .mov (.v 3)⟩,
    ⟨.push, 54, (some ((.s 2), false)), .call 10 [(.s 1), (.s 0)]⟩,
    ⟨.push, 55, (some ((.s 3), false)), .un .not (.s 0)⟩,
    ⟨.push, 56, none, .pick (.s 4) (.c (.bool true)) (.s 0)⟩,
    ⟨.push, 57, none, .mov (.s 0)⟩,
    ⟨.push, 58, (some ((.s 0), false)), .mov (.v 7)⟩,
    ⟨.push, 59, (some ((.s 1), false)), .mov (.v 4)⟩,
    ⟨.push, 60, (some ((.s 2), false)), .bin false .neq (.s 1) (.s 0)⟩,
    ⟨.push, 61, none, .pick (.s 3) (.c (.bool true)) (.s 0)⟩] (.s 0)
  (.seq (.region false [
      ⟨.var 1, 2, none, .mov (.c (.bool false))⟩])
   (.ret))
  (.skip))
 (.seq (.region false [
    ⟨.var 9, 10, none, .mov (.c (.int .i64 (1)))⟩])
 (.seq (.region false [
    ⟨.push, 62, none, .mov (.v 6)⟩,
    ⟨.push, 63, none, .mov (.v 9)⟩,
    ⟨.push, 64, none, .call 13 [(.s 1), (.s 0)]⟩,
    ⟨.var 9, 10, none, .mov (.s 0)⟩])
 (.seq (.region false [
    ⟨.var 10, 11, none, .mov (.c (.int .i64 (1)))⟩])
 (.seq (.region false [
    ⟨.push, 65, none, .mov (.v 6)⟩,
    ⟨.push, 66, none, .mov (.v 10)⟩,
    ⟨.push, 67, none, .call 14 [(.s 1), (.s 0)]⟩,
    ⟨.var 10, 11, none, .mov (.s 0)⟩])
 (.seq (.test false [
    ⟨.push, 68, none, .mov (.v 10)⟩,
    ⟨.push, 69, none, .bin false .lss (.s 0) (.c (.int .i64 (0)))⟩] (.s 0)
  (.seq (.region false [
      ⟨.var 1, 2, none, .mov (.c (.bool false))⟩])
   (.ret))
  (.skip))
 (.seq (.test false [
    ⟨.push, 70, none, .mov (.v 10)⟩,
    ⟨.push, 71, none, .mov (.v 9)⟩,
    ⟨.push, 72, none, .bin false .neq (.s 1) (.s 0)⟩] (.s 0)
  (.seq (.region false [
      ⟨.var 1, 2, none, .mov (.c (.bool false))⟩])
   (.ret))
  (.skip))
 (.seq (.region false [
    ⟨.push, 74, none, .mov (.v 0)⟩,
    ⟨.push, 75, none, .call 17 [(.s 0)]⟩,
    ⟨.push, 76, none, .call 18 [(.s 0)]⟩,
    ⟨.push, 73, none, .mov (.s 0)⟩,
    ⟨.push, 77, none, .ext (.s 0) 0⟩,
    ⟨.push, 78, none, .ext (.s 1) 1⟩,
    ⟨.var 11, 12, none, .mov (.s 1)⟩,
    ⟨.var 12, 13, none, .mov (.s 0)⟩])
 (.seq (.test false [
    ⟨.push, 79, none, .mov (.v 11)⟩,
    ⟨.push, 80, none, .mov (.v 3)⟩,
    ⟨.push, 81, none, .call 10 [(.s 1), (.s 0)]⟩,
    ⟨.push, 82, none, .un .not (.s 0)⟩,
    ⟨.push, 83, none, .mov (.s 0)⟩,
    ⟨.push, 84, (some ((.s 0), false)), .mov (.v 12)⟩,
    ⟨.push, 85, (some ((.s 1), false)), .mov (.v 4)⟩,
    ⟨.push, 86, (some ((.s 2), false)), .bin false .neq (.s 1) (.s 0)⟩,
    ⟨.push, 87, none, .pick (.s 3) (.c (.bool true)) (.s 0)⟩] (.s 0)
  (.seq (.region false [
      ⟨.var 1, 2, none, .mov (.c (.bool false))⟩])
   (.ret))
  (.skip))
 (.seq (.region false [
    ⟨.var 10, 11, none, .mov (.c (.int .i64 (1)))⟩])
 (.seq (.region false [
    ⟨.push, 88, none, .mov (.v 6)⟩,
    ⟨.push, 89, none, .mov (.v 10)⟩,
    ⟨.push, 90, none, .call 14 [(.s 1), (.s 0)]⟩,
    ⟨.var 10, 11, none, .mov (.s 0)⟩])
 (.seq (.test false [
    ⟨.push, 91, none, .mov (.v 10)⟩,
    ⟨.push, 92, none, .bin false .lss (.s 0) (.c (.int .i64 (0)))⟩] (.s 0)
  (.seq (.region false [
      ⟨.var 1, 2, none, .mov (.c (.bool false))⟩])
   (.ret))
  (.skip))
 (.seq (.test false [
    ⟨.push, 93, none, .mov (.v 10)⟩,
    ⟨.push, 94, none, .mov (.v 9)⟩,
    ⟨.push, 95, none, .bin false .neq (.s 1) (.s 0)⟩] (.s 0)
  (.seq (.region false [
      ⟨.var 1, 2, none, .mov (.c (.bool false))⟩])
   (.ret))
  (.skip))
 (.seq (.region false [
    ⟨.var 1, 2, none, .mov (.c (.bool true))⟩])
 (.ret))))))))))))))))))))))))), [.t 1]⟩
noncomputable def t_laws_FnExactPackCurve : List (Nat × Ctr) := [(15, c_laws_szPointS), (17, c_laws_toPointS), (16, c_spec_PackCurve), (18, c_impl_PackCurve), (10, c_laws_eqByteS), (19, c_laws_eqPointS), (20, c_laws_markPointS), (13, c_laws_markByteS), (14, c_laws_heldByteS)]
theorem lk_laws_FnExactPackCurve_15 : look t_laws_FnExactPackCurve 15 = some c_laws_szPointS := rfl
theorem lk_laws_FnExactPackCurve_17 : look t_laws_FnExactPackCurve 17 = some c_laws_toPointS := rfl
theorem lk_laws_FnExactPackCurve_16 : look t_laws_FnExactPackCurve 16 = some c_spec_PackCurve := rfl
theorem lk_laws_FnExactPackCurve_18 : look t_laws_FnExactPackCurve 18 = some c_impl_PackCurve := rfl
theorem lk_laws_FnExactPackCurve_10 : look t_laws_FnExactPackCurve 10 = some c_laws_eqByteS := rfl
theorem lk_laws_FnExactPackCurve_19 : look t_laws_FnExactPackCurve 19 = some c_laws_eqPointS := rfl
theorem lk_laws_FnExactPackCurve_20 : look t_laws_FnExactPackCurve 20 = some c_laws_markPointS := rfl
theorem lk_laws_FnExactPackCurve_13 : look t_laws_FnExactPackCurve 13 = some c_laws_markByteS := rfl
theorem lk_laws_FnExactPackCurve_14 : look t_laws_FnExactPackCurve 14 = some c_laws_heldByteS := rfl
noncomputable def c_laws_FnExactPackCurve : Ctr := mkF t_laws_FnExactPackCurve ir5 [.bor]
theorem s_laws_FnExactPackCurve : Sound Try.prog 5 c_laws_FnExactPackCurve := mkF_sound _ rfl (snd_cons s_laws_szPointS (snd_cons s_laws_toPointS (snd_cons s_spec_PackCurve (snd_cons s_impl_PackCurve (snd_cons s_laws_eqByteS (snd_cons s_laws_eqPointS (snd_cons s_laws_markPointS (snd_cons s_laws_markByteS (snd_cons s_laws_heldByteS snd_nil))))))))) (by kernel_rfl : chkFn Try.prog 5 ir5 ir5_v = true)
theorem M_laws_FnExactPackCurve : c_laws_FnExactPackCurve.modes = [.bor] := rfl
theorem Fl_laws_FnExactPackCurve : c_laws_FnExactPackCurve.flat = true := rfl
attribute [go_sem] M_laws_FnExactPackCurve Fl_laws_FnExactPackCurve
attribute [go_sem] lk_laws_FnExactPackCurve_15 lk_laws_FnExactPackCurve_17 lk_laws_FnExactPackCurve_16 lk_laws_FnExactPackCurve_18 lk_laws_FnExactPackCurve_10 lk_laws_FnExactPackCurve_19 lk_laws_FnExactPackCurve_20 lk_laws_FnExactPackCurve_13 lk_laws_FnExactPackCurve_14
theorem Fs_laws_FnExactPackCurve {aCurve : List Point} {y_ : Bool} (h : laws_FnExactPackCurve aCurve = some y_) : c_laws_FnExactPackCurve.F [.sl 2 (List.map Point_av aCurve)] = ⟨true, .bool y_, [.any]⟩ := by
  refine mkF_E rfl ?_
  dsimp only [laws_FnExactPackCurve] at h
  obtain ⟨y_1, hk1, h⟩ := bd_some h
  have fhk1 := Fs_laws_szPointS hk1
  try simp only [go_sem] at fhk1
  rcases it_some h with ⟨hk2, h⟩ | ⟨hk2, h⟩
  · try simp only [go_sem, n1, n2, n3, n4] at hk2
    all_goals
    obtain rfl := so_some h
    refine ⟨0, fun L hL => ?_⟩
    simp only [go_sem, ir5, fhk1, hk2]
  · try simp only [go_sem, n1, n2, n3, n4] at hk2
    all_goals
    obtain ⟨y_3, hk3, h⟩ := bd_some h
    have fhk3 := Fs_laws_toPointS hk3
    try simp only [go_sem] at fhk3
    obtain ⟨y_4, hk4, h⟩ := bd_some h
    have fhk4 := Fs_spec_PackCurve hk4
    try simp only [go_sem] at fhk4
    obtain ⟨y_5, hk5, h⟩ := bd_some h
    have fhk5 := Fs_impl_PackCurve hk5
    try simp only [go_sem] at fhk5
    obtain ⟨y_6, hk6, h⟩ := bd_some h
    have fhk6 := Fs_laws_eqByteS hk6
    try simp only [go_sem] at fhk6
    rcases it_some h with ⟨hk7, h⟩ | ⟨hk7, h⟩
    · try simp only [go_sem, n1, n2, n3, n4, hk2] at hk7
      all_goals
      obtain rfl := so_some h
      refine ⟨0, fun L hL => ?_⟩
      simp only [go_sem, ir5, fhk1, hk2, fhk3, fhk4, fhk5, fhk6, hk7]
    · try simp only [go_sem, n1, n2, n3, n4, hk2] at hk7
      all_goals
      obtain ⟨y_8, hk8, h⟩ := bd_some h
      have fhk8 := Fs_laws_eqPointS hk8
      try simp only [go_sem] at fhk8
      rcases it_some h with ⟨hk9, h⟩ | ⟨hk9, h⟩
      · try simp only [go_sem, n1, n2, n3, n4, hk2, hk7] at hk9
        all_goals
        obtain rfl := so_some h
        refine ⟨0, fun L hL => ?_⟩
        simp only [go_sem, ir5, fhk1, hk2, fhk3, fhk4, fhk5, fhk6, hk7, fhk8, hk9]
      · try simp only [go_sem, n1, n2, n3, n4, hk2, hk7] at hk9
        all_goals
        obtain ⟨y_10, hk10, h⟩ := bd_some h
        have fhk10 := Fs_laws_markPointS hk10
        try simp only [go_sem] at fhk10
        rcases it_some h with ⟨hk12, h⟩ | ⟨hk12, h⟩
        · try simp only [go_sem, n1, n2, n3, n4, hk2, hk7, hk9] at hk12
          all_goals
          obtain rfl := so_some h
          refine ⟨0, fun L hL => ?_⟩
          simp only [go_sem, ir5, fhk1, hk2, fhk3, fhk4, fhk5, fhk6, hk7, fhk8, hk9, fhk10, hk12]
        · try simp only [go_sem, n1, n2, n3, n4, hk2, hk7, hk9] at hk12
          all_goals
          obtain ⟨y_13, hk13, h⟩ := bd_some h
          have fhk13 := Fs_laws_markByteS hk13
          try simp only [go_sem] at fhk13
          obtain ⟨y_14, hk14, h⟩ := bd_some h
          have fhk14 := Fs_laws_heldByteS hk14
          try simp only [go_sem] at fhk14
          rcases it_some h with ⟨hk15, h⟩ | ⟨hk15, h⟩
          · try simp only [go_sem, n1, n2, n3, n4, hk2, hk7, hk9, hk12] at hk15
            all_goals
            obtain rfl := so_some h
            refine ⟨0, fun L hL => ?_⟩
            simp only [go_sem, ir5, fhk1, hk2, fhk3, fhk4, fhk5, fhk6, hk7, fhk8, hk9, fhk10, hk12, fhk13, fhk14, hk15]
          · try simp only [go_sem, n1, n2, n3, n4, hk2, hk7, hk9, hk12] at hk15
            all_goals
            rcases it_some h with ⟨hk16, h⟩ | ⟨hk16, h⟩
            · try simp only [go_sem, n1, n2, n3, n4, hk2, hk7, hk9, hk12, hk15] at hk16
              all_goals
              obtain rfl := so_some h
              refine ⟨0, fun L hL => ?_⟩
              simp only [go_sem, ir5, fhk1, hk2, fhk3, fhk4, fhk5, fhk6, hk7, fhk8, hk9, fhk10, hk12, fhk13, fhk14, hk15, hk16]
            · try simp only [go_sem, n1, n2, n3, n4, hk2, hk7, hk9, hk12, hk15] at hk16
              all_goals
              obtain rfl := so_some h
              refine ⟨0, fun L hL => ?_⟩
              simp only [go_sem, ir5, fhk1, hk2, fhk3, fhk4, fhk5, fhk6, hk7, fhk8, hk9, fhk10, hk12, fhk13, fhk14, hk15, hk16]


end Go.Proofs.Ytndkifgpbmaicaa
