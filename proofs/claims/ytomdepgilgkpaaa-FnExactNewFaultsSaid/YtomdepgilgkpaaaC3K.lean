/- Codes and contracts of the functions that C3 reaches, and that their typed forms say what they do. No condition. -/
import Derived.Test.YtomdepgilgkpaaaR3T
import Derived.Test.YtomdepgilgkpaaaRows
import Derived.WalkKit
namespace Go.Proofs.Ytomdepgilgkpaaa
open Go Go.RowKit
set_option linter.unusedVariables false
set_option linter.unusedSimpArgs false
set_option maxRecDepth 10000

def ir17_v : List Nat := [0, 1, 4]
def ir17 : AFn := ⟨2, 3, .seq (.region false [
    ⟨.var 2, 4, none, .mov (.c (.int .i64 (0)))⟩])
 (.seq (.region false [
    ⟨.push, 5, none, .mov (.v 1)⟩,
    ⟨.push, 6, none, .mov (.v 0)⟩,
    ⟨.push, 7, none, .len false (.s 0)⟩,
    ⟨.push, 8, none, .bin false .sub (.s 2) (.s 0)⟩,
    ⟨.var 1, 1, none, .mov (.s 0)⟩])
 (.seq (.test false [
    ⟨.push, 9, none, .mov (.v 1)⟩,
    ⟨.push, 10, none, .bin false .lss (.s 0) (.c (.int .i64 (0)))⟩] (.s 0)
  (.seq (.region false [
      ⟨.var 2, 4, none, .mov (.c (.int .i64 (-1)))⟩])
   (.ret))
  (.skip))
 (.seq (.region false [
    ⟨.push, 11, none, .mov (.v 1)⟩,
    ⟨.var 2, 4, none, .mov (.s 0)⟩])
 (.ret)))), [.t 2]⟩
noncomputable def t_laws_szFaultS : List (Nat × Ctr) := []
noncomputable def c_laws_szFaultS : Ctr := mkF t_laws_szFaultS ir17 [.bor, .bor]
theorem s_laws_szFaultS : Sound Try.prog 17 c_laws_szFaultS := mkF_sound _ rfl snd_nil (by kernel_rfl : chkFn Try.prog 17 ir17 ir17_v = true)
theorem M_laws_szFaultS : c_laws_szFaultS.modes = [.bor, .bor] := rfl
theorem Fl_laws_szFaultS : c_laws_szFaultS.flat = true := rfl
attribute [go_sem] M_laws_szFaultS Fl_laws_szFaultS
theorem Fs_laws_szFaultS {a : List Fault} {left_ : Int} {y_ : Int} (h : laws_szFaultS a left_ = some y_) : c_laws_szFaultS.F [.sl 2 (List.map Fault_av a), .int .i64 left_] = ⟨true, .int .i64 y_, [.any, .any]⟩ := by
  refine mkF_E rfl ?_
  dsimp only [laws_szFaultS] at h
  rcases it_some h with ⟨hk1, h⟩ | ⟨hk1, h⟩
  · try simp only [go_sem, n1, n2, n3, n4] at hk1
    all_goals
    obtain rfl := so_some h
    refine ⟨0, fun L hL => ?_⟩
    simp only [go_sem, ir17, hk1]
  · try simp only [go_sem, n1, n2, n3, n4] at hk1
    all_goals
    obtain rfl := so_some h
    refine ⟨0, fun L hL => ?_⟩
    simp only [go_sem, ir17, hk1]


def ir31_v : List Nat := [0, 1, 2, 3]
def ir31 : AFn := ⟨1, 4, .seq (.region false [
    ⟨.var 1, 1, none, .box (.v 0)⟩,
    ⟨.var 2, 2, none, .alloc (.agg [.int .i64 (0), .int .i64 (0)])⟩])
 (.seq (.region false [
    ⟨.var 3, 3, none, .alloc (.agg [.int .i64 (0), .int .i64 (0)])⟩])
 (.seq (.region false [
    ⟨.push, 4, none, .fldAddr 0 (.v 1)⟩,
    ⟨.push, 5, none, .load false 1 (.s 0)⟩,
    ⟨.push, 6, none, .fldAddr 0 (.v 3)⟩,
    ⟨.no, 0, none, .store 1 (.s 0) (.s 1)⟩])
 (.seq (.region false [
    ⟨.push, 7, none, .fldAddr 1 (.v 1)⟩,
    ⟨.push, 8, none, .load false 1 (.s 0)⟩,
    ⟨.push, 9, none, .fldAddr 1 (.v 3)⟩,
    ⟨.no, 0, none, .store 1 (.s 0) (.s 1)⟩])
 (.seq (.region false [
    ⟨.push, 10, none, .load true 2 (.v 3)⟩,
    ⟨.no, 0, none, .store 2 (.v 2) (.s 0)⟩])
 (.ret))))), [.cell true 2 2]⟩
noncomputable def t_laws_toFault : List (Nat × Ctr) := []
noncomputable def c_laws_toFault : Ctr := mkN t_laws_toFault ir31 [.bor]
theorem s_laws_toFault : Sound Try.prog 31 c_laws_toFault := mkN_sound _ snd_nil (by kernel_rfl : chkFn Try.prog 31 ir31 ir31_v = true)
theorem M_laws_toFault : c_laws_toFault.modes = [.bor] := rfl
theorem Fl_laws_toFault : c_laws_toFault.flat = false := rfl
attribute [go_sem] M_laws_toFault Fl_laws_toFault
theorem Fs_laws_toFault {a : Fault} {y_ : Fault} (h : laws_toFault a = some y_) : c_laws_toFault.F [Fault_av a] = ⟨true, Fault_av y_, [.any]⟩ := by
  refine mkN_E ?_
  dsimp only [laws_toFault] at h
  obtain rfl := so_some h
  refine ⟨0, fun L hL => ?_⟩
  simp only [go_sem, ir31]


def ir19_b0 : IR := .seq (.test false [
    ⟨.push, 8, none, .mov (.v 3)⟩,
    ⟨.push, 9, none, .mov (.v 0)⟩,
    ⟨.push, 10, none, .len false (.s 0)⟩,
    ⟨.push, 11, none, .bin false .lss (.s 2) (.s 0)⟩] (.s 0)
  (.skip)
  (.exit 0))
 (.seq (.block 1 (.region false [
     ⟨.push, 14, none, .mov (.v 2)⟩,
     ⟨.push, 15, none, .mov (.v 3)⟩,
     ⟨.push, 16, none, .mov (.v 0)⟩,
     ⟨.push, 17, none, .mov (.v 3)⟩,
     ⟨.push, 18, none, .ixAddr 2 (.s 1) (.s 0)⟩,
     ⟨.push, 19, none, .load true 2 (.s 0)⟩,
     ⟨.push, 20, none, .call 31 [(.s 0)]⟩,
     ⟨.push, 21, none, .ixAddr 2 (.s 6) (.s 5)⟩,
     ⟨.no, 0, none, .store 2 (.s 0) (.s 1)⟩]))
 (.region false [
   ⟨.push, 12, none, .mov (.v 3)⟩,
   ⟨.push, 13, none, .bin false .add (.s 0) (.c (.int .i64 (1)))⟩,
   ⟨.var 3, 4, none, .mov (.s 0)⟩]))
def ir19_k0 : List Bool := [true, false, true, true]
def ir19_o0 : List Bool := [false, false, true, false]
def ir19_r0 : List Bool := [false, true, false, false]
def ir19_v : List Nat := [0, 2, 3, 4]
def ir19 : AFn := ⟨1, 4, .seq (.region false [
    ⟨.var 1, 2, none, .newnil 2⟩])
 (.seq (.region false [
    ⟨.push, 5, none, .mov (.v 0)⟩,
    ⟨.push, 6, none, .len false (.s 0)⟩,
    ⟨.push, 7, none, .make 2 16 (.agg [.int .i64 (0), .int .i64 (0)]) (.s 0) (.s 0)⟩,
    ⟨.var 2, 3, none, .mov (.s 0)⟩])
 (.seq (.seq (.region false [
     ⟨.var 3, 4, none, .mov (.c (.int .i64 (0)))⟩])
  (.block 0 (.loop ir19_k0 ir19_o0 ir19_r0 ir19_b0)))
 (.seq (.region false [
    ⟨.push, 22, none, .mov (.v 2)⟩,
    ⟨.var 1, 2, none, .mov (.s 0)⟩])
 (.ret)))), [.t 1]⟩
noncomputable def t_laws_toFaultS : List (Nat × Ctr) := [(31, c_laws_toFault)]
theorem lk_laws_toFaultS_31 : look t_laws_toFaultS 31 = some c_laws_toFault := rfl
noncomputable def c_laws_toFaultS : Ctr := mkF t_laws_toFaultS ir19 [.bor]
theorem s_laws_toFaultS : Sound Try.prog 19 c_laws_toFaultS := mkF_sound _ rfl (snd_cons s_laws_toFault snd_nil) (by kernel_rfl : chkFn Try.prog 19 ir19 ir19_v = true)
theorem M_laws_toFaultS : c_laws_toFaultS.modes = [.bor] := rfl
theorem Fl_laws_toFaultS : c_laws_toFaultS.flat = true := rfl
attribute [go_sem] M_laws_toFaultS Fl_laws_toFaultS
attribute [go_sem] lk_laws_toFaultS_31
def E_laws_toFaultS_l1 (a : List Fault) : ((List Fault) × Int) → St
  | (out, i) => ⟨[.sl 2 (List.map Fault_av a), .any, .own 3200000, .int .i64 i], [], [(3200000, ⟨2, List.map Fault_av out⟩)], true⟩
def R_laws_toFaultS_l1 (a : List Fault) (y : (List Fault)) : Res := (.exit 0, ⟨[.any, .any, .own 3200000, .any], [], [(3200000, ⟨2, List.map Fault_av y⟩)], true⟩)
theorem laws_toFaultS_l1_ex {a : List Fault} {sgm_ : (List Fault) × Int} {rho_ : (List Fault)} (h : whileE (laws_toFaultS_l1 a) sgm_ = some rho_) : ∃ L0, ∀ L, L0 ≤ L → iter (exec (look t_laws_toFaultS) L ir19_b0) ir19_k0 ir19_o0 ir19_r0 L (E_laws_toFaultS_l1 a sgm_) = R_laws_toFaultS_l1 a rho_ := by
  refine loop_ex (E := E_laws_toFaultS_l1 a) (R := R_laws_toFaultS_l1 a) (fun y => by first | (intro c; cases c) | (rcases y with y | y <;> (intro c; cases c)) | (rcases y with y | y | y <;> (intro c; cases c))) ?_ h
  clear h
  rintro ⟨out, i⟩ o_ h
  dsimp only [laws_toFaultS_l1] at h
  rcases it_some h with ⟨hk2, h⟩ | ⟨hk2, h⟩
  · try simp only [go_sem, n1, n2, n3, n4] at hk2
    all_goals
    obtain ⟨hk3, h⟩ := ck_some h
    have lhk3 := ix_lt hk3
    have xhk3 := getD_mapD Fault_av a lhk3
    try simp only [go_sem] at lhk3
    try simp only [go_sem] at xhk3
    try simp only [go_sem, n1, n2, n3, n4, hk2] at hk3
    all_goals
    obtain ⟨y_4, hk4, h⟩ := bd_some h
    have fhk4 := Fs_laws_toFault hk4
    try simp only [go_sem] at fhk4
    obtain ⟨hk5, h⟩ := ck_some h
    have lhk5 := ix_lt hk5
    have xhk5 := getD_mapD Fault_av out lhk5
    try simp only [go_sem] at lhk5
    try simp only [go_sem] at xhk5
    try simp only [go_sem, n1, n2, n3, n4, hk2, hk3] at hk5
    all_goals
    obtain rfl := so_some h
    refine ⟨0, fun L hL => ?_⟩
    simp only [go_sem, ir19, E_laws_toFaultS_l1, R_laws_toFaultS_l1, ir19_b0, ir19_k0, ir19_o0, ir19_r0, hk2, hk3, lhk3, xhk3, fhk4, hk5, lhk5, xhk5]
  · try simp only [go_sem, n1, n2, n3, n4] at hk2
    all_goals
    obtain rfl := so_some h
    refine ⟨0, fun L hL => ?_⟩
    simp only [go_sem, ir19, E_laws_toFaultS_l1, R_laws_toFaultS_l1, ir19_b0, ir19_k0, ir19_o0, ir19_r0, hk2]

theorem Fs_laws_toFaultS {a : List Fault} {y_ : (List Fault)} (h : laws_toFaultS a = some y_) : c_laws_toFaultS.F [.sl 2 (List.map Fault_av a)] = ⟨true, .fresh 2 (List.map Fault_av y_), [.any]⟩ := by
  refine mkF_E (by simp only [flatA, flatB, flat1, List.all_cons, List.all_nil, Bool.and_self, flatE_map (f := Fault_av) (fun _ => rfl)]) ?_
  dsimp only [laws_toFaultS] at h
  obtain ⟨hk1, h⟩ := ck_some h
  try simp only [go_sem, n1, n2, n3, n4] at hk1
  all_goals
  obtain ⟨y_6, hk6, h⟩ := bd_some h
  obtain ⟨Lhk6, ehk6⟩ := laws_toFaultS_l1_ex hk6
  obtain rfl := so_some h
  refine ⟨Lhk6, fun L hL => ?_⟩
  have ehk6 := ehk6 L (by omega)
  try simp only [go_sem, E_laws_toFaultS_l1, R_laws_toFaultS_l1, ir19_k0, ir19_o0, ir19_r0] at ehk6
  simp only [go_sem, ir19, E_laws_toFaultS_l1, R_laws_toFaultS_l1, ir19_k0, ir19_o0, ir19_r0, hk1, ehk6]


def ir28_v : List Nat := [0, 1, 2, 6]
def ir28 : AFn := ⟨3, 4, .seq (.region false [
    ⟨.var 3, 6, none, .mov (.c (.bool false))⟩])
 (.seq (.region false [
    ⟨.push, 7, none, .mov (.v 0)⟩,
    ⟨.push, 8, none, .mov (.v 1)⟩,
    ⟨.push, 9, none, .bin false .geq (.s 1) (.s 0)⟩,
    ⟨.push, 10, none, .mov (.s 0)⟩,
    ⟨.push, 11, (some ((.s 0), true)), .mov (.v 0)⟩,
    ⟨.push, 12, (some ((.s 1), true)), .mov (.v 2)⟩,
    ⟨.push, 13, (some ((.s 2), true)), .bin false .leq (.s 1) (.s 0)⟩,
    ⟨.push, 14, none, .pick (.s 3) (.s 0) (.c (.bool false))⟩,
    ⟨.var 3, 6, none, .mov (.s 0)⟩])
 (.ret)), [.t 3]⟩
noncomputable def t_spec_l00In : List (Nat × Ctr) := []
noncomputable def c_spec_l00In : Ctr := mkF t_spec_l00In ir28 [.bor, .bor, .bor]
theorem s_spec_l00In : Sound Try.prog 28 c_spec_l00In := mkF_sound _ rfl snd_nil (by kernel_rfl : chkFn Try.prog 28 ir28 ir28_v = true)
theorem M_spec_l00In : c_spec_l00In.modes = [.bor, .bor, .bor] := rfl
theorem Fl_spec_l00In : c_spec_l00In.flat = true := rfl
attribute [go_sem] M_spec_l00In Fl_spec_l00In
theorem Fs_spec_l00In {n : Int} {low : Int} {high : Int} {y_ : Bool} (h : spec_l00In n low high = some y_) : c_spec_l00In.F [.int .i64 n, .int .i64 low, .int .i64 high] = ⟨true, .bool y_, [.any, .any, .any]⟩ := by
  refine mkF_E rfl ?_
  dsimp only [spec_l00In] at h
  obtain rfl := so_some h
  refine ⟨0, fun L hL => ?_⟩
  simp only [go_sem, ir28]


def ir37_v : List Nat := [0, 2]
def ir37 : AFn := ⟨1, 2, .seq (.region false [
    ⟨.var 1, 2, none, .mov (.c (.bool false))⟩])
 (.seq (.region false [
    ⟨.push, 3, none, .mov (.v 0)⟩,
    ⟨.push, 4, none, .call 28 [(.s 0), (.c (.int .i64 (1))), (.c (.int .i64 (5)))]⟩,
    ⟨.var 1, 2, none, .mov (.s 0)⟩])
 (.ret)), [.t 1]⟩
noncomputable def t_spec_l26Kind : List (Nat × Ctr) := [(28, c_spec_l00In)]
theorem lk_spec_l26Kind_28 : look t_spec_l26Kind 28 = some c_spec_l00In := rfl
noncomputable def c_spec_l26Kind : Ctr := mkF t_spec_l26Kind ir37 [.bor]
theorem s_spec_l26Kind : Sound Try.prog 37 c_spec_l26Kind := mkF_sound _ rfl (snd_cons s_spec_l00In snd_nil) (by kernel_rfl : chkFn Try.prog 37 ir37 ir37_v = true)
theorem M_spec_l26Kind : c_spec_l26Kind.modes = [.bor] := rfl
theorem Fl_spec_l26Kind : c_spec_l26Kind.flat = true := rfl
attribute [go_sem] M_spec_l26Kind Fl_spec_l26Kind
attribute [go_sem] lk_spec_l26Kind_28
theorem Fs_spec_l26Kind {n : Int} {y_ : Bool} (h : spec_l26Kind n = some y_) : c_spec_l26Kind.F [.int .i64 n] = ⟨true, .bool y_, [.any]⟩ := by
  refine mkF_E rfl ?_
  dsimp only [spec_l26Kind] at h
  obtain ⟨y_1, hk1, h⟩ := bd_some h
  have fhk1 := Fs_spec_l00In hk1
  try simp only [go_sem] at fhk1
  obtain rfl := so_some h
  refine ⟨0, fun L hL => ?_⟩
  simp only [go_sem, ir37, fhk1]


def ir30_b0 : IR := .seq (.test false [
    ⟨.push, 7, none, .mov (.v 3)⟩,
    ⟨.push, 8, none, .mov (.v 0)⟩,
    ⟨.push, 9, none, .len false (.s 0)⟩,
    ⟨.push, 10, none, .bin false .lss (.s 2) (.s 0)⟩] (.s 0)
  (.skip)
  (.exit 0))
 (.seq (.block 1 (.seq (.region false [
      ⟨.push, 13, none, .mov (.v 0)⟩,
      ⟨.push, 14, none, .mov (.v 3)⟩,
      ⟨.push, 15, none, .ixAddr 2 (.s 1) (.s 0)⟩,
      ⟨.var 4, 6, none, .mov (.s 0)⟩])
   (.seq (.test false [
      ⟨.push, 16, none, .mov (.v 4)⟩,
      ⟨.push, 17, none, .nilck (.s 0)⟩,
      ⟨.push, 18, none, .fldAddr 0 (.s 0)⟩,
      ⟨.push, 19, none, .load false 1 (.s 0)⟩,
      ⟨.push, 20, none, .mov (.v 1)⟩,
      ⟨.push, 21, none, .bin false .sub (.s 0) (.c (.int .i64 (1)))⟩,
      ⟨.push, 22, none, .call 28 [(.s 2), (.c (.int .i64 (0))), (.s 0)]⟩,
      ⟨.push, 23, none, .un .not (.s 0)⟩,
      ⟨.push, 24, none, .mov (.s 0)⟩,
      ⟨.push, 25, (some ((.s 0), false)), .mov (.v 4)⟩,
      ⟨.push, 26, (some ((.s 1), false)), .nilck (.s 0)⟩,
      ⟨.push, 27, (some ((.s 2), false)), .fldAddr 1 (.s 0)⟩,
      ⟨.push, 28, (some ((.s 3), false)), .load false 1 (.s 0)⟩,
      ⟨.push, 29, (some ((.s 4), false)), .call 37 [(.s 0)]⟩,
      ⟨.push, 30, (some ((.s 5), false)), .un .not (.s 0)⟩,
      ⟨.push, 31, none, .pick (.s 6) (.c (.bool true)) (.s 0)⟩] (.s 0)
    (.seq (.region false [
        ⟨.var 2, 4, none, .mov (.c (.bool false))⟩])
     (.ret))
    (.skip))
   (.anyo 41 [
     ⟨.slot 0, 32, none, .mov (.v 3)⟩,
     ⟨.slot 1, 33, none, .bin false .gtr (.s 0) (.c (.int .i64 (0)))⟩,
     ⟨.slot 2, 34, none, .mov (.s 1)⟩,
     ⟨.slot 3, 35, (some ((.s 2), true)), .mov (.v 0)⟩,
     ⟨.slot 4, 36, (some ((.s 2), true)), .mov (.v 3)⟩,
     ⟨.slot 5, 37, (some ((.s 2), true)), .bin false .sub (.s 4) (.c (.int .i64 (1)))⟩,
     ⟨.slot 6, 38, (some ((.s 2), true)), .ixAddr 2 (.s 3) (.s 5)⟩,
     ⟨.slot 7, 39, (some ((.s 2), true)), .fldAddr 0 (.s 6)⟩,
     ⟨.slot 8, 40, (some ((.s 2), true)), .load false 1 (.s 7)⟩,
     ⟨.slot 9, 41, (some ((.s 2), true)), .mov (.v 4)⟩,
     ⟨.slot 10, 42, (some ((.s 2), true)), .nilck (.s 9)⟩,
     ⟨.slot 11, 43, (some ((.s 2), true)), .fldAddr 0 (.s 10)⟩,
     ⟨.slot 12, 44, (some ((.s 2), true)), .load false 1 (.s 11)⟩,
     ⟨.slot 13, 45, (some ((.s 2), true)), .bin false .gtr (.s 8) (.s 12)⟩,
     ⟨.slot 14, 46, (some ((.s 2), true)), .mov (.s 13)⟩,
     ⟨.slot 15, 47, (some ((.s 14), false)), .mov (.v 0)⟩,
     ⟨.slot 16, 48, (some ((.s 14), false)), .mov (.v 3)⟩,
     ⟨.slot 17, 49, (some ((.s 14), false)), .bin false .sub (.s 16) (.c (.int .i64 (1)))⟩,
     ⟨.slot 18, 50, (some ((.s 14), false)), .ixAddr 2 (.s 15) (.s 17)⟩,
     ⟨.slot 19, 51, (some ((.s 14), false)), .fldAddr 0 (.s 18)⟩,
     ⟨.slot 20, 52, (some ((.s 14), false)), .load false 1 (.s 19)⟩,
     ⟨.slot 21, 53, (some ((.s 14), false)), .mov (.v 4)⟩,
     ⟨.slot 22, 54, (some ((.s 14), false)), .nilck (.s 21)⟩,
     ⟨.slot 23, 55, (some ((.s 14), false)), .fldAddr 0 (.s 22)⟩,
     ⟨.slot 24, 56, (some ((.s 14), false)), .load false 1 (.s 23)⟩,
     ⟨.slot 25, 57, (some ((.s 14), false)), .bin false .eql (.s 20) (.s 24)⟩,
     ⟨.slot 26, 58, (some ((.s 14), false)), .mov (.s 25)⟩,
     ⟨.slot 27, 59, (some ((.s 26), true)), .mov (.v 0)⟩,
     ⟨.slot 28, 60, (some ((.s 26), true)), .mov (.v 3)⟩,
     ⟨.slot 29, 61, (some ((.s 26), true)), .bin false .sub (.s 28) (.c (.int .i64 (1)))⟩,
     ⟨.slot 30, 62, (some ((.s 26), true)), .ixAddr 2 (.s 27) (.s 29)⟩,
     ⟨.slot 31, 63, (some ((.s 26), true)), .fldAddr 1 (.s 30)⟩,
     ⟨.slot 32, 64, (some ((.s 26), true)), .load false 1 (.s 31)⟩,
     ⟨.slot 33, 65, (some ((.s 26), true)), .mov (.v 4)⟩,
     ⟨.slot 34, 66, (some ((.s 26), true)), .nilck (.s 33)⟩,
     ⟨.slot 35, 67, (some ((.s 26), true)), .fldAddr 1 (.s 34)⟩,
     ⟨.slot 36, 68, (some ((.s 26), true)), .load false 1 (.s 35)⟩,
     ⟨.slot 37, 69, (some ((.s 26), true)), .bin false .geq (.s 32) (.s 36)⟩,
     ⟨.slot 38, 70, (some ((.s 14), false)), .pick (.s 26) (.s 37) (.c (.bool false))⟩,
     ⟨.slot 39, 71, (some ((.s 2), true)), .pick (.s 14) (.c (.bool true)) (.s 38)⟩,
     ⟨.slot 40, 72, none, .pick (.s 2) (.s 39) (.c (.bool false))⟩] [] (.cond (.s 40)
   (.seq (.region false [
       ⟨.var 2, 4, none, .mov (.c (.bool false))⟩])
    (.ret))
   (.skip))))))
 (.region false [
   ⟨.push, 11, none, .mov (.v 3)⟩,
   ⟨.push, 12, none, .bin false .add (.s 0) (.c (.int .i64 (1)))⟩,
   ⟨.var 3, 5, none, .mov (.s 0)⟩]))
def ir30_k0 : List Bool := [true, true, false, true, false]
def ir30_o0 : List Bool := [false, false, false, false, false]
def ir30_r0 : List Bool := [false, false, true, false, false]
def ir30_v : List Nat := [0, 1, 4, 5, 6]
def ir30 : AFn := ⟨2, 5, .seq (.region false [
    ⟨.var 2, 4, none, .mov (.c (.bool false))⟩])
 (.seq (.seq (.region false [
     ⟨.var 3, 5, none, .mov (.c (.int .i64 (0)))⟩])
  (.block 0 (.loop ir30_k0 ir30_o0 ir30_r0 ir30_b0)))
 (.seq (.region false [
    ⟨.var 2, 4, none, .mov (.c (.bool true))⟩])
 (.ret))), [.t 2]⟩
noncomputable def t_spec_l26Faults : List (Nat × Ctr) := [(28, c_spec_l00In), (37, c_spec_l26Kind)]
theorem lk_spec_l26Faults_28 : look t_spec_l26Faults 28 = some c_spec_l00In := rfl
theorem lk_spec_l26Faults_37 : look t_spec_l26Faults 37 = some c_spec_l26Kind := rfl
noncomputable def c_spec_l26Faults : Ctr := mkF t_spec_l26Faults ir30 [.bor, .bor]
theorem s_spec_l26Faults : Sound Try.prog 30 c_spec_l26Faults := mkF_sound _ rfl (snd_cons s_spec_l00In (snd_cons s_spec_l26Kind snd_nil)) (by kernel_rfl : chkFn Try.prog 30 ir30 ir30_v = true)
theorem M_spec_l26Faults : c_spec_l26Faults.modes = [.bor, .bor] := rfl
theorem Fl_spec_l26Faults : c_spec_l26Faults.flat = true := rfl
attribute [go_sem] M_spec_l26Faults Fl_spec_l26Faults
attribute [go_sem] lk_spec_l26Faults_28 lk_spec_l26Faults_37
def E_spec_l26Faults_l1 (faults : List Fault) (count : Int) : Int → St
  | i => ⟨[.sl 2 (List.map Fault_av faults), .int .i64 count, .any, .int .i64 i, .any], [], [], true⟩
def R_spec_l26Faults_l1 (faults : List Fault) (count : Int) : (Unit ⊕ Bool) → Res
  | .inl y => (.exit 0, ⟨[.any, .any, .any, .any, .any], [], [], true⟩)
  | .inr y => (.ret, ⟨[.any, .any, .bool y, .any, .any], [], [], true⟩)
theorem spec_l26Faults_l1_ex {faults : List Fault} {count : Int} {sgm_ : Int} {rho_ : Unit ⊕ Bool} (h : whileE (spec_l26Faults_l1 faults count) sgm_ = some rho_) : ∃ L0, ∀ L, L0 ≤ L → iter (exec (look t_spec_l26Faults) L ir30_b0) ir30_k0 ir30_o0 ir30_r0 L (E_spec_l26Faults_l1 faults count sgm_) = R_spec_l26Faults_l1 faults count rho_ := by
  refine loop_ex (E := E_spec_l26Faults_l1 faults count) (R := R_spec_l26Faults_l1 faults count) (fun y => by first | (intro c; cases c) | (rcases y with y | y <;> (intro c; cases c)) | (rcases y with y | y | y <;> (intro c; cases c))) ?_ h
  clear h
  intro i o_ h
  dsimp only [spec_l26Faults_l1] at h
  rcases it_some h with ⟨hk1, h⟩ | ⟨hk1, h⟩
  · try simp only [go_sem, n1, n2, n3, n4] at hk1
    all_goals
    obtain ⟨hk2, h⟩ := ck_some h
    have lhk2 := ix_lt hk2
    have xhk2 := getD_mapD Fault_av faults lhk2
    try simp only [go_sem] at lhk2
    try simp only [go_sem] at xhk2
    try simp only [go_sem, n1, n2, n3, n4, hk1] at hk2
    all_goals
    obtain ⟨y_3, hk3, h⟩ := bd_some h
    have fhk3 := Fs_spec_l00In hk3
    try simp only [go_sem] at fhk3
    obtain ⟨hk4, h⟩ := ck_some h
    rcases or_split hk4 with ⟨ghk4, hk4⟩ | ghk4
    · try simp only [go_sem, n1, n2, n3, n4, hk1, hk2] at ghk4
      all_goals
      obtain ⟨y_4, hhk4⟩ := Option.isSome_iff_exists.1 hk4
      have fhk4 := Fs_spec_l26Kind hhk4
      try simp only [go_sem] at fhk4
      rcases it_some h with ⟨hk5, h⟩ | ⟨hk5, h⟩
      · try simp only [go_sem, n1, n2, n3, n4, hk1, hk2, ghk4, hhk4] at hk5
        all_goals
        obtain rfl := so_some h
        refine ⟨0, fun L hL => ?_⟩
        simp only [go_sem, ir30, E_spec_l26Faults_l1, R_spec_l26Faults_l1, ir30_b0, ir30_k0, ir30_o0, ir30_r0, hk1, hk2, lhk2, xhk2, fhk3, ghk4, hhk4, fhk4, hk5]
      · try simp only [go_sem, n1, n2, n3, n4, hk1, hk2, ghk4, hhk4] at hk5
        all_goals
        obtain ⟨hk6, h⟩ := ck_some h
        rcases or_split hk6 with ⟨ghk6, hk6⟩ | ghk6
        · try simp only [go_sem, n1, n2, n3, n4, hk1, hk2, ghk4, hhk4, hk5] at ghk6
          all_goals
          have lhk6 := ix_lt hk6
          have xhk6 := getD_mapD Fault_av faults lhk6
          try simp only [go_sem] at lhk6
          try simp only [go_sem] at xhk6
          try simp only [go_sem, n1, n2, n3, n4, hk1, hk2, ghk4, hhk4, hk5, ghk6] at hk6
          all_goals
          obtain ⟨hk7, h⟩ := ck_some h
          rcases or_split hk7 with ⟨ghk7, hk7⟩ | ghk7
          · try simp only [go_sem, n1, n2, n3, n4, hk1, hk2, ghk4, hhk4, hk5, ghk6, hk6] at ghk7
            all_goals
            have lhk7 := ix_lt hk7
            have xhk7 := getD_mapD Fault_av faults lhk7
            try simp only [go_sem] at lhk7
            try simp only [go_sem] at xhk7
            try simp only [go_sem, n1, n2, n3, n4, hk1, hk2, ghk4, hhk4, hk5, ghk6, hk6, ghk7] at hk7
            all_goals
            obtain ⟨hk8, h⟩ := ck_some h
            rcases or_split hk8 with ⟨ghk8, hk8⟩ | ghk8
            · try simp only [go_sem, n1, n2, n3, n4, hk1, hk2, ghk4, hhk4, hk5, ghk6, hk6, ghk7, hk7] at ghk8
              all_goals
              have lhk8 := ix_lt hk8
              have xhk8 := getD_mapD Fault_av faults lhk8
              try simp only [go_sem] at lhk8
              try simp only [go_sem] at xhk8
              try simp only [go_sem, n1, n2, n3, n4, hk1, hk2, ghk4, hhk4, hk5, ghk6, hk6, ghk7, hk7, ghk8] at hk8
              all_goals
              rcases it_some h with ⟨hk9, h⟩ | ⟨hk9, h⟩
              · try simp only [go_sem, n1, n2, n3, n4, hk1, hk2, ghk4, hhk4, hk5, ghk6, hk6, ghk7, hk7, ghk8, hk8] at hk9
                all_goals
                obtain rfl := so_some h
                refine ⟨0, fun L hL => ?_⟩
                simp only [go_sem, ir30, E_spec_l26Faults_l1, R_spec_l26Faults_l1, ir30_b0, ir30_k0, ir30_o0, ir30_r0, hk1, hk2, lhk2, xhk2, fhk3, ghk4, hhk4, fhk4, hk5, ghk6, hk6, lhk6, xhk6, ghk7, hk7, lhk7, xhk7, ghk8, hk8, lhk8, xhk8, hk9]
              · try simp only [go_sem, n1, n2, n3, n4, hk1, hk2, ghk4, hhk4, hk5, ghk6, hk6, ghk7, hk7, ghk8, hk8] at hk9
                all_goals
                obtain rfl := so_some h
                refine ⟨0, fun L hL => ?_⟩
                simp only [go_sem, ir30, E_spec_l26Faults_l1, R_spec_l26Faults_l1, ir30_b0, ir30_k0, ir30_o0, ir30_r0, hk1, hk2, lhk2, xhk2, fhk3, ghk4, hhk4, fhk4, hk5, ghk6, hk6, lhk6, xhk6, ghk7, hk7, lhk7, xhk7, ghk8, hk8, lhk8, xhk8, hk9]
            · rcases and_f ghk8 with ghk8a | ⟨ghk8a, ghk8b⟩
              · rcases and_f ghk8a with ghk8aa | ⟨ghk8aa, ghk8ab⟩
                · try simp only [go_sem, n1, n2, n3, n4, hk1, hk2, ghk4, hhk4, hk5, ghk6, hk6, ghk7, hk7] at ghk8aa
                  all_goals
                  rcases it_some h with ⟨hk9, h⟩ | ⟨hk9, h⟩
                  · try simp only [go_sem, n1, n2, n3, n4, hk1, hk2, ghk4, hhk4, hk5, ghk6, hk6, ghk7, hk7, ghk8aa] at hk9
                    all_goals
                    obtain rfl := so_some h
                    refine ⟨0, fun L hL => ?_⟩
                    simp only [go_sem, ir30, E_spec_l26Faults_l1, R_spec_l26Faults_l1, ir30_b0, ir30_k0, ir30_o0, ir30_r0, hk1, hk2, lhk2, xhk2, fhk3, ghk4, hhk4, fhk4, hk5, ghk6, hk6, lhk6, xhk6, ghk7, hk7, lhk7, xhk7, ghk8aa, hk9]
                  · try simp only [go_sem, n1, n2, n3, n4, hk1, hk2, ghk4, hhk4, hk5, ghk6, hk6, ghk7, hk7, ghk8aa] at hk9
                    all_goals
                    obtain rfl := so_some h
                    refine ⟨0, fun L hL => ?_⟩
                    simp only [go_sem, ir30, E_spec_l26Faults_l1, R_spec_l26Faults_l1, ir30_b0, ir30_k0, ir30_o0, ir30_r0, hk1, hk2, lhk2, xhk2, fhk3, ghk4, hhk4, fhk4, hk5, ghk6, hk6, lhk6, xhk6, ghk7, hk7, lhk7, xhk7, ghk8aa, hk9]
                · have ghk8abn := no_f ghk8ab
                  try simp only [go_sem, n1, n2, n3, n4, hk1, hk2, ghk4, hhk4, hk5, ghk6, hk6, ghk7, hk7] at ghk8aa
                  all_goals
                  try simp only [go_sem, n1, n2, n3, n4, hk1, hk2, ghk4, hhk4, hk5, ghk6, hk6, ghk7, hk7, ghk8aa] at ghk8abn
                  all_goals
                  rcases it_some h with ⟨hk9, h⟩ | ⟨hk9, h⟩
                  · try simp only [go_sem, n1, n2, n3, n4, hk1, hk2, ghk4, hhk4, hk5, ghk6, hk6, ghk7, hk7, ghk8aa, ghk8abn] at hk9
                    all_goals
                    obtain rfl := so_some h
                    refine ⟨0, fun L hL => ?_⟩
                    simp only [go_sem, ir30, E_spec_l26Faults_l1, R_spec_l26Faults_l1, ir30_b0, ir30_k0, ir30_o0, ir30_r0, hk1, hk2, lhk2, xhk2, fhk3, ghk4, hhk4, fhk4, hk5, ghk6, hk6, lhk6, xhk6, ghk7, hk7, lhk7, xhk7, ghk8aa, ghk8abn, hk9]
                  · try simp only [go_sem, n1, n2, n3, n4, hk1, hk2, ghk4, hhk4, hk5, ghk6, hk6, ghk7, hk7, ghk8aa, ghk8abn] at hk9
                    all_goals
                    obtain rfl := so_some h
                    refine ⟨0, fun L hL => ?_⟩
                    simp only [go_sem, ir30, E_spec_l26Faults_l1, R_spec_l26Faults_l1, ir30_b0, ir30_k0, ir30_o0, ir30_r0, hk1, hk2, lhk2, xhk2, fhk3, ghk4, hhk4, fhk4, hk5, ghk6, hk6, lhk6, xhk6, ghk7, hk7, lhk7, xhk7, ghk8aa, ghk8abn, hk9]
              · obtain ⟨ghk8aa, ghk8ab⟩ := and_t ghk8a
                have ghk8abn := no_t ghk8ab
                try simp only [go_sem, n1, n2, n3, n4, hk1, hk2, ghk4, hhk4, hk5, ghk6, hk6, ghk7, hk7] at ghk8aa
                all_goals
                try simp only [go_sem, n1, n2, n3, n4, hk1, hk2, ghk4, hhk4, hk5, ghk6, hk6, ghk7, hk7, ghk8aa] at ghk8abn
                all_goals
                try simp only [go_sem, n1, n2, n3, n4, hk1, hk2, ghk4, hhk4, hk5, ghk6, hk6, ghk7, hk7, ghk8aa, ghk8abn] at ghk8b
                all_goals
                rcases it_some h with ⟨hk9, h⟩ | ⟨hk9, h⟩
                · try simp only [go_sem, n1, n2, n3, n4, hk1, hk2, ghk4, hhk4, hk5, ghk6, hk6, ghk7, hk7, ghk8aa, ghk8abn, ghk8b] at hk9
                  all_goals
                  obtain rfl := so_some h
                  refine ⟨0, fun L hL => ?_⟩
                  simp only [go_sem, ir30, E_spec_l26Faults_l1, R_spec_l26Faults_l1, ir30_b0, ir30_k0, ir30_o0, ir30_r0, hk1, hk2, lhk2, xhk2, fhk3, ghk4, hhk4, fhk4, hk5, ghk6, hk6, lhk6, xhk6, ghk7, hk7, lhk7, xhk7, ghk8aa, ghk8abn, ghk8b, hk9]
                · try simp only [go_sem, n1, n2, n3, n4, hk1, hk2, ghk4, hhk4, hk5, ghk6, hk6, ghk7, hk7, ghk8aa, ghk8abn, ghk8b] at hk9
                  all_goals
                  obtain rfl := so_some h
                  refine ⟨0, fun L hL => ?_⟩
                  simp only [go_sem, ir30, E_spec_l26Faults_l1, R_spec_l26Faults_l1, ir30_b0, ir30_k0, ir30_o0, ir30_r0, hk1, hk2, lhk2, xhk2, fhk3, ghk4, hhk4, fhk4, hk5, ghk6, hk6, lhk6, xhk6, ghk7, hk7, lhk7, xhk7, ghk8aa, ghk8abn, ghk8b, hk9]
          · rcases and_f ghk7 with ghk7a | ⟨ghk7a, ghk7b⟩
            · try simp only [go_sem, n1, n2, n3, n4, hk1, hk2, ghk4, hhk4, hk5, ghk6, hk6] at ghk7a
              all_goals
              obtain ⟨hk8, h⟩ := ck_some h
              rcases or_split hk8 with ⟨ghk8, hk8⟩ | ghk8
              · try simp only [go_sem, n1, n2, n3, n4, hk1, hk2, ghk4, hhk4, hk5, ghk6, hk6, ghk7a] at ghk8
                all_goals
                have lhk8 := ix_lt hk8
                have xhk8 := getD_mapD Fault_av faults lhk8
                try simp only [go_sem] at lhk8
                try simp only [go_sem] at xhk8
                try simp only [go_sem, n1, n2, n3, n4, hk1, hk2, ghk4, hhk4, hk5, ghk6, hk6, ghk7a, ghk8] at hk8
                all_goals
                rcases it_some h with ⟨hk9, h⟩ | ⟨hk9, h⟩
                · try simp only [go_sem, n1, n2, n3, n4, hk1, hk2, ghk4, hhk4, hk5, ghk6, hk6, ghk7a, ghk8, hk8] at hk9
                  all_goals
                  obtain rfl := so_some h
                  refine ⟨0, fun L hL => ?_⟩
                  simp only [go_sem, ir30, E_spec_l26Faults_l1, R_spec_l26Faults_l1, ir30_b0, ir30_k0, ir30_o0, ir30_r0, hk1, hk2, lhk2, xhk2, fhk3, ghk4, hhk4, fhk4, hk5, ghk6, hk6, lhk6, xhk6, ghk7a, ghk8, hk8, lhk8, xhk8, hk9]
                · try simp only [go_sem, n1, n2, n3, n4, hk1, hk2, ghk4, hhk4, hk5, ghk6, hk6, ghk7a, ghk8, hk8] at hk9
                  all_goals
                  obtain rfl := so_some h
                  refine ⟨0, fun L hL => ?_⟩
                  simp only [go_sem, ir30, E_spec_l26Faults_l1, R_spec_l26Faults_l1, ir30_b0, ir30_k0, ir30_o0, ir30_r0, hk1, hk2, lhk2, xhk2, fhk3, ghk4, hhk4, fhk4, hk5, ghk6, hk6, lhk6, xhk6, ghk7a, ghk8, hk8, lhk8, xhk8, hk9]
              · rcases and_f ghk8 with ghk8a | ⟨ghk8a, ghk8b⟩
                · rcases and_f ghk8a with ghk8aa | ⟨ghk8aa, ghk8ab⟩
                  · try simp only [go_sem, n1, n2, n3, n4, hk1, hk2, ghk4, hhk4, hk5, ghk6, hk6, ghk7a] at ghk8aa
                    all_goals
                    rcases it_some h with ⟨hk9, h⟩ | ⟨hk9, h⟩
                    · try simp only [go_sem, n1, n2, n3, n4, hk1, hk2, ghk4, hhk4, hk5, ghk6, hk6, ghk7a, ghk8aa] at hk9
                      all_goals
                      obtain rfl := so_some h
                      refine ⟨0, fun L hL => ?_⟩
                      simp only [go_sem, ir30, E_spec_l26Faults_l1, R_spec_l26Faults_l1, ir30_b0, ir30_k0, ir30_o0, ir30_r0, hk1, hk2, lhk2, xhk2, fhk3, ghk4, hhk4, fhk4, hk5, ghk6, hk6, lhk6, xhk6, ghk7a, ghk8aa, hk9]
                    · try simp only [go_sem, n1, n2, n3, n4, hk1, hk2, ghk4, hhk4, hk5, ghk6, hk6, ghk7a, ghk8aa] at hk9
                      all_goals
                      obtain rfl := so_some h
                      refine ⟨0, fun L hL => ?_⟩
                      simp only [go_sem, ir30, E_spec_l26Faults_l1, R_spec_l26Faults_l1, ir30_b0, ir30_k0, ir30_o0, ir30_r0, hk1, hk2, lhk2, xhk2, fhk3, ghk4, hhk4, fhk4, hk5, ghk6, hk6, lhk6, xhk6, ghk7a, ghk8aa, hk9]
                  · have ghk8abn := no_f ghk8ab
                    try simp only [go_sem, n1, n2, n3, n4, hk1, hk2, ghk4, hhk4, hk5, ghk6, hk6, ghk7a] at ghk8aa
                    all_goals
                    try simp only [go_sem, n1, n2, n3, n4, hk1, hk2, ghk4, hhk4, hk5, ghk6, hk6, ghk7a, ghk8aa] at ghk8abn
                    all_goals
                    rcases it_some h with ⟨hk9, h⟩ | ⟨hk9, h⟩
                    · try simp only [go_sem, n1, n2, n3, n4, hk1, hk2, ghk4, hhk4, hk5, ghk6, hk6, ghk7a, ghk8aa, ghk8abn] at hk9
                      all_goals
                      obtain rfl := so_some h
                      refine ⟨0, fun L hL => ?_⟩
                      simp only [go_sem, ir30, E_spec_l26Faults_l1, R_spec_l26Faults_l1, ir30_b0, ir30_k0, ir30_o0, ir30_r0, hk1, hk2, lhk2, xhk2, fhk3, ghk4, hhk4, fhk4, hk5, ghk6, hk6, lhk6, xhk6, ghk7a, ghk8aa, ghk8abn, hk9]
                    · try simp only [go_sem, n1, n2, n3, n4, hk1, hk2, ghk4, hhk4, hk5, ghk6, hk6, ghk7a, ghk8aa, ghk8abn] at hk9
                      all_goals
                      obtain rfl := so_some h
                      refine ⟨0, fun L hL => ?_⟩
                      simp only [go_sem, ir30, E_spec_l26Faults_l1, R_spec_l26Faults_l1, ir30_b0, ir30_k0, ir30_o0, ir30_r0, hk1, hk2, lhk2, xhk2, fhk3, ghk4, hhk4, fhk4, hk5, ghk6, hk6, lhk6, xhk6, ghk7a, ghk8aa, ghk8abn, hk9]
                · obtain ⟨ghk8aa, ghk8ab⟩ := and_t ghk8a
                  have ghk8abn := no_t ghk8ab
                  try simp only [go_sem, n1, n2, n3, n4, hk1, hk2, ghk4, hhk4, hk5, ghk6, hk6, ghk7a] at ghk8aa
                  all_goals
                  try simp only [go_sem, n1, n2, n3, n4, hk1, hk2, ghk4, hhk4, hk5, ghk6, hk6, ghk7a, ghk8aa] at ghk8abn
                  all_goals
                  try simp only [go_sem, n1, n2, n3, n4, hk1, hk2, ghk4, hhk4, hk5, ghk6, hk6, ghk7a, ghk8aa, ghk8abn] at ghk8b
                  all_goals
                  rcases it_some h with ⟨hk9, h⟩ | ⟨hk9, h⟩
                  · try simp only [go_sem, n1, n2, n3, n4, hk1, hk2, ghk4, hhk4, hk5, ghk6, hk6, ghk7a, ghk8aa, ghk8abn, ghk8b] at hk9
                    all_goals
                    obtain rfl := so_some h
                    refine ⟨0, fun L hL => ?_⟩
                    simp only [go_sem, ir30, E_spec_l26Faults_l1, R_spec_l26Faults_l1, ir30_b0, ir30_k0, ir30_o0, ir30_r0, hk1, hk2, lhk2, xhk2, fhk3, ghk4, hhk4, fhk4, hk5, ghk6, hk6, lhk6, xhk6, ghk7a, ghk8aa, ghk8abn, ghk8b, hk9]
                  · try simp only [go_sem, n1, n2, n3, n4, hk1, hk2, ghk4, hhk4, hk5, ghk6, hk6, ghk7a, ghk8aa, ghk8abn, ghk8b] at hk9
                    all_goals
                    obtain rfl := so_some h
                    refine ⟨0, fun L hL => ?_⟩
                    simp only [go_sem, ir30, E_spec_l26Faults_l1, R_spec_l26Faults_l1, ir30_b0, ir30_k0, ir30_o0, ir30_r0, hk1, hk2, lhk2, xhk2, fhk3, ghk4, hhk4, fhk4, hk5, ghk6, hk6, lhk6, xhk6, ghk7a, ghk8aa, ghk8abn, ghk8b, hk9]
            · have ghk7bn := no_f ghk7b
              try simp only [go_sem, n1, n2, n3, n4, hk1, hk2, ghk4, hhk4, hk5, ghk6, hk6] at ghk7a
              all_goals
              try simp only [go_sem, n1, n2, n3, n4, hk1, hk2, ghk4, hhk4, hk5, ghk6, hk6, ghk7a] at ghk7bn
              all_goals
              obtain ⟨hk8, h⟩ := ck_some h
              rcases or_split hk8 with ⟨ghk8, hk8⟩ | ghk8
              · try simp only [go_sem, n1, n2, n3, n4, hk1, hk2, ghk4, hhk4, hk5, ghk6, hk6, ghk7a, ghk7bn] at ghk8
                all_goals
                have lhk8 := ix_lt hk8
                have xhk8 := getD_mapD Fault_av faults lhk8
                try simp only [go_sem] at lhk8
                try simp only [go_sem] at xhk8
                try simp only [go_sem, n1, n2, n3, n4, hk1, hk2, ghk4, hhk4, hk5, ghk6, hk6, ghk7a, ghk7bn, ghk8] at hk8
                all_goals
                rcases it_some h with ⟨hk9, h⟩ | ⟨hk9, h⟩
                · try simp only [go_sem, n1, n2, n3, n4, hk1, hk2, ghk4, hhk4, hk5, ghk6, hk6, ghk7a, ghk7bn, ghk8, hk8] at hk9
                  all_goals
                  obtain rfl := so_some h
                  refine ⟨0, fun L hL => ?_⟩
                  simp only [go_sem, ir30, E_spec_l26Faults_l1, R_spec_l26Faults_l1, ir30_b0, ir30_k0, ir30_o0, ir30_r0, hk1, hk2, lhk2, xhk2, fhk3, ghk4, hhk4, fhk4, hk5, ghk6, hk6, lhk6, xhk6, ghk7a, ghk7bn, ghk8, hk8, lhk8, xhk8, hk9]
                · try simp only [go_sem, n1, n2, n3, n4, hk1, hk2, ghk4, hhk4, hk5, ghk6, hk6, ghk7a, ghk7bn, ghk8, hk8] at hk9
                  all_goals
                  obtain rfl := so_some h
                  refine ⟨0, fun L hL => ?_⟩
                  simp only [go_sem, ir30, E_spec_l26Faults_l1, R_spec_l26Faults_l1, ir30_b0, ir30_k0, ir30_o0, ir30_r0, hk1, hk2, lhk2, xhk2, fhk3, ghk4, hhk4, fhk4, hk5, ghk6, hk6, lhk6, xhk6, ghk7a, ghk7bn, ghk8, hk8, lhk8, xhk8, hk9]
              · rcases and_f ghk8 with ghk8a | ⟨ghk8a, ghk8b⟩
                · rcases and_f ghk8a with ghk8aa | ⟨ghk8aa, ghk8ab⟩
                  · try simp only [go_sem, n1, n2, n3, n4, hk1, hk2, ghk4, hhk4, hk5, ghk6, hk6, ghk7a, ghk7bn] at ghk8aa
                    all_goals
                    rcases it_some h with ⟨hk9, h⟩ | ⟨hk9, h⟩
                    · try simp only [go_sem, n1, n2, n3, n4, hk1, hk2, ghk4, hhk4, hk5, ghk6, hk6, ghk7a, ghk7bn, ghk8aa] at hk9
                      all_goals
                      obtain rfl := so_some h
                      refine ⟨0, fun L hL => ?_⟩
                      simp only [go_sem, ir30, E_spec_l26Faults_l1, R_spec_l26Faults_l1, ir30_b0, ir30_k0, ir30_o0, ir30_r0, hk1, hk2, lhk2, xhk2, fhk3, ghk4, hhk4, fhk4, hk5, ghk6, hk6, lhk6, xhk6, ghk7a, ghk7bn, ghk8aa, hk9]
                    · try simp only [go_sem, n1, n2, n3, n4, hk1, hk2, ghk4, hhk4, hk5, ghk6, hk6, ghk7a, ghk7bn, ghk8aa] at hk9
                      all_goals
                      obtain rfl := so_some h
                      refine ⟨0, fun L hL => ?_⟩
                      simp only [go_sem, ir30, E_spec_l26Faults_l1, R_spec_l26Faults_l1, ir30_b0, ir30_k0, ir30_o0, ir30_r0, hk1, hk2, lhk2, xhk2, fhk3, ghk4, hhk4, fhk4, hk5, ghk6, hk6, lhk6, xhk6, ghk7a, ghk7bn, ghk8aa, hk9]
                  · have ghk8abn := no_f ghk8ab
                    try simp only [go_sem, n1, n2, n3, n4, hk1, hk2, ghk4, hhk4, hk5, ghk6, hk6, ghk7a, ghk7bn] at ghk8aa
                    all_goals
                    try simp only [go_sem, n1, n2, n3, n4, hk1, hk2, ghk4, hhk4, hk5, ghk6, hk6, ghk7a, ghk7bn, ghk8aa] at ghk8abn
                    all_goals
                    rcases it_some h with ⟨hk9, h⟩ | ⟨hk9, h⟩
                    · try simp only [go_sem, n1, n2, n3, n4, hk1, hk2, ghk4, hhk4, hk5, ghk6, hk6, ghk7a, ghk7bn, ghk8aa, ghk8abn] at hk9
                      all_goals
                      obtain rfl := so_some h
                      refine ⟨0, fun L hL => ?_⟩
                      simp only [go_sem, ir30, E_spec_l26Faults_l1, R_spec_l26Faults_l1, ir30_b0, ir30_k0, ir30_o0, ir30_r0, hk1, hk2, lhk2, xhk2, fhk3, ghk4, hhk4, fhk4, hk5, ghk6, hk6, lhk6, xhk6, ghk7a, ghk7bn, ghk8aa, ghk8abn, hk9]
                    · try simp only [go_sem, n1, n2, n3, n4, hk1, hk2, ghk4, hhk4, hk5, ghk6, hk6, ghk7a, ghk7bn, ghk8aa, ghk8abn] at hk9
                      all_goals
                      obtain rfl := so_some h
                      refine ⟨0, fun L hL => ?_⟩
                      simp only [go_sem, ir30, E_spec_l26Faults_l1, R_spec_l26Faults_l1, ir30_b0, ir30_k0, ir30_o0, ir30_r0, hk1, hk2, lhk2, xhk2, fhk3, ghk4, hhk4, fhk4, hk5, ghk6, hk6, lhk6, xhk6, ghk7a, ghk7bn, ghk8aa, ghk8abn, hk9]
                · obtain ⟨ghk8aa, ghk8ab⟩ := and_t ghk8a
                  have ghk8abn := no_t ghk8ab
                  try simp only [go_sem, n1, n2, n3, n4, hk1, hk2, ghk4, hhk4, hk5, ghk6, hk6, ghk7a, ghk7bn] at ghk8aa
                  all_goals
                  try simp only [go_sem, n1, n2, n3, n4, hk1, hk2, ghk4, hhk4, hk5, ghk6, hk6, ghk7a, ghk7bn, ghk8aa] at ghk8abn
                  all_goals
                  try simp only [go_sem, n1, n2, n3, n4, hk1, hk2, ghk4, hhk4, hk5, ghk6, hk6, ghk7a, ghk7bn, ghk8aa, ghk8abn] at ghk8b
                  all_goals
                  rcases it_some h with ⟨hk9, h⟩ | ⟨hk9, h⟩
                  · try simp only [go_sem, n1, n2, n3, n4, hk1, hk2, ghk4, hhk4, hk5, ghk6, hk6, ghk7a, ghk7bn, ghk8aa, ghk8abn, ghk8b] at hk9
                    all_goals
                    obtain rfl := so_some h
                    refine ⟨0, fun L hL => ?_⟩
                    simp only [go_sem, ir30, E_spec_l26Faults_l1, R_spec_l26Faults_l1, ir30_b0, ir30_k0, ir30_o0, ir30_r0, hk1, hk2, lhk2, xhk2, fhk3, ghk4, hhk4, fhk4, hk5, ghk6, hk6, lhk6, xhk6, ghk7a, ghk7bn, ghk8aa, ghk8abn, ghk8b, hk9]
                  · try simp only [go_sem, n1, n2, n3, n4, hk1, hk2, ghk4, hhk4, hk5, ghk6, hk6, ghk7a, ghk7bn, ghk8aa, ghk8abn, ghk8b] at hk9
                    all_goals
                    obtain rfl := so_some h
                    refine ⟨0, fun L hL => ?_⟩
                    simp only [go_sem, ir30, E_spec_l26Faults_l1, R_spec_l26Faults_l1, ir30_b0, ir30_k0, ir30_o0, ir30_r0, hk1, hk2, lhk2, xhk2, fhk3, ghk4, hhk4, fhk4, hk5, ghk6, hk6, lhk6, xhk6, ghk7a, ghk7bn, ghk8aa, ghk8abn, ghk8b, hk9]
        · try simp only [go_sem, n1, n2, n3, n4, hk1, hk2, ghk4, hhk4, hk5] at ghk6
          all_goals
          obtain ⟨hk7, h⟩ := ck_some h
          rcases or_split hk7 with ⟨ghk7, hk7⟩ | ghk7
          · try simp only [go_sem, n1, n2, n3, n4, hk1, hk2, ghk4, hhk4, hk5, ghk6] at ghk7
            all_goals
            have lhk7 := ix_lt hk7
            have xhk7 := getD_mapD Fault_av faults lhk7
            try simp only [go_sem] at lhk7
            try simp only [go_sem] at xhk7
            try simp only [go_sem, n1, n2, n3, n4, hk1, hk2, ghk4, hhk4, hk5, ghk6, ghk7] at hk7
            all_goals
            obtain ⟨hk8, h⟩ := ck_some h
            rcases or_split hk8 with ⟨ghk8, hk8⟩ | ghk8
            · try simp only [go_sem, n1, n2, n3, n4, hk1, hk2, ghk4, hhk4, hk5, ghk6, ghk7, hk7] at ghk8
              all_goals
              have lhk8 := ix_lt hk8
              have xhk8 := getD_mapD Fault_av faults lhk8
              try simp only [go_sem] at lhk8
              try simp only [go_sem] at xhk8
              try simp only [go_sem, n1, n2, n3, n4, hk1, hk2, ghk4, hhk4, hk5, ghk6, ghk7, hk7, ghk8] at hk8
              all_goals
              rcases it_some h with ⟨hk9, h⟩ | ⟨hk9, h⟩
              · try simp only [go_sem, n1, n2, n3, n4, hk1, hk2, ghk4, hhk4, hk5, ghk6, ghk7, hk7, ghk8, hk8] at hk9
                all_goals
                obtain rfl := so_some h
                refine ⟨0, fun L hL => ?_⟩
                simp only [go_sem, ir30, E_spec_l26Faults_l1, R_spec_l26Faults_l1, ir30_b0, ir30_k0, ir30_o0, ir30_r0, hk1, hk2, lhk2, xhk2, fhk3, ghk4, hhk4, fhk4, hk5, ghk6, ghk7, hk7, lhk7, xhk7, ghk8, hk8, lhk8, xhk8, hk9]
              · try simp only [go_sem, n1, n2, n3, n4, hk1, hk2, ghk4, hhk4, hk5, ghk6, ghk7, hk7, ghk8, hk8] at hk9
                all_goals
                obtain rfl := so_some h
                refine ⟨0, fun L hL => ?_⟩
                simp only [go_sem, ir30, E_spec_l26Faults_l1, R_spec_l26Faults_l1, ir30_b0, ir30_k0, ir30_o0, ir30_r0, hk1, hk2, lhk2, xhk2, fhk3, ghk4, hhk4, fhk4, hk5, ghk6, ghk7, hk7, lhk7, xhk7, ghk8, hk8, lhk8, xhk8, hk9]
            · rcases and_f ghk8 with ghk8a | ⟨ghk8a, ghk8b⟩
              · rcases and_f ghk8a with ghk8aa | ⟨ghk8aa, ghk8ab⟩
                · try simp only [go_sem, n1, n2, n3, n4, hk1, hk2, ghk4, hhk4, hk5, ghk6, ghk7, hk7] at ghk8aa
                  all_goals
                  rcases it_some h with ⟨hk9, h⟩ | ⟨hk9, h⟩
                  · try simp only [go_sem, n1, n2, n3, n4, hk1, hk2, ghk4, hhk4, hk5, ghk6, ghk7, hk7, ghk8aa] at hk9
                    all_goals
                    obtain rfl := so_some h
                    refine ⟨0, fun L hL => ?_⟩
                    simp only [go_sem, ir30, E_spec_l26Faults_l1, R_spec_l26Faults_l1, ir30_b0, ir30_k0, ir30_o0, ir30_r0, hk1, hk2, lhk2, xhk2, fhk3, ghk4, hhk4, fhk4, hk5, ghk6, ghk7, hk7, lhk7, xhk7, ghk8aa, hk9]
                  · try simp only [go_sem, n1, n2, n3, n4, hk1, hk2, ghk4, hhk4, hk5, ghk6, ghk7, hk7, ghk8aa] at hk9
                    all_goals
                    obtain rfl := so_some h
                    refine ⟨0, fun L hL => ?_⟩
                    simp only [go_sem, ir30, E_spec_l26Faults_l1, R_spec_l26Faults_l1, ir30_b0, ir30_k0, ir30_o0, ir30_r0, hk1, hk2, lhk2, xhk2, fhk3, ghk4, hhk4, fhk4, hk5, ghk6, ghk7, hk7, lhk7, xhk7, ghk8aa, hk9]
                · have ghk8abn := no_f ghk8ab
                  try simp only [go_sem, n1, n2, n3, n4, hk1, hk2, ghk4, hhk4, hk5, ghk6, ghk7, hk7] at ghk8aa
                  all_goals
                  try simp only [go_sem, n1, n2, n3, n4, hk1, hk2, ghk4, hhk4, hk5, ghk6, ghk7, hk7, ghk8aa] at ghk8abn
                  all_goals
                  rcases it_some h with ⟨hk9, h⟩ | ⟨hk9, h⟩
                  · try simp only [go_sem, n1, n2, n3, n4, hk1, hk2, ghk4, hhk4, hk5, ghk6, ghk7, hk7, ghk8aa, ghk8abn] at hk9
                    all_goals
                    obtain rfl := so_some h
                    refine ⟨0, fun L hL => ?_⟩
                    simp only [go_sem, ir30, E_spec_l26Faults_l1, R_spec_l26Faults_l1, ir30_b0, ir30_k0, ir30_o0, ir30_r0, hk1, hk2, lhk2, xhk2, fhk3, ghk4, hhk4, fhk4, hk5, ghk6, ghk7, hk7, lhk7, xhk7, ghk8aa, ghk8abn, hk9]
                  · try simp only [go_sem, n1, n2, n3, n4, hk1, hk2, ghk4, hhk4, hk5, ghk6, ghk7, hk7, ghk8aa, ghk8abn] at hk9
                    all_goals
                    obtain rfl := so_some h
                    refine ⟨0, fun L hL => ?_⟩
                    simp only [go_sem, ir30, E_spec_l26Faults_l1, R_spec_l26Faults_l1, ir30_b0, ir30_k0, ir30_o0, ir30_r0, hk1, hk2, lhk2, xhk2, fhk3, ghk4, hhk4, fhk4, hk5, ghk6, ghk7, hk7, lhk7, xhk7, ghk8aa, ghk8abn, hk9]
              · obtain ⟨ghk8aa, ghk8ab⟩ := and_t ghk8a
                have ghk8abn := no_t ghk8ab
                try simp only [go_sem, n1, n2, n3, n4, hk1, hk2, ghk4, hhk4, hk5, ghk6, ghk7, hk7] at ghk8aa
                all_goals
                try simp only [go_sem, n1, n2, n3, n4, hk1, hk2, ghk4, hhk4, hk5, ghk6, ghk7, hk7, ghk8aa] at ghk8abn
                all_goals
                try simp only [go_sem, n1, n2, n3, n4, hk1, hk2, ghk4, hhk4, hk5, ghk6, ghk7, hk7, ghk8aa, ghk8abn] at ghk8b
                all_goals
                rcases it_some h with ⟨hk9, h⟩ | ⟨hk9, h⟩
                · try simp only [go_sem, n1, n2, n3, n4, hk1, hk2, ghk4, hhk4, hk5, ghk6, ghk7, hk7, ghk8aa, ghk8abn, ghk8b] at hk9
                  all_goals
                  obtain rfl := so_some h
                  refine ⟨0, fun L hL => ?_⟩
                  simp only [go_sem, ir30, E_spec_l26Faults_l1, R_spec_l26Faults_l1, ir30_b0, ir30_k0, ir30_o0, ir30_r0, hk1, hk2, lhk2, xhk2, fhk3, ghk4, hhk4, fhk4, hk5, ghk6, ghk7, hk7, lhk7, xhk7, ghk8aa, ghk8abn, ghk8b, hk9]
                · try simp only [go_sem, n1, n2, n3, n4, hk1, hk2, ghk4, hhk4, hk5, ghk6, ghk7, hk7, ghk8aa, ghk8abn, ghk8b] at hk9
                  all_goals
                  obtain rfl := so_some h
                  refine ⟨0, fun L hL => ?_⟩
                  simp only [go_sem, ir30, E_spec_l26Faults_l1, R_spec_l26Faults_l1, ir30_b0, ir30_k0, ir30_o0, ir30_r0, hk1, hk2, lhk2, xhk2, fhk3, ghk4, hhk4, fhk4, hk5, ghk6, ghk7, hk7, lhk7, xhk7, ghk8aa, ghk8abn, ghk8b, hk9]
          · rcases and_f ghk7 with ghk7a | ⟨ghk7a, ghk7b⟩
            · try simp only [go_sem, n1, n2, n3, n4, hk1, hk2, ghk4, hhk4, hk5, ghk6] at ghk7a
              all_goals
              obtain ⟨hk8, h⟩ := ck_some h
              rcases or_split hk8 with ⟨ghk8, hk8⟩ | ghk8
              · try simp only [go_sem, n1, n2, n3, n4, hk1, hk2, ghk4, hhk4, hk5, ghk6, ghk7a] at ghk8
                all_goals
                have lhk8 := ix_lt hk8
                have xhk8 := getD_mapD Fault_av faults lhk8
                try simp only [go_sem] at lhk8
                try simp only [go_sem] at xhk8
                try simp only [go_sem, n1, n2, n3, n4, hk1, hk2, ghk4, hhk4, hk5, ghk6, ghk7a, ghk8] at hk8
                all_goals
                rcases it_some h with ⟨hk9, h⟩ | ⟨hk9, h⟩
                · try simp only [go_sem, n1, n2, n3, n4, hk1, hk2, ghk4, hhk4, hk5, ghk6, ghk7a, ghk8, hk8] at hk9
                  all_goals
                  obtain rfl := so_some h
                  refine ⟨0, fun L hL => ?_⟩
                  simp only [go_sem, ir30, E_spec_l26Faults_l1, R_spec_l26Faults_l1, ir30_b0, ir30_k0, ir30_o0, ir30_r0, hk1, hk2, lhk2, xhk2, fhk3, ghk4, hhk4, fhk4, hk5, ghk6, ghk7a, ghk8, hk8, lhk8, xhk8, hk9]
                · try simp only [go_sem, n1, n2, n3, n4, hk1, hk2, ghk4, hhk4, hk5, ghk6, ghk7a, ghk8, hk8] at hk9
                  all_goals
                  obtain rfl := so_some h
                  refine ⟨0, fun L hL => ?_⟩
                  simp only [go_sem, ir30, E_spec_l26Faults_l1, R_spec_l26Faults_l1, ir30_b0, ir30_k0, ir30_o0, ir30_r0, hk1, hk2, lhk2, xhk2, fhk3, ghk4, hhk4, fhk4, hk5, ghk6, ghk7a, ghk8, hk8, lhk8, xhk8, hk9]
              · rcases and_f ghk8 with ghk8a | ⟨ghk8a, ghk8b⟩
                · rcases and_f ghk8a with ghk8aa | ⟨ghk8aa, ghk8ab⟩
                  · try simp only [go_sem, n1, n2, n3, n4, hk1, hk2, ghk4, hhk4, hk5, ghk6, ghk7a] at ghk8aa
                    all_goals
                    rcases it_some h with ⟨hk9, h⟩ | ⟨hk9, h⟩
                    · try simp only [go_sem, n1, n2, n3, n4, hk1, hk2, ghk4, hhk4, hk5, ghk6, ghk7a, ghk8aa] at hk9
                      all_goals
                      obtain rfl := so_some h
                      refine ⟨0, fun L hL => ?_⟩
                      simp only [go_sem, ir30, E_spec_l26Faults_l1, R_spec_l26Faults_l1, ir30_b0, ir30_k0, ir30_o0, ir30_r0, hk1, hk2, lhk2, xhk2, fhk3, ghk4, hhk4, fhk4, hk5, ghk6, ghk7a, ghk8aa, hk9]
                    · try simp only [go_sem, n1, n2, n3, n4, hk1, hk2, ghk4, hhk4, hk5, ghk6, ghk7a, ghk8aa] at hk9
                      all_goals
                      obtain rfl := so_some h
                      refine ⟨0, fun L hL => ?_⟩
                      simp only [go_sem, ir30, E_spec_l26Faults_l1, R_spec_l26Faults_l1, ir30_b0, ir30_k0, ir30_o0, ir30_r0, hk1, hk2, lhk2, xhk2, fhk3, ghk4, hhk4, fhk4, hk5, ghk6, ghk7a, ghk8aa, hk9]
                  · have ghk8abn := no_f ghk8ab
                    try simp only [go_sem, n1, n2, n3, n4, hk1, hk2, ghk4, hhk4, hk5, ghk6, ghk7a] at ghk8aa
                    all_goals
                    try simp only [go_sem, n1, n2, n3, n4, hk1, hk2, ghk4, hhk4, hk5, ghk6, ghk7a, ghk8aa] at ghk8abn
                    all_goals
                    rcases it_some h with ⟨hk9, h⟩ | ⟨hk9, h⟩
                    · try simp only [go_sem, n1, n2, n3, n4, hk1, hk2, ghk4, hhk4, hk5, ghk6, ghk7a, ghk8aa, ghk8abn] at hk9
                      all_goals
                      obtain rfl := so_some h
                      refine ⟨0, fun L hL => ?_⟩
                      simp only [go_sem, ir30, E_spec_l26Faults_l1, R_spec_l26Faults_l1, ir30_b0, ir30_k0, ir30_o0, ir30_r0, hk1, hk2, lhk2, xhk2, fhk3, ghk4, hhk4, fhk4, hk5, ghk6, ghk7a, ghk8aa, ghk8abn, hk9]
                    · try simp only [go_sem, n1, n2, n3, n4, hk1, hk2, ghk4, hhk4, hk5, ghk6, ghk7a, ghk8aa, ghk8abn] at hk9
                      all_goals
                      obtain rfl := so_some h
                      refine ⟨0, fun L hL => ?_⟩
                      simp only [go_sem, ir30, E_spec_l26Faults_l1, R_spec_l26Faults_l1, ir30_b0, ir30_k0, ir30_o0, ir30_r0, hk1, hk2, lhk2, xhk2, fhk3, ghk4, hhk4, fhk4, hk5, ghk6, ghk7a, ghk8aa, ghk8abn, hk9]
                · obtain ⟨ghk8aa, ghk8ab⟩ := and_t ghk8a
                  have ghk8abn := no_t ghk8ab
                  try simp only [go_sem, n1, n2, n3, n4, hk1, hk2, ghk4, hhk4, hk5, ghk6, ghk7a] at ghk8aa
                  all_goals
                  try simp only [go_sem, n1, n2, n3, n4, hk1, hk2, ghk4, hhk4, hk5, ghk6, ghk7a, ghk8aa] at ghk8abn
                  all_goals
                  try simp only [go_sem, n1, n2, n3, n4, hk1, hk2, ghk4, hhk4, hk5, ghk6, ghk7a, ghk8aa, ghk8abn] at ghk8b
                  all_goals
                  rcases it_some h with ⟨hk9, h⟩ | ⟨hk9, h⟩
                  · try simp only [go_sem, n1, n2, n3, n4, hk1, hk2, ghk4, hhk4, hk5, ghk6, ghk7a, ghk8aa, ghk8abn, ghk8b] at hk9
                    all_goals
                    obtain rfl := so_some h
                    refine ⟨0, fun L hL => ?_⟩
                    simp only [go_sem, ir30, E_spec_l26Faults_l1, R_spec_l26Faults_l1, ir30_b0, ir30_k0, ir30_o0, ir30_r0, hk1, hk2, lhk2, xhk2, fhk3, ghk4, hhk4, fhk4, hk5, ghk6, ghk7a, ghk8aa, ghk8abn, ghk8b, hk9]
                  · try simp only [go_sem, n1, n2, n3, n4, hk1, hk2, ghk4, hhk4, hk5, ghk6, ghk7a, ghk8aa, ghk8abn, ghk8b] at hk9
                    all_goals
                    obtain rfl := so_some h
                    refine ⟨0, fun L hL => ?_⟩
                    simp only [go_sem, ir30, E_spec_l26Faults_l1, R_spec_l26Faults_l1, ir30_b0, ir30_k0, ir30_o0, ir30_r0, hk1, hk2, lhk2, xhk2, fhk3, ghk4, hhk4, fhk4, hk5, ghk6, ghk7a, ghk8aa, ghk8abn, ghk8b, hk9]
            · have ghk7bn := no_f ghk7b
              try simp only [go_sem, n1, n2, n3, n4, hk1, hk2, ghk4, hhk4, hk5, ghk6] at ghk7a
              all_goals
              try simp only [go_sem, n1, n2, n3, n4, hk1, hk2, ghk4, hhk4, hk5, ghk6, ghk7a] at ghk7bn
              all_goals
              obtain ⟨hk8, h⟩ := ck_some h
              rcases or_split hk8 with ⟨ghk8, hk8⟩ | ghk8
              · try simp only [go_sem, n1, n2, n3, n4, hk1, hk2, ghk4, hhk4, hk5, ghk6, ghk7a, ghk7bn] at ghk8
                all_goals
                have lhk8 := ix_lt hk8
                have xhk8 := getD_mapD Fault_av faults lhk8
                try simp only [go_sem] at lhk8
                try simp only [go_sem] at xhk8
                try simp only [go_sem, n1, n2, n3, n4, hk1, hk2, ghk4, hhk4, hk5, ghk6, ghk7a, ghk7bn, ghk8] at hk8
                all_goals
                rcases it_some h with ⟨hk9, h⟩ | ⟨hk9, h⟩
                · try simp only [go_sem, n1, n2, n3, n4, hk1, hk2, ghk4, hhk4, hk5, ghk6, ghk7a, ghk7bn, ghk8, hk8] at hk9
                  all_goals
                  obtain rfl := so_some h
                  refine ⟨0, fun L hL => ?_⟩
                  simp only [go_sem, ir30, E_spec_l26Faults_l1, R_spec_l26Faults_l1, ir30_b0, ir30_k0, ir30_o0, ir30_r0, hk1, hk2, lhk2, xhk2, fhk3, ghk4, hhk4, fhk4, hk5, ghk6, ghk7a, ghk7bn, ghk8, hk8, lhk8, xhk8, hk9]
                · try simp only [go_sem, n1, n2, n3, n4, hk1, hk2, ghk4, hhk4, hk5, ghk6, ghk7a, ghk7bn, ghk8, hk8] at hk9
                  all_goals
                  obtain rfl := so_some h
                  refine ⟨0, fun L hL => ?_⟩
                  simp only [go_sem, ir30, E_spec_l26Faults_l1, R_spec_l26Faults_l1, ir30_b0, ir30_k0, ir30_o0, ir30_r0, hk1, hk2, lhk2, xhk2, fhk3, ghk4, hhk4, fhk4, hk5, ghk6, ghk7a, ghk7bn, ghk8, hk8, lhk8, xhk8, hk9]
              · rcases and_f ghk8 with ghk8a | ⟨ghk8a, ghk8b⟩
                · rcases and_f ghk8a with ghk8aa | ⟨ghk8aa, ghk8ab⟩
                  · try simp only [go_sem, n1, n2, n3, n4, hk1, hk2, ghk4, hhk4, hk5, ghk6, ghk7a, ghk7bn] at ghk8aa
                    all_goals
                    rcases it_some h with ⟨hk9, h⟩ | ⟨hk9, h⟩
                    · try simp only [go_sem, n1, n2, n3, n4, hk1, hk2, ghk4, hhk4, hk5, ghk6, ghk7a, ghk7bn, ghk8aa] at hk9
                      all_goals
                      obtain rfl := so_some h
                      refine ⟨0, fun L hL => ?_⟩
                      simp only [go_sem, ir30, E_spec_l26Faults_l1, R_spec_l26Faults_l1, ir30_b0, ir30_k0, ir30_o0, ir30_r0, hk1, hk2, lhk2, xhk2, fhk3, ghk4, hhk4, fhk4, hk5, ghk6, ghk7a, ghk7bn, ghk8aa, hk9]
                    · try simp only [go_sem, n1, n2, n3, n4, hk1, hk2, ghk4, hhk4, hk5, ghk6, ghk7a, ghk7bn, ghk8aa] at hk9
                      all_goals
                      obtain rfl := so_some h
                      refine ⟨0, fun L hL => ?_⟩
                      simp only [go_sem, ir30, E_spec_l26Faults_l1, R_spec_l26Faults_l1, ir30_b0, ir30_k0, ir30_o0, ir30_r0, hk1, hk2, lhk2, xhk2, fhk3, ghk4, hhk4, fhk4, hk5, ghk6, ghk7a, ghk7bn, ghk8aa, hk9]
                  · have ghk8abn := no_f ghk8ab
                    try simp only [go_sem, n1, n2, n3, n4, hk1, hk2, ghk4, hhk4, hk5, ghk6, ghk7a, ghk7bn] at ghk8aa
                    all_goals
                    try simp only [go_sem, n1, n2, n3, n4, hk1, hk2, ghk4, hhk4, hk5, ghk6, ghk7a, ghk7bn, ghk8aa] at ghk8abn
                    all_goals
                    rcases it_some h with ⟨hk9, h⟩ | ⟨hk9, h⟩
                    · try simp only [go_sem, n1, n2, n3, n4, hk1, hk2, ghk4, hhk4, hk5, ghk6, ghk7a, ghk7bn, ghk8aa, ghk8abn] at hk9
                      all_goals
                      obtain rfl := so_some h
                      refine ⟨0, fun L hL => ?_⟩
                      simp only [go_sem, ir30, E_spec_l26Faults_l1, R_spec_l26Faults_l1, ir30_b0, ir30_k0, ir30_o0, ir30_r0, hk1, hk2, lhk2, xhk2, fhk3, ghk4, hhk4, fhk4, hk5, ghk6, ghk7a, ghk7bn, ghk8aa, ghk8abn, hk9]
                    · try simp only [go_sem, n1, n2, n3, n4, hk1, hk2, ghk4, hhk4, hk5, ghk6, ghk7a, ghk7bn, ghk8aa, ghk8abn] at hk9
                      all_goals
                      obtain rfl := so_some h
                      refine ⟨0, fun L hL => ?_⟩
                      simp only [go_sem, ir30, E_spec_l26Faults_l1, R_spec_l26Faults_l1, ir30_b0, ir30_k0, ir30_o0, ir30_r0, hk1, hk2, lhk2, xhk2, fhk3, ghk4, hhk4, fhk4, hk5, ghk6, ghk7a, ghk7bn, ghk8aa, ghk8abn, hk9]
                · obtain ⟨ghk8aa, ghk8ab⟩ := and_t ghk8a
                  have ghk8abn := no_t ghk8ab
                  try simp only [go_sem, n1, n2, n3, n4, hk1, hk2, ghk4, hhk4, hk5, ghk6, ghk7a, ghk7bn] at ghk8aa
                  all_goals
                  try simp only [go_sem, n1, n2, n3, n4, hk1, hk2, ghk4, hhk4, hk5, ghk6, ghk7a, ghk7bn, ghk8aa] at ghk8abn
                  all_goals
                  try simp only [go_sem, n1, n2, n3, n4, hk1, hk2, ghk4, hhk4, hk5, ghk6, ghk7a, ghk7bn, ghk8aa, ghk8abn] at ghk8b
                  all_goals
                  rcases it_some h with ⟨hk9, h⟩ | ⟨hk9, h⟩
                  · try simp only [go_sem, n1, n2, n3, n4, hk1, hk2, ghk4, hhk4, hk5, ghk6, ghk7a, ghk7bn, ghk8aa, ghk8abn, ghk8b] at hk9
                    all_goals
                    obtain rfl := so_some h
                    refine ⟨0, fun L hL => ?_⟩
                    simp only [go_sem, ir30, E_spec_l26Faults_l1, R_spec_l26Faults_l1, ir30_b0, ir30_k0, ir30_o0, ir30_r0, hk1, hk2, lhk2, xhk2, fhk3, ghk4, hhk4, fhk4, hk5, ghk6, ghk7a, ghk7bn, ghk8aa, ghk8abn, ghk8b, hk9]
                  · try simp only [go_sem, n1, n2, n3, n4, hk1, hk2, ghk4, hhk4, hk5, ghk6, ghk7a, ghk7bn, ghk8aa, ghk8abn, ghk8b] at hk9
                    all_goals
                    obtain rfl := so_some h
                    refine ⟨0, fun L hL => ?_⟩
                    simp only [go_sem, ir30, E_spec_l26Faults_l1, R_spec_l26Faults_l1, ir30_b0, ir30_k0, ir30_o0, ir30_r0, hk1, hk2, lhk2, xhk2, fhk3, ghk4, hhk4, fhk4, hk5, ghk6, ghk7a, ghk7bn, ghk8aa, ghk8abn, ghk8b, hk9]
    · have ghk4n := no_f ghk4
      have ghk4nn := no_t ghk4n
      try simp only [go_sem, n1, n2, n3, n4, hk1, hk2] at ghk4nn
      all_goals
      rcases it_some h with ⟨hk5, h⟩ | ⟨hk5, h⟩
      · try simp only [go_sem, n1, n2, n3, n4, hk1, hk2, ghk4nn] at hk5
        all_goals
        obtain rfl := so_some h
        refine ⟨0, fun L hL => ?_⟩
        simp only [go_sem, ir30, E_spec_l26Faults_l1, R_spec_l26Faults_l1, ir30_b0, ir30_k0, ir30_o0, ir30_r0, hk1, hk2, lhk2, xhk2, fhk3, ghk4nn, hk5]
      · try simp only [go_sem, n1, n2, n3, n4, hk1, hk2, ghk4nn] at hk5
        all_goals
        obtain ⟨hk6, h⟩ := ck_some h
        rcases or_split hk6 with ⟨ghk6, hk6⟩ | ghk6
        · try simp only [go_sem, n1, n2, n3, n4, hk1, hk2, ghk4nn, hk5] at ghk6
          all_goals
          have lhk6 := ix_lt hk6
          have xhk6 := getD_mapD Fault_av faults lhk6
          try simp only [go_sem] at lhk6
          try simp only [go_sem] at xhk6
          try simp only [go_sem, n1, n2, n3, n4, hk1, hk2, ghk4nn, hk5, ghk6] at hk6
          all_goals
          obtain ⟨hk7, h⟩ := ck_some h
          rcases or_split hk7 with ⟨ghk7, hk7⟩ | ghk7
          · try simp only [go_sem, n1, n2, n3, n4, hk1, hk2, ghk4nn, hk5, ghk6, hk6] at ghk7
            all_goals
            have lhk7 := ix_lt hk7
            have xhk7 := getD_mapD Fault_av faults lhk7
            try simp only [go_sem] at lhk7
            try simp only [go_sem] at xhk7
            try simp only [go_sem, n1, n2, n3, n4, hk1, hk2, ghk4nn, hk5, ghk6, hk6, ghk7] at hk7
            all_goals
            obtain ⟨hk8, h⟩ := ck_some h
            rcases or_split hk8 with ⟨ghk8, hk8⟩ | ghk8
            · try simp only [go_sem, n1, n2, n3, n4, hk1, hk2, ghk4nn, hk5, ghk6, hk6, ghk7, hk7] at ghk8
              all_goals
              have lhk8 := ix_lt hk8
              have xhk8 := getD_mapD Fault_av faults lhk8
              try simp only [go_sem] at lhk8
              try simp only [go_sem] at xhk8
              try simp only [go_sem, n1, n2, n3, n4, hk1, hk2, ghk4nn, hk5, ghk6, hk6, ghk7, hk7, ghk8] at hk8
              all_goals
              rcases it_some h with ⟨hk9, h⟩ | ⟨hk9, h⟩
              · try simp only [go_sem, n1, n2, n3, n4, hk1, hk2, ghk4nn, hk5, ghk6, hk6, ghk7, hk7, ghk8, hk8] at hk9
                all_goals
                obtain rfl := so_some h
                refine ⟨0, fun L hL => ?_⟩
                simp only [go_sem, ir30, E_spec_l26Faults_l1, R_spec_l26Faults_l1, ir30_b0, ir30_k0, ir30_o0, ir30_r0, hk1, hk2, lhk2, xhk2, fhk3, ghk4nn, hk5, ghk6, hk6, lhk6, xhk6, ghk7, hk7, lhk7, xhk7, ghk8, hk8, lhk8, xhk8, hk9]
              · try simp only [go_sem, n1, n2, n3, n4, hk1, hk2, ghk4nn, hk5, ghk6, hk6, ghk7, hk7, ghk8, hk8] at hk9
                all_goals
                obtain rfl := so_some h
                refine ⟨0, fun L hL => ?_⟩
                simp only [go_sem, ir30, E_spec_l26Faults_l1, R_spec_l26Faults_l1, ir30_b0, ir30_k0, ir30_o0, ir30_r0, hk1, hk2, lhk2, xhk2, fhk3, ghk4nn, hk5, ghk6, hk6, lhk6, xhk6, ghk7, hk7, lhk7, xhk7, ghk8, hk8, lhk8, xhk8, hk9]
            · rcases and_f ghk8 with ghk8a | ⟨ghk8a, ghk8b⟩
              · rcases and_f ghk8a with ghk8aa | ⟨ghk8aa, ghk8ab⟩
                · try simp only [go_sem, n1, n2, n3, n4, hk1, hk2, ghk4nn, hk5, ghk6, hk6, ghk7, hk7] at ghk8aa
                  all_goals
                  rcases it_some h with ⟨hk9, h⟩ | ⟨hk9, h⟩
                  · try simp only [go_sem, n1, n2, n3, n4, hk1, hk2, ghk4nn, hk5, ghk6, hk6, ghk7, hk7, ghk8aa] at hk9
                    all_goals
                    obtain rfl := so_some h
                    refine ⟨0, fun L hL => ?_⟩
                    simp only [go_sem, ir30, E_spec_l26Faults_l1, R_spec_l26Faults_l1, ir30_b0, ir30_k0, ir30_o0, ir30_r0, hk1, hk2, lhk2, xhk2, fhk3, ghk4nn, hk5, ghk6, hk6, lhk6, xhk6, ghk7, hk7, lhk7, xhk7, ghk8aa, hk9]
                  · try simp only [go_sem, n1, n2, n3, n4, hk1, hk2, ghk4nn, hk5, ghk6, hk6, ghk7, hk7, ghk8aa] at hk9
                    all_goals
                    obtain rfl := so_some h
                    refine ⟨0, fun L hL => ?_⟩
                    simp only [go_sem, ir30, E_spec_l26Faults_l1, R_spec_l26Faults_l1, ir30_b0, ir30_k0, ir30_o0, ir30_r0, hk1, hk2, lhk2, xhk2, fhk3, ghk4nn, hk5, ghk6, hk6, lhk6, xhk6, ghk7, hk7, lhk7, xhk7, ghk8aa, hk9]
                · have ghk8abn := no_f ghk8ab
                  try simp only [go_sem, n1, n2, n3, n4, hk1, hk2, ghk4nn, hk5, ghk6, hk6, ghk7, hk7] at ghk8aa
                  all_goals
                  try simp only [go_sem, n1, n2, n3, n4, hk1, hk2, ghk4nn, hk5, ghk6, hk6, ghk7, hk7, ghk8aa] at ghk8abn
                  all_goals
                  rcases it_some h with ⟨hk9, h⟩ | ⟨hk9, h⟩
                  · try simp only [go_sem, n1, n2, n3, n4, hk1, hk2, ghk4nn, hk5, ghk6, hk6, ghk7, hk7, ghk8aa, ghk8abn] at hk9
                    all_goals
                    obtain rfl := so_some h
                    refine ⟨0, fun L hL => ?_⟩
                    simp only [go_sem, ir30, E_spec_l26Faults_l1, R_spec_l26Faults_l1, ir30_b0, ir30_k0, ir30_o0, ir30_r0, hk1, hk2, lhk2, xhk2, fhk3, ghk4nn, hk5, ghk6, hk6, lhk6, xhk6, ghk7, hk7, lhk7, xhk7, ghk8aa, ghk8abn, hk9]
                  · try simp only [go_sem, n1, n2, n3, n4, hk1, hk2, ghk4nn, hk5, ghk6, hk6, ghk7, hk7, ghk8aa, ghk8abn] at hk9
                    all_goals
                    obtain rfl := so_some h
                    refine ⟨0, fun L hL => ?_⟩
                    simp only [go_sem, ir30, E_spec_l26Faults_l1, R_spec_l26Faults_l1, ir30_b0, ir30_k0, ir30_o0, ir30_r0, hk1, hk2, lhk2, xhk2, fhk3, ghk4nn, hk5, ghk6, hk6, lhk6, xhk6, ghk7, hk7, lhk7, xhk7, ghk8aa, ghk8abn, hk9]
              · obtain ⟨ghk8aa, ghk8ab⟩ := and_t ghk8a
                have ghk8abn := no_t ghk8ab
                try simp only [go_sem, n1, n2, n3, n4, hk1, hk2, ghk4nn, hk5, ghk6, hk6, ghk7, hk7] at ghk8aa
                all_goals
                try simp only [go_sem, n1, n2, n3, n4, hk1, hk2, ghk4nn, hk5, ghk6, hk6, ghk7, hk7, ghk8aa] at ghk8abn
                all_goals
                try simp only [go_sem, n1, n2, n3, n4, hk1, hk2, ghk4nn, hk5, ghk6, hk6, ghk7, hk7, ghk8aa, ghk8abn] at ghk8b
                all_goals
                rcases it_some h with ⟨hk9, h⟩ | ⟨hk9, h⟩
                · try simp only [go_sem, n1, n2, n3, n4, hk1, hk2, ghk4nn, hk5, ghk6, hk6, ghk7, hk7, ghk8aa, ghk8abn, ghk8b] at hk9
                  all_goals
                  obtain rfl := so_some h
                  refine ⟨0, fun L hL => ?_⟩
                  simp only [go_sem, ir30, E_spec_l26Faults_l1, R_spec_l26Faults_l1, ir30_b0, ir30_k0, ir30_o0, ir30_r0, hk1, hk2, lhk2, xhk2, fhk3, ghk4nn, hk5, ghk6, hk6, lhk6, xhk6, ghk7, hk7, lhk7, xhk7, ghk8aa, ghk8abn, ghk8b, hk9]
                · try simp only [go_sem, n1, n2, n3, n4, hk1, hk2, ghk4nn, hk5, ghk6, hk6, ghk7, hk7, ghk8aa, ghk8abn, ghk8b] at hk9
                  all_goals
                  obtain rfl := so_some h
                  refine ⟨0, fun L hL => ?_⟩
                  simp only [go_sem, ir30, E_spec_l26Faults_l1, R_spec_l26Faults_l1, ir30_b0, ir30_k0, ir30_o0, ir30_r0, hk1, hk2, lhk2, xhk2, fhk3, ghk4nn, hk5, ghk6, hk6, lhk6, xhk6, ghk7, hk7, lhk7, xhk7, ghk8aa, ghk8abn, ghk8b, hk9]
          · rcases and_f ghk7 with ghk7a | ⟨ghk7a, ghk7b⟩
            · try simp only [go_sem, n1, n2, n3, n4, hk1, hk2, ghk4nn, hk5, ghk6, hk6] at ghk7a
              all_goals
              obtain ⟨hk8, h⟩ := ck_some h
              rcases or_split hk8 with ⟨ghk8, hk8⟩ | ghk8
              · try simp only [go_sem, n1, n2, n3, n4, hk1, hk2, ghk4nn, hk5, ghk6, hk6, ghk7a] at ghk8
                all_goals
                have lhk8 := ix_lt hk8
                have xhk8 := getD_mapD Fault_av faults lhk8
                try simp only [go_sem] at lhk8
                try simp only [go_sem] at xhk8
                try simp only [go_sem, n1, n2, n3, n4, hk1, hk2, ghk4nn, hk5, ghk6, hk6, ghk7a, ghk8] at hk8
                all_goals
                rcases it_some h with ⟨hk9, h⟩ | ⟨hk9, h⟩
                · try simp only [go_sem, n1, n2, n3, n4, hk1, hk2, ghk4nn, hk5, ghk6, hk6, ghk7a, ghk8, hk8] at hk9
                  all_goals
                  obtain rfl := so_some h
                  refine ⟨0, fun L hL => ?_⟩
                  simp only [go_sem, ir30, E_spec_l26Faults_l1, R_spec_l26Faults_l1, ir30_b0, ir30_k0, ir30_o0, ir30_r0, hk1, hk2, lhk2, xhk2, fhk3, ghk4nn, hk5, ghk6, hk6, lhk6, xhk6, ghk7a, ghk8, hk8, lhk8, xhk8, hk9]
                · try simp only [go_sem, n1, n2, n3, n4, hk1, hk2, ghk4nn, hk5, ghk6, hk6, ghk7a, ghk8, hk8] at hk9
                  all_goals
                  obtain rfl := so_some h
                  refine ⟨0, fun L hL => ?_⟩
                  simp only [go_sem, ir30, E_spec_l26Faults_l1, R_spec_l26Faults_l1, ir30_b0, ir30_k0, ir30_o0, ir30_r0, hk1, hk2, lhk2, xhk2, fhk3, ghk4nn, hk5, ghk6, hk6, lhk6, xhk6, ghk7a, ghk8, hk8, lhk8, xhk8, hk9]
              · rcases and_f ghk8 with ghk8a | ⟨ghk8a, ghk8b⟩
                · rcases and_f ghk8a with ghk8aa | ⟨ghk8aa, ghk8ab⟩
                  · try simp only [go_sem, n1, n2, n3, n4, hk1, hk2, ghk4nn, hk5, ghk6, hk6, ghk7a] at ghk8aa
                    all_goals
                    rcases it_some h with ⟨hk9, h⟩ | ⟨hk9, h⟩
                    · try simp only [go_sem, n1, n2, n3, n4, hk1, hk2, ghk4nn, hk5, ghk6, hk6, ghk7a, ghk8aa] at hk9
                      all_goals
                      obtain rfl := so_some h
                      refine ⟨0, fun L hL => ?_⟩
                      simp only [go_sem, ir30, E_spec_l26Faults_l1, R_spec_l26Faults_l1, ir30_b0, ir30_k0, ir30_o0, ir30_r0, hk1, hk2, lhk2, xhk2, fhk3, ghk4nn, hk5, ghk6, hk6, lhk6, xhk6, ghk7a, ghk8aa, hk9]
                    · try simp only [go_sem, n1, n2, n3, n4, hk1, hk2, ghk4nn, hk5, ghk6, hk6, ghk7a, ghk8aa] at hk9
                      all_goals
                      obtain rfl := so_some h
                      refine ⟨0, fun L hL => ?_⟩
                      simp only [go_sem, ir30, E_spec_l26Faults_l1, R_spec_l26Faults_l1, ir30_b0, ir30_k0, ir30_o0, ir30_r0, hk1, hk2, lhk2, xhk2, fhk3, ghk4nn, hk5, ghk6, hk6, lhk6, xhk6, ghk7a, ghk8aa, hk9]
                  · have ghk8abn := no_f ghk8ab
                    try simp only [go_sem, n1, n2, n3, n4, hk1, hk2, ghk4nn, hk5, ghk6, hk6, ghk7a] at ghk8aa
                    all_goals
                    try simp only [go_sem, n1, n2, n3, n4, hk1, hk2, ghk4nn, hk5, ghk6, hk6, ghk7a, ghk8aa] at ghk8abn
                    all_goals
                    rcases it_some h with ⟨hk9, h⟩ | ⟨hk9, h⟩
                    · try simp only [go_sem, n1, n2, n3, n4, hk1, hk2, ghk4nn, hk5, ghk6, hk6, ghk7a, ghk8aa, ghk8abn] at hk9
                      all_goals
                      obtain rfl := so_some h
                      refine ⟨0, fun L hL => ?_⟩
                      simp only [go_sem, ir30, E_spec_l26Faults_l1, R_spec_l26Faults_l1, ir30_b0, ir30_k0, ir30_o0, ir30_r0, hk1, hk2, lhk2, xhk2, fhk3, ghk4nn, hk5, ghk6, hk6, lhk6, xhk6, ghk7a, ghk8aa, ghk8abn, hk9]
                    · try simp only [go_sem, n1, n2, n3, n4, hk1, hk2, ghk4nn, hk5, ghk6, hk6, ghk7a, ghk8aa, ghk8abn] at hk9
                      all_goals
                      obtain rfl := so_some h
                      refine ⟨0, fun L hL => ?_⟩
                      simp only [go_sem, ir30, E_spec_l26Faults_l1, R_spec_l26Faults_l1, ir30_b0, ir30_k0, ir30_o0, ir30_r0, hk1, hk2, lhk2, xhk2, fhk3, ghk4nn, hk5, ghk6, hk6, lhk6, xhk6, ghk7a, ghk8aa, ghk8abn, hk9]
                · obtain ⟨ghk8aa, ghk8ab⟩ := and_t ghk8a
                  have ghk8abn := no_t ghk8ab
                  try simp only [go_sem, n1, n2, n3, n4, hk1, hk2, ghk4nn, hk5, ghk6, hk6, ghk7a] at ghk8aa
                  all_goals
                  try simp only [go_sem, n1, n2, n3, n4, hk1, hk2, ghk4nn, hk5, ghk6, hk6, ghk7a, ghk8aa] at ghk8abn
                  all_goals
                  try simp only [go_sem, n1, n2, n3, n4, hk1, hk2, ghk4nn, hk5, ghk6, hk6, ghk7a, ghk8aa, ghk8abn] at ghk8b
                  all_goals
                  rcases it_some h with ⟨hk9, h⟩ | ⟨hk9, h⟩
                  · try simp only [go_sem, n1, n2, n3, n4, hk1, hk2, ghk4nn, hk5, ghk6, hk6, ghk7a, ghk8aa, ghk8abn, ghk8b] at hk9
                    all_goals
                    obtain rfl := so_some h
                    refine ⟨0, fun L hL => ?_⟩
                    simp only [go_sem, ir30, E_spec_l26Faults_l1, R_spec_l26Faults_l1, ir30_b0, ir30_k0, ir30_o0, ir30_r0, hk1, hk2, lhk2, xhk2, fhk3, ghk4nn, hk5, ghk6, hk6, lhk6, xhk6, ghk7a, ghk8aa, ghk8abn, ghk8b, hk9]
                  · try simp only [go_sem, n1, n2, n3, n4, hk1, hk2, ghk4nn, hk5, ghk6, hk6, ghk7a, ghk8aa, ghk8abn, ghk8b] at hk9
                    all_goals
                    obtain rfl := so_some h
                    refine ⟨0, fun L hL => ?_⟩
                    simp only [go_sem, ir30, E_spec_l26Faults_l1, R_spec_l26Faults_l1, ir30_b0, ir30_k0, ir30_o0, ir30_r0, hk1, hk2, lhk2, xhk2, fhk3, ghk4nn, hk5, ghk6, hk6, lhk6, xhk6, ghk7a, ghk8aa, ghk8abn, ghk8b, hk9]
            · have ghk7bn := no_f ghk7b
              try simp only [go_sem, n1, n2, n3, n4, hk1, hk2, ghk4nn, hk5, ghk6, hk6] at ghk7a
              all_goals
              try simp only [go_sem, n1, n2, n3, n4, hk1, hk2, ghk4nn, hk5, ghk6, hk6, ghk7a] at ghk7bn
              all_goals
              obtain ⟨hk8, h⟩ := ck_some h
              rcases or_split hk8 with ⟨ghk8, hk8⟩ | ghk8
              · try simp only [go_sem, n1, n2, n3, n4, hk1, hk2, ghk4nn, hk5, ghk6, hk6, ghk7a, ghk7bn] at ghk8
                all_goals
                have lhk8 := ix_lt hk8
                have xhk8 := getD_mapD Fault_av faults lhk8
                try simp only [go_sem] at lhk8
                try simp only [go_sem] at xhk8
                try simp only [go_sem, n1, n2, n3, n4, hk1, hk2, ghk4nn, hk5, ghk6, hk6, ghk7a, ghk7bn, ghk8] at hk8
                all_goals
                rcases it_some h with ⟨hk9, h⟩ | ⟨hk9, h⟩
                · try simp only [go_sem, n1, n2, n3, n4, hk1, hk2, ghk4nn, hk5, ghk6, hk6, ghk7a, ghk7bn, ghk8, hk8] at hk9
                  all_goals
                  obtain rfl := so_some h
                  refine ⟨0, fun L hL => ?_⟩
                  simp only [go_sem, ir30, E_spec_l26Faults_l1, R_spec_l26Faults_l1, ir30_b0, ir30_k0, ir30_o0, ir30_r0, hk1, hk2, lhk2, xhk2, fhk3, ghk4nn, hk5, ghk6, hk6, lhk6, xhk6, ghk7a, ghk7bn, ghk8, hk8, lhk8, xhk8, hk9]
                · try simp only [go_sem, n1, n2, n3, n4, hk1, hk2, ghk4nn, hk5, ghk6, hk6, ghk7a, ghk7bn, ghk8, hk8] at hk9
                  all_goals
                  obtain rfl := so_some h
                  refine ⟨0, fun L hL => ?_⟩
                  simp only [go_sem, ir30, E_spec_l26Faults_l1, R_spec_l26Faults_l1, ir30_b0, ir30_k0, ir30_o0, ir30_r0, hk1, hk2, lhk2, xhk2, fhk3, ghk4nn, hk5, ghk6, hk6, lhk6, xhk6, ghk7a, ghk7bn, ghk8, hk8, lhk8, xhk8, hk9]
              · rcases and_f ghk8 with ghk8a | ⟨ghk8a, ghk8b⟩
                · rcases and_f ghk8a with ghk8aa | ⟨ghk8aa, ghk8ab⟩
                  · try simp only [go_sem, n1, n2, n3, n4, hk1, hk2, ghk4nn, hk5, ghk6, hk6, ghk7a, ghk7bn] at ghk8aa
                    all_goals
                    rcases it_some h with ⟨hk9, h⟩ | ⟨hk9, h⟩
                    · try simp only [go_sem, n1, n2, n3, n4, hk1, hk2, ghk4nn, hk5, ghk6, hk6, ghk7a, ghk7bn, ghk8aa] at hk9
                      all_goals
                      obtain rfl := so_some h
                      refine ⟨0, fun L hL => ?_⟩
                      simp only [go_sem, ir30, E_spec_l26Faults_l1, R_spec_l26Faults_l1, ir30_b0, ir30_k0, ir30_o0, ir30_r0, hk1, hk2, lhk2, xhk2, fhk3, ghk4nn, hk5, ghk6, hk6, lhk6, xhk6, ghk7a, ghk7bn, ghk8aa, hk9]
                    · try simp only [go_sem, n1, n2, n3, n4, hk1, hk2, ghk4nn, hk5, ghk6, hk6, ghk7a, ghk7bn, ghk8aa] at hk9
                      all_goals
                      obtain rfl := so_some h
                      refine ⟨0, fun L hL => ?_⟩
                      simp only [go_sem, ir30, E_spec_l26Faults_l1, R_spec_l26Faults_l1, ir30_b0, ir30_k0, ir30_o0, ir30_r0, hk1, hk2, lhk2, xhk2, fhk3, ghk4nn, hk5, ghk6, hk6, lhk6, xhk6, ghk7a, ghk7bn, ghk8aa, hk9]
                  · have ghk8abn := no_f ghk8ab
                    try simp only [go_sem, n1, n2, n3, n4, hk1, hk2, ghk4nn, hk5, ghk6, hk6, ghk7a, ghk7bn] at ghk8aa
                    all_goals
                    try simp only [go_sem, n1, n2, n3, n4, hk1, hk2, ghk4nn, hk5, ghk6, hk6, ghk7a, ghk7bn, ghk8aa] at ghk8abn
                    all_goals
                    rcases it_some h with ⟨hk9, h⟩ | ⟨hk9, h⟩
                    · try simp only [go_sem, n1, n2, n3, n4, hk1, hk2, ghk4nn, hk5, ghk6, hk6, ghk7a, ghk7bn, ghk8aa, ghk8abn] at hk9
                      all_goals
                      obtain rfl := so_some h
                      refine ⟨0, fun L hL => ?_⟩
                      simp only [go_sem, ir30, E_spec_l26Faults_l1, R_spec_l26Faults_l1, ir30_b0, ir30_k0, ir30_o0, ir30_r0, hk1, hk2, lhk2, xhk2, fhk3, ghk4nn, hk5, ghk6, hk6, lhk6, xhk6, ghk7a, ghk7bn, ghk8aa, ghk8abn, hk9]
                    · try simp only [go_sem, n1, n2, n3, n4, hk1, hk2, ghk4nn, hk5, ghk6, hk6, ghk7a, ghk7bn, ghk8aa, ghk8abn] at hk9
                      all_goals
                      obtain rfl := so_some h
                      refine ⟨0, fun L hL => ?_⟩
                      simp only [go_sem, ir30, E_spec_l26Faults_l1, R_spec_l26Faults_l1, ir30_b0, ir30_k0, ir30_o0, ir30_r0, hk1, hk2, lhk2, xhk2, fhk3, ghk4nn, hk5, ghk6, hk6, lhk6, xhk6, ghk7a, ghk7bn, ghk8aa, ghk8abn, hk9]
                · obtain ⟨ghk8aa, ghk8ab⟩ := and_t ghk8a
                  have ghk8abn := no_t ghk8ab
                  try simp only [go_sem, n1, n2, n3, n4, hk1, hk2, ghk4nn, hk5, ghk6, hk6, ghk7a, ghk7bn] at ghk8aa
                  all_goals
                  try simp only [go_sem, n1, n2, n3, n4, hk1, hk2, ghk4nn, hk5, ghk6, hk6, ghk7a, ghk7bn, ghk8aa] at ghk8abn
                  all_goals
                  try simp only [go_sem, n1, n2, n3, n4, hk1, hk2, ghk4nn, hk5, ghk6, hk6, ghk7a, ghk7bn, ghk8aa, ghk8abn] at ghk8b
                  all_goals
                  rcases it_some h with ⟨hk9, h⟩ | ⟨hk9, h⟩
                  · try simp only [go_sem, n1, n2, n3, n4, hk1, hk2, ghk4nn, hk5, ghk6, hk6, ghk7a, ghk7bn, ghk8aa, ghk8abn, ghk8b] at hk9
                    all_goals
                    obtain rfl := so_some h
                    refine ⟨0, fun L hL => ?_⟩
                    simp only [go_sem, ir30, E_spec_l26Faults_l1, R_spec_l26Faults_l1, ir30_b0, ir30_k0, ir30_o0, ir30_r0, hk1, hk2, lhk2, xhk2, fhk3, ghk4nn, hk5, ghk6, hk6, lhk6, xhk6, ghk7a, ghk7bn, ghk8aa, ghk8abn, ghk8b, hk9]
                  · try simp only [go_sem, n1, n2, n3, n4, hk1, hk2, ghk4nn, hk5, ghk6, hk6, ghk7a, ghk7bn, ghk8aa, ghk8abn, ghk8b] at hk9
                    all_goals
                    obtain rfl := so_some h
                    refine ⟨0, fun L hL => ?_⟩
                    simp only [go_sem, ir30, E_spec_l26Faults_l1, R_spec_l26Faults_l1, ir30_b0, ir30_k0, ir30_o0, ir30_r0, hk1, hk2, lhk2, xhk2, fhk3, ghk4nn, hk5, ghk6, hk6, lhk6, xhk6, ghk7a, ghk7bn, ghk8aa, ghk8abn, ghk8b, hk9]
        · try simp only [go_sem, n1, n2, n3, n4, hk1, hk2, ghk4nn, hk5] at ghk6
          all_goals
          obtain ⟨hk7, h⟩ := ck_some h
          rcases or_split hk7 with ⟨ghk7, hk7⟩ | ghk7
          · try simp only [go_sem, n1, n2, n3, n4, hk1, hk2, ghk4nn, hk5, ghk6] at ghk7
            all_goals
            have lhk7 := ix_lt hk7
            have xhk7 := getD_mapD Fault_av faults lhk7
            try simp only [go_sem] at lhk7
            try simp only [go_sem] at xhk7
            try simp only [go_sem, n1, n2, n3, n4, hk1, hk2, ghk4nn, hk5, ghk6, ghk7] at hk7
            all_goals
            obtain ⟨hk8, h⟩ := ck_some h
            rcases or_split hk8 with ⟨ghk8, hk8⟩ | ghk8
            · try simp only [go_sem, n1, n2, n3, n4, hk1, hk2, ghk4nn, hk5, ghk6, ghk7, hk7] at ghk8
              all_goals
              have lhk8 := ix_lt hk8
              have xhk8 := getD_mapD Fault_av faults lhk8
              try simp only [go_sem] at lhk8
              try simp only [go_sem] at xhk8
              try simp only [go_sem, n1, n2, n3, n4, hk1, hk2, ghk4nn, hk5, ghk6, ghk7, hk7, ghk8] at hk8
              all_goals
              rcases it_some h with ⟨hk9, h⟩ | ⟨hk9, h⟩
              · try simp only [go_sem, n1, n2, n3, n4, hk1, hk2, ghk4nn, hk5, ghk6, ghk7, hk7, ghk8, hk8] at hk9
                all_goals
                obtain rfl := so_some h
                refine ⟨0, fun L hL => ?_⟩
                simp only [go_sem, ir30, E_spec_l26Faults_l1, R_spec_l26Faults_l1, ir30_b0, ir30_k0, ir30_o0, ir30_r0, hk1, hk2, lhk2, xhk2, fhk3, ghk4nn, hk5, ghk6, ghk7, hk7, lhk7, xhk7, ghk8, hk8, lhk8, xhk8, hk9]
              · try simp only [go_sem, n1, n2, n3, n4, hk1, hk2, ghk4nn, hk5, ghk6, ghk7, hk7, ghk8, hk8] at hk9
                all_goals
                obtain rfl := so_some h
                refine ⟨0, fun L hL => ?_⟩
                simp only [go_sem, ir30, E_spec_l26Faults_l1, R_spec_l26Faults_l1, ir30_b0, ir30_k0, ir30_o0, ir30_r0, hk1, hk2, lhk2, xhk2, fhk3, ghk4nn, hk5, ghk6, ghk7, hk7, lhk7, xhk7, ghk8, hk8, lhk8, xhk8, hk9]
            · rcases and_f ghk8 with ghk8a | ⟨ghk8a, ghk8b⟩
              · rcases and_f ghk8a with ghk8aa | ⟨ghk8aa, ghk8ab⟩
                · try simp only [go_sem, n1, n2, n3, n4, hk1, hk2, ghk4nn, hk5, ghk6, ghk7, hk7] at ghk8aa
                  all_goals
                  rcases it_some h with ⟨hk9, h⟩ | ⟨hk9, h⟩
                  · try simp only [go_sem, n1, n2, n3, n4, hk1, hk2, ghk4nn, hk5, ghk6, ghk7, hk7, ghk8aa] at hk9
                    all_goals
                    obtain rfl := so_some h
                    refine ⟨0, fun L hL => ?_⟩
                    simp only [go_sem, ir30, E_spec_l26Faults_l1, R_spec_l26Faults_l1, ir30_b0, ir30_k0, ir30_o0, ir30_r0, hk1, hk2, lhk2, xhk2, fhk3, ghk4nn, hk5, ghk6, ghk7, hk7, lhk7, xhk7, ghk8aa, hk9]
                  · try simp only [go_sem, n1, n2, n3, n4, hk1, hk2, ghk4nn, hk5, ghk6, ghk7, hk7, ghk8aa] at hk9
                    all_goals
                    obtain rfl := so_some h
                    refine ⟨0, fun L hL => ?_⟩
                    simp only [go_sem, ir30, E_spec_l26Faults_l1, R_spec_l26Faults_l1, ir30_b0, ir30_k0, ir30_o0, ir30_r0, hk1, hk2, lhk2, xhk2, fhk3, ghk4nn, hk5, ghk6, ghk7, hk7, lhk7, xhk7, ghk8aa, hk9]
                · have ghk8abn := no_f ghk8ab
                  try simp only [go_sem, n1, n2, n3, n4, hk1, hk2, ghk4nn, hk5, ghk6, ghk7, hk7] at ghk8aa
                  all_goals
                  try simp only [go_sem, n1, n2, n3, n4, hk1, hk2, ghk4nn, hk5, ghk6, ghk7, hk7, ghk8aa] at ghk8abn
                  all_goals
                  rcases it_some h with ⟨hk9, h⟩ | ⟨hk9, h⟩
                  · try simp only [go_sem, n1, n2, n3, n4, hk1, hk2, ghk4nn, hk5, ghk6, ghk7, hk7, ghk8aa, ghk8abn] at hk9
                    all_goals
                    obtain rfl := so_some h
                    refine ⟨0, fun L hL => ?_⟩
                    simp only [go_sem, ir30, E_spec_l26Faults_l1, R_spec_l26Faults_l1, ir30_b0, ir30_k0, ir30_o0, ir30_r0, hk1, hk2, lhk2, xhk2, fhk3, ghk4nn, hk5, ghk6, ghk7, hk7, lhk7, xhk7, ghk8aa, ghk8abn, hk9]
                  · try simp only [go_sem, n1, n2, n3, n4, hk1, hk2, ghk4nn, hk5, ghk6, ghk7, hk7, ghk8aa, ghk8abn] at hk9
                    all_goals
                    obtain rfl := so_some h
                    refine ⟨0, fun L hL => ?_⟩
                    simp only [go_sem, ir30, E_spec_l26Faults_l1, R_spec_l26Faults_l1, ir30_b0, ir30_k0, ir30_o0, ir30_r0, hk1, hk2, lhk2, xhk2, fhk3, ghk4nn, hk5, ghk6, ghk7, hk7, lhk7, xhk7, ghk8aa, ghk8abn, hk9]
              · obtain ⟨ghk8aa, ghk8ab⟩ := and_t ghk8a
                have ghk8abn := no_t ghk8ab
                try simp only [go_sem, n1, n2, n3, n4, hk1, hk2, ghk4nn, hk5, ghk6, ghk7, hk7] at ghk8aa
                all_goals
                try simp only [go_sem, n1, n2, n3, n4, hk1, hk2, ghk4nn, hk5, ghk6, ghk7, hk7, ghk8aa] at ghk8abn
                all_goals
                try simp only [go_sem, n1, n2, n3, n4, hk1, hk2, ghk4nn, hk5, ghk6, ghk7, hk7, ghk8aa, ghk8abn] at ghk8b
                all_goals
                rcases it_some h with ⟨hk9, h⟩ | ⟨hk9, h⟩
                · try simp only [go_sem, n1, n2, n3, n4, hk1, hk2, ghk4nn, hk5, ghk6, ghk7, hk7, ghk8aa, ghk8abn, ghk8b] at hk9
                  all_goals
                  obtain rfl := so_some h
                  refine ⟨0, fun L hL => ?_⟩
                  simp only [go_sem, ir30, E_spec_l26Faults_l1, R_spec_l26Faults_l1, ir30_b0, ir30_k0, ir30_o0, ir30_r0, hk1, hk2, lhk2, xhk2, fhk3, ghk4nn, hk5, ghk6, ghk7, hk7, lhk7, xhk7, ghk8aa, ghk8abn, ghk8b, hk9]
                · try simp only [go_sem, n1, n2, n3, n4, hk1, hk2, ghk4nn, hk5, ghk6, ghk7, hk7, ghk8aa, ghk8abn, ghk8b] at hk9
                  all_goals
                  obtain rfl := so_some h
                  refine ⟨0, fun L hL => ?_⟩
                  simp only [go_sem, ir30, E_spec_l26Faults_l1, R_spec_l26Faults_l1, ir30_b0, ir30_k0, ir30_o0, ir30_r0, hk1, hk2, lhk2, xhk2, fhk3, ghk4nn, hk5, ghk6, ghk7, hk7, lhk7, xhk7, ghk8aa, ghk8abn, ghk8b, hk9]
          · rcases and_f ghk7 with ghk7a | ⟨ghk7a, ghk7b⟩
            · try simp only [go_sem, n1, n2, n3, n4, hk1, hk2, ghk4nn, hk5, ghk6] at ghk7a
              all_goals
              obtain ⟨hk8, h⟩ := ck_some h
              rcases or_split hk8 with ⟨ghk8, hk8⟩ | ghk8
              · try simp only [go_sem, n1, n2, n3, n4, hk1, hk2, ghk4nn, hk5, ghk6, ghk7a] at ghk8
                all_goals
                have lhk8 := ix_lt hk8
                have xhk8 := getD_mapD Fault_av faults lhk8
                try simp only [go_sem] at lhk8
                try simp only [go_sem] at xhk8
                try simp only [go_sem, n1, n2, n3, n4, hk1, hk2, ghk4nn, hk5, ghk6, ghk7a, ghk8] at hk8
                all_goals
                rcases it_some h with ⟨hk9, h⟩ | ⟨hk9, h⟩
                · try simp only [go_sem, n1, n2, n3, n4, hk1, hk2, ghk4nn, hk5, ghk6, ghk7a, ghk8, hk8] at hk9
                  all_goals
                  obtain rfl := so_some h
                  refine ⟨0, fun L hL => ?_⟩
                  simp only [go_sem, ir30, E_spec_l26Faults_l1, R_spec_l26Faults_l1, ir30_b0, ir30_k0, ir30_o0, ir30_r0, hk1, hk2, lhk2, xhk2, fhk3, ghk4nn, hk5, ghk6, ghk7a, ghk8, hk8, lhk8, xhk8, hk9]
                · try simp only [go_sem, n1, n2, n3, n4, hk1, hk2, ghk4nn, hk5, ghk6, ghk7a, ghk8, hk8] at hk9
                  all_goals
                  obtain rfl := so_some h
                  refine ⟨0, fun L hL => ?_⟩
                  simp only [go_sem, ir30, E_spec_l26Faults_l1, R_spec_l26Faults_l1, ir30_b0, ir30_k0, ir30_o0, ir30_r0, hk1, hk2, lhk2, xhk2, fhk3, ghk4nn, hk5, ghk6, ghk7a, ghk8, hk8, lhk8, xhk8, hk9]
              · rcases and_f ghk8 with ghk8a | ⟨ghk8a, ghk8b⟩
                · rcases and_f ghk8a with ghk8aa | ⟨ghk8aa, ghk8ab⟩
                  · try simp only [go_sem, n1, n2, n3, n4, hk1, hk2, ghk4nn, hk5, ghk6, ghk7a] at ghk8aa
                    all_goals
                    rcases it_some h with ⟨hk9, h⟩ | ⟨hk9, h⟩
                    · try simp only [go_sem, n1, n2, n3, n4, hk1, hk2, ghk4nn, hk5, ghk6, ghk7a, ghk8aa] at hk9
                      all_goals
                      obtain rfl := so_some h
                      refine ⟨0, fun L hL => ?_⟩
                      simp only [go_sem, ir30, E_spec_l26Faults_l1, R_spec_l26Faults_l1, ir30_b0, ir30_k0, ir30_o0, ir30_r0, hk1, hk2, lhk2, xhk2, fhk3, ghk4nn, hk5, ghk6, ghk7a, ghk8aa, hk9]
                    · try simp only [go_sem, n1, n2, n3, n4, hk1, hk2, ghk4nn, hk5, ghk6, ghk7a, ghk8aa] at hk9
                      all_goals
                      obtain rfl := so_some h
                      refine ⟨0, fun L hL => ?_⟩
                      simp only [go_sem, ir30, E_spec_l26Faults_l1, R_spec_l26Faults_l1, ir30_b0, ir30_k0, ir30_o0, ir30_r0, hk1, hk2, lhk2, xhk2, fhk3, ghk4nn, hk5, ghk6, ghk7a, ghk8aa, hk9]
                  · have ghk8abn := no_f ghk8ab
                    try simp only [go_sem, n1, n2, n3, n4, hk1, hk2, ghk4nn, hk5, ghk6, ghk7a] at ghk8aa
                    all_goals
                    try simp only [go_sem, n1, n2, n3, n4, hk1, hk2, ghk4nn, hk5, ghk6, ghk7a, ghk8aa] at ghk8abn
                    all_goals
                    rcases it_some h with ⟨hk9, h⟩ | ⟨hk9, h⟩
                    · try simp only [go_sem, n1, n2, n3, n4, hk1, hk2, ghk4nn, hk5, ghk6, ghk7a, ghk8aa, ghk8abn] at hk9
                      all_goals
                      obtain rfl := so_some h
                      refine ⟨0, fun L hL => ?_⟩
                      simp only [go_sem, ir30, E_spec_l26Faults_l1, R_spec_l26Faults_l1, ir30_b0, ir30_k0, ir30_o0, ir30_r0, hk1, hk2, lhk2, xhk2, fhk3, ghk4nn, hk5, ghk6, ghk7a, ghk8aa, ghk8abn, hk9]
                    · try simp only [go_sem, n1, n2, n3, n4, hk1, hk2, ghk4nn, hk5, ghk6, ghk7a, ghk8aa, ghk8abn] at hk9
                      all_goals
                      obtain rfl := so_some h
                      refine ⟨0, fun L hL => ?_⟩
                      simp only [go_sem, ir30, E_spec_l26Faults_l1, R_spec_l26Faults_l1, ir30_b0, ir30_k0, ir30_o0, ir30_r0, hk1, hk2, lhk2, xhk2, fhk3, ghk4nn, hk5, ghk6, ghk7a, ghk8aa, ghk8abn, hk9]
                · obtain ⟨ghk8aa, ghk8ab⟩ := and_t ghk8a
                  have ghk8abn := no_t ghk8ab
                  try simp only [go_sem, n1, n2, n3, n4, hk1, hk2, ghk4nn, hk5, ghk6, ghk7a] at ghk8aa
                  all_goals
                  try simp only [go_sem, n1, n2, n3, n4, hk1, hk2, ghk4nn, hk5, ghk6, ghk7a, ghk8aa] at ghk8abn
                  all_goals
                  try simp only [go_sem, n1, n2, n3, n4, hk1, hk2, ghk4nn, hk5, ghk6, ghk7a, ghk8aa, ghk8abn] at ghk8b
                  all_goals
                  rcases it_some h with ⟨hk9, h⟩ | ⟨hk9, h⟩
                  · try simp only [go_sem, n1, n2, n3, n4, hk1, hk2, ghk4nn, hk5, ghk6, ghk7a, ghk8aa, ghk8abn, ghk8b] at hk9
                    all_goals
                    obtain rfl := so_some h
                    refine ⟨0, fun L hL => ?_⟩
                    simp only [go_sem, ir30, E_spec_l26Faults_l1, R_spec_l26Faults_l1, ir30_b0, ir30_k0, ir30_o0, ir30_r0, hk1, hk2, lhk2, xhk2, fhk3, ghk4nn, hk5, ghk6, ghk7a, ghk8aa, ghk8abn, ghk8b, hk9]
                  · try simp only [go_sem, n1, n2, n3, n4, hk1, hk2, ghk4nn, hk5, ghk6, ghk7a, ghk8aa, ghk8abn, ghk8b] at hk9
                    all_goals
                    obtain rfl := so_some h
                    refine ⟨0, fun L hL => ?_⟩
                    simp only [go_sem, ir30, E_spec_l26Faults_l1, R_spec_l26Faults_l1, ir30_b0, ir30_k0, ir30_o0, ir30_r0, hk1, hk2, lhk2, xhk2, fhk3, ghk4nn, hk5, ghk6, ghk7a, ghk8aa, ghk8abn, ghk8b, hk9]
            · have ghk7bn := no_f ghk7b
              try simp only [go_sem, n1, n2, n3, n4, hk1, hk2, ghk4nn, hk5, ghk6] at ghk7a
              all_goals
              try simp only [go_sem, n1, n2, n3, n4, hk1, hk2, ghk4nn, hk5, ghk6, ghk7a] at ghk7bn
              all_goals
              obtain ⟨hk8, h⟩ := ck_some h
              rcases or_split hk8 with ⟨ghk8, hk8⟩ | ghk8
              · try simp only [go_sem, n1, n2, n3, n4, hk1, hk2, ghk4nn, hk5, ghk6, ghk7a, ghk7bn] at ghk8
                all_goals
                have lhk8 := ix_lt hk8
                have xhk8 := getD_mapD Fault_av faults lhk8
                try simp only [go_sem] at lhk8
                try simp only [go_sem] at xhk8
                try simp only [go_sem, n1, n2, n3, n4, hk1, hk2, ghk4nn, hk5, ghk6, ghk7a, ghk7bn, ghk8] at hk8
                all_goals
                rcases it_some h with ⟨hk9, h⟩ | ⟨hk9, h⟩
                · try simp only [go_sem, n1, n2, n3, n4, hk1, hk2, ghk4nn, hk5, ghk6, ghk7a, ghk7bn, ghk8, hk8] at hk9
                  all_goals
                  obtain rfl := so_some h
                  refine ⟨0, fun L hL => ?_⟩
                  simp only [go_sem, ir30, E_spec_l26Faults_l1, R_spec_l26Faults_l1, ir30_b0, ir30_k0, ir30_o0, ir30_r0, hk1, hk2, lhk2, xhk2, fhk3, ghk4nn, hk5, ghk6, ghk7a, ghk7bn, ghk8, hk8, lhk8, xhk8, hk9]
                · try simp only [go_sem, n1, n2, n3, n4, hk1, hk2, ghk4nn, hk5, ghk6, ghk7a, ghk7bn, ghk8, hk8] at hk9
                  all_goals
                  obtain rfl := so_some h
                  refine ⟨0, fun L hL => ?_⟩
                  simp only [go_sem, ir30, E_spec_l26Faults_l1, R_spec_l26Faults_l1, ir30_b0, ir30_k0, ir30_o0, ir30_r0, hk1, hk2, lhk2, xhk2, fhk3, ghk4nn, hk5, ghk6, ghk7a, ghk7bn, ghk8, hk8, lhk8, xhk8, hk9]
              · rcases and_f ghk8 with ghk8a | ⟨ghk8a, ghk8b⟩
                · rcases and_f ghk8a with ghk8aa | ⟨ghk8aa, ghk8ab⟩
                  · try simp only [go_sem, n1, n2, n3, n4, hk1, hk2, ghk4nn, hk5, ghk6, ghk7a, ghk7bn] at ghk8aa
                    all_goals
                    rcases it_some h with ⟨hk9, h⟩ | ⟨hk9, h⟩
                    · try simp only [go_sem, n1, n2, n3, n4, hk1, hk2, ghk4nn, hk5, ghk6, ghk7a, ghk7bn, ghk8aa] at hk9
                      all_goals
                      obtain rfl := so_some h
                      refine ⟨0, fun L hL => ?_⟩
                      simp only [go_sem, ir30, E_spec_l26Faults_l1, R_spec_l26Faults_l1, ir30_b0, ir30_k0, ir30_o0, ir30_r0, hk1, hk2, lhk2, xhk2, fhk3, ghk4nn, hk5, ghk6, ghk7a, ghk7bn, ghk8aa, hk9]
                    · try simp only [go_sem, n1, n2, n3, n4, hk1, hk2, ghk4nn, hk5, ghk6, ghk7a, ghk7bn, ghk8aa] at hk9
                      all_goals
                      obtain rfl := so_some h
                      refine ⟨0, fun L hL => ?_⟩
                      simp only [go_sem, ir30, E_spec_l26Faults_l1, R_spec_l26Faults_l1, ir30_b0, ir30_k0, ir30_o0, ir30_r0, hk1, hk2, lhk2, xhk2, fhk3, ghk4nn, hk5, ghk6, ghk7a, ghk7bn, ghk8aa, hk9]
                  · have ghk8abn := no_f ghk8ab
                    try simp only [go_sem, n1, n2, n3, n4, hk1, hk2, ghk4nn, hk5, ghk6, ghk7a, ghk7bn] at ghk8aa
                    all_goals
                    try simp only [go_sem, n1, n2, n3, n4, hk1, hk2, ghk4nn, hk5, ghk6, ghk7a, ghk7bn, ghk8aa] at ghk8abn
                    all_goals
                    rcases it_some h with ⟨hk9, h⟩ | ⟨hk9, h⟩
                    · try simp only [go_sem, n1, n2, n3, n4, hk1, hk2, ghk4nn, hk5, ghk6, ghk7a, ghk7bn, ghk8aa, ghk8abn] at hk9
                      all_goals
                      obtain rfl := so_some h
                      refine ⟨0, fun L hL => ?_⟩
                      simp only [go_sem, ir30, E_spec_l26Faults_l1, R_spec_l26Faults_l1, ir30_b0, ir30_k0, ir30_o0, ir30_r0, hk1, hk2, lhk2, xhk2, fhk3, ghk4nn, hk5, ghk6, ghk7a, ghk7bn, ghk8aa, ghk8abn, hk9]
                    · try simp only [go_sem, n1, n2, n3, n4, hk1, hk2, ghk4nn, hk5, ghk6, ghk7a, ghk7bn, ghk8aa, ghk8abn] at hk9
                      all_goals
                      obtain rfl := so_some h
                      refine ⟨0, fun L hL => ?_⟩
                      simp only [go_sem, ir30, E_spec_l26Faults_l1, R_spec_l26Faults_l1, ir30_b0, ir30_k0, ir30_o0, ir30_r0, hk1, hk2, lhk2, xhk2, fhk3, ghk4nn, hk5, ghk6, ghk7a, ghk7bn, ghk8aa, ghk8abn, hk9]
                · obtain ⟨ghk8aa, ghk8ab⟩ := and_t ghk8a
                  have ghk8abn := no_t ghk8ab
                  try simp only [go_sem, n1, n2, n3, n4, hk1, hk2, ghk4nn, hk5, ghk6, ghk7a, ghk7bn] at ghk8aa
                  all_goals
                  try simp only [go_sem, n1, n2, n3, n4, hk1, hk2, ghk4nn, hk5, ghk6, ghk7a, ghk7bn, ghk8aa] at ghk8abn
                  all_goals
                  try simp only [go_sem, n1, n2, n3, n4, hk1, hk2, ghk4nn, hk5, ghk6, ghk7a, ghk7bn, ghk8aa, ghk8abn] at ghk8b
                  all_goals
                  rcases it_some h with ⟨hk9, h⟩ | ⟨hk9, h⟩
                  · try simp only [go_sem, n1, n2, n3, n4, hk1, hk2, ghk4nn, hk5, ghk6, ghk7a, ghk7bn, ghk8aa, ghk8abn, ghk8b] at hk9
                    all_goals
                    obtain rfl := so_some h
                    refine ⟨0, fun L hL => ?_⟩
                    simp only [go_sem, ir30, E_spec_l26Faults_l1, R_spec_l26Faults_l1, ir30_b0, ir30_k0, ir30_o0, ir30_r0, hk1, hk2, lhk2, xhk2, fhk3, ghk4nn, hk5, ghk6, ghk7a, ghk7bn, ghk8aa, ghk8abn, ghk8b, hk9]
                  · try simp only [go_sem, n1, n2, n3, n4, hk1, hk2, ghk4nn, hk5, ghk6, ghk7a, ghk7bn, ghk8aa, ghk8abn, ghk8b] at hk9
                    all_goals
                    obtain rfl := so_some h
                    refine ⟨0, fun L hL => ?_⟩
                    simp only [go_sem, ir30, E_spec_l26Faults_l1, R_spec_l26Faults_l1, ir30_b0, ir30_k0, ir30_o0, ir30_r0, hk1, hk2, lhk2, xhk2, fhk3, ghk4nn, hk5, ghk6, ghk7a, ghk7bn, ghk8aa, ghk8abn, ghk8b, hk9]
  · try simp only [go_sem, n1, n2, n3, n4] at hk1
    all_goals
    obtain rfl := so_some h
    refine ⟨0, fun L hL => ?_⟩
    simp only [go_sem, ir30, E_spec_l26Faults_l1, R_spec_l26Faults_l1, ir30_b0, ir30_k0, ir30_o0, ir30_r0, hk1]

theorem Fs_spec_l26Faults {faults : List Fault} {count : Int} {y_ : Bool} (h : spec_l26Faults faults count = some y_) : c_spec_l26Faults.F [.sl 2 (List.map Fault_av faults), .int .i64 count] = ⟨true, .bool y_, [.any, .any]⟩ := by
  refine mkF_E rfl ?_
  dsimp only [spec_l26Faults] at h
  obtain ⟨y_10, hk10, h⟩ := bd_some h
  obtain ⟨Lhk10, ehk10⟩ := spec_l26Faults_l1_ex hk10
  rcases y_10 with y_10a | y_10b
  · dsimp only at h
    obtain rfl := so_some h
    refine ⟨Lhk10, fun L hL => ?_⟩
    have ehk10 := ehk10 L (by omega)
    try simp only [go_sem, E_spec_l26Faults_l1, R_spec_l26Faults_l1, ir30_k0, ir30_o0, ir30_r0] at ehk10
    simp only [go_sem, ir30, E_spec_l26Faults_l1, R_spec_l26Faults_l1, ir30_k0, ir30_o0, ir30_r0, ehk10]
  · dsimp only at h
    obtain rfl := so_some h
    refine ⟨Lhk10, fun L hL => ?_⟩
    have ehk10 := ehk10 L (by omega)
    try simp only [go_sem, E_spec_l26Faults_l1, R_spec_l26Faults_l1, ir30_k0, ir30_o0, ir30_r0] at ehk10
    simp only [go_sem, ir30, E_spec_l26Faults_l1, R_spec_l26Faults_l1, ir30_k0, ir30_o0, ir30_r0, ehk10]


def ir23_b1 : IR := .seq (.test false [
    ⟨.push, 25, none, .mov (.v 7)⟩,
    ⟨.push, 26, none, .mov (.v 0)⟩,
    ⟨.push, 27, none, .len false (.s 0)⟩,
    ⟨.push, 28, none, .bin false .lss (.s 2) (.s 0)⟩] (.s 0)
  (.skip)
  (.exit 2))
 (.seq (.block 3 (.anyo 12 [
     ⟨.slot 0, 31, none, .mov (.v 6)⟩,
     ⟨.slot 1, 32, none, .mov (.s 0)⟩,
     ⟨.slot 2, 33, (some ((.s 1), false)), .mov (.v 0)⟩,
     ⟨.slot 3, 34, (some ((.s 1), false)), .mov (.v 7)⟩,
     ⟨.slot 4, 35, (some ((.s 1), false)), .ixAddr 2 (.s 2) (.s 3)⟩,
     ⟨.slot 5, 36, (some ((.s 1), false)), .load true 2 (.s 4)⟩,
     ⟨.slot 6, 37, (some ((.s 1), false)), .mov (.v 1)⟩,
     ⟨.slot 7, 38, (some ((.s 1), false)), .mov (.v 5)⟩,
     ⟨.slot 8, 39, (some ((.s 1), false)), .ixAddr 2 (.s 6) (.s 7)⟩,
     ⟨.slot 9, 40, (some ((.s 1), false)), .load true 2 (.s 8)⟩,
     ⟨.slot 10, 41, (some ((.s 1), false)), .eqA false [1, 1] (.s 5) (.s 9)⟩,
     ⟨.slot 11, 42, none, .pick (.s 1) (.c (.bool true)) (.s 10)⟩,
     ⟨.var 6, 8, none, .mov (.s 11)⟩] [] .skip))
 (.region false [
   ⟨.push, 29, none, .mov (.v 7)⟩,
   ⟨.push, 30, none, .bin false .add (.s 0) (.c (.int .i64 (1)))⟩,
   ⟨.var 7, 9, none, .mov (.s 0)⟩]))
def ir23_k1 : List Bool := [true, true, false, false, true, true, true, true]
def ir23_o1 : List Bool := [true, true, false, false, true, true, true, false]
def ir23_r1 : List Bool := [false, false, true, true, false, false, false, false]
def ir23_b0 : IR := .seq (.test false [
    ⟨.push, 19, none, .mov (.v 5)⟩,
    ⟨.push, 20, none, .mov (.v 1)⟩,
    ⟨.push, 21, none, .len false (.s 0)⟩,
    ⟨.push, 22, none, .bin false .lss (.s 2) (.s 0)⟩] (.s 0)
  (.skip)
  (.exit 0))
 (.seq (.block 1 (.seq (.region false [
      ⟨.var 6, 8, none, .mov (.c (.bool false))⟩])
   (.seq (.seq (.region false [
       ⟨.var 7, 9, none, .mov (.c (.int .i64 (0)))⟩])
    (.block 2 (.loop ir23_k1 ir23_o1 ir23_r1 ir23_b1)))
   (.test false [
     ⟨.push, 43, none, .mov (.v 6)⟩,
     ⟨.push, 44, none, .un .not (.s 0)⟩] (.s 0)
   (.region false [
      ⟨.push, 45, none, .mov (.v 4)⟩,
      ⟨.push, 46, none, .mov (.v 1)⟩,
      ⟨.push, 47, none, .mov (.v 5)⟩,
      ⟨.push, 48, none, .ixAddr 2 (.s 1) (.s 0)⟩,
      ⟨.push, 49, none, .load true 2 (.s 0)⟩,
      ⟨.push, 50, none, .mkSl 2 (.agg [.int .i64 (0), .int .i64 (0)]) 1 [(0, (.s 0))]⟩,
      ⟨.push, 51, none, .app 2 16 (.agg [.int .i64 (0), .int .i64 (0)]) (.s 5) (.s 0)⟩,
      ⟨.var 4, 6, none, .mov (.s 0)⟩])
   (.skip)))))
 (.region false [
   ⟨.push, 23, none, .mov (.v 5)⟩,
   ⟨.push, 24, none, .bin false .add (.s 0) (.c (.int .i64 (1)))⟩,
   ⟨.var 5, 7, none, .mov (.s 0)⟩]))
def ir23_k0 : List Bool := [true, true, false, false, true, true, false, false]
def ir23_o0 : List Bool := [false, false, false, false, true, false, false, false]
def ir23_r0 : List Bool := [false, false, true, true, false, false, false, false]
def ir23_v : List Nat := [0, 1, 4, 5, 6, 7, 8, 9]
def ir23 : AFn := ⟨2, 8, .seq (.region false [
    ⟨.var 2, 4, none, .newnil 2⟩,
    ⟨.var 3, 5, none, .mov (.c (.int .i64 (0)))⟩])
 (.seq (.test false [
    ⟨.push, 10, none, .mov (.v 0)⟩,
    ⟨.push, 11, none, .call 30 [(.s 0), (.c (.int .i64 (100)))]⟩,
    ⟨.push, 12, none, .un .not (.s 0)⟩,
    ⟨.push, 13, none, .mov (.s 0)⟩,
    ⟨.push, 14, (some ((.s 0), false)), .mov (.v 1)⟩,
    ⟨.push, 15, (some ((.s 1), false)), .call 30 [(.s 0), (.c (.int .i64 (100)))]⟩,
    ⟨.push, 16, (some ((.s 2), false)), .un .not (.s 0)⟩,
    ⟨.push, 17, none, .pick (.s 3) (.c (.bool true)) (.s 0)⟩] (.s 0)
  (.seq (.region false [
      ⟨.var 2, 4, none, .newnil 2⟩,
      ⟨.var 3, 5, none, .mov (.c (.int .i64 (2)))⟩])
   (.ret))
  (.skip))
 (.seq (.region false [
    ⟨.push, 18, none, .mkSl 2 (.agg [.int .i64 (0), .int .i64 (0)]) 0 []⟩,
    ⟨.var 4, 6, none, .mov (.s 0)⟩])
 (.seq (.seq (.region false [
     ⟨.var 5, 7, none, .mov (.c (.int .i64 (0)))⟩])
  (.block 0 (.loop ir23_k0 ir23_o0 ir23_r0 ir23_b0)))
 (.seq (.region false [
    ⟨.push, 52, none, .mov (.v 4)⟩,
    ⟨.var 2, 4, none, .mov (.s 0)⟩,
    ⟨.var 3, 5, none, .mov (.c (.int .i64 (0)))⟩])
 (.ret))))), [.t 2, .t 3]⟩
noncomputable def t_spec_NewFaults : List (Nat × Ctr) := [(30, c_spec_l26Faults)]
theorem lk_spec_NewFaults_30 : look t_spec_NewFaults 30 = some c_spec_l26Faults := rfl
noncomputable def c_spec_NewFaults : Ctr := mkF t_spec_NewFaults ir23 [.bor, .bor]
theorem s_spec_NewFaults : Sound Try.prog 23 c_spec_NewFaults := mkF_sound _ rfl (snd_cons s_spec_l26Faults snd_nil) (by kernel_rfl : chkFn Try.prog 23 ir23 ir23_v = true)
theorem M_spec_NewFaults : c_spec_NewFaults.modes = [.bor, .bor] := rfl
theorem Fl_spec_NewFaults : c_spec_NewFaults.flat = true := rfl
attribute [go_sem] M_spec_NewFaults Fl_spec_NewFaults
attribute [go_sem] lk_spec_NewFaults_30
def E_spec_NewFaults_l2 (before : List Fault) (now : List Fault) (out : List Fault) (i : Int) : (Bool × Int) → St
  | (known, k) => ⟨[.sl 2 (List.map Fault_av before), .sl 2 (List.map Fault_av now), .any, .any, .own 3200000, .int .i64 i, .bool known, .int .i64 k], [], [(3200000, ⟨2, List.map Fault_av out⟩)], true⟩
def R_spec_NewFaults_l2 (before : List Fault) (now : List Fault) (out : List Fault) (i : Int) (y : Bool) : Res := (.exit 2, ⟨[.sl 2 (List.map Fault_av before), .sl 2 (List.map Fault_av now), .any, .any, .own 3200000, .int .i64 i, .bool y, .any], [], [(3200000, ⟨2, List.map Fault_av out⟩)], true⟩)
theorem spec_NewFaults_l2_ex {before : List Fault} {now : List Fault} {out : List Fault} {i : Int} {sgm_ : Bool × Int} {rho_ : Bool} (h : whileE (spec_NewFaults_l2 before now out i) sgm_ = some rho_) : ∃ L0, ∀ L, L0 ≤ L → iter (exec (look t_spec_NewFaults) L ir23_b1) ir23_k1 ir23_o1 ir23_r1 L (E_spec_NewFaults_l2 before now out i sgm_) = R_spec_NewFaults_l2 before now out i rho_ := by
  refine loop_ex (E := E_spec_NewFaults_l2 before now out i) (R := R_spec_NewFaults_l2 before now out i) (fun y => by first | (intro c; cases c) | (rcases y with y | y <;> (intro c; cases c)) | (rcases y with y | y | y <;> (intro c; cases c))) ?_ h
  clear h
  rintro ⟨known, k⟩ o_ h
  dsimp only [spec_NewFaults_l2] at h
  rcases it_some h with ⟨hk5, h⟩ | ⟨hk5, h⟩
  · try simp only [go_sem, n1, n2, n3, n4] at hk5
    all_goals
    obtain ⟨hk6, h⟩ := ck_some h
    rcases or_split hk6 with ⟨ghk6, hk6⟩ | ghk6
    · try simp only [go_sem, n1, n2, n3, n4, hk5] at ghk6
      all_goals
      have lhk6 := ix_lt hk6
      have xhk6 := getD_mapD Fault_av before lhk6
      try simp only [go_sem] at lhk6
      try simp only [go_sem] at xhk6
      try simp only [go_sem, n1, n2, n3, n4, hk5, ghk6] at hk6
      all_goals
      obtain ⟨hk7, h⟩ := ck_some h
      rcases or_split hk7 with ⟨ghk7, hk7⟩ | ghk7
      · try simp only [go_sem, n1, n2, n3, n4, hk5, ghk6, hk6] at ghk7
        all_goals
        have lhk7 := ix_lt hk7
        have xhk7 := getD_mapD Fault_av now lhk7
        try simp only [go_sem] at lhk7
        try simp only [go_sem] at xhk7
        try simp only [go_sem, n1, n2, n3, n4, hk5, ghk6, hk6, ghk7] at hk7
        all_goals
        obtain rfl := so_some h
        refine ⟨0, fun L hL => ?_⟩
        simp only [go_sem, ir23, E_spec_NewFaults_l2, R_spec_NewFaults_l2, ir23_b1, ir23_k1, ir23_o1, ir23_r1, hk5, ghk6, hk6, lhk6, xhk6, ghk7, hk7, lhk7, xhk7]
      · have ghk7n := no_f ghk7
        try simp only [go_sem, n1, n2, n3, n4, hk5, ghk6, hk6] at ghk7n
        all_goals
        obtain rfl := so_some h
        refine ⟨0, fun L hL => ?_⟩
        simp only [go_sem, ir23, E_spec_NewFaults_l2, R_spec_NewFaults_l2, ir23_b1, ir23_k1, ir23_o1, ir23_r1, hk5, ghk6, hk6, lhk6, xhk6, ghk7n]
    · have ghk6n := no_f ghk6
      try simp only [go_sem, n1, n2, n3, n4, hk5] at ghk6n
      all_goals
      obtain ⟨hk7, h⟩ := ck_some h
      rcases or_split hk7 with ⟨ghk7, hk7⟩ | ghk7
      · try simp only [go_sem, n1, n2, n3, n4, hk5, ghk6n] at ghk7
        all_goals
        have lhk7 := ix_lt hk7
        have xhk7 := getD_mapD Fault_av now lhk7
        try simp only [go_sem] at lhk7
        try simp only [go_sem] at xhk7
        try simp only [go_sem, n1, n2, n3, n4, hk5, ghk6n, ghk7] at hk7
        all_goals
        obtain rfl := so_some h
        refine ⟨0, fun L hL => ?_⟩
        simp only [go_sem, ir23, E_spec_NewFaults_l2, R_spec_NewFaults_l2, ir23_b1, ir23_k1, ir23_o1, ir23_r1, hk5, ghk6n, ghk7, hk7, lhk7, xhk7]
      · have ghk7n := no_f ghk7
        try simp only [go_sem, n1, n2, n3, n4, hk5, ghk6n] at ghk7n
        all_goals
        obtain rfl := so_some h
        refine ⟨0, fun L hL => ?_⟩
        simp only [go_sem, ir23, E_spec_NewFaults_l2, R_spec_NewFaults_l2, ir23_b1, ir23_k1, ir23_o1, ir23_r1, hk5, ghk6n, ghk7n]
  · try simp only [go_sem, n1, n2, n3, n4] at hk5
    all_goals
    obtain rfl := so_some h
    refine ⟨0, fun L hL => ?_⟩
    simp only [go_sem, ir23, E_spec_NewFaults_l2, R_spec_NewFaults_l2, ir23_b1, ir23_k1, ir23_o1, ir23_r1, hk5]

def E_spec_NewFaults_l1 (before : List Fault) (now : List Fault) : ((List Fault) × Int) → St
  | (out, i) => ⟨[.sl 2 (List.map Fault_av before), .sl 2 (List.map Fault_av now), .any, .any, .own 3200000, .int .i64 i, .any, .any], [], [(3200000, ⟨2, List.map Fault_av out⟩)], true⟩
def R_spec_NewFaults_l1 (before : List Fault) (now : List Fault) (y : (List Fault)) : Res := (.exit 0, ⟨[.any, .any, .any, .any, .own 3200000, .any, .any, .any], [], [(3200000, ⟨2, List.map Fault_av y⟩)], true⟩)
theorem spec_NewFaults_l1_ex {before : List Fault} {now : List Fault} {sgm_ : (List Fault) × Int} {rho_ : (List Fault)} (h : whileE (spec_NewFaults_l1 before now) sgm_ = some rho_) : ∃ L0, ∀ L, L0 ≤ L → iter (exec (look t_spec_NewFaults) L ir23_b0) ir23_k0 ir23_o0 ir23_r0 L (E_spec_NewFaults_l1 before now sgm_) = R_spec_NewFaults_l1 before now rho_ := by
  refine loop_ex (E := E_spec_NewFaults_l1 before now) (R := R_spec_NewFaults_l1 before now) (fun y => by first | (intro c; cases c) | (rcases y with y | y <;> (intro c; cases c)) | (rcases y with y | y | y <;> (intro c; cases c))) ?_ h
  clear h
  rintro ⟨out, i⟩ o_ h
  dsimp only [spec_NewFaults_l1] at h
  rcases it_some h with ⟨hk4, h⟩ | ⟨hk4, h⟩
  · try simp only [go_sem, n1, n2, n3, n4] at hk4
    all_goals
    obtain ⟨y_8, hk8, h⟩ := bd_some h
    obtain ⟨Lhk8, ehk8⟩ := spec_NewFaults_l2_ex hk8
    rcases it_some h with ⟨hk9, h⟩ | ⟨hk9, h⟩
    · try simp only [go_sem, n1, n2, n3, n4, hk4] at hk9
      all_goals
      obtain ⟨hk10, h⟩ := ck_some h
      have lhk10 := ix_lt hk10
      have xhk10 := getD_mapD Fault_av now lhk10
      try simp only [go_sem] at lhk10
      try simp only [go_sem] at xhk10
      try simp only [go_sem, n1, n2, n3, n4, hk4, hk9] at hk10
      all_goals
      obtain ⟨hk11, h⟩ := ck_some h
      try simp only [go_sem, n1, n2, n3, n4, hk4, hk9, hk10] at hk11
      all_goals
      obtain rfl := so_some h
      refine ⟨Lhk8, fun L hL => ?_⟩
      have ehk8 := ehk8 L (by omega)
      try simp only [go_sem, E_spec_NewFaults_l1, R_spec_NewFaults_l1, ir23_b0, ir23_k0, ir23_o0, ir23_r0, E_spec_NewFaults_l2, R_spec_NewFaults_l2, ir23_k1, ir23_o1, ir23_r1] at ehk8
      simp only [go_sem, ir23, E_spec_NewFaults_l1, R_spec_NewFaults_l1, ir23_b0, ir23_k0, ir23_o0, ir23_r0, E_spec_NewFaults_l2, R_spec_NewFaults_l2, ir23_k1, ir23_o1, ir23_r1, hk4, hk9, hk10, lhk10, xhk10, hk11, ehk8]
    · try simp only [go_sem, n1, n2, n3, n4, hk4] at hk9
      all_goals
      obtain rfl := so_some h
      refine ⟨Lhk8, fun L hL => ?_⟩
      have ehk8 := ehk8 L (by omega)
      try simp only [go_sem, E_spec_NewFaults_l1, R_spec_NewFaults_l1, ir23_b0, ir23_k0, ir23_o0, ir23_r0, E_spec_NewFaults_l2, R_spec_NewFaults_l2, ir23_k1, ir23_o1, ir23_r1] at ehk8
      simp only [go_sem, ir23, E_spec_NewFaults_l1, R_spec_NewFaults_l1, ir23_b0, ir23_k0, ir23_o0, ir23_r0, E_spec_NewFaults_l2, R_spec_NewFaults_l2, ir23_k1, ir23_o1, ir23_r1, hk4, hk9, ehk8]
  · try simp only [go_sem, n1, n2, n3, n4] at hk4
    all_goals
    obtain rfl := so_some h
    refine ⟨0, fun L hL => ?_⟩
    simp only [go_sem, ir23, E_spec_NewFaults_l1, R_spec_NewFaults_l1, ir23_b0, ir23_k0, ir23_o0, ir23_r0, E_spec_NewFaults_l2, R_spec_NewFaults_l2, ir23_k1, ir23_o1, ir23_r1, hk4]

theorem Fs_spec_NewFaults {before : List Fault} {now : List Fault} {y_ : (List Fault) × Int} (h : spec_NewFaults before now = some y_) : c_spec_NewFaults.F [.sl 2 (List.map Fault_av before), .sl 2 (List.map Fault_av now)] = ⟨true, .tup [.fresh 2 (List.map Fault_av y_.1), .int .i64 y_.2], [.any, .any]⟩ := by
  refine mkF_E (by simp only [flatA, flatB, flat1, List.all_cons, List.all_nil, Bool.and_self, flatE_map (f := Fault_av) (fun _ => rfl)]) ?_
  dsimp only [spec_NewFaults] at h
  obtain ⟨y_1, hk1, h⟩ := bd_some h
  have fhk1 := Fs_spec_l26Faults hk1
  try simp only [go_sem] at fhk1
  obtain ⟨hk2, h⟩ := ck_some h
  rcases or_split hk2 with ⟨ghk2, hk2⟩ | ghk2
  · try simp only [go_sem, n1, n2, n3, n4] at ghk2
    all_goals
    obtain ⟨y_2, hhk2⟩ := Option.isSome_iff_exists.1 hk2
    have fhk2 := Fs_spec_l26Faults hhk2
    try simp only [go_sem] at fhk2
    rcases it_some h with ⟨hk3, h⟩ | ⟨hk3, h⟩
    · try simp only [go_sem, n1, n2, n3, n4, ghk2, hhk2] at hk3
      all_goals
      obtain rfl := so_some h
      refine ⟨0, fun L hL => ?_⟩
      simp only [go_sem, ir23, E_spec_NewFaults_l2, R_spec_NewFaults_l2, ir23_k1, ir23_o1, ir23_r1, E_spec_NewFaults_l1, R_spec_NewFaults_l1, ir23_k0, ir23_o0, ir23_r0, fhk1, ghk2, hhk2, fhk2, hk3]
    · try simp only [go_sem, n1, n2, n3, n4, ghk2, hhk2] at hk3
      all_goals
      obtain ⟨y_12, hk12, h⟩ := bd_some h
      obtain ⟨Lhk12, ehk12⟩ := spec_NewFaults_l1_ex hk12
      obtain rfl := so_some h
      refine ⟨Lhk12, fun L hL => ?_⟩
      have ehk12 := ehk12 L (by omega)
      try simp only [go_sem, E_spec_NewFaults_l2, R_spec_NewFaults_l2, ir23_k1, ir23_o1, ir23_r1, E_spec_NewFaults_l1, R_spec_NewFaults_l1, ir23_k0, ir23_o0, ir23_r0] at ehk12
      simp only [go_sem, ir23, E_spec_NewFaults_l2, R_spec_NewFaults_l2, ir23_k1, ir23_o1, ir23_r1, E_spec_NewFaults_l1, R_spec_NewFaults_l1, ir23_k0, ir23_o0, ir23_r0, fhk1, ghk2, hhk2, fhk2, hk3, ehk12]
  · have ghk2n := no_f ghk2
    have ghk2nn := no_t ghk2n
    try simp only [go_sem, n1, n2, n3, n4] at ghk2nn
    all_goals
    rcases it_some h with ⟨hk3, h⟩ | ⟨hk3, h⟩
    · try simp only [go_sem, n1, n2, n3, n4, ghk2nn] at hk3
      all_goals
      obtain rfl := so_some h
      refine ⟨0, fun L hL => ?_⟩
      simp only [go_sem, ir23, E_spec_NewFaults_l2, R_spec_NewFaults_l2, ir23_k1, ir23_o1, ir23_r1, E_spec_NewFaults_l1, R_spec_NewFaults_l1, ir23_k0, ir23_o0, ir23_r0, fhk1, ghk2nn, hk3]
    · try simp only [go_sem, n1, n2, n3, n4, ghk2nn] at hk3
      all_goals
      obtain ⟨y_12, hk12, h⟩ := bd_some h
      obtain ⟨Lhk12, ehk12⟩ := spec_NewFaults_l1_ex hk12
      obtain rfl := so_some h
      refine ⟨Lhk12, fun L hL => ?_⟩
      have ehk12 := ehk12 L (by omega)
      try simp only [go_sem, E_spec_NewFaults_l2, R_spec_NewFaults_l2, ir23_k1, ir23_o1, ir23_r1, E_spec_NewFaults_l1, R_spec_NewFaults_l1, ir23_k0, ir23_o0, ir23_r0] at ehk12
      simp only [go_sem, ir23, E_spec_NewFaults_l2, R_spec_NewFaults_l2, ir23_k1, ir23_o1, ir23_r1, E_spec_NewFaults_l1, R_spec_NewFaults_l1, ir23_k0, ir23_o0, ir23_r0, fhk1, ghk2nn, hk3, ehk12]


def ir29_v : List Nat := [0, 1, 2, 6]
def ir29 : AFn := ⟨3, 4, .seq (.region false [
    ⟨.var 3, 6, none, .mov (.c (.bool false))⟩])
 (.seq (.region false [
    ⟨.push, 7, none, .mov (.v 0)⟩,
    ⟨.push, 8, none, .mov (.v 1)⟩,
    ⟨.push, 9, none, .bin false .geq (.s 1) (.s 0)⟩,
    ⟨.push, 10, none, .mov (.s 0)⟩,
    ⟨.push, 11, (some ((.s 0), true)), .mov (.v 0)⟩,
    ⟨.push, 12, (some ((.s 1), true)), .mov (.v 2)⟩,
    ⟨.push, 13, (some ((.s 2), true)), .bin false .leq (.s 1) (.s 0)⟩,
    ⟨.push, 14, none, .pick (.s 3) (.s 0) (.c (.bool false))⟩,
    ⟨.var 3, 6, none, .mov (.s 0)⟩])
 (.ret)), [.t 3]⟩
noncomputable def t_impl_in : List (Nat × Ctr) := []
noncomputable def c_impl_in : Ctr := mkF t_impl_in ir29 [.bor, .bor, .bor]
theorem s_impl_in : Sound Try.prog 29 c_impl_in := mkF_sound _ rfl snd_nil (by kernel_rfl : chkFn Try.prog 29 ir29 ir29_v = true)
theorem M_impl_in : c_impl_in.modes = [.bor, .bor, .bor] := rfl
theorem Fl_impl_in : c_impl_in.flat = true := rfl
attribute [go_sem] M_impl_in Fl_impl_in
theorem Fs_impl_in {n : Int} {low : Int} {high : Int} {y_ : Bool} (h : impl_in n low high = some y_) : c_impl_in.F [.int .i64 n, .int .i64 low, .int .i64 high] = ⟨true, .bool y_, [.any, .any, .any]⟩ := by
  refine mkF_E rfl ?_
  dsimp only [impl_in] at h
  obtain rfl := so_some h
  refine ⟨0, fun L hL => ?_⟩
  simp only [go_sem, ir29]


def ir32_b0 : IR := .seq (.region false [
    ⟨.var 8, 10, none, .bin false .lss (.v 7) (.v 6)⟩])
 (.seq (.cond (.v 8) (.skip)
  (.exit 0))
 (.seq (.block 1 (.seq (.region false [
      ⟨.push, 11, none, .mov (.v 7)⟩,
      ⟨.push, 12, none, .ixAddr 2 (.v 5) (.v 7)⟩,
      ⟨.push, 13, none, .load true 2 (.s 0)⟩,
      ⟨.var 4, 6, none, .alloc (.agg [.int .i64 (0), .int .i64 (0)])⟩,
      ⟨.var 3, 5, none, .mov (.s 2)⟩,
      ⟨.no, 0, none, .store 2 (.v 4) (.s 0)⟩])
   (.seq (.test false [
      ⟨.push, 14, none, .fldAddr 0 (.v 4)⟩,
      ⟨.push, 15, none, .load false 1 (.s 0)⟩,
      ⟨.push, 16, none, .mov (.v 1)⟩,
      ⟨.push, 17, none, .bin false .sub (.s 0) (.c (.int .i64 (1)))⟩,
      ⟨.push, 18, none, .call 29 [(.s 2), (.c (.int .i64 (0))), (.s 0)]⟩,
      ⟨.push, 19, none, .un .not (.s 0)⟩,
      ⟨.push, 20, none, .mov (.s 0)⟩,
      ⟨.push, 21, (some ((.s 0), false)), .fldAddr 1 (.v 4)⟩,
      ⟨.push, 22, (some ((.s 1), false)), .load false 1 (.s 0)⟩,
      ⟨.push, 23, (some ((.s 2), false)), .call 29 [(.s 0), (.c (.int .i64 (1))), (.c (.int .i64 (5)))]⟩,
      ⟨.push, 24, (some ((.s 3), false)), .un .not (.s 0)⟩,
      ⟨.push, 25, none, .pick (.s 4) (.c (.bool true)) (.s 0)⟩] (.s 0)
    (.seq (.region false [
        ⟨.var 2, 4, none, .mov (.c (.bool false))⟩])
     (.ret))
    (.skip))
   (.anyo 35 [
     ⟨.slot 0, 26, none, .mov (.v 3)⟩,
     ⟨.slot 1, 27, none, .bin false .gtr (.s 0) (.c (.int .i64 (0)))⟩,
     ⟨.slot 2, 28, none, .mov (.s 1)⟩,
     ⟨.slot 3, 29, (some ((.s 2), true)), .mov (.v 0)⟩,
     ⟨.slot 4, 30, (some ((.s 2), true)), .mov (.v 3)⟩,
     ⟨.slot 5, 31, (some ((.s 2), true)), .bin false .sub (.s 4) (.c (.int .i64 (1)))⟩,
     ⟨.slot 6, 32, (some ((.s 2), true)), .ixAddr 2 (.s 3) (.s 5)⟩,
     ⟨.slot 7, 33, (some ((.s 2), true)), .fldAddr 0 (.s 6)⟩,
     ⟨.slot 8, 34, (some ((.s 2), true)), .load false 1 (.s 7)⟩,
     ⟨.slot 9, 35, (some ((.s 2), true)), .fldAddr 0 (.v 4)⟩,
     ⟨.slot 10, 36, (some ((.s 2), true)), .load false 1 (.s 9)⟩,
     ⟨.slot 11, 37, (some ((.s 2), true)), .bin false .gtr (.s 8) (.s 10)⟩,
     ⟨.slot 12, 38, (some ((.s 2), true)), .mov (.s 11)⟩,
     ⟨.slot 13, 39, (some ((.s 12), false)), .mov (.v 0)⟩,
     ⟨.slot 14, 40, (some ((.s 12), false)), .mov (.v 3)⟩,
     ⟨.slot 15, 41, (some ((.s 12), false)), .bin false .sub (.s 14) (.c (.int .i64 (1)))⟩,
     ⟨.slot 16, 42, (some ((.s 12), false)), .ixAddr 2 (.s 13) (.s 15)⟩,
     ⟨.slot 17, 43, (some ((.s 12), false)), .fldAddr 0 (.s 16)⟩,
     ⟨.slot 18, 44, (some ((.s 12), false)), .load false 1 (.s 17)⟩,
     ⟨.slot 19, 45, (some ((.s 12), false)), .fldAddr 0 (.v 4)⟩,
     ⟨.slot 20, 46, (some ((.s 12), false)), .load false 1 (.s 19)⟩,
     ⟨.slot 21, 47, (some ((.s 12), false)), .bin false .eql (.s 18) (.s 20)⟩,
     ⟨.slot 22, 48, (some ((.s 12), false)), .mov (.s 21)⟩,
     ⟨.slot 23, 49, (some ((.s 22), true)), .mov (.v 0)⟩,
     ⟨.slot 24, 50, (some ((.s 22), true)), .mov (.v 3)⟩,
     ⟨.slot 25, 51, (some ((.s 22), true)), .bin false .sub (.s 24) (.c (.int .i64 (1)))⟩,
     ⟨.slot 26, 52, (some ((.s 22), true)), .ixAddr 2 (.s 23) (.s 25)⟩,
     ⟨.slot 27, 53, (some ((.s 22), true)), .fldAddr 1 (.s 26)⟩,
     ⟨.slot 28, 54, (some ((.s 22), true)), .load false 1 (.s 27)⟩,
     ⟨.slot 29, 55, (some ((.s 22), true)), .fldAddr 1 (.v 4)⟩,
     ⟨.slot 30, 56, (some ((.s 22), true)), .load false 1 (.s 29)⟩,
     ⟨.slot 31, 57, (some ((.s 22), true)), .bin false .geq (.s 28) (.s 30)⟩,
     ⟨.slot 32, 58, (some ((.s 12), false)), .pick (.s 22) (.s 31) (.c (.bool false))⟩,
     ⟨.slot 33, 59, (some ((.s 2), true)), .pick (.s 12) (.c (.bool true)) (.s 32)⟩,
     ⟨.slot 34, 60, none, .pick (.s 2) (.s 33) (.c (.bool false))⟩] [] (.cond (.s 34)
   (.seq (.region false [
       ⟨.var 2, 4, none, .mov (.c (.bool false))⟩])
    (.ret))
   (.skip))))))
 (.region false [
   ⟨.push, 61, none, .bin false .add (.v 7) (.c (.int .i64 (1)))⟩,
   ⟨.var 7, 9, none, .mov (.s 0)⟩])))
def ir32_k0 : List Bool := [true, true, false, false, false, true, true, true, false]
def ir32_o0 : List Bool := [false, false, false, false, false, false, false, false, false]
def ir32_r0 : List Bool := [false, false, true, false, false, false, false, false, false]
def ir32_v : List Nat := [0, 1, 4, 5, 6, 7, 8, 9, 10]
def ir32 : AFn := ⟨2, 9, .seq (.region false [
    ⟨.var 2, 4, none, .mov (.c (.bool false))⟩])
 (.seq (.seq (.region false [
     ⟨.var 5, 7, none, .mov (.v 0)⟩,
     ⟨.var 6, 8, none, .len false (.v 5)⟩,
     ⟨.var 7, 9, none, .mov (.c (.int .i64 (0)))⟩])
  (.block 0 (.loop ir32_k0 ir32_o0 ir32_r0 ir32_b0)))
 (.seq (.region false [
    ⟨.var 2, 4, none, .mov (.c (.bool true))⟩])
 (.ret))), [.t 2]⟩
noncomputable def t_impl_ordered : List (Nat × Ctr) := [(29, c_impl_in)]
theorem lk_impl_ordered_29 : look t_impl_ordered 29 = some c_impl_in := rfl
noncomputable def c_impl_ordered : Ctr := mkF t_impl_ordered ir32 [.bor, .bor]
theorem s_impl_ordered : Sound Try.prog 32 c_impl_ordered := mkF_sound _ rfl (snd_cons s_impl_in snd_nil) (by kernel_rfl : chkFn Try.prog 32 ir32 ir32_v = true)
theorem M_impl_ordered : c_impl_ordered.modes = [.bor, .bor] := rfl
theorem Fl_impl_ordered : c_impl_ordered.flat = true := rfl
attribute [go_sem] M_impl_ordered Fl_impl_ordered
attribute [go_sem] lk_impl_ordered_29
def E_impl_ordered_l1 (faults : List Fault) (estimates : Int) (t7 : List Fault) (t8 : Int) : Int → St
  | t9 => ⟨[.sl 2 (List.map Fault_av faults), .int .i64 estimates, .any, .any, .any, .sl 2 (List.map Fault_av t7), .int .i64 t8, .int .i64 t9, .any], [], [], true⟩
def R_impl_ordered_l1 (faults : List Fault) (estimates : Int) (t7 : List Fault) (t8 : Int) : (Unit ⊕ Bool) → Res
  | .inl y => (.exit 0, ⟨[.any, .any, .any, .any, .any, .any, .any, .any, .any], [], [], true⟩)
  | .inr y => (.ret, ⟨[.any, .any, .bool y, .any, .any, .any, .any, .any, .any], [], [], true⟩)
theorem impl_ordered_l1_ex {faults : List Fault} {estimates : Int} {t7 : List Fault} {t8 : Int} {sgm_ : Int} {rho_ : Unit ⊕ Bool} (h : whileE (impl_ordered_l1 faults estimates t7 t8) sgm_ = some rho_) : ∃ L0, ∀ L, L0 ≤ L → iter (exec (look t_impl_ordered) L ir32_b0) ir32_k0 ir32_o0 ir32_r0 L (E_impl_ordered_l1 faults estimates t7 t8 sgm_) = R_impl_ordered_l1 faults estimates t7 t8 rho_ := by
  refine loop_ex (E := E_impl_ordered_l1 faults estimates t7 t8) (R := R_impl_ordered_l1 faults estimates t7 t8) (fun y => by first | (intro c; cases c) | (rcases y with y | y <;> (intro c; cases c)) | (rcases y with y | y | y <;> (intro c; cases c))) ?_ h
  clear h
  intro t9 o_ h
  dsimp only [impl_ordered_l1] at h
  rcases it_some h with ⟨hk1, h⟩ | ⟨hk1, h⟩
  · try simp only [go_sem, n1, n2, n3, n4] at hk1
    all_goals
    obtain ⟨hk2, h⟩ := ck_some h
    have lhk2 := ix_lt hk2
    have xhk2 := getD_mapD Fault_av t7 lhk2
    try simp only [go_sem] at lhk2
    try simp only [go_sem] at xhk2
    try simp only [go_sem, n1, n2, n3, n4, hk1] at hk2
    all_goals
    obtain ⟨y_3, hk3, h⟩ := bd_some h
    have fhk3 := Fs_impl_in hk3
    try simp only [go_sem] at fhk3
    obtain ⟨hk4, h⟩ := ck_some h
    rcases or_split hk4 with ⟨ghk4, hk4⟩ | ghk4
    · try simp only [go_sem, n1, n2, n3, n4, hk1, hk2] at ghk4
      all_goals
      obtain ⟨y_4, hhk4⟩ := Option.isSome_iff_exists.1 hk4
      have fhk4 := Fs_impl_in hhk4
      try simp only [go_sem] at fhk4
      rcases it_some h with ⟨hk5, h⟩ | ⟨hk5, h⟩
      · try simp only [go_sem, n1, n2, n3, n4, hk1, hk2, ghk4, hhk4] at hk5
        all_goals
        obtain rfl := so_some h
        refine ⟨0, fun L hL => ?_⟩
        simp only [go_sem, ir32, E_impl_ordered_l1, R_impl_ordered_l1, ir32_b0, ir32_k0, ir32_o0, ir32_r0, hk1, hk2, lhk2, xhk2, fhk3, ghk4, hhk4, fhk4, hk5]
      · try simp only [go_sem, n1, n2, n3, n4, hk1, hk2, ghk4, hhk4] at hk5
        all_goals
        obtain ⟨hk6, h⟩ := ck_some h
        rcases or_split hk6 with ⟨ghk6, hk6⟩ | ghk6
        · try simp only [go_sem, n1, n2, n3, n4, hk1, hk2, ghk4, hhk4, hk5] at ghk6
          all_goals
          have lhk6 := ix_lt hk6
          have xhk6 := getD_mapD Fault_av faults lhk6
          try simp only [go_sem] at lhk6
          try simp only [go_sem] at xhk6
          try simp only [go_sem, n1, n2, n3, n4, hk1, hk2, ghk4, hhk4, hk5, ghk6] at hk6
          all_goals
          obtain ⟨hk7, h⟩ := ck_some h
          rcases or_split hk7 with ⟨ghk7, hk7⟩ | ghk7
          · try simp only [go_sem, n1, n2, n3, n4, hk1, hk2, ghk4, hhk4, hk5, ghk6, hk6] at ghk7
            all_goals
            have lhk7 := ix_lt hk7
            have xhk7 := getD_mapD Fault_av faults lhk7
            try simp only [go_sem] at lhk7
            try simp only [go_sem] at xhk7
            try simp only [go_sem, n1, n2, n3, n4, hk1, hk2, ghk4, hhk4, hk5, ghk6, hk6, ghk7] at hk7
            all_goals
            obtain ⟨hk8, h⟩ := ck_some h
            rcases or_split hk8 with ⟨ghk8, hk8⟩ | ghk8
            · try simp only [go_sem, n1, n2, n3, n4, hk1, hk2, ghk4, hhk4, hk5, ghk6, hk6, ghk7, hk7] at ghk8
              all_goals
              have lhk8 := ix_lt hk8
              have xhk8 := getD_mapD Fault_av faults lhk8
              try simp only [go_sem] at lhk8
              try simp only [go_sem] at xhk8
              try simp only [go_sem, n1, n2, n3, n4, hk1, hk2, ghk4, hhk4, hk5, ghk6, hk6, ghk7, hk7, ghk8] at hk8
              all_goals
              rcases it_some h with ⟨hk9, h⟩ | ⟨hk9, h⟩
              · try simp only [go_sem, n1, n2, n3, n4, hk1, hk2, ghk4, hhk4, hk5, ghk6, hk6, ghk7, hk7, ghk8, hk8] at hk9
                all_goals
                obtain rfl := so_some h
                refine ⟨0, fun L hL => ?_⟩
                simp only [go_sem, ir32, E_impl_ordered_l1, R_impl_ordered_l1, ir32_b0, ir32_k0, ir32_o0, ir32_r0, hk1, hk2, lhk2, xhk2, fhk3, ghk4, hhk4, fhk4, hk5, ghk6, hk6, lhk6, xhk6, ghk7, hk7, lhk7, xhk7, ghk8, hk8, lhk8, xhk8, hk9]
              · try simp only [go_sem, n1, n2, n3, n4, hk1, hk2, ghk4, hhk4, hk5, ghk6, hk6, ghk7, hk7, ghk8, hk8] at hk9
                all_goals
                obtain rfl := so_some h
                refine ⟨0, fun L hL => ?_⟩
                simp only [go_sem, ir32, E_impl_ordered_l1, R_impl_ordered_l1, ir32_b0, ir32_k0, ir32_o0, ir32_r0, hk1, hk2, lhk2, xhk2, fhk3, ghk4, hhk4, fhk4, hk5, ghk6, hk6, lhk6, xhk6, ghk7, hk7, lhk7, xhk7, ghk8, hk8, lhk8, xhk8, hk9]
            · rcases and_f ghk8 with ghk8a | ⟨ghk8a, ghk8b⟩
              · rcases and_f ghk8a with ghk8aa | ⟨ghk8aa, ghk8ab⟩
                · try simp only [go_sem, n1, n2, n3, n4, hk1, hk2, ghk4, hhk4, hk5, ghk6, hk6, ghk7, hk7] at ghk8aa
                  all_goals
                  rcases it_some h with ⟨hk9, h⟩ | ⟨hk9, h⟩
                  · try simp only [go_sem, n1, n2, n3, n4, hk1, hk2, ghk4, hhk4, hk5, ghk6, hk6, ghk7, hk7, ghk8aa] at hk9
                    all_goals
                    obtain rfl := so_some h
                    refine ⟨0, fun L hL => ?_⟩
                    simp only [go_sem, ir32, E_impl_ordered_l1, R_impl_ordered_l1, ir32_b0, ir32_k0, ir32_o0, ir32_r0, hk1, hk2, lhk2, xhk2, fhk3, ghk4, hhk4, fhk4, hk5, ghk6, hk6, lhk6, xhk6, ghk7, hk7, lhk7, xhk7, ghk8aa, hk9]
                  · try simp only [go_sem, n1, n2, n3, n4, hk1, hk2, ghk4, hhk4, hk5, ghk6, hk6, ghk7, hk7, ghk8aa] at hk9
                    all_goals
                    obtain rfl := so_some h
                    refine ⟨0, fun L hL => ?_⟩
                    simp only [go_sem, ir32, E_impl_ordered_l1, R_impl_ordered_l1, ir32_b0, ir32_k0, ir32_o0, ir32_r0, hk1, hk2, lhk2, xhk2, fhk3, ghk4, hhk4, fhk4, hk5, ghk6, hk6, lhk6, xhk6, ghk7, hk7, lhk7, xhk7, ghk8aa, hk9]
                · have ghk8abn := no_f ghk8ab
                  try simp only [go_sem, n1, n2, n3, n4, hk1, hk2, ghk4, hhk4, hk5, ghk6, hk6, ghk7, hk7] at ghk8aa
                  all_goals
                  try simp only [go_sem, n1, n2, n3, n4, hk1, hk2, ghk4, hhk4, hk5, ghk6, hk6, ghk7, hk7, ghk8aa] at ghk8abn
                  all_goals
                  rcases it_some h with ⟨hk9, h⟩ | ⟨hk9, h⟩
                  · try simp only [go_sem, n1, n2, n3, n4, hk1, hk2, ghk4, hhk4, hk5, ghk6, hk6, ghk7, hk7, ghk8aa, ghk8abn] at hk9
                    all_goals
                    obtain rfl := so_some h
                    refine ⟨0, fun L hL => ?_⟩
                    simp only [go_sem, ir32, E_impl_ordered_l1, R_impl_ordered_l1, ir32_b0, ir32_k0, ir32_o0, ir32_r0, hk1, hk2, lhk2, xhk2, fhk3, ghk4, hhk4, fhk4, hk5, ghk6, hk6, lhk6, xhk6, ghk7, hk7, lhk7, xhk7, ghk8aa, ghk8abn, hk9]
                  · try simp only [go_sem, n1, n2, n3, n4, hk1, hk2, ghk4, hhk4, hk5, ghk6, hk6, ghk7, hk7, ghk8aa, ghk8abn] at hk9
                    all_goals
                    obtain rfl := so_some h
                    refine ⟨0, fun L hL => ?_⟩
                    simp only [go_sem, ir32, E_impl_ordered_l1, R_impl_ordered_l1, ir32_b0, ir32_k0, ir32_o0, ir32_r0, hk1, hk2, lhk2, xhk2, fhk3, ghk4, hhk4, fhk4, hk5, ghk6, hk6, lhk6, xhk6, ghk7, hk7, lhk7, xhk7, ghk8aa, ghk8abn, hk9]
              · obtain ⟨ghk8aa, ghk8ab⟩ := and_t ghk8a
                have ghk8abn := no_t ghk8ab
                try simp only [go_sem, n1, n2, n3, n4, hk1, hk2, ghk4, hhk4, hk5, ghk6, hk6, ghk7, hk7] at ghk8aa
                all_goals
                try simp only [go_sem, n1, n2, n3, n4, hk1, hk2, ghk4, hhk4, hk5, ghk6, hk6, ghk7, hk7, ghk8aa] at ghk8abn
                all_goals
                try simp only [go_sem, n1, n2, n3, n4, hk1, hk2, ghk4, hhk4, hk5, ghk6, hk6, ghk7, hk7, ghk8aa, ghk8abn] at ghk8b
                all_goals
                rcases it_some h with ⟨hk9, h⟩ | ⟨hk9, h⟩
                · try simp only [go_sem, n1, n2, n3, n4, hk1, hk2, ghk4, hhk4, hk5, ghk6, hk6, ghk7, hk7, ghk8aa, ghk8abn, ghk8b] at hk9
                  all_goals
                  obtain rfl := so_some h
                  refine ⟨0, fun L hL => ?_⟩
                  simp only [go_sem, ir32, E_impl_ordered_l1, R_impl_ordered_l1, ir32_b0, ir32_k0, ir32_o0, ir32_r0, hk1, hk2, lhk2, xhk2, fhk3, ghk4, hhk4, fhk4, hk5, ghk6, hk6, lhk6, xhk6, ghk7, hk7, lhk7, xhk7, ghk8aa, ghk8abn, ghk8b, hk9]
                · try simp only [go_sem, n1, n2, n3, n4, hk1, hk2, ghk4, hhk4, hk5, ghk6, hk6, ghk7, hk7, ghk8aa, ghk8abn, ghk8b] at hk9
                  all_goals
                  obtain rfl := so_some h
                  refine ⟨0, fun L hL => ?_⟩
                  simp only [go_sem, ir32, E_impl_ordered_l1, R_impl_ordered_l1, ir32_b0, ir32_k0, ir32_o0, ir32_r0, hk1, hk2, lhk2, xhk2, fhk3, ghk4, hhk4, fhk4, hk5, ghk6, hk6, lhk6, xhk6, ghk7, hk7, lhk7, xhk7, ghk8aa, ghk8abn, ghk8b, hk9]
          · rcases and_f ghk7 with ghk7a | ⟨ghk7a, ghk7b⟩
            · try simp only [go_sem, n1, n2, n3, n4, hk1, hk2, ghk4, hhk4, hk5, ghk6, hk6] at ghk7a
              all_goals
              obtain ⟨hk8, h⟩ := ck_some h
              rcases or_split hk8 with ⟨ghk8, hk8⟩ | ghk8
              · try simp only [go_sem, n1, n2, n3, n4, hk1, hk2, ghk4, hhk4, hk5, ghk6, hk6, ghk7a] at ghk8
                all_goals
                have lhk8 := ix_lt hk8
                have xhk8 := getD_mapD Fault_av faults lhk8
                try simp only [go_sem] at lhk8
                try simp only [go_sem] at xhk8
                try simp only [go_sem, n1, n2, n3, n4, hk1, hk2, ghk4, hhk4, hk5, ghk6, hk6, ghk7a, ghk8] at hk8
                all_goals
                rcases it_some h with ⟨hk9, h⟩ | ⟨hk9, h⟩
                · try simp only [go_sem, n1, n2, n3, n4, hk1, hk2, ghk4, hhk4, hk5, ghk6, hk6, ghk7a, ghk8, hk8] at hk9
                  all_goals
                  obtain rfl := so_some h
                  refine ⟨0, fun L hL => ?_⟩
                  simp only [go_sem, ir32, E_impl_ordered_l1, R_impl_ordered_l1, ir32_b0, ir32_k0, ir32_o0, ir32_r0, hk1, hk2, lhk2, xhk2, fhk3, ghk4, hhk4, fhk4, hk5, ghk6, hk6, lhk6, xhk6, ghk7a, ghk8, hk8, lhk8, xhk8, hk9]
                · try simp only [go_sem, n1, n2, n3, n4, hk1, hk2, ghk4, hhk4, hk5, ghk6, hk6, ghk7a, ghk8, hk8] at hk9
                  all_goals
                  obtain rfl := so_some h
                  refine ⟨0, fun L hL => ?_⟩
                  simp only [go_sem, ir32, E_impl_ordered_l1, R_impl_ordered_l1, ir32_b0, ir32_k0, ir32_o0, ir32_r0, hk1, hk2, lhk2, xhk2, fhk3, ghk4, hhk4, fhk4, hk5, ghk6, hk6, lhk6, xhk6, ghk7a, ghk8, hk8, lhk8, xhk8, hk9]
              · rcases and_f ghk8 with ghk8a | ⟨ghk8a, ghk8b⟩
                · rcases and_f ghk8a with ghk8aa | ⟨ghk8aa, ghk8ab⟩
                  · try simp only [go_sem, n1, n2, n3, n4, hk1, hk2, ghk4, hhk4, hk5, ghk6, hk6, ghk7a] at ghk8aa
                    all_goals
                    rcases it_some h with ⟨hk9, h⟩ | ⟨hk9, h⟩
                    · try simp only [go_sem, n1, n2, n3, n4, hk1, hk2, ghk4, hhk4, hk5, ghk6, hk6, ghk7a, ghk8aa] at hk9
                      all_goals
                      obtain rfl := so_some h
                      refine ⟨0, fun L hL => ?_⟩
                      simp only [go_sem, ir32, E_impl_ordered_l1, R_impl_ordered_l1, ir32_b0, ir32_k0, ir32_o0, ir32_r0, hk1, hk2, lhk2, xhk2, fhk3, ghk4, hhk4, fhk4, hk5, ghk6, hk6, lhk6, xhk6, ghk7a, ghk8aa, hk9]
                    · try simp only [go_sem, n1, n2, n3, n4, hk1, hk2, ghk4, hhk4, hk5, ghk6, hk6, ghk7a, ghk8aa] at hk9
                      all_goals
                      obtain rfl := so_some h
                      refine ⟨0, fun L hL => ?_⟩
                      simp only [go_sem, ir32, E_impl_ordered_l1, R_impl_ordered_l1, ir32_b0, ir32_k0, ir32_o0, ir32_r0, hk1, hk2, lhk2, xhk2, fhk3, ghk4, hhk4, fhk4, hk5, ghk6, hk6, lhk6, xhk6, ghk7a, ghk8aa, hk9]
                  · have ghk8abn := no_f ghk8ab
                    try simp only [go_sem, n1, n2, n3, n4, hk1, hk2, ghk4, hhk4, hk5, ghk6, hk6, ghk7a] at ghk8aa
                    all_goals
                    try simp only [go_sem, n1, n2, n3, n4, hk1, hk2, ghk4, hhk4, hk5, ghk6, hk6, ghk7a, ghk8aa] at ghk8abn
                    all_goals
                    rcases it_some h with ⟨hk9, h⟩ | ⟨hk9, h⟩
                    · try simp only [go_sem, n1, n2, n3, n4, hk1, hk2, ghk4, hhk4, hk5, ghk6, hk6, ghk7a, ghk8aa, ghk8abn] at hk9
                      all_goals
                      obtain rfl := so_some h
                      refine ⟨0, fun L hL => ?_⟩
                      simp only [go_sem, ir32, E_impl_ordered_l1, R_impl_ordered_l1, ir32_b0, ir32_k0, ir32_o0, ir32_r0, hk1, hk2, lhk2, xhk2, fhk3, ghk4, hhk4, fhk4, hk5, ghk6, hk6, lhk6, xhk6, ghk7a, ghk8aa, ghk8abn, hk9]
                    · try simp only [go_sem, n1, n2, n3, n4, hk1, hk2, ghk4, hhk4, hk5, ghk6, hk6, ghk7a, ghk8aa, ghk8abn] at hk9
                      all_goals
                      obtain rfl := so_some h
                      refine ⟨0, fun L hL => ?_⟩
                      simp only [go_sem, ir32, E_impl_ordered_l1, R_impl_ordered_l1, ir32_b0, ir32_k0, ir32_o0, ir32_r0, hk1, hk2, lhk2, xhk2, fhk3, ghk4, hhk4, fhk4, hk5, ghk6, hk6, lhk6, xhk6, ghk7a, ghk8aa, ghk8abn, hk9]
                · obtain ⟨ghk8aa, ghk8ab⟩ := and_t ghk8a
                  have ghk8abn := no_t ghk8ab
                  try simp only [go_sem, n1, n2, n3, n4, hk1, hk2, ghk4, hhk4, hk5, ghk6, hk6, ghk7a] at ghk8aa
                  all_goals
                  try simp only [go_sem, n1, n2, n3, n4, hk1, hk2, ghk4, hhk4, hk5, ghk6, hk6, ghk7a, ghk8aa] at ghk8abn
                  all_goals
                  try simp only [go_sem, n1, n2, n3, n4, hk1, hk2, ghk4, hhk4, hk5, ghk6, hk6, ghk7a, ghk8aa, ghk8abn] at ghk8b
                  all_goals
                  rcases it_some h with ⟨hk9, h⟩ | ⟨hk9, h⟩
                  · try simp only [go_sem, n1, n2, n3, n4, hk1, hk2, ghk4, hhk4, hk5, ghk6, hk6, ghk7a, ghk8aa, ghk8abn, ghk8b] at hk9
                    all_goals
                    obtain rfl := so_some h
                    refine ⟨0, fun L hL => ?_⟩
                    simp only [go_sem, ir32, E_impl_ordered_l1, R_impl_ordered_l1, ir32_b0, ir32_k0, ir32_o0, ir32_r0, hk1, hk2, lhk2, xhk2, fhk3, ghk4, hhk4, fhk4, hk5, ghk6, hk6, lhk6, xhk6, ghk7a, ghk8aa, ghk8abn, ghk8b, hk9]
                  · try simp only [go_sem, n1, n2, n3, n4, hk1, hk2, ghk4, hhk4, hk5, ghk6, hk6, ghk7a, ghk8aa, ghk8abn, ghk8b] at hk9
                    all_goals
                    obtain rfl := so_some h
                    refine ⟨0, fun L hL => ?_⟩
                    simp only [go_sem, ir32, E_impl_ordered_l1, R_impl_ordered_l1, ir32_b0, ir32_k0, ir32_o0, ir32_r0, hk1, hk2, lhk2, xhk2, fhk3, ghk4, hhk4, fhk4, hk5, ghk6, hk6, lhk6, xhk6, ghk7a, ghk8aa, ghk8abn, ghk8b, hk9]
            · have ghk7bn := no_f ghk7b
              try simp only [go_sem, n1, n2, n3, n4, hk1, hk2, ghk4, hhk4, hk5, ghk6, hk6] at ghk7a
              all_goals
              try simp only [go_sem, n1, n2, n3, n4, hk1, hk2, ghk4, hhk4, hk5, ghk6, hk6, ghk7a] at ghk7bn
              all_goals
              obtain ⟨hk8, h⟩ := ck_some h
              rcases or_split hk8 with ⟨ghk8, hk8⟩ | ghk8
              · try simp only [go_sem, n1, n2, n3, n4, hk1, hk2, ghk4, hhk4, hk5, ghk6, hk6, ghk7a, ghk7bn] at ghk8
                all_goals
                have lhk8 := ix_lt hk8
                have xhk8 := getD_mapD Fault_av faults lhk8
                try simp only [go_sem] at lhk8
                try simp only [go_sem] at xhk8
                try simp only [go_sem, n1, n2, n3, n4, hk1, hk2, ghk4, hhk4, hk5, ghk6, hk6, ghk7a, ghk7bn, ghk8] at hk8
                all_goals
                rcases it_some h with ⟨hk9, h⟩ | ⟨hk9, h⟩
                · try simp only [go_sem, n1, n2, n3, n4, hk1, hk2, ghk4, hhk4, hk5, ghk6, hk6, ghk7a, ghk7bn, ghk8, hk8] at hk9
                  all_goals
                  obtain rfl := so_some h
                  refine ⟨0, fun L hL => ?_⟩
                  simp only [go_sem, ir32, E_impl_ordered_l1, R_impl_ordered_l1, ir32_b0, ir32_k0, ir32_o0, ir32_r0, hk1, hk2, lhk2, xhk2, fhk3, ghk4, hhk4, fhk4, hk5, ghk6, hk6, lhk6, xhk6, ghk7a, ghk7bn, ghk8, hk8, lhk8, xhk8, hk9]
                · try simp only [go_sem, n1, n2, n3, n4, hk1, hk2, ghk4, hhk4, hk5, ghk6, hk6, ghk7a, ghk7bn, ghk8, hk8] at hk9
                  all_goals
                  obtain rfl := so_some h
                  refine ⟨0, fun L hL => ?_⟩
                  simp only [go_sem, ir32, E_impl_ordered_l1, R_impl_ordered_l1, ir32_b0, ir32_k0, ir32_o0, ir32_r0, hk1, hk2, lhk2, xhk2, fhk3, ghk4, hhk4, fhk4, hk5, ghk6, hk6, lhk6, xhk6, ghk7a, ghk7bn, ghk8, hk8, lhk8, xhk8, hk9]
              · rcases and_f ghk8 with ghk8a | ⟨ghk8a, ghk8b⟩
                · rcases and_f ghk8a with ghk8aa | ⟨ghk8aa, ghk8ab⟩
                  · try simp only [go_sem, n1, n2, n3, n4, hk1, hk2, ghk4, hhk4, hk5, ghk6, hk6, ghk7a, ghk7bn] at ghk8aa
                    all_goals
                    rcases it_some h with ⟨hk9, h⟩ | ⟨hk9, h⟩
                    · try simp only [go_sem, n1, n2, n3, n4, hk1, hk2, ghk4, hhk4, hk5, ghk6, hk6, ghk7a, ghk7bn, ghk8aa] at hk9
                      all_goals
                      obtain rfl := so_some h
                      refine ⟨0, fun L hL => ?_⟩
                      simp only [go_sem, ir32, E_impl_ordered_l1, R_impl_ordered_l1, ir32_b0, ir32_k0, ir32_o0, ir32_r0, hk1, hk2, lhk2, xhk2, fhk3, ghk4, hhk4, fhk4, hk5, ghk6, hk6, lhk6, xhk6, ghk7a, ghk7bn, ghk8aa, hk9]
                    · try simp only [go_sem, n1, n2, n3, n4, hk1, hk2, ghk4, hhk4, hk5, ghk6, hk6, ghk7a, ghk7bn, ghk8aa] at hk9
                      all_goals
                      obtain rfl := so_some h
                      refine ⟨0, fun L hL => ?_⟩
                      simp only [go_sem, ir32, E_impl_ordered_l1, R_impl_ordered_l1, ir32_b0, ir32_k0, ir32_o0, ir32_r0, hk1, hk2, lhk2, xhk2, fhk3, ghk4, hhk4, fhk4, hk5, ghk6, hk6, lhk6, xhk6, ghk7a, ghk7bn, ghk8aa, hk9]
                  · have ghk8abn := no_f ghk8ab
                    try simp only [go_sem, n1, n2, n3, n4, hk1, hk2, ghk4, hhk4, hk5, ghk6, hk6, ghk7a, ghk7bn] at ghk8aa
                    all_goals
                    try simp only [go_sem, n1, n2, n3, n4, hk1, hk2, ghk4, hhk4, hk5, ghk6, hk6, ghk7a, ghk7bn, ghk8aa] at ghk8abn
                    all_goals
                    rcases it_some h with ⟨hk9, h⟩ | ⟨hk9, h⟩
                    · try simp only [go_sem, n1, n2, n3, n4, hk1, hk2, ghk4, hhk4, hk5, ghk6, hk6, ghk7a, ghk7bn, ghk8aa, ghk8abn] at hk9
                      all_goals
                      obtain rfl := so_some h
                      refine ⟨0, fun L hL => ?_⟩
                      simp only [go_sem, ir32, E_impl_ordered_l1, R_impl_ordered_l1, ir32_b0, ir32_k0, ir32_o0, ir32_r0, hk1, hk2, lhk2, xhk2, fhk3, ghk4, hhk4, fhk4, hk5, ghk6, hk6, lhk6, xhk6, ghk7a, ghk7bn, ghk8aa, ghk8abn, hk9]
                    · try simp only [go_sem, n1, n2, n3, n4, hk1, hk2, ghk4, hhk4, hk5, ghk6, hk6, ghk7a, ghk7bn, ghk8aa, ghk8abn] at hk9
                      all_goals
                      obtain rfl := so_some h
                      refine ⟨0, fun L hL => ?_⟩
                      simp only [go_sem, ir32, E_impl_ordered_l1, R_impl_ordered_l1, ir32_b0, ir32_k0, ir32_o0, ir32_r0, hk1, hk2, lhk2, xhk2, fhk3, ghk4, hhk4, fhk4, hk5, ghk6, hk6, lhk6, xhk6, ghk7a, ghk7bn, ghk8aa, ghk8abn, hk9]
                · obtain ⟨ghk8aa, ghk8ab⟩ := and_t ghk8a
                  have ghk8abn := no_t ghk8ab
                  try simp only [go_sem, n1, n2, n3, n4, hk1, hk2, ghk4, hhk4, hk5, ghk6, hk6, ghk7a, ghk7bn] at ghk8aa
                  all_goals
                  try simp only [go_sem, n1, n2, n3, n4, hk1, hk2, ghk4, hhk4, hk5, ghk6, hk6, ghk7a, ghk7bn, ghk8aa] at ghk8abn
                  all_goals
                  try simp only [go_sem, n1, n2, n3, n4, hk1, hk2, ghk4, hhk4, hk5, ghk6, hk6, ghk7a, ghk7bn, ghk8aa, ghk8abn] at ghk8b
                  all_goals
                  rcases it_some h with ⟨hk9, h⟩ | ⟨hk9, h⟩
                  · try simp only [go_sem, n1, n2, n3, n4, hk1, hk2, ghk4, hhk4, hk5, ghk6, hk6, ghk7a, ghk7bn, ghk8aa, ghk8abn, ghk8b] at hk9
                    all_goals
                    obtain rfl := so_some h
                    refine ⟨0, fun L hL => ?_⟩
                    simp only [go_sem, ir32, E_impl_ordered_l1, R_impl_ordered_l1, ir32_b0, ir32_k0, ir32_o0, ir32_r0, hk1, hk2, lhk2, xhk2, fhk3, ghk4, hhk4, fhk4, hk5, ghk6, hk6, lhk6, xhk6, ghk7a, ghk7bn, ghk8aa, ghk8abn, ghk8b, hk9]
                  · try simp only [go_sem, n1, n2, n3, n4, hk1, hk2, ghk4, hhk4, hk5, ghk6, hk6, ghk7a, ghk7bn, ghk8aa, ghk8abn, ghk8b] at hk9
                    all_goals
                    obtain rfl := so_some h
                    refine ⟨0, fun L hL => ?_⟩
                    simp only [go_sem, ir32, E_impl_ordered_l1, R_impl_ordered_l1, ir32_b0, ir32_k0, ir32_o0, ir32_r0, hk1, hk2, lhk2, xhk2, fhk3, ghk4, hhk4, fhk4, hk5, ghk6, hk6, lhk6, xhk6, ghk7a, ghk7bn, ghk8aa, ghk8abn, ghk8b, hk9]
        · try simp only [go_sem, n1, n2, n3, n4, hk1, hk2, ghk4, hhk4, hk5] at ghk6
          all_goals
          obtain ⟨hk7, h⟩ := ck_some h
          rcases or_split hk7 with ⟨ghk7, hk7⟩ | ghk7
          · try simp only [go_sem, n1, n2, n3, n4, hk1, hk2, ghk4, hhk4, hk5, ghk6] at ghk7
            all_goals
            have lhk7 := ix_lt hk7
            have xhk7 := getD_mapD Fault_av faults lhk7
            try simp only [go_sem] at lhk7
            try simp only [go_sem] at xhk7
            try simp only [go_sem, n1, n2, n3, n4, hk1, hk2, ghk4, hhk4, hk5, ghk6, ghk7] at hk7
            all_goals
            obtain ⟨hk8, h⟩ := ck_some h
            rcases or_split hk8 with ⟨ghk8, hk8⟩ | ghk8
            · try simp only [go_sem, n1, n2, n3, n4, hk1, hk2, ghk4, hhk4, hk5, ghk6, ghk7, hk7] at ghk8
              all_goals
              have lhk8 := ix_lt hk8
              have xhk8 := getD_mapD Fault_av faults lhk8
              try simp only [go_sem] at lhk8
              try simp only [go_sem] at xhk8
              try simp only [go_sem, n1, n2, n3, n4, hk1, hk2, ghk4, hhk4, hk5, ghk6, ghk7, hk7, ghk8] at hk8
              all_goals
              rcases it_some h with ⟨hk9, h⟩ | ⟨hk9, h⟩
              · try simp only [go_sem, n1, n2, n3, n4, hk1, hk2, ghk4, hhk4, hk5, ghk6, ghk7, hk7, ghk8, hk8] at hk9
                all_goals
                obtain rfl := so_some h
                refine ⟨0, fun L hL => ?_⟩
                simp only [go_sem, ir32, E_impl_ordered_l1, R_impl_ordered_l1, ir32_b0, ir32_k0, ir32_o0, ir32_r0, hk1, hk2, lhk2, xhk2, fhk3, ghk4, hhk4, fhk4, hk5, ghk6, ghk7, hk7, lhk7, xhk7, ghk8, hk8, lhk8, xhk8, hk9]
              · try simp only [go_sem, n1, n2, n3, n4, hk1, hk2, ghk4, hhk4, hk5, ghk6, ghk7, hk7, ghk8, hk8] at hk9
                all_goals
                obtain rfl := so_some h
                refine ⟨0, fun L hL => ?_⟩
                simp only [go_sem, ir32, E_impl_ordered_l1, R_impl_ordered_l1, ir32_b0, ir32_k0, ir32_o0, ir32_r0, hk1, hk2, lhk2, xhk2, fhk3, ghk4, hhk4, fhk4, hk5, ghk6, ghk7, hk7, lhk7, xhk7, ghk8, hk8, lhk8, xhk8, hk9]
            · rcases and_f ghk8 with ghk8a | ⟨ghk8a, ghk8b⟩
              · rcases and_f ghk8a with ghk8aa | ⟨ghk8aa, ghk8ab⟩
                · try simp only [go_sem, n1, n2, n3, n4, hk1, hk2, ghk4, hhk4, hk5, ghk6, ghk7, hk7] at ghk8aa
                  all_goals
                  rcases it_some h with ⟨hk9, h⟩ | ⟨hk9, h⟩
                  · try simp only [go_sem, n1, n2, n3, n4, hk1, hk2, ghk4, hhk4, hk5, ghk6, ghk7, hk7, ghk8aa] at hk9
                    all_goals
                    obtain rfl := so_some h
                    refine ⟨0, fun L hL => ?_⟩
                    simp only [go_sem, ir32, E_impl_ordered_l1, R_impl_ordered_l1, ir32_b0, ir32_k0, ir32_o0, ir32_r0, hk1, hk2, lhk2, xhk2, fhk3, ghk4, hhk4, fhk4, hk5, ghk6, ghk7, hk7, lhk7, xhk7, ghk8aa, hk9]
                  · try simp only [go_sem, n1, n2, n3, n4, hk1, hk2, ghk4, hhk4, hk5, ghk6, ghk7, hk7, ghk8aa] at hk9
                    all_goals
                    obtain rfl := so_some h
                    refine ⟨0, fun L hL => ?_⟩
                    simp only [go_sem, ir32, E_impl_ordered_l1, R_impl_ordered_l1, ir32_b0, ir32_k0, ir32_o0, ir32_r0, hk1, hk2, lhk2, xhk2, fhk3, ghk4, hhk4, fhk4, hk5, ghk6, ghk7, hk7, lhk7, xhk7, ghk8aa, hk9]
                · have ghk8abn := no_f ghk8ab
                  try simp only [go_sem, n1, n2, n3, n4, hk1, hk2, ghk4, hhk4, hk5, ghk6, ghk7, hk7] at ghk8aa
                  all_goals
                  try simp only [go_sem, n1, n2, n3, n4, hk1, hk2, ghk4, hhk4, hk5, ghk6, ghk7, hk7, ghk8aa] at ghk8abn
                  all_goals
                  rcases it_some h with ⟨hk9, h⟩ | ⟨hk9, h⟩
                  · try simp only [go_sem, n1, n2, n3, n4, hk1, hk2, ghk4, hhk4, hk5, ghk6, ghk7, hk7, ghk8aa, ghk8abn] at hk9
                    all_goals
                    obtain rfl := so_some h
                    refine ⟨0, fun L hL => ?_⟩
                    simp only [go_sem, ir32, E_impl_ordered_l1, R_impl_ordered_l1, ir32_b0, ir32_k0, ir32_o0, ir32_r0, hk1, hk2, lhk2, xhk2, fhk3, ghk4, hhk4, fhk4, hk5, ghk6, ghk7, hk7, lhk7, xhk7, ghk8aa, ghk8abn, hk9]
                  · try simp only [go_sem, n1, n2, n3, n4, hk1, hk2, ghk4, hhk4, hk5, ghk6, ghk7, hk7, ghk8aa, ghk8abn] at hk9
                    all_goals
                    obtain rfl := so_some h
                    refine ⟨0, fun L hL => ?_⟩
                    simp only [go_sem, ir32, E_impl_ordered_l1, R_impl_ordered_l1, ir32_b0, ir32_k0, ir32_o0, ir32_r0, hk1, hk2, lhk2, xhk2, fhk3, ghk4, hhk4, fhk4, hk5, ghk6, ghk7, hk7, lhk7, xhk7, ghk8aa, ghk8abn, hk9]
              · obtain ⟨ghk8aa, ghk8ab⟩ := and_t ghk8a
                have ghk8abn := no_t ghk8ab
                try simp only [go_sem, n1, n2, n3, n4, hk1, hk2, ghk4, hhk4, hk5, ghk6, ghk7, hk7] at ghk8aa
                all_goals
                try simp only [go_sem, n1, n2, n3, n4, hk1, hk2, ghk4, hhk4, hk5, ghk6, ghk7, hk7, ghk8aa] at ghk8abn
                all_goals
                try simp only [go_sem, n1, n2, n3, n4, hk1, hk2, ghk4, hhk4, hk5, ghk6, ghk7, hk7, ghk8aa, ghk8abn] at ghk8b
                all_goals
                rcases it_some h with ⟨hk9, h⟩ | ⟨hk9, h⟩
                · try simp only [go_sem, n1, n2, n3, n4, hk1, hk2, ghk4, hhk4, hk5, ghk6, ghk7, hk7, ghk8aa, ghk8abn, ghk8b] at hk9
                  all_goals
                  obtain rfl := so_some h
                  refine ⟨0, fun L hL => ?_⟩
                  simp only [go_sem, ir32, E_impl_ordered_l1, R_impl_ordered_l1, ir32_b0, ir32_k0, ir32_o0, ir32_r0, hk1, hk2, lhk2, xhk2, fhk3, ghk4, hhk4, fhk4, hk5, ghk6, ghk7, hk7, lhk7, xhk7, ghk8aa, ghk8abn, ghk8b, hk9]
                · try simp only [go_sem, n1, n2, n3, n4, hk1, hk2, ghk4, hhk4, hk5, ghk6, ghk7, hk7, ghk8aa, ghk8abn, ghk8b] at hk9
                  all_goals
                  obtain rfl := so_some h
                  refine ⟨0, fun L hL => ?_⟩
                  simp only [go_sem, ir32, E_impl_ordered_l1, R_impl_ordered_l1, ir32_b0, ir32_k0, ir32_o0, ir32_r0, hk1, hk2, lhk2, xhk2, fhk3, ghk4, hhk4, fhk4, hk5, ghk6, ghk7, hk7, lhk7, xhk7, ghk8aa, ghk8abn, ghk8b, hk9]
          · rcases and_f ghk7 with ghk7a | ⟨ghk7a, ghk7b⟩
            · try simp only [go_sem, n1, n2, n3, n4, hk1, hk2, ghk4, hhk4, hk5, ghk6] at ghk7a
              all_goals
              obtain ⟨hk8, h⟩ := ck_some h
              rcases or_split hk8 with ⟨ghk8, hk8⟩ | ghk8
              · try simp only [go_sem, n1, n2, n3, n4, hk1, hk2, ghk4, hhk4, hk5, ghk6, ghk7a] at ghk8
                all_goals
                have lhk8 := ix_lt hk8
                have xhk8 := getD_mapD Fault_av faults lhk8
                try simp only [go_sem] at lhk8
                try simp only [go_sem] at xhk8
                try simp only [go_sem, n1, n2, n3, n4, hk1, hk2, ghk4, hhk4, hk5, ghk6, ghk7a, ghk8] at hk8
                all_goals
                rcases it_some h with ⟨hk9, h⟩ | ⟨hk9, h⟩
                · try simp only [go_sem, n1, n2, n3, n4, hk1, hk2, ghk4, hhk4, hk5, ghk6, ghk7a, ghk8, hk8] at hk9
                  all_goals
                  obtain rfl := so_some h
                  refine ⟨0, fun L hL => ?_⟩
                  simp only [go_sem, ir32, E_impl_ordered_l1, R_impl_ordered_l1, ir32_b0, ir32_k0, ir32_o0, ir32_r0, hk1, hk2, lhk2, xhk2, fhk3, ghk4, hhk4, fhk4, hk5, ghk6, ghk7a, ghk8, hk8, lhk8, xhk8, hk9]
                · try simp only [go_sem, n1, n2, n3, n4, hk1, hk2, ghk4, hhk4, hk5, ghk6, ghk7a, ghk8, hk8] at hk9
                  all_goals
                  obtain rfl := so_some h
                  refine ⟨0, fun L hL => ?_⟩
                  simp only [go_sem, ir32, E_impl_ordered_l1, R_impl_ordered_l1, ir32_b0, ir32_k0, ir32_o0, ir32_r0, hk1, hk2, lhk2, xhk2, fhk3, ghk4, hhk4, fhk4, hk5, ghk6, ghk7a, ghk8, hk8, lhk8, xhk8, hk9]
              · rcases and_f ghk8 with ghk8a | ⟨ghk8a, ghk8b⟩
                · rcases and_f ghk8a with ghk8aa | ⟨ghk8aa, ghk8ab⟩
                  · try simp only [go_sem, n1, n2, n3, n4, hk1, hk2, ghk4, hhk4, hk5, ghk6, ghk7a] at ghk8aa
                    all_goals
                    rcases it_some h with ⟨hk9, h⟩ | ⟨hk9, h⟩
                    · try simp only [go_sem, n1, n2, n3, n4, hk1, hk2, ghk4, hhk4, hk5, ghk6, ghk7a, ghk8aa] at hk9
                      all_goals
                      obtain rfl := so_some h
                      refine ⟨0, fun L hL => ?_⟩
                      simp only [go_sem, ir32, E_impl_ordered_l1, R_impl_ordered_l1, ir32_b0, ir32_k0, ir32_o0, ir32_r0, hk1, hk2, lhk2, xhk2, fhk3, ghk4, hhk4, fhk4, hk5, ghk6, ghk7a, ghk8aa, hk9]
                    · try simp only [go_sem, n1, n2, n3, n4, hk1, hk2, ghk4, hhk4, hk5, ghk6, ghk7a, ghk8aa] at hk9
                      all_goals
                      obtain rfl := so_some h
                      refine ⟨0, fun L hL => ?_⟩
                      simp only [go_sem, ir32, E_impl_ordered_l1, R_impl_ordered_l1, ir32_b0, ir32_k0, ir32_o0, ir32_r0, hk1, hk2, lhk2, xhk2, fhk3, ghk4, hhk4, fhk4, hk5, ghk6, ghk7a, ghk8aa, hk9]
                  · have ghk8abn := no_f ghk8ab
                    try simp only [go_sem, n1, n2, n3, n4, hk1, hk2, ghk4, hhk4, hk5, ghk6, ghk7a] at ghk8aa
                    all_goals
                    try simp only [go_sem, n1, n2, n3, n4, hk1, hk2, ghk4, hhk4, hk5, ghk6, ghk7a, ghk8aa] at ghk8abn
                    all_goals
                    rcases it_some h with ⟨hk9, h⟩ | ⟨hk9, h⟩
                    · try simp only [go_sem, n1, n2, n3, n4, hk1, hk2, ghk4, hhk4, hk5, ghk6, ghk7a, ghk8aa, ghk8abn] at hk9
                      all_goals
                      obtain rfl := so_some h
                      refine ⟨0, fun L hL => ?_⟩
                      simp only [go_sem, ir32, E_impl_ordered_l1, R_impl_ordered_l1, ir32_b0, ir32_k0, ir32_o0, ir32_r0, hk1, hk2, lhk2, xhk2, fhk3, ghk4, hhk4, fhk4, hk5, ghk6, ghk7a, ghk8aa, ghk8abn, hk9]
                    · try simp only [go_sem, n1, n2, n3, n4, hk1, hk2, ghk4, hhk4, hk5, ghk6, ghk7a, ghk8aa, ghk8abn] at hk9
                      all_goals
                      obtain rfl := so_some h
                      refine ⟨0, fun L hL => ?_⟩
                      simp only [go_sem, ir32, E_impl_ordered_l1, R_impl_ordered_l1, ir32_b0, ir32_k0, ir32_o0, ir32_r0, hk1, hk2, lhk2, xhk2, fhk3, ghk4, hhk4, fhk4, hk5, ghk6, ghk7a, ghk8aa, ghk8abn, hk9]
                · obtain ⟨ghk8aa, ghk8ab⟩ := and_t ghk8a
                  have ghk8abn := no_t ghk8ab
                  try simp only [go_sem, n1, n2, n3, n4, hk1, hk2, ghk4, hhk4, hk5, ghk6, ghk7a] at ghk8aa
                  all_goals
                  try simp only [go_sem, n1, n2, n3, n4, hk1, hk2, ghk4, hhk4, hk5, ghk6, ghk7a, ghk8aa] at ghk8abn
                  all_goals
                  try simp only [go_sem, n1, n2, n3, n4, hk1, hk2, ghk4, hhk4, hk5, ghk6, ghk7a, ghk8aa, ghk8abn] at ghk8b
                  all_goals
                  rcases it_some h with ⟨hk9, h⟩ | ⟨hk9, h⟩
                  · try simp only [go_sem, n1, n2, n3, n4, hk1, hk2, ghk4, hhk4, hk5, ghk6, ghk7a, ghk8aa, ghk8abn, ghk8b] at hk9
                    all_goals
                    obtain rfl := so_some h
                    refine ⟨0, fun L hL => ?_⟩
                    simp only [go_sem, ir32, E_impl_ordered_l1, R_impl_ordered_l1, ir32_b0, ir32_k0, ir32_o0, ir32_r0, hk1, hk2, lhk2, xhk2, fhk3, ghk4, hhk4, fhk4, hk5, ghk6, ghk7a, ghk8aa, ghk8abn, ghk8b, hk9]
                  · try simp only [go_sem, n1, n2, n3, n4, hk1, hk2, ghk4, hhk4, hk5, ghk6, ghk7a, ghk8aa, ghk8abn, ghk8b] at hk9
                    all_goals
                    obtain rfl := so_some h
                    refine ⟨0, fun L hL => ?_⟩
                    simp only [go_sem, ir32, E_impl_ordered_l1, R_impl_ordered_l1, ir32_b0, ir32_k0, ir32_o0, ir32_r0, hk1, hk2, lhk2, xhk2, fhk3, ghk4, hhk4, fhk4, hk5, ghk6, ghk7a, ghk8aa, ghk8abn, ghk8b, hk9]
            · have ghk7bn := no_f ghk7b
              try simp only [go_sem, n1, n2, n3, n4, hk1, hk2, ghk4, hhk4, hk5, ghk6] at ghk7a
              all_goals
              try simp only [go_sem, n1, n2, n3, n4, hk1, hk2, ghk4, hhk4, hk5, ghk6, ghk7a] at ghk7bn
              all_goals
              obtain ⟨hk8, h⟩ := ck_some h
              rcases or_split hk8 with ⟨ghk8, hk8⟩ | ghk8
              · try simp only [go_sem, n1, n2, n3, n4, hk1, hk2, ghk4, hhk4, hk5, ghk6, ghk7a, ghk7bn] at ghk8
                all_goals
                have lhk8 := ix_lt hk8
                have xhk8 := getD_mapD Fault_av faults lhk8
                try simp only [go_sem] at lhk8
                try simp only [go_sem] at xhk8
                try simp only [go_sem, n1, n2, n3, n4, hk1, hk2, ghk4, hhk4, hk5, ghk6, ghk7a, ghk7bn, ghk8] at hk8
                all_goals
                rcases it_some h with ⟨hk9, h⟩ | ⟨hk9, h⟩
                · try simp only [go_sem, n1, n2, n3, n4, hk1, hk2, ghk4, hhk4, hk5, ghk6, ghk7a, ghk7bn, ghk8, hk8] at hk9
                  all_goals
                  obtain rfl := so_some h
                  refine ⟨0, fun L hL => ?_⟩
                  simp only [go_sem, ir32, E_impl_ordered_l1, R_impl_ordered_l1, ir32_b0, ir32_k0, ir32_o0, ir32_r0, hk1, hk2, lhk2, xhk2, fhk3, ghk4, hhk4, fhk4, hk5, ghk6, ghk7a, ghk7bn, ghk8, hk8, lhk8, xhk8, hk9]
                · try simp only [go_sem, n1, n2, n3, n4, hk1, hk2, ghk4, hhk4, hk5, ghk6, ghk7a, ghk7bn, ghk8, hk8] at hk9
                  all_goals
                  obtain rfl := so_some h
                  refine ⟨0, fun L hL => ?_⟩
                  simp only [go_sem, ir32, E_impl_ordered_l1, R_impl_ordered_l1, ir32_b0, ir32_k0, ir32_o0, ir32_r0, hk1, hk2, lhk2, xhk2, fhk3, ghk4, hhk4, fhk4, hk5, ghk6, ghk7a, ghk7bn, ghk8, hk8, lhk8, xhk8, hk9]
              · rcases and_f ghk8 with ghk8a | ⟨ghk8a, ghk8b⟩
                · rcases and_f ghk8a with ghk8aa | ⟨ghk8aa, ghk8ab⟩
                  · try simp only [go_sem, n1, n2, n3, n4, hk1, hk2, ghk4, hhk4, hk5, ghk6, ghk7a, ghk7bn] at ghk8aa
                    all_goals
                    rcases it_some h with ⟨hk9, h⟩ | ⟨hk9, h⟩
                    · try simp only [go_sem, n1, n2, n3, n4, hk1, hk2, ghk4, hhk4, hk5, ghk6, ghk7a, ghk7bn, ghk8aa] at hk9
                      all_goals
                      obtain rfl := so_some h
                      refine ⟨0, fun L hL => ?_⟩
                      simp only [go_sem, ir32, E_impl_ordered_l1, R_impl_ordered_l1, ir32_b0, ir32_k0, ir32_o0, ir32_r0, hk1, hk2, lhk2, xhk2, fhk3, ghk4, hhk4, fhk4, hk5, ghk6, ghk7a, ghk7bn, ghk8aa, hk9]
                    · try simp only [go_sem, n1, n2, n3, n4, hk1, hk2, ghk4, hhk4, hk5, ghk6, ghk7a, ghk7bn, ghk8aa] at hk9
                      all_goals
                      obtain rfl := so_some h
                      refine ⟨0, fun L hL => ?_⟩
                      simp only [go_sem, ir32, E_impl_ordered_l1, R_impl_ordered_l1, ir32_b0, ir32_k0, ir32_o0, ir32_r0, hk1, hk2, lhk2, xhk2, fhk3, ghk4, hhk4, fhk4, hk5, ghk6, ghk7a, ghk7bn, ghk8aa, hk9]
                  · have ghk8abn := no_f ghk8ab
                    try simp only [go_sem, n1, n2, n3, n4, hk1, hk2, ghk4, hhk4, hk5, ghk6, ghk7a, ghk7bn] at ghk8aa
                    all_goals
                    try simp only [go_sem, n1, n2, n3, n4, hk1, hk2, ghk4, hhk4, hk5, ghk6, ghk7a, ghk7bn, ghk8aa] at ghk8abn
                    all_goals
                    rcases it_some h with ⟨hk9, h⟩ | ⟨hk9, h⟩
                    · try simp only [go_sem, n1, n2, n3, n4, hk1, hk2, ghk4, hhk4, hk5, ghk6, ghk7a, ghk7bn, ghk8aa, ghk8abn] at hk9
                      all_goals
                      obtain rfl := so_some h
                      refine ⟨0, fun L hL => ?_⟩
                      simp only [go_sem, ir32, E_impl_ordered_l1, R_impl_ordered_l1, ir32_b0, ir32_k0, ir32_o0, ir32_r0, hk1, hk2, lhk2, xhk2, fhk3, ghk4, hhk4, fhk4, hk5, ghk6, ghk7a, ghk7bn, ghk8aa, ghk8abn, hk9]
                    · try simp only [go_sem, n1, n2, n3, n4, hk1, hk2, ghk4, hhk4, hk5, ghk6, ghk7a, ghk7bn, ghk8aa, ghk8abn] at hk9
                      all_goals
                      obtain rfl := so_some h
                      refine ⟨0, fun L hL => ?_⟩
                      simp only [go_sem, ir32, E_impl_ordered_l1, R_impl_ordered_l1, ir32_b0, ir32_k0, ir32_o0, ir32_r0, hk1, hk2, lhk2, xhk2, fhk3, ghk4, hhk4, fhk4, hk5, ghk6, ghk7a, ghk7bn, ghk8aa, ghk8abn, hk9]
                · obtain ⟨ghk8aa, ghk8ab⟩ := and_t ghk8a
                  have ghk8abn := no_t ghk8ab
                  try simp only [go_sem, n1, n2, n3, n4, hk1, hk2, ghk4, hhk4, hk5, ghk6, ghk7a, ghk7bn] at ghk8aa
                  all_goals
                  try simp only [go_sem, n1, n2, n3, n4, hk1, hk2, ghk4, hhk4, hk5, ghk6, ghk7a, ghk7bn, ghk8aa] at ghk8abn
                  all_goals
                  try simp only [go_sem, n1, n2, n3, n4, hk1, hk2, ghk4, hhk4, hk5, ghk6, ghk7a, ghk7bn, ghk8aa, ghk8abn] at ghk8b
                  all_goals
                  rcases it_some h with ⟨hk9, h⟩ | ⟨hk9, h⟩
                  · try simp only [go_sem, n1, n2, n3, n4, hk1, hk2, ghk4, hhk4, hk5, ghk6, ghk7a, ghk7bn, ghk8aa, ghk8abn, ghk8b] at hk9
                    all_goals
                    obtain rfl := so_some h
                    refine ⟨0, fun L hL => ?_⟩
                    simp only [go_sem, ir32, E_impl_ordered_l1, R_impl_ordered_l1, ir32_b0, ir32_k0, ir32_o0, ir32_r0, hk1, hk2, lhk2, xhk2, fhk3, ghk4, hhk4, fhk4, hk5, ghk6, ghk7a, ghk7bn, ghk8aa, ghk8abn, ghk8b, hk9]
                  · try simp only [go_sem, n1, n2, n3, n4, hk1, hk2, ghk4, hhk4, hk5, ghk6, ghk7a, ghk7bn, ghk8aa, ghk8abn, ghk8b] at hk9
                    all_goals
                    obtain rfl := so_some h
                    refine ⟨0, fun L hL => ?_⟩
                    simp only [go_sem, ir32, E_impl_ordered_l1, R_impl_ordered_l1, ir32_b0, ir32_k0, ir32_o0, ir32_r0, hk1, hk2, lhk2, xhk2, fhk3, ghk4, hhk4, fhk4, hk5, ghk6, ghk7a, ghk7bn, ghk8aa, ghk8abn, ghk8b, hk9]
    · have ghk4n := no_f ghk4
      have ghk4nn := no_t ghk4n
      try simp only [go_sem, n1, n2, n3, n4, hk1, hk2] at ghk4nn
      all_goals
      rcases it_some h with ⟨hk5, h⟩ | ⟨hk5, h⟩
      · try simp only [go_sem, n1, n2, n3, n4, hk1, hk2, ghk4nn] at hk5
        all_goals
        obtain rfl := so_some h
        refine ⟨0, fun L hL => ?_⟩
        simp only [go_sem, ir32, E_impl_ordered_l1, R_impl_ordered_l1, ir32_b0, ir32_k0, ir32_o0, ir32_r0, hk1, hk2, lhk2, xhk2, fhk3, ghk4nn, hk5]
      · try simp only [go_sem, n1, n2, n3, n4, hk1, hk2, ghk4nn] at hk5
        all_goals
        obtain ⟨hk6, h⟩ := ck_some h
        rcases or_split hk6 with ⟨ghk6, hk6⟩ | ghk6
        · try simp only [go_sem, n1, n2, n3, n4, hk1, hk2, ghk4nn, hk5] at ghk6
          all_goals
          have lhk6 := ix_lt hk6
          have xhk6 := getD_mapD Fault_av faults lhk6
          try simp only [go_sem] at lhk6
          try simp only [go_sem] at xhk6
          try simp only [go_sem, n1, n2, n3, n4, hk1, hk2, ghk4nn, hk5, ghk6] at hk6
          all_goals
          obtain ⟨hk7, h⟩ := ck_some h
          rcases or_split hk7 with ⟨ghk7, hk7⟩ | ghk7
          · try simp only [go_sem, n1, n2, n3, n4, hk1, hk2, ghk4nn, hk5, ghk6, hk6] at ghk7
            all_goals
            have lhk7 := ix_lt hk7
            have xhk7 := getD_mapD Fault_av faults lhk7
            try simp only [go_sem] at lhk7
            try simp only [go_sem] at xhk7
            try simp only [go_sem, n1, n2, n3, n4, hk1, hk2, ghk4nn, hk5, ghk6, hk6, ghk7] at hk7
            all_goals
            obtain ⟨hk8, h⟩ := ck_some h
            rcases or_split hk8 with ⟨ghk8, hk8⟩ | ghk8
            · try simp only [go_sem, n1, n2, n3, n4, hk1, hk2, ghk4nn, hk5, ghk6, hk6, ghk7, hk7] at ghk8
              all_goals
              have lhk8 := ix_lt hk8
              have xhk8 := getD_mapD Fault_av faults lhk8
              try simp only [go_sem] at lhk8
              try simp only [go_sem] at xhk8
              try simp only [go_sem, n1, n2, n3, n4, hk1, hk2, ghk4nn, hk5, ghk6, hk6, ghk7, hk7, ghk8] at hk8
              all_goals
              rcases it_some h with ⟨hk9, h⟩ | ⟨hk9, h⟩
              · try simp only [go_sem, n1, n2, n3, n4, hk1, hk2, ghk4nn, hk5, ghk6, hk6, ghk7, hk7, ghk8, hk8] at hk9
                all_goals
                obtain rfl := so_some h
                refine ⟨0, fun L hL => ?_⟩
                simp only [go_sem, ir32, E_impl_ordered_l1, R_impl_ordered_l1, ir32_b0, ir32_k0, ir32_o0, ir32_r0, hk1, hk2, lhk2, xhk2, fhk3, ghk4nn, hk5, ghk6, hk6, lhk6, xhk6, ghk7, hk7, lhk7, xhk7, ghk8, hk8, lhk8, xhk8, hk9]
              · try simp only [go_sem, n1, n2, n3, n4, hk1, hk2, ghk4nn, hk5, ghk6, hk6, ghk7, hk7, ghk8, hk8] at hk9
                all_goals
                obtain rfl := so_some h
                refine ⟨0, fun L hL => ?_⟩
                simp only [go_sem, ir32, E_impl_ordered_l1, R_impl_ordered_l1, ir32_b0, ir32_k0, ir32_o0, ir32_r0, hk1, hk2, lhk2, xhk2, fhk3, ghk4nn, hk5, ghk6, hk6, lhk6, xhk6, ghk7, hk7, lhk7, xhk7, ghk8, hk8, lhk8, xhk8, hk9]
            · rcases and_f ghk8 with ghk8a | ⟨ghk8a, ghk8b⟩
              · rcases and_f ghk8a with ghk8aa | ⟨ghk8aa, ghk8ab⟩
                · try simp only [go_sem, n1, n2, n3, n4, hk1, hk2, ghk4nn, hk5, ghk6, hk6, ghk7, hk7] at ghk8aa
                  all_goals
                  rcases it_some h with ⟨hk9, h⟩ | ⟨hk9, h⟩
                  · try simp only [go_sem, n1, n2, n3, n4, hk1, hk2, ghk4nn, hk5, ghk6, hk6, ghk7, hk7, ghk8aa] at hk9
                    all_goals
                    obtain rfl := so_some h
                    refine ⟨0, fun L hL => ?_⟩
                    simp only [go_sem, ir32, E_impl_ordered_l1, R_impl_ordered_l1, ir32_b0, ir32_k0, ir32_o0, ir32_r0, hk1, hk2, lhk2, xhk2, fhk3, ghk4nn, hk5, ghk6, hk6, lhk6, xhk6, ghk7, hk7, lhk7, xhk7, ghk8aa, hk9]
                  · try simp only [go_sem, n1, n2, n3, n4, hk1, hk2, ghk4nn, hk5, ghk6, hk6, ghk7, hk7, ghk8aa] at hk9
                    all_goals
                    obtain rfl := so_some h
                    refine ⟨0, fun L hL => ?_⟩
                    simp only [go_sem, ir32, E_impl_ordered_l1, R_impl_ordered_l1, ir32_b0, ir32_k0, ir32_o0, ir32_r0, hk1, hk2, lhk2, xhk2, fhk3, ghk4nn, hk5, ghk6, hk6, lhk6, xhk6, ghk7, hk7, lhk7, xhk7, ghk8aa, hk9]
                · have ghk8abn := no_f ghk8ab
                  try simp only [go_sem, n1, n2, n3, n4, hk1, hk2, ghk4nn, hk5, ghk6, hk6, ghk7, hk7] at ghk8aa
                  all_goals
                  try simp only [go_sem, n1, n2, n3, n4, hk1, hk2, ghk4nn, hk5, ghk6, hk6, ghk7, hk7, ghk8aa] at ghk8abn
                  all_goals
                  rcases it_some h with ⟨hk9, h⟩ | ⟨hk9, h⟩
                  · try simp only [go_sem, n1, n2, n3, n4, hk1, hk2, ghk4nn, hk5, ghk6, hk6, ghk7, hk7, ghk8aa, ghk8abn] at hk9
                    all_goals
                    obtain rfl := so_some h
                    refine ⟨0, fun L hL => ?_⟩
                    simp only [go_sem, ir32, E_impl_ordered_l1, R_impl_ordered_l1, ir32_b0, ir32_k0, ir32_o0, ir32_r0, hk1, hk2, lhk2, xhk2, fhk3, ghk4nn, hk5, ghk6, hk6, lhk6, xhk6, ghk7, hk7, lhk7, xhk7, ghk8aa, ghk8abn, hk9]
                  · try simp only [go_sem, n1, n2, n3, n4, hk1, hk2, ghk4nn, hk5, ghk6, hk6, ghk7, hk7, ghk8aa, ghk8abn] at hk9
                    all_goals
                    obtain rfl := so_some h
                    refine ⟨0, fun L hL => ?_⟩
                    simp only [go_sem, ir32, E_impl_ordered_l1, R_impl_ordered_l1, ir32_b0, ir32_k0, ir32_o0, ir32_r0, hk1, hk2, lhk2, xhk2, fhk3, ghk4nn, hk5, ghk6, hk6, lhk6, xhk6, ghk7, hk7, lhk7, xhk7, ghk8aa, ghk8abn, hk9]
              · obtain ⟨ghk8aa, ghk8ab⟩ := and_t ghk8a
                have ghk8abn := no_t ghk8ab
                try simp only [go_sem, n1, n2, n3, n4, hk1, hk2, ghk4nn, hk5, ghk6, hk6, ghk7, hk7] at ghk8aa
                all_goals
                try simp only [go_sem, n1, n2, n3, n4, hk1, hk2, ghk4nn, hk5, ghk6, hk6, ghk7, hk7, ghk8aa] at ghk8abn
                all_goals
                try simp only [go_sem, n1, n2, n3, n4, hk1, hk2, ghk4nn, hk5, ghk6, hk6, ghk7, hk7, ghk8aa, ghk8abn] at ghk8b
                all_goals
                rcases it_some h with ⟨hk9, h⟩ | ⟨hk9, h⟩
                · try simp only [go_sem, n1, n2, n3, n4, hk1, hk2, ghk4nn, hk5, ghk6, hk6, ghk7, hk7, ghk8aa, ghk8abn, ghk8b] at hk9
                  all_goals
                  obtain rfl := so_some h
                  refine ⟨0, fun L hL => ?_⟩
                  simp only [go_sem, ir32, E_impl_ordered_l1, R_impl_ordered_l1, ir32_b0, ir32_k0, ir32_o0, ir32_r0, hk1, hk2, lhk2, xhk2, fhk3, ghk4nn, hk5, ghk6, hk6, lhk6, xhk6, ghk7, hk7, lhk7, xhk7, ghk8aa, ghk8abn, ghk8b, hk9]
                · try simp only [go_sem, n1, n2, n3, n4, hk1, hk2, ghk4nn, hk5, ghk6, hk6, ghk7, hk7, ghk8aa, ghk8abn, ghk8b] at hk9
                  all_goals
                  obtain rfl := so_some h
                  refine ⟨0, fun L hL => ?_⟩
                  simp only [go_sem, ir32, E_impl_ordered_l1, R_impl_ordered_l1, ir32_b0, ir32_k0, ir32_o0, ir32_r0, hk1, hk2, lhk2, xhk2, fhk3, ghk4nn, hk5, ghk6, hk6, lhk6, xhk6, ghk7, hk7, lhk7, xhk7, ghk8aa, ghk8abn, ghk8b, hk9]
          · rcases and_f ghk7 with ghk7a | ⟨ghk7a, ghk7b⟩
            · try simp only [go_sem, n1, n2, n3, n4, hk1, hk2, ghk4nn, hk5, ghk6, hk6] at ghk7a
              all_goals
              obtain ⟨hk8, h⟩ := ck_some h
              rcases or_split hk8 with ⟨ghk8, hk8⟩ | ghk8
              · try simp only [go_sem, n1, n2, n3, n4, hk1, hk2, ghk4nn, hk5, ghk6, hk6, ghk7a] at ghk8
                all_goals
                have lhk8 := ix_lt hk8
                have xhk8 := getD_mapD Fault_av faults lhk8
                try simp only [go_sem] at lhk8
                try simp only [go_sem] at xhk8
                try simp only [go_sem, n1, n2, n3, n4, hk1, hk2, ghk4nn, hk5, ghk6, hk6, ghk7a, ghk8] at hk8
                all_goals
                rcases it_some h with ⟨hk9, h⟩ | ⟨hk9, h⟩
                · try simp only [go_sem, n1, n2, n3, n4, hk1, hk2, ghk4nn, hk5, ghk6, hk6, ghk7a, ghk8, hk8] at hk9
                  all_goals
                  obtain rfl := so_some h
                  refine ⟨0, fun L hL => ?_⟩
                  simp only [go_sem, ir32, E_impl_ordered_l1, R_impl_ordered_l1, ir32_b0, ir32_k0, ir32_o0, ir32_r0, hk1, hk2, lhk2, xhk2, fhk3, ghk4nn, hk5, ghk6, hk6, lhk6, xhk6, ghk7a, ghk8, hk8, lhk8, xhk8, hk9]
                · try simp only [go_sem, n1, n2, n3, n4, hk1, hk2, ghk4nn, hk5, ghk6, hk6, ghk7a, ghk8, hk8] at hk9
                  all_goals
                  obtain rfl := so_some h
                  refine ⟨0, fun L hL => ?_⟩
                  simp only [go_sem, ir32, E_impl_ordered_l1, R_impl_ordered_l1, ir32_b0, ir32_k0, ir32_o0, ir32_r0, hk1, hk2, lhk2, xhk2, fhk3, ghk4nn, hk5, ghk6, hk6, lhk6, xhk6, ghk7a, ghk8, hk8, lhk8, xhk8, hk9]
              · rcases and_f ghk8 with ghk8a | ⟨ghk8a, ghk8b⟩
                · rcases and_f ghk8a with ghk8aa | ⟨ghk8aa, ghk8ab⟩
                  · try simp only [go_sem, n1, n2, n3, n4, hk1, hk2, ghk4nn, hk5, ghk6, hk6, ghk7a] at ghk8aa
                    all_goals
                    rcases it_some h with ⟨hk9, h⟩ | ⟨hk9, h⟩
                    · try simp only [go_sem, n1, n2, n3, n4, hk1, hk2, ghk4nn, hk5, ghk6, hk6, ghk7a, ghk8aa] at hk9
                      all_goals
                      obtain rfl := so_some h
                      refine ⟨0, fun L hL => ?_⟩
                      simp only [go_sem, ir32, E_impl_ordered_l1, R_impl_ordered_l1, ir32_b0, ir32_k0, ir32_o0, ir32_r0, hk1, hk2, lhk2, xhk2, fhk3, ghk4nn, hk5, ghk6, hk6, lhk6, xhk6, ghk7a, ghk8aa, hk9]
                    · try simp only [go_sem, n1, n2, n3, n4, hk1, hk2, ghk4nn, hk5, ghk6, hk6, ghk7a, ghk8aa] at hk9
                      all_goals
                      obtain rfl := so_some h
                      refine ⟨0, fun L hL => ?_⟩
                      simp only [go_sem, ir32, E_impl_ordered_l1, R_impl_ordered_l1, ir32_b0, ir32_k0, ir32_o0, ir32_r0, hk1, hk2, lhk2, xhk2, fhk3, ghk4nn, hk5, ghk6, hk6, lhk6, xhk6, ghk7a, ghk8aa, hk9]
                  · have ghk8abn := no_f ghk8ab
                    try simp only [go_sem, n1, n2, n3, n4, hk1, hk2, ghk4nn, hk5, ghk6, hk6, ghk7a] at ghk8aa
                    all_goals
                    try simp only [go_sem, n1, n2, n3, n4, hk1, hk2, ghk4nn, hk5, ghk6, hk6, ghk7a, ghk8aa] at ghk8abn
                    all_goals
                    rcases it_some h with ⟨hk9, h⟩ | ⟨hk9, h⟩
                    · try simp only [go_sem, n1, n2, n3, n4, hk1, hk2, ghk4nn, hk5, ghk6, hk6, ghk7a, ghk8aa, ghk8abn] at hk9
                      all_goals
                      obtain rfl := so_some h
                      refine ⟨0, fun L hL => ?_⟩
                      simp only [go_sem, ir32, E_impl_ordered_l1, R_impl_ordered_l1, ir32_b0, ir32_k0, ir32_o0, ir32_r0, hk1, hk2, lhk2, xhk2, fhk3, ghk4nn, hk5, ghk6, hk6, lhk6, xhk6, ghk7a, ghk8aa, ghk8abn, hk9]
                    · try simp only [go_sem, n1, n2, n3, n4, hk1, hk2, ghk4nn, hk5, ghk6, hk6, ghk7a, ghk8aa, ghk8abn] at hk9
                      all_goals
                      obtain rfl := so_some h
                      refine ⟨0, fun L hL => ?_⟩
                      simp only [go_sem, ir32, E_impl_ordered_l1, R_impl_ordered_l1, ir32_b0, ir32_k0, ir32_o0, ir32_r0, hk1, hk2, lhk2, xhk2, fhk3, ghk4nn, hk5, ghk6, hk6, lhk6, xhk6, ghk7a, ghk8aa, ghk8abn, hk9]
                · obtain ⟨ghk8aa, ghk8ab⟩ := and_t ghk8a
                  have ghk8abn := no_t ghk8ab
                  try simp only [go_sem, n1, n2, n3, n4, hk1, hk2, ghk4nn, hk5, ghk6, hk6, ghk7a] at ghk8aa
                  all_goals
                  try simp only [go_sem, n1, n2, n3, n4, hk1, hk2, ghk4nn, hk5, ghk6, hk6, ghk7a, ghk8aa] at ghk8abn
                  all_goals
                  try simp only [go_sem, n1, n2, n3, n4, hk1, hk2, ghk4nn, hk5, ghk6, hk6, ghk7a, ghk8aa, ghk8abn] at ghk8b
                  all_goals
                  rcases it_some h with ⟨hk9, h⟩ | ⟨hk9, h⟩
                  · try simp only [go_sem, n1, n2, n3, n4, hk1, hk2, ghk4nn, hk5, ghk6, hk6, ghk7a, ghk8aa, ghk8abn, ghk8b] at hk9
                    all_goals
                    obtain rfl := so_some h
                    refine ⟨0, fun L hL => ?_⟩
                    simp only [go_sem, ir32, E_impl_ordered_l1, R_impl_ordered_l1, ir32_b0, ir32_k0, ir32_o0, ir32_r0, hk1, hk2, lhk2, xhk2, fhk3, ghk4nn, hk5, ghk6, hk6, lhk6, xhk6, ghk7a, ghk8aa, ghk8abn, ghk8b, hk9]
                  · try simp only [go_sem, n1, n2, n3, n4, hk1, hk2, ghk4nn, hk5, ghk6, hk6, ghk7a, ghk8aa, ghk8abn, ghk8b] at hk9
                    all_goals
                    obtain rfl := so_some h
                    refine ⟨0, fun L hL => ?_⟩
                    simp only [go_sem, ir32, E_impl_ordered_l1, R_impl_ordered_l1, ir32_b0, ir32_k0, ir32_o0, ir32_r0, hk1, hk2, lhk2, xhk2, fhk3, ghk4nn, hk5, ghk6, hk6, lhk6, xhk6, ghk7a, ghk8aa, ghk8abn, ghk8b, hk9]
            · have ghk7bn := no_f ghk7b
              try simp only [go_sem, n1, n2, n3, n4, hk1, hk2, ghk4nn, hk5, ghk6, hk6] at ghk7a
              all_goals
              try simp only [go_sem, n1, n2, n3, n4, hk1, hk2, ghk4nn, hk5, ghk6, hk6, ghk7a] at ghk7bn
              all_goals
              obtain ⟨hk8, h⟩ := ck_some h
              rcases or_split hk8 with ⟨ghk8, hk8⟩ | ghk8
              · try simp only [go_sem, n1, n2, n3, n4, hk1, hk2, ghk4nn, hk5, ghk6, hk6, ghk7a, ghk7bn] at ghk8
                all_goals
                have lhk8 := ix_lt hk8
                have xhk8 := getD_mapD Fault_av faults lhk8
                try simp only [go_sem] at lhk8
                try simp only [go_sem] at xhk8
                try simp only [go_sem, n1, n2, n3, n4, hk1, hk2, ghk4nn, hk5, ghk6, hk6, ghk7a, ghk7bn, ghk8] at hk8
                all_goals
                rcases it_some h with ⟨hk9, h⟩ | ⟨hk9, h⟩
                · try simp only [go_sem, n1, n2, n3, n4, hk1, hk2, ghk4nn, hk5, ghk6, hk6, ghk7a, ghk7bn, ghk8, hk8] at hk9
                  all_goals
                  obtain rfl := so_some h
                  refine ⟨0, fun L hL => ?_⟩
                  simp only [go_sem, ir32, E_impl_ordered_l1, R_impl_ordered_l1, ir32_b0, ir32_k0, ir32_o0, ir32_r0, hk1, hk2, lhk2, xhk2, fhk3, ghk4nn, hk5, ghk6, hk6, lhk6, xhk6, ghk7a, ghk7bn, ghk8, hk8, lhk8, xhk8, hk9]
                · try simp only [go_sem, n1, n2, n3, n4, hk1, hk2, ghk4nn, hk5, ghk6, hk6, ghk7a, ghk7bn, ghk8, hk8] at hk9
                  all_goals
                  obtain rfl := so_some h
                  refine ⟨0, fun L hL => ?_⟩
                  simp only [go_sem, ir32, E_impl_ordered_l1, R_impl_ordered_l1, ir32_b0, ir32_k0, ir32_o0, ir32_r0, hk1, hk2, lhk2, xhk2, fhk3, ghk4nn, hk5, ghk6, hk6, lhk6, xhk6, ghk7a, ghk7bn, ghk8, hk8, lhk8, xhk8, hk9]
              · rcases and_f ghk8 with ghk8a | ⟨ghk8a, ghk8b⟩
                · rcases and_f ghk8a with ghk8aa | ⟨ghk8aa, ghk8ab⟩
                  · try simp only [go_sem, n1, n2, n3, n4, hk1, hk2, ghk4nn, hk5, ghk6, hk6, ghk7a, ghk7bn] at ghk8aa
                    all_goals
                    rcases it_some h with ⟨hk9, h⟩ | ⟨hk9, h⟩
                    · try simp only [go_sem, n1, n2, n3, n4, hk1, hk2, ghk4nn, hk5, ghk6, hk6, ghk7a, ghk7bn, ghk8aa] at hk9
                      all_goals
                      obtain rfl := so_some h
                      refine ⟨0, fun L hL => ?_⟩
                      simp only [go_sem, ir32, E_impl_ordered_l1, R_impl_ordered_l1, ir32_b0, ir32_k0, ir32_o0, ir32_r0, hk1, hk2, lhk2, xhk2, fhk3, ghk4nn, hk5, ghk6, hk6, lhk6, xhk6, ghk7a, ghk7bn, ghk8aa, hk9]
                    · try simp only [go_sem, n1, n2, n3, n4, hk1, hk2, ghk4nn, hk5, ghk6, hk6, ghk7a, ghk7bn, ghk8aa] at hk9
                      all_goals
                      obtain rfl := so_some h
                      refine ⟨0, fun L hL => ?_⟩
                      simp only [go_sem, ir32, E_impl_ordered_l1, R_impl_ordered_l1, ir32_b0, ir32_k0, ir32_o0, ir32_r0, hk1, hk2, lhk2, xhk2, fhk3, ghk4nn, hk5, ghk6, hk6, lhk6, xhk6, ghk7a, ghk7bn, ghk8aa, hk9]
                  · have ghk8abn := no_f ghk8ab
                    try simp only [go_sem, n1, n2, n3, n4, hk1, hk2, ghk4nn, hk5, ghk6, hk6, ghk7a, ghk7bn] at ghk8aa
                    all_goals
                    try simp only [go_sem, n1, n2, n3, n4, hk1, hk2, ghk4nn, hk5, ghk6, hk6, ghk7a, ghk7bn, ghk8aa] at ghk8abn
                    all_goals
                    rcases it_some h with ⟨hk9, h⟩ | ⟨hk9, h⟩
                    · try simp only [go_sem, n1, n2, n3, n4, hk1, hk2, ghk4nn, hk5, ghk6, hk6, ghk7a, ghk7bn, ghk8aa, ghk8abn] at hk9
                      all_goals
                      obtain rfl := so_some h
                      refine ⟨0, fun L hL => ?_⟩
                      simp only [go_sem, ir32, E_impl_ordered_l1, R_impl_ordered_l1, ir32_b0, ir32_k0, ir32_o0, ir32_r0, hk1, hk2, lhk2, xhk2, fhk3, ghk4nn, hk5, ghk6, hk6, lhk6, xhk6, ghk7a, ghk7bn, ghk8aa, ghk8abn, hk9]
                    · try simp only [go_sem, n1, n2, n3, n4, hk1, hk2, ghk4nn, hk5, ghk6, hk6, ghk7a, ghk7bn, ghk8aa, ghk8abn] at hk9
                      all_goals
                      obtain rfl := so_some h
                      refine ⟨0, fun L hL => ?_⟩
                      simp only [go_sem, ir32, E_impl_ordered_l1, R_impl_ordered_l1, ir32_b0, ir32_k0, ir32_o0, ir32_r0, hk1, hk2, lhk2, xhk2, fhk3, ghk4nn, hk5, ghk6, hk6, lhk6, xhk6, ghk7a, ghk7bn, ghk8aa, ghk8abn, hk9]
                · obtain ⟨ghk8aa, ghk8ab⟩ := and_t ghk8a
                  have ghk8abn := no_t ghk8ab
                  try simp only [go_sem, n1, n2, n3, n4, hk1, hk2, ghk4nn, hk5, ghk6, hk6, ghk7a, ghk7bn] at ghk8aa
                  all_goals
                  try simp only [go_sem, n1, n2, n3, n4, hk1, hk2, ghk4nn, hk5, ghk6, hk6, ghk7a, ghk7bn, ghk8aa] at ghk8abn
                  all_goals
                  try simp only [go_sem, n1, n2, n3, n4, hk1, hk2, ghk4nn, hk5, ghk6, hk6, ghk7a, ghk7bn, ghk8aa, ghk8abn] at ghk8b
                  all_goals
                  rcases it_some h with ⟨hk9, h⟩ | ⟨hk9, h⟩
                  · try simp only [go_sem, n1, n2, n3, n4, hk1, hk2, ghk4nn, hk5, ghk6, hk6, ghk7a, ghk7bn, ghk8aa, ghk8abn, ghk8b] at hk9
                    all_goals
                    obtain rfl := so_some h
                    refine ⟨0, fun L hL => ?_⟩
                    simp only [go_sem, ir32, E_impl_ordered_l1, R_impl_ordered_l1, ir32_b0, ir32_k0, ir32_o0, ir32_r0, hk1, hk2, lhk2, xhk2, fhk3, ghk4nn, hk5, ghk6, hk6, lhk6, xhk6, ghk7a, ghk7bn, ghk8aa, ghk8abn, ghk8b, hk9]
                  · try simp only [go_sem, n1, n2, n3, n4, hk1, hk2, ghk4nn, hk5, ghk6, hk6, ghk7a, ghk7bn, ghk8aa, ghk8abn, ghk8b] at hk9
                    all_goals
                    obtain rfl := so_some h
                    refine ⟨0, fun L hL => ?_⟩
                    simp only [go_sem, ir32, E_impl_ordered_l1, R_impl_ordered_l1, ir32_b0, ir32_k0, ir32_o0, ir32_r0, hk1, hk2, lhk2, xhk2, fhk3, ghk4nn, hk5, ghk6, hk6, lhk6, xhk6, ghk7a, ghk7bn, ghk8aa, ghk8abn, ghk8b, hk9]
        · try simp only [go_sem, n1, n2, n3, n4, hk1, hk2, ghk4nn, hk5] at ghk6
          all_goals
          obtain ⟨hk7, h⟩ := ck_some h
          rcases or_split hk7 with ⟨ghk7, hk7⟩ | ghk7
          · try simp only [go_sem, n1, n2, n3, n4, hk1, hk2, ghk4nn, hk5, ghk6] at ghk7
            all_goals
            have lhk7 := ix_lt hk7
            have xhk7 := getD_mapD Fault_av faults lhk7
            try simp only [go_sem] at lhk7
            try simp only [go_sem] at xhk7
            try simp only [go_sem, n1, n2, n3, n4, hk1, hk2, ghk4nn, hk5, ghk6, ghk7] at hk7
            all_goals
            obtain ⟨hk8, h⟩ := ck_some h
            rcases or_split hk8 with ⟨ghk8, hk8⟩ | ghk8
            · try simp only [go_sem, n1, n2, n3, n4, hk1, hk2, ghk4nn, hk5, ghk6, ghk7, hk7] at ghk8
              all_goals
              have lhk8 := ix_lt hk8
              have xhk8 := getD_mapD Fault_av faults lhk8
              try simp only [go_sem] at lhk8
              try simp only [go_sem] at xhk8
              try simp only [go_sem, n1, n2, n3, n4, hk1, hk2, ghk4nn, hk5, ghk6, ghk7, hk7, ghk8] at hk8
              all_goals
              rcases it_some h with ⟨hk9, h⟩ | ⟨hk9, h⟩
              · try simp only [go_sem, n1, n2, n3, n4, hk1, hk2, ghk4nn, hk5, ghk6, ghk7, hk7, ghk8, hk8] at hk9
                all_goals
                obtain rfl := so_some h
                refine ⟨0, fun L hL => ?_⟩
                simp only [go_sem, ir32, E_impl_ordered_l1, R_impl_ordered_l1, ir32_b0, ir32_k0, ir32_o0, ir32_r0, hk1, hk2, lhk2, xhk2, fhk3, ghk4nn, hk5, ghk6, ghk7, hk7, lhk7, xhk7, ghk8, hk8, lhk8, xhk8, hk9]
              · try simp only [go_sem, n1, n2, n3, n4, hk1, hk2, ghk4nn, hk5, ghk6, ghk7, hk7, ghk8, hk8] at hk9
                all_goals
                obtain rfl := so_some h
                refine ⟨0, fun L hL => ?_⟩
                simp only [go_sem, ir32, E_impl_ordered_l1, R_impl_ordered_l1, ir32_b0, ir32_k0, ir32_o0, ir32_r0, hk1, hk2, lhk2, xhk2, fhk3, ghk4nn, hk5, ghk6, ghk7, hk7, lhk7, xhk7, ghk8, hk8, lhk8, xhk8, hk9]
            · rcases and_f ghk8 with ghk8a | ⟨ghk8a, ghk8b⟩
              · rcases and_f ghk8a with ghk8aa | ⟨ghk8aa, ghk8ab⟩
                · try simp only [go_sem, n1, n2, n3, n4, hk1, hk2, ghk4nn, hk5, ghk6, ghk7, hk7] at ghk8aa
                  all_goals
                  rcases it_some h with ⟨hk9, h⟩ | ⟨hk9, h⟩
                  · try simp only [go_sem, n1, n2, n3, n4, hk1, hk2, ghk4nn, hk5, ghk6, ghk7, hk7, ghk8aa] at hk9
                    all_goals
                    obtain rfl := so_some h
                    refine ⟨0, fun L hL => ?_⟩
                    simp only [go_sem, ir32, E_impl_ordered_l1, R_impl_ordered_l1, ir32_b0, ir32_k0, ir32_o0, ir32_r0, hk1, hk2, lhk2, xhk2, fhk3, ghk4nn, hk5, ghk6, ghk7, hk7, lhk7, xhk7, ghk8aa, hk9]
                  · try simp only [go_sem, n1, n2, n3, n4, hk1, hk2, ghk4nn, hk5, ghk6, ghk7, hk7, ghk8aa] at hk9
                    all_goals
                    obtain rfl := so_some h
                    refine ⟨0, fun L hL => ?_⟩
                    simp only [go_sem, ir32, E_impl_ordered_l1, R_impl_ordered_l1, ir32_b0, ir32_k0, ir32_o0, ir32_r0, hk1, hk2, lhk2, xhk2, fhk3, ghk4nn, hk5, ghk6, ghk7, hk7, lhk7, xhk7, ghk8aa, hk9]
                · have ghk8abn := no_f ghk8ab
                  try simp only [go_sem, n1, n2, n3, n4, hk1, hk2, ghk4nn, hk5, ghk6, ghk7, hk7] at ghk8aa
                  all_goals
                  try simp only [go_sem, n1, n2, n3, n4, hk1, hk2, ghk4nn, hk5, ghk6, ghk7, hk7, ghk8aa] at ghk8abn
                  all_goals
                  rcases it_some h with ⟨hk9, h⟩ | ⟨hk9, h⟩
                  · try simp only [go_sem, n1, n2, n3, n4, hk1, hk2, ghk4nn, hk5, ghk6, ghk7, hk7, ghk8aa, ghk8abn] at hk9
                    all_goals
                    obtain rfl := so_some h
                    refine ⟨0, fun L hL => ?_⟩
                    simp only [go_sem, ir32, E_impl_ordered_l1, R_impl_ordered_l1, ir32_b0, ir32_k0, ir32_o0, ir32_r0, hk1, hk2, lhk2, xhk2, fhk3, ghk4nn, hk5, ghk6, ghk7, hk7, lhk7, xhk7, ghk8aa, ghk8abn, hk9]
                  · try simp only [go_sem, n1, n2, n3, n4, hk1, hk2, ghk4nn, hk5, ghk6, ghk7, hk7, ghk8aa, ghk8abn] at hk9
                    all_goals
                    obtain rfl := so_some h
                    refine ⟨0, fun L hL => ?_⟩
                    simp only [go_sem, ir32, E_impl_ordered_l1, R_impl_ordered_l1, ir32_b0, ir32_k0, ir32_o0, ir32_r0, hk1, hk2, lhk2, xhk2, fhk3, ghk4nn, hk5, ghk6, ghk7, hk7, lhk7, xhk7, ghk8aa, ghk8abn, hk9]
              · obtain ⟨ghk8aa, ghk8ab⟩ := and_t ghk8a
                have ghk8abn := no_t ghk8ab
                try simp only [go_sem, n1, n2, n3, n4, hk1, hk2, ghk4nn, hk5, ghk6, ghk7, hk7] at ghk8aa
                all_goals
                try simp only [go_sem, n1, n2, n3, n4, hk1, hk2, ghk4nn, hk5, ghk6, ghk7, hk7, ghk8aa] at ghk8abn
                all_goals
                try simp only [go_sem, n1, n2, n3, n4, hk1, hk2, ghk4nn, hk5, ghk6, ghk7, hk7, ghk8aa, ghk8abn] at ghk8b
                all_goals
                rcases it_some h with ⟨hk9, h⟩ | ⟨hk9, h⟩
                · try simp only [go_sem, n1, n2, n3, n4, hk1, hk2, ghk4nn, hk5, ghk6, ghk7, hk7, ghk8aa, ghk8abn, ghk8b] at hk9
                  all_goals
                  obtain rfl := so_some h
                  refine ⟨0, fun L hL => ?_⟩
                  simp only [go_sem, ir32, E_impl_ordered_l1, R_impl_ordered_l1, ir32_b0, ir32_k0, ir32_o0, ir32_r0, hk1, hk2, lhk2, xhk2, fhk3, ghk4nn, hk5, ghk6, ghk7, hk7, lhk7, xhk7, ghk8aa, ghk8abn, ghk8b, hk9]
                · try simp only [go_sem, n1, n2, n3, n4, hk1, hk2, ghk4nn, hk5, ghk6, ghk7, hk7, ghk8aa, ghk8abn, ghk8b] at hk9
                  all_goals
                  obtain rfl := so_some h
                  refine ⟨0, fun L hL => ?_⟩
                  simp only [go_sem, ir32, E_impl_ordered_l1, R_impl_ordered_l1, ir32_b0, ir32_k0, ir32_o0, ir32_r0, hk1, hk2, lhk2, xhk2, fhk3, ghk4nn, hk5, ghk6, ghk7, hk7, lhk7, xhk7, ghk8aa, ghk8abn, ghk8b, hk9]
          · rcases and_f ghk7 with ghk7a | ⟨ghk7a, ghk7b⟩
            · try simp only [go_sem, n1, n2, n3, n4, hk1, hk2, ghk4nn, hk5, ghk6] at ghk7a
              all_goals
              obtain ⟨hk8, h⟩ := ck_some h
              rcases or_split hk8 with ⟨ghk8, hk8⟩ | ghk8
              · try simp only [go_sem, n1, n2, n3, n4, hk1, hk2, ghk4nn, hk5, ghk6, ghk7a] at ghk8
                all_goals
                have lhk8 := ix_lt hk8
                have xhk8 := getD_mapD Fault_av faults lhk8
                try simp only [go_sem] at lhk8
                try simp only [go_sem] at xhk8
                try simp only [go_sem, n1, n2, n3, n4, hk1, hk2, ghk4nn, hk5, ghk6, ghk7a, ghk8] at hk8
                all_goals
                rcases it_some h with ⟨hk9, h⟩ | ⟨hk9, h⟩
                · try simp only [go_sem, n1, n2, n3, n4, hk1, hk2, ghk4nn, hk5, ghk6, ghk7a, ghk8, hk8] at hk9
                  all_goals
                  obtain rfl := so_some h
                  refine ⟨0, fun L hL => ?_⟩
                  simp only [go_sem, ir32, E_impl_ordered_l1, R_impl_ordered_l1, ir32_b0, ir32_k0, ir32_o0, ir32_r0, hk1, hk2, lhk2, xhk2, fhk3, ghk4nn, hk5, ghk6, ghk7a, ghk8, hk8, lhk8, xhk8, hk9]
                · try simp only [go_sem, n1, n2, n3, n4, hk1, hk2, ghk4nn, hk5, ghk6, ghk7a, ghk8, hk8] at hk9
                  all_goals
                  obtain rfl := so_some h
                  refine ⟨0, fun L hL => ?_⟩
                  simp only [go_sem, ir32, E_impl_ordered_l1, R_impl_ordered_l1, ir32_b0, ir32_k0, ir32_o0, ir32_r0, hk1, hk2, lhk2, xhk2, fhk3, ghk4nn, hk5, ghk6, ghk7a, ghk8, hk8, lhk8, xhk8, hk9]
              · rcases and_f ghk8 with ghk8a | ⟨ghk8a, ghk8b⟩
                · rcases and_f ghk8a with ghk8aa | ⟨ghk8aa, ghk8ab⟩
                  · try simp only [go_sem, n1, n2, n3, n4, hk1, hk2, ghk4nn, hk5, ghk6, ghk7a] at ghk8aa
                    all_goals
                    rcases it_some h with ⟨hk9, h⟩ | ⟨hk9, h⟩
                    · try simp only [go_sem, n1, n2, n3, n4, hk1, hk2, ghk4nn, hk5, ghk6, ghk7a, ghk8aa] at hk9
                      all_goals
                      obtain rfl := so_some h
                      refine ⟨0, fun L hL => ?_⟩
                      simp only [go_sem, ir32, E_impl_ordered_l1, R_impl_ordered_l1, ir32_b0, ir32_k0, ir32_o0, ir32_r0, hk1, hk2, lhk2, xhk2, fhk3, ghk4nn, hk5, ghk6, ghk7a, ghk8aa, hk9]
                    · try simp only [go_sem, n1, n2, n3, n4, hk1, hk2, ghk4nn, hk5, ghk6, ghk7a, ghk8aa] at hk9
                      all_goals
                      obtain rfl := so_some h
                      refine ⟨0, fun L hL => ?_⟩
                      simp only [go_sem, ir32, E_impl_ordered_l1, R_impl_ordered_l1, ir32_b0, ir32_k0, ir32_o0, ir32_r0, hk1, hk2, lhk2, xhk2, fhk3, ghk4nn, hk5, ghk6, ghk7a, ghk8aa, hk9]
                  · have ghk8abn := no_f ghk8ab
                    try simp only [go_sem, n1, n2, n3, n4, hk1, hk2, ghk4nn, hk5, ghk6, ghk7a] at ghk8aa
                    all_goals
                    try simp only [go_sem, n1, n2, n3, n4, hk1, hk2, ghk4nn, hk5, ghk6, ghk7a, ghk8aa] at ghk8abn
                    all_goals
                    rcases it_some h with ⟨hk9, h⟩ | ⟨hk9, h⟩
                    · try simp only [go_sem, n1, n2, n3, n4, hk1, hk2, ghk4nn, hk5, ghk6, ghk7a, ghk8aa, ghk8abn] at hk9
                      all_goals
                      obtain rfl := so_some h
                      refine ⟨0, fun L hL => ?_⟩
                      simp only [go_sem, ir32, E_impl_ordered_l1, R_impl_ordered_l1, ir32_b0, ir32_k0, ir32_o0, ir32_r0, hk1, hk2, lhk2, xhk2, fhk3, ghk4nn, hk5, ghk6, ghk7a, ghk8aa, ghk8abn, hk9]
                    · try simp only [go_sem, n1, n2, n3, n4, hk1, hk2, ghk4nn, hk5, ghk6, ghk7a, ghk8aa, ghk8abn] at hk9
                      all_goals
                      obtain rfl := so_some h
                      refine ⟨0, fun L hL => ?_⟩
                      simp only [go_sem, ir32, E_impl_ordered_l1, R_impl_ordered_l1, ir32_b0, ir32_k0, ir32_o0, ir32_r0, hk1, hk2, lhk2, xhk2, fhk3, ghk4nn, hk5, ghk6, ghk7a, ghk8aa, ghk8abn, hk9]
                · obtain ⟨ghk8aa, ghk8ab⟩ := and_t ghk8a
                  have ghk8abn := no_t ghk8ab
                  try simp only [go_sem, n1, n2, n3, n4, hk1, hk2, ghk4nn, hk5, ghk6, ghk7a] at ghk8aa
                  all_goals
                  try simp only [go_sem, n1, n2, n3, n4, hk1, hk2, ghk4nn, hk5, ghk6, ghk7a, ghk8aa] at ghk8abn
                  all_goals
                  try simp only [go_sem, n1, n2, n3, n4, hk1, hk2, ghk4nn, hk5, ghk6, ghk7a, ghk8aa, ghk8abn] at ghk8b
                  all_goals
                  rcases it_some h with ⟨hk9, h⟩ | ⟨hk9, h⟩
                  · try simp only [go_sem, n1, n2, n3, n4, hk1, hk2, ghk4nn, hk5, ghk6, ghk7a, ghk8aa, ghk8abn, ghk8b] at hk9
                    all_goals
                    obtain rfl := so_some h
                    refine ⟨0, fun L hL => ?_⟩
                    simp only [go_sem, ir32, E_impl_ordered_l1, R_impl_ordered_l1, ir32_b0, ir32_k0, ir32_o0, ir32_r0, hk1, hk2, lhk2, xhk2, fhk3, ghk4nn, hk5, ghk6, ghk7a, ghk8aa, ghk8abn, ghk8b, hk9]
                  · try simp only [go_sem, n1, n2, n3, n4, hk1, hk2, ghk4nn, hk5, ghk6, ghk7a, ghk8aa, ghk8abn, ghk8b] at hk9
                    all_goals
                    obtain rfl := so_some h
                    refine ⟨0, fun L hL => ?_⟩
                    simp only [go_sem, ir32, E_impl_ordered_l1, R_impl_ordered_l1, ir32_b0, ir32_k0, ir32_o0, ir32_r0, hk1, hk2, lhk2, xhk2, fhk3, ghk4nn, hk5, ghk6, ghk7a, ghk8aa, ghk8abn, ghk8b, hk9]
            · have ghk7bn := no_f ghk7b
              try simp only [go_sem, n1, n2, n3, n4, hk1, hk2, ghk4nn, hk5, ghk6] at ghk7a
              all_goals
              try simp only [go_sem, n1, n2, n3, n4, hk1, hk2, ghk4nn, hk5, ghk6, ghk7a] at ghk7bn
              all_goals
              obtain ⟨hk8, h⟩ := ck_some h
              rcases or_split hk8 with ⟨ghk8, hk8⟩ | ghk8
              · try simp only [go_sem, n1, n2, n3, n4, hk1, hk2, ghk4nn, hk5, ghk6, ghk7a, ghk7bn] at ghk8
                all_goals
                have lhk8 := ix_lt hk8
                have xhk8 := getD_mapD Fault_av faults lhk8
                try simp only [go_sem] at lhk8
                try simp only [go_sem] at xhk8
                try simp only [go_sem, n1, n2, n3, n4, hk1, hk2, ghk4nn, hk5, ghk6, ghk7a, ghk7bn, ghk8] at hk8
                all_goals
                rcases it_some h with ⟨hk9, h⟩ | ⟨hk9, h⟩
                · try simp only [go_sem, n1, n2, n3, n4, hk1, hk2, ghk4nn, hk5, ghk6, ghk7a, ghk7bn, ghk8, hk8] at hk9
                  all_goals
                  obtain rfl := so_some h
                  refine ⟨0, fun L hL => ?_⟩
                  simp only [go_sem, ir32, E_impl_ordered_l1, R_impl_ordered_l1, ir32_b0, ir32_k0, ir32_o0, ir32_r0, hk1, hk2, lhk2, xhk2, fhk3, ghk4nn, hk5, ghk6, ghk7a, ghk7bn, ghk8, hk8, lhk8, xhk8, hk9]
                · try simp only [go_sem, n1, n2, n3, n4, hk1, hk2, ghk4nn, hk5, ghk6, ghk7a, ghk7bn, ghk8, hk8] at hk9
                  all_goals
                  obtain rfl := so_some h
                  refine ⟨0, fun L hL => ?_⟩
                  simp only [go_sem, ir32, E_impl_ordered_l1, R_impl_ordered_l1, ir32_b0, ir32_k0, ir32_o0, ir32_r0, hk1, hk2, lhk2, xhk2, fhk3, ghk4nn, hk5, ghk6, ghk7a, ghk7bn, ghk8, hk8, lhk8, xhk8, hk9]
              · rcases and_f ghk8 with ghk8a | ⟨ghk8a, ghk8b⟩
                · rcases and_f ghk8a with ghk8aa | ⟨ghk8aa, ghk8ab⟩
                  · try simp only [go_sem, n1, n2, n3, n4, hk1, hk2, ghk4nn, hk5, ghk6, ghk7a, ghk7bn] at ghk8aa
                    all_goals
                    rcases it_some h with ⟨hk9, h⟩ | ⟨hk9, h⟩
                    · try simp only [go_sem, n1, n2, n3, n4, hk1, hk2, ghk4nn, hk5, ghk6, ghk7a, ghk7bn, ghk8aa] at hk9
                      all_goals
                      obtain rfl := so_some h
                      refine ⟨0, fun L hL => ?_⟩
                      simp only [go_sem, ir32, E_impl_ordered_l1, R_impl_ordered_l1, ir32_b0, ir32_k0, ir32_o0, ir32_r0, hk1, hk2, lhk2, xhk2, fhk3, ghk4nn, hk5, ghk6, ghk7a, ghk7bn, ghk8aa, hk9]
                    · try simp only [go_sem, n1, n2, n3, n4, hk1, hk2, ghk4nn, hk5, ghk6, ghk7a, ghk7bn, ghk8aa] at hk9
                      all_goals
                      obtain rfl := so_some h
                      refine ⟨0, fun L hL => ?_⟩
                      simp only [go_sem, ir32, E_impl_ordered_l1, R_impl_ordered_l1, ir32_b0, ir32_k0, ir32_o0, ir32_r0, hk1, hk2, lhk2, xhk2, fhk3, ghk4nn, hk5, ghk6, ghk7a, ghk7bn, ghk8aa, hk9]
                  · have ghk8abn := no_f ghk8ab
                    try simp only [go_sem, n1, n2, n3, n4, hk1, hk2, ghk4nn, hk5, ghk6, ghk7a, ghk7bn] at ghk8aa
                    all_goals
                    try simp only [go_sem, n1, n2, n3, n4, hk1, hk2, ghk4nn, hk5, ghk6, ghk7a, ghk7bn, ghk8aa] at ghk8abn
                    all_goals
                    rcases it_some h with ⟨hk9, h⟩ | ⟨hk9, h⟩
                    · try simp only [go_sem, n1, n2, n3, n4, hk1, hk2, ghk4nn, hk5, ghk6, ghk7a, ghk7bn, ghk8aa, ghk8abn] at hk9
                      all_goals
                      obtain rfl := so_some h
                      refine ⟨0, fun L hL => ?_⟩
                      simp only [go_sem, ir32, E_impl_ordered_l1, R_impl_ordered_l1, ir32_b0, ir32_k0, ir32_o0, ir32_r0, hk1, hk2, lhk2, xhk2, fhk3, ghk4nn, hk5, ghk6, ghk7a, ghk7bn, ghk8aa, ghk8abn, hk9]
                    · try simp only [go_sem, n1, n2, n3, n4, hk1, hk2, ghk4nn, hk5, ghk6, ghk7a, ghk7bn, ghk8aa, ghk8abn] at hk9
                      all_goals
                      obtain rfl := so_some h
                      refine ⟨0, fun L hL => ?_⟩
                      simp only [go_sem, ir32, E_impl_ordered_l1, R_impl_ordered_l1, ir32_b0, ir32_k0, ir32_o0, ir32_r0, hk1, hk2, lhk2, xhk2, fhk3, ghk4nn, hk5, ghk6, ghk7a, ghk7bn, ghk8aa, ghk8abn, hk9]
                · obtain ⟨ghk8aa, ghk8ab⟩ := and_t ghk8a
                  have ghk8abn := no_t ghk8ab
                  try simp only [go_sem, n1, n2, n3, n4, hk1, hk2, ghk4nn, hk5, ghk6, ghk7a, ghk7bn] at ghk8aa
                  all_goals
                  try simp only [go_sem, n1, n2, n3, n4, hk1, hk2, ghk4nn, hk5, ghk6, ghk7a, ghk7bn, ghk8aa] at ghk8abn
                  all_goals
                  try simp only [go_sem, n1, n2, n3, n4, hk1, hk2, ghk4nn, hk5, ghk6, ghk7a, ghk7bn, ghk8aa, ghk8abn] at ghk8b
                  all_goals
                  rcases it_some h with ⟨hk9, h⟩ | ⟨hk9, h⟩
                  · try simp only [go_sem, n1, n2, n3, n4, hk1, hk2, ghk4nn, hk5, ghk6, ghk7a, ghk7bn, ghk8aa, ghk8abn, ghk8b] at hk9
                    all_goals
                    obtain rfl := so_some h
                    refine ⟨0, fun L hL => ?_⟩
                    simp only [go_sem, ir32, E_impl_ordered_l1, R_impl_ordered_l1, ir32_b0, ir32_k0, ir32_o0, ir32_r0, hk1, hk2, lhk2, xhk2, fhk3, ghk4nn, hk5, ghk6, ghk7a, ghk7bn, ghk8aa, ghk8abn, ghk8b, hk9]
                  · try simp only [go_sem, n1, n2, n3, n4, hk1, hk2, ghk4nn, hk5, ghk6, ghk7a, ghk7bn, ghk8aa, ghk8abn, ghk8b] at hk9
                    all_goals
                    obtain rfl := so_some h
                    refine ⟨0, fun L hL => ?_⟩
                    simp only [go_sem, ir32, E_impl_ordered_l1, R_impl_ordered_l1, ir32_b0, ir32_k0, ir32_o0, ir32_r0, hk1, hk2, lhk2, xhk2, fhk3, ghk4nn, hk5, ghk6, ghk7a, ghk7bn, ghk8aa, ghk8abn, ghk8b, hk9]
  · try simp only [go_sem, n1, n2, n3, n4] at hk1
    all_goals
    obtain rfl := so_some h
    refine ⟨0, fun L hL => ?_⟩
    simp only [go_sem, ir32, E_impl_ordered_l1, R_impl_ordered_l1, ir32_b0, ir32_k0, ir32_o0, ir32_r0, hk1]

theorem Fs_impl_ordered {faults : List Fault} {estimates : Int} {y_ : Bool} (h : impl_ordered faults estimates = some y_) : c_impl_ordered.F [.sl 2 (List.map Fault_av faults), .int .i64 estimates] = ⟨true, .bool y_, [.any, .any]⟩ := by
  refine mkF_E rfl ?_
  dsimp only [impl_ordered] at h
  obtain ⟨y_10, hk10, h⟩ := bd_some h
  obtain ⟨Lhk10, ehk10⟩ := impl_ordered_l1_ex hk10
  rcases y_10 with y_10a | y_10b
  · dsimp only at h
    obtain rfl := so_some h
    refine ⟨Lhk10, fun L hL => ?_⟩
    have ehk10 := ehk10 L (by omega)
    try simp only [go_sem, E_impl_ordered_l1, R_impl_ordered_l1, ir32_k0, ir32_o0, ir32_r0] at ehk10
    simp only [go_sem, ir32, E_impl_ordered_l1, R_impl_ordered_l1, ir32_k0, ir32_o0, ir32_r0, ehk10]
  · dsimp only at h
    obtain rfl := so_some h
    refine ⟨Lhk10, fun L hL => ?_⟩
    have ehk10 := ehk10 L (by omega)
    try simp only [go_sem, E_impl_ordered_l1, R_impl_ordered_l1, ir32_k0, ir32_o0, ir32_r0] at ehk10
    simp only [go_sem, ir32, E_impl_ordered_l1, R_impl_ordered_l1, ir32_k0, ir32_o0, ir32_r0, ehk10]


def ir38_b0 : IR := .seq (.region false [
    ⟨.var 7, 9, none, .bin false .lss (.v 6) (.v 5)⟩])
 (.seq (.cond (.v 7) (.skip)
  (.exit 0))
 (.seq (.block 1 (.seq (.region false [
      ⟨.push, 10, none, .mov (.v 6)⟩,
      ⟨.var 4, 5, none, .mov (.s 0)⟩])
   (.anyo 6 [
     ⟨.slot 0, 11, none, .load true 2 (.v 2)⟩,
     ⟨.slot 1, 12, none, .mov (.v 0)⟩,
     ⟨.slot 2, 13, none, .mov (.v 4)⟩,
     ⟨.slot 3, 14, none, .ixAddr 2 (.s 1) (.s 2)⟩,
     ⟨.slot 4, 15, none, .load true 2 (.s 3)⟩,
     ⟨.slot 5, 16, none, .eqA false [1, 1] (.s 0) (.s 4)⟩] [] (.cond (.s 5)
   (.seq (.region false [
       ⟨.push, 17, none, .mov (.v 4)⟩,
       ⟨.var 3, 4, none, .mov (.s 0)⟩])
    (.ret))
   (.skip)))))
 (.region false [
   ⟨.push, 18, none, .bin false .add (.v 6) (.c (.int .i64 (1)))⟩,
   ⟨.var 6, 8, none, .mov (.s 0)⟩])))
def ir38_k0 : List Bool := [true, false, true, false, false, true, true, false]
def ir38_o0 : List Bool := [false, false, false, false, false, false, false, false]
def ir38_r0 : List Bool := [false, false, false, true, false, false, false, false]
def ir38_v : List Nat := [0, 1, 3, 4, 5, 7, 8, 9]
def ir38 : AFn := ⟨2, 8, .seq (.region false [
    ⟨.var 2, 3, none, .box (.v 1)⟩,
    ⟨.var 3, 4, none, .mov (.c (.int .i64 (0)))⟩])
 (.seq (.seq (.region false [
     ⟨.push, 6, none, .mov (.v 0)⟩,
     ⟨.var 5, 7, none, .len false (.s 0)⟩,
     ⟨.var 6, 8, none, .mov (.c (.int .i64 (0)))⟩])
  (.block 0 (.loop ir38_k0 ir38_o0 ir38_r0 ir38_b0)))
 (.seq (.region false [
    ⟨.var 3, 4, none, .mov (.c (.int .i64 (-1)))⟩])
 (.ret))), [.t 3]⟩
noncomputable def t_slices_Index_impl_Fault_impl_Fault : List (Nat × Ctr) := []
noncomputable def c_slices_Index_impl_Fault_impl_Fault : Ctr := mkF t_slices_Index_impl_Fault_impl_Fault ir38 [.bor, .bor]
theorem s_slices_Index_impl_Fault_impl_Fault : Sound Try.prog 38 c_slices_Index_impl_Fault_impl_Fault := mkF_sound _ rfl snd_nil (by kernel_rfl : chkFn Try.prog 38 ir38 ir38_v = true)
theorem M_slices_Index_impl_Fault_impl_Fault : c_slices_Index_impl_Fault_impl_Fault.modes = [.bor, .bor] := rfl
theorem Fl_slices_Index_impl_Fault_impl_Fault : c_slices_Index_impl_Fault_impl_Fault.flat = true := rfl
attribute [go_sem] M_slices_Index_impl_Fault_impl_Fault Fl_slices_Index_impl_Fault_impl_Fault
def E_slices_Index_impl_Fault_impl_Fault_l1 (s_ : List Fault) (v : Fault) (t7 : Int) : Int → St
  | t8 => ⟨[.sl 2 (List.map Fault_av s_), .any, .ref 3200000 0 0, .any, .any, .int .i64 t7, .int .i64 t8, .any], [], [(3200000, ⟨2, [Fault_av v]⟩)], true⟩
def R_slices_Index_impl_Fault_impl_Fault_l1 (s_ : List Fault) (v : Fault) (t7 : Int) : (Unit ⊕ Int) → Res
  | .inl y => (.exit 0, ⟨[.any, .any, .any, .any, .any, .any, .any, .any], [], [], true⟩)
  | .inr y => (.ret, ⟨[.any, .any, .any, .int .i64 y, .any, .any, .any, .any], [], [], true⟩)
theorem slices_Index_impl_Fault_impl_Fault_l1_ex {s_ : List Fault} {v : Fault} {t7 : Int} {sgm_ : Int} {rho_ : Unit ⊕ Int} (h : whileE (slices_Index_impl_Fault_impl_Fault_l1 s_ v t7) sgm_ = some rho_) : ∃ L0, ∀ L, L0 ≤ L → iter (exec (look t_slices_Index_impl_Fault_impl_Fault) L ir38_b0) ir38_k0 ir38_o0 ir38_r0 L (E_slices_Index_impl_Fault_impl_Fault_l1 s_ v t7 sgm_) = R_slices_Index_impl_Fault_impl_Fault_l1 s_ v t7 rho_ := by
  refine loop_ex (E := E_slices_Index_impl_Fault_impl_Fault_l1 s_ v t7) (R := R_slices_Index_impl_Fault_impl_Fault_l1 s_ v t7) (fun y => by first | (intro c; cases c) | (rcases y with y | y <;> (intro c; cases c)) | (rcases y with y | y | y <;> (intro c; cases c))) ?_ h
  clear h
  intro t8 o_ h
  dsimp only [slices_Index_impl_Fault_impl_Fault_l1] at h
  rcases it_some h with ⟨hk1, h⟩ | ⟨hk1, h⟩
  · try simp only [go_sem, n1, n2, n3, n4] at hk1
    all_goals
    obtain ⟨hk2, h⟩ := ck_some h
    have lhk2 := ix_lt hk2
    have xhk2 := getD_mapD Fault_av s_ lhk2
    try simp only [go_sem] at lhk2
    try simp only [go_sem] at xhk2
    try simp only [go_sem, n1, n2, n3, n4, hk1] at hk2
    all_goals
    rcases it_some h with ⟨hk3, h⟩ | ⟨hk3, h⟩
    · try simp only [go_sem, n1, n2, n3, n4, hk1, hk2] at hk3
      all_goals
      obtain rfl := so_some h
      refine ⟨0, fun L hL => ?_⟩
      simp only [go_sem, ir38, E_slices_Index_impl_Fault_impl_Fault_l1, R_slices_Index_impl_Fault_impl_Fault_l1, ir38_b0, ir38_k0, ir38_o0, ir38_r0, hk1, hk2, lhk2, xhk2, hk3]
    · try simp only [go_sem, n1, n2, n3, n4, hk1, hk2] at hk3
      all_goals
      obtain rfl := so_some h
      refine ⟨0, fun L hL => ?_⟩
      simp only [go_sem, ir38, E_slices_Index_impl_Fault_impl_Fault_l1, R_slices_Index_impl_Fault_impl_Fault_l1, ir38_b0, ir38_k0, ir38_o0, ir38_r0, hk1, hk2, lhk2, xhk2, hk3]
  · try simp only [go_sem, n1, n2, n3, n4] at hk1
    all_goals
    obtain rfl := so_some h
    refine ⟨0, fun L hL => ?_⟩
    simp only [go_sem, ir38, E_slices_Index_impl_Fault_impl_Fault_l1, R_slices_Index_impl_Fault_impl_Fault_l1, ir38_b0, ir38_k0, ir38_o0, ir38_r0, hk1]

theorem Fs_slices_Index_impl_Fault_impl_Fault {s_ : List Fault} {v : Fault} {y_ : Int} (h : slices_Index_impl_Fault_impl_Fault s_ v = some y_) : c_slices_Index_impl_Fault_impl_Fault.F [.sl 2 (List.map Fault_av s_), Fault_av v] = ⟨true, .int .i64 y_, [.any, .any]⟩ := by
  refine mkF_E rfl ?_
  dsimp only [slices_Index_impl_Fault_impl_Fault] at h
  obtain ⟨y_4, hk4, h⟩ := bd_some h
  obtain ⟨Lhk4, ehk4⟩ := slices_Index_impl_Fault_impl_Fault_l1_ex hk4
  rcases y_4 with y_4a | y_4b
  · dsimp only at h
    obtain rfl := so_some h
    refine ⟨Lhk4, fun L hL => ?_⟩
    have ehk4 := ehk4 L (by omega)
    try simp only [go_sem, E_slices_Index_impl_Fault_impl_Fault_l1, R_slices_Index_impl_Fault_impl_Fault_l1, ir38_k0, ir38_o0, ir38_r0] at ehk4
    simp only [go_sem, ir38, E_slices_Index_impl_Fault_impl_Fault_l1, R_slices_Index_impl_Fault_impl_Fault_l1, ir38_k0, ir38_o0, ir38_r0, ehk4]
  · dsimp only at h
    obtain rfl := so_some h
    refine ⟨Lhk4, fun L hL => ?_⟩
    have ehk4 := ehk4 L (by omega)
    try simp only [go_sem, E_slices_Index_impl_Fault_impl_Fault_l1, R_slices_Index_impl_Fault_impl_Fault_l1, ir38_k0, ir38_o0, ir38_r0] at ehk4
    simp only [go_sem, ir38, E_slices_Index_impl_Fault_impl_Fault_l1, R_slices_Index_impl_Fault_impl_Fault_l1, ir38_k0, ir38_o0, ir38_r0, ehk4]


def ir36_v : List Nat := [0, 1, 3, 4]
def ir36 : AFn := ⟨2, 4, .seq (.region false [
    ⟨.var 2, 3, none, .box (.v 1)⟩,
    ⟨.var 3, 4, none, .mov (.c (.bool false))⟩])
 (.seq (.region false [
    ⟨.push, 5, none, .mov (.v 0)⟩,
    ⟨.push, 6, none, .load true 2 (.v 2)⟩,
    ⟨.push, 7, none, .call 38 [(.s 1), (.s 0)]⟩,
    ⟨.push, 8, none, .bin false .geq (.s 0) (.c (.int .i64 (0)))⟩,
    ⟨.var 3, 4, none, .mov (.s 0)⟩])
 (.ret)), [.t 3]⟩
noncomputable def t_slices_Contains_impl_Fault_impl_Fault : List (Nat × Ctr) := [(38, c_slices_Index_impl_Fault_impl_Fault)]
theorem lk_slices_Contains_impl_Fault_impl_Fault_38 : look t_slices_Contains_impl_Fault_impl_Fault 38 = some c_slices_Index_impl_Fault_impl_Fault := rfl
noncomputable def c_slices_Contains_impl_Fault_impl_Fault : Ctr := mkF t_slices_Contains_impl_Fault_impl_Fault ir36 [.bor, .bor]
theorem s_slices_Contains_impl_Fault_impl_Fault : Sound Try.prog 36 c_slices_Contains_impl_Fault_impl_Fault := mkF_sound _ rfl (snd_cons s_slices_Index_impl_Fault_impl_Fault snd_nil) (by kernel_rfl : chkFn Try.prog 36 ir36 ir36_v = true)
theorem M_slices_Contains_impl_Fault_impl_Fault : c_slices_Contains_impl_Fault_impl_Fault.modes = [.bor, .bor] := rfl
theorem Fl_slices_Contains_impl_Fault_impl_Fault : c_slices_Contains_impl_Fault_impl_Fault.flat = true := rfl
attribute [go_sem] M_slices_Contains_impl_Fault_impl_Fault Fl_slices_Contains_impl_Fault_impl_Fault
attribute [go_sem] lk_slices_Contains_impl_Fault_impl_Fault_38
theorem Fs_slices_Contains_impl_Fault_impl_Fault {s_ : List Fault} {v : Fault} {y_ : Bool} (h : slices_Contains_impl_Fault_impl_Fault s_ v = some y_) : c_slices_Contains_impl_Fault_impl_Fault.F [.sl 2 (List.map Fault_av s_), Fault_av v] = ⟨true, .bool y_, [.any, .any]⟩ := by
  refine mkF_E rfl ?_
  dsimp only [slices_Contains_impl_Fault_impl_Fault] at h
  obtain ⟨y_1, hk1, h⟩ := bd_some h
  have fhk1 := Fs_slices_Index_impl_Fault_impl_Fault hk1
  try simp only [go_sem] at fhk1
  obtain rfl := so_some h
  refine ⟨0, fun L hL => ?_⟩
  simp only [go_sem, ir36, fhk1]


def ir35_v : List Nat := [0, 1, 2, 3]
def ir35 : AFn := ⟨2, 4, .seq (.region false [
    ⟨.var 2, 2, none, .box (.v 0)⟩,
    ⟨.var 3, 3, none, .mov (.c (.bool false))⟩])
 (.seq (.region false [
    ⟨.push, 4, none, .load false 1 (.v 1)⟩,
    ⟨.push, 5, none, .load true 2 (.v 2)⟩,
    ⟨.push, 6, none, .call 36 [(.s 1), (.s 0)]⟩,
    ⟨.push, 7, none, .un .not (.s 0)⟩,
    ⟨.var 3, 3, none, .mov (.s 0)⟩])
 (.ret)), [.t 3]⟩
noncomputable def t_impl_NewFaults_c1 : List (Nat × Ctr) := [(36, c_slices_Contains_impl_Fault_impl_Fault)]
theorem lk_impl_NewFaults_c1_36 : look t_impl_NewFaults_c1 36 = some c_slices_Contains_impl_Fault_impl_Fault := rfl
noncomputable def c_impl_NewFaults_c1 : Ctr := mkF t_impl_NewFaults_c1 ir35 [.bor, .bor]
theorem s_impl_NewFaults_c1 : Sound Try.prog 35 c_impl_NewFaults_c1 := mkF_sound _ rfl (snd_cons s_slices_Contains_impl_Fault_impl_Fault snd_nil) (by kernel_rfl : chkFn Try.prog 35 ir35 ir35_v = true)
theorem M_impl_NewFaults_c1 : c_impl_NewFaults_c1.modes = [.bor, .bor] := rfl
theorem Fl_impl_NewFaults_c1 : c_impl_NewFaults_c1.flat = true := rfl
attribute [go_sem] M_impl_NewFaults_c1 Fl_impl_NewFaults_c1
attribute [go_sem] lk_impl_NewFaults_c1_36
theorem Fs_impl_NewFaults_c1 {x : Fault} {t1 : List Fault} {y_ : Bool} (h : impl_NewFaults_c1 x t1 = some y_) : c_impl_NewFaults_c1.F [Fault_av x, .ptr 1 [.sl 2 (List.map Fault_av t1)] 0 0] = ⟨true, .bool y_, [.any, .any]⟩ := by
  refine mkF_E rfl ?_
  dsimp only [impl_NewFaults_c1] at h
  obtain ⟨y_1, hk1, h⟩ := bd_some h
  have fhk1 := Fs_slices_Contains_impl_Fault_impl_Fault hk1
  try simp only [go_sem] at fhk1
  obtain rfl := so_some h
  refine ⟨0, fun L hL => ?_⟩
  simp only [go_sem, ir35, fhk1]


def ir34_b0 : IR := .seq (.region false [
    ⟨.var 8, 12, none, .bin false .lss (.v 7) (.v 6)⟩])
 (.seq (.cond (.v 8) (.skip)
  (.exit 0))
 (.seq (.block 1 (.seq (.region false [
      ⟨.push, 13, none, .ixAddr 2 (.v 5) (.v 7)⟩,
      ⟨.push, 14, none, .load true 2 (.s 0)⟩,
      ⟨.var 4, 7, none, .alloc (.agg [.int .i64 (0), .int .i64 (0)])⟩,
      ⟨.no, 0, none, .store 2 (.v 4) (.s 0)⟩])
   (.test false [
     ⟨.push, 15, none, .mov (.v 1)⟩,
     ⟨.push, 16, none, .load true 2 (.v 4)⟩,
     ⟨.push, 17, none, .callv (.s 1) [(.s 0)]⟩] (.s 0)
   (.region false [
      ⟨.push, 18, none, .mov (.v 3)⟩,
      ⟨.push, 19, none, .load true 2 (.v 4)⟩,
      ⟨.push, 20, none, .mkSl 2 (.agg [.int .i64 (0), .int .i64 (0)]) 1 [(0, (.s 0))]⟩,
      ⟨.push, 21, none, .app 2 16 (.agg [.int .i64 (0), .int .i64 (0)]) (.s 2) (.s 0)⟩,
      ⟨.var 3, 5, none, .mov (.s 0)⟩])
   (.skip))))
 (.region false [
   ⟨.push, 22, none, .bin false .add (.v 7) (.c (.int .i64 (1)))⟩,
   ⟨.var 7, 11, none, .mov (.s 0)⟩])))
def ir34_k0 : List Bool := [false, true, false, true, false, true, true, true, false]
def ir34_o0 : List Bool := [false, false, false, true, false, false, false, false, false]
def ir34_r0 : List Bool := [false, false, true, false, false, false, false, false, false]
def ir34_v : List Nat := [0, 1, 4, 5, 7, 9, 10, 11, 12]
def ir34 : AFn := ⟨2, 9, .seq (.region false [
    ⟨.var 2, 4, none, .newnil 2⟩])
 (.seq (.region false [
    ⟨.push, 8, none, .mkSl 2 (.agg [.int .i64 (0), .int .i64 (0)]) 0 []⟩,
    ⟨.var 3, 5, none, .mov (.s 0)⟩])
 (.seq (.seq (.region false [
     ⟨.var 5, 9, none, .mov (.v 0)⟩,
     ⟨.var 6, 10, none, .len false (.v 5)⟩,
     ⟨.var 7, 11, none, .mov (.c (.int .i64 (0)))⟩])
  (.block 0 (.loop ir34_k0 ir34_o0 ir34_r0 ir34_b0)))
 (.seq (.region false [
    ⟨.push, 23, none, .mov (.v 3)⟩,
    ⟨.var 2, 4, none, .mov (.s 0)⟩])
 (.ret)))), [.t 2]⟩
noncomputable def t_impl_chosen_impl_Fault__impl_NewFaults_c1 : List (Nat × Ctr) := [(35, c_impl_NewFaults_c1)]
theorem lk_impl_chosen_impl_Fault__impl_NewFaults_c1_35 : look t_impl_chosen_impl_Fault__impl_NewFaults_c1 35 = some c_impl_NewFaults_c1 := rfl
noncomputable def c_impl_chosen_impl_Fault__impl_NewFaults_c1 : Ctr := mkF t_impl_chosen_impl_Fault__impl_NewFaults_c1 ir34 [.bor, .bor]
theorem s_impl_chosen_impl_Fault__impl_NewFaults_c1 : Sound Try.prog 34 c_impl_chosen_impl_Fault__impl_NewFaults_c1 := mkF_sound _ rfl (snd_cons s_impl_NewFaults_c1 snd_nil) (by kernel_rfl : chkFn Try.prog 34 ir34 ir34_v = true)
theorem M_impl_chosen_impl_Fault__impl_NewFaults_c1 : c_impl_chosen_impl_Fault__impl_NewFaults_c1.modes = [.bor, .bor] := rfl
theorem Fl_impl_chosen_impl_Fault__impl_NewFaults_c1 : c_impl_chosen_impl_Fault__impl_NewFaults_c1.flat = true := rfl
attribute [go_sem] M_impl_chosen_impl_Fault__impl_NewFaults_c1 Fl_impl_chosen_impl_Fault__impl_NewFaults_c1
attribute [go_sem] lk_impl_chosen_impl_Fault__impl_NewFaults_c1_35
def E_impl_chosen_impl_Fault__impl_NewFaults_c1_l1 (c : List Fault) (t9 : List Fault) (t10 : Int) : ((List Fault) × Int) → St
  | (out, t11) => ⟨[.any, .fn (.func 35) [] [.ptr 1 [.sl 2 (List.map Fault_av c)] 0 0], .any, .own 3200000, .any, .sl 2 (List.map Fault_av t9), .int .i64 t10, .int .i64 t11, .any], [], [(3200000, ⟨2, List.map Fault_av out⟩)], true⟩
def R_impl_chosen_impl_Fault__impl_NewFaults_c1_l1 (c : List Fault) (t9 : List Fault) (t10 : Int) (y : (List Fault)) : Res := (.exit 0, ⟨[.any, .any, .any, .own 3200000, .any, .any, .any, .any, .any], [], [(3200000, ⟨2, List.map Fault_av y⟩)], true⟩)
theorem impl_chosen_impl_Fault__impl_NewFaults_c1_l1_ex {c : List Fault} {t9 : List Fault} {t10 : Int} {sgm_ : (List Fault) × Int} {rho_ : (List Fault)} (h : whileE (impl_chosen_impl_Fault__impl_NewFaults_c1_l1 c t9 t10) sgm_ = some rho_) : ∃ L0, ∀ L, L0 ≤ L → iter (exec (look t_impl_chosen_impl_Fault__impl_NewFaults_c1) L ir34_b0) ir34_k0 ir34_o0 ir34_r0 L (E_impl_chosen_impl_Fault__impl_NewFaults_c1_l1 c t9 t10 sgm_) = R_impl_chosen_impl_Fault__impl_NewFaults_c1_l1 c t9 t10 rho_ := by
  refine loop_ex (E := E_impl_chosen_impl_Fault__impl_NewFaults_c1_l1 c t9 t10) (R := R_impl_chosen_impl_Fault__impl_NewFaults_c1_l1 c t9 t10) (fun y => by first | (intro c; cases c) | (rcases y with y | y <;> (intro c; cases c)) | (rcases y with y | y | y <;> (intro c; cases c))) ?_ h
  clear h
  rintro ⟨out, t11⟩ o_ h
  dsimp only [impl_chosen_impl_Fault__impl_NewFaults_c1_l1] at h
  rcases it_some h with ⟨hk1, h⟩ | ⟨hk1, h⟩
  · try simp only [go_sem, n1, n2, n3, n4] at hk1
    all_goals
    obtain ⟨hk2, h⟩ := ck_some h
    have lhk2 := ix_lt hk2
    have xhk2 := getD_mapD Fault_av t9 lhk2
    try simp only [go_sem] at lhk2
    try simp only [go_sem] at xhk2
    try simp only [go_sem, n1, n2, n3, n4, hk1] at hk2
    all_goals
    obtain ⟨y_3, hk3, h⟩ := bd_some h
    have fhk3 := Fs_impl_NewFaults_c1 hk3
    try simp only [go_sem] at fhk3
    rcases it_some h with ⟨hk4, h⟩ | ⟨hk4, h⟩
    · try simp only [go_sem, n1, n2, n3, n4, hk1, hk2] at hk4
      all_goals
      obtain ⟨hk5, h⟩ := ck_some h
      try simp only [go_sem, n1, n2, n3, n4, hk1, hk2, hk4] at hk5
      all_goals
      obtain rfl := so_some h
      refine ⟨0, fun L hL => ?_⟩
      simp only [go_sem, ir34, E_impl_chosen_impl_Fault__impl_NewFaults_c1_l1, R_impl_chosen_impl_Fault__impl_NewFaults_c1_l1, ir34_b0, ir34_k0, ir34_o0, ir34_r0, hk1, hk2, lhk2, xhk2, fhk3, hk4, hk5]
    · try simp only [go_sem, n1, n2, n3, n4, hk1, hk2] at hk4
      all_goals
      obtain rfl := so_some h
      refine ⟨0, fun L hL => ?_⟩
      simp only [go_sem, ir34, E_impl_chosen_impl_Fault__impl_NewFaults_c1_l1, R_impl_chosen_impl_Fault__impl_NewFaults_c1_l1, ir34_b0, ir34_k0, ir34_o0, ir34_r0, hk1, hk2, lhk2, xhk2, fhk3, hk4]
  · try simp only [go_sem, n1, n2, n3, n4] at hk1
    all_goals
    obtain rfl := so_some h
    refine ⟨0, fun L hL => ?_⟩
    simp only [go_sem, ir34, E_impl_chosen_impl_Fault__impl_NewFaults_c1_l1, R_impl_chosen_impl_Fault__impl_NewFaults_c1_l1, ir34_b0, ir34_k0, ir34_o0, ir34_r0, hk1]

theorem Fs_impl_chosen_impl_Fault__impl_NewFaults_c1 {list : List Fault} {wanted_c0 : List Fault} {y_ : (List Fault)} (h : impl_chosen_impl_Fault__impl_NewFaults_c1 list wanted_c0 = some y_) : c_impl_chosen_impl_Fault__impl_NewFaults_c1.F [.sl 2 (List.map Fault_av list), .fn (.func 35) [] [.ptr 1 [.sl 2 (List.map Fault_av wanted_c0)] 0 0]] = ⟨true, .fresh 2 (List.map Fault_av y_), [.any, .any]⟩ := by
  refine mkF_E (by simp only [flatA, flatB, flat1, List.all_cons, List.all_nil, Bool.and_self, flatE_map (f := Fault_av) (fun _ => rfl)]) ?_
  dsimp only [impl_chosen_impl_Fault__impl_NewFaults_c1] at h
  obtain ⟨y_6, hk6, h⟩ := bd_some h
  obtain ⟨Lhk6, ehk6⟩ := impl_chosen_impl_Fault__impl_NewFaults_c1_l1_ex hk6
  obtain rfl := so_some h
  refine ⟨Lhk6, fun L hL => ?_⟩
  have ehk6 := ehk6 L (by omega)
  try simp only [go_sem, E_impl_chosen_impl_Fault__impl_NewFaults_c1_l1, R_impl_chosen_impl_Fault__impl_NewFaults_c1_l1, ir34_k0, ir34_o0, ir34_r0] at ehk6
  simp only [go_sem, ir34, E_impl_chosen_impl_Fault__impl_NewFaults_c1_l1, R_impl_chosen_impl_Fault__impl_NewFaults_c1_l1, ir34_k0, ir34_o0, ir34_r0, ehk6]


def ir24_v : List Nat := [0, 1, 2, 4, 5]
def ir24 : AFn := ⟨2, 5, .seq (.region false [
    ⟨.var 2, 2, none, .box (.v 0)⟩,
    ⟨.var 3, 4, none, .newnil 2⟩,
    ⟨.var 4, 5, none, .mov (.c (.int .i64 (0)))⟩])
 (.seq (.test false [
    ⟨.push, 6, none, .load false 1 (.v 2)⟩,
    ⟨.push, 7, none, .call 32 [(.s 0), (.c (.int .i64 (100)))]⟩,
    ⟨.push, 8, none, .un .not (.s 0)⟩,
    ⟨.push, 9, none, .mov (.s 0)⟩,
    ⟨.push, 10, (some ((.s 0), false)), .mov (.v 1)⟩,
    ⟨.push, 11, (some ((.s 1), false)), .call 32 [(.s 0), (.c (.int .i64 (100)))]⟩,
    ⟨.push, 12, (some ((.s 2), false)), .un .not (.s 0)⟩,
    ⟨.push, 13, none, .pick (.s 3) (.c (.bool true)) (.s 0)⟩] (.s 0)
  (.seq (.region false [
      ⟨.var 3, 4, none, .newnil 2⟩,
      ⟨.var 4, 5, none, .mov (.c (.int .i64 (2)))⟩])
   (.ret))
  (.skip))
 (.seq (.region false [
    ⟨.push, 14, none, .mov (.v 1)⟩,
    ⟨.push, 15, none, .mkFn (.func 35) [] [(.v 2)]⟩,
    ⟨.push, 16, none, .call 34 [(.s 1), (.s 0)]⟩,
    ⟨.var 3, 4, none, .mov (.s 0)⟩,
    ⟨.var 4, 5, none, .mov (.c (.int .i64 (0)))⟩])
 (.ret))), [.t 3, .t 4]⟩
noncomputable def t_impl_NewFaults : List (Nat × Ctr) := [(32, c_impl_ordered), (34, c_impl_chosen_impl_Fault__impl_NewFaults_c1)]
theorem lk_impl_NewFaults_32 : look t_impl_NewFaults 32 = some c_impl_ordered := rfl
theorem lk_impl_NewFaults_34 : look t_impl_NewFaults 34 = some c_impl_chosen_impl_Fault__impl_NewFaults_c1 := rfl
noncomputable def c_impl_NewFaults : Ctr := mkF t_impl_NewFaults ir24 [.bor, .bor]
theorem s_impl_NewFaults : Sound Try.prog 24 c_impl_NewFaults := mkF_sound _ rfl (snd_cons s_impl_ordered (snd_cons s_impl_chosen_impl_Fault__impl_NewFaults_c1 snd_nil)) (by kernel_rfl : chkFn Try.prog 24 ir24 ir24_v = true)
theorem M_impl_NewFaults : c_impl_NewFaults.modes = [.bor, .bor] := rfl
theorem Fl_impl_NewFaults : c_impl_NewFaults.flat = true := rfl
attribute [go_sem] M_impl_NewFaults Fl_impl_NewFaults
attribute [go_sem] lk_impl_NewFaults_32 lk_impl_NewFaults_34
theorem Fs_impl_NewFaults {before : List Fault} {now : List Fault} {y_ : (List Fault) × Int} (h : impl_NewFaults before now = some y_) : c_impl_NewFaults.F [.sl 2 (List.map Fault_av before), .sl 2 (List.map Fault_av now)] = ⟨true, .tup [.fresh 2 (List.map Fault_av y_.1), .int .i64 y_.2], [.any, .any]⟩ := by
  refine mkF_E (by simp only [flatA, flatB, flat1, List.all_cons, List.all_nil, Bool.and_self, flatE_map (f := Fault_av) (fun _ => rfl)]) ?_
  dsimp only [impl_NewFaults] at h
  obtain ⟨y_1, hk1, h⟩ := bd_some h
  have fhk1 := Fs_impl_ordered hk1
  try simp only [go_sem] at fhk1
  obtain ⟨hk2, h⟩ := ck_some h
  rcases or_split hk2 with ⟨ghk2, hk2⟩ | ghk2
  · try simp only [go_sem, n1, n2, n3, n4] at ghk2
    all_goals
    obtain ⟨y_2, hhk2⟩ := Option.isSome_iff_exists.1 hk2
    have fhk2 := Fs_impl_ordered hhk2
    try simp only [go_sem] at fhk2
    rcases it_some h with ⟨hk3, h⟩ | ⟨hk3, h⟩
    · try simp only [go_sem, n1, n2, n3, n4, ghk2, hhk2] at hk3
      all_goals
      obtain rfl := so_some h
      refine ⟨0, fun L hL => ?_⟩
      simp only [go_sem, ir24, fhk1, ghk2, hhk2, fhk2, hk3]
    · try simp only [go_sem, n1, n2, n3, n4, ghk2, hhk2] at hk3
      all_goals
      obtain ⟨y_4, hk4, h⟩ := bd_some h
      have fhk4 := Fs_impl_chosen_impl_Fault__impl_NewFaults_c1 hk4
      try simp only [go_sem] at fhk4
      obtain rfl := so_some h
      refine ⟨0, fun L hL => ?_⟩
      simp only [go_sem, ir24, fhk1, ghk2, hhk2, fhk2, hk3, fhk4]
  · have ghk2n := no_f ghk2
    have ghk2nn := no_t ghk2n
    try simp only [go_sem, n1, n2, n3, n4] at ghk2nn
    all_goals
    rcases it_some h with ⟨hk3, h⟩ | ⟨hk3, h⟩
    · try simp only [go_sem, n1, n2, n3, n4, ghk2nn] at hk3
      all_goals
      obtain rfl := so_some h
      refine ⟨0, fun L hL => ?_⟩
      simp only [go_sem, ir24, fhk1, ghk2nn, hk3]
    · try simp only [go_sem, n1, n2, n3, n4, ghk2nn] at hk3
      all_goals
      obtain ⟨y_4, hk4, h⟩ := bd_some h
      have fhk4 := Fs_impl_chosen_impl_Fault__impl_NewFaults_c1 hk4
      try simp only [go_sem] at fhk4
      obtain rfl := so_some h
      refine ⟨0, fun L hL => ?_⟩
      simp only [go_sem, ir24, fhk1, ghk2nn, hk3, fhk4]


def ir33_v : List Nat := [0, 1, 2, 3, 4]
def ir33 : AFn := ⟨2, 5, .seq (.region false [
    ⟨.var 2, 2, none, .box (.v 0)⟩,
    ⟨.var 3, 3, none, .box (.v 1)⟩,
    ⟨.var 4, 4, none, .mov (.c (.bool false))⟩])
 (.seq (.test false [
    ⟨.push, 5, none, .fldAddr 0 (.v 2)⟩,
    ⟨.push, 6, none, .load false 1 (.s 0)⟩,
    ⟨.push, 7, none, .fldAddr 0 (.v 3)⟩,
    ⟨.push, 8, none, .load false 1 (.s 0)⟩,
    ⟨.push, 9, none, .bin false .neq (.s 2) (.s 0)⟩] (.s 0)
  (.seq (.region false [
      ⟨.var 4, 4, none, .mov (.c (.bool false))⟩])
   (.ret))
  (.skip))
 (.seq (.test false [
    ⟨.push, 10, none, .fldAddr 1 (.v 2)⟩,
    ⟨.push, 11, none, .load false 1 (.s 0)⟩,
    ⟨.push, 12, none, .fldAddr 1 (.v 3)⟩,
    ⟨.push, 13, none, .load false 1 (.s 0)⟩,
    ⟨.push, 14, none, .bin false .neq (.s 2) (.s 0)⟩] (.s 0)
  (.seq (.region false [
      ⟨.var 4, 4, none, .mov (.c (.bool false))⟩])
   (.ret))
  (.skip))
 (.seq (.region false [
    ⟨.var 4, 4, none, .mov (.c (.bool true))⟩])
 (.ret)))), [.t 4]⟩
noncomputable def t_laws_eqFault : List (Nat × Ctr) := []
noncomputable def c_laws_eqFault : Ctr := mkF t_laws_eqFault ir33 [.bor, .bor]
theorem s_laws_eqFault : Sound Try.prog 33 c_laws_eqFault := mkF_sound _ rfl snd_nil (by kernel_rfl : chkFn Try.prog 33 ir33 ir33_v = true)
theorem M_laws_eqFault : c_laws_eqFault.modes = [.bor, .bor] := rfl
theorem Fl_laws_eqFault : c_laws_eqFault.flat = true := rfl
attribute [go_sem] M_laws_eqFault Fl_laws_eqFault
theorem Fs_laws_eqFault {a : Fault} {b : Fault} {y_ : Bool} (h : laws_eqFault a b = some y_) : c_laws_eqFault.F [Fault_av a, Fault_av b] = ⟨true, .bool y_, [.any, .any]⟩ := by
  refine mkF_E rfl ?_
  dsimp only [laws_eqFault] at h
  rcases it_some h with ⟨hk1, h⟩ | ⟨hk1, h⟩
  · try simp only [go_sem, n1, n2, n3, n4] at hk1
    all_goals
    obtain rfl := so_some h
    refine ⟨0, fun L hL => ?_⟩
    simp only [go_sem, ir33, hk1]
  · try simp only [go_sem, n1, n2, n3, n4] at hk1
    all_goals
    rcases it_some h with ⟨hk2, h⟩ | ⟨hk2, h⟩
    · try simp only [go_sem, n1, n2, n3, n4, hk1] at hk2
      all_goals
      obtain rfl := so_some h
      refine ⟨0, fun L hL => ?_⟩
      simp only [go_sem, ir33, hk1, hk2]
    · try simp only [go_sem, n1, n2, n3, n4, hk1] at hk2
      all_goals
      obtain rfl := so_some h
      refine ⟨0, fun L hL => ?_⟩
      simp only [go_sem, ir33, hk1, hk2]


def ir21_b0 : IR := .seq (.test false [
    ⟨.push, 11, none, .mov (.v 3)⟩,
    ⟨.push, 12, none, .mov (.v 0)⟩,
    ⟨.push, 13, none, .len false (.s 0)⟩,
    ⟨.push, 14, none, .bin false .lss (.s 2) (.s 0)⟩] (.s 0)
  (.skip)
  (.exit 0))
 (.seq (.block 1 (.anyo 10 [
     ⟨.slot 0, 17, none, .mov (.v 0)⟩,
     ⟨.slot 1, 18, none, .mov (.v 3)⟩,
     ⟨.slot 2, 19, none, .ixAddr 2 (.s 0) (.s 1)⟩,
     ⟨.slot 3, 20, none, .load true 2 (.s 2)⟩,
     ⟨.slot 4, 21, none, .mov (.v 1)⟩,
     ⟨.slot 5, 22, none, .mov (.v 3)⟩,
     ⟨.slot 6, 23, none, .ixAddr 2 (.s 4) (.s 5)⟩,
     ⟨.slot 7, 24, none, .load true 2 (.s 6)⟩,
     ⟨.slot 8, 25, none, .callp 33 [(.s 3), (.s 7)]⟩,
     ⟨.slot 9, 26, none, .un .not (.s 8)⟩] [] (.cond (.s 9)
   (.seq (.region false [
       ⟨.var 2, 4, none, .mov (.c (.bool false))⟩])
    (.ret))
   (.skip))))
 (.region false [
   ⟨.push, 15, none, .mov (.v 3)⟩,
   ⟨.push, 16, none, .bin false .add (.s 0) (.c (.int .i64 (1)))⟩,
   ⟨.var 3, 5, none, .mov (.s 0)⟩]))
def ir21_k0 : List Bool := [true, true, false, true]
def ir21_o0 : List Bool := [false, false, false, false]
def ir21_r0 : List Bool := [false, false, true, false]
def ir21_v : List Nat := [0, 1, 4, 5]
def ir21 : AFn := ⟨2, 4, .seq (.region false [
    ⟨.var 2, 4, none, .mov (.c (.bool false))⟩])
 (.seq (.test false [
    ⟨.push, 6, none, .mov (.v 0)⟩,
    ⟨.push, 7, none, .len false (.s 0)⟩,
    ⟨.push, 8, none, .mov (.v 1)⟩,
    ⟨.push, 9, none, .len false (.s 0)⟩,
    ⟨.push, 10, none, .bin false .neq (.s 2) (.s 0)⟩] (.s 0)
  (.seq (.region false [
      ⟨.var 2, 4, none, .mov (.c (.bool false))⟩])
   (.ret))
  (.skip))
 (.seq (.seq (.region false [
     ⟨.var 3, 5, none, .mov (.c (.int .i64 (0)))⟩])
  (.block 0 (.loop ir21_k0 ir21_o0 ir21_r0 ir21_b0)))
 (.seq (.region false [
    ⟨.var 2, 4, none, .mov (.c (.bool true))⟩])
 (.ret)))), [.t 2]⟩
noncomputable def t_laws_eqFaultS : List (Nat × Ctr) := [(33, c_laws_eqFault)]
theorem lk_laws_eqFaultS_33 : look t_laws_eqFaultS 33 = some c_laws_eqFault := rfl
noncomputable def c_laws_eqFaultS : Ctr := mkF t_laws_eqFaultS ir21 [.bor, .bor]
theorem s_laws_eqFaultS : Sound Try.prog 21 c_laws_eqFaultS := mkF_sound _ rfl (snd_cons s_laws_eqFault snd_nil) (by kernel_rfl : chkFn Try.prog 21 ir21 ir21_v = true)
theorem M_laws_eqFaultS : c_laws_eqFaultS.modes = [.bor, .bor] := rfl
theorem Fl_laws_eqFaultS : c_laws_eqFaultS.flat = true := rfl
attribute [go_sem] M_laws_eqFaultS Fl_laws_eqFaultS
attribute [go_sem] lk_laws_eqFaultS_33
def E_laws_eqFaultS_l1 (a : List Fault) (b : List Fault) : Int → St
  | i => ⟨[.sl 2 (List.map Fault_av a), .sl 2 (List.map Fault_av b), .any, .int .i64 i], [], [], true⟩
def R_laws_eqFaultS_l1 (a : List Fault) (b : List Fault) : (Unit ⊕ Bool) → Res
  | .inl y => (.exit 0, ⟨[.any, .any, .any, .any], [], [], true⟩)
  | .inr y => (.ret, ⟨[.any, .any, .bool y, .any], [], [], true⟩)
theorem laws_eqFaultS_l1_ex {a : List Fault} {b : List Fault} {sgm_ : Int} {rho_ : Unit ⊕ Bool} (h : whileE (laws_eqFaultS_l1 a b) sgm_ = some rho_) : ∃ L0, ∀ L, L0 ≤ L → iter (exec (look t_laws_eqFaultS) L ir21_b0) ir21_k0 ir21_o0 ir21_r0 L (E_laws_eqFaultS_l1 a b sgm_) = R_laws_eqFaultS_l1 a b rho_ := by
  refine loop_ex (E := E_laws_eqFaultS_l1 a b) (R := R_laws_eqFaultS_l1 a b) (fun y => by first | (intro c; cases c) | (rcases y with y | y <;> (intro c; cases c)) | (rcases y with y | y | y <;> (intro c; cases c))) ?_ h
  clear h
  intro i o_ h
  dsimp only [laws_eqFaultS_l1] at h
  rcases it_some h with ⟨hk2, h⟩ | ⟨hk2, h⟩
  · try simp only [go_sem, n1, n2, n3, n4] at hk2
    all_goals
    obtain ⟨hk3, h⟩ := ck_some h
    have lhk3 := ix_lt hk3
    have xhk3 := getD_mapD Fault_av a lhk3
    try simp only [go_sem] at lhk3
    try simp only [go_sem] at xhk3
    try simp only [go_sem, n1, n2, n3, n4, hk2] at hk3
    all_goals
    obtain ⟨hk4, h⟩ := ck_some h
    have lhk4 := ix_lt hk4
    have xhk4 := getD_mapD Fault_av b lhk4
    try simp only [go_sem] at lhk4
    try simp only [go_sem] at xhk4
    try simp only [go_sem, n1, n2, n3, n4, hk2, hk3] at hk4
    all_goals
    obtain ⟨y_5, hk5, h⟩ := bd_some h
    have fhk5 := Fs_laws_eqFault hk5
    try simp only [go_sem] at fhk5
    rcases it_some h with ⟨hk6, h⟩ | ⟨hk6, h⟩
    · try simp only [go_sem, n1, n2, n3, n4, hk2, hk3, hk4] at hk6
      all_goals
      obtain rfl := so_some h
      refine ⟨0, fun L hL => ?_⟩
      simp only [go_sem, ir21, E_laws_eqFaultS_l1, R_laws_eqFaultS_l1, ir21_b0, ir21_k0, ir21_o0, ir21_r0, hk2, hk3, lhk3, xhk3, hk4, lhk4, xhk4, fhk5, hk6]
    · try simp only [go_sem, n1, n2, n3, n4, hk2, hk3, hk4] at hk6
      all_goals
      obtain rfl := so_some h
      refine ⟨0, fun L hL => ?_⟩
      simp only [go_sem, ir21, E_laws_eqFaultS_l1, R_laws_eqFaultS_l1, ir21_b0, ir21_k0, ir21_o0, ir21_r0, hk2, hk3, lhk3, xhk3, hk4, lhk4, xhk4, fhk5, hk6]
  · try simp only [go_sem, n1, n2, n3, n4] at hk2
    all_goals
    obtain rfl := so_some h
    refine ⟨0, fun L hL => ?_⟩
    simp only [go_sem, ir21, E_laws_eqFaultS_l1, R_laws_eqFaultS_l1, ir21_b0, ir21_k0, ir21_o0, ir21_r0, hk2]

theorem Fs_laws_eqFaultS {a : List Fault} {b : List Fault} {y_ : Bool} (h : laws_eqFaultS a b = some y_) : c_laws_eqFaultS.F [.sl 2 (List.map Fault_av a), .sl 2 (List.map Fault_av b)] = ⟨true, .bool y_, [.any, .any]⟩ := by
  refine mkF_E rfl ?_
  dsimp only [laws_eqFaultS] at h
  rcases it_some h with ⟨hk1, h⟩ | ⟨hk1, h⟩
  · try simp only [go_sem, n1, n2, n3, n4] at hk1
    all_goals
    obtain rfl := so_some h
    refine ⟨0, fun L hL => ?_⟩
    simp only [go_sem, ir21, E_laws_eqFaultS_l1, R_laws_eqFaultS_l1, ir21_k0, ir21_o0, ir21_r0, hk1]
  · try simp only [go_sem, n1, n2, n3, n4] at hk1
    all_goals
    obtain ⟨y_7, hk7, h⟩ := bd_some h
    obtain ⟨Lhk7, ehk7⟩ := laws_eqFaultS_l1_ex hk7
    rcases y_7 with y_7a | y_7b
    · dsimp only at h
      obtain rfl := so_some h
      refine ⟨Lhk7, fun L hL => ?_⟩
      have ehk7 := ehk7 L (by omega)
      try simp only [go_sem, E_laws_eqFaultS_l1, R_laws_eqFaultS_l1, ir21_k0, ir21_o0, ir21_r0] at ehk7
      simp only [go_sem, ir21, E_laws_eqFaultS_l1, R_laws_eqFaultS_l1, ir21_k0, ir21_o0, ir21_r0, hk1, ehk7]
    · dsimp only at h
      obtain rfl := so_some h
      refine ⟨Lhk7, fun L hL => ?_⟩
      have ehk7 := ehk7 L (by omega)
      try simp only [go_sem, E_laws_eqFaultS_l1, R_laws_eqFaultS_l1, ir21_k0, ir21_o0, ir21_r0] at ehk7
      simp only [go_sem, ir21, E_laws_eqFaultS_l1, R_laws_eqFaultS_l1, ir21_k0, ir21_o0, ir21_r0, hk1, ehk7]


def ir22_b0 : IR := .seq (.test false [
    ⟨.push, 6, none, .mov (.v 3)⟩,
    ⟨.push, 7, none, .mov (.v 0)⟩,
    ⟨.push, 8, none, .len false (.s 0)⟩,
    ⟨.push, 9, none, .bin false .lss (.s 2) (.s 0)⟩] (.s 0)
  (.skip)
  (.exit 0))
 (.seq (.block 1 (.seq (.region false [
      ⟨.push, 12, none, .mov (.v 0)⟩,
      ⟨.push, 13, none, .mov (.v 3)⟩,
      ⟨.push, 14, none, .mov (.v 1)⟩,
      ⟨.push, 15, none, .ixAddr 2 (.s 2) (.s 1)⟩,
      ⟨.push, 16, none, .fldAddr 0 (.s 0)⟩,
      ⟨.no, 0, none, .store 1 (.s 0) (.s 2)⟩])
   (.seq (.region false [
      ⟨.push, 17, none, .mov (.v 1)⟩,
      ⟨.push, 18, none, .bin false .add (.s 0) (.c (.int .i64 (1)))⟩,
      ⟨.var 1, 1, none, .mov (.s 0)⟩])
   (.seq (.region false [
      ⟨.push, 19, none, .mov (.v 0)⟩,
      ⟨.push, 20, none, .mov (.v 3)⟩,
      ⟨.push, 21, none, .mov (.v 1)⟩,
      ⟨.push, 22, none, .ixAddr 2 (.s 2) (.s 1)⟩,
      ⟨.push, 23, none, .fldAddr 1 (.s 0)⟩,
      ⟨.no, 0, none, .store 1 (.s 0) (.s 2)⟩])
   (.region false [
     ⟨.push, 24, none, .mov (.v 1)⟩,
     ⟨.push, 25, none, .bin false .add (.s 0) (.c (.int .i64 (1)))⟩,
     ⟨.var 1, 1, none, .mov (.s 0)⟩])))))
 (.region false [
   ⟨.push, 10, none, .mov (.v 3)⟩,
   ⟨.push, 11, none, .bin false .add (.s 0) (.c (.int .i64 (1)))⟩,
   ⟨.var 3, 5, none, .mov (.s 0)⟩]))
def ir22_k0 : List Bool := [true, true, false, true]
def ir22_o0 : List Bool := [true, true, false, false]
def ir22_r0 : List Bool := [true, false, true, false]
def ir22_v : List Nat := [0, 1, 4, 5]
def ir22 : AFn := ⟨2, 4, .seq (.region false [
    ⟨.var 2, 4, none, .mov (.c (.int .i64 (0)))⟩])
 (.seq (.seq (.region false [
     ⟨.var 3, 5, none, .mov (.c (.int .i64 (0)))⟩])
  (.block 0 (.loop ir22_k0 ir22_o0 ir22_r0 ir22_b0)))
 (.seq (.region false [
    ⟨.push, 26, none, .mov (.v 1)⟩,
    ⟨.var 2, 4, none, .mov (.s 0)⟩])
 (.ret))), [.t 2]⟩
noncomputable def t_laws_markFaultS : List (Nat × Ctr) := []
noncomputable def c_laws_markFaultS : Ctr := mkN t_laws_markFaultS ir22 [.io, .bor]
theorem s_laws_markFaultS : Sound Try.prog 22 c_laws_markFaultS := mkN_sound _ snd_nil (by kernel_rfl : chkFn Try.prog 22 ir22 ir22_v = true)
theorem M_laws_markFaultS : c_laws_markFaultS.modes = [.io, .bor] := rfl
theorem Fl_laws_markFaultS : c_laws_markFaultS.flat = false := rfl
attribute [go_sem] M_laws_markFaultS Fl_laws_markFaultS
def E_laws_markFaultS_l1  : ((List Fault) × Int × Int) → St
  | (a, k, i) => ⟨[.own 31, .int .i64 k, .any, .int .i64 i], [], [(31, ⟨2, List.map Fault_av a⟩)], true⟩
def R_laws_markFaultS_l1  (y : (List Fault) × Int) : Res := (.exit 0, ⟨[.own 31, .int .i64 y.2, .any, .any], [], [(31, ⟨2, List.map Fault_av y.1⟩)], true⟩)
theorem laws_markFaultS_l1_ex  {sgm_ : (List Fault) × Int × Int} {rho_ : (List Fault) × Int} (h : whileE (laws_markFaultS_l1) sgm_ = some rho_) : ∃ L0, ∀ L, L0 ≤ L → iter (exec (look t_laws_markFaultS) L ir22_b0) ir22_k0 ir22_o0 ir22_r0 L (E_laws_markFaultS_l1 sgm_) = R_laws_markFaultS_l1 rho_ := by
  refine loop_ex (E := E_laws_markFaultS_l1) (R := R_laws_markFaultS_l1) (fun y => by first | (intro c; cases c) | (rcases y with y | y <;> (intro c; cases c)) | (rcases y with y | y | y <;> (intro c; cases c))) ?_ h
  clear h
  rintro ⟨a, k, i⟩ o_ h
  dsimp only [laws_markFaultS_l1] at h
  rcases it_some h with ⟨hk1, h⟩ | ⟨hk1, h⟩
  · try simp only [go_sem, n1, n2, n3, n4] at hk1
    all_goals
    obtain ⟨hk2, h⟩ := ck_some h
    have lhk2 := ix_lt hk2
    have xhk2 := getD_mapD Fault_av a lhk2
    try simp only [go_sem] at lhk2
    try simp only [go_sem] at xhk2
    try simp only [go_sem, n1, n2, n3, n4, hk1] at hk2
    all_goals
    obtain ⟨hk3, h⟩ := ck_some h
    have lhk3 := ix_lt hk3
    have xhk3 := getD_mapD Fault_av (a.set i.toNat (Fault.mk k ((a.getD i.toNat default).Kind))) lhk3
    try simp only [go_sem] at lhk3
    try simp only [go_sem] at xhk3
    try simp only [go_sem, n1, n2, n3, n4, hk1, hk2] at hk3
    all_goals
    obtain rfl := so_some h
    refine ⟨0, fun L hL => ?_⟩
    simp only [go_sem, ir22, E_laws_markFaultS_l1, R_laws_markFaultS_l1, ir22_b0, ir22_k0, ir22_o0, ir22_r0, hk1, hk2, lhk2, xhk2, hk3, lhk3, xhk3]
  · try simp only [go_sem, n1, n2, n3, n4] at hk1
    all_goals
    obtain rfl := so_some h
    refine ⟨0, fun L hL => ?_⟩
    simp only [go_sem, ir22, E_laws_markFaultS_l1, R_laws_markFaultS_l1, ir22_b0, ir22_k0, ir22_o0, ir22_r0, hk1]

theorem Fs_laws_markFaultS {a : List Fault} {k : Int} {y_ : Int × (List Fault)} (h : laws_markFaultS a k = some y_) : c_laws_markFaultS.F [.fresh 2 (List.map Fault_av a), .int .i64 k] = ⟨true, .int .i64 y_.1, [.fresh 2 (List.map Fault_av y_.2), .any]⟩ := by
  refine mkN_E ?_
  dsimp only [laws_markFaultS] at h
  obtain ⟨y_4, hk4, h⟩ := bd_some h
  obtain ⟨Lhk4, ehk4⟩ := laws_markFaultS_l1_ex hk4
  obtain ⟨hk5, h⟩ := ck_some h
  try simp only [go_sem, n1, n2, n3, n4] at hk5
  all_goals
  obtain rfl := so_some h
  refine ⟨Lhk4, fun L hL => ?_⟩
  have ehk4 := ehk4 L (by omega)
  try simp only [go_sem, E_laws_markFaultS_l1, R_laws_markFaultS_l1, ir22_k0, ir22_o0, ir22_r0] at ehk4
  simp only [go_sem, ir22, E_laws_markFaultS_l1, R_laws_markFaultS_l1, ir22_k0, ir22_o0, ir22_r0, hk5, ehk4]


def ir25_b0 : IR := .seq (.test false [
    ⟨.push, 6, none, .mov (.v 3)⟩,
    ⟨.push, 7, none, .mov (.v 0)⟩,
    ⟨.push, 8, none, .len false (.s 0)⟩,
    ⟨.push, 9, none, .bin false .lss (.s 2) (.s 0)⟩] (.s 0)
  (.skip)
  (.exit 0))
 (.seq (.block 1 (.seq (.test false [
      ⟨.push, 12, none, .mov (.v 0)⟩,
      ⟨.push, 13, none, .mov (.v 3)⟩,
      ⟨.push, 14, none, .ixAddr 2 (.s 1) (.s 0)⟩,
      ⟨.push, 15, none, .fldAddr 0 (.s 0)⟩,
      ⟨.push, 16, none, .load false 1 (.s 0)⟩,
      ⟨.push, 17, none, .mov (.v 1)⟩,
      ⟨.push, 18, none, .bin false .neq (.s 1) (.s 0)⟩] (.s 0)
    (.seq (.region false [
        ⟨.var 2, 4, none, .mov (.c (.int .i64 (-1)))⟩])
     (.ret))
    (.skip))
   (.seq (.region false [
      ⟨.push, 19, none, .mov (.v 1)⟩,
      ⟨.push, 20, none, .bin false .add (.s 0) (.c (.int .i64 (1)))⟩,
      ⟨.var 1, 1, none, .mov (.s 0)⟩])
   (.seq (.test false [
      ⟨.push, 21, none, .mov (.v 0)⟩,
      ⟨.push, 22, none, .mov (.v 3)⟩,
      ⟨.push, 23, none, .ixAddr 2 (.s 1) (.s 0)⟩,
      ⟨.push, 24, none, .fldAddr 1 (.s 0)⟩,
      ⟨.push, 25, none, .load false 1 (.s 0)⟩,
      ⟨.push, 26, none, .mov (.v 1)⟩,
      ⟨.push, 27, none, .bin false .neq (.s 1) (.s 0)⟩] (.s 0)
    (.seq (.region false [
        ⟨.var 2, 4, none, .mov (.c (.int .i64 (-1)))⟩])
     (.ret))
    (.skip))
   (.region false [
     ⟨.push, 28, none, .mov (.v 1)⟩,
     ⟨.push, 29, none, .bin false .add (.s 0) (.c (.int .i64 (1)))⟩,
     ⟨.var 1, 1, none, .mov (.s 0)⟩])))))
 (.region false [
   ⟨.push, 10, none, .mov (.v 3)⟩,
   ⟨.push, 11, none, .bin false .add (.s 0) (.c (.int .i64 (1)))⟩,
   ⟨.var 3, 5, none, .mov (.s 0)⟩]))
def ir25_k0 : List Bool := [true, true, false, true]
def ir25_o0 : List Bool := [false, true, false, false]
def ir25_r0 : List Bool := [false, false, true, false]
def ir25_v : List Nat := [0, 1, 4, 5]
def ir25 : AFn := ⟨2, 4, .seq (.region false [
    ⟨.var 2, 4, none, .mov (.c (.int .i64 (0)))⟩])
 (.seq (.seq (.region false [
     ⟨.var 3, 5, none, .mov (.c (.int .i64 (0)))⟩])
  (.block 0 (.loop ir25_k0 ir25_o0 ir25_r0 ir25_b0)))
 (.seq (.region false [
    ⟨.push, 30, none, .mov (.v 1)⟩,
    ⟨.var 2, 4, none, .mov (.s 0)⟩])
 (.ret))), [.t 2]⟩
noncomputable def t_laws_heldFaultS : List (Nat × Ctr) := []
noncomputable def c_laws_heldFaultS : Ctr := mkF t_laws_heldFaultS ir25 [.bor, .bor]
theorem s_laws_heldFaultS : Sound Try.prog 25 c_laws_heldFaultS := mkF_sound _ rfl snd_nil (by kernel_rfl : chkFn Try.prog 25 ir25 ir25_v = true)
theorem M_laws_heldFaultS : c_laws_heldFaultS.modes = [.bor, .bor] := rfl
theorem Fl_laws_heldFaultS : c_laws_heldFaultS.flat = true := rfl
attribute [go_sem] M_laws_heldFaultS Fl_laws_heldFaultS
def E_laws_heldFaultS_l1 (a : List Fault) : (Int × Int) → St
  | (k, i) => ⟨[.sl 2 (List.map Fault_av a), .int .i64 k, .any, .int .i64 i], [], [], true⟩
def R_laws_heldFaultS_l1 (a : List Fault) : (Int ⊕ Int) → Res
  | .inl y => (.exit 0, ⟨[.any, .int .i64 y, .any, .any], [], [], true⟩)
  | .inr y => (.ret, ⟨[.any, .any, .int .i64 y, .any], [], [], true⟩)
theorem laws_heldFaultS_l1_ex {a : List Fault} {sgm_ : Int × Int} {rho_ : Int ⊕ Int} (h : whileE (laws_heldFaultS_l1 a) sgm_ = some rho_) : ∃ L0, ∀ L, L0 ≤ L → iter (exec (look t_laws_heldFaultS) L ir25_b0) ir25_k0 ir25_o0 ir25_r0 L (E_laws_heldFaultS_l1 a sgm_) = R_laws_heldFaultS_l1 a rho_ := by
  refine loop_ex (E := E_laws_heldFaultS_l1 a) (R := R_laws_heldFaultS_l1 a) (fun y => by first | (intro c; cases c) | (rcases y with y | y <;> (intro c; cases c)) | (rcases y with y | y | y <;> (intro c; cases c))) ?_ h
  clear h
  rintro ⟨k, i⟩ o_ h
  dsimp only [laws_heldFaultS_l1] at h
  rcases it_some h with ⟨hk1, h⟩ | ⟨hk1, h⟩
  · try simp only [go_sem, n1, n2, n3, n4] at hk1
    all_goals
    obtain ⟨hk2, h⟩ := ck_some h
    have lhk2 := ix_lt hk2
    have xhk2 := getD_mapD Fault_av a lhk2
    try simp only [go_sem] at lhk2
    try simp only [go_sem] at xhk2
    try simp only [go_sem, n1, n2, n3, n4, hk1] at hk2
    all_goals
    rcases it_some h with ⟨hk3, h⟩ | ⟨hk3, h⟩
    · try simp only [go_sem, n1, n2, n3, n4, hk1, hk2] at hk3
      all_goals
      obtain rfl := so_some h
      refine ⟨0, fun L hL => ?_⟩
      simp only [go_sem, ir25, E_laws_heldFaultS_l1, R_laws_heldFaultS_l1, ir25_b0, ir25_k0, ir25_o0, ir25_r0, hk1, hk2, lhk2, xhk2, hk3]
    · try simp only [go_sem, n1, n2, n3, n4, hk1, hk2] at hk3
      all_goals
      rcases it_some h with ⟨hk4, h⟩ | ⟨hk4, h⟩
      · try simp only [go_sem, n1, n2, n3, n4, hk1, hk2, hk3] at hk4
        all_goals
        obtain rfl := so_some h
        refine ⟨0, fun L hL => ?_⟩
        simp only [go_sem, ir25, E_laws_heldFaultS_l1, R_laws_heldFaultS_l1, ir25_b0, ir25_k0, ir25_o0, ir25_r0, hk1, hk2, lhk2, xhk2, hk3, hk4]
      · try simp only [go_sem, n1, n2, n3, n4, hk1, hk2, hk3] at hk4
        all_goals
        obtain rfl := so_some h
        refine ⟨0, fun L hL => ?_⟩
        simp only [go_sem, ir25, E_laws_heldFaultS_l1, R_laws_heldFaultS_l1, ir25_b0, ir25_k0, ir25_o0, ir25_r0, hk1, hk2, lhk2, xhk2, hk3, hk4]
  · try simp only [go_sem, n1, n2, n3, n4] at hk1
    all_goals
    obtain rfl := so_some h
    refine ⟨0, fun L hL => ?_⟩
    simp only [go_sem, ir25, E_laws_heldFaultS_l1, R_laws_heldFaultS_l1, ir25_b0, ir25_k0, ir25_o0, ir25_r0, hk1]

theorem Fs_laws_heldFaultS {a : List Fault} {k : Int} {y_ : Int} (h : laws_heldFaultS a k = some y_) : c_laws_heldFaultS.F [.sl 2 (List.map Fault_av a), .int .i64 k] = ⟨true, .int .i64 y_, [.any, .any]⟩ := by
  refine mkF_E rfl ?_
  dsimp only [laws_heldFaultS] at h
  obtain ⟨y_5, hk5, h⟩ := bd_some h
  obtain ⟨Lhk5, ehk5⟩ := laws_heldFaultS_l1_ex hk5
  rcases y_5 with y_5a | y_5b
  · dsimp only at h
    obtain rfl := so_some h
    refine ⟨Lhk5, fun L hL => ?_⟩
    have ehk5 := ehk5 L (by omega)
    try simp only [go_sem, E_laws_heldFaultS_l1, R_laws_heldFaultS_l1, ir25_k0, ir25_o0, ir25_r0] at ehk5
    simp only [go_sem, ir25, E_laws_heldFaultS_l1, R_laws_heldFaultS_l1, ir25_k0, ir25_o0, ir25_r0, ehk5]
  · dsimp only at h
    obtain rfl := so_some h
    refine ⟨Lhk5, fun L hL => ?_⟩
    have ehk5 := ehk5 L (by omega)
    try simp only [go_sem, E_laws_heldFaultS_l1, R_laws_heldFaultS_l1, ir25_k0, ir25_o0, ir25_r0] at ehk5
    simp only [go_sem, ir25, E_laws_heldFaultS_l1, R_laws_heldFaultS_l1, ir25_k0, ir25_o0, ir25_r0, ehk5]


def ir6_v : List Nat := [0, 1, 4, 5, 6, 7, 8, 9, 10, 11, 12, 13, 14, 15, 16]
def ir6 : AFn := ⟨2, 15, .seq (.region false [
    ⟨.var 2, 4, none, .mov (.c (.bool false))⟩])
 (.seq (.region false [
    ⟨.var 3, 5, none, .mov (.c (.int .i64 (1048576)))⟩])
 (.seq (.region false [
    ⟨.push, 17, none, .mov (.v 0)⟩,
    ⟨.push, 18, none, .mov (.v 3)⟩,
    ⟨.push, 19, none, .call 17 [(.s 1), (.s 0)]⟩,
    ⟨.var 3, 5, none, .mov (.s 0)⟩])
 (.seq (.test false [
    ⟨.push, 20, none, .mov (.v 3)⟩,
    ⟨.push, 21, none, .bin false .lss (.s 0) (.c (.int .i64 (0)))⟩] (.s 0)
  (.seq (.region false [
      ⟨.var 2, 4, none, .mov (.c (.bool true))⟩])
   (.ret))
  (.skip))
 (.seq (.region false [
    ⟨.push, 22, none, .mov (.v 1)⟩,
    ⟨.push, 23, none, .mov (.v 3)⟩,
    ⟨.push, 24, none, .call 17 [(.s 1), (.s 0)]⟩,
    ⟨.var 3, 5, none, .mov (.s 0)⟩])
 (.seq (.test false [
    ⟨.push, 25, none, .mov (.v 3)⟩,
    ⟨.push, 26, none, .bin false .lss (.s 0) (.c (.int .i64 (0)))⟩] (.s 0)
  (.seq (.region false [
      ⟨.var 2, 4, none, .mov (.c (.bool true))⟩])
   (.ret))
  (.skip))
 (.seq (.region false [
    ⟨.push, 28, none, .mov (.v 0)⟩,
    ⟨.push, 29, none, .call 19 [(.s 0)]⟩,
    ⟨.push, 30, none, .mov (.v 1)⟩,
    ⟨.push, 31, none, .call 19 [(.s 0)]⟩,
    ⟨.push, 32, none, .call 23 [(.s 2), (.s 0)]⟩,
    ⟨.push, 27, none, .mov (.s 0)⟩,
    ⟨.push, 33, none, .ext (.s 0) 0⟩,
    ⟨.push, 34, none, .ext (.s 1) 1⟩,
    ⟨.var 4, 6, none, .mov (.s 1)⟩,
    ⟨.var 5, 7, none, .mov (.s 0)⟩])
 (.seq (.region false [
    ⟨.push, 35, none, .mov (.v 0)⟩,
    ⟨.push, 36, none, .call 19 [(.s 0)]⟩,
    ⟨.var 6, 8, none, .mov (.s 0)⟩])
 (.seq (.region false [
    ⟨.push, 37, none, .mov (.v 1)⟩,
    ⟨.push, 38, none, .call 19 [(.s 0)]⟩,
    ⟨.var 7, 9, none, .mov (.s 0)⟩])
 (.seq (.region false [
    ⟨.push, 40, none, .mov (.v 6)⟩,
    ⟨.push, 41, none, .mov (.v 7)⟩,
    ⟨.push, 42, none, .call 24 [(.s 1), (.s 0)]⟩,
    ⟨.push, 39, none, .mov (.s 0)⟩,
    ⟨.push, 43, none, .ext (.s 0) 0⟩,
    ⟨.push, 44, none, .ext (.s 1) 1⟩,
    ⟨.var 8, 10, none, .mov (.s 1)⟩,
    ⟨.var 9, 11, none, .mov (.s 0)⟩])
 (.seq (.test false [
    ⟨.push, 45, none, .mov (.v 8)⟩,
    ⟨.push, 46, none, .mov (.v 4)⟩,
    ⟨.push, 47, none, .call 21 [(.s 1), (.s 0)]⟩,
    ⟨.push, 48, none, .un .not (.s 0)⟩,
    ⟨.push, 49, none, .mov (.s 0)⟩,
    ⟨.push, 50, (some ((.s 0), false)), .mov (.v 9)⟩,
    ⟨.push, 51, (some ((.s 1), false)), .mov (.v 5)⟩,
    ⟨.push, 52, (some ((.s 2), false)), .bin false .neq (.s 1) (.s 0)⟩,
    ⟨.push, 53, none, .pick (.s 3) (.c (.bool true)) (.s 0)⟩] (.s 0)
  (.seq (.region false [
      ⟨.var 2, 4, none, .mov (.c (.bool false))⟩])
   (.ret))
  (.skip))
 (.seq (.test false [
    ⟨.push, 54, none, .mov (.v 6)⟩,
    ⟨.push, 55, none, .mov (.v 0)⟩,
    ⟨.push, 56, none, .call 19 [(.s 0)]⟩,
    ⟨.push, 57, none, .call 21 [(.s 2), (.s 0)]⟩,
    ⟨.push, 58, none, .un .not (.s 0)⟩] (.s 0)
  (.seq (.region false [
      ⟨.var 2, 4, none, .mov (.c (.bool false))⟩])
   (.ret))
  (.skip))
 (.seq (.test false [
    ⟨.push, 59, none, .mov (.v 7)⟩,
    ⟨.push, 60, none, .mov (.v 1)⟩,
    ⟨.push, 61, none, .call 19 [(.s 0)]⟩,
    ⟨.push, 62, none, .call 21 [(.s 2), (.s 0)]⟩,
    ⟨.push, 63, none, .un .not (.s 0)⟩] (.s 0)
  (.seq (.region false [
      ⟨.var 2, 4, none, .mov (.c (.bool false))⟩])
   (.ret))
  (.skip))
 (.seq (.region false [
    ⟨.var 10, 12, none, .mov (.c (.int .i64 (1)))⟩])
 (.seq (.region false [
    ⟨.push, 64, none, .mov (.v 6)⟩,
    ⟨.push, 65, none, .mov (.v 10)⟩,
    ⟨.push, 66, none, .call 22 [(.s 1), (.s 0)]⟩,
    ⟨.var 10, 12, none, .mov (.s 0)⟩])
 (.seq (.region false [
    ⟨.push, 67, none, .mov (.v 7)⟩,
    ⟨.push, 68, none, .mov (.v 10)⟩,
    ⟨.push, 69, none, .call 22 [(.s 1), (.s 0)]⟩,
    ⟨.var 10, 12, none, .mov (.s 0)⟩])
 (.seq (.test false [
    ⟨.push, 70, none, .mov (.v 10)⟩,
    ⟨.push, 71, none, .bin false .lss (.s 0) (.c (.int .i64 (0)))⟩,
    ⟨.push, 72, none, .mov (.s 0)⟩,
    ⟨.push, 73, (some ((.s 0), false)), .mov (.v 8)⟩,
    ⟨.push, 74, (some ((.s 1), false)), .mov (.v 4)⟩,
    ⟨.push, 75, (some ((.s 2), false)), .call 21 [(.s 1), (.s 0)]⟩,
    ⟨.push, 76, (some ((.s 3), false)), .un .not (.s 0)⟩,
    ⟨.push, 77, none, .pick (.s 4) (.c (.bool true)) (.s 0)⟩,
    ⟨.push, 78, none, .mov (.s 0)⟩,
    ⟨.push, 79, (some ((.s 0), false)), .mov (.v 9)⟩,
    ⟨.push, 80, (some ((.s 1), false)), .mov (.v 5)⟩,
    ⟨.push, 81, (some ((.s 2), false)), .bin false .neq (.s 1) (.s 0)⟩,
    ⟨.push, 82, none, .pick (.s 3) (.c (.bool true)) (.s 0)⟩] (.s 0)
  (.seq (.region false [
      ⟨.var 2, 4, none, .mov (.c (.bool false))⟩])
   (.ret))
  (.skip))
 (.seq (.region false [
    ⟨.var 11, 13, none, .mov (.c (.int .i64 (1)))⟩])
 (.seq (.region false [
    ⟨.push, 83, none, .mov (.v 8)⟩,
    ⟨.push, 84, none, .mov (.v 11)⟩,
    ⟨.push, 85, none, .call 22 [(.s 1), (.s 0)]⟩,
    ⟨.var 11, 13, none, .mov (.s 0)⟩])
 (.seq (.region false [
    ⟨.var 12, 14, none, .mov (.c (.int .i64 (1)))⟩])
 (.seq (.region false [
    ⟨.push, 86, none, .mov (.v 8)⟩,
    ⟨.push, 87, none, .mov (.v 12)⟩,
    ⟨.push, 88, none, .call 25 [(.s 1), (.s 0)]⟩,
    ⟨.var 12, 14, none, .mov (.s 0)⟩])
 (.seq (.test false [
    ⟨.push, 89, none, .mov (.v 12)⟩,
    ⟨.push, 90, none, .bin false .lss (.s 0) (.c (.int .i64 (0)))⟩] (.s 0)
  (.seq (.region false [
      ⟨.var 2, 4, none, .mov (.c (.bool false))⟩])
   (.ret))
  (.skip))
 (.seq (.test false [
    ⟨.push, 91, none, .mov (.v 12)⟩,
    ⟨.push, 92, none, .mov (.v 11)⟩,
    ⟨.push, 93, none, .bin false .neq (.s 1) (.s 0)⟩] (.s 0)
  (.seq (.region false [
      ⟨.var 2, 4, none, .mov (.c (.bool false))⟩])
   (.ret))
  (.skip))
 (.seq (.region false [
    ⟨.push, 95, none, .mov (.v 0)⟩,
    ⟨.push, 96, none, .call 19 [(.s 0)]⟩,
    ⟨.push, 97, none, .mov (.v 1)⟩,
    ⟨.push, 98, none, .call 19 [(.s 0)]⟩,
    ⟨.push, 99, none, .call 24 [(.s 2), (.s 0)]⟩,
    ⟨.push, 94, none, .mov (.s 0)⟩,
    ⟨.push, 100, none, .ext (.s 0) 0⟩,
    ⟨.push, 101, none, .ext (.s 1) 1⟩,
    ⟨.var 13, 15, none, .mov (.s 1)⟩,
    ⟨.var 14, 16, none, .mov (.s 0)⟩])
 (.seq (.test false [
    ⟨.push, 102, none, .mov (.v 13)⟩,
    ⟨.push, 103, none, .mov (.v 4)⟩,
    ⟨.push, 104, none, .call 21 [(.s 1), (.s 0)]⟩,
    ⟨.push, 105, none, .un .not (.s 0)⟩,
    ⟨.push, 106, none, .mov (.s 0)⟩,
    ⟨.push, 107, (some ((.s 0), false)), .mov (.v 14)⟩,
    ⟨.push, 108, (some ((.s 1), false)), .mov (.v 5)⟩,
    ⟨.push, 109, (some ((.s 2), false)), .bin false .neq (.s 1) (.s 0)⟩,
    ⟨.push, 110, none, .pick (.s 3) (.c (.bool true)) (.s 0)⟩] (.s 0)
  (.seq (.region false [
      ⟨.var 2, 4, none, .mov (.c (.bool false))⟩])
   (.ret))
  (.skip))
 (.seq (.region false [
    ⟨.var 12, 14, none, .mov (.c (.int .i64 (1)))⟩])
 (.seq (.region false [
    ⟨.push, 111, none, .mov (.v 8)⟩,
    ⟨.push, 112, none, .mov (.v 12)⟩,
    ⟨.push, 113, none, .call 25 [(.s 1), (.s 0)]⟩,
    ⟨.var 12, 14, none, .mov (.s 0)⟩])
 (.seq (.test false [
    ⟨.push, 114, none, .mov (.v 12)⟩,
    ⟨.push, 115, none, .bin false .lss (.s 0) (.c (.int .i64 (0)))⟩] (.s 0)
  (.seq (.region false [
      ⟨.var 2, 4, none, .mov (.c (.bool false))⟩])
   (.ret))
  (.skip))
 (.seq (.test false [
    ⟨.push, 116, none, .mov (.v 12)⟩,
    ⟨.push, 117, none, .mov (.v 11)⟩,
    ⟨.push, 118, none, .bin false .neq (.s 1) (.s 0)⟩] (.s 0)
  (.seq (.region false [
      ⟨.var 2, 4, none, .mov (.c (.bool false))⟩])
   (.ret))
  (.skip))
 (.seq (.region false [
    ⟨.var 2, 4, none, .mov (.c (.bool true))⟩])
 (.ret)))))))))))))))))))))))))))))), [.t 2]⟩
noncomputable def t_laws_FnExactNewFaults : List (Nat × Ctr) := [(17, c_laws_szFaultS), (19, c_laws_toFaultS), (23, c_spec_NewFaults), (24, c_impl_NewFaults), (21, c_laws_eqFaultS), (22, c_laws_markFaultS), (25, c_laws_heldFaultS)]
theorem lk_laws_FnExactNewFaults_17 : look t_laws_FnExactNewFaults 17 = some c_laws_szFaultS := rfl
theorem lk_laws_FnExactNewFaults_19 : look t_laws_FnExactNewFaults 19 = some c_laws_toFaultS := rfl
theorem lk_laws_FnExactNewFaults_23 : look t_laws_FnExactNewFaults 23 = some c_spec_NewFaults := rfl
theorem lk_laws_FnExactNewFaults_24 : look t_laws_FnExactNewFaults 24 = some c_impl_NewFaults := rfl
theorem lk_laws_FnExactNewFaults_21 : look t_laws_FnExactNewFaults 21 = some c_laws_eqFaultS := rfl
theorem lk_laws_FnExactNewFaults_22 : look t_laws_FnExactNewFaults 22 = some c_laws_markFaultS := rfl
theorem lk_laws_FnExactNewFaults_25 : look t_laws_FnExactNewFaults 25 = some c_laws_heldFaultS := rfl
noncomputable def c_laws_FnExactNewFaults : Ctr := mkF t_laws_FnExactNewFaults ir6 [.bor, .bor]
theorem s_laws_FnExactNewFaults : Sound Try.prog 6 c_laws_FnExactNewFaults := mkF_sound _ rfl (snd_cons s_laws_szFaultS (snd_cons s_laws_toFaultS (snd_cons s_spec_NewFaults (snd_cons s_impl_NewFaults (snd_cons s_laws_eqFaultS (snd_cons s_laws_markFaultS (snd_cons s_laws_heldFaultS snd_nil))))))) (by kernel_rfl : chkFn Try.prog 6 ir6 ir6_v = true)
theorem M_laws_FnExactNewFaults : c_laws_FnExactNewFaults.modes = [.bor, .bor] := rfl
theorem Fl_laws_FnExactNewFaults : c_laws_FnExactNewFaults.flat = true := rfl
attribute [go_sem] M_laws_FnExactNewFaults Fl_laws_FnExactNewFaults
attribute [go_sem] lk_laws_FnExactNewFaults_17 lk_laws_FnExactNewFaults_19 lk_laws_FnExactNewFaults_23 lk_laws_FnExactNewFaults_24 lk_laws_FnExactNewFaults_21 lk_laws_FnExactNewFaults_22 lk_laws_FnExactNewFaults_25
theorem Fs_laws_FnExactNewFaults {aBefore : List Fault} {aNow : List Fault} {y_ : Bool} (h : laws_FnExactNewFaults aBefore aNow = some y_) : c_laws_FnExactNewFaults.F [.sl 2 (List.map Fault_av aBefore), .sl 2 (List.map Fault_av aNow)] = ⟨true, .bool y_, [.any, .any]⟩ := by
  refine mkF_E rfl ?_
  dsimp only [laws_FnExactNewFaults] at h
  obtain ⟨y_1, hk1, h⟩ := bd_some h
  have fhk1 := Fs_laws_szFaultS hk1
  try simp only [go_sem] at fhk1
  rcases it_some h with ⟨hk2, h⟩ | ⟨hk2, h⟩
  · try simp only [go_sem, n1, n2, n3, n4] at hk2
    all_goals
    obtain rfl := so_some h
    refine ⟨0, fun L hL => ?_⟩
    simp only [go_sem, ir6, fhk1, hk2]
  · try simp only [go_sem, n1, n2, n3, n4] at hk2
    all_goals
    obtain ⟨y_3, hk3, h⟩ := bd_some h
    have fhk3 := Fs_laws_szFaultS hk3
    try simp only [go_sem] at fhk3
    rcases it_some h with ⟨hk4, h⟩ | ⟨hk4, h⟩
    · try simp only [go_sem, n1, n2, n3, n4, hk2] at hk4
      all_goals
      obtain rfl := so_some h
      refine ⟨0, fun L hL => ?_⟩
      simp only [go_sem, ir6, fhk1, hk2, fhk3, hk4]
    · try simp only [go_sem, n1, n2, n3, n4, hk2] at hk4
      all_goals
      obtain ⟨y_5, hk5, h⟩ := bd_some h
      have fhk5 := Fs_laws_toFaultS hk5
      try simp only [go_sem] at fhk5
      obtain ⟨y_6, hk6, h⟩ := bd_some h
      have fhk6 := Fs_laws_toFaultS hk6
      try simp only [go_sem] at fhk6
      obtain ⟨y_7, hk7, h⟩ := bd_some h
      have fhk7 := Fs_spec_NewFaults hk7
      try simp only [go_sem] at fhk7
      obtain ⟨y_8, hk8, h⟩ := bd_some h
      have fhk8 := Fs_impl_NewFaults hk8
      try simp only [go_sem] at fhk8
      obtain ⟨y_9, hk9, h⟩ := bd_some h
      have fhk9 := Fs_laws_eqFaultS hk9
      try simp only [go_sem] at fhk9
      rcases it_some h with ⟨hk10, h⟩ | ⟨hk10, h⟩
      · try simp only [go_sem, n1, n2, n3, n4, hk2, hk4] at hk10
        all_goals
        obtain rfl := so_some h
        refine ⟨0, fun L hL => ?_⟩
        simp only [go_sem, ir6, fhk1, hk2, fhk3, hk4, fhk5, fhk6, fhk7, fhk8, fhk9, hk10]
      · try simp only [go_sem, n1, n2, n3, n4, hk2, hk4] at hk10
        all_goals
        obtain ⟨y_11, hk11, h⟩ := bd_some h
        have fhk11 := Fs_laws_eqFaultS hk11
        try simp only [go_sem] at fhk11
        rcases it_some h with ⟨hk12, h⟩ | ⟨hk12, h⟩
        · try simp only [go_sem, n1, n2, n3, n4, hk2, hk4, hk10] at hk12
          all_goals
          obtain rfl := so_some h
          refine ⟨0, fun L hL => ?_⟩
          simp only [go_sem, ir6, fhk1, hk2, fhk3, hk4, fhk5, fhk6, fhk7, fhk8, fhk9, hk10, fhk11, hk12]
        · try simp only [go_sem, n1, n2, n3, n4, hk2, hk4, hk10] at hk12
          all_goals
          obtain ⟨y_13, hk13, h⟩ := bd_some h
          have fhk13 := Fs_laws_eqFaultS hk13
          try simp only [go_sem] at fhk13
          rcases it_some h with ⟨hk14, h⟩ | ⟨hk14, h⟩
          · try simp only [go_sem, n1, n2, n3, n4, hk2, hk4, hk10, hk12] at hk14
            all_goals
            obtain rfl := so_some h
            refine ⟨0, fun L hL => ?_⟩
            simp only [go_sem, ir6, fhk1, hk2, fhk3, hk4, fhk5, fhk6, fhk7, fhk8, fhk9, hk10, fhk11, hk12, fhk13, hk14]
          · try simp only [go_sem, n1, n2, n3, n4, hk2, hk4, hk10, hk12] at hk14
            all_goals
            obtain ⟨y_15, hk15, h⟩ := bd_some h
            have fhk15 := Fs_laws_markFaultS hk15
            try simp only [go_sem] at fhk15
            obtain ⟨y_16, hk16, h⟩ := bd_some h
            have fhk16 := Fs_laws_markFaultS hk16
            try simp only [go_sem] at fhk16
            rcases it_some h with ⟨hk18, h⟩ | ⟨hk18, h⟩
            · try simp only [go_sem, n1, n2, n3, n4, hk2, hk4, hk10, hk12, hk14] at hk18
              all_goals
              obtain rfl := so_some h
              refine ⟨0, fun L hL => ?_⟩
              simp only [go_sem, ir6, fhk1, hk2, fhk3, hk4, fhk5, fhk6, fhk7, fhk8, fhk9, hk10, fhk11, hk12, fhk13, hk14, fhk15, fhk16, hk18]
            · try simp only [go_sem, n1, n2, n3, n4, hk2, hk4, hk10, hk12, hk14] at hk18
              all_goals
              obtain ⟨y_19, hk19, h⟩ := bd_some h
              have fhk19 := Fs_laws_markFaultS hk19
              try simp only [go_sem] at fhk19
              obtain ⟨y_20, hk20, h⟩ := bd_some h
              have fhk20 := Fs_laws_heldFaultS hk20
              try simp only [go_sem] at fhk20
              rcases it_some h with ⟨hk21, h⟩ | ⟨hk21, h⟩
              · try simp only [go_sem, n1, n2, n3, n4, hk2, hk4, hk10, hk12, hk14, hk18] at hk21
                all_goals
                obtain rfl := so_some h
                refine ⟨0, fun L hL => ?_⟩
                simp only [go_sem, ir6, fhk1, hk2, fhk3, hk4, fhk5, fhk6, fhk7, fhk8, fhk9, hk10, fhk11, hk12, fhk13, hk14, fhk15, fhk16, hk18, fhk19, fhk20, hk21]
              · try simp only [go_sem, n1, n2, n3, n4, hk2, hk4, hk10, hk12, hk14, hk18] at hk21
                all_goals
                rcases it_some h with ⟨hk22, h⟩ | ⟨hk22, h⟩
                · try simp only [go_sem, n1, n2, n3, n4, hk2, hk4, hk10, hk12, hk14, hk18, hk21] at hk22
                  all_goals
                  obtain rfl := so_some h
                  refine ⟨0, fun L hL => ?_⟩
                  simp only [go_sem, ir6, fhk1, hk2, fhk3, hk4, fhk5, fhk6, fhk7, fhk8, fhk9, hk10, fhk11, hk12, fhk13, hk14, fhk15, fhk16, hk18, fhk19, fhk20, hk21, hk22]
                · try simp only [go_sem, n1, n2, n3, n4, hk2, hk4, hk10, hk12, hk14, hk18, hk21] at hk22
                  all_goals
                  obtain rfl := so_some h
                  refine ⟨0, fun L hL => ?_⟩
                  simp only [go_sem, ir6, fhk1, hk2, fhk3, hk4, fhk5, fhk6, fhk7, fhk8, fhk9, hk10, fhk11, hk12, fhk13, hk14, fhk15, fhk16, hk18, fhk19, fhk20, hk21, hk22]


end Go.Proofs.Ytomdepgilgkpaaa
