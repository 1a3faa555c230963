/- Codes and contracts of the functions that A3 reaches, and that their typed forms say what they do. No condition. -/
import Derived.Test.YtomdepgilgkpaaaR3T
import Derived.Test.YtomdepgilgkpaaaRows
import Derived.WalkKit
namespace Go.Proofs.Ytomdepgilgkpaaa
open Go Go.RowKit
set_option linter.unusedVariables false
set_option linter.unusedSimpArgs false
set_option maxRecDepth 10000

def ir26_b0 : IR := .seq (.test false [
    ⟨.push, 5, none, .mov (.v 0)⟩,
    ⟨.push, 6, none, .bin false .geq (.s 0) (.c (.int .i64 (128)))⟩] (.s 0)
  (.skip)
  (.exit 0))
 (.block 1 (.seq (.region false [
     ⟨.push, 7, none, .mov (.v 2)⟩,
     ⟨.push, 8, none, .mov (.v 0)⟩,
     ⟨.push, 9, none, .bin false .rem (.s 0) (.c (.int .i64 (128)))⟩,
     ⟨.push, 10, none, .bin false .add (.s 0) (.c (.int .i64 (128)))⟩,
     ⟨.push, 11, none, .conv .u8 (.s 0)⟩,
     ⟨.push, 12, none, .mkSl 1 (.int .u8 (0)) 1 [(0, (.s 0))]⟩,
     ⟨.push, 13, none, .app 1 1 (.int .u8 (0)) (.s 5) (.s 0)⟩,
     ⟨.var 2, 3, none, .mov (.s 0)⟩])
  (.region false [
    ⟨.push, 14, none, .mov (.v 0)⟩,
    ⟨.push, 15, none, .bin false .quo (.s 0) (.c (.int .i64 (128)))⟩,
    ⟨.var 0, 0, none, .mov (.s 0)⟩])))
def ir26_k0 : List Bool := [true, false, true]
def ir26_o0 : List Bool := [true, false, true]
def ir26_r0 : List Bool := [false, true, false]
def ir26_v : List Nat := [0, 2, 3]
def ir26 : AFn := ⟨1, 3, .seq (.region false [
    ⟨.var 1, 2, none, .newnil 1⟩])
 (.seq (.region false [
    ⟨.push, 4, none, .mkSl 1 (.int .u8 (0)) 0 []⟩,
    ⟨.var 2, 3, none, .mov (.s 0)⟩])
 (.seq (.block 0 (.loop ir26_k0 ir26_o0 ir26_r0 ir26_b0))
 (.seq (.region false [
    ⟨.push, 16, none, .mov (.v 2)⟩,
    ⟨.push, 17, none, .mov (.v 0)⟩,
    ⟨.push, 18, none, .conv .u8 (.s 0)⟩,
    ⟨.push, 19, none, .mkSl 1 (.int .u8 (0)) 1 [(0, (.s 0))]⟩,
    ⟨.push, 20, none, .app 1 1 (.int .u8 (0)) (.s 3) (.s 0)⟩,
    ⟨.var 1, 2, none, .mov (.s 0)⟩])
 (.ret)))), [.t 1]⟩
noncomputable def t_spec_l25Number : List (Nat × Ctr) := []
noncomputable def c_spec_l25Number : Ctr := mkF t_spec_l25Number ir26 [.bor]
theorem s_spec_l25Number : Sound Try.prog 26 c_spec_l25Number := mkF_sound _ rfl snd_nil (by kernel_rfl : chkFn Try.prog 26 ir26 ir26_v = true)
theorem M_spec_l25Number : c_spec_l25Number.modes = [.bor] := rfl
theorem Fl_spec_l25Number : c_spec_l25Number.flat = true := rfl
attribute [go_sem] M_spec_l25Number Fl_spec_l25Number
def E_spec_l25Number_l1  : (Int × (List UInt8)) → St
  | (n, out) => ⟨[.int .i64 n, .any, .own 3200000], [], [(3200000, ⟨1, List.map byteAV out⟩)], true⟩
def R_spec_l25Number_l1  (y : Int × (List UInt8)) : Res := (.exit 0, ⟨[.int .i64 y.1, .any, .own 3200000], [], [(3200000, ⟨1, List.map byteAV y.2⟩)], true⟩)
theorem spec_l25Number_l1_ex  {sgm_ : Int × (List UInt8)} {rho_ : Int × (List UInt8)} (h : whileE (spec_l25Number_l1) sgm_ = some rho_) : ∃ L0, ∀ L, L0 ≤ L → iter (exec (look t_spec_l25Number) L ir26_b0) ir26_k0 ir26_o0 ir26_r0 L (E_spec_l25Number_l1 sgm_) = R_spec_l25Number_l1 rho_ := by
  refine loop_ex (E := E_spec_l25Number_l1) (R := R_spec_l25Number_l1) (fun y => by first | (intro c; cases c) | (rcases y with y | y <;> (intro c; cases c)) | (rcases y with y | y | y <;> (intro c; cases c))) ?_ h
  clear h
  rintro ⟨n, out⟩ o_ h
  dsimp only [spec_l25Number_l1] at h
  rcases it_some h with ⟨hk1, h⟩ | ⟨hk1, h⟩
  · try simp only [go_sem, n1, n2, n3, n4] at hk1
    all_goals
    obtain ⟨hk2, h⟩ := ck_some h
    try simp only [go_sem, n1, n2, n3, n4, hk1] at hk2
    all_goals
    obtain ⟨hk3, h⟩ := ck_some h
    try simp only [go_sem, n1, n2, n3, n4, hk1, hk2] at hk3
    all_goals
    obtain rfl := so_some h
    refine ⟨0, fun L hL => ?_⟩
    simp only [go_sem, ir26, E_spec_l25Number_l1, R_spec_l25Number_l1, ir26_b0, ir26_k0, ir26_o0, ir26_r0, hk1, hk2, hk3]
  · try simp only [go_sem, n1, n2, n3, n4] at hk1
    all_goals
    obtain rfl := so_some h
    refine ⟨0, fun L hL => ?_⟩
    simp only [go_sem, ir26, E_spec_l25Number_l1, R_spec_l25Number_l1, ir26_b0, ir26_k0, ir26_o0, ir26_r0, hk1]

theorem Fs_spec_l25Number {n : Int} {y_ : (List UInt8)} (h : spec_l25Number n = some y_) : c_spec_l25Number.F [.int .i64 n] = ⟨true, .fresh 1 (List.map byteAV y_), [.any]⟩ := by
  refine mkF_E (by simp only [flatA, flatB, flat1, List.all_cons, List.all_nil, Bool.and_self, flatE_map (f := byteAV) (fun _ => rfl)]) ?_
  dsimp only [spec_l25Number] at h
  obtain ⟨y_4, hk4, h⟩ := bd_some h
  obtain ⟨Lhk4, ehk4⟩ := spec_l25Number_l1_ex hk4
  obtain ⟨hk5, h⟩ := ck_some h
  try simp only [go_sem, n1, n2, n3, n4] at hk5
  all_goals
  obtain rfl := so_some h
  refine ⟨Lhk4, fun L hL => ?_⟩
  have ehk4 := ehk4 L (by omega)
  try simp only [go_sem, E_spec_l25Number_l1, R_spec_l25Number_l1, ir26_k0, ir26_o0, ir26_r0] at ehk4
  simp only [go_sem, ir26, E_spec_l25Number_l1, R_spec_l25Number_l1, ir26_k0, ir26_o0, ir26_r0, hk5, ehk4]


def ir7_v : List Nat := [0, 2, 3]
def ir7 : AFn := ⟨1, 3, .seq (.region false [
    ⟨.var 1, 2, none, .newnil 1⟩,
    ⟨.var 2, 3, none, .mov (.c (.int .i64 (0)))⟩])
 (.seq (.test false [
    ⟨.push, 4, none, .mov (.v 0)⟩,
    ⟨.push, 5, none, .bin false .lss (.s 0) (.c (.int .i64 (0)))⟩] (.s 0)
  (.seq (.region false [
      ⟨.var 1, 2, none, .newnil 1⟩,
      ⟨.var 2, 3, none, .mov (.c (.int .i64 (2)))⟩])
   (.ret))
  (.skip))
 (.seq (.region false [
    ⟨.push, 6, none, .mov (.v 0)⟩,
    ⟨.push, 7, none, .call 26 [(.s 0)]⟩,
    ⟨.var 1, 2, none, .mov (.s 0)⟩,
    ⟨.var 2, 3, none, .mov (.c (.int .i64 (0)))⟩])
 (.ret))), [.t 1, .t 2]⟩
noncomputable def t_spec_NumberBytes : List (Nat × Ctr) := [(26, c_spec_l25Number)]
theorem lk_spec_NumberBytes_26 : look t_spec_NumberBytes 26 = some c_spec_l25Number := rfl
noncomputable def c_spec_NumberBytes : Ctr := mkF t_spec_NumberBytes ir7 [.bor]
theorem s_spec_NumberBytes : Sound Try.prog 7 c_spec_NumberBytes := mkF_sound _ rfl (snd_cons s_spec_l25Number snd_nil) (by kernel_rfl : chkFn Try.prog 7 ir7 ir7_v = true)
theorem M_spec_NumberBytes : c_spec_NumberBytes.modes = [.bor] := rfl
theorem Fl_spec_NumberBytes : c_spec_NumberBytes.flat = true := rfl
attribute [go_sem] M_spec_NumberBytes Fl_spec_NumberBytes
attribute [go_sem] lk_spec_NumberBytes_26
theorem Fs_spec_NumberBytes {n : Int} {y_ : (List UInt8) × Int} (h : spec_NumberBytes n = some y_) : c_spec_NumberBytes.F [.int .i64 n] = ⟨true, .tup [.fresh 1 (List.map byteAV y_.1), .int .i64 y_.2], [.any]⟩ := by
  refine mkF_E (by simp only [flatA, flatB, flat1, List.all_cons, List.all_nil, Bool.and_self, flatE_map (f := byteAV) (fun _ => rfl)]) ?_
  dsimp only [spec_NumberBytes] at h
  rcases it_some h with ⟨hk1, h⟩ | ⟨hk1, h⟩
  · try simp only [go_sem, n1, n2, n3, n4] at hk1
    all_goals
    obtain rfl := so_some h
    refine ⟨0, fun L hL => ?_⟩
    simp only [go_sem, ir7, hk1]
  · try simp only [go_sem, n1, n2, n3, n4] at hk1
    all_goals
    obtain ⟨y_2, hk2, h⟩ := bd_some h
    have fhk2 := Fs_spec_l25Number hk2
    try simp only [go_sem] at fhk2
    obtain rfl := so_some h
    refine ⟨0, fun L hL => ?_⟩
    simp only [go_sem, ir7, hk1, fhk2]


def ir27_b0 : IR := .seq (.test false [
    ⟨.push, 5, none, .mov (.v 1)⟩,
    ⟨.push, 6, none, .bin false .geq (.s 0) (.c (.int .i64 (128)))⟩] (.s 0)
  (.skip)
  (.exit 0))
 (.seq (.block 1 (.region false [
     ⟨.push, 9, none, .mov (.v 0)⟩,
     ⟨.push, 10, none, .mov (.v 1)⟩,
     ⟨.push, 11, none, .bin false .rem (.s 0) (.c (.int .i64 (128)))⟩,
     ⟨.push, 12, none, .bin false .add (.s 0) (.c (.int .i64 (128)))⟩,
     ⟨.push, 13, none, .conv .u8 (.s 0)⟩,
     ⟨.push, 14, none, .mkSl 1 (.int .u8 (0)) 1 [(0, (.s 0))]⟩,
     ⟨.push, 15, none, .app 1 1 (.int .u8 (0)) (.s 5) (.s 0)⟩,
     ⟨.var 0, 0, none, .mov (.s 0)⟩]))
 (.region false [
   ⟨.push, 7, none, .mov (.v 1)⟩,
   ⟨.push, 8, none, .bin false .quo (.s 0) (.c (.int .i64 (128)))⟩,
   ⟨.var 1, 1, none, .mov (.s 0)⟩]))
def ir27_k0 : List Bool := [true, true, false]
def ir27_o0 : List Bool := [true, true, false]
def ir27_r0 : List Bool := [false, false, true]
def ir27_v : List Nat := [0, 1, 4]
def ir27 : AFn := ⟨2, 3, .seq (.region false [
    ⟨.var 2, 4, none, .newnil 1⟩])
 (.seq (.block 0 (.loop ir27_k0 ir27_o0 ir27_r0 ir27_b0))
 (.seq (.region false [
    ⟨.push, 16, none, .mov (.v 0)⟩,
    ⟨.push, 17, none, .mov (.v 1)⟩,
    ⟨.push, 18, none, .conv .u8 (.s 0)⟩,
    ⟨.push, 19, none, .mkSl 1 (.int .u8 (0)) 1 [(0, (.s 0))]⟩,
    ⟨.push, 20, none, .app 1 1 (.int .u8 (0)) (.s 3) (.s 0)⟩,
    ⟨.var 2, 4, none, .mov (.s 0)⟩])
 (.ret))), [.t 2]⟩
noncomputable def t_impl_appendNumber : List (Nat × Ctr) := []
noncomputable def c_impl_appendNumber : Ctr := mkF t_impl_appendNumber ir27 [.mov, .bor]
theorem s_impl_appendNumber : Sound Try.prog 27 c_impl_appendNumber := mkF_sound _ rfl snd_nil (by kernel_rfl : chkFn Try.prog 27 ir27 ir27_v = true)
theorem M_impl_appendNumber : c_impl_appendNumber.modes = [.mov, .bor] := rfl
theorem Fl_impl_appendNumber : c_impl_appendNumber.flat = true := rfl
attribute [go_sem] M_impl_appendNumber Fl_impl_appendNumber
def E_impl_appendNumber_l1  : ((List UInt8) × Int) → St
  | (b, n) => ⟨[.own 31, .int .i64 n, .any], [], [(31, ⟨1, List.map byteAV b⟩)], true⟩
def R_impl_appendNumber_l1  (y : (List UInt8) × Int) : Res := (.exit 0, ⟨[.own 31, .int .i64 y.2, .any], [], [(31, ⟨1, List.map byteAV y.1⟩)], true⟩)
theorem impl_appendNumber_l1_ex  {sgm_ : (List UInt8) × Int} {rho_ : (List UInt8) × Int} (h : whileE (impl_appendNumber_l1) sgm_ = some rho_) : ∃ L0, ∀ L, L0 ≤ L → iter (exec (look t_impl_appendNumber) L ir27_b0) ir27_k0 ir27_o0 ir27_r0 L (E_impl_appendNumber_l1 sgm_) = R_impl_appendNumber_l1 rho_ := by
  refine loop_ex (E := E_impl_appendNumber_l1) (R := R_impl_appendNumber_l1) (fun y => by first | (intro c; cases c) | (rcases y with y | y <;> (intro c; cases c)) | (rcases y with y | y | y <;> (intro c; cases c))) ?_ h
  clear h
  rintro ⟨b, n⟩ o_ h
  dsimp only [impl_appendNumber_l1] at h
  rcases it_some h with ⟨hk1, h⟩ | ⟨hk1, h⟩
  · try simp only [go_sem, n1, n2, n3, n4] at hk1
    all_goals
    obtain ⟨hk2, h⟩ := ck_some h
    try simp only [go_sem, n1, n2, n3, n4, hk1] at hk2
    all_goals
    obtain ⟨hk3, h⟩ := ck_some h
    try simp only [go_sem, n1, n2, n3, n4, hk1, hk2] at hk3
    all_goals
    obtain rfl := so_some h
    refine ⟨0, fun L hL => ?_⟩
    simp only [go_sem, ir27, E_impl_appendNumber_l1, R_impl_appendNumber_l1, ir27_b0, ir27_k0, ir27_o0, ir27_r0, hk1, hk2, hk3]
  · try simp only [go_sem, n1, n2, n3, n4] at hk1
    all_goals
    obtain rfl := so_some h
    refine ⟨0, fun L hL => ?_⟩
    simp only [go_sem, ir27, E_impl_appendNumber_l1, R_impl_appendNumber_l1, ir27_b0, ir27_k0, ir27_o0, ir27_r0, hk1]

theorem Fs_impl_appendNumber {b : List UInt8} {n : Int} {y_ : (List UInt8)} (h : impl_appendNumber b n = some y_) : c_impl_appendNumber.F [.fresh 1 (List.map byteAV b), .int .i64 n] = ⟨true, .fresh 1 (List.map byteAV y_), [.any, .any]⟩ := by
  refine mkF_E (by simp only [flatA, flatB, flat1, List.all_cons, List.all_nil, Bool.and_self, flatE_map (f := byteAV) (fun _ => rfl)]) ?_
  dsimp only [impl_appendNumber] at h
  obtain ⟨y_4, hk4, h⟩ := bd_some h
  obtain ⟨Lhk4, ehk4⟩ := impl_appendNumber_l1_ex hk4
  obtain ⟨hk5, h⟩ := ck_some h
  try simp only [go_sem, n1, n2, n3, n4] at hk5
  all_goals
  obtain rfl := so_some h
  refine ⟨Lhk4, fun L hL => ?_⟩
  have ehk4 := ehk4 L (by omega)
  try simp only [go_sem, E_impl_appendNumber_l1, R_impl_appendNumber_l1, ir27_k0, ir27_o0, ir27_r0] at ehk4
  simp only [go_sem, ir27, E_impl_appendNumber_l1, R_impl_appendNumber_l1, ir27_k0, ir27_o0, ir27_r0, hk5, ehk4]


def ir8_v : List Nat := [0, 2, 3]
def ir8 : AFn := ⟨1, 3, .seq (.region false [
    ⟨.var 1, 2, none, .newnil 1⟩,
    ⟨.var 2, 3, none, .mov (.c (.int .i64 (0)))⟩])
 (.seq (.test false [
    ⟨.push, 4, none, .mov (.v 0)⟩,
    ⟨.push, 5, none, .bin false .lss (.s 0) (.c (.int .i64 (0)))⟩] (.s 0)
  (.seq (.region false [
      ⟨.var 1, 2, none, .newnil 1⟩,
      ⟨.var 2, 3, none, .mov (.c (.int .i64 (2)))⟩])
   (.ret))
  (.skip))
 (.seq (.region false [
    ⟨.push, 6, none, .mkSl 1 (.int .u8 (0)) 0 []⟩,
    ⟨.push, 7, none, .mov (.v 0)⟩,
    ⟨.push, 8, none, .call 27 [(.s 1), (.s 0)]⟩,
    ⟨.var 1, 2, none, .mov (.s 0)⟩,
    ⟨.var 2, 3, none, .mov (.c (.int .i64 (0)))⟩])
 (.ret))), [.t 1, .t 2]⟩
noncomputable def t_impl_NumberBytes : List (Nat × Ctr) := [(27, c_impl_appendNumber)]
theorem lk_impl_NumberBytes_27 : look t_impl_NumberBytes 27 = some c_impl_appendNumber := rfl
noncomputable def c_impl_NumberBytes : Ctr := mkF t_impl_NumberBytes ir8 [.bor]
theorem s_impl_NumberBytes : Sound Try.prog 8 c_impl_NumberBytes := mkF_sound _ rfl (snd_cons s_impl_appendNumber snd_nil) (by kernel_rfl : chkFn Try.prog 8 ir8 ir8_v = true)
theorem M_impl_NumberBytes : c_impl_NumberBytes.modes = [.bor] := rfl
theorem Fl_impl_NumberBytes : c_impl_NumberBytes.flat = true := rfl
attribute [go_sem] M_impl_NumberBytes Fl_impl_NumberBytes
attribute [go_sem] lk_impl_NumberBytes_27
theorem Fs_impl_NumberBytes {n : Int} {y_ : (List UInt8) × Int} (h : impl_NumberBytes n = some y_) : c_impl_NumberBytes.F [.int .i64 n] = ⟨true, .tup [.fresh 1 (List.map byteAV y_.1), .int .i64 y_.2], [.any]⟩ := by
  refine mkF_E (by simp only [flatA, flatB, flat1, List.all_cons, List.all_nil, Bool.and_self, flatE_map (f := byteAV) (fun _ => rfl)]) ?_
  dsimp only [impl_NumberBytes] at h
  rcases it_some h with ⟨hk1, h⟩ | ⟨hk1, h⟩
  · try simp only [go_sem, n1, n2, n3, n4] at hk1
    all_goals
    obtain rfl := so_some h
    refine ⟨0, fun L hL => ?_⟩
    simp only [go_sem, ir8, hk1]
  · try simp only [go_sem, n1, n2, n3, n4] at hk1
    all_goals
    obtain ⟨y_2, hk2, h⟩ := bd_some h
    have fhk2 := Fs_impl_appendNumber hk2
    try simp only [go_sem] at fhk2
    obtain rfl := so_some h
    refine ⟨0, fun L hL => ?_⟩
    simp only [go_sem, ir8, hk1, fhk2]


def ir9_b0 : IR := .seq (.test false [
    ⟨.push, 11, none, .mov (.v 3)⟩,
    ⟨.push, 12, none, .mov (.v 0)⟩,
    ⟨.push, 13, none, .len false (.s 0)⟩,
    ⟨.push, 14, none, .bin false .lss (.s 2) (.s 0)⟩] (.s 0)
  (.skip)
  (.exit 0))
 (.seq (.block 1 (.anyo 9 [
     ⟨.slot 0, 17, none, .mov (.v 0)⟩,
     ⟨.slot 1, 18, none, .mov (.v 3)⟩,
     ⟨.slot 2, 19, none, .ixAddr 1 (.s 0) (.s 1)⟩,
     ⟨.slot 3, 20, none, .load false 1 (.s 2)⟩,
     ⟨.slot 4, 21, none, .mov (.v 1)⟩,
     ⟨.slot 5, 22, none, .mov (.v 3)⟩,
     ⟨.slot 6, 23, none, .ixAddr 1 (.s 4) (.s 5)⟩,
     ⟨.slot 7, 24, none, .load false 1 (.s 6)⟩,
     ⟨.slot 8, 25, none, .bin false .neq (.s 3) (.s 7)⟩] [] (.cond (.s 8)
   (.seq (.region false [
       ⟨.var 2, 4, none, .mov (.c (.bool false))⟩])
    (.ret))
   (.skip))))
 (.region false [
   ⟨.push, 15, none, .mov (.v 3)⟩,
   ⟨.push, 16, none, .bin false .add (.s 0) (.c (.int .i64 (1)))⟩,
   ⟨.var 3, 5, none, .mov (.s 0)⟩]))
def ir9_k0 : List Bool := [true, true, false, true]
def ir9_o0 : List Bool := [false, false, false, false]
def ir9_r0 : List Bool := [false, false, true, false]
def ir9_v : List Nat := [0, 1, 4, 5]
def ir9 : AFn := ⟨2, 4, .seq (.region false [
    ⟨.var 2, 4, none, .mov (.c (.bool false))⟩])
 (.seq (.test false [
    ⟨.push, 6, none, .mov (.v 0)⟩,
    ⟨.push, 7, none, .len false (.s 0)⟩,
    ⟨.push, 8, none, .mov (.v 1)⟩,
    ⟨.push, 9, none, .len false (.s 0)⟩,
    ⟨.push, 10, none, .bin false .neq (.s 2) (.s 0)⟩] (.s 0)
  (.seq (.region false [
      ⟨.var 2, 4, none, .mov (.c (.bool false))⟩])
   (.ret))
  (.skip))
 (.seq (.seq (.region false [
     ⟨.var 3, 5, none, .mov (.c (.int .i64 (0)))⟩])
  (.block 0 (.loop ir9_k0 ir9_o0 ir9_r0 ir9_b0)))
 (.seq (.region false [
    ⟨.var 2, 4, none, .mov (.c (.bool true))⟩])
 (.ret)))), [.t 2]⟩
noncomputable def t_laws_eqByteS : List (Nat × Ctr) := []
noncomputable def c_laws_eqByteS : Ctr := mkF t_laws_eqByteS ir9 [.bor, .bor]
theorem s_laws_eqByteS : Sound Try.prog 9 c_laws_eqByteS := mkF_sound _ rfl snd_nil (by kernel_rfl : chkFn Try.prog 9 ir9 ir9_v = true)
theorem M_laws_eqByteS : c_laws_eqByteS.modes = [.bor, .bor] := rfl
theorem Fl_laws_eqByteS : c_laws_eqByteS.flat = true := rfl
attribute [go_sem] M_laws_eqByteS Fl_laws_eqByteS
def E_laws_eqByteS_l1 (a : List UInt8) (b : List UInt8) : Int → St
  | i => ⟨[.sl 1 (List.map byteAV a), .sl 1 (List.map byteAV b), .any, .int .i64 i], [], [], true⟩
def R_laws_eqByteS_l1 (a : List UInt8) (b : List UInt8) : (Unit ⊕ Bool) → Res
  | .inl y => (.exit 0, ⟨[.any, .any, .any, .any], [], [], true⟩)
  | .inr y => (.ret, ⟨[.any, .any, .bool y, .any], [], [], true⟩)
theorem laws_eqByteS_l1_ex {a : List UInt8} {b : List UInt8} {sgm_ : Int} {rho_ : Unit ⊕ Bool} (h : whileE (laws_eqByteS_l1 a b) sgm_ = some rho_) : ∃ L0, ∀ L, L0 ≤ L → iter (exec (look t_laws_eqByteS) L ir9_b0) ir9_k0 ir9_o0 ir9_r0 L (E_laws_eqByteS_l1 a b sgm_) = R_laws_eqByteS_l1 a b rho_ := by
  refine loop_ex (E := E_laws_eqByteS_l1 a b) (R := R_laws_eqByteS_l1 a b) (fun y => by first | (intro c; cases c) | (rcases y with y | y <;> (intro c; cases c)) | (rcases y with y | y | y <;> (intro c; cases c))) ?_ h
  clear h
  intro i o_ h
  dsimp only [laws_eqByteS_l1] at h
  rcases it_some h with ⟨hk2, h⟩ | ⟨hk2, h⟩
  · try simp only [go_sem, n1, n2, n3, n4] at hk2
    all_goals
    obtain ⟨hk3, h⟩ := ck_some h
    have lhk3 := ix_lt hk3
    have xhk3 := getD_mapD byteAV a lhk3
    try simp only [go_sem] at lhk3
    try simp only [go_sem] at xhk3
    try simp only [go_sem, n1, n2, n3, n4, hk2] at hk3
    all_goals
    obtain ⟨hk4, h⟩ := ck_some h
    have lhk4 := ix_lt hk4
    have xhk4 := getD_mapD byteAV b lhk4
    try simp only [go_sem] at lhk4
    try simp only [go_sem] at xhk4
    try simp only [go_sem, n1, n2, n3, n4, hk2, hk3] at hk4
    all_goals
    rcases it_some h with ⟨hk5, h⟩ | ⟨hk5, h⟩
    · try simp only [go_sem, n1, n2, n3, n4, hk2, hk3, hk4] at hk5
      all_goals
      obtain rfl := so_some h
      refine ⟨0, fun L hL => ?_⟩
      simp only [go_sem, ir9, E_laws_eqByteS_l1, R_laws_eqByteS_l1, ir9_b0, ir9_k0, ir9_o0, ir9_r0, hk2, hk3, lhk3, xhk3, hk4, lhk4, xhk4, hk5]
    · try simp only [go_sem, n1, n2, n3, n4, hk2, hk3, hk4] at hk5
      all_goals
      obtain rfl := so_some h
      refine ⟨0, fun L hL => ?_⟩
      simp only [go_sem, ir9, E_laws_eqByteS_l1, R_laws_eqByteS_l1, ir9_b0, ir9_k0, ir9_o0, ir9_r0, hk2, hk3, lhk3, xhk3, hk4, lhk4, xhk4, hk5]
  · try simp only [go_sem, n1, n2, n3, n4] at hk2
    all_goals
    obtain rfl := so_some h
    refine ⟨0, fun L hL => ?_⟩
    simp only [go_sem, ir9, E_laws_eqByteS_l1, R_laws_eqByteS_l1, ir9_b0, ir9_k0, ir9_o0, ir9_r0, hk2]

theorem Fs_laws_eqByteS {a : List UInt8} {b : List UInt8} {y_ : Bool} (h : laws_eqByteS a b = some y_) : c_laws_eqByteS.F [.sl 1 (List.map byteAV a), .sl 1 (List.map byteAV b)] = ⟨true, .bool y_, [.any, .any]⟩ := by
  refine mkF_E rfl ?_
  dsimp only [laws_eqByteS] at h
  rcases it_some h with ⟨hk1, h⟩ | ⟨hk1, h⟩
  · try simp only [go_sem, n1, n2, n3, n4] at hk1
    all_goals
    obtain rfl := so_some h
    refine ⟨0, fun L hL => ?_⟩
    simp only [go_sem, ir9, E_laws_eqByteS_l1, R_laws_eqByteS_l1, ir9_k0, ir9_o0, ir9_r0, hk1]
  · try simp only [go_sem, n1, n2, n3, n4] at hk1
    all_goals
    obtain ⟨y_6, hk6, h⟩ := bd_some h
    obtain ⟨Lhk6, ehk6⟩ := laws_eqByteS_l1_ex hk6
    rcases y_6 with y_6a | y_6b
    · dsimp only at h
      obtain rfl := so_some h
      refine ⟨Lhk6, fun L hL => ?_⟩
      have ehk6 := ehk6 L (by omega)
      try simp only [go_sem, E_laws_eqByteS_l1, R_laws_eqByteS_l1, ir9_k0, ir9_o0, ir9_r0] at ehk6
      simp only [go_sem, ir9, E_laws_eqByteS_l1, R_laws_eqByteS_l1, ir9_k0, ir9_o0, ir9_r0, hk1, ehk6]
    · dsimp only at h
      obtain rfl := so_some h
      refine ⟨Lhk6, fun L hL => ?_⟩
      have ehk6 := ehk6 L (by omega)
      try simp only [go_sem, E_laws_eqByteS_l1, R_laws_eqByteS_l1, ir9_k0, ir9_o0, ir9_r0] at ehk6
      simp only [go_sem, ir9, E_laws_eqByteS_l1, R_laws_eqByteS_l1, ir9_k0, ir9_o0, ir9_r0, hk1, ehk6]


def ir10_b0 : IR := .seq (.test false [
    ⟨.push, 6, none, .mov (.v 3)⟩,
    ⟨.push, 7, none, .mov (.v 0)⟩,
    ⟨.push, 8, none, .len false (.s 0)⟩,
    ⟨.push, 9, none, .bin false .lss (.s 2) (.s 0)⟩] (.s 0)
  (.skip)
  (.exit 0))
 (.seq (.block 1 (.seq (.region false [
      ⟨.push, 12, none, .mov (.v 0)⟩,
      ⟨.push, 13, none, .mov (.v 3)⟩,
      ⟨.push, 14, none, .mov (.v 1)⟩,
      ⟨.push, 15, none, .conv .u8 (.s 0)⟩,
      ⟨.push, 16, none, .ixAddr 1 (.s 3) (.s 2)⟩,
      ⟨.no, 0, none, .store 1 (.s 0) (.s 1)⟩])
   (.region false [
     ⟨.push, 17, none, .mov (.v 1)⟩,
     ⟨.push, 18, none, .bin false .add (.s 0) (.c (.int .i64 (1)))⟩,
     ⟨.var 1, 1, none, .mov (.s 0)⟩])))
 (.region false [
   ⟨.push, 10, none, .mov (.v 3)⟩,
   ⟨.push, 11, none, .bin false .add (.s 0) (.c (.int .i64 (1)))⟩,
   ⟨.var 3, 5, none, .mov (.s 0)⟩]))
def ir10_k0 : List Bool := [true, true, false, true]
def ir10_o0 : List Bool := [true, true, false, false]
def ir10_r0 : List Bool := [true, false, true, false]
def ir10_v : List Nat := [0, 1, 4, 5]
def ir10 : AFn := ⟨2, 4, .seq (.region false [
    ⟨.var 2, 4, none, .mov (.c (.int .i64 (0)))⟩])
 (.seq (.seq (.region false [
     ⟨.var 3, 5, none, .mov (.c (.int .i64 (0)))⟩])
  (.block 0 (.loop ir10_k0 ir10_o0 ir10_r0 ir10_b0)))
 (.seq (.region false [
    ⟨.push, 19, none, .mov (.v 1)⟩,
    ⟨.var 2, 4, none, .mov (.s 0)⟩])
 (.ret))), [.t 2]⟩
noncomputable def t_laws_markByteS : List (Nat × Ctr) := []
noncomputable def c_laws_markByteS : Ctr := mkN t_laws_markByteS ir10 [.io, .bor]
theorem s_laws_markByteS : Sound Try.prog 10 c_laws_markByteS := mkN_sound _ snd_nil (by kernel_rfl : chkFn Try.prog 10 ir10 ir10_v = true)
theorem M_laws_markByteS : c_laws_markByteS.modes = [.io, .bor] := rfl
theorem Fl_laws_markByteS : c_laws_markByteS.flat = false := rfl
attribute [go_sem] M_laws_markByteS Fl_laws_markByteS
def E_laws_markByteS_l1  : ((List UInt8) × Int × Int) → St
  | (a, k, i) => ⟨[.own 31, .int .i64 k, .any, .int .i64 i], [], [(31, ⟨1, List.map byteAV a⟩)], true⟩
def R_laws_markByteS_l1  (y : (List UInt8) × Int) : Res := (.exit 0, ⟨[.own 31, .int .i64 y.2, .any, .any], [], [(31, ⟨1, List.map byteAV y.1⟩)], true⟩)
theorem laws_markByteS_l1_ex  {sgm_ : (List UInt8) × Int × Int} {rho_ : (List UInt8) × Int} (h : whileE (laws_markByteS_l1) sgm_ = some rho_) : ∃ L0, ∀ L, L0 ≤ L → iter (exec (look t_laws_markByteS) L ir10_b0) ir10_k0 ir10_o0 ir10_r0 L (E_laws_markByteS_l1 sgm_) = R_laws_markByteS_l1 rho_ := by
  refine loop_ex (E := E_laws_markByteS_l1) (R := R_laws_markByteS_l1) (fun y => by first | (intro c; cases c) | (rcases y with y | y <;> (intro c; cases c)) | (rcases y with y | y | y <;> (intro c; cases c))) ?_ h
  clear h
  rintro ⟨a, k, i⟩ o_ h
  dsimp only [laws_markByteS_l1] at h
  rcases it_some h with ⟨hk1, h⟩ | ⟨hk1, h⟩
  · try simp only [go_sem, n1, n2, n3, n4] at hk1
    all_goals
    obtain ⟨hk2, h⟩ := ck_some h
    have lhk2 := ix_lt hk2
    have xhk2 := getD_mapD byteAV a lhk2
    try simp only [go_sem] at lhk2
    try simp only [go_sem] at xhk2
    try simp only [go_sem, n1, n2, n3, n4, hk1] at hk2
    all_goals
    obtain rfl := so_some h
    refine ⟨0, fun L hL => ?_⟩
    simp only [go_sem, ir10, E_laws_markByteS_l1, R_laws_markByteS_l1, ir10_b0, ir10_k0, ir10_o0, ir10_r0, hk1, hk2, lhk2, xhk2]
  · try simp only [go_sem, n1, n2, n3, n4] at hk1
    all_goals
    obtain rfl := so_some h
    refine ⟨0, fun L hL => ?_⟩
    simp only [go_sem, ir10, E_laws_markByteS_l1, R_laws_markByteS_l1, ir10_b0, ir10_k0, ir10_o0, ir10_r0, hk1]

theorem Fs_laws_markByteS {a : List UInt8} {k : Int} {y_ : Int × (List UInt8)} (h : laws_markByteS a k = some y_) : c_laws_markByteS.F [.fresh 1 (List.map byteAV a), .int .i64 k] = ⟨true, .int .i64 y_.1, [.fresh 1 (List.map byteAV y_.2), .any]⟩ := by
  refine mkN_E ?_
  dsimp only [laws_markByteS] at h
  obtain ⟨y_3, hk3, h⟩ := bd_some h
  obtain ⟨Lhk3, ehk3⟩ := laws_markByteS_l1_ex hk3
  obtain ⟨hk4, h⟩ := ck_some h
  try simp only [go_sem, n1, n2, n3, n4] at hk4
  all_goals
  obtain rfl := so_some h
  refine ⟨Lhk3, fun L hL => ?_⟩
  have ehk3 := ehk3 L (by omega)
  try simp only [go_sem, E_laws_markByteS_l1, R_laws_markByteS_l1, ir10_k0, ir10_o0, ir10_r0] at ehk3
  simp only [go_sem, ir10, E_laws_markByteS_l1, R_laws_markByteS_l1, ir10_k0, ir10_o0, ir10_r0, hk4, ehk3]


def ir11_b0 : IR := .seq (.test false [
    ⟨.push, 6, none, .mov (.v 3)⟩,
    ⟨.push, 7, none, .mov (.v 0)⟩,
    ⟨.push, 8, none, .len false (.s 0)⟩,
    ⟨.push, 9, none, .bin false .lss (.s 2) (.s 0)⟩] (.s 0)
  (.skip)
  (.exit 0))
 (.seq (.block 1 (.seq (.test false [
      ⟨.push, 12, none, .mov (.v 0)⟩,
      ⟨.push, 13, none, .mov (.v 3)⟩,
      ⟨.push, 14, none, .ixAddr 1 (.s 1) (.s 0)⟩,
      ⟨.push, 15, none, .load false 1 (.s 0)⟩,
      ⟨.push, 16, none, .mov (.v 1)⟩,
      ⟨.push, 17, none, .conv .u8 (.s 0)⟩,
      ⟨.push, 18, none, .bin false .neq (.s 2) (.s 0)⟩] (.s 0)
    (.seq (.region false [
        ⟨.var 2, 4, none, .mov (.c (.int .i64 (-1)))⟩])
     (.ret))
    (.skip))
   (.region false [
     ⟨.push, 19, none, .mov (.v 1)⟩,
     ⟨.push, 20, none, .bin false .add (.s 0) (.c (.int .i64 (1)))⟩,
     ⟨.var 1, 1, none, .mov (.s 0)⟩])))
 (.region false [
   ⟨.push, 10, none, .mov (.v 3)⟩,
   ⟨.push, 11, none, .bin false .add (.s 0) (.c (.int .i64 (1)))⟩,
   ⟨.var 3, 5, none, .mov (.s 0)⟩]))
def ir11_k0 : List Bool := [true, true, false, true]
def ir11_o0 : List Bool := [false, true, false, false]
def ir11_r0 : List Bool := [false, false, true, false]
def ir11_v : List Nat := [0, 1, 4, 5]
def ir11 : AFn := ⟨2, 4, .seq (.region false [
    ⟨.var 2, 4, none, .mov (.c (.int .i64 (0)))⟩])
 (.seq (.seq (.region false [
     ⟨.var 3, 5, none, .mov (.c (.int .i64 (0)))⟩])
  (.block 0 (.loop ir11_k0 ir11_o0 ir11_r0 ir11_b0)))
 (.seq (.region false [
    ⟨.push, 21, none, .mov (.v 1)⟩,
    ⟨.var 2, 4, none, .mov (.s 0)⟩])
 (.ret))), [.t 2]⟩
noncomputable def t_laws_heldByteS : List (Nat × Ctr) := []
noncomputable def c_laws_heldByteS : Ctr := mkF t_laws_heldByteS ir11 [.bor, .bor]
theorem s_laws_heldByteS : Sound Try.prog 11 c_laws_heldByteS := mkF_sound _ rfl snd_nil (by kernel_rfl : chkFn Try.prog 11 ir11 ir11_v = true)
theorem M_laws_heldByteS : c_laws_heldByteS.modes = [.bor, .bor] := rfl
theorem Fl_laws_heldByteS : c_laws_heldByteS.flat = true := rfl
attribute [go_sem] M_laws_heldByteS Fl_laws_heldByteS
def E_laws_heldByteS_l1 (a : List UInt8) : (Int × Int) → St
  | (k, i) => ⟨[.sl 1 (List.map byteAV a), .int .i64 k, .any, .int .i64 i], [], [], true⟩
def R_laws_heldByteS_l1 (a : List UInt8) : (Int ⊕ Int) → Res
  | .inl y => (.exit 0, ⟨[.any, .int .i64 y, .any, .any], [], [], true⟩)
  | .inr y => (.ret, ⟨[.any, .any, .int .i64 y, .any], [], [], true⟩)
theorem laws_heldByteS_l1_ex {a : List UInt8} {sgm_ : Int × Int} {rho_ : Int ⊕ Int} (h : whileE (laws_heldByteS_l1 a) sgm_ = some rho_) : ∃ L0, ∀ L, L0 ≤ L → iter (exec (look t_laws_heldByteS) L ir11_b0) ir11_k0 ir11_o0 ir11_r0 L (E_laws_heldByteS_l1 a sgm_) = R_laws_heldByteS_l1 a rho_ := by
  refine loop_ex (E := E_laws_heldByteS_l1 a) (R := R_laws_heldByteS_l1 a) (fun y => by first | (intro c; cases c) | (rcases y with y | y <;> (intro c; cases c)) | (rcases y with y | y | y <;> (intro c; cases c))) ?_ h
  clear h
  rintro ⟨k, i⟩ o_ h
  dsimp only [laws_heldByteS_l1] at h
  rcases it_some h with ⟨hk1, h⟩ | ⟨hk1, h⟩
  · try simp only [go_sem, n1, n2, n3, n4] at hk1
    all_goals
    obtain ⟨hk2, h⟩ := ck_some h
    have lhk2 := ix_lt hk2
    have xhk2 := getD_mapD byteAV a lhk2
    try simp only [go_sem] at lhk2
    try simp only [go_sem] at xhk2
    try simp only [go_sem, n1, n2, n3, n4, hk1] at hk2
    all_goals
    rcases it_some h with ⟨hk3, h⟩ | ⟨hk3, h⟩
    · try simp only [go_sem, n1, n2, n3, n4, hk1, hk2] at hk3
      all_goals
      obtain rfl := so_some h
      refine ⟨0, fun L hL => ?_⟩
      simp only [go_sem, ir11, E_laws_heldByteS_l1, R_laws_heldByteS_l1, ir11_b0, ir11_k0, ir11_o0, ir11_r0, hk1, hk2, lhk2, xhk2, hk3]
    · try simp only [go_sem, n1, n2, n3, n4, hk1, hk2] at hk3
      all_goals
      obtain rfl := so_some h
      refine ⟨0, fun L hL => ?_⟩
      simp only [go_sem, ir11, E_laws_heldByteS_l1, R_laws_heldByteS_l1, ir11_b0, ir11_k0, ir11_o0, ir11_r0, hk1, hk2, lhk2, xhk2, hk3]
  · try simp only [go_sem, n1, n2, n3, n4] at hk1
    all_goals
    obtain rfl := so_some h
    refine ⟨0, fun L hL => ?_⟩
    simp only [go_sem, ir11, E_laws_heldByteS_l1, R_laws_heldByteS_l1, ir11_b0, ir11_k0, ir11_o0, ir11_r0, hk1]

theorem Fs_laws_heldByteS {a : List UInt8} {k : Int} {y_ : Int} (h : laws_heldByteS a k = some y_) : c_laws_heldByteS.F [.sl 1 (List.map byteAV a), .int .i64 k] = ⟨true, .int .i64 y_, [.any, .any]⟩ := by
  refine mkF_E rfl ?_
  dsimp only [laws_heldByteS] at h
  obtain ⟨y_4, hk4, h⟩ := bd_some h
  obtain ⟨Lhk4, ehk4⟩ := laws_heldByteS_l1_ex hk4
  rcases y_4 with y_4a | y_4b
  · dsimp only at h
    obtain rfl := so_some h
    refine ⟨Lhk4, fun L hL => ?_⟩
    have ehk4 := ehk4 L (by omega)
    try simp only [go_sem, E_laws_heldByteS_l1, R_laws_heldByteS_l1, ir11_k0, ir11_o0, ir11_r0] at ehk4
    simp only [go_sem, ir11, E_laws_heldByteS_l1, R_laws_heldByteS_l1, ir11_k0, ir11_o0, ir11_r0, ehk4]
  · dsimp only at h
    obtain rfl := so_some h
    refine ⟨Lhk4, fun L hL => ?_⟩
    have ehk4 := ehk4 L (by omega)
    try simp only [go_sem, E_laws_heldByteS_l1, R_laws_heldByteS_l1, ir11_k0, ir11_o0, ir11_r0] at ehk4
    simp only [go_sem, ir11, E_laws_heldByteS_l1, R_laws_heldByteS_l1, ir11_k0, ir11_o0, ir11_r0, ehk4]


def ir3_v : List Nat := [0, 2, 3, 4, 5, 6, 7, 8, 9, 10]
def ir3 : AFn := ⟨1, 10, .seq (.region false [
    ⟨.var 1, 2, none, .mov (.c (.bool false))⟩])
 (.seq (.region false [
    ⟨.push, 12, none, .mov (.v 0)⟩,
    ⟨.push, 13, none, .call 7 [(.s 0)]⟩,
    ⟨.push, 11, none, .mov (.s 0)⟩,
    ⟨.push, 14, none, .ext (.s 0) 0⟩,
    ⟨.push, 15, none, .ext (.s 1) 1⟩,
    ⟨.var 2, 3, none, .mov (.s 1)⟩,
    ⟨.var 3, 4, none, .mov (.s 0)⟩])
 (.seq (.region false [
    ⟨.push, 17, none, .mov (.v 0)⟩,
    ⟨.push, 18, none, .call 8 [(.s 0)]⟩,
    ⟨.push, 16, none, .mov (.s 0)⟩,
    ⟨.push, 19, none, .ext (.s 0) 0⟩,
    ⟨.push, 20, none, .ext (.s 1) 1⟩,
    ⟨.var 4, 5, none, .mov (.s 1)⟩,
    ⟨.var 5, 6, none, .mov (.s 0)⟩])
 (.seq (.test false [
    ⟨.push, 21, none, .mov (.v 4)⟩,
    ⟨.push, 22, none, .mov (.v 2)⟩,
    ⟨.push, 23, none, .call 9 [(.s 1), (.s 0)]⟩,
    ⟨.push, 24, none, .un .not (.s 0)⟩,
    ⟨.push, 25, none, .mov (.s 0)⟩,
    ⟨.push, 26, (some ((.s 0), false)), .mov (.v 5)⟩,
    ⟨.push, 27, (some ((.s 1), false)), .mov (.v 3)⟩,
    ⟨.push, 28, (some ((.s 2), false)), .bin false .neq (.s 1) (.s 0)⟩,
    ⟨.push, 29, none, .pick (.s 3) (.c (.bool true)) (.s 0)⟩] (.s 0)
  (.seq (.region false [
      ⟨.var 1, 2, none, .mov (.c (.bool false))⟩])
   (.ret))
  (.skip))
 (.seq (.region false [
    ⟨.var 6, 7, none, .mov (.c (.int .i64 (1)))⟩])
 (.seq (.region false [
    ⟨.push, 30, none, .mov (.v 4)⟩,
    ⟨.push, 31, none, .mov (.v 6)⟩,
    ⟨.push, 32, none, .call 10 [(.s 1), (.s 0)]⟩,
    ⟨.var 6, 7, none, .mov (.s 0)⟩])
 (.seq (.region false [
    ⟨.var 7, 8, none, .mov (.c (.int .i64 (1)))⟩])
 (.seq (.region false [
    ⟨.push, 33, none, .mov (.v 4)⟩,
    ⟨.push, 34, none, .mov (.v 7)⟩,
    ⟨.push, 35, none, .call 11 [(.s 1), (.s 0)]⟩,
    ⟨.var 7, 8, none, .mov (.s 0)⟩])
 (.seq (.test false [
    ⟨.push, 36, none, .mov (.v 7)⟩,
    ⟨.push, 37, none, .bin false .lss (.s 0) (.c (.int .i64 (0)))⟩] (.s 0)
  (.seq (.region false [
      ⟨.var 1, 2, none, .mov (.c (.bool false))⟩])
   (.ret))
  (.skip))
 (.seq (.test false [
    ⟨.push, 38, none, .mov (.v 7)⟩,
    ⟨.push, 39, none, .mov (.v 6)⟩,
    ⟨.push, 40, none, .bin false .neq (.s 1) (.s 0)⟩] (.s 0)
  (.seq (.region false [
      ⟨.var 1, 2, none, .mov (.c (.bool false))⟩])
   (.ret))
  (.skip))
 (.seq (.region false [
    ⟨.push, 42, none, .mov (.v 0)⟩,
    ⟨.push, 43, none, .call 8 [(.s 0)]⟩,
    ⟨.push, 41, none, .mov (.s 0)⟩,
    ⟨.push, 44, none, .ext (.s 0) 0⟩,
    ⟨.push, 45, none, .ext (.s 1) 1⟩,
    ⟨.var 8, 9, none, .mov (.s 1)⟩,
    ⟨.var 9, 10, none, .mov (.s 0)⟩])
 (.seq (.test false [
    ⟨.push, 46, none, .mov (.v 8)⟩,
    ⟨.push, 47, none, .mov (.v 2)⟩,
    ⟨.push, 48, none, .call 9 [(.s 1), (.s 0)]⟩,
    ⟨.push, 49, none, .un .not (.s 0)⟩,
    ⟨.push, 50, none, .mov (.s 0)⟩,
    ⟨.push, 51, (some ((.s 0), false)), .mov (.v 9)⟩,
    ⟨.push, 52, (some ((.s 1), false)), .mov (.v 3)⟩,
    ⟨.push, 53, (some ((.s 2), false)), .bin false .neq (.s 1) (.s 0)⟩,
    ⟨.push, 54, none, .pick (.s 3) (.c (.bool true)) (.s 0)⟩] (.s 0)
  (.seq (.region false [
      ⟨.var 1, 2, none, .mov (.c (.bool false))⟩])
   (.ret))
  (.skip))
 (.seq (.region false [
    ⟨.var 7, 8, none, .mov (.c (.int .i64 (1)))⟩])
 (.seq (.region false [
    ⟨.push, 55, none, .mov (.v 4)⟩,
    ⟨.push, 56, none, .mov (.v 7)⟩,
    ⟨.push, 57, none, .call 11 [(.s 1), (.s 0)]⟩,
    ⟨.var 7, 8, none, .mov (.s 0)⟩])
 (.seq (.test false [
    ⟨.push, 58, none, .mov (.v 7)⟩,
    ⟨.push, 59, none, .bin false .lss (.s 0) (.c (.int .i64 (0)))⟩] (.s 0)
  (.seq (.region false [
      ⟨.var 1, 2, none, .mov (.c (.bool false))⟩])
   (.ret))
  (.skip))
 (.seq (.test false [
    ⟨.push, 60, none, .mov (.v 7)⟩,
    ⟨.push, 61, none, .mov (.v 6)⟩,
    ⟨.push, 62, none, .bin false .neq (.s 1) (.s 0)⟩] (.s 0)
  (.seq (.region false [
      ⟨.var 1, 2, none, .mov (.c (.bool false))⟩])
   (.ret))
  (.skip))
 (.seq (.region false [
    ⟨.var 1, 2, none, .mov (.c (.bool true))⟩])
 (.ret))))))))))))))))), [.t 1]⟩
noncomputable def t_laws_FnExactNumberBytes : List (Nat × Ctr) := [(7, c_spec_NumberBytes), (8, c_impl_NumberBytes), (9, c_laws_eqByteS), (10, c_laws_markByteS), (11, c_laws_heldByteS)]
theorem lk_laws_FnExactNumberBytes_7 : look t_laws_FnExactNumberBytes 7 = some c_spec_NumberBytes := rfl
theorem lk_laws_FnExactNumberBytes_8 : look t_laws_FnExactNumberBytes 8 = some c_impl_NumberBytes := rfl
theorem lk_laws_FnExactNumberBytes_9 : look t_laws_FnExactNumberBytes 9 = some c_laws_eqByteS := rfl
theorem lk_laws_FnExactNumberBytes_10 : look t_laws_FnExactNumberBytes 10 = some c_laws_markByteS := rfl
theorem lk_laws_FnExactNumberBytes_11 : look t_laws_FnExactNumberBytes 11 = some c_laws_heldByteS := rfl
noncomputable def c_laws_FnExactNumberBytes : Ctr := mkF t_laws_FnExactNumberBytes ir3 [.bor]
theorem s_laws_FnExactNumberBytes : Sound Try.prog 3 c_laws_FnExactNumberBytes := mkF_sound _ rfl (snd_cons s_spec_NumberBytes (snd_cons s_impl_NumberBytes (snd_cons s_laws_eqByteS (snd_cons s_laws_markByteS (snd_cons s_laws_heldByteS snd_nil))))) (by kernel_rfl : chkFn Try.prog 3 ir3 ir3_v = true)
theorem M_laws_FnExactNumberBytes : c_laws_FnExactNumberBytes.modes = [.bor] := rfl
theorem Fl_laws_FnExactNumberBytes : c_laws_FnExactNumberBytes.flat = true := rfl
attribute [go_sem] M_laws_FnExactNumberBytes Fl_laws_FnExactNumberBytes
attribute [go_sem] lk_laws_FnExactNumberBytes_7 lk_laws_FnExactNumberBytes_8 lk_laws_FnExactNumberBytes_9 lk_laws_FnExactNumberBytes_10 lk_laws_FnExactNumberBytes_11
theorem Fs_laws_FnExactNumberBytes {aN : Int} {y_ : Bool} (h : laws_FnExactNumberBytes aN = some y_) : c_laws_FnExactNumberBytes.F [.int .i64 aN] = ⟨true, .bool y_, [.any]⟩ := by
  refine mkF_E rfl ?_
  dsimp only [laws_FnExactNumberBytes] at h
  obtain ⟨y_1, hk1, h⟩ := bd_some h
  have fhk1 := Fs_spec_NumberBytes hk1
  try simp only [go_sem] at fhk1
  obtain ⟨y_2, hk2, h⟩ := bd_some h
  have fhk2 := Fs_impl_NumberBytes hk2
  try simp only [go_sem] at fhk2
  obtain ⟨y_3, hk3, h⟩ := bd_some h
  have fhk3 := Fs_laws_eqByteS hk3
  try simp only [go_sem] at fhk3
  rcases it_some h with ⟨hk4, h⟩ | ⟨hk4, h⟩
  · try simp only [go_sem, n1, n2, n3, n4] at hk4
    all_goals
    obtain rfl := so_some h
    refine ⟨0, fun L hL => ?_⟩
    simp only [go_sem, ir3, fhk1, fhk2, fhk3, hk4]
  · try simp only [go_sem, n1, n2, n3, n4] at hk4
    all_goals
    obtain ⟨y_5, hk5, h⟩ := bd_some h
    have fhk5 := Fs_laws_markByteS hk5
    try simp only [go_sem] at fhk5
    obtain ⟨y_6, hk6, h⟩ := bd_some h
    have fhk6 := Fs_laws_heldByteS hk6
    try simp only [go_sem] at fhk6
    rcases it_some h with ⟨hk7, h⟩ | ⟨hk7, h⟩
    · try simp only [go_sem, n1, n2, n3, n4, hk4] at hk7
      all_goals
      obtain rfl := so_some h
      refine ⟨0, fun L hL => ?_⟩
      simp only [go_sem, ir3, fhk1, fhk2, fhk3, hk4, fhk5, fhk6, hk7]
    · try simp only [go_sem, n1, n2, n3, n4, hk4] at hk7
      all_goals
      rcases it_some h with ⟨hk8, h⟩ | ⟨hk8, h⟩
      · try simp only [go_sem, n1, n2, n3, n4, hk4, hk7] at hk8
        all_goals
        obtain rfl := so_some h
        refine ⟨0, fun L hL => ?_⟩
        simp only [go_sem, ir3, fhk1, fhk2, fhk3, hk4, fhk5, fhk6, hk7, hk8]
      · try simp only [go_sem, n1, n2, n3, n4, hk4, hk7] at hk8
        all_goals
        obtain rfl := so_some h
        refine ⟨0, fun L hL => ?_⟩
        simp only [go_sem, ir3, fhk1, fhk2, fhk3, hk4, fhk5, fhk6, hk7, hk8]


def ir28_v : List Nat := [0, 1, 2, 6]
def ir28 : AFn := ⟨3, 4, .seq (.region false [
    ⟨.var 3, 6, none, .mov (.c (.bool false))⟩])
 (.seq (.region false [
    ⟨.push, 7, none, .mov (.v 0)⟩,
    ⟨.push, 8, none, .mov (.v 1)⟩,
    ⟨.push, 9, none, .bin false .geq (.s 1) (.s 0)⟩,
    ⟨.push, 10, none, .mov (.s 0)⟩,
    ⟨.push, 11, (some ((.s 0), true)), .mov (.v 0)⟩,
    ⟨.push, 12, (some ((.s 1), true)), .mov (.v 2)⟩,
    ⟨.push, 13, (some ((.s 2), true)), .bin false .leq (.s 1) (.s 0)⟩,
    ⟨.push, 14, none, .pick (.s 3) (.s 0) (.c (.bool false))⟩,
    ⟨.var 3, 6, none, .mov (.s 0)⟩])
 (.ret)), [.t 3]⟩
noncomputable def t_spec_l00In : List (Nat × Ctr) := []
noncomputable def c_spec_l00In : Ctr := mkF t_spec_l00In ir28 [.bor, .bor, .bor]
theorem s_spec_l00In : Sound Try.prog 28 c_spec_l00In := mkF_sound _ rfl snd_nil (by kernel_rfl : chkFn Try.prog 28 ir28 ir28_v = true)
theorem M_spec_l00In : c_spec_l00In.modes = [.bor, .bor, .bor] := rfl
theorem Fl_spec_l00In : c_spec_l00In.flat = true := rfl
attribute [go_sem] M_spec_l00In Fl_spec_l00In
theorem Fs_spec_l00In {n : Int} {low : Int} {high : Int} {y_ : Bool} (h : spec_l00In n low high = some y_) : c_spec_l00In.F [.int .i64 n, .int .i64 low, .int .i64 high] = ⟨true, .bool y_, [.any, .any, .any]⟩ := by
  refine mkF_E rfl ?_
  dsimp only [spec_l00In] at h
  obtain rfl := so_some h
  refine ⟨0, fun L hL => ?_⟩
  simp only [go_sem, ir28]


def ir12_b0 : IR := .seq (.test false [
    ⟨.push, 31, none, .mov (.v 7)⟩,
    ⟨.push, 32, none, .bin false .gtr (.s 0) (.c (.int .i64 (0)))⟩] (.s 0)
  (.skip)
  (.exit 0))
 (.seq (.block 1 (.seq (.region false [
      ⟨.push, 35, none, .mov (.v 6)⟩,
      ⟨.push, 36, none, .bin false .mul (.s 0) (.c (.int .i64 (75)))⟩,
      ⟨.push, 37, none, .bin false .add (.s 0) (.c (.int .i64 (74)))⟩,
      ⟨.push, 38, none, .bin false .rem (.s 0) (.c (.int .i64 (65537)))⟩,
      ⟨.var 6, 9, none, .mov (.s 0)⟩])
   (.test false [
     ⟨.push, 39, none, .mov (.v 6)⟩,
     ⟨.push, 40, none, .mov (.v 0)⟩,
     ⟨.push, 41, none, .mov (.v 8)⟩,
     ⟨.push, 42, none, .bin false .sub (.s 1) (.s 0)⟩,
     ⟨.push, 43, none, .bin false .rem (.s 3) (.s 0)⟩,
     ⟨.push, 44, none, .mov (.v 7)⟩,
     ⟨.push, 45, none, .bin false .lss (.s 1) (.s 0)⟩] (.s 0)
   (.seq (.region false [
       ⟨.push, 46, none, .mov (.v 5)⟩,
       ⟨.push, 47, none, .mov (.v 8)⟩,
       ⟨.push, 48, none, .mkSl 1 (.int .i64 (0)) 1 [(0, (.s 0))]⟩,
       ⟨.push, 49, none, .app 1 8 (.int .i64 (0)) (.s 2) (.s 0)⟩,
       ⟨.var 5, 8, none, .mov (.s 0)⟩])
    (.region false [
      ⟨.push, 50, none, .mov (.v 7)⟩,
      ⟨.push, 51, none, .bin false .sub (.s 0) (.c (.int .i64 (1)))⟩,
      ⟨.var 7, 10, none, .mov (.s 0)⟩]))
   (.skip))))
 (.region false [
   ⟨.push, 33, none, .mov (.v 8)⟩,
   ⟨.push, 34, none, .bin false .add (.s 0) (.c (.int .i64 (1)))⟩,
   ⟨.var 8, 11, none, .mov (.s 0)⟩]))
def ir12_k0 : List Bool := [true, false, false, false, false, true, true, true, true]
def ir12_o0 : List Bool := [false, false, false, false, false, true, false, false, false]
def ir12_r0 : List Bool := [false, false, false, true, true, false, false, false, false]
def ir12_v : List Nat := [0, 1, 2, 6, 7, 8, 9, 10, 11]
def ir12 : AFn := ⟨3, 9, .seq (.region false [
    ⟨.var 3, 6, none, .newnil 1⟩,
    ⟨.var 4, 7, none, .mov (.c (.int .i64 (0)))⟩])
 (.seq (.test false [
    ⟨.push, 12, none, .mov (.v 0)⟩,
    ⟨.push, 13, none, .call 28 [(.s 0), (.c (.int .i64 (0))), (.c (.int .i64 (10000)))]⟩,
    ⟨.push, 14, none, .un .not (.s 0)⟩,
    ⟨.push, 15, none, .mov (.s 0)⟩,
    ⟨.push, 16, (some ((.s 0), false)), .mov (.v 1)⟩,
    ⟨.push, 17, (some ((.s 1), false)), .call 28 [(.s 0), (.c (.int .i64 (0))), (.c (.int .i64 (100)))]⟩,
    ⟨.push, 18, (some ((.s 2), false)), .un .not (.s 0)⟩,
    ⟨.push, 19, none, .pick (.s 3) (.c (.bool true)) (.s 0)⟩,
    ⟨.push, 20, none, .mov (.s 0)⟩,
    ⟨.push, 21, (some ((.s 0), false)), .mov (.v 2)⟩,
    ⟨.push, 22, (some ((.s 1), false)), .call 28 [(.s 0), (.c (.int .i64 (0))), (.c (.int .i64 (65535)))]⟩,
    ⟨.push, 23, (some ((.s 2), false)), .un .not (.s 0)⟩,
    ⟨.push, 24, none, .pick (.s 3) (.c (.bool true)) (.s 0)⟩] (.s 0)
  (.seq (.region false [
      ⟨.var 3, 6, none, .newnil 1⟩,
      ⟨.var 4, 7, none, .mov (.c (.int .i64 (2)))⟩])
   (.ret))
  (.skip))
 (.seq (.test false [
    ⟨.push, 25, none, .mov (.v 1)⟩,
    ⟨.push, 26, none, .mov (.v 0)⟩,
    ⟨.push, 27, none, .bin false .gtr (.s 1) (.s 0)⟩] (.s 0)
  (.seq (.region false [
      ⟨.var 3, 6, none, .newnil 1⟩,
      ⟨.var 4, 7, none, .mov (.c (.int .i64 (6)))⟩])
   (.ret))
  (.skip))
 (.seq (.region false [
    ⟨.push, 28, none, .mkSl 1 (.int .i64 (0)) 0 []⟩,
    ⟨.var 5, 8, none, .mov (.s 0)⟩])
 (.seq (.region false [
    ⟨.push, 29, none, .mov (.v 2)⟩,
    ⟨.var 6, 9, none, .mov (.s 0)⟩])
 (.seq (.region false [
    ⟨.push, 30, none, .mov (.v 1)⟩,
    ⟨.var 7, 10, none, .mov (.s 0)⟩])
 (.seq (.seq (.region false [
     ⟨.var 8, 11, none, .mov (.c (.int .i64 (0)))⟩])
  (.block 0 (.loop ir12_k0 ir12_o0 ir12_r0 ir12_b0)))
 (.seq (.region false [
    ⟨.push, 52, none, .mov (.v 5)⟩,
    ⟨.var 3, 6, none, .mov (.s 0)⟩,
    ⟨.var 4, 7, none, .mov (.c (.int .i64 (0)))⟩])
 (.ret)))))))), [.t 3, .t 4]⟩
noncomputable def t_spec_SampleOf : List (Nat × Ctr) := [(28, c_spec_l00In)]
theorem lk_spec_SampleOf_28 : look t_spec_SampleOf 28 = some c_spec_l00In := rfl
noncomputable def c_spec_SampleOf : Ctr := mkF t_spec_SampleOf ir12 [.bor, .bor, .bor]
theorem s_spec_SampleOf : Sound Try.prog 12 c_spec_SampleOf := mkF_sound _ rfl (snd_cons s_spec_l00In snd_nil) (by kernel_rfl : chkFn Try.prog 12 ir12 ir12_v = true)
theorem M_spec_SampleOf : c_spec_SampleOf.modes = [.bor, .bor, .bor] := rfl
theorem Fl_spec_SampleOf : c_spec_SampleOf.flat = true := rfl
attribute [go_sem] M_spec_SampleOf Fl_spec_SampleOf
attribute [go_sem] lk_spec_SampleOf_28
def E_spec_SampleOf_l1 (count : Int) : ((List Int) × Int × Int × Int) → St
  | (out, x, need, i) => ⟨[.int .i64 count, .any, .any, .any, .any, .own 3200000, .int .i64 x, .int .i64 need, .int .i64 i], [], [(3200000, ⟨1, List.map (AV.int .i64) out⟩)], true⟩
def R_spec_SampleOf_l1 (count : Int) (y : (List Int)) : Res := (.exit 0, ⟨[.any, .any, .any, .any, .any, .own 3200000, .any, .any, .any], [], [(3200000, ⟨1, List.map (AV.int .i64) y⟩)], true⟩)
theorem spec_SampleOf_l1_ex {count : Int} {sgm_ : (List Int) × Int × Int × Int} {rho_ : (List Int)} (h : whileE (spec_SampleOf_l1 count) sgm_ = some rho_) : ∃ L0, ∀ L, L0 ≤ L → iter (exec (look t_spec_SampleOf) L ir12_b0) ir12_k0 ir12_o0 ir12_r0 L (E_spec_SampleOf_l1 count sgm_) = R_spec_SampleOf_l1 count rho_ := by
  refine loop_ex (E := E_spec_SampleOf_l1 count) (R := R_spec_SampleOf_l1 count) (fun y => by first | (intro c; cases c) | (rcases y with y | y <;> (intro c; cases c)) | (rcases y with y | y | y <;> (intro c; cases c))) ?_ h
  clear h
  rintro ⟨out, x, need, i⟩ o_ h
  dsimp only [spec_SampleOf_l1] at h
  rcases it_some h with ⟨hk6, h⟩ | ⟨hk6, h⟩
  · try simp only [go_sem, n1, n2, n3, n4] at hk6
    all_goals
    obtain ⟨hk7, h⟩ := ck_some h
    try simp only [go_sem, n1, n2, n3, n4, hk6] at hk7
    all_goals
    obtain ⟨hk8, h⟩ := ck_some h
    try simp only [go_sem, n1, n2, n3, n4, hk6, hk7] at hk8
    all_goals
    rcases it_some h with ⟨hk9, h⟩ | ⟨hk9, h⟩
    · try simp only [go_sem, n1, n2, n3, n4, hk6, hk7, hk8] at hk9
      all_goals
      obtain ⟨hk10, h⟩ := ck_some h
      try simp only [go_sem, n1, n2, n3, n4, hk6, hk7, hk8, hk9] at hk10
      all_goals
      obtain rfl := so_some h
      refine ⟨0, fun L hL => ?_⟩
      simp only [go_sem, ir12, E_spec_SampleOf_l1, R_spec_SampleOf_l1, ir12_b0, ir12_k0, ir12_o0, ir12_r0, hk6, hk7, hk8, hk9, hk10]
    · try simp only [go_sem, n1, n2, n3, n4, hk6, hk7, hk8] at hk9
      all_goals
      obtain rfl := so_some h
      refine ⟨0, fun L hL => ?_⟩
      simp only [go_sem, ir12, E_spec_SampleOf_l1, R_spec_SampleOf_l1, ir12_b0, ir12_k0, ir12_o0, ir12_r0, hk6, hk7, hk8, hk9]
  · try simp only [go_sem, n1, n2, n3, n4] at hk6
    all_goals
    obtain rfl := so_some h
    refine ⟨0, fun L hL => ?_⟩
    simp only [go_sem, ir12, E_spec_SampleOf_l1, R_spec_SampleOf_l1, ir12_b0, ir12_k0, ir12_o0, ir12_r0, hk6]

theorem Fs_spec_SampleOf {count : Int} {many : Int} {seed : Int} {y_ : (List Int) × Int} (h : spec_SampleOf count many seed = some y_) : c_spec_SampleOf.F [.int .i64 count, .int .i64 many, .int .i64 seed] = ⟨true, .tup [.fresh 1 (List.map (AV.int .i64) y_.1), .int .i64 y_.2], [.any, .any, .any]⟩ := by
  refine mkF_E (by simp only [flatA, flatB, flat1, List.all_cons, List.all_nil, Bool.and_self, flatE_map (f := (AV.int .i64)) (fun _ => rfl)]) ?_
  dsimp only [spec_SampleOf] at h
  obtain ⟨y_1, hk1, h⟩ := bd_some h
  have fhk1 := Fs_spec_l00In hk1
  try simp only [go_sem] at fhk1
  obtain ⟨hk2, h⟩ := ck_some h
  rcases or_split hk2 with ⟨ghk2, hk2⟩ | ghk2
  · try simp only [go_sem, n1, n2, n3, n4] at ghk2
    all_goals
    obtain ⟨y_2, hhk2⟩ := Option.isSome_iff_exists.1 hk2
    have fhk2 := Fs_spec_l00In hhk2
    try simp only [go_sem] at fhk2
    obtain ⟨hk3, h⟩ := ck_some h
    rcases or_split hk3 with ⟨ghk3, hk3⟩ | ghk3
    · try simp only [go_sem, n1, n2, n3, n4, ghk2, hhk2] at ghk3
      all_goals
      obtain ⟨y_3, hhk3⟩ := Option.isSome_iff_exists.1 hk3
      have fhk3 := Fs_spec_l00In hhk3
      try simp only [go_sem] at fhk3
      rcases it_some h with ⟨hk4, h⟩ | ⟨hk4, h⟩
      · try simp only [go_sem, n1, n2, n3, n4, ghk2, hhk2, ghk3, hhk3] at hk4
        all_goals
        obtain rfl := so_some h
        refine ⟨0, fun L hL => ?_⟩
        simp only [go_sem, ir12, E_spec_SampleOf_l1, R_spec_SampleOf_l1, ir12_k0, ir12_o0, ir12_r0, fhk1, ghk2, hhk2, fhk2, ghk3, hhk3, fhk3, hk4]
      · try simp only [go_sem, n1, n2, n3, n4, ghk2, hhk2, ghk3, hhk3] at hk4
        all_goals
        rcases it_some h with ⟨hk5, h⟩ | ⟨hk5, h⟩
        · try simp only [go_sem, n1, n2, n3, n4, ghk2, hhk2, ghk3, hhk3, hk4] at hk5
          all_goals
          obtain rfl := so_some h
          refine ⟨0, fun L hL => ?_⟩
          simp only [go_sem, ir12, E_spec_SampleOf_l1, R_spec_SampleOf_l1, ir12_k0, ir12_o0, ir12_r0, fhk1, ghk2, hhk2, fhk2, ghk3, hhk3, fhk3, hk4, hk5]
        · try simp only [go_sem, n1, n2, n3, n4, ghk2, hhk2, ghk3, hhk3, hk4] at hk5
          all_goals
          obtain ⟨y_11, hk11, h⟩ := bd_some h
          obtain ⟨Lhk11, ehk11⟩ := spec_SampleOf_l1_ex hk11
          obtain rfl := so_some h
          refine ⟨Lhk11, fun L hL => ?_⟩
          have ehk11 := ehk11 L (by omega)
          try simp only [go_sem, E_spec_SampleOf_l1, R_spec_SampleOf_l1, ir12_k0, ir12_o0, ir12_r0] at ehk11
          simp only [go_sem, ir12, E_spec_SampleOf_l1, R_spec_SampleOf_l1, ir12_k0, ir12_o0, ir12_r0, fhk1, ghk2, hhk2, fhk2, ghk3, hhk3, fhk3, hk4, hk5, ehk11]
    · have ghk3n := no_f ghk3
      rcases or_t ghk3n with ghk3na | ⟨ghk3na, ghk3nb⟩
      · have ghk3nan := no_t ghk3na
        try simp only [go_sem, n1, n2, n3, n4, ghk2, hhk2] at ghk3nan
        all_goals
        rcases it_some h with ⟨hk4, h⟩ | ⟨hk4, h⟩
        · try simp only [go_sem, n1, n2, n3, n4, ghk2, hhk2, ghk3nan] at hk4
          all_goals
          obtain rfl := so_some h
          refine ⟨0, fun L hL => ?_⟩
          simp only [go_sem, ir12, E_spec_SampleOf_l1, R_spec_SampleOf_l1, ir12_k0, ir12_o0, ir12_r0, fhk1, ghk2, hhk2, fhk2, ghk3nan, hk4]
        · try simp only [go_sem, n1, n2, n3, n4, ghk2, hhk2, ghk3nan] at hk4
          all_goals
          rcases it_some h with ⟨hk5, h⟩ | ⟨hk5, h⟩
          · try simp only [go_sem, n1, n2, n3, n4, ghk2, hhk2, ghk3nan, hk4] at hk5
            all_goals
            obtain rfl := so_some h
            refine ⟨0, fun L hL => ?_⟩
            simp only [go_sem, ir12, E_spec_SampleOf_l1, R_spec_SampleOf_l1, ir12_k0, ir12_o0, ir12_r0, fhk1, ghk2, hhk2, fhk2, ghk3nan, hk4, hk5]
          · try simp only [go_sem, n1, n2, n3, n4, ghk2, hhk2, ghk3nan, hk4] at hk5
            all_goals
            obtain ⟨y_11, hk11, h⟩ := bd_some h
            obtain ⟨Lhk11, ehk11⟩ := spec_SampleOf_l1_ex hk11
            obtain rfl := so_some h
            refine ⟨Lhk11, fun L hL => ?_⟩
            have ehk11 := ehk11 L (by omega)
            try simp only [go_sem, E_spec_SampleOf_l1, R_spec_SampleOf_l1, ir12_k0, ir12_o0, ir12_r0] at ehk11
            simp only [go_sem, ir12, E_spec_SampleOf_l1, R_spec_SampleOf_l1, ir12_k0, ir12_o0, ir12_r0, fhk1, ghk2, hhk2, fhk2, ghk3nan, hk4, hk5, ehk11]
      · have ghk3nan := no_f ghk3na
        have ghk3nbn := no_t ghk3nb
        try simp only [go_sem, n1, n2, n3, n4, ghk2, hhk2] at ghk3nan
        all_goals
        try simp only [go_sem, n1, n2, n3, n4, ghk2, hhk2, ghk3nan] at ghk3nbn
        all_goals
        rcases it_some h with ⟨hk4, h⟩ | ⟨hk4, h⟩
        · try simp only [go_sem, n1, n2, n3, n4, ghk2, hhk2, ghk3nan, ghk3nbn] at hk4
          all_goals
          obtain rfl := so_some h
          refine ⟨0, fun L hL => ?_⟩
          simp only [go_sem, ir12, E_spec_SampleOf_l1, R_spec_SampleOf_l1, ir12_k0, ir12_o0, ir12_r0, fhk1, ghk2, hhk2, fhk2, ghk3nan, ghk3nbn, hk4]
        · try simp only [go_sem, n1, n2, n3, n4, ghk2, hhk2, ghk3nan, ghk3nbn] at hk4
          all_goals
          rcases it_some h with ⟨hk5, h⟩ | ⟨hk5, h⟩
          · try simp only [go_sem, n1, n2, n3, n4, ghk2, hhk2, ghk3nan, ghk3nbn, hk4] at hk5
            all_goals
            obtain rfl := so_some h
            refine ⟨0, fun L hL => ?_⟩
            simp only [go_sem, ir12, E_spec_SampleOf_l1, R_spec_SampleOf_l1, ir12_k0, ir12_o0, ir12_r0, fhk1, ghk2, hhk2, fhk2, ghk3nan, ghk3nbn, hk4, hk5]
          · try simp only [go_sem, n1, n2, n3, n4, ghk2, hhk2, ghk3nan, ghk3nbn, hk4] at hk5
            all_goals
            obtain ⟨y_11, hk11, h⟩ := bd_some h
            obtain ⟨Lhk11, ehk11⟩ := spec_SampleOf_l1_ex hk11
            obtain rfl := so_some h
            refine ⟨Lhk11, fun L hL => ?_⟩
            have ehk11 := ehk11 L (by omega)
            try simp only [go_sem, E_spec_SampleOf_l1, R_spec_SampleOf_l1, ir12_k0, ir12_o0, ir12_r0] at ehk11
            simp only [go_sem, ir12, E_spec_SampleOf_l1, R_spec_SampleOf_l1, ir12_k0, ir12_o0, ir12_r0, fhk1, ghk2, hhk2, fhk2, ghk3nan, ghk3nbn, hk4, hk5, ehk11]
  · have ghk2n := no_f ghk2
    have ghk2nn := no_t ghk2n
    try simp only [go_sem, n1, n2, n3, n4] at ghk2nn
    all_goals
    obtain ⟨hk3, h⟩ := ck_some h
    rcases or_split hk3 with ⟨ghk3, hk3⟩ | ghk3
    · try simp only [go_sem, n1, n2, n3, n4, ghk2nn] at ghk3
      all_goals
      obtain ⟨y_3, hhk3⟩ := Option.isSome_iff_exists.1 hk3
      have fhk3 := Fs_spec_l00In hhk3
      try simp only [go_sem] at fhk3
      rcases it_some h with ⟨hk4, h⟩ | ⟨hk4, h⟩
      · try simp only [go_sem, n1, n2, n3, n4, ghk2nn, ghk3, hhk3] at hk4
        all_goals
        obtain rfl := so_some h
        refine ⟨0, fun L hL => ?_⟩
        simp only [go_sem, ir12, E_spec_SampleOf_l1, R_spec_SampleOf_l1, ir12_k0, ir12_o0, ir12_r0, fhk1, ghk2nn, ghk3, hhk3, fhk3, hk4]
      · try simp only [go_sem, n1, n2, n3, n4, ghk2nn, ghk3, hhk3] at hk4
        all_goals
        rcases it_some h with ⟨hk5, h⟩ | ⟨hk5, h⟩
        · try simp only [go_sem, n1, n2, n3, n4, ghk2nn, ghk3, hhk3, hk4] at hk5
          all_goals
          obtain rfl := so_some h
          refine ⟨0, fun L hL => ?_⟩
          simp only [go_sem, ir12, E_spec_SampleOf_l1, R_spec_SampleOf_l1, ir12_k0, ir12_o0, ir12_r0, fhk1, ghk2nn, ghk3, hhk3, fhk3, hk4, hk5]
        · try simp only [go_sem, n1, n2, n3, n4, ghk2nn, ghk3, hhk3, hk4] at hk5
          all_goals
          obtain ⟨y_11, hk11, h⟩ := bd_some h
          obtain ⟨Lhk11, ehk11⟩ := spec_SampleOf_l1_ex hk11
          obtain rfl := so_some h
          refine ⟨Lhk11, fun L hL => ?_⟩
          have ehk11 := ehk11 L (by omega)
          try simp only [go_sem, E_spec_SampleOf_l1, R_spec_SampleOf_l1, ir12_k0, ir12_o0, ir12_r0] at ehk11
          simp only [go_sem, ir12, E_spec_SampleOf_l1, R_spec_SampleOf_l1, ir12_k0, ir12_o0, ir12_r0, fhk1, ghk2nn, ghk3, hhk3, fhk3, hk4, hk5, ehk11]
    · have ghk3n := no_f ghk3
      rcases or_t ghk3n with ghk3na | ⟨ghk3na, ghk3nb⟩
      · have ghk3nan := no_t ghk3na
        try simp only [go_sem, n1, n2, n3, n4, ghk2nn] at ghk3nan
        all_goals
        rcases it_some h with ⟨hk4, h⟩ | ⟨hk4, h⟩
        · try simp only [go_sem, n1, n2, n3, n4, ghk2nn, ghk3nan] at hk4
          all_goals
          obtain rfl := so_some h
          refine ⟨0, fun L hL => ?_⟩
          simp only [go_sem, ir12, E_spec_SampleOf_l1, R_spec_SampleOf_l1, ir12_k0, ir12_o0, ir12_r0, fhk1, ghk2nn, ghk3nan, hk4]
        · try simp only [go_sem, n1, n2, n3, n4, ghk2nn, ghk3nan] at hk4
          all_goals
          rcases it_some h with ⟨hk5, h⟩ | ⟨hk5, h⟩
          · try simp only [go_sem, n1, n2, n3, n4, ghk2nn, ghk3nan, hk4] at hk5
            all_goals
            obtain rfl := so_some h
            refine ⟨0, fun L hL => ?_⟩
            simp only [go_sem, ir12, E_spec_SampleOf_l1, R_spec_SampleOf_l1, ir12_k0, ir12_o0, ir12_r0, fhk1, ghk2nn, ghk3nan, hk4, hk5]
          · try simp only [go_sem, n1, n2, n3, n4, ghk2nn, ghk3nan, hk4] at hk5
            all_goals
            obtain ⟨y_11, hk11, h⟩ := bd_some h
            obtain ⟨Lhk11, ehk11⟩ := spec_SampleOf_l1_ex hk11
            obtain rfl := so_some h
            refine ⟨Lhk11, fun L hL => ?_⟩
            have ehk11 := ehk11 L (by omega)
            try simp only [go_sem, E_spec_SampleOf_l1, R_spec_SampleOf_l1, ir12_k0, ir12_o0, ir12_r0] at ehk11
            simp only [go_sem, ir12, E_spec_SampleOf_l1, R_spec_SampleOf_l1, ir12_k0, ir12_o0, ir12_r0, fhk1, ghk2nn, ghk3nan, hk4, hk5, ehk11]
      · have ghk3nan := no_f ghk3na
        have ghk3nbn := no_t ghk3nb
        try simp only [go_sem, n1, n2, n3, n4, ghk2nn] at ghk3nan
        all_goals
        try simp only [go_sem, n1, n2, n3, n4, ghk2nn, ghk3nan] at ghk3nbn
        all_goals
        rcases it_some h with ⟨hk4, h⟩ | ⟨hk4, h⟩
        · try simp only [go_sem, n1, n2, n3, n4, ghk2nn, ghk3nan, ghk3nbn] at hk4
          all_goals
          obtain rfl := so_some h
          refine ⟨0, fun L hL => ?_⟩
          simp only [go_sem, ir12, E_spec_SampleOf_l1, R_spec_SampleOf_l1, ir12_k0, ir12_o0, ir12_r0, fhk1, ghk2nn, ghk3nan, ghk3nbn, hk4]
        · try simp only [go_sem, n1, n2, n3, n4, ghk2nn, ghk3nan, ghk3nbn] at hk4
          all_goals
          rcases it_some h with ⟨hk5, h⟩ | ⟨hk5, h⟩
          · try simp only [go_sem, n1, n2, n3, n4, ghk2nn, ghk3nan, ghk3nbn, hk4] at hk5
            all_goals
            obtain rfl := so_some h
            refine ⟨0, fun L hL => ?_⟩
            simp only [go_sem, ir12, E_spec_SampleOf_l1, R_spec_SampleOf_l1, ir12_k0, ir12_o0, ir12_r0, fhk1, ghk2nn, ghk3nan, ghk3nbn, hk4, hk5]
          · try simp only [go_sem, n1, n2, n3, n4, ghk2nn, ghk3nan, ghk3nbn, hk4] at hk5
            all_goals
            obtain ⟨y_11, hk11, h⟩ := bd_some h
            obtain ⟨Lhk11, ehk11⟩ := spec_SampleOf_l1_ex hk11
            obtain rfl := so_some h
            refine ⟨Lhk11, fun L hL => ?_⟩
            have ehk11 := ehk11 L (by omega)
            try simp only [go_sem, E_spec_SampleOf_l1, R_spec_SampleOf_l1, ir12_k0, ir12_o0, ir12_r0] at ehk11
            simp only [go_sem, ir12, E_spec_SampleOf_l1, R_spec_SampleOf_l1, ir12_k0, ir12_o0, ir12_r0, fhk1, ghk2nn, ghk3nan, ghk3nbn, hk4, hk5, ehk11]


def ir29_v : List Nat := [0, 1, 2, 6]
def ir29 : AFn := ⟨3, 4, .seq (.region false [
    ⟨.var 3, 6, none, .mov (.c (.bool false))⟩])
 (.seq (.region false [
    ⟨.push, 7, none, .mov (.v 0)⟩,
    ⟨.push, 8, none, .mov (.v 1)⟩,
    ⟨.push, 9, none, .bin false .geq (.s 1) (.s 0)⟩,
    ⟨.push, 10, none, .mov (.s 0)⟩,
    ⟨.push, 11, (some ((.s 0), true)), .mov (.v 0)⟩,
    ⟨.push, 12, (some ((.s 1), true)), .mov (.v 2)⟩,
    ⟨.push, 13, (some ((.s 2), true)), .bin false .leq (.s 1) (.s 0)⟩,
    ⟨.push, 14, none, .pick (.s 3) (.s 0) (.c (.bool false))⟩,
    ⟨.var 3, 6, none, .mov (.s 0)⟩])
 (.ret)), [.t 3]⟩
noncomputable def t_impl_in : List (Nat × Ctr) := []
noncomputable def c_impl_in : Ctr := mkF t_impl_in ir29 [.bor, .bor, .bor]
theorem s_impl_in : Sound Try.prog 29 c_impl_in := mkF_sound _ rfl snd_nil (by kernel_rfl : chkFn Try.prog 29 ir29 ir29_v = true)
theorem M_impl_in : c_impl_in.modes = [.bor, .bor, .bor] := rfl
theorem Fl_impl_in : c_impl_in.flat = true := rfl
attribute [go_sem] M_impl_in Fl_impl_in
theorem Fs_impl_in {n : Int} {low : Int} {high : Int} {y_ : Bool} (h : impl_in n low high = some y_) : c_impl_in.F [.int .i64 n, .int .i64 low, .int .i64 high] = ⟨true, .bool y_, [.any, .any, .any]⟩ := by
  refine mkF_E rfl ?_
  dsimp only [impl_in] at h
  obtain rfl := so_some h
  refine ⟨0, fun L hL => ?_⟩
  simp only [go_sem, ir29]


def ir13_b0 : IR := .seq (.test false [
    ⟨.push, 31, none, .mov (.v 7)⟩,
    ⟨.push, 32, none, .mov (.v 0)⟩,
    ⟨.push, 33, none, .bin false .lss (.s 1) (.s 0)⟩,
    ⟨.push, 34, none, .mov (.s 0)⟩,
    ⟨.push, 35, (some ((.s 0), true)), .mov (.v 5)⟩,
    ⟨.push, 36, (some ((.s 1), true)), .len false (.s 0)⟩,
    ⟨.push, 37, (some ((.s 2), true)), .mov (.v 1)⟩,
    ⟨.push, 38, (some ((.s 3), true)), .bin false .lss (.s 1) (.s 0)⟩,
    ⟨.push, 39, none, .pick (.s 4) (.s 0) (.c (.bool false))⟩] (.s 0)
  (.skip)
  (.exit 1))
 (.seq (.block 2 (.seq (.region false [
      ⟨.push, 42, none, .mov (.v 6)⟩,
      ⟨.push, 43, none, .bin false .mul (.c (.int .i64 (75))) (.s 0)⟩,
      ⟨.push, 44, none, .bin false .add (.s 0) (.c (.int .i64 (74)))⟩,
      ⟨.push, 45, none, .bin false .rem (.s 0) (.c (.int .i64 (65537)))⟩,
      ⟨.var 6, 9, none, .mov (.s 0)⟩])
   (.test false [
     ⟨.push, 46, none, .mov (.v 6)⟩,
     ⟨.push, 47, none, .mov (.v 0)⟩,
     ⟨.push, 48, none, .mov (.v 7)⟩,
     ⟨.push, 49, none, .bin false .sub (.s 1) (.s 0)⟩,
     ⟨.push, 50, none, .bin false .rem (.s 3) (.s 0)⟩,
     ⟨.push, 51, none, .mov (.v 1)⟩,
     ⟨.push, 52, none, .mov (.v 5)⟩,
     ⟨.push, 53, none, .len false (.s 0)⟩,
     ⟨.push, 54, none, .bin false .sub (.s 2) (.s 0)⟩,
     ⟨.push, 55, none, .bin false .lss (.s 4) (.s 0)⟩] (.s 0)
   (.region false [
      ⟨.push, 56, none, .mov (.v 5)⟩,
      ⟨.push, 57, none, .mov (.v 7)⟩,
      ⟨.push, 58, none, .mkSl 1 (.int .i64 (0)) 1 [(0, (.s 0))]⟩,
      ⟨.push, 59, none, .app 1 8 (.int .i64 (0)) (.s 2) (.s 0)⟩,
      ⟨.var 5, 8, none, .mov (.s 0)⟩])
   (.skip))))
 (.region false [
   ⟨.push, 40, none, .mov (.v 7)⟩,
   ⟨.push, 41, none, .bin false .add (.s 0) (.c (.int .i64 (1)))⟩,
   ⟨.var 7, 10, none, .mov (.s 0)⟩]))
def ir13_k0 : List Bool := [true, true, false, false, false, true, true, true]
def ir13_o0 : List Bool := [false, false, false, false, false, true, false, false]
def ir13_r0 : List Bool := [false, false, false, true, true, false, false, false]
def ir13_v : List Nat := [0, 1, 2, 6, 7, 8, 9, 10]
def ir13 : AFn := ⟨3, 8, .seq (.region false [
    ⟨.var 3, 6, none, .newnil 1⟩,
    ⟨.var 4, 7, none, .mov (.c (.int .i64 (0)))⟩])
 (.seq (.block 0 (.test false [
     ⟨.push, 12, none, .mov (.v 0)⟩,
     ⟨.push, 13, none, .call 29 [(.s 0), (.c (.int .i64 (0))), (.c (.int .i64 (10000)))]⟩,
     ⟨.push, 14, none, .un .not (.s 0)⟩,
     ⟨.push, 15, none, .mov (.s 0)⟩,
     ⟨.push, 16, (some ((.s 0), false)), .mov (.v 1)⟩,
     ⟨.push, 17, (some ((.s 1), false)), .call 29 [(.s 0), (.c (.int .i64 (0))), (.c (.int .i64 (100)))]⟩,
     ⟨.push, 18, (some ((.s 2), false)), .un .not (.s 0)⟩,
     ⟨.push, 19, none, .pick (.s 3) (.c (.bool true)) (.s 0)⟩,
     ⟨.push, 20, none, .mov (.s 0)⟩,
     ⟨.push, 21, (some ((.s 0), false)), .mov (.v 2)⟩,
     ⟨.push, 22, (some ((.s 1), false)), .call 29 [(.s 0), (.c (.int .i64 (0))), (.c (.int .i64 (65535)))]⟩,
     ⟨.push, 23, (some ((.s 2), false)), .un .not (.s 0)⟩,
     ⟨.push, 24, none, .pick (.s 3) (.c (.bool true)) (.s 0)⟩,
     ⟨.push, 11, none, .mov (.s 0)⟩] (.s 0)
   (.seq (.region false [
       ⟨.var 3, 6, none, .newnil 1⟩,
       ⟨.var 4, 7, none, .mov (.c (.int .i64 (2)))⟩])
    (.ret))
   (.test false [
      ⟨.push, 26, none, .mov (.v 1)⟩,
      ⟨.push, 27, none, .mov (.v 0)⟩,
      ⟨.push, 28, none, .bin false .gtr (.s 1) (.s 0)⟩,
      ⟨.push, 25, none, .mov (.s 0)⟩] (.s 0)
    (.seq (.region false [
        ⟨.var 3, 6, none, .newnil 1⟩,
        ⟨.var 4, 7, none, .mov (.c (.int .i64 (6)))⟩])
     (.ret))
    (.skip))))
 (.seq (.region false [
    ⟨.push, 29, none, .mkSl 1 (.int .i64 (0)) 0 []⟩,
    ⟨.push, 30, none, .mov (.v 2)⟩,
    ⟨.var 5, 8, none, .mov (.s 1)⟩,
    ⟨.var 6, 9, none, .mov (.s 0)⟩])
 (.seq (.seq (.region false [
     ⟨.var 7, 10, none, .mov (.c (.int .i64 (0)))⟩])
  (.block 1 (.loop ir13_k0 ir13_o0 ir13_r0 ir13_b0)))
 (.seq (.region false [
    ⟨.push, 60, none, .mov (.v 5)⟩,
    ⟨.var 3, 6, none, .mov (.s 0)⟩,
    ⟨.var 4, 7, none, .mov (.c (.int .i64 (0)))⟩])
 (.ret))))), [.t 3, .t 4]⟩
noncomputable def t_impl_SampleOf : List (Nat × Ctr) := [(29, c_impl_in)]
theorem lk_impl_SampleOf_29 : look t_impl_SampleOf 29 = some c_impl_in := rfl
noncomputable def c_impl_SampleOf : Ctr := mkF t_impl_SampleOf ir13 [.bor, .bor, .bor]
theorem s_impl_SampleOf : Sound Try.prog 13 c_impl_SampleOf := mkF_sound _ rfl (snd_cons s_impl_in snd_nil) (by kernel_rfl : chkFn Try.prog 13 ir13 ir13_v = true)
theorem M_impl_SampleOf : c_impl_SampleOf.modes = [.bor, .bor, .bor] := rfl
theorem Fl_impl_SampleOf : c_impl_SampleOf.flat = true := rfl
attribute [go_sem] M_impl_SampleOf Fl_impl_SampleOf
attribute [go_sem] lk_impl_SampleOf_29
def E_impl_SampleOf_l1 (count : Int) (many : Int) : ((List Int) × Int × Int) → St
  | (out, x, i) => ⟨[.int .i64 count, .int .i64 many, .any, .any, .any, .own 3200000, .int .i64 x, .int .i64 i], [], [(3200000, ⟨1, List.map (AV.int .i64) out⟩)], true⟩
def R_impl_SampleOf_l1 (count : Int) (many : Int) (y : (List Int)) : Res := (.exit 1, ⟨[.any, .any, .any, .any, .any, .own 3200000, .any, .any], [], [(3200000, ⟨1, List.map (AV.int .i64) y⟩)], true⟩)
theorem impl_SampleOf_l1_ex {count : Int} {many : Int} {sgm_ : (List Int) × Int × Int} {rho_ : (List Int)} (h : whileE (impl_SampleOf_l1 count many) sgm_ = some rho_) : ∃ L0, ∀ L, L0 ≤ L → iter (exec (look t_impl_SampleOf) L ir13_b0) ir13_k0 ir13_o0 ir13_r0 L (E_impl_SampleOf_l1 count many sgm_) = R_impl_SampleOf_l1 count many rho_ := by
  refine loop_ex (E := E_impl_SampleOf_l1 count many) (R := R_impl_SampleOf_l1 count many) (fun y => by first | (intro c; cases c) | (rcases y with y | y <;> (intro c; cases c)) | (rcases y with y | y | y <;> (intro c; cases c))) ?_ h
  clear h
  rintro ⟨out, x, i⟩ o_ h
  dsimp only [impl_SampleOf_l1] at h
  rcases it_some h with ⟨hk6, h⟩ | ⟨hk6, h⟩
  · try simp only [go_sem, n1, n2, n3, n4] at hk6
    all_goals
    obtain ⟨hk7, h⟩ := ck_some h
    try simp only [go_sem, n1, n2, n3, n4, hk6] at hk7
    all_goals
    obtain ⟨hk8, h⟩ := ck_some h
    try simp only [go_sem, n1, n2, n3, n4, hk6, hk7] at hk8
    all_goals
    rcases it_some h with ⟨hk9, h⟩ | ⟨hk9, h⟩
    · try simp only [go_sem, n1, n2, n3, n4, hk6, hk7, hk8] at hk9
      all_goals
      obtain ⟨hk10, h⟩ := ck_some h
      try simp only [go_sem, n1, n2, n3, n4, hk6, hk7, hk8, hk9] at hk10
      all_goals
      obtain rfl := so_some h
      refine ⟨0, fun L hL => ?_⟩
      simp only [go_sem, ir13, E_impl_SampleOf_l1, R_impl_SampleOf_l1, ir13_b0, ir13_k0, ir13_o0, ir13_r0, hk6, hk7, hk8, hk9, hk10]
    · try simp only [go_sem, n1, n2, n3, n4, hk6, hk7, hk8] at hk9
      all_goals
      obtain rfl := so_some h
      refine ⟨0, fun L hL => ?_⟩
      simp only [go_sem, ir13, E_impl_SampleOf_l1, R_impl_SampleOf_l1, ir13_b0, ir13_k0, ir13_o0, ir13_r0, hk6, hk7, hk8, hk9]
  · try simp only [go_sem, n1, n2, n3, n4] at hk6
    all_goals
    obtain rfl := so_some h
    refine ⟨0, fun L hL => ?_⟩
    simp only [go_sem, ir13, E_impl_SampleOf_l1, R_impl_SampleOf_l1, ir13_b0, ir13_k0, ir13_o0, ir13_r0, hk6]

theorem Fs_impl_SampleOf {count : Int} {many : Int} {seed : Int} {y_ : (List Int) × Int} (h : impl_SampleOf count many seed = some y_) : c_impl_SampleOf.F [.int .i64 count, .int .i64 many, .int .i64 seed] = ⟨true, .tup [.fresh 1 (List.map (AV.int .i64) y_.1), .int .i64 y_.2], [.any, .any, .any]⟩ := by
  refine mkF_E (by simp only [flatA, flatB, flat1, List.all_cons, List.all_nil, Bool.and_self, flatE_map (f := (AV.int .i64)) (fun _ => rfl)]) ?_
  dsimp only [impl_SampleOf] at h
  obtain ⟨y_1, hk1, h⟩ := bd_some h
  have fhk1 := Fs_impl_in hk1
  try simp only [go_sem] at fhk1
  obtain ⟨hk2, h⟩ := ck_some h
  rcases or_split hk2 with ⟨ghk2, hk2⟩ | ghk2
  · try simp only [go_sem, n1, n2, n3, n4] at ghk2
    all_goals
    obtain ⟨y_2, hhk2⟩ := Option.isSome_iff_exists.1 hk2
    have fhk2 := Fs_impl_in hhk2
    try simp only [go_sem] at fhk2
    obtain ⟨hk3, h⟩ := ck_some h
    rcases or_split hk3 with ⟨ghk3, hk3⟩ | ghk3
    · try simp only [go_sem, n1, n2, n3, n4, ghk2, hhk2] at ghk3
      all_goals
      obtain ⟨y_3, hhk3⟩ := Option.isSome_iff_exists.1 hk3
      have fhk3 := Fs_impl_in hhk3
      try simp only [go_sem] at fhk3
      rcases it_some h with ⟨hk4, h⟩ | ⟨hk4, h⟩
      · try simp only [go_sem, n1, n2, n3, n4, ghk2, hhk2, ghk3, hhk3] at hk4
        all_goals
        obtain rfl := so_some h
        refine ⟨0, fun L hL => ?_⟩
        simp only [go_sem, ir13, E_impl_SampleOf_l1, R_impl_SampleOf_l1, ir13_k0, ir13_o0, ir13_r0, fhk1, ghk2, hhk2, fhk2, ghk3, hhk3, fhk3, hk4]
      · try simp only [go_sem, n1, n2, n3, n4, ghk2, hhk2, ghk3, hhk3] at hk4
        all_goals
        rcases it_some h with ⟨hk5, h⟩ | ⟨hk5, h⟩
        · try simp only [go_sem, n1, n2, n3, n4, ghk2, hhk2, ghk3, hhk3, hk4] at hk5
          all_goals
          obtain rfl := so_some h
          refine ⟨0, fun L hL => ?_⟩
          simp only [go_sem, ir13, E_impl_SampleOf_l1, R_impl_SampleOf_l1, ir13_k0, ir13_o0, ir13_r0, fhk1, ghk2, hhk2, fhk2, ghk3, hhk3, fhk3, hk4, hk5]
        · try simp only [go_sem, n1, n2, n3, n4, ghk2, hhk2, ghk3, hhk3, hk4] at hk5
          all_goals
          obtain ⟨y_11, hk11, h⟩ := bd_some h
          obtain ⟨Lhk11, ehk11⟩ := impl_SampleOf_l1_ex hk11
          obtain rfl := so_some h
          refine ⟨Lhk11, fun L hL => ?_⟩
          have ehk11 := ehk11 L (by omega)
          try simp only [go_sem, E_impl_SampleOf_l1, R_impl_SampleOf_l1, ir13_k0, ir13_o0, ir13_r0] at ehk11
          simp only [go_sem, ir13, E_impl_SampleOf_l1, R_impl_SampleOf_l1, ir13_k0, ir13_o0, ir13_r0, fhk1, ghk2, hhk2, fhk2, ghk3, hhk3, fhk3, hk4, hk5, ehk11]
    · have ghk3n := no_f ghk3
      rcases or_t ghk3n with ghk3na | ⟨ghk3na, ghk3nb⟩
      · have ghk3nan := no_t ghk3na
        try simp only [go_sem, n1, n2, n3, n4, ghk2, hhk2] at ghk3nan
        all_goals
        rcases it_some h with ⟨hk4, h⟩ | ⟨hk4, h⟩
        · try simp only [go_sem, n1, n2, n3, n4, ghk2, hhk2, ghk3nan] at hk4
          all_goals
          obtain rfl := so_some h
          refine ⟨0, fun L hL => ?_⟩
          simp only [go_sem, ir13, E_impl_SampleOf_l1, R_impl_SampleOf_l1, ir13_k0, ir13_o0, ir13_r0, fhk1, ghk2, hhk2, fhk2, ghk3nan, hk4]
        · try simp only [go_sem, n1, n2, n3, n4, ghk2, hhk2, ghk3nan] at hk4
          all_goals
          rcases it_some h with ⟨hk5, h⟩ | ⟨hk5, h⟩
          · try simp only [go_sem, n1, n2, n3, n4, ghk2, hhk2, ghk3nan, hk4] at hk5
            all_goals
            obtain rfl := so_some h
            refine ⟨0, fun L hL => ?_⟩
            simp only [go_sem, ir13, E_impl_SampleOf_l1, R_impl_SampleOf_l1, ir13_k0, ir13_o0, ir13_r0, fhk1, ghk2, hhk2, fhk2, ghk3nan, hk4, hk5]
          · try simp only [go_sem, n1, n2, n3, n4, ghk2, hhk2, ghk3nan, hk4] at hk5
            all_goals
            obtain ⟨y_11, hk11, h⟩ := bd_some h
            obtain ⟨Lhk11, ehk11⟩ := impl_SampleOf_l1_ex hk11
            obtain rfl := so_some h
            refine ⟨Lhk11, fun L hL => ?_⟩
            have ehk11 := ehk11 L (by omega)
            try simp only [go_sem, E_impl_SampleOf_l1, R_impl_SampleOf_l1, ir13_k0, ir13_o0, ir13_r0] at ehk11
            simp only [go_sem, ir13, E_impl_SampleOf_l1, R_impl_SampleOf_l1, ir13_k0, ir13_o0, ir13_r0, fhk1, ghk2, hhk2, fhk2, ghk3nan, hk4, hk5, ehk11]
      · have ghk3nan := no_f ghk3na
        have ghk3nbn := no_t ghk3nb
        try simp only [go_sem, n1, n2, n3, n4, ghk2, hhk2] at ghk3nan
        all_goals
        try simp only [go_sem, n1, n2, n3, n4, ghk2, hhk2, ghk3nan] at ghk3nbn
        all_goals
        rcases it_some h with ⟨hk4, h⟩ | ⟨hk4, h⟩
        · try simp only [go_sem, n1, n2, n3, n4, ghk2, hhk2, ghk3nan, ghk3nbn] at hk4
          all_goals
          obtain rfl := so_some h
          refine ⟨0, fun L hL => ?_⟩
          simp only [go_sem, ir13, E_impl_SampleOf_l1, R_impl_SampleOf_l1, ir13_k0, ir13_o0, ir13_r0, fhk1, ghk2, hhk2, fhk2, ghk3nan, ghk3nbn, hk4]
        · try simp only [go_sem, n1, n2, n3, n4, ghk2, hhk2, ghk3nan, ghk3nbn] at hk4
          all_goals
          rcases it_some h with ⟨hk5, h⟩ | ⟨hk5, h⟩
          · try simp only [go_sem, n1, n2, n3, n4, ghk2, hhk2, ghk3nan, ghk3nbn, hk4] at hk5
            all_goals
            obtain rfl := so_some h
            refine ⟨0, fun L hL => ?_⟩
            simp only [go_sem, ir13, E_impl_SampleOf_l1, R_impl_SampleOf_l1, ir13_k0, ir13_o0, ir13_r0, fhk1, ghk2, hhk2, fhk2, ghk3nan, ghk3nbn, hk4, hk5]
          · try simp only [go_sem, n1, n2, n3, n4, ghk2, hhk2, ghk3nan, ghk3nbn, hk4] at hk5
            all_goals
            obtain ⟨y_11, hk11, h⟩ := bd_some h
            obtain ⟨Lhk11, ehk11⟩ := impl_SampleOf_l1_ex hk11
            obtain rfl := so_some h
            refine ⟨Lhk11, fun L hL => ?_⟩
            have ehk11 := ehk11 L (by omega)
            try simp only [go_sem, E_impl_SampleOf_l1, R_impl_SampleOf_l1, ir13_k0, ir13_o0, ir13_r0] at ehk11
            simp only [go_sem, ir13, E_impl_SampleOf_l1, R_impl_SampleOf_l1, ir13_k0, ir13_o0, ir13_r0, fhk1, ghk2, hhk2, fhk2, ghk3nan, ghk3nbn, hk4, hk5, ehk11]
  · have ghk2n := no_f ghk2
    have ghk2nn := no_t ghk2n
    try simp only [go_sem, n1, n2, n3, n4] at ghk2nn
    all_goals
    obtain ⟨hk3, h⟩ := ck_some h
    rcases or_split hk3 with ⟨ghk3, hk3⟩ | ghk3
    · try simp only [go_sem, n1, n2, n3, n4, ghk2nn] at ghk3
      all_goals
      obtain ⟨y_3, hhk3⟩ := Option.isSome_iff_exists.1 hk3
      have fhk3 := Fs_impl_in hhk3
      try simp only [go_sem] at fhk3
      rcases it_some h with ⟨hk4, h⟩ | ⟨hk4, h⟩
      · try simp only [go_sem, n1, n2, n3, n4, ghk2nn, ghk3, hhk3] at hk4
        all_goals
        obtain rfl := so_some h
        refine ⟨0, fun L hL => ?_⟩
        simp only [go_sem, ir13, E_impl_SampleOf_l1, R_impl_SampleOf_l1, ir13_k0, ir13_o0, ir13_r0, fhk1, ghk2nn, ghk3, hhk3, fhk3, hk4]
      · try simp only [go_sem, n1, n2, n3, n4, ghk2nn, ghk3, hhk3] at hk4
        all_goals
        rcases it_some h with ⟨hk5, h⟩ | ⟨hk5, h⟩
        · try simp only [go_sem, n1, n2, n3, n4, ghk2nn, ghk3, hhk3, hk4] at hk5
          all_goals
          obtain rfl := so_some h
          refine ⟨0, fun L hL => ?_⟩
          simp only [go_sem, ir13, E_impl_SampleOf_l1, R_impl_SampleOf_l1, ir13_k0, ir13_o0, ir13_r0, fhk1, ghk2nn, ghk3, hhk3, fhk3, hk4, hk5]
        · try simp only [go_sem, n1, n2, n3, n4, ghk2nn, ghk3, hhk3, hk4] at hk5
          all_goals
          obtain ⟨y_11, hk11, h⟩ := bd_some h
          obtain ⟨Lhk11, ehk11⟩ := impl_SampleOf_l1_ex hk11
          obtain rfl := so_some h
          refine ⟨Lhk11, fun L hL => ?_⟩
          have ehk11 := ehk11 L (by omega)
          try simp only [go_sem, E_impl_SampleOf_l1, R_impl_SampleOf_l1, ir13_k0, ir13_o0, ir13_r0] at ehk11
          simp only [go_sem, ir13, E_impl_SampleOf_l1, R_impl_SampleOf_l1, ir13_k0, ir13_o0, ir13_r0, fhk1, ghk2nn, ghk3, hhk3, fhk3, hk4, hk5, ehk11]
    · have ghk3n := no_f ghk3
      rcases or_t ghk3n with ghk3na | ⟨ghk3na, ghk3nb⟩
      · have ghk3nan := no_t ghk3na
        try simp only [go_sem, n1, n2, n3, n4, ghk2nn] at ghk3nan
        all_goals
        rcases it_some h with ⟨hk4, h⟩ | ⟨hk4, h⟩
        · try simp only [go_sem, n1, n2, n3, n4, ghk2nn, ghk3nan] at hk4
          all_goals
          obtain rfl := so_some h
          refine ⟨0, fun L hL => ?_⟩
          simp only [go_sem, ir13, E_impl_SampleOf_l1, R_impl_SampleOf_l1, ir13_k0, ir13_o0, ir13_r0, fhk1, ghk2nn, ghk3nan, hk4]
        · try simp only [go_sem, n1, n2, n3, n4, ghk2nn, ghk3nan] at hk4
          all_goals
          rcases it_some h with ⟨hk5, h⟩ | ⟨hk5, h⟩
          · try simp only [go_sem, n1, n2, n3, n4, ghk2nn, ghk3nan, hk4] at hk5
            all_goals
            obtain rfl := so_some h
            refine ⟨0, fun L hL => ?_⟩
            simp only [go_sem, ir13, E_impl_SampleOf_l1, R_impl_SampleOf_l1, ir13_k0, ir13_o0, ir13_r0, fhk1, ghk2nn, ghk3nan, hk4, hk5]
          · try simp only [go_sem, n1, n2, n3, n4, ghk2nn, ghk3nan, hk4] at hk5
            all_goals
            obtain ⟨y_11, hk11, h⟩ := bd_some h
            obtain ⟨Lhk11, ehk11⟩ := impl_SampleOf_l1_ex hk11
            obtain rfl := so_some h
            refine ⟨Lhk11, fun L hL => ?_⟩
            have ehk11 := ehk11 L (by omega)
            try simp only [go_sem, E_impl_SampleOf_l1, R_impl_SampleOf_l1, ir13_k0, ir13_o0, ir13_r0] at ehk11
            simp only [go_sem, ir13, E_impl_SampleOf_l1, R_impl_SampleOf_l1, ir13_k0, ir13_o0, ir13_r0, fhk1, ghk2nn, ghk3nan, hk4, hk5, ehk11]
      · have ghk3nan := no_f ghk3na
        have ghk3nbn := no_t ghk3nb
        try simp only [go_sem, n1, n2, n3, n4, ghk2nn] at ghk3nan
        all_goals
        try simp only [go_sem, n1, n2, n3, n4, ghk2nn, ghk3nan] at ghk3nbn
        all_goals
        rcases it_some h with ⟨hk4, h⟩ | ⟨hk4, h⟩
        · try simp only [go_sem, n1, n2, n3, n4, ghk2nn, ghk3nan, ghk3nbn] at hk4
          all_goals
          obtain rfl := so_some h
          refine ⟨0, fun L hL => ?_⟩
          simp only [go_sem, ir13, E_impl_SampleOf_l1, R_impl_SampleOf_l1, ir13_k0, ir13_o0, ir13_r0, fhk1, ghk2nn, ghk3nan, ghk3nbn, hk4]
        · try simp only [go_sem, n1, n2, n3, n4, ghk2nn, ghk3nan, ghk3nbn] at hk4
          all_goals
          rcases it_some h with ⟨hk5, h⟩ | ⟨hk5, h⟩
          · try simp only [go_sem, n1, n2, n3, n4, ghk2nn, ghk3nan, ghk3nbn, hk4] at hk5
            all_goals
            obtain rfl := so_some h
            refine ⟨0, fun L hL => ?_⟩
            simp only [go_sem, ir13, E_impl_SampleOf_l1, R_impl_SampleOf_l1, ir13_k0, ir13_o0, ir13_r0, fhk1, ghk2nn, ghk3nan, ghk3nbn, hk4, hk5]
          · try simp only [go_sem, n1, n2, n3, n4, ghk2nn, ghk3nan, ghk3nbn, hk4] at hk5
            all_goals
            obtain ⟨y_11, hk11, h⟩ := bd_some h
            obtain ⟨Lhk11, ehk11⟩ := impl_SampleOf_l1_ex hk11
            obtain rfl := so_some h
            refine ⟨Lhk11, fun L hL => ?_⟩
            have ehk11 := ehk11 L (by omega)
            try simp only [go_sem, E_impl_SampleOf_l1, R_impl_SampleOf_l1, ir13_k0, ir13_o0, ir13_r0] at ehk11
            simp only [go_sem, ir13, E_impl_SampleOf_l1, R_impl_SampleOf_l1, ir13_k0, ir13_o0, ir13_r0, fhk1, ghk2nn, ghk3nan, ghk3nbn, hk4, hk5, ehk11]


def ir14_b0 : IR := .seq (.test false [
    ⟨.push, 11, none, .mov (.v 3)⟩,
    ⟨.push, 12, none, .mov (.v 0)⟩,
    ⟨.push, 13, none, .len false (.s 0)⟩,
    ⟨.push, 14, none, .bin false .lss (.s 2) (.s 0)⟩] (.s 0)
  (.skip)
  (.exit 0))
 (.seq (.block 1 (.anyo 9 [
     ⟨.slot 0, 17, none, .mov (.v 0)⟩,
     ⟨.slot 1, 18, none, .mov (.v 3)⟩,
     ⟨.slot 2, 19, none, .ixAddr 1 (.s 0) (.s 1)⟩,
     ⟨.slot 3, 20, none, .load false 1 (.s 2)⟩,
     ⟨.slot 4, 21, none, .mov (.v 1)⟩,
     ⟨.slot 5, 22, none, .mov (.v 3)⟩,
     ⟨.slot 6, 23, none, .ixAddr 1 (.s 4) (.s 5)⟩,
     ⟨.slot 7, 24, none, .load false 1 (.s 6)⟩,
     ⟨.slot 8, 25, none, .bin false .neq (.s 3) (.s 7)⟩] [] (.cond (.s 8)
   (.seq (.region false [
       ⟨.var 2, 4, none, .mov (.c (.bool false))⟩])
    (.ret))
   (.skip))))
 (.region false [
   ⟨.push, 15, none, .mov (.v 3)⟩,
   ⟨.push, 16, none, .bin false .add (.s 0) (.c (.int .i64 (1)))⟩,
   ⟨.var 3, 5, none, .mov (.s 0)⟩]))
def ir14_k0 : List Bool := [true, true, false, true]
def ir14_o0 : List Bool := [false, false, false, false]
def ir14_r0 : List Bool := [false, false, true, false]
def ir14_v : List Nat := [0, 1, 4, 5]
def ir14 : AFn := ⟨2, 4, .seq (.region false [
    ⟨.var 2, 4, none, .mov (.c (.bool false))⟩])
 (.seq (.test false [
    ⟨.push, 6, none, .mov (.v 0)⟩,
    ⟨.push, 7, none, .len false (.s 0)⟩,
    ⟨.push, 8, none, .mov (.v 1)⟩,
    ⟨.push, 9, none, .len false (.s 0)⟩,
    ⟨.push, 10, none, .bin false .neq (.s 2) (.s 0)⟩] (.s 0)
  (.seq (.region false [
      ⟨.var 2, 4, none, .mov (.c (.bool false))⟩])
   (.ret))
  (.skip))
 (.seq (.seq (.region false [
     ⟨.var 3, 5, none, .mov (.c (.int .i64 (0)))⟩])
  (.block 0 (.loop ir14_k0 ir14_o0 ir14_r0 ir14_b0)))
 (.seq (.region false [
    ⟨.var 2, 4, none, .mov (.c (.bool true))⟩])
 (.ret)))), [.t 2]⟩
noncomputable def t_laws_eqInt64S : List (Nat × Ctr) := []
noncomputable def c_laws_eqInt64S : Ctr := mkF t_laws_eqInt64S ir14 [.bor, .bor]
theorem s_laws_eqInt64S : Sound Try.prog 14 c_laws_eqInt64S := mkF_sound _ rfl snd_nil (by kernel_rfl : chkFn Try.prog 14 ir14 ir14_v = true)
theorem M_laws_eqInt64S : c_laws_eqInt64S.modes = [.bor, .bor] := rfl
theorem Fl_laws_eqInt64S : c_laws_eqInt64S.flat = true := rfl
attribute [go_sem] M_laws_eqInt64S Fl_laws_eqInt64S
def E_laws_eqInt64S_l1 (a : List Int) (b : List Int) : Int → St
  | i => ⟨[.sl 1 (List.map (AV.int .i64) a), .sl 1 (List.map (AV.int .i64) b), .any, .int .i64 i], [], [], true⟩
def R_laws_eqInt64S_l1 (a : List Int) (b : List Int) : (Unit ⊕ Bool) → Res
  | .inl y => (.exit 0, ⟨[.any, .any, .any, .any], [], [], true⟩)
  | .inr y => (.ret, ⟨[.any, .any, .bool y, .any], [], [], true⟩)
theorem laws_eqInt64S_l1_ex {a : List Int} {b : List Int} {sgm_ : Int} {rho_ : Unit ⊕ Bool} (h : whileE (laws_eqInt64S_l1 a b) sgm_ = some rho_) : ∃ L0, ∀ L, L0 ≤ L → iter (exec (look t_laws_eqInt64S) L ir14_b0) ir14_k0 ir14_o0 ir14_r0 L (E_laws_eqInt64S_l1 a b sgm_) = R_laws_eqInt64S_l1 a b rho_ := by
  refine loop_ex (E := E_laws_eqInt64S_l1 a b) (R := R_laws_eqInt64S_l1 a b) (fun y => by first | (intro c; cases c) | (rcases y with y | y <;> (intro c; cases c)) | (rcases y with y | y | y <;> (intro c; cases c))) ?_ h
  clear h
  intro i o_ h
  dsimp only [laws_eqInt64S_l1] at h
  rcases it_some h with ⟨hk2, h⟩ | ⟨hk2, h⟩
  · try simp only [go_sem, n1, n2, n3, n4] at hk2
    all_goals
    obtain ⟨hk3, h⟩ := ck_some h
    have lhk3 := ix_lt hk3
    have xhk3 := getD_mapD (AV.int .i64) a lhk3
    try simp only [go_sem] at lhk3
    try simp only [go_sem] at xhk3
    try simp only [go_sem, n1, n2, n3, n4, hk2] at hk3
    all_goals
    obtain ⟨hk4, h⟩ := ck_some h
    have lhk4 := ix_lt hk4
    have xhk4 := getD_mapD (AV.int .i64) b lhk4
    try simp only [go_sem] at lhk4
    try simp only [go_sem] at xhk4
    try simp only [go_sem, n1, n2, n3, n4, hk2, hk3] at hk4
    all_goals
    rcases it_some h with ⟨hk5, h⟩ | ⟨hk5, h⟩
    · try simp only [go_sem, n1, n2, n3, n4, hk2, hk3, hk4] at hk5
      all_goals
      obtain rfl := so_some h
      refine ⟨0, fun L hL => ?_⟩
      simp only [go_sem, ir14, E_laws_eqInt64S_l1, R_laws_eqInt64S_l1, ir14_b0, ir14_k0, ir14_o0, ir14_r0, hk2, hk3, lhk3, xhk3, hk4, lhk4, xhk4, hk5]
    · try simp only [go_sem, n1, n2, n3, n4, hk2, hk3, hk4] at hk5
      all_goals
      obtain rfl := so_some h
      refine ⟨0, fun L hL => ?_⟩
      simp only [go_sem, ir14, E_laws_eqInt64S_l1, R_laws_eqInt64S_l1, ir14_b0, ir14_k0, ir14_o0, ir14_r0, hk2, hk3, lhk3, xhk3, hk4, lhk4, xhk4, hk5]
  · try simp only [go_sem, n1, n2, n3, n4] at hk2
    all_goals
    obtain rfl := so_some h
    refine ⟨0, fun L hL => ?_⟩
    simp only [go_sem, ir14, E_laws_eqInt64S_l1, R_laws_eqInt64S_l1, ir14_b0, ir14_k0, ir14_o0, ir14_r0, hk2]

theorem Fs_laws_eqInt64S {a : List Int} {b : List Int} {y_ : Bool} (h : laws_eqInt64S a b = some y_) : c_laws_eqInt64S.F [.sl 1 (List.map (AV.int .i64) a), .sl 1 (List.map (AV.int .i64) b)] = ⟨true, .bool y_, [.any, .any]⟩ := by
  refine mkF_E rfl ?_
  dsimp only [laws_eqInt64S] at h
  rcases it_some h with ⟨hk1, h⟩ | ⟨hk1, h⟩
  · try simp only [go_sem, n1, n2, n3, n4] at hk1
    all_goals
    obtain rfl := so_some h
    refine ⟨0, fun L hL => ?_⟩
    simp only [go_sem, ir14, E_laws_eqInt64S_l1, R_laws_eqInt64S_l1, ir14_k0, ir14_o0, ir14_r0, hk1]
  · try simp only [go_sem, n1, n2, n3, n4] at hk1
    all_goals
    obtain ⟨y_6, hk6, h⟩ := bd_some h
    obtain ⟨Lhk6, ehk6⟩ := laws_eqInt64S_l1_ex hk6
    rcases y_6 with y_6a | y_6b
    · dsimp only at h
      obtain rfl := so_some h
      refine ⟨Lhk6, fun L hL => ?_⟩
      have ehk6 := ehk6 L (by omega)
      try simp only [go_sem, E_laws_eqInt64S_l1, R_laws_eqInt64S_l1, ir14_k0, ir14_o0, ir14_r0] at ehk6
      simp only [go_sem, ir14, E_laws_eqInt64S_l1, R_laws_eqInt64S_l1, ir14_k0, ir14_o0, ir14_r0, hk1, ehk6]
    · dsimp only at h
      obtain rfl := so_some h
      refine ⟨Lhk6, fun L hL => ?_⟩
      have ehk6 := ehk6 L (by omega)
      try simp only [go_sem, E_laws_eqInt64S_l1, R_laws_eqInt64S_l1, ir14_k0, ir14_o0, ir14_r0] at ehk6
      simp only [go_sem, ir14, E_laws_eqInt64S_l1, R_laws_eqInt64S_l1, ir14_k0, ir14_o0, ir14_r0, hk1, ehk6]


def ir15_b0 : IR := .seq (.test false [
    ⟨.push, 6, none, .mov (.v 3)⟩,
    ⟨.push, 7, none, .mov (.v 0)⟩,
    ⟨.push, 8, none, .len false (.s 0)⟩,
    ⟨.push, 9, none, .bin false .lss (.s 2) (.s 0)⟩] (.s 0)
  (.skip)
  (.exit 0))
 (.seq (.block 1 (.seq (.region false [
      ⟨.push, 12, none, .mov (.v 0)⟩,
      ⟨.push, 13, none, .mov (.v 3)⟩,
      ⟨.push, 14, none, .mov (.v 1)⟩,
      ⟨.push, 15, none, .ixAddr 1 (.s 2) (.s 1)⟩,
      ⟨.no, 0, none, .store 1 (.s 0) (.s 1)⟩])
   (.region false [
     ⟨.push, 16, none, .mov (.v 1)⟩,
     ⟨.push, 17, none, .bin false .add (.s 0) (.c (.int .i64 (1)))⟩,
     ⟨.var 1, 1, none, .mov (.s 0)⟩])))
 (.region false [
   ⟨.push, 10, none, .mov (.v 3)⟩,
   ⟨.push, 11, none, .bin false .add (.s 0) (.c (.int .i64 (1)))⟩,
   ⟨.var 3, 5, none, .mov (.s 0)⟩]))
def ir15_k0 : List Bool := [true, true, false, true]
def ir15_o0 : List Bool := [true, true, false, false]
def ir15_r0 : List Bool := [true, false, true, false]
def ir15_v : List Nat := [0, 1, 4, 5]
def ir15 : AFn := ⟨2, 4, .seq (.region false [
    ⟨.var 2, 4, none, .mov (.c (.int .i64 (0)))⟩])
 (.seq (.seq (.region false [
     ⟨.var 3, 5, none, .mov (.c (.int .i64 (0)))⟩])
  (.block 0 (.loop ir15_k0 ir15_o0 ir15_r0 ir15_b0)))
 (.seq (.region false [
    ⟨.push, 18, none, .mov (.v 1)⟩,
    ⟨.var 2, 4, none, .mov (.s 0)⟩])
 (.ret))), [.t 2]⟩
noncomputable def t_laws_markInt64S : List (Nat × Ctr) := []
noncomputable def c_laws_markInt64S : Ctr := mkN t_laws_markInt64S ir15 [.io, .bor]
theorem s_laws_markInt64S : Sound Try.prog 15 c_laws_markInt64S := mkN_sound _ snd_nil (by kernel_rfl : chkFn Try.prog 15 ir15 ir15_v = true)
theorem M_laws_markInt64S : c_laws_markInt64S.modes = [.io, .bor] := rfl
theorem Fl_laws_markInt64S : c_laws_markInt64S.flat = false := rfl
attribute [go_sem] M_laws_markInt64S Fl_laws_markInt64S
def E_laws_markInt64S_l1  : ((List Int) × Int × Int) → St
  | (a, k, i) => ⟨[.own 31, .int .i64 k, .any, .int .i64 i], [], [(31, ⟨1, List.map (AV.int .i64) a⟩)], true⟩
def R_laws_markInt64S_l1  (y : (List Int) × Int) : Res := (.exit 0, ⟨[.own 31, .int .i64 y.2, .any, .any], [], [(31, ⟨1, List.map (AV.int .i64) y.1⟩)], true⟩)
theorem laws_markInt64S_l1_ex  {sgm_ : (List Int) × Int × Int} {rho_ : (List Int) × Int} (h : whileE (laws_markInt64S_l1) sgm_ = some rho_) : ∃ L0, ∀ L, L0 ≤ L → iter (exec (look t_laws_markInt64S) L ir15_b0) ir15_k0 ir15_o0 ir15_r0 L (E_laws_markInt64S_l1 sgm_) = R_laws_markInt64S_l1 rho_ := by
  refine loop_ex (E := E_laws_markInt64S_l1) (R := R_laws_markInt64S_l1) (fun y => by first | (intro c; cases c) | (rcases y with y | y <;> (intro c; cases c)) | (rcases y with y | y | y <;> (intro c; cases c))) ?_ h
  clear h
  rintro ⟨a, k, i⟩ o_ h
  dsimp only [laws_markInt64S_l1] at h
  rcases it_some h with ⟨hk1, h⟩ | ⟨hk1, h⟩
  · try simp only [go_sem, n1, n2, n3, n4] at hk1
    all_goals
    obtain ⟨hk2, h⟩ := ck_some h
    have lhk2 := ix_lt hk2
    have xhk2 := getD_mapD (AV.int .i64) a lhk2
    try simp only [go_sem] at lhk2
    try simp only [go_sem] at xhk2
    try simp only [go_sem, n1, n2, n3, n4, hk1] at hk2
    all_goals
    obtain rfl := so_some h
    refine ⟨0, fun L hL => ?_⟩
    simp only [go_sem, ir15, E_laws_markInt64S_l1, R_laws_markInt64S_l1, ir15_b0, ir15_k0, ir15_o0, ir15_r0, hk1, hk2, lhk2, xhk2]
  · try simp only [go_sem, n1, n2, n3, n4] at hk1
    all_goals
    obtain rfl := so_some h
    refine ⟨0, fun L hL => ?_⟩
    simp only [go_sem, ir15, E_laws_markInt64S_l1, R_laws_markInt64S_l1, ir15_b0, ir15_k0, ir15_o0, ir15_r0, hk1]

theorem Fs_laws_markInt64S {a : List Int} {k : Int} {y_ : Int × (List Int)} (h : laws_markInt64S a k = some y_) : c_laws_markInt64S.F [.fresh 1 (List.map (AV.int .i64) a), .int .i64 k] = ⟨true, .int .i64 y_.1, [.fresh 1 (List.map (AV.int .i64) y_.2), .any]⟩ := by
  refine mkN_E ?_
  dsimp only [laws_markInt64S] at h
  obtain ⟨y_3, hk3, h⟩ := bd_some h
  obtain ⟨Lhk3, ehk3⟩ := laws_markInt64S_l1_ex hk3
  obtain ⟨hk4, h⟩ := ck_some h
  try simp only [go_sem, n1, n2, n3, n4] at hk4
  all_goals
  obtain rfl := so_some h
  refine ⟨Lhk3, fun L hL => ?_⟩
  have ehk3 := ehk3 L (by omega)
  try simp only [go_sem, E_laws_markInt64S_l1, R_laws_markInt64S_l1, ir15_k0, ir15_o0, ir15_r0] at ehk3
  simp only [go_sem, ir15, E_laws_markInt64S_l1, R_laws_markInt64S_l1, ir15_k0, ir15_o0, ir15_r0, hk4, ehk3]


def ir16_b0 : IR := .seq (.test false [
    ⟨.push, 6, none, .mov (.v 3)⟩,
    ⟨.push, 7, none, .mov (.v 0)⟩,
    ⟨.push, 8, none, .len false (.s 0)⟩,
    ⟨.push, 9, none, .bin false .lss (.s 2) (.s 0)⟩] (.s 0)
  (.skip)
  (.exit 0))
 (.seq (.block 1 (.seq (.test false [
      ⟨.push, 12, none, .mov (.v 0)⟩,
      ⟨.push, 13, none, .mov (.v 3)⟩,
      ⟨.push, 14, none, .ixAddr 1 (.s 1) (.s 0)⟩,
      ⟨.push, 15, none, .load false 1 (.s 0)⟩,
      ⟨.push, 16, none, .mov (.v 1)⟩,
      ⟨.push, 17, none, .bin false .neq (.s 1) (.s 0)⟩] (.s 0)
    (.seq (.region false [
        ⟨.var 2, 4, none, .mov (.c (.int .i64 (-1)))⟩])
     (.ret))
    (.skip))
   (.region false [
     ⟨.push, 18, none, .mov (.v 1)⟩,
     ⟨.push, 19, none, .bin false .add (.s 0) (.c (.int .i64 (1)))⟩,
     ⟨.var 1, 1, none, .mov (.s 0)⟩])))
 (.region false [
   ⟨.push, 10, none, .mov (.v 3)⟩,
   ⟨.push, 11, none, .bin false .add (.s 0) (.c (.int .i64 (1)))⟩,
   ⟨.var 3, 5, none, .mov (.s 0)⟩]))
def ir16_k0 : List Bool := [true, true, false, true]
def ir16_o0 : List Bool := [false, true, false, false]
def ir16_r0 : List Bool := [false, false, true, false]
def ir16_v : List Nat := [0, 1, 4, 5]
def ir16 : AFn := ⟨2, 4, .seq (.region false [
    ⟨.var 2, 4, none, .mov (.c (.int .i64 (0)))⟩])
 (.seq (.seq (.region false [
     ⟨.var 3, 5, none, .mov (.c (.int .i64 (0)))⟩])
  (.block 0 (.loop ir16_k0 ir16_o0 ir16_r0 ir16_b0)))
 (.seq (.region false [
    ⟨.push, 20, none, .mov (.v 1)⟩,
    ⟨.var 2, 4, none, .mov (.s 0)⟩])
 (.ret))), [.t 2]⟩
noncomputable def t_laws_heldInt64S : List (Nat × Ctr) := []
noncomputable def c_laws_heldInt64S : Ctr := mkF t_laws_heldInt64S ir16 [.bor, .bor]
theorem s_laws_heldInt64S : Sound Try.prog 16 c_laws_heldInt64S := mkF_sound _ rfl snd_nil (by kernel_rfl : chkFn Try.prog 16 ir16 ir16_v = true)
theorem M_laws_heldInt64S : c_laws_heldInt64S.modes = [.bor, .bor] := rfl
theorem Fl_laws_heldInt64S : c_laws_heldInt64S.flat = true := rfl
attribute [go_sem] M_laws_heldInt64S Fl_laws_heldInt64S
def E_laws_heldInt64S_l1 (a : List Int) : (Int × Int) → St
  | (k, i) => ⟨[.sl 1 (List.map (AV.int .i64) a), .int .i64 k, .any, .int .i64 i], [], [], true⟩
def R_laws_heldInt64S_l1 (a : List Int) : (Int ⊕ Int) → Res
  | .inl y => (.exit 0, ⟨[.any, .int .i64 y, .any, .any], [], [], true⟩)
  | .inr y => (.ret, ⟨[.any, .any, .int .i64 y, .any], [], [], true⟩)
theorem laws_heldInt64S_l1_ex {a : List Int} {sgm_ : Int × Int} {rho_ : Int ⊕ Int} (h : whileE (laws_heldInt64S_l1 a) sgm_ = some rho_) : ∃ L0, ∀ L, L0 ≤ L → iter (exec (look t_laws_heldInt64S) L ir16_b0) ir16_k0 ir16_o0 ir16_r0 L (E_laws_heldInt64S_l1 a sgm_) = R_laws_heldInt64S_l1 a rho_ := by
  refine loop_ex (E := E_laws_heldInt64S_l1 a) (R := R_laws_heldInt64S_l1 a) (fun y => by first | (intro c; cases c) | (rcases y with y | y <;> (intro c; cases c)) | (rcases y with y | y | y <;> (intro c; cases c))) ?_ h
  clear h
  rintro ⟨k, i⟩ o_ h
  dsimp only [laws_heldInt64S_l1] at h
  rcases it_some h with ⟨hk1, h⟩ | ⟨hk1, h⟩
  · try simp only [go_sem, n1, n2, n3, n4] at hk1
    all_goals
    obtain ⟨hk2, h⟩ := ck_some h
    have lhk2 := ix_lt hk2
    have xhk2 := getD_mapD (AV.int .i64) a lhk2
    try simp only [go_sem] at lhk2
    try simp only [go_sem] at xhk2
    try simp only [go_sem, n1, n2, n3, n4, hk1] at hk2
    all_goals
    rcases it_some h with ⟨hk3, h⟩ | ⟨hk3, h⟩
    · try simp only [go_sem, n1, n2, n3, n4, hk1, hk2] at hk3
      all_goals
      obtain rfl := so_some h
      refine ⟨0, fun L hL => ?_⟩
      simp only [go_sem, ir16, E_laws_heldInt64S_l1, R_laws_heldInt64S_l1, ir16_b0, ir16_k0, ir16_o0, ir16_r0, hk1, hk2, lhk2, xhk2, hk3]
    · try simp only [go_sem, n1, n2, n3, n4, hk1, hk2] at hk3
      all_goals
      obtain rfl := so_some h
      refine ⟨0, fun L hL => ?_⟩
      simp only [go_sem, ir16, E_laws_heldInt64S_l1, R_laws_heldInt64S_l1, ir16_b0, ir16_k0, ir16_o0, ir16_r0, hk1, hk2, lhk2, xhk2, hk3]
  · try simp only [go_sem, n1, n2, n3, n4] at hk1
    all_goals
    obtain rfl := so_some h
    refine ⟨0, fun L hL => ?_⟩
    simp only [go_sem, ir16, E_laws_heldInt64S_l1, R_laws_heldInt64S_l1, ir16_b0, ir16_k0, ir16_o0, ir16_r0, hk1]

theorem Fs_laws_heldInt64S {a : List Int} {k : Int} {y_ : Int} (h : laws_heldInt64S a k = some y_) : c_laws_heldInt64S.F [.sl 1 (List.map (AV.int .i64) a), .int .i64 k] = ⟨true, .int .i64 y_, [.any, .any]⟩ := by
  refine mkF_E rfl ?_
  dsimp only [laws_heldInt64S] at h
  obtain ⟨y_4, hk4, h⟩ := bd_some h
  obtain ⟨Lhk4, ehk4⟩ := laws_heldInt64S_l1_ex hk4
  rcases y_4 with y_4a | y_4b
  · dsimp only at h
    obtain rfl := so_some h
    refine ⟨Lhk4, fun L hL => ?_⟩
    have ehk4 := ehk4 L (by omega)
    try simp only [go_sem, E_laws_heldInt64S_l1, R_laws_heldInt64S_l1, ir16_k0, ir16_o0, ir16_r0] at ehk4
    simp only [go_sem, ir16, E_laws_heldInt64S_l1, R_laws_heldInt64S_l1, ir16_k0, ir16_o0, ir16_r0, ehk4]
  · dsimp only at h
    obtain rfl := so_some h
    refine ⟨Lhk4, fun L hL => ?_⟩
    have ehk4 := ehk4 L (by omega)
    try simp only [go_sem, E_laws_heldInt64S_l1, R_laws_heldInt64S_l1, ir16_k0, ir16_o0, ir16_r0] at ehk4
    simp only [go_sem, ir16, E_laws_heldInt64S_l1, R_laws_heldInt64S_l1, ir16_k0, ir16_o0, ir16_r0, ehk4]


def ir4_v : List Nat := [0, 1, 2, 6, 7, 8, 9, 10, 11, 12, 13, 14]
def ir4 : AFn := ⟨3, 12, .seq (.region false [
    ⟨.var 3, 6, none, .mov (.c (.bool false))⟩])
 (.seq (.region false [
    ⟨.push, 16, none, .mov (.v 0)⟩,
    ⟨.push, 17, none, .mov (.v 1)⟩,
    ⟨.push, 18, none, .mov (.v 2)⟩,
    ⟨.push, 19, none, .call 12 [(.s 2), (.s 1), (.s 0)]⟩,
    ⟨.push, 15, none, .mov (.s 0)⟩,
    ⟨.push, 20, none, .ext (.s 0) 0⟩,
    ⟨.push, 21, none, .ext (.s 1) 1⟩,
    ⟨.var 4, 7, none, .mov (.s 1)⟩,
    ⟨.var 5, 8, none, .mov (.s 0)⟩])
 (.seq (.region false [
    ⟨.push, 23, none, .mov (.v 0)⟩,
    ⟨.push, 24, none, .mov (.v 1)⟩,
    ⟨.push, 25, none, .mov (.v 2)⟩,
    ⟨.push, 26, none, .call 13 [(.s 2), (.s 1), (.s 0)]⟩,
    ⟨.push, 22, none, .mov (.s 0)⟩,
    ⟨.push, 27, none, .ext (.s 0) 0⟩,
    ⟨.push, 28, none, .ext (.s 1) 1⟩,
    ⟨.var 6, 9, none, .mov (.s 1)⟩,
    ⟨.var 7, 10, none, .mov (.s 0)⟩])
 (.seq (.test false [
    ⟨.push, 29, none, .mov (.v 6)⟩,
    ⟨.push, 30, none, .mov (.v 4)⟩,
    ⟨.push, 31, none, .call 14 [(.s 1), (.s 0)]⟩,
    ⟨.push, 32, none, .un .not (.s 0)⟩,
    ⟨.push, 33, none, .mov (.s 0)⟩,
    ⟨.push, 34, (some ((.s 0), false)), .mov (.v 7)⟩,
    ⟨.push, 35, (some ((.s 1), false)), .mov (.v 5)⟩,
    ⟨.push, 36, (some ((.s 2), false)), .bin false .neq (.s 1) (.s 0)⟩,
    ⟨.push, 37, none, .pick (.s 3) (.c (.bool true)) (.s 0)⟩] (.s 0)
  (.seq (.region false [
      ⟨.var 3, 6, none, .mov (.c (.bool false))⟩])
   (.ret))
  (.skip))
 (.seq (.region false [
    ⟨.var 8, 11, none, .mov (.c (.int .i64 (1)))⟩])
 (.seq (.region false [
    ⟨.push, 38, none, .mov (.v 6)⟩,
    ⟨.push, 39, none, .mov (.v 8)⟩,
    ⟨.push, 40, none, .call 15 [(.s 1), (.s 0)]⟩,
    ⟨.var 8, 11, none, .mov (.s 0)⟩])
 (.seq (.region false [
    ⟨.var 9, 12, none, .mov (.c (.int .i64 (1)))⟩])
 (.seq (.region false [
    ⟨.push, 41, none, .mov (.v 6)⟩,
    ⟨.push, 42, none, .mov (.v 9)⟩,
    ⟨.push, 43, none, .call 16 [(.s 1), (.s 0)]⟩,
    ⟨.var 9, 12, none, .mov (.s 0)⟩])
 (.seq (.test false [
    ⟨.push, 44, none, .mov (.v 9)⟩,
    ⟨.push, 45, none, .bin false .lss (.s 0) (.c (.int .i64 (0)))⟩] (.s 0)
  (.seq (.region false [
      ⟨.var 3, 6, none, .mov (.c (.bool false))⟩])
   (.ret))
  (.skip))
 (.seq (.test false [
    ⟨.push, 46, none, .mov (.v 9)⟩,
    ⟨.push, 47, none, .mov (.v 8)⟩,
    ⟨.push, 48, none, .bin false .neq (.s 1) (.s 0)⟩] (.s 0)
  (.seq (.region false [
      ⟨.var 3, 6, none, .mov (.c (.bool false))⟩])
   (.ret))
  (.skip))
 (.seq (.region false [
    ⟨.push, 50, none, .mov (.v 0)⟩,
    ⟨.push, 51, none, .mov (.v 1)⟩,
    ⟨.push, 52, none, .mov (.v 2)⟩,
    ⟨.push, 53, none, .call 13 [(.s 2), (.s 1), (.s 0)]⟩,
    ⟨.push, 49, none, .mov (.s 0)⟩,
    ⟨.push, 54, none, .ext (.s 0) 0⟩,
    ⟨.push, 55, none, .ext (.s 1) 1⟩,
    ⟨.var 10, 13, none, .mov (.s 1)⟩,
    ⟨.var 11, 14, none, .mov (.s 0)⟩])
 (.seq (.test false [
    ⟨.push, 56, none, .mov (.v 10)⟩,
    ⟨.push, 57, none, .mov (.v 4)⟩,
    ⟨.push, 58, none, .call 14 [(.s 1), (.s 0)]⟩,
    ⟨.push, 59, none, .un .not (.s 0)⟩,
    ⟨.push, 60, none, .mov (.s 0)⟩,
    ⟨.push, 61, (some ((.s 0), false)), .mov (.v 11)⟩,
    ⟨.push, 62, (some ((.s 1), false)), .mov (.v 5)⟩,
    ⟨.push, 63, (some ((.s 2), false)), .bin false .neq (.s 1) (.s 0)⟩,
    ⟨.push, 64, none, .pick (.s 3) (.c (.bool true)) (.s 0)⟩] (.s 0)
  (.seq (.region false [
      ⟨.var 3, 6, none, .mov (.c (.bool false))⟩])
   (.ret))
  (.skip))
 (.seq (.region false [
    ⟨.var 9, 12, none, .mov (.c (.int .i64 (1)))⟩])
 (.seq (.region false [
    ⟨.push, 65, none, .mov (.v 6)⟩,
    ⟨.push, 66, none, .mov (.v 9)⟩,
    ⟨.push, 67, none, .call 16 [(.s 1), (.s 0)]⟩,
    ⟨.var 9, 12, none, .mov (.s 0)⟩])
 (.seq (.test false [
    ⟨.push, 68, none, .mov (.v 9)⟩,
    ⟨.push, 69, none, .bin false .lss (.s 0) (.c (.int .i64 (0)))⟩] (.s 0)
  (.seq (.region false [
      ⟨.var 3, 6, none, .mov (.c (.bool false))⟩])
   (.ret))
  (.skip))
 (.seq (.test false [
    ⟨.push, 70, none, .mov (.v 9)⟩,
    ⟨.push, 71, none, .mov (.v 8)⟩,
    ⟨.push, 72, none, .bin false .neq (.s 1) (.s 0)⟩] (.s 0)
  (.seq (.region false [
      ⟨.var 3, 6, none, .mov (.c (.bool false))⟩])
   (.ret))
  (.skip))
 (.seq (.region false [
    ⟨.var 3, 6, none, .mov (.c (.bool true))⟩])
 (.ret))))))))))))))))), [.t 3]⟩
noncomputable def t_laws_FnExactSampleOf : List (Nat × Ctr) := [(12, c_spec_SampleOf), (13, c_impl_SampleOf), (14, c_laws_eqInt64S), (15, c_laws_markInt64S), (16, c_laws_heldInt64S)]
theorem lk_laws_FnExactSampleOf_12 : look t_laws_FnExactSampleOf 12 = some c_spec_SampleOf := rfl
theorem lk_laws_FnExactSampleOf_13 : look t_laws_FnExactSampleOf 13 = some c_impl_SampleOf := rfl
theorem lk_laws_FnExactSampleOf_14 : look t_laws_FnExactSampleOf 14 = some c_laws_eqInt64S := rfl
theorem lk_laws_FnExactSampleOf_15 : look t_laws_FnExactSampleOf 15 = some c_laws_markInt64S := rfl
theorem lk_laws_FnExactSampleOf_16 : look t_laws_FnExactSampleOf 16 = some c_laws_heldInt64S := rfl
noncomputable def c_laws_FnExactSampleOf : Ctr := mkF t_laws_FnExactSampleOf ir4 [.bor, .bor, .bor]
theorem s_laws_FnExactSampleOf : Sound Try.prog 4 c_laws_FnExactSampleOf := mkF_sound _ rfl (snd_cons s_spec_SampleOf (snd_cons s_impl_SampleOf (snd_cons s_laws_eqInt64S (snd_cons s_laws_markInt64S (snd_cons s_laws_heldInt64S snd_nil))))) (by kernel_rfl : chkFn Try.prog 4 ir4 ir4_v = true)
theorem M_laws_FnExactSampleOf : c_laws_FnExactSampleOf.modes = [.bor, .bor, .bor] := rfl
theorem Fl_laws_FnExactSampleOf : c_laws_FnExactSampleOf.flat = true := rfl
attribute [go_sem] M_laws_FnExactSampleOf Fl_laws_FnExactSampleOf
attribute [go_sem] lk_laws_FnExactSampleOf_12 lk_laws_FnExactSampleOf_13 lk_laws_FnExactSampleOf_14 lk_laws_FnExactSampleOf_15 lk_laws_FnExactSampleOf_16
theorem Fs_laws_FnExactSampleOf {aCount : Int} {aMany : Int} {aSeed : Int} {y_ : Bool} (h : laws_FnExactSampleOf aCount aMany aSeed = some y_) : c_laws_FnExactSampleOf.F [.int .i64 aCount, .int .i64 aMany, .int .i64 aSeed] = ⟨true, .bool y_, [.any, .any, .any]⟩ := by
  refine mkF_E rfl ?_
  dsimp only [laws_FnExactSampleOf] at h
  obtain ⟨y_1, hk1, h⟩ := bd_some h
  have fhk1 := Fs_spec_SampleOf hk1
  try simp only [go_sem] at fhk1
  obtain ⟨y_2, hk2, h⟩ := bd_some h
  have fhk2 := Fs_impl_SampleOf hk2
  try simp only [go_sem] at fhk2
  obtain ⟨y_3, hk3, h⟩ := bd_some h
  have fhk3 := Fs_laws_eqInt64S hk3
  try simp only [go_sem] at fhk3
  rcases it_some h with ⟨hk4, h⟩ | ⟨hk4, h⟩
  · try simp only [go_sem, n1, n2, n3, n4] at hk4
    all_goals
    obtain rfl := so_some h
    refine ⟨0, fun L hL => ?_⟩
    simp only [go_sem, ir4, fhk1, fhk2, fhk3, hk4]
  · try simp only [go_sem, n1, n2, n3, n4] at hk4
    all_goals
    obtain ⟨y_5, hk5, h⟩ := bd_some h
    have fhk5 := Fs_laws_markInt64S hk5
    try simp only [go_sem] at fhk5
    obtain ⟨y_6, hk6, h⟩ := bd_some h
    have fhk6 := Fs_laws_heldInt64S hk6
    try simp only [go_sem] at fhk6
    rcases it_some h with ⟨hk7, h⟩ | ⟨hk7, h⟩
    · try simp only [go_sem, n1, n2, n3, n4, hk4] at hk7
      all_goals
      obtain rfl := so_some h
      refine ⟨0, fun L hL => ?_⟩
      simp only [go_sem, ir4, fhk1, fhk2, fhk3, hk4, fhk5, fhk6, hk7]
    · try simp only [go_sem, n1, n2, n3, n4, hk4] at hk7
      all_goals
      rcases it_some h with ⟨hk8, h⟩ | ⟨hk8, h⟩
      · try simp only [go_sem, n1, n2, n3, n4, hk4, hk7] at hk8
        all_goals
        obtain rfl := so_some h
        refine ⟨0, fun L hL => ?_⟩
        simp only [go_sem, ir4, fhk1, fhk2, fhk3, hk4, fhk5, fhk6, hk7, hk8]
      · try simp only [go_sem, n1, n2, n3, n4, hk4, hk7] at hk8
        all_goals
        obtain rfl := so_some h
        refine ⟨0, fun L hL => ?_⟩
        simp only [go_sem, ir4, fhk1, fhk2, fhk3, hk4, fhk5, fhk6, hk7, hk8]


end Go.Proofs.Ytomdepgilgkpaaa
