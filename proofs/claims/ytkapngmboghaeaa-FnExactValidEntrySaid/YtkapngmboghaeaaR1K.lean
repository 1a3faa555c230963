/- Codes and contracts of the functions that R1 reaches, and that their typed forms say what they do. No condition. -/
import Derived.Test.YtkapngmboghaeaaR1T
import Derived.Test.YtkapngmboghaeaaRows
import Derived.WalkKit
namespace Go.Proofs.Ytkapngmboghaeaa
open Go Go.RowKit
set_option linter.unusedVariables false
set_option linter.unusedSimpArgs false
set_option maxRecDepth 10000

def ir31_v : List Nat := [0, 1, 2, 6]
def ir31 : AFn := ⟨3, 4, .seq (.region false [
    ⟨.var 3, 6, none, .mov (.c (.bool false))⟩])
 (.seq (.region false [
    ⟨.push, 7, none, .mov (.v 0)⟩,
    ⟨.push, 8, none, .mov (.v 1)⟩,
    ⟨.push, 9, none, .bin false .geq (.s 1) (.s 0)⟩,
    ⟨.push, 10, none, .mov (.s 0)⟩,
    ⟨.push, 11, (some ((.s 0), true)), .mov (.v 0)⟩,
    ⟨.push, 12, (some ((.s 1), true)), .mov (.v 2)⟩,
    ⟨.push, 13, (some ((.s 2), true)), .bin false .leq (.s 1) (.s 0)⟩,
    ⟨.push, 14, none, .pick (.s 3) (.s 0) (.c (.bool false))⟩,
    ⟨.var 3, 6, none, .mov (.s 0)⟩])
 (.ret)), [.t 3]⟩
noncomputable def t_spec_l00In : List (Nat × Ctr) := []
noncomputable def c_spec_l00In : Ctr := mkF t_spec_l00In ir31 [.bor, .bor, .bor]
theorem s_spec_l00In : Sound Try.prog 31 c_spec_l00In := mkF_sound _ rfl snd_nil (by kernel_rfl : chkFn Try.prog 31 ir31 ir31_v = true)
theorem M_spec_l00In : c_spec_l00In.modes = [.bor, .bor, .bor] := rfl
theorem Fl_spec_l00In : c_spec_l00In.flat = true := rfl
theorem Fs_spec_l00In {n : Int} {low : Int} {high : Int} {y_ : Bool} (h : spec_l00In n low high = some y_) : c_spec_l00In.F [.int .i64 n, .int .i64 low, .int .i64 high] = ⟨true, .bool y_, [.any, .any, .any]⟩ := by
  refine mkF_E rfl ?_
  dsimp only [spec_l00In] at h
  obtain rfl := so_some h
  refine ⟨0, fun L hL => ?_⟩
  simp only [go_sem, ir31]


def ir22_v : List Nat := [0, 2]
def ir22 : AFn := ⟨1, 2, .seq (.region false [
    ⟨.var 1, 2, none, .mov (.c (.bool false))⟩])
 (.seq (.region false [
    ⟨.push, 3, none, .mov (.v 0)⟩,
    ⟨.push, 4, none, .call 31 [(.s 0), (.c (.int .i64 (1))), (.c (.int .i64 (5)))]⟩,
    ⟨.var 1, 2, none, .mov (.s 0)⟩])
 (.ret)), [.t 1]⟩
noncomputable def t_spec_l26Kind : List (Nat × Ctr) := [(31, c_spec_l00In)]
theorem lk_spec_l26Kind_31 : look t_spec_l26Kind 31 = some c_spec_l00In := rfl
noncomputable def c_spec_l26Kind : Ctr := mkF t_spec_l26Kind ir22 [.bor]
theorem s_spec_l26Kind : Sound Try.prog 22 c_spec_l26Kind := mkF_sound _ rfl (snd_cons s_spec_l00In snd_nil) (by kernel_rfl : chkFn Try.prog 22 ir22 ir22_v = true)
theorem M_spec_l26Kind : c_spec_l26Kind.modes = [.bor] := rfl
theorem Fl_spec_l26Kind : c_spec_l26Kind.flat = true := rfl
theorem Fs_spec_l26Kind {n : Int} {y_ : Bool} (h : spec_l26Kind n = some y_) : c_spec_l26Kind.F [.int .i64 n] = ⟨true, .bool y_, [.any]⟩ := by
  refine mkF_E rfl ?_
  dsimp only [spec_l26Kind] at h
  obtain ⟨y_1, hk1, h⟩ := bd_some h
  have fhk1 := Fs_spec_l00In hk1
  obtain rfl := so_some h
  refine ⟨0, fun L hL => ?_⟩
  (try simp only [go_sem] at fhk1) <;>
  simp only [go_sem, ir22, lk_spec_l26Kind_31, M_spec_l00In, Fl_spec_l00In, fhk1]


def ir23_v : List Nat := [0]
def ir23 : AFn := ⟨0, 1, .seq (.region false [
    ⟨.var 0, 0, none, .newnil 1⟩])
 (.seq (.region false [
    ⟨.push, 1, none, .mkSl 1 (.str []) 5 [(0, (.c (.str [115, 116, 97, 114]))), (1, (.c (.str [111, 98, 115, 101, 114, 118, 101, 114]))), (2, (.c (.str [98, 114, 105, 103, 104, 116]))), (3, (.c (.str [102, 97, 105, 110, 116]))), (4, (.c (.str [116, 119, 105, 110])))]⟩,
    ⟨.var 0, 0, none, .mov (.s 0)⟩])
 (.ret)), [.t 0]⟩
noncomputable def t_spec_l26Names : List (Nat × Ctr) := []
noncomputable def c_spec_l26Names : Ctr := mkN t_spec_l26Names ir23 []
theorem s_spec_l26Names : Sound Try.prog 23 c_spec_l26Names := mkN_sound _ snd_nil (by kernel_rfl : chkFn Try.prog 23 ir23 ir23_v = true)
theorem M_spec_l26Names : c_spec_l26Names.modes = [] := rfl
theorem Fl_spec_l26Names : c_spec_l26Names.flat = false := rfl
theorem Fs_spec_l26Names  {y_ : (List (List UInt8))} (h : spec_l26Names = some y_) : c_spec_l26Names.F [] = ⟨true, .fresh 1 (List.map AV.str y_), []⟩ := by
  refine mkN_E ?_
  dsimp only [spec_l26Names] at h
  obtain rfl := so_some h
  refine ⟨0, fun L hL => ?_⟩
  simp only [go_sem, ir23]


def ir7_v : List Nat := [0, 2]
def ir7 : AFn := ⟨1, 2, .seq (.region false [
    ⟨.var 1, 2, none, .mov (.c (.str []))⟩])
 (.seq (.test false [
    ⟨.push, 3, none, .mov (.v 0)⟩,
    ⟨.push, 4, none, .call 22 [(.s 0)]⟩,
    ⟨.push, 5, none, .un .not (.s 0)⟩] (.s 0)
  (.seq (.region false [
      ⟨.var 1, 2, none, .mov (.c (.str []))⟩])
   (.ret))
  (.skip))
 (.seq (.region false [
    ⟨.push, 6, none, .call 23 []⟩,
    ⟨.push, 7, none, .mov (.v 0)⟩,
    ⟨.push, 8, none, .bin false .sub (.s 0) (.c (.int .i64 (1)))⟩,
    ⟨.push, 9, none, .ixAddr 1 (.s 2) (.s 0)⟩,
    ⟨.push, 10, none, .load false 1 (.s 0)⟩,
    ⟨.var 1, 2, none, .mov (.s 0)⟩])
 (.ret))), [.t 1]⟩
noncomputable def t_spec_FaultName : List (Nat × Ctr) := [(22, c_spec_l26Kind), (23, c_spec_l26Names)]
theorem lk_spec_FaultName_22 : look t_spec_FaultName 22 = some c_spec_l26Kind := rfl
theorem lk_spec_FaultName_23 : look t_spec_FaultName 23 = some c_spec_l26Names := rfl
noncomputable def c_spec_FaultName : Ctr := mkF t_spec_FaultName ir7 [.bor]
theorem s_spec_FaultName : Sound Try.prog 7 c_spec_FaultName := mkF_sound _ rfl (snd_cons s_spec_l26Kind (snd_cons s_spec_l26Names snd_nil)) (by kernel_rfl : chkFn Try.prog 7 ir7 ir7_v = true)
theorem M_spec_FaultName : c_spec_FaultName.modes = [.bor] := rfl
theorem Fl_spec_FaultName : c_spec_FaultName.flat = true := rfl
theorem Fs_spec_FaultName {kind : Int} {y_ : (List UInt8)} (h : spec_FaultName kind = some y_) : c_spec_FaultName.F [.int .i64 kind] = ⟨true, .str y_, [.any]⟩ := by
  refine mkF_E rfl ?_
  dsimp only [spec_FaultName] at h
  obtain ⟨y_1, hk1, h⟩ := bd_some h
  have fhk1 := Fs_spec_l26Kind hk1
  rcases it_some h with ⟨hk2, h⟩ | ⟨hk2, h⟩
  · obtain rfl := so_some h
    refine ⟨0, fun L hL => ?_⟩
    (try simp only [go_sem] at fhk1) <;>
    (try simp only [go_sem, Bool.not_eq_true', Bool.not_eq_false', Bool.and_eq_true, Bool.or_eq_false_iff] at hk2) <;>
    simp only [go_sem, ir7, lk_spec_FaultName_22, lk_spec_FaultName_23, M_spec_l26Kind, M_spec_l26Names, Fl_spec_l26Kind, Fl_spec_l26Names, fhk1, hk2]
  · obtain ⟨y_3, hk3, h⟩ := bd_some h
    have fhk3 := Fs_spec_l26Names hk3
    obtain ⟨hk4, h⟩ := ck_some h
    have lhk4 := ix_lt hk4
    have xhk4 := getD_mapD AV.str y_3 lhk4
    obtain rfl := so_some h
    refine ⟨0, fun L hL => ?_⟩
    (try simp only [go_sem] at fhk1) <;>
    (try simp only [go_sem, Bool.not_eq_true', Bool.not_eq_false', Bool.and_eq_true, Bool.or_eq_false_iff] at hk2) <;>
    (try simp only [go_sem] at fhk3) <;>
    (try simp only [go_sem, Bool.not_eq_true', Bool.not_eq_false', Bool.and_eq_true, Bool.or_eq_false_iff, hk2] at hk4) <;>
    (try simp only [go_sem] at lhk4) <;>
    (try simp only [go_sem] at xhk4) <;>
    simp only [go_sem, ir7, lk_spec_FaultName_22, lk_spec_FaultName_23, M_spec_l26Kind, M_spec_l26Names, Fl_spec_l26Kind, Fl_spec_l26Names, fhk1, hk2, fhk3, hk4, lhk4, xhk4]


def ir24_v : List Nat := [0, 1, 2, 6]
def ir24 : AFn := ⟨3, 4, .seq (.region false [
    ⟨.var 3, 6, none, .mov (.c (.bool false))⟩])
 (.seq (.region false [
    ⟨.push, 7, none, .mov (.v 0)⟩,
    ⟨.push, 8, none, .mov (.v 1)⟩,
    ⟨.push, 9, none, .bin false .geq (.s 1) (.s 0)⟩,
    ⟨.push, 10, none, .mov (.s 0)⟩,
    ⟨.push, 11, (some ((.s 0), true)), .mov (.v 0)⟩,
    ⟨.push, 12, (some ((.s 1), true)), .mov (.v 2)⟩,
    ⟨.push, 13, (some ((.s 2), true)), .bin false .leq (.s 1) (.s 0)⟩,
    ⟨.push, 14, none, .pick (.s 3) (.s 0) (.c (.bool false))⟩,
    ⟨.var 3, 6, none, .mov (.s 0)⟩])
 (.ret)), [.t 3]⟩
noncomputable def t_impl_in : List (Nat × Ctr) := []
noncomputable def c_impl_in : Ctr := mkF t_impl_in ir24 [.bor, .bor, .bor]
theorem s_impl_in : Sound Try.prog 24 c_impl_in := mkF_sound _ rfl snd_nil (by kernel_rfl : chkFn Try.prog 24 ir24 ir24_v = true)
theorem M_impl_in : c_impl_in.modes = [.bor, .bor, .bor] := rfl
theorem Fl_impl_in : c_impl_in.flat = true := rfl
theorem Fs_impl_in {n : Int} {low : Int} {high : Int} {y_ : Bool} (h : impl_in n low high = some y_) : c_impl_in.F [.int .i64 n, .int .i64 low, .int .i64 high] = ⟨true, .bool y_, [.any, .any, .any]⟩ := by
  refine mkF_E rfl ?_
  dsimp only [impl_in] at h
  obtain rfl := so_some h
  refine ⟨0, fun L hL => ?_⟩
  simp only [go_sem, ir24]


def ir25_v : List Nat := [0]
def ir25 : AFn := ⟨0, 1, .seq (.region false [
    ⟨.var 0, 0, none, .newnil 1⟩])
 (.seq (.region false [
    ⟨.push, 1, none, .mkSl 1 (.str []) 5 [(0, (.c (.str [115, 116, 97, 114]))), (1, (.c (.str [111, 98, 115, 101, 114, 118, 101, 114]))), (2, (.c (.str [98, 114, 105, 103, 104, 116]))), (3, (.c (.str [102, 97, 105, 110, 116]))), (4, (.c (.str [116, 119, 105, 110])))]⟩,
    ⟨.var 0, 0, none, .mov (.s 0)⟩])
 (.ret)), [.t 0]⟩
noncomputable def t_impl_faultNames : List (Nat × Ctr) := []
noncomputable def c_impl_faultNames : Ctr := mkN t_impl_faultNames ir25 []
theorem s_impl_faultNames : Sound Try.prog 25 c_impl_faultNames := mkN_sound _ snd_nil (by kernel_rfl : chkFn Try.prog 25 ir25 ir25_v = true)
theorem M_impl_faultNames : c_impl_faultNames.modes = [] := rfl
theorem Fl_impl_faultNames : c_impl_faultNames.flat = false := rfl
theorem Fs_impl_faultNames  {y_ : (List (List UInt8))} (h : impl_faultNames = some y_) : c_impl_faultNames.F [] = ⟨true, .fresh 1 (List.map AV.str y_), []⟩ := by
  refine mkN_E ?_
  dsimp only [impl_faultNames] at h
  obtain rfl := so_some h
  refine ⟨0, fun L hL => ?_⟩
  simp only [go_sem, ir25]


def ir8_v : List Nat := [0, 2]
def ir8 : AFn := ⟨1, 2, .seq (.region false [
    ⟨.var 1, 2, none, .mov (.c (.str []))⟩])
 (.seq (.test false [
    ⟨.push, 3, none, .mov (.v 0)⟩,
    ⟨.push, 4, none, .call 24 [(.s 0), (.c (.int .i64 (1))), (.c (.int .i64 (5)))]⟩,
    ⟨.push, 5, none, .un .not (.s 0)⟩] (.s 0)
  (.seq (.region false [
      ⟨.var 1, 2, none, .mov (.c (.str []))⟩])
   (.ret))
  (.skip))
 (.seq (.region false [
    ⟨.push, 6, none, .call 25 []⟩,
    ⟨.push, 7, none, .mov (.v 0)⟩,
    ⟨.push, 8, none, .bin false .sub (.s 0) (.c (.int .i64 (1)))⟩,
    ⟨.push, 9, none, .ixAddr 1 (.s 2) (.s 0)⟩,
    ⟨.push, 10, none, .load false 1 (.s 0)⟩,
    ⟨.var 1, 2, none, .mov (.s 0)⟩])
 (.ret))), [.t 1]⟩
noncomputable def t_impl_FaultName : List (Nat × Ctr) := [(24, c_impl_in), (25, c_impl_faultNames)]
theorem lk_impl_FaultName_24 : look t_impl_FaultName 24 = some c_impl_in := rfl
theorem lk_impl_FaultName_25 : look t_impl_FaultName 25 = some c_impl_faultNames := rfl
noncomputable def c_impl_FaultName : Ctr := mkF t_impl_FaultName ir8 [.bor]
theorem s_impl_FaultName : Sound Try.prog 8 c_impl_FaultName := mkF_sound _ rfl (snd_cons s_impl_in (snd_cons s_impl_faultNames snd_nil)) (by kernel_rfl : chkFn Try.prog 8 ir8 ir8_v = true)
theorem M_impl_FaultName : c_impl_FaultName.modes = [.bor] := rfl
theorem Fl_impl_FaultName : c_impl_FaultName.flat = true := rfl
theorem Fs_impl_FaultName {kind : Int} {y_ : (List UInt8)} (h : impl_FaultName kind = some y_) : c_impl_FaultName.F [.int .i64 kind] = ⟨true, .str y_, [.any]⟩ := by
  refine mkF_E rfl ?_
  dsimp only [impl_FaultName] at h
  obtain ⟨y_1, hk1, h⟩ := bd_some h
  have fhk1 := Fs_impl_in hk1
  rcases it_some h with ⟨hk2, h⟩ | ⟨hk2, h⟩
  · obtain rfl := so_some h
    refine ⟨0, fun L hL => ?_⟩
    (try simp only [go_sem] at fhk1) <;>
    (try simp only [go_sem, Bool.not_eq_true', Bool.not_eq_false', Bool.and_eq_true, Bool.or_eq_false_iff] at hk2) <;>
    simp only [go_sem, ir8, lk_impl_FaultName_24, lk_impl_FaultName_25, M_impl_in, M_impl_faultNames, Fl_impl_in, Fl_impl_faultNames, fhk1, hk2]
  · obtain ⟨y_3, hk3, h⟩ := bd_some h
    have fhk3 := Fs_impl_faultNames hk3
    obtain ⟨hk4, h⟩ := ck_some h
    have lhk4 := ix_lt hk4
    have xhk4 := getD_mapD AV.str y_3 lhk4
    obtain rfl := so_some h
    refine ⟨0, fun L hL => ?_⟩
    (try simp only [go_sem] at fhk1) <;>
    (try simp only [go_sem, Bool.not_eq_true', Bool.not_eq_false', Bool.and_eq_true, Bool.or_eq_false_iff] at hk2) <;>
    (try simp only [go_sem] at fhk3) <;>
    (try simp only [go_sem, Bool.not_eq_true', Bool.not_eq_false', Bool.and_eq_true, Bool.or_eq_false_iff, hk2] at hk4) <;>
    (try simp only [go_sem] at lhk4) <;>
    (try simp only [go_sem] at xhk4) <;>
    simp only [go_sem, ir8, lk_impl_FaultName_24, lk_impl_FaultName_25, M_impl_in, M_impl_faultNames, Fl_impl_in, Fl_impl_faultNames, fhk1, hk2, fhk3, hk4, lhk4, xhk4]


def ir3_v : List Nat := [0, 2, 3, 4]
def ir3 : AFn := ⟨1, 4, .seq (.region false [
    ⟨.var 1, 2, none, .mov (.c (.bool false))⟩])
 (.seq (.region false [
    ⟨.push, 5, none, .mov (.v 0)⟩,
    ⟨.push, 6, none, .call 7 [(.s 0)]⟩,
    ⟨.var 2, 3, none, .mov (.s 0)⟩])
 (.seq (.region false [
    ⟨.push, 7, none, .mov (.v 0)⟩,
    ⟨.push, 8, none, .call 8 [(.s 0)]⟩,
    ⟨.var 3, 4, none, .mov (.s 0)⟩])
 (.seq (.test false [
    ⟨.push, 9, none, .mov (.v 3)⟩,
    ⟨.push, 10, none, .mov (.v 2)⟩,
    ⟨.push, 11, none, .bin false .neq (.s 1) (.s 0)⟩] (.s 0)
  (.seq (.region false [
      ⟨.var 1, 2, none, .mov (.c (.bool false))⟩])
   (.ret))
  (.skip))
 (.seq (.region false [
    ⟨.var 1, 2, none, .mov (.c (.bool true))⟩])
 (.ret))))), [.t 1]⟩
noncomputable def t_laws_FnExactFaultName : List (Nat × Ctr) := [(7, c_spec_FaultName), (8, c_impl_FaultName)]
theorem lk_laws_FnExactFaultName_7 : look t_laws_FnExactFaultName 7 = some c_spec_FaultName := rfl
theorem lk_laws_FnExactFaultName_8 : look t_laws_FnExactFaultName 8 = some c_impl_FaultName := rfl
noncomputable def c_laws_FnExactFaultName : Ctr := mkF t_laws_FnExactFaultName ir3 [.bor]
theorem s_laws_FnExactFaultName : Sound Try.prog 3 c_laws_FnExactFaultName := mkF_sound _ rfl (snd_cons s_spec_FaultName (snd_cons s_impl_FaultName snd_nil)) (by kernel_rfl : chkFn Try.prog 3 ir3 ir3_v = true)
theorem M_laws_FnExactFaultName : c_laws_FnExactFaultName.modes = [.bor] := rfl
theorem Fl_laws_FnExactFaultName : c_laws_FnExactFaultName.flat = true := rfl
theorem Fs_laws_FnExactFaultName {aKind : Int} {y_ : Bool} (h : laws_FnExactFaultName aKind = some y_) : c_laws_FnExactFaultName.F [.int .i64 aKind] = ⟨true, .bool y_, [.any]⟩ := by
  refine mkF_E rfl ?_
  dsimp only [laws_FnExactFaultName] at h
  obtain ⟨y_1, hk1, h⟩ := bd_some h
  have fhk1 := Fs_spec_FaultName hk1
  obtain ⟨y_2, hk2, h⟩ := bd_some h
  have fhk2 := Fs_impl_FaultName hk2
  rcases it_some h with ⟨hk3, h⟩ | ⟨hk3, h⟩
  · obtain rfl := so_some h
    refine ⟨0, fun L hL => ?_⟩
    (try simp only [go_sem] at fhk1) <;>
    (try simp only [go_sem] at fhk2) <;>
    (try simp only [go_sem, Bool.not_eq_true', Bool.not_eq_false', Bool.and_eq_true, Bool.or_eq_false_iff] at hk3) <;>
    simp only [go_sem, ir3, lk_laws_FnExactFaultName_7, lk_laws_FnExactFaultName_8, M_spec_FaultName, M_impl_FaultName, Fl_spec_FaultName, Fl_impl_FaultName, fhk1, fhk2, hk3]
  · obtain rfl := so_some h
    refine ⟨0, fun L hL => ?_⟩
    (try simp only [go_sem] at fhk1) <;>
    (try simp only [go_sem] at fhk2) <;>
    (try simp only [go_sem, Bool.not_eq_true', Bool.not_eq_false', Bool.and_eq_true, Bool.or_eq_false_iff] at hk3) <;>
    simp only [go_sem, ir3, lk_laws_FnExactFaultName_7, lk_laws_FnExactFaultName_8, M_spec_FaultName, M_impl_FaultName, Fl_spec_FaultName, Fl_impl_FaultName, fhk1, fhk2, hk3]


def ir26_v : List Nat := [0]
def ir26 : AFn := ⟨0, 1, .seq (.region false [
    ⟨.var 0, 0, none, .newnil 1⟩])
 (.seq (.region false [
    ⟨.push, 1, none, .mkSl 1 (.str []) 10 [(0, (.c (.str [97, 109, 112]))), (1, (.c (.str [98, 101, 115, 116]))), (2, (.c (.str [99, 117, 114, 118, 101]))), (3, (.c (.str [101, 110, 116, 101, 114]))), (4, (.c (.str [101, 115, 116]))), (5, (.c (.str [102, 111, 108, 100]))), (6, (.c (.str [108, 97, 115, 116]))), (7, (.c (.str [108, 111, 103]))), (8, (.c (.str [112, 97, 105, 114, 115]))), (9, (.c (.str [115, 116, 97, 114])))]⟩,
    ⟨.var 0, 0, none, .mov (.s 0)⟩])
 (.ret)), [.t 0]⟩
noncomputable def t_spec_l28Words : List (Nat × Ctr) := []
noncomputable def c_spec_l28Words : Ctr := mkN t_spec_l28Words ir26 []
theorem s_spec_l28Words : Sound Try.prog 26 c_spec_l28Words := mkN_sound _ snd_nil (by kernel_rfl : chkFn Try.prog 26 ir26 ir26_v = true)
theorem M_spec_l28Words : c_spec_l28Words.modes = [] := rfl
theorem Fl_spec_l28Words : c_spec_l28Words.flat = false := rfl
theorem Fs_spec_l28Words  {y_ : (List (List UInt8))} (h : spec_l28Words = some y_) : c_spec_l28Words.F [] = ⟨true, .fresh 1 (List.map AV.str y_), []⟩ := by
  refine mkN_E ?_
  dsimp only [spec_l28Words] at h
  obtain rfl := so_some h
  refine ⟨0, fun L hL => ?_⟩
  simp only [go_sem, ir26]


def ir9_v : List Nat := [0]
def ir9 : AFn := ⟨0, 1, .seq (.region false [
    ⟨.var 0, 0, none, .newnil 1⟩])
 (.seq (.region false [
    ⟨.push, 1, none, .call 26 []⟩,
    ⟨.var 0, 0, none, .mov (.s 0)⟩])
 (.ret)), [.t 0]⟩
noncomputable def t_spec_DeskWords : List (Nat × Ctr) := [(26, c_spec_l28Words)]
theorem lk_spec_DeskWords_26 : look t_spec_DeskWords 26 = some c_spec_l28Words := rfl
noncomputable def c_spec_DeskWords : Ctr := mkN t_spec_DeskWords ir9 []
theorem s_spec_DeskWords : Sound Try.prog 9 c_spec_DeskWords := mkN_sound _ (snd_cons s_spec_l28Words snd_nil) (by kernel_rfl : chkFn Try.prog 9 ir9 ir9_v = true)
theorem M_spec_DeskWords : c_spec_DeskWords.modes = [] := rfl
theorem Fl_spec_DeskWords : c_spec_DeskWords.flat = false := rfl
theorem Fs_spec_DeskWords  {y_ : (List (List UInt8))} (h : spec_DeskWords = some y_) : c_spec_DeskWords.F [] = ⟨true, .fresh 1 (List.map AV.str y_), []⟩ := by
  refine mkN_E ?_
  dsimp only [spec_DeskWords] at h
  obtain ⟨y_1, hk1, h⟩ := bd_some h
  have fhk1 := Fs_spec_l28Words hk1
  obtain rfl := so_some h
  refine ⟨0, fun L hL => ?_⟩
  (try simp only [go_sem] at fhk1) <;>
  simp only [go_sem, ir9, lk_spec_DeskWords_26, M_spec_l28Words, Fl_spec_l28Words, fhk1]


def ir10_v : List Nat := [0]
def ir10 : AFn := ⟨0, 1, .seq (.region false [
    ⟨.var 0, 0, none, .newnil 1⟩])
 (.seq (.region false [
    ⟨.push, 1, none, .mkSl 1 (.str []) 10 [(0, (.c (.str [97, 109, 112]))), (1, (.c (.str [98, 101, 115, 116]))), (2, (.c (.str [99, 117, 114, 118, 101]))), (3, (.c (.str [101, 110, 116, 101, 114]))), (4, (.c (.str [101, 115, 116]))), (5, (.c (.str [102, 111, 108, 100]))), (6, (.c (.str [108, 97, 115, 116]))), (7, (.c (.str [108, 111, 103]))), (8, (.c (.str [112, 97, 105, 114, 115]))), (9, (.c (.str [115, 116, 97, 114])))]⟩,
    ⟨.var 0, 0, none, .mov (.s 0)⟩])
 (.ret)), [.t 0]⟩
noncomputable def t_impl_DeskWords : List (Nat × Ctr) := []
noncomputable def c_impl_DeskWords : Ctr := mkN t_impl_DeskWords ir10 []
theorem s_impl_DeskWords : Sound Try.prog 10 c_impl_DeskWords := mkN_sound _ snd_nil (by kernel_rfl : chkFn Try.prog 10 ir10 ir10_v = true)
theorem M_impl_DeskWords : c_impl_DeskWords.modes = [] := rfl
theorem Fl_impl_DeskWords : c_impl_DeskWords.flat = false := rfl
theorem Fs_impl_DeskWords  {y_ : (List (List UInt8))} (h : impl_DeskWords = some y_) : c_impl_DeskWords.F [] = ⟨true, .fresh 1 (List.map AV.str y_), []⟩ := by
  refine mkN_E ?_
  dsimp only [impl_DeskWords] at h
  obtain rfl := so_some h
  refine ⟨0, fun L hL => ?_⟩
  simp only [go_sem, ir10]


def ir11_b0 : IR := .seq (.test false [
    ⟨.push, 11, none, .mov (.v 3)⟩,
    ⟨.push, 12, none, .mov (.v 0)⟩,
    ⟨.push, 13, none, .len false (.s 0)⟩,
    ⟨.push, 14, none, .bin false .lss (.s 2) (.s 0)⟩] (.s 0)
  (.skip)
  (.exit 0))
 (.seq (.block 1 (.anyo 9 [
     ⟨.slot 0, 17, none, .mov (.v 0)⟩,
     ⟨.slot 1, 18, none, .mov (.v 3)⟩,
     ⟨.slot 2, 19, none, .ixAddr 1 (.s 0) (.s 1)⟩,
     ⟨.slot 3, 20, none, .load false 1 (.s 2)⟩,
     ⟨.slot 4, 21, none, .mov (.v 1)⟩,
     ⟨.slot 5, 22, none, .mov (.v 3)⟩,
     ⟨.slot 6, 23, none, .ixAddr 1 (.s 4) (.s 5)⟩,
     ⟨.slot 7, 24, none, .load false 1 (.s 6)⟩,
     ⟨.slot 8, 25, none, .bin false .neq (.s 3) (.s 7)⟩] [] (.cond (.s 8)
   (.seq (.region false [
       ⟨.var 2, 4, none, .mov (.c (.bool false))⟩])
    (.ret))
   (.skip))))
 (.region false [
   ⟨.push, 15, none, .mov (.v 3)⟩,
   ⟨.push, 16, none, .bin false .add (.s 0) (.c (.int .i64 (1)))⟩,
   ⟨.var 3, 5, none, .mov (.s 0)⟩]))
def ir11_k0 : List Bool := [true, true, false, true]
def ir11_o0 : List Bool := [false, false, false, false]
def ir11_r0 : List Bool := [false, false, true, false]
def ir11_v : List Nat := [0, 1, 4, 5]
def ir11 : AFn := ⟨2, 4, .seq (.region false [
    ⟨.var 2, 4, none, .mov (.c (.bool false))⟩])
 (.seq (.test false [
    ⟨.push, 6, none, .mov (.v 0)⟩,
    ⟨.push, 7, none, .len false (.s 0)⟩,
    ⟨.push, 8, none, .mov (.v 1)⟩,
    ⟨.push, 9, none, .len false (.s 0)⟩,
    ⟨.push, 10, none, .bin false .neq (.s 2) (.s 0)⟩] (.s 0)
  (.seq (.region false [
      ⟨.var 2, 4, none, .mov (.c (.bool false))⟩])
   (.ret))
  (.skip))
 (.seq (.seq (.region false [
     ⟨.var 3, 5, none, .mov (.c (.int .i64 (0)))⟩])
  (.block 0 (.loop ir11_k0 ir11_o0 ir11_r0 ir11_b0)))
 (.seq (.region false [
    ⟨.var 2, 4, none, .mov (.c (.bool true))⟩])
 (.ret)))), [.t 2]⟩
noncomputable def t_laws_eqStringS : List (Nat × Ctr) := []
noncomputable def c_laws_eqStringS : Ctr := mkF t_laws_eqStringS ir11 [.bor, .bor]
theorem s_laws_eqStringS : Sound Try.prog 11 c_laws_eqStringS := mkF_sound _ rfl snd_nil (by kernel_rfl : chkFn Try.prog 11 ir11 ir11_v = true)
theorem M_laws_eqStringS : c_laws_eqStringS.modes = [.bor, .bor] := rfl
theorem Fl_laws_eqStringS : c_laws_eqStringS.flat = true := rfl
def E_laws_eqStringS_l1 (a : List (List UInt8)) (b : List (List UInt8)) : Int → St
  | i => ⟨[.sl 1 (List.map AV.str a), .sl 1 (List.map AV.str b), .any, .int .i64 i], [], [], true⟩
def R_laws_eqStringS_l1 (a : List (List UInt8)) (b : List (List UInt8)) : (Unit ⊕ Bool) → Res
  | .inl y => (.exit 0, ⟨[.any, .any, .any, .any], [], [], true⟩)
  | .inr y => (.ret, ⟨[.any, .any, .bool y, .any], [], [], true⟩)
theorem laws_eqStringS_l1_ex {a : List (List UInt8)} {b : List (List UInt8)} {sgm_ : Int} {rho_ : Unit ⊕ Bool} (h : whileE (laws_eqStringS_l1 a b) sgm_ = some rho_) : ∃ L0, ∀ L, L0 ≤ L → iter (exec (look t_laws_eqStringS) L ir11_b0) ir11_k0 ir11_o0 ir11_r0 L (E_laws_eqStringS_l1 a b sgm_) = R_laws_eqStringS_l1 a b rho_ := by
  refine loop_ex (E := E_laws_eqStringS_l1 a b) (R := R_laws_eqStringS_l1 a b) (fun y => by first | (intro c; cases c) | (rcases y with y | y <;> (intro c; cases c)) | (rcases y with y | y | y <;> (intro c; cases c))) ?_ h
  clear h
  intro i o_ h
  dsimp only [laws_eqStringS_l1] at h
  rcases it_some h with ⟨hk2, h⟩ | ⟨hk2, h⟩
  · obtain ⟨hk3, h⟩ := ck_some h
    have lhk3 := ix_lt hk3
    have xhk3 := getD_mapD AV.str a lhk3
    obtain ⟨hk4, h⟩ := ck_some h
    have lhk4 := ix_lt hk4
    have xhk4 := getD_mapD AV.str b lhk4
    rcases it_some h with ⟨hk5, h⟩ | ⟨hk5, h⟩
    · obtain rfl := so_some h
      refine ⟨0, fun L hL => ?_⟩
      (try simp only [go_sem, Bool.not_eq_true', Bool.not_eq_false', Bool.and_eq_true, Bool.or_eq_false_iff] at hk2) <;>
      (try simp only [go_sem, Bool.not_eq_true', Bool.not_eq_false', Bool.and_eq_true, Bool.or_eq_false_iff, hk2] at hk3) <;>
      (try simp only [go_sem] at lhk3) <;>
      (try simp only [go_sem] at xhk3) <;>
      (try simp only [go_sem, Bool.not_eq_true', Bool.not_eq_false', Bool.and_eq_true, Bool.or_eq_false_iff, hk2, hk3] at hk4) <;>
      (try simp only [go_sem] at lhk4) <;>
      (try simp only [go_sem] at xhk4) <;>
      (try simp only [go_sem, Bool.not_eq_true', Bool.not_eq_false', Bool.and_eq_true, Bool.or_eq_false_iff, hk2, hk3, hk4] at hk5) <;>
      simp only [go_sem, ir11, E_laws_eqStringS_l1, R_laws_eqStringS_l1, ir11_b0, ir11_k0, ir11_o0, ir11_r0, hk2, hk3, lhk3, xhk3, hk4, lhk4, xhk4, hk5]
    · obtain rfl := so_some h
      refine ⟨0, fun L hL => ?_⟩
      (try simp only [go_sem, Bool.not_eq_true', Bool.not_eq_false', Bool.and_eq_true, Bool.or_eq_false_iff] at hk2) <;>
      (try simp only [go_sem, Bool.not_eq_true', Bool.not_eq_false', Bool.and_eq_true, Bool.or_eq_false_iff, hk2] at hk3) <;>
      (try simp only [go_sem] at lhk3) <;>
      (try simp only [go_sem] at xhk3) <;>
      (try simp only [go_sem, Bool.not_eq_true', Bool.not_eq_false', Bool.and_eq_true, Bool.or_eq_false_iff, hk2, hk3] at hk4) <;>
      (try simp only [go_sem] at lhk4) <;>
      (try simp only [go_sem] at xhk4) <;>
      (try simp only [go_sem, Bool.not_eq_true', Bool.not_eq_false', Bool.and_eq_true, Bool.or_eq_false_iff, hk2, hk3, hk4] at hk5) <;>
      simp only [go_sem, ir11, E_laws_eqStringS_l1, R_laws_eqStringS_l1, ir11_b0, ir11_k0, ir11_o0, ir11_r0, hk2, hk3, lhk3, xhk3, hk4, lhk4, xhk4, hk5]
  · obtain rfl := so_some h
    refine ⟨0, fun L hL => ?_⟩
    (try simp only [go_sem, Bool.not_eq_true', Bool.not_eq_false', Bool.and_eq_true, Bool.or_eq_false_iff] at hk2) <;>
    simp only [go_sem, ir11, E_laws_eqStringS_l1, R_laws_eqStringS_l1, ir11_b0, ir11_k0, ir11_o0, ir11_r0, hk2]

theorem Fs_laws_eqStringS {a : List (List UInt8)} {b : List (List UInt8)} {y_ : Bool} (h : laws_eqStringS a b = some y_) : c_laws_eqStringS.F [.sl 1 (List.map AV.str a), .sl 1 (List.map AV.str b)] = ⟨true, .bool y_, [.any, .any]⟩ := by
  refine mkF_E rfl ?_
  dsimp only [laws_eqStringS] at h
  rcases it_some h with ⟨hk1, h⟩ | ⟨hk1, h⟩
  · obtain rfl := so_some h
    refine ⟨0, fun L hL => ?_⟩
    (try simp only [go_sem, Bool.not_eq_true', Bool.not_eq_false', Bool.and_eq_true, Bool.or_eq_false_iff] at hk1) <;>
    simp only [go_sem, ir11, E_laws_eqStringS_l1, R_laws_eqStringS_l1, ir11_k0, ir11_o0, ir11_r0, hk1]
  · obtain ⟨y_6, hk6, h⟩ := bd_some h
    obtain ⟨Lhk6, ehk6⟩ := laws_eqStringS_l1_ex hk6
    rcases y_6 with y_6a | y_6b
    · dsimp only at h
      obtain rfl := so_some h
      refine ⟨Lhk6, fun L hL => ?_⟩
      have ehk6 := ehk6 L (by omega)
      (try simp only [go_sem, Bool.not_eq_true', Bool.not_eq_false', Bool.and_eq_true, Bool.or_eq_false_iff] at hk1) <;>
      (try simp only [go_sem, E_laws_eqStringS_l1, R_laws_eqStringS_l1, ir11_k0, ir11_o0, ir11_r0] at ehk6) <;>
      simp only [go_sem, ir11, E_laws_eqStringS_l1, R_laws_eqStringS_l1, ir11_k0, ir11_o0, ir11_r0, hk1, ehk6]
    · dsimp only at h
      obtain rfl := so_some h
      refine ⟨Lhk6, fun L hL => ?_⟩
      have ehk6 := ehk6 L (by omega)
      (try simp only [go_sem, Bool.not_eq_true', Bool.not_eq_false', Bool.and_eq_true, Bool.or_eq_false_iff] at hk1) <;>
      (try simp only [go_sem, E_laws_eqStringS_l1, R_laws_eqStringS_l1, ir11_k0, ir11_o0, ir11_r0] at ehk6) <;>
      simp only [go_sem, ir11, E_laws_eqStringS_l1, R_laws_eqStringS_l1, ir11_k0, ir11_o0, ir11_r0, hk1, ehk6]


def ir27_b0 : IR := .seq (.test false [
    ⟨.push, 6, none, .mov (.v 0)⟩,
    ⟨.push, 7, none, .bin false .gtr (.s 0) (.c (.int .i64 (0)))⟩] (.s 0)
  (.skip)
  (.exit 0))
 (.block 1 (.seq (.region false [
     ⟨.push, 8, none, .mov (.v 0)⟩,
     ⟨.push, 9, none, .bin false .rem (.s 0) (.c (.int .i64 (10)))⟩,
     ⟨.push, 10, none, .bin false .add (.c (.int .i64 (48))) (.s 0)⟩,
     ⟨.push, 11, none, .conv .u8 (.s 0)⟩,
     ⟨.push, 12, none, .mkSl 1 (.int .u8 (0)) 1 [(0, (.s 0))]⟩,
     ⟨.push, 13, none, .b2s (.s 0)⟩,
     ⟨.push, 14, none, .mov (.v 2)⟩,
     ⟨.push, 15, none, .bin false .add (.s 1) (.s 0)⟩,
     ⟨.var 2, 3, none, .mov (.s 0)⟩])
  (.region false [
    ⟨.push, 16, none, .mov (.v 0)⟩,
    ⟨.push, 17, none, .bin false .quo (.s 0) (.c (.int .i64 (10)))⟩,
    ⟨.var 0, 0, none, .mov (.s 0)⟩])))
def ir27_k0 : List Bool := [true, false, true]
def ir27_o0 : List Bool := [false, false, true]
def ir27_r0 : List Bool := [false, true, false]
def ir27_v : List Nat := [0, 2, 3]
def ir27 : AFn := ⟨1, 3, .seq (.region false [
    ⟨.var 1, 2, none, .mov (.c (.str []))⟩])
 (.seq (.test false [
    ⟨.push, 4, none, .mov (.v 0)⟩,
    ⟨.push, 5, none, .bin false .leq (.s 0) (.c (.int .i64 (0)))⟩] (.s 0)
  (.seq (.region false [
      ⟨.var 1, 2, none, .mov (.c (.str [109, 48]))⟩])
   (.ret))
  (.skip))
 (.seq (.region false [
    ⟨.var 2, 3, none, .mov (.c (.str []))⟩])
 (.seq (.block 0 (.loop ir27_k0 ir27_o0 ir27_r0 ir27_b0))
 (.seq (.region false [
    ⟨.push, 18, none, .mov (.v 2)⟩,
    ⟨.push, 19, none, .bin false .add (.c (.str [109])) (.s 0)⟩,
    ⟨.var 1, 2, none, .mov (.s 0)⟩])
 (.ret))))), [.t 1]⟩
noncomputable def t_laws_markText : List (Nat × Ctr) := []
noncomputable def c_laws_markText : Ctr := mkF t_laws_markText ir27 [.bor]
theorem s_laws_markText : Sound Try.prog 27 c_laws_markText := mkF_sound _ rfl snd_nil (by kernel_rfl : chkFn Try.prog 27 ir27 ir27_v = true)
theorem M_laws_markText : c_laws_markText.modes = [.bor] := rfl
theorem Fl_laws_markText : c_laws_markText.flat = true := rfl
def E_laws_markText_l1  : (Int × (List UInt8)) → St
  | (k, out) => ⟨[.int .i64 k, .any, .str out], [], [], true⟩
def R_laws_markText_l1  (y : (List UInt8)) : Res := (.exit 0, ⟨[.any, .any, .str y], [], [], true⟩)
theorem laws_markText_l1_ex  {sgm_ : Int × (List UInt8)} {rho_ : (List UInt8)} (h : whileE (laws_markText_l1) sgm_ = some rho_) : ∃ L0, ∀ L, L0 ≤ L → iter (exec (look t_laws_markText) L ir27_b0) ir27_k0 ir27_o0 ir27_r0 L (E_laws_markText_l1 sgm_) = R_laws_markText_l1 rho_ := by
  refine loop_ex (E := E_laws_markText_l1) (R := R_laws_markText_l1) (fun y => by first | (intro c; cases c) | (rcases y with y | y <;> (intro c; cases c)) | (rcases y with y | y | y <;> (intro c; cases c))) ?_ h
  clear h
  rintro ⟨k, out⟩ o_ h
  dsimp only [laws_markText_l1] at h
  rcases it_some h with ⟨hk2, h⟩ | ⟨hk2, h⟩
  · obtain ⟨hk3, h⟩ := ck_some h
    obtain ⟨hk4, h⟩ := ck_some h
    obtain rfl := so_some h
    refine ⟨0, fun L hL => ?_⟩
    (try simp only [go_sem, Bool.not_eq_true', Bool.not_eq_false', Bool.and_eq_true, Bool.or_eq_false_iff] at hk2) <;>
    (try simp only [go_sem, Bool.not_eq_true', Bool.not_eq_false', Bool.and_eq_true, Bool.or_eq_false_iff, hk2] at hk3) <;>
    (try simp only [go_sem, Bool.not_eq_true', Bool.not_eq_false', Bool.and_eq_true, Bool.or_eq_false_iff, hk2, hk3] at hk4) <;>
    simp only [go_sem, ir27, E_laws_markText_l1, R_laws_markText_l1, ir27_b0, ir27_k0, ir27_o0, ir27_r0, hk2, hk3, hk4]
  · obtain rfl := so_some h
    refine ⟨0, fun L hL => ?_⟩
    (try simp only [go_sem, Bool.not_eq_true', Bool.not_eq_false', Bool.and_eq_true, Bool.or_eq_false_iff] at hk2) <;>
    simp only [go_sem, ir27, E_laws_markText_l1, R_laws_markText_l1, ir27_b0, ir27_k0, ir27_o0, ir27_r0, hk2]

theorem Fs_laws_markText {k : Int} {y_ : (List UInt8)} (h : laws_markText k = some y_) : c_laws_markText.F [.int .i64 k] = ⟨true, .str y_, [.any]⟩ := by
  refine mkF_E rfl ?_
  dsimp only [laws_markText] at h
  rcases it_some h with ⟨hk1, h⟩ | ⟨hk1, h⟩
  · obtain rfl := so_some h
    refine ⟨0, fun L hL => ?_⟩
    (try simp only [go_sem, Bool.not_eq_true', Bool.not_eq_false', Bool.and_eq_true, Bool.or_eq_false_iff] at hk1) <;>
    simp only [go_sem, ir27, E_laws_markText_l1, R_laws_markText_l1, ir27_k0, ir27_o0, ir27_r0, hk1]
  · obtain ⟨y_5, hk5, h⟩ := bd_some h
    obtain ⟨Lhk5, ehk5⟩ := laws_markText_l1_ex hk5
    obtain ⟨hk6, h⟩ := ck_some h
    obtain rfl := so_some h
    refine ⟨Lhk5, fun L hL => ?_⟩
    have ehk5 := ehk5 L (by omega)
    (try simp only [go_sem, Bool.not_eq_true', Bool.not_eq_false', Bool.and_eq_true, Bool.or_eq_false_iff] at hk1) <;>
    (try simp only [go_sem, Bool.not_eq_true', Bool.not_eq_false', Bool.and_eq_true, Bool.or_eq_false_iff, hk1] at hk6) <;>
    (try simp only [go_sem, E_laws_markText_l1, R_laws_markText_l1, ir27_k0, ir27_o0, ir27_r0] at ehk5) <;>
    simp only [go_sem, ir27, E_laws_markText_l1, R_laws_markText_l1, ir27_k0, ir27_o0, ir27_r0, hk1, hk6, ehk5]


def ir12_b0 : IR := .seq (.test false [
    ⟨.push, 6, none, .mov (.v 3)⟩,
    ⟨.push, 7, none, .mov (.v 0)⟩,
    ⟨.push, 8, none, .len false (.s 0)⟩,
    ⟨.push, 9, none, .bin false .lss (.s 2) (.s 0)⟩] (.s 0)
  (.skip)
  (.exit 0))
 (.seq (.block 1 (.seq (.region false [
      ⟨.push, 12, none, .mov (.v 0)⟩,
      ⟨.push, 13, none, .mov (.v 3)⟩,
      ⟨.push, 14, none, .mov (.v 1)⟩,
      ⟨.push, 15, none, .call 27 [(.s 0)]⟩,
      ⟨.push, 16, none, .ixAddr 1 (.s 3) (.s 2)⟩,
      ⟨.no, 0, none, .store 1 (.s 0) (.s 1)⟩])
   (.region false [
     ⟨.push, 17, none, .mov (.v 1)⟩,
     ⟨.push, 18, none, .bin false .add (.s 0) (.c (.int .i64 (1)))⟩,
     ⟨.var 1, 1, none, .mov (.s 0)⟩])))
 (.region false [
   ⟨.push, 10, none, .mov (.v 3)⟩,
   ⟨.push, 11, none, .bin false .add (.s 0) (.c (.int .i64 (1)))⟩,
   ⟨.var 3, 5, none, .mov (.s 0)⟩]))
def ir12_k0 : List Bool := [true, true, false, true]
def ir12_o0 : List Bool := [true, true, false, false]
def ir12_r0 : List Bool := [true, false, true, false]
def ir12_v : List Nat := [0, 1, 4, 5]
def ir12 : AFn := ⟨2, 4, .seq (.region false [
    ⟨.var 2, 4, none, .mov (.c (.int .i64 (0)))⟩])
 (.seq (.seq (.region false [
     ⟨.var 3, 5, none, .mov (.c (.int .i64 (0)))⟩])
  (.block 0 (.loop ir12_k0 ir12_o0 ir12_r0 ir12_b0)))
 (.seq (.region false [
    ⟨.push, 19, none, .mov (.v 1)⟩,
    ⟨.var 2, 4, none, .mov (.s 0)⟩])
 (.ret))), [.t 2]⟩
noncomputable def t_laws_markStringS : List (Nat × Ctr) := [(27, c_laws_markText)]
theorem lk_laws_markStringS_27 : look t_laws_markStringS 27 = some c_laws_markText := rfl
noncomputable def c_laws_markStringS : Ctr := mkN t_laws_markStringS ir12 [.io, .bor]
theorem s_laws_markStringS : Sound Try.prog 12 c_laws_markStringS := mkN_sound _ (snd_cons s_laws_markText snd_nil) (by kernel_rfl : chkFn Try.prog 12 ir12 ir12_v = true)
theorem M_laws_markStringS : c_laws_markStringS.modes = [.io, .bor] := rfl
theorem Fl_laws_markStringS : c_laws_markStringS.flat = false := rfl
def E_laws_markStringS_l1  : ((List (List UInt8)) × Int × Int) → St
  | (a, k, i) => ⟨[.own 31, .int .i64 k, .any, .int .i64 i], [], [(31, ⟨1, List.map AV.str a⟩)], true⟩
def R_laws_markStringS_l1  (y : (List (List UInt8)) × Int) : Res := (.exit 0, ⟨[.own 31, .int .i64 y.2, .any, .any], [], [(31, ⟨1, List.map AV.str y.1⟩)], true⟩)
theorem laws_markStringS_l1_ex  {sgm_ : (List (List UInt8)) × Int × Int} {rho_ : (List (List UInt8)) × Int} (h : whileE (laws_markStringS_l1) sgm_ = some rho_) : ∃ L0, ∀ L, L0 ≤ L → iter (exec (look t_laws_markStringS) L ir12_b0) ir12_k0 ir12_o0 ir12_r0 L (E_laws_markStringS_l1 sgm_) = R_laws_markStringS_l1 rho_ := by
  refine loop_ex (E := E_laws_markStringS_l1) (R := R_laws_markStringS_l1) (fun y => by first | (intro c; cases c) | (rcases y with y | y <;> (intro c; cases c)) | (rcases y with y | y | y <;> (intro c; cases c))) ?_ h
  clear h
  rintro ⟨a, k, i⟩ o_ h
  dsimp only [laws_markStringS_l1] at h
  rcases it_some h with ⟨hk1, h⟩ | ⟨hk1, h⟩
  · obtain ⟨y_2, hk2, h⟩ := bd_some h
    have fhk2 := Fs_laws_markText hk2
    obtain ⟨hk3, h⟩ := ck_some h
    have lhk3 := ix_lt hk3
    have xhk3 := getD_mapD AV.str a lhk3
    obtain rfl := so_some h
    refine ⟨0, fun L hL => ?_⟩
    (try simp only [go_sem, Bool.not_eq_true', Bool.not_eq_false', Bool.and_eq_true, Bool.or_eq_false_iff] at hk1) <;>
    (try simp only [go_sem] at fhk2) <;>
    (try simp only [go_sem, Bool.not_eq_true', Bool.not_eq_false', Bool.and_eq_true, Bool.or_eq_false_iff, hk1] at hk3) <;>
    (try simp only [go_sem] at lhk3) <;>
    (try simp only [go_sem] at xhk3) <;>
    simp only [go_sem, ir12, lk_laws_markStringS_27, M_laws_markText, Fl_laws_markText, E_laws_markStringS_l1, R_laws_markStringS_l1, ir12_b0, ir12_k0, ir12_o0, ir12_r0, hk1, fhk2, hk3, lhk3, xhk3]
  · obtain rfl := so_some h
    refine ⟨0, fun L hL => ?_⟩
    (try simp only [go_sem, Bool.not_eq_true', Bool.not_eq_false', Bool.and_eq_true, Bool.or_eq_false_iff] at hk1) <;>
    simp only [go_sem, ir12, lk_laws_markStringS_27, M_laws_markText, Fl_laws_markText, E_laws_markStringS_l1, R_laws_markStringS_l1, ir12_b0, ir12_k0, ir12_o0, ir12_r0, hk1]

theorem Fs_laws_markStringS {a : List (List UInt8)} {k : Int} {y_ : Int × (List (List UInt8))} (h : laws_markStringS a k = some y_) : c_laws_markStringS.F [.fresh 1 (List.map AV.str a), .int .i64 k] = ⟨true, .int .i64 y_.1, [.fresh 1 (List.map AV.str y_.2), .any]⟩ := by
  refine mkN_E ?_
  dsimp only [laws_markStringS] at h
  obtain ⟨y_4, hk4, h⟩ := bd_some h
  obtain ⟨Lhk4, ehk4⟩ := laws_markStringS_l1_ex hk4
  obtain ⟨hk5, h⟩ := ck_some h
  obtain rfl := so_some h
  refine ⟨Lhk4, fun L hL => ?_⟩
  have ehk4 := ehk4 L (by omega)
  (try simp only [go_sem, Bool.not_eq_true', Bool.not_eq_false', Bool.and_eq_true, Bool.or_eq_false_iff] at hk5) <;>
  (try simp only [go_sem, E_laws_markStringS_l1, R_laws_markStringS_l1, ir12_k0, ir12_o0, ir12_r0] at ehk4) <;>
  simp only [go_sem, ir12, lk_laws_markStringS_27, M_laws_markText, Fl_laws_markText, E_laws_markStringS_l1, R_laws_markStringS_l1, ir12_k0, ir12_o0, ir12_r0, hk5, ehk4]


def ir13_b0 : IR := .seq (.test false [
    ⟨.push, 6, none, .mov (.v 3)⟩,
    ⟨.push, 7, none, .mov (.v 0)⟩,
    ⟨.push, 8, none, .len false (.s 0)⟩,
    ⟨.push, 9, none, .bin false .lss (.s 2) (.s 0)⟩] (.s 0)
  (.skip)
  (.exit 0))
 (.seq (.block 1 (.seq (.anyo 7 [
      ⟨.slot 0, 12, none, .mov (.v 0)⟩,
      ⟨.slot 1, 13, none, .mov (.v 3)⟩,
      ⟨.slot 2, 14, none, .ixAddr 1 (.s 0) (.s 1)⟩,
      ⟨.slot 3, 15, none, .load false 1 (.s 2)⟩,
      ⟨.slot 4, 16, none, .mov (.v 1)⟩,
      ⟨.slot 5, 17, none, .callp 27 [(.s 4)]⟩,
      ⟨.slot 6, 18, none, .bin false .neq (.s 3) (.s 5)⟩] [] (.cond (.s 6)
    (.seq (.region false [
        ⟨.var 2, 4, none, .mov (.c (.int .i64 (-1)))⟩])
     (.ret))
    (.skip)))
   (.region false [
     ⟨.push, 19, none, .mov (.v 1)⟩,
     ⟨.push, 20, none, .bin false .add (.s 0) (.c (.int .i64 (1)))⟩,
     ⟨.var 1, 1, none, .mov (.s 0)⟩])))
 (.region false [
   ⟨.push, 10, none, .mov (.v 3)⟩,
   ⟨.push, 11, none, .bin false .add (.s 0) (.c (.int .i64 (1)))⟩,
   ⟨.var 3, 5, none, .mov (.s 0)⟩]))
def ir13_k0 : List Bool := [true, true, false, true]
def ir13_o0 : List Bool := [false, true, false, false]
def ir13_r0 : List Bool := [false, false, true, false]
def ir13_v : List Nat := [0, 1, 4, 5]
def ir13 : AFn := ⟨2, 4, .seq (.region false [
    ⟨.var 2, 4, none, .mov (.c (.int .i64 (0)))⟩])
 (.seq (.seq (.region false [
     ⟨.var 3, 5, none, .mov (.c (.int .i64 (0)))⟩])
  (.block 0 (.loop ir13_k0 ir13_o0 ir13_r0 ir13_b0)))
 (.seq (.region false [
    ⟨.push, 21, none, .mov (.v 1)⟩,
    ⟨.var 2, 4, none, .mov (.s 0)⟩])
 (.ret))), [.t 2]⟩
noncomputable def t_laws_heldStringS : List (Nat × Ctr) := [(27, c_laws_markText)]
theorem lk_laws_heldStringS_27 : look t_laws_heldStringS 27 = some c_laws_markText := rfl
noncomputable def c_laws_heldStringS : Ctr := mkF t_laws_heldStringS ir13 [.bor, .bor]
theorem s_laws_heldStringS : Sound Try.prog 13 c_laws_heldStringS := mkF_sound _ rfl (snd_cons s_laws_markText snd_nil) (by kernel_rfl : chkFn Try.prog 13 ir13 ir13_v = true)
theorem M_laws_heldStringS : c_laws_heldStringS.modes = [.bor, .bor] := rfl
theorem Fl_laws_heldStringS : c_laws_heldStringS.flat = true := rfl
def E_laws_heldStringS_l1 (a : List (List UInt8)) : (Int × Int) → St
  | (k, i) => ⟨[.sl 1 (List.map AV.str a), .int .i64 k, .any, .int .i64 i], [], [], true⟩
def R_laws_heldStringS_l1 (a : List (List UInt8)) : (Int ⊕ Int) → Res
  | .inl y => (.exit 0, ⟨[.any, .int .i64 y, .any, .any], [], [], true⟩)
  | .inr y => (.ret, ⟨[.any, .any, .int .i64 y, .any], [], [], true⟩)
theorem laws_heldStringS_l1_ex {a : List (List UInt8)} {sgm_ : Int × Int} {rho_ : Int ⊕ Int} (h : whileE (laws_heldStringS_l1 a) sgm_ = some rho_) : ∃ L0, ∀ L, L0 ≤ L → iter (exec (look t_laws_heldStringS) L ir13_b0) ir13_k0 ir13_o0 ir13_r0 L (E_laws_heldStringS_l1 a sgm_) = R_laws_heldStringS_l1 a rho_ := by
  refine loop_ex (E := E_laws_heldStringS_l1 a) (R := R_laws_heldStringS_l1 a) (fun y => by first | (intro c; cases c) | (rcases y with y | y <;> (intro c; cases c)) | (rcases y with y | y | y <;> (intro c; cases c))) ?_ h
  clear h
  rintro ⟨k, i⟩ o_ h
  dsimp only [laws_heldStringS_l1] at h
  rcases it_some h with ⟨hk1, h⟩ | ⟨hk1, h⟩
  · obtain ⟨hk2, h⟩ := ck_some h
    have lhk2 := ix_lt hk2
    have xhk2 := getD_mapD AV.str a lhk2
    obtain ⟨y_3, hk3, h⟩ := bd_some h
    have fhk3 := Fs_laws_markText hk3
    rcases it_some h with ⟨hk4, h⟩ | ⟨hk4, h⟩
    · obtain rfl := so_some h
      refine ⟨0, fun L hL => ?_⟩
      (try simp only [go_sem, Bool.not_eq_true', Bool.not_eq_false', Bool.and_eq_true, Bool.or_eq_false_iff] at hk1) <;>
      (try simp only [go_sem, Bool.not_eq_true', Bool.not_eq_false', Bool.and_eq_true, Bool.or_eq_false_iff, hk1] at hk2) <;>
      (try simp only [go_sem] at lhk2) <;>
      (try simp only [go_sem] at xhk2) <;>
      (try simp only [go_sem] at fhk3) <;>
      (try simp only [go_sem, Bool.not_eq_true', Bool.not_eq_false', Bool.and_eq_true, Bool.or_eq_false_iff, hk1, hk2] at hk4) <;>
      simp only [go_sem, ir13, lk_laws_heldStringS_27, M_laws_markText, Fl_laws_markText, E_laws_heldStringS_l1, R_laws_heldStringS_l1, ir13_b0, ir13_k0, ir13_o0, ir13_r0, hk1, hk2, lhk2, xhk2, fhk3, hk4]
    · obtain rfl := so_some h
      refine ⟨0, fun L hL => ?_⟩
      (try simp only [go_sem, Bool.not_eq_true', Bool.not_eq_false', Bool.and_eq_true, Bool.or_eq_false_iff] at hk1) <;>
      (try simp only [go_sem, Bool.not_eq_true', Bool.not_eq_false', Bool.and_eq_true, Bool.or_eq_false_iff, hk1] at hk2) <;>
      (try simp only [go_sem] at lhk2) <;>
      (try simp only [go_sem] at xhk2) <;>
      (try simp only [go_sem] at fhk3) <;>
      (try simp only [go_sem, Bool.not_eq_true', Bool.not_eq_false', Bool.and_eq_true, Bool.or_eq_false_iff, hk1, hk2] at hk4) <;>
      simp only [go_sem, ir13, lk_laws_heldStringS_27, M_laws_markText, Fl_laws_markText, E_laws_heldStringS_l1, R_laws_heldStringS_l1, ir13_b0, ir13_k0, ir13_o0, ir13_r0, hk1, hk2, lhk2, xhk2, fhk3, hk4]
  · obtain rfl := so_some h
    refine ⟨0, fun L hL => ?_⟩
    (try simp only [go_sem, Bool.not_eq_true', Bool.not_eq_false', Bool.and_eq_true, Bool.or_eq_false_iff] at hk1) <;>
    simp only [go_sem, ir13, lk_laws_heldStringS_27, M_laws_markText, Fl_laws_markText, E_laws_heldStringS_l1, R_laws_heldStringS_l1, ir13_b0, ir13_k0, ir13_o0, ir13_r0, hk1]

theorem Fs_laws_heldStringS {a : List (List UInt8)} {k : Int} {y_ : Int} (h : laws_heldStringS a k = some y_) : c_laws_heldStringS.F [.sl 1 (List.map AV.str a), .int .i64 k] = ⟨true, .int .i64 y_, [.any, .any]⟩ := by
  refine mkF_E rfl ?_
  dsimp only [laws_heldStringS] at h
  obtain ⟨y_5, hk5, h⟩ := bd_some h
  obtain ⟨Lhk5, ehk5⟩ := laws_heldStringS_l1_ex hk5
  rcases y_5 with y_5a | y_5b
  · dsimp only at h
    obtain rfl := so_some h
    refine ⟨Lhk5, fun L hL => ?_⟩
    have ehk5 := ehk5 L (by omega)
    (try simp only [go_sem, E_laws_heldStringS_l1, R_laws_heldStringS_l1, ir13_k0, ir13_o0, ir13_r0] at ehk5) <;>
    simp only [go_sem, ir13, lk_laws_heldStringS_27, M_laws_markText, Fl_laws_markText, E_laws_heldStringS_l1, R_laws_heldStringS_l1, ir13_k0, ir13_o0, ir13_r0, ehk5]
  · dsimp only at h
    obtain rfl := so_some h
    refine ⟨Lhk5, fun L hL => ?_⟩
    have ehk5 := ehk5 L (by omega)
    (try simp only [go_sem, E_laws_heldStringS_l1, R_laws_heldStringS_l1, ir13_k0, ir13_o0, ir13_r0] at ehk5) <;>
    simp only [go_sem, ir13, lk_laws_heldStringS_27, M_laws_markText, Fl_laws_markText, E_laws_heldStringS_l1, R_laws_heldStringS_l1, ir13_k0, ir13_o0, ir13_r0, ehk5]


def ir4_v : List Nat := [0, 1, 2, 3, 4, 5]
def ir4 : AFn := ⟨0, 6, .seq (.region false [
    ⟨.var 0, 0, none, .mov (.c (.bool false))⟩])
 (.seq (.region false [
    ⟨.push, 6, none, .call 9 []⟩,
    ⟨.var 1, 1, none, .mov (.s 0)⟩])
 (.seq (.region false [
    ⟨.push, 7, none, .call 10 []⟩,
    ⟨.var 2, 2, none, .mov (.s 0)⟩])
 (.seq (.test false [
    ⟨.push, 8, none, .mov (.v 2)⟩,
    ⟨.push, 9, none, .mov (.v 1)⟩,
    ⟨.push, 10, none, .call 11 [(.s 1), (.s 0)]⟩,
    ⟨.push, 11, none, .un .not (.s 0)⟩] (.s 0)
  (.seq (.region false [
      ⟨.var 0, 0, none, .mov (.c (.bool false))⟩])
   (.ret))
  (.skip))
 (.seq (.region false [
    ⟨.var 3, 3, none, .mov (.c (.int .i64 (1)))⟩])
 (.seq (.region false [
    ⟨.push, 12, none, .mov (.v 2)⟩,
    ⟨.push, 13, none, .mov (.v 3)⟩,
    ⟨.push, 14, none, .call 12 [(.s 1), (.s 0)]⟩,
    ⟨.var 3, 3, none, .mov (.s 0)⟩])
 (.seq (.region false [
    ⟨.var 4, 4, none, .mov (.c (.int .i64 (1)))⟩])
 (.seq (.region false [
    ⟨.push, 15, none, .mov (.v 2)⟩,
    ⟨.push, 16, none, .mov (.v 4)⟩,
    ⟨.push, 17, none, .call 13 [(.s 1), (.s 0)]⟩,
    ⟨.var 4, 4, none, .mov (.s 0)⟩])
 (.seq (.test false [
    ⟨.push, 18, none, .mov (.v 4)⟩,
    ⟨.push, 19, none, .bin false .lss (.s 0) (.c (.int .i64 (0)))⟩] (.s 0)
  (.seq (.region false [
      ⟨.var 0, 0, none, .mov (.c (.bool false))⟩])
   (.ret))
  (.skip))
 (.seq (.test false [
    ⟨.push, 20, none, .mov (.v 4)⟩,
    ⟨.push, 21, none, .mov (.v 3)⟩,
    ⟨.push, 22, none, .bin false .neq (.s 1) (.s 0)⟩] (.s 0)
  (.seq (.region false [
      ⟨.var 0, 0, none, .mov (.c (.bool false))⟩])
   (.ret))
  (.skip))
 (.seq (.region false [
    ⟨.push, 23, none, .call 10 []⟩,
    ⟨.var 5, 5, none, .mov (.s 0)⟩])
 (.seq (.test false [
    ⟨.push, 24, none, .mov (.v 5)⟩,
    ⟨.push, 25, none, .mov (.v 1)⟩,
    ⟨.push, 26, none, .call 11 [(.s 1), (.s 0)]⟩,
    ⟨.push, 27, none, .un .not (.s 0)⟩] (.s 0)
  (.seq (.region false [
      ⟨.var 0, 0, none, .mov (.c (.bool false))⟩])
   (.ret))
  (.skip))
 (.seq (.region false [
    ⟨.var 4, 4, none, .mov (.c (.int .i64 (1)))⟩])
 (.seq (.region false [
    ⟨.push, 28, none, .mov (.v 2)⟩,
    ⟨.push, 29, none, .mov (.v 4)⟩,
    ⟨.push, 30, none, .call 13 [(.s 1), (.s 0)]⟩,
    ⟨.var 4, 4, none, .mov (.s 0)⟩])
 (.seq (.test false [
    ⟨.push, 31, none, .mov (.v 4)⟩,
    ⟨.push, 32, none, .bin false .lss (.s 0) (.c (.int .i64 (0)))⟩] (.s 0)
  (.seq (.region false [
      ⟨.var 0, 0, none, .mov (.c (.bool false))⟩])
   (.ret))
  (.skip))
 (.seq (.test false [
    ⟨.push, 33, none, .mov (.v 4)⟩,
    ⟨.push, 34, none, .mov (.v 3)⟩,
    ⟨.push, 35, none, .bin false .neq (.s 1) (.s 0)⟩] (.s 0)
  (.seq (.region false [
      ⟨.var 0, 0, none, .mov (.c (.bool false))⟩])
   (.ret))
  (.skip))
 (.seq (.region false [
    ⟨.var 0, 0, none, .mov (.c (.bool true))⟩])
 (.ret))))))))))))))))), [.t 0]⟩
noncomputable def t_laws_FnExactDeskWords : List (Nat × Ctr) := [(9, c_spec_DeskWords), (10, c_impl_DeskWords), (11, c_laws_eqStringS), (12, c_laws_markStringS), (13, c_laws_heldStringS)]
theorem lk_laws_FnExactDeskWords_9 : look t_laws_FnExactDeskWords 9 = some c_spec_DeskWords := rfl
theorem lk_laws_FnExactDeskWords_10 : look t_laws_FnExactDeskWords 10 = some c_impl_DeskWords := rfl
theorem lk_laws_FnExactDeskWords_11 : look t_laws_FnExactDeskWords 11 = some c_laws_eqStringS := rfl
theorem lk_laws_FnExactDeskWords_12 : look t_laws_FnExactDeskWords 12 = some c_laws_markStringS := rfl
theorem lk_laws_FnExactDeskWords_13 : look t_laws_FnExactDeskWords 13 = some c_laws_heldStringS := rfl
noncomputable def c_laws_FnExactDeskWords : Ctr := mkF t_laws_FnExactDeskWords ir4 []
theorem s_laws_FnExactDeskWords : Sound Try.prog 4 c_laws_FnExactDeskWords := mkF_sound _ rfl (snd_cons s_spec_DeskWords (snd_cons s_impl_DeskWords (snd_cons s_laws_eqStringS (snd_cons s_laws_markStringS (snd_cons s_laws_heldStringS snd_nil))))) (by kernel_rfl : chkFn Try.prog 4 ir4 ir4_v = true)
theorem M_laws_FnExactDeskWords : c_laws_FnExactDeskWords.modes = [] := rfl
theorem Fl_laws_FnExactDeskWords : c_laws_FnExactDeskWords.flat = true := rfl
theorem Fs_laws_FnExactDeskWords  {y_ : Bool} (h : laws_FnExactDeskWords = some y_) : c_laws_FnExactDeskWords.F [] = ⟨true, .bool y_, []⟩ := by
  refine mkF_E rfl ?_
  dsimp only [laws_FnExactDeskWords] at h
  obtain ⟨y_1, hk1, h⟩ := bd_some h
  have fhk1 := Fs_spec_DeskWords hk1
  obtain ⟨y_2, hk2, h⟩ := bd_some h
  have fhk2 := Fs_impl_DeskWords hk2
  obtain ⟨y_3, hk3, h⟩ := bd_some h
  have fhk3 := Fs_laws_eqStringS hk3
  rcases it_some h with ⟨hk4, h⟩ | ⟨hk4, h⟩
  · obtain rfl := so_some h
    refine ⟨0, fun L hL => ?_⟩
    (try simp only [go_sem] at fhk1) <;>
    (try simp only [go_sem] at fhk2) <;>
    (try simp only [go_sem] at fhk3) <;>
    (try simp only [go_sem, Bool.not_eq_true', Bool.not_eq_false', Bool.and_eq_true, Bool.or_eq_false_iff] at hk4) <;>
    simp only [go_sem, ir4, lk_laws_FnExactDeskWords_9, lk_laws_FnExactDeskWords_10, lk_laws_FnExactDeskWords_11, lk_laws_FnExactDeskWords_12, lk_laws_FnExactDeskWords_13, M_spec_DeskWords, M_impl_DeskWords, M_laws_eqStringS, M_laws_markStringS, M_laws_heldStringS, Fl_spec_DeskWords, Fl_impl_DeskWords, Fl_laws_eqStringS, Fl_laws_markStringS, Fl_laws_heldStringS, fhk1, fhk2, fhk3, hk4]
  · obtain ⟨y_5, hk5, h⟩ := bd_some h
    have fhk5 := Fs_laws_markStringS hk5
    obtain ⟨y_6, hk6, h⟩ := bd_some h
    have fhk6 := Fs_laws_heldStringS hk6
    rcases it_some h with ⟨hk7, h⟩ | ⟨hk7, h⟩
    · obtain rfl := so_some h
      refine ⟨0, fun L hL => ?_⟩
      (try simp only [go_sem] at fhk1) <;>
      (try simp only [go_sem] at fhk2) <;>
      (try simp only [go_sem] at fhk3) <;>
      (try simp only [go_sem, Bool.not_eq_true', Bool.not_eq_false', Bool.and_eq_true, Bool.or_eq_false_iff] at hk4) <;>
      (try simp only [go_sem] at fhk5) <;>
      (try simp only [go_sem] at fhk6) <;>
      (try simp only [go_sem, Bool.not_eq_true', Bool.not_eq_false', Bool.and_eq_true, Bool.or_eq_false_iff, hk4] at hk7) <;>
      simp only [go_sem, ir4, lk_laws_FnExactDeskWords_9, lk_laws_FnExactDeskWords_10, lk_laws_FnExactDeskWords_11, lk_laws_FnExactDeskWords_12, lk_laws_FnExactDeskWords_13, M_spec_DeskWords, M_impl_DeskWords, M_laws_eqStringS, M_laws_markStringS, M_laws_heldStringS, Fl_spec_DeskWords, Fl_impl_DeskWords, Fl_laws_eqStringS, Fl_laws_markStringS, Fl_laws_heldStringS, fhk1, fhk2, fhk3, hk4, fhk5, fhk6, hk7]
    · rcases it_some h with ⟨hk8, h⟩ | ⟨hk8, h⟩
      · obtain rfl := so_some h
        refine ⟨0, fun L hL => ?_⟩
        (try simp only [go_sem] at fhk1) <;>
        (try simp only [go_sem] at fhk2) <;>
        (try simp only [go_sem] at fhk3) <;>
        (try simp only [go_sem, Bool.not_eq_true', Bool.not_eq_false', Bool.and_eq_true, Bool.or_eq_false_iff] at hk4) <;>
        (try simp only [go_sem] at fhk5) <;>
        (try simp only [go_sem] at fhk6) <;>
        (try simp only [go_sem, Bool.not_eq_true', Bool.not_eq_false', Bool.and_eq_true, Bool.or_eq_false_iff, hk4] at hk7) <;>
        (try simp only [go_sem, Bool.not_eq_true', Bool.not_eq_false', Bool.and_eq_true, Bool.or_eq_false_iff, hk4, hk7] at hk8) <;>
        simp only [go_sem, ir4, lk_laws_FnExactDeskWords_9, lk_laws_FnExactDeskWords_10, lk_laws_FnExactDeskWords_11, lk_laws_FnExactDeskWords_12, lk_laws_FnExactDeskWords_13, M_spec_DeskWords, M_impl_DeskWords, M_laws_eqStringS, M_laws_markStringS, M_laws_heldStringS, Fl_spec_DeskWords, Fl_impl_DeskWords, Fl_laws_eqStringS, Fl_laws_markStringS, Fl_laws_heldStringS, fhk1, fhk2, fhk3, hk4, fhk5, fhk6, hk7, hk8]
      · obtain rfl := so_some h
        refine ⟨0, fun L hL => ?_⟩
        (try simp only [go_sem] at fhk1) <;>
        (try simp only [go_sem] at fhk2) <;>
        (try simp only [go_sem] at fhk3) <;>
        (try simp only [go_sem, Bool.not_eq_true', Bool.not_eq_false', Bool.and_eq_true, Bool.or_eq_false_iff] at hk4) <;>
        (try simp only [go_sem] at fhk5) <;>
        (try simp only [go_sem] at fhk6) <;>
        (try simp only [go_sem, Bool.not_eq_true', Bool.not_eq_false', Bool.and_eq_true, Bool.or_eq_false_iff, hk4] at hk7) <;>
        (try simp only [go_sem, Bool.not_eq_true', Bool.not_eq_false', Bool.and_eq_true, Bool.or_eq_false_iff, hk4, hk7] at hk8) <;>
        simp only [go_sem, ir4, lk_laws_FnExactDeskWords_9, lk_laws_FnExactDeskWords_10, lk_laws_FnExactDeskWords_11, lk_laws_FnExactDeskWords_12, lk_laws_FnExactDeskWords_13, M_spec_DeskWords, M_impl_DeskWords, M_laws_eqStringS, M_laws_markStringS, M_laws_heldStringS, Fl_spec_DeskWords, Fl_impl_DeskWords, Fl_laws_eqStringS, Fl_laws_markStringS, Fl_laws_heldStringS, fhk1, fhk2, fhk3, hk4, fhk5, fhk6, hk7, hk8]


def ir15_b0 : IR := .seq (.test false [
    ⟨.push, 8, none, .mov (.v 3)⟩,
    ⟨.push, 9, none, .mov (.v 0)⟩,
    ⟨.push, 10, none, .len false (.s 0)⟩,
    ⟨.push, 11, none, .bin false .lss (.s 2) (.s 0)⟩] (.s 0)
  (.skip)
  (.exit 0))
 (.seq (.block 1 (.region false [
     ⟨.push, 14, none, .mov (.v 2)⟩,
     ⟨.push, 15, none, .mov (.v 3)⟩,
     ⟨.push, 16, none, .mov (.v 0)⟩,
     ⟨.push, 17, none, .mov (.v 3)⟩,
     ⟨.push, 18, none, .ixAddr 1 (.s 1) (.s 0)⟩,
     ⟨.push, 19, none, .load false 1 (.s 0)⟩,
     ⟨.push, 20, none, .ixAddr 1 (.s 5) (.s 4)⟩,
     ⟨.no, 0, none, .store 1 (.s 0) (.s 1)⟩]))
 (.region false [
   ⟨.push, 12, none, .mov (.v 3)⟩,
   ⟨.push, 13, none, .bin false .add (.s 0) (.c (.int .i64 (1)))⟩,
   ⟨.var 3, 4, none, .mov (.s 0)⟩]))
def ir15_k0 : List Bool := [true, false, true, true]
def ir15_o0 : List Bool := [false, false, true, false]
def ir15_r0 : List Bool := [false, true, false, false]
def ir15_v : List Nat := [0, 2, 3, 4]
def ir15 : AFn := ⟨1, 4, .seq (.region false [
    ⟨.var 1, 2, none, .newnil 1⟩])
 (.seq (.region false [
    ⟨.push, 5, none, .mov (.v 0)⟩,
    ⟨.push, 6, none, .len false (.s 0)⟩,
    ⟨.push, 7, none, .make 1 1 (.int .u8 (0)) (.s 0) (.s 0)⟩,
    ⟨.var 2, 3, none, .mov (.s 0)⟩])
 (.seq (.seq (.region false [
     ⟨.var 3, 4, none, .mov (.c (.int .i64 (0)))⟩])
  (.block 0 (.loop ir15_k0 ir15_o0 ir15_r0 ir15_b0)))
 (.seq (.region false [
    ⟨.push, 21, none, .mov (.v 2)⟩,
    ⟨.var 1, 2, none, .mov (.s 0)⟩])
 (.ret)))), [.t 1]⟩
noncomputable def t_laws_toByteS : List (Nat × Ctr) := []
noncomputable def c_laws_toByteS : Ctr := mkN t_laws_toByteS ir15 [.bor]
theorem s_laws_toByteS : Sound Try.prog 15 c_laws_toByteS := mkN_sound _ snd_nil (by kernel_rfl : chkFn Try.prog 15 ir15 ir15_v = true)
theorem M_laws_toByteS : c_laws_toByteS.modes = [.bor] := rfl
theorem Fl_laws_toByteS : c_laws_toByteS.flat = false := rfl
def E_laws_toByteS_l1 (a : List UInt8) : ((List UInt8) × Int) → St
  | (out, i) => ⟨[.sl 1 (List.map byteAV a), .any, .own 3200000, .int .i64 i], [], [(3200000, ⟨1, List.map byteAV out⟩)], true⟩
def R_laws_toByteS_l1 (a : List UInt8) (y : (List UInt8)) : Res := (.exit 0, ⟨[.any, .any, .own 3200000, .any], [], [(3200000, ⟨1, List.map byteAV y⟩)], true⟩)
theorem laws_toByteS_l1_ex {a : List UInt8} {sgm_ : (List UInt8) × Int} {rho_ : (List UInt8)} (h : whileE (laws_toByteS_l1 a) sgm_ = some rho_) : ∃ L0, ∀ L, L0 ≤ L → iter (exec (look t_laws_toByteS) L ir15_b0) ir15_k0 ir15_o0 ir15_r0 L (E_laws_toByteS_l1 a sgm_) = R_laws_toByteS_l1 a rho_ := by
  refine loop_ex (E := E_laws_toByteS_l1 a) (R := R_laws_toByteS_l1 a) (fun y => by first | (intro c; cases c) | (rcases y with y | y <;> (intro c; cases c)) | (rcases y with y | y | y <;> (intro c; cases c))) ?_ h
  clear h
  rintro ⟨out, i⟩ o_ h
  dsimp only [laws_toByteS_l1] at h
  rcases it_some h with ⟨hk2, h⟩ | ⟨hk2, h⟩
  · obtain ⟨hk3, h⟩ := ck_some h
    have lhk3 := ix_lt hk3
    have xhk3 := getD_mapD byteAV a lhk3
    obtain ⟨hk4, h⟩ := ck_some h
    have lhk4 := ix_lt hk4
    have xhk4 := getD_mapD byteAV out lhk4
    obtain rfl := so_some h
    refine ⟨0, fun L hL => ?_⟩
    (try simp only [go_sem, Bool.not_eq_true', Bool.not_eq_false', Bool.and_eq_true, Bool.or_eq_false_iff] at hk2) <;>
    (try simp only [go_sem, Bool.not_eq_true', Bool.not_eq_false', Bool.and_eq_true, Bool.or_eq_false_iff, hk2] at hk3) <;>
    (try simp only [go_sem] at lhk3) <;>
    (try simp only [go_sem] at xhk3) <;>
    (try simp only [go_sem, Bool.not_eq_true', Bool.not_eq_false', Bool.and_eq_true, Bool.or_eq_false_iff, hk2, hk3] at hk4) <;>
    (try simp only [go_sem] at lhk4) <;>
    (try simp only [go_sem] at xhk4) <;>
    simp only [go_sem, ir15, E_laws_toByteS_l1, R_laws_toByteS_l1, ir15_b0, ir15_k0, ir15_o0, ir15_r0, hk2, hk3, lhk3, xhk3, hk4, lhk4, xhk4]
  · obtain rfl := so_some h
    refine ⟨0, fun L hL => ?_⟩
    (try simp only [go_sem, Bool.not_eq_true', Bool.not_eq_false', Bool.and_eq_true, Bool.or_eq_false_iff] at hk2) <;>
    simp only [go_sem, ir15, E_laws_toByteS_l1, R_laws_toByteS_l1, ir15_b0, ir15_k0, ir15_o0, ir15_r0, hk2]

theorem Fs_laws_toByteS {a : List UInt8} {y_ : (List UInt8)} (h : laws_toByteS a = some y_) : c_laws_toByteS.F [.sl 1 (List.map byteAV a)] = ⟨true, .fresh 1 (List.map byteAV y_), [.any]⟩ := by
  refine mkN_E ?_
  dsimp only [laws_toByteS] at h
  obtain ⟨hk1, h⟩ := ck_some h
  obtain ⟨y_5, hk5, h⟩ := bd_some h
  obtain ⟨Lhk5, ehk5⟩ := laws_toByteS_l1_ex hk5
  obtain rfl := so_some h
  refine ⟨Lhk5, fun L hL => ?_⟩
  have ehk5 := ehk5 L (by omega)
  (try simp only [go_sem, Bool.not_eq_true', Bool.not_eq_false', Bool.and_eq_true, Bool.or_eq_false_iff] at hk1) <;>
  (try simp only [go_sem, E_laws_toByteS_l1, R_laws_toByteS_l1, ir15_k0, ir15_o0, ir15_r0] at ehk5) <;>
  simp only [go_sem, ir15, E_laws_toByteS_l1, R_laws_toByteS_l1, ir15_k0, ir15_o0, ir15_r0, hk1, ehk5]


def ir28_b0 : IR := .seq (.test false [
    ⟨.push, 7, none, .mov (.v 5)⟩,
    ⟨.push, 8, none, .mov (.v 0)⟩,
    ⟨.push, 9, none, .len false (.s 0)⟩,
    ⟨.push, 10, none, .bin false .lss (.s 2) (.s 0)⟩,
    ⟨.push, 11, none, .mov (.s 0)⟩,
    ⟨.push, 12, (some ((.s 0), true)), .mov (.v 5)⟩,
    ⟨.push, 13, (some ((.s 1), true)), .bin false .lss (.s 0) (.c (.int .i64 (9)))⟩,
    ⟨.push, 14, none, .pick (.s 2) (.s 0) (.c (.bool false))⟩] (.s 0)
  (.skip)
  (.exit 0))
 (.seq (.block 1 (.seq (.region false [
      ⟨.push, 17, none, .mov (.v 4)⟩,
      ⟨.push, 18, none, .mov (.v 0)⟩,
      ⟨.push, 19, none, .mov (.v 5)⟩,
      ⟨.push, 20, none, .ixAddr 1 (.s 1) (.s 0)⟩,
      ⟨.push, 21, none, .load false 1 (.s 0)⟩,
      ⟨.push, 22, none, .bin false .and (.s 0) (.c (.int .u8 (127)))⟩,
      ⟨.push, 23, none, .conv .i64 (.s 0)⟩,
      ⟨.push, 24, none, .mov (.v 5)⟩,
      ⟨.push, 25, none, .bin false .mul (.c (.int .i64 (7))) (.s 0)⟩,
      ⟨.push, 26, none, .conv .u64 (.s 0)⟩,
      ⟨.push, 27, none, .bin false .shl (.s 3) (.s 0)⟩,
      ⟨.push, 28, none, .bin false .add (.s 10) (.s 0)⟩,
      ⟨.var 4, 5, none, .mov (.s 0)⟩])
   (.test false [
     ⟨.push, 29, none, .mov (.v 0)⟩,
     ⟨.push, 30, none, .mov (.v 5)⟩,
     ⟨.push, 31, none, .ixAddr 1 (.s 1) (.s 0)⟩,
     ⟨.push, 32, none, .load false 1 (.s 0)⟩,
     ⟨.push, 33, none, .bin false .lss (.s 0) (.c (.int .u8 (128)))⟩] (.s 0)
   (.seq (.test false [
       ⟨.push, 34, none, .mov (.v 5)⟩,
       ⟨.push, 35, none, .bin false .gtr (.s 0) (.c (.int .i64 (0)))⟩,
       ⟨.push, 36, none, .mov (.s 0)⟩,
       ⟨.push, 37, (some ((.s 0), true)), .mov (.v 0)⟩,
       ⟨.push, 38, (some ((.s 1), true)), .mov (.v 5)⟩,
       ⟨.push, 39, (some ((.s 2), true)), .ixAddr 1 (.s 1) (.s 0)⟩,
       ⟨.push, 40, (some ((.s 3), true)), .load false 1 (.s 0)⟩,
       ⟨.push, 41, (some ((.s 4), true)), .bin false .eql (.s 0) (.c (.int .u8 (0)))⟩,
       ⟨.push, 42, none, .pick (.s 5) (.s 0) (.c (.bool false))⟩] (.s 0)
     (.seq (.region false [
         ⟨.var 1, 2, none, .mov (.c (.int .i64 (0)))⟩,
         ⟨.var 2, 3, none, .mov (.c (.int .i64 (0)))⟩,
         ⟨.var 3, 4, none, .mov (.c (.bool false))⟩])
      (.ret))
     (.skip))
    (.seq (.region false [
       ⟨.push, 43, none, .mov (.v 4)⟩,
       ⟨.push, 44, none, .mov (.v 5)⟩,
       ⟨.push, 45, none, .bin false .add (.s 0) (.c (.int .i64 (1)))⟩,
       ⟨.var 1, 2, none, .mov (.s 2)⟩,
       ⟨.var 2, 3, none, .mov (.s 0)⟩,
       ⟨.var 3, 4, none, .mov (.c (.bool true))⟩])
    (.ret)))
   (.skip))))
 (.region false [
   ⟨.push, 15, none, .mov (.v 5)⟩,
   ⟨.push, 16, none, .bin false .add (.s 0) (.c (.int .i64 (1)))⟩,
   ⟨.var 5, 6, none, .mov (.s 0)⟩]))
def ir28_k0 : List Bool := [true, false, false, false, true, true]
def ir28_o0 : List Bool := [false, false, false, false, false, false]
def ir28_r0 : List Bool := [false, true, true, true, false, false]
def ir28_v : List Nat := [0, 2, 3, 4, 5, 6]
def ir28 : AFn := ⟨1, 6, .seq (.region false [
    ⟨.var 1, 2, none, .mov (.c (.int .i64 (0)))⟩,
    ⟨.var 2, 3, none, .mov (.c (.int .i64 (0)))⟩,
    ⟨.var 3, 4, none, .mov (.c (.bool false))⟩])
 (.seq (.region false [
    ⟨.var 4, 5, none, .mov (.c (.int .i64 (0)))⟩])
 (.seq (.seq (.region false [
     ⟨.var 5, 6, none, .mov (.c (.int .i64 (0)))⟩])
  (.block 0 (.loop ir28_k0 ir28_o0 ir28_r0 ir28_b0)))
 (.seq (.region false [
    ⟨.var 1, 2, none, .mov (.c (.int .i64 (0)))⟩,
    ⟨.var 2, 3, none, .mov (.c (.int .i64 (0)))⟩,
    ⟨.var 3, 4, none, .mov (.c (.bool false))⟩])
 (.ret)))), [.t 1, .t 2, .t 3]⟩
noncomputable def t_spec_l25Read : List (Nat × Ctr) := []
noncomputable def c_spec_l25Read : Ctr := mkF t_spec_l25Read ir28 [.bor]
theorem s_spec_l25Read : Sound Try.prog 28 c_spec_l25Read := mkF_sound _ rfl snd_nil (by kernel_rfl : chkFn Try.prog 28 ir28 ir28_v = true)
theorem M_spec_l25Read : c_spec_l25Read.modes = [.bor] := rfl
theorem Fl_spec_l25Read : c_spec_l25Read.flat = true := rfl
def E_spec_l25Read_l1 (b : List UInt8) : (Int × Int) → St
  | (n, i) => ⟨[.sl 1 (List.map byteAV b), .any, .any, .any, .int .i64 n, .int .i64 i], [], [], true⟩
def R_spec_l25Read_l1 (b : List UInt8) : (Unit ⊕ (Int × Int × Bool)) → Res
  | .inl y => (.exit 0, ⟨[.any, .any, .any, .any, .any, .any], [], [], true⟩)
  | .inr y => (.ret, ⟨[.any, .int .i64 y.1, .int .i64 y.2.1, .bool y.2.2, .any, .any], [], [], true⟩)
theorem spec_l25Read_l1_ex {b : List UInt8} {sgm_ : Int × Int} {rho_ : Unit ⊕ (Int × Int × Bool)} (h : whileE (spec_l25Read_l1 b) sgm_ = some rho_) : ∃ L0, ∀ L, L0 ≤ L → iter (exec (look t_spec_l25Read) L ir28_b0) ir28_k0 ir28_o0 ir28_r0 L (E_spec_l25Read_l1 b sgm_) = R_spec_l25Read_l1 b rho_ := by
  refine loop_ex (E := E_spec_l25Read_l1 b) (R := R_spec_l25Read_l1 b) (fun y => by first | (intro c; cases c) | (rcases y with y | y <;> (intro c; cases c)) | (rcases y with y | y | y <;> (intro c; cases c))) ?_ h
  clear h
  rintro ⟨n, i⟩ o_ h
  dsimp only [spec_l25Read_l1] at h
  rcases it_some h with ⟨hk1, h⟩ | ⟨hk1, h⟩
  · obtain ⟨hk2, h⟩ := ck_some h
    have lhk2 := ix_lt hk2
    have xhk2 := getD_mapD byteAV b lhk2
    obtain ⟨hk3, h⟩ := ck_some h
    rcases it_some h with ⟨hk4, h⟩ | ⟨hk4, h⟩
    · rcases it_some h with ⟨hk5, h⟩ | ⟨hk5, h⟩
      · obtain rfl := so_some h
        refine ⟨0, fun L hL => ?_⟩
        (try simp only [go_sem, Bool.not_eq_true', Bool.not_eq_false', Bool.and_eq_true, Bool.or_eq_false_iff] at hk1) <;>
        (try simp only [go_sem, Bool.not_eq_true', Bool.not_eq_false', Bool.and_eq_true, Bool.or_eq_false_iff, hk1] at hk2) <;>
        (try simp only [go_sem] at lhk2) <;>
        (try simp only [go_sem] at xhk2) <;>
        (try simp only [go_sem, Bool.not_eq_true', Bool.not_eq_false', Bool.and_eq_true, Bool.or_eq_false_iff, hk1, hk2] at hk3) <;>
        (try simp only [go_sem, Bool.not_eq_true', Bool.not_eq_false', Bool.and_eq_true, Bool.or_eq_false_iff, hk1, hk2, hk3] at hk4) <;>
        (try simp only [go_sem, Bool.not_eq_true', Bool.not_eq_false', Bool.and_eq_true, Bool.or_eq_false_iff, hk1, hk2, hk3, hk4] at hk5) <;>
        simp only [go_sem, ir28, E_spec_l25Read_l1, R_spec_l25Read_l1, ir28_b0, ir28_k0, ir28_o0, ir28_r0, hk1, hk2, lhk2, xhk2, hk3, hk4, hk5]
      · obtain rfl := so_some h
        refine ⟨0, fun L hL => ?_⟩
        (try simp only [go_sem, Bool.not_eq_true', Bool.not_eq_false', Bool.and_eq_true, Bool.or_eq_false_iff] at hk1) <;>
        (try simp only [go_sem, Bool.not_eq_true', Bool.not_eq_false', Bool.and_eq_true, Bool.or_eq_false_iff, hk1] at hk2) <;>
        (try simp only [go_sem] at lhk2) <;>
        (try simp only [go_sem] at xhk2) <;>
        (try simp only [go_sem, Bool.not_eq_true', Bool.not_eq_false', Bool.and_eq_true, Bool.or_eq_false_iff, hk1, hk2] at hk3) <;>
        (try simp only [go_sem, Bool.not_eq_true', Bool.not_eq_false', Bool.and_eq_true, Bool.or_eq_false_iff, hk1, hk2, hk3] at hk4) <;>
        (try simp only [go_sem, Bool.not_eq_true', Bool.not_eq_false', Bool.and_eq_true, Bool.or_eq_false_iff, hk1, hk2, hk3, hk4] at hk5) <;>
        simp only [go_sem, ir28, E_spec_l25Read_l1, R_spec_l25Read_l1, ir28_b0, ir28_k0, ir28_o0, ir28_r0, hk1, hk2, lhk2, xhk2, hk3, hk4, hk5]
    · obtain rfl := so_some h
      refine ⟨0, fun L hL => ?_⟩
      (try simp only [go_sem, Bool.not_eq_true', Bool.not_eq_false', Bool.and_eq_true, Bool.or_eq_false_iff] at hk1) <;>
      (try simp only [go_sem, Bool.not_eq_true', Bool.not_eq_false', Bool.and_eq_true, Bool.or_eq_false_iff, hk1] at hk2) <;>
      (try simp only [go_sem] at lhk2) <;>
      (try simp only [go_sem] at xhk2) <;>
      (try simp only [go_sem, Bool.not_eq_true', Bool.not_eq_false', Bool.and_eq_true, Bool.or_eq_false_iff, hk1, hk2] at hk3) <;>
      (try simp only [go_sem, Bool.not_eq_true', Bool.not_eq_false', Bool.and_eq_true, Bool.or_eq_false_iff, hk1, hk2, hk3] at hk4) <;>
      simp only [go_sem, ir28, E_spec_l25Read_l1, R_spec_l25Read_l1, ir28_b0, ir28_k0, ir28_o0, ir28_r0, hk1, hk2, lhk2, xhk2, hk3, hk4]
  · obtain rfl := so_some h
    refine ⟨0, fun L hL => ?_⟩
    (try simp only [go_sem, Bool.not_eq_true', Bool.not_eq_false', Bool.and_eq_true, Bool.or_eq_false_iff] at hk1) <;>
    simp only [go_sem, ir28, E_spec_l25Read_l1, R_spec_l25Read_l1, ir28_b0, ir28_k0, ir28_o0, ir28_r0, hk1]

theorem Fs_spec_l25Read {b : List UInt8} {y_ : Int × Int × Bool} (h : spec_l25Read b = some y_) : c_spec_l25Read.F [.sl 1 (List.map byteAV b)] = ⟨true, .tup [.int .i64 y_.1, .int .i64 y_.2.1, .bool y_.2.2], [.any]⟩ := by
  refine mkF_E rfl ?_
  dsimp only [spec_l25Read] at h
  obtain ⟨y_6, hk6, h⟩ := bd_some h
  obtain ⟨Lhk6, ehk6⟩ := spec_l25Read_l1_ex hk6
  rcases y_6 with y_6a | y_6b
  · dsimp only at h
    obtain rfl := so_some h
    refine ⟨Lhk6, fun L hL => ?_⟩
    have ehk6 := ehk6 L (by omega)
    (try simp only [go_sem, E_spec_l25Read_l1, R_spec_l25Read_l1, ir28_k0, ir28_o0, ir28_r0] at ehk6) <;>
    simp only [go_sem, ir28, E_spec_l25Read_l1, R_spec_l25Read_l1, ir28_k0, ir28_o0, ir28_r0, ehk6]
  · dsimp only at h
    obtain rfl := so_some h
    refine ⟨Lhk6, fun L hL => ?_⟩
    have ehk6 := ehk6 L (by omega)
    (try simp only [go_sem, E_spec_l25Read_l1, R_spec_l25Read_l1, ir28_k0, ir28_o0, ir28_r0] at ehk6) <;>
    simp only [go_sem, ir28, E_spec_l25Read_l1, R_spec_l25Read_l1, ir28_k0, ir28_o0, ir28_r0, ehk6]


def ir14_v : List Nat := [0, 2, 3, 4, 5, 6, 7]
def ir14 : AFn := ⟨1, 7, .seq (.region false [
    ⟨.var 1, 2, none, .mov (.c (.int .i64 (0)))⟩,
    ⟨.var 2, 3, none, .mov (.c (.int .i64 (0)))⟩,
    ⟨.var 3, 4, none, .mov (.c (.bool false))⟩])
 (.seq (.region false [
    ⟨.push, 9, none, .mov (.v 0)⟩,
    ⟨.push, 10, none, .call 28 [(.s 0)]⟩,
    ⟨.push, 8, none, .mov (.s 0)⟩,
    ⟨.push, 11, none, .ext (.s 0) 0⟩,
    ⟨.push, 12, none, .ext (.s 1) 1⟩,
    ⟨.push, 13, none, .ext (.s 2) 2⟩,
    ⟨.var 4, 5, none, .mov (.s 2)⟩,
    ⟨.var 5, 6, none, .mov (.s 1)⟩,
    ⟨.var 6, 7, none, .mov (.s 0)⟩])
 (.seq (.region false [
    ⟨.push, 14, none, .mov (.v 4)⟩,
    ⟨.push, 15, none, .mov (.v 5)⟩,
    ⟨.push, 16, none, .mov (.v 6)⟩,
    ⟨.var 1, 2, none, .mov (.s 2)⟩,
    ⟨.var 2, 3, none, .mov (.s 1)⟩,
    ⟨.var 3, 4, none, .mov (.s 0)⟩])
 (.ret))), [.t 1, .t 2, .t 3]⟩
noncomputable def t_spec_ReadNumber : List (Nat × Ctr) := [(28, c_spec_l25Read)]
theorem lk_spec_ReadNumber_28 : look t_spec_ReadNumber 28 = some c_spec_l25Read := rfl
noncomputable def c_spec_ReadNumber : Ctr := mkF t_spec_ReadNumber ir14 [.bor]
theorem s_spec_ReadNumber : Sound Try.prog 14 c_spec_ReadNumber := mkF_sound _ rfl (snd_cons s_spec_l25Read snd_nil) (by kernel_rfl : chkFn Try.prog 14 ir14 ir14_v = true)
theorem M_spec_ReadNumber : c_spec_ReadNumber.modes = [.bor] := rfl
theorem Fl_spec_ReadNumber : c_spec_ReadNumber.flat = true := rfl
theorem Fs_spec_ReadNumber {b : List UInt8} {y_ : Int × Int × Bool} (h : spec_ReadNumber b = some y_) : c_spec_ReadNumber.F [.sl 1 (List.map byteAV b)] = ⟨true, .tup [.int .i64 y_.1, .int .i64 y_.2.1, .bool y_.2.2], [.any]⟩ := by
  refine mkF_E rfl ?_
  dsimp only [spec_ReadNumber] at h
  obtain ⟨y_1, hk1, h⟩ := bd_some h
  have fhk1 := Fs_spec_l25Read hk1
  obtain rfl := so_some h
  refine ⟨0, fun L hL => ?_⟩
  (try simp only [go_sem] at fhk1) <;>
  simp only [go_sem, ir14, lk_spec_ReadNumber_28, M_spec_l25Read, Fl_spec_l25Read, fhk1]


def ir16_b0 : IR := .seq (.test false [
    ⟨.push, 7, none, .mov (.v 5)⟩,
    ⟨.push, 8, none, .mov (.v 0)⟩,
    ⟨.push, 9, none, .len false (.s 0)⟩,
    ⟨.push, 10, none, .bin false .lss (.s 2) (.s 0)⟩,
    ⟨.push, 11, none, .mov (.s 0)⟩,
    ⟨.push, 12, (some ((.s 0), true)), .mov (.v 5)⟩,
    ⟨.push, 13, (some ((.s 1), true)), .bin false .lss (.s 0) (.c (.int .i64 (9)))⟩,
    ⟨.push, 14, none, .pick (.s 2) (.s 0) (.c (.bool false))⟩] (.s 0)
  (.skip)
  (.exit 0))
 (.seq (.block 1 (.seq (.region false [
      ⟨.push, 17, none, .mov (.v 4)⟩,
      ⟨.push, 18, none, .mov (.v 0)⟩,
      ⟨.push, 19, none, .mov (.v 5)⟩,
      ⟨.push, 20, none, .ixAddr 1 (.s 1) (.s 0)⟩,
      ⟨.push, 21, none, .load false 1 (.s 0)⟩,
      ⟨.push, 22, none, .bin false .and (.s 0) (.c (.int .u8 (127)))⟩,
      ⟨.push, 23, none, .conv .i64 (.s 0)⟩,
      ⟨.push, 24, none, .mov (.v 5)⟩,
      ⟨.push, 25, none, .bin false .mul (.c (.int .i64 (7))) (.s 0)⟩,
      ⟨.push, 26, none, .bin false .shl (.s 2) (.s 0)⟩,
      ⟨.push, 27, none, .bin false .or (.s 9) (.s 0)⟩,
      ⟨.var 4, 5, none, .mov (.s 0)⟩])
   (.test false [
     ⟨.push, 28, none, .mov (.v 0)⟩,
     ⟨.push, 29, none, .mov (.v 5)⟩,
     ⟨.push, 30, none, .ixAddr 1 (.s 1) (.s 0)⟩,
     ⟨.push, 31, none, .load false 1 (.s 0)⟩,
     ⟨.push, 32, none, .bin false .lss (.s 0) (.c (.int .u8 (128)))⟩] (.s 0)
   (.seq (.test false [
       ⟨.push, 33, none, .mov (.v 0)⟩,
       ⟨.push, 34, none, .mov (.v 5)⟩,
       ⟨.push, 35, none, .ixAddr 1 (.s 1) (.s 0)⟩,
       ⟨.push, 36, none, .load false 1 (.s 0)⟩,
       ⟨.push, 37, none, .bin false .eql (.s 0) (.c (.int .u8 (0)))⟩,
       ⟨.push, 38, none, .mov (.s 0)⟩,
       ⟨.push, 39, (some ((.s 0), true)), .mov (.v 5)⟩,
       ⟨.push, 40, (some ((.s 1), true)), .bin false .gtr (.s 0) (.c (.int .i64 (0)))⟩,
       ⟨.push, 41, none, .pick (.s 2) (.s 0) (.c (.bool false))⟩] (.s 0)
     (.seq (.region false [
         ⟨.var 1, 2, none, .mov (.c (.int .i64 (0)))⟩,
         ⟨.var 2, 3, none, .mov (.c (.int .i64 (0)))⟩,
         ⟨.var 3, 4, none, .mov (.c (.bool false))⟩])
      (.ret))
     (.skip))
    (.seq (.region false [
       ⟨.push, 42, none, .mov (.v 4)⟩,
       ⟨.push, 43, none, .mov (.v 5)⟩,
       ⟨.push, 44, none, .bin false .add (.s 0) (.c (.int .i64 (1)))⟩,
       ⟨.var 1, 2, none, .mov (.s 2)⟩,
       ⟨.var 2, 3, none, .mov (.s 0)⟩,
       ⟨.var 3, 4, none, .mov (.c (.bool true))⟩])
    (.ret)))
   (.skip))))
 (.region false [
   ⟨.push, 15, none, .mov (.v 5)⟩,
   ⟨.push, 16, none, .bin false .add (.s 0) (.c (.int .i64 (1)))⟩,
   ⟨.var 5, 6, none, .mov (.s 0)⟩]))
def ir16_k0 : List Bool := [true, false, false, false, true, true]
def ir16_o0 : List Bool := [false, false, false, false, false, false]
def ir16_r0 : List Bool := [false, true, true, true, false, false]
def ir16_v : List Nat := [0, 2, 3, 4, 5, 6]
def ir16 : AFn := ⟨1, 6, .seq (.region false [
    ⟨.var 1, 2, none, .mov (.c (.int .i64 (0)))⟩,
    ⟨.var 2, 3, none, .mov (.c (.int .i64 (0)))⟩,
    ⟨.var 3, 4, none, .mov (.c (.bool false))⟩])
 (.seq (.region false [
    ⟨.var 4, 5, none, .mov (.c (.int .i64 (0)))⟩])
 (.seq (.seq (.region false [
     ⟨.var 5, 6, none, .mov (.c (.int .i64 (0)))⟩])
  (.block 0 (.loop ir16_k0 ir16_o0 ir16_r0 ir16_b0)))
 (.seq (.region false [
    ⟨.var 1, 2, none, .mov (.c (.int .i64 (0)))⟩,
    ⟨.var 2, 3, none, .mov (.c (.int .i64 (0)))⟩,
    ⟨.var 3, 4, none, .mov (.c (.bool false))⟩])
 (.ret)))), [.t 1, .t 2, .t 3]⟩
noncomputable def t_impl_ReadNumber : List (Nat × Ctr) := []
noncomputable def c_impl_ReadNumber : Ctr := mkF t_impl_ReadNumber ir16 [.bor]
theorem s_impl_ReadNumber : Sound Try.prog 16 c_impl_ReadNumber := mkF_sound _ rfl snd_nil (by kernel_rfl : chkFn Try.prog 16 ir16 ir16_v = true)
theorem M_impl_ReadNumber : c_impl_ReadNumber.modes = [.bor] := rfl
theorem Fl_impl_ReadNumber : c_impl_ReadNumber.flat = true := rfl
def E_impl_ReadNumber_l1 (b : List UInt8) : (Int × Int) → St
  | (n, i) => ⟨[.sl 1 (List.map byteAV b), .any, .any, .any, .int .i64 n, .int .i64 i], [], [], true⟩
def R_impl_ReadNumber_l1 (b : List UInt8) : (Unit ⊕ (Int × Int × Bool)) → Res
  | .inl y => (.exit 0, ⟨[.any, .any, .any, .any, .any, .any], [], [], true⟩)
  | .inr y => (.ret, ⟨[.any, .int .i64 y.1, .int .i64 y.2.1, .bool y.2.2, .any, .any], [], [], true⟩)
theorem impl_ReadNumber_l1_ex {b : List UInt8} {sgm_ : Int × Int} {rho_ : Unit ⊕ (Int × Int × Bool)} (h : whileE (impl_ReadNumber_l1 b) sgm_ = some rho_) : ∃ L0, ∀ L, L0 ≤ L → iter (exec (look t_impl_ReadNumber) L ir16_b0) ir16_k0 ir16_o0 ir16_r0 L (E_impl_ReadNumber_l1 b sgm_) = R_impl_ReadNumber_l1 b rho_ := by
  refine loop_ex (E := E_impl_ReadNumber_l1 b) (R := R_impl_ReadNumber_l1 b) (fun y => by first | (intro c; cases c) | (rcases y with y | y <;> (intro c; cases c)) | (rcases y with y | y | y <;> (intro c; cases c))) ?_ h
  clear h
  rintro ⟨n, i⟩ o_ h
  dsimp only [impl_ReadNumber_l1] at h
  rcases it_some h with ⟨hk1, h⟩ | ⟨hk1, h⟩
  · obtain ⟨hk2, h⟩ := ck_some h
    have lhk2 := ix_lt hk2
    have xhk2 := getD_mapD byteAV b lhk2
    obtain ⟨hk3, h⟩ := ck_some h
    rcases it_some h with ⟨hk4, h⟩ | ⟨hk4, h⟩
    · rcases it_some h with ⟨hk5, h⟩ | ⟨hk5, h⟩
      · obtain rfl := so_some h
        refine ⟨0, fun L hL => ?_⟩
        (try simp only [go_sem, Bool.not_eq_true', Bool.not_eq_false', Bool.and_eq_true, Bool.or_eq_false_iff] at hk1) <;>
        (try simp only [go_sem, Bool.not_eq_true', Bool.not_eq_false', Bool.and_eq_true, Bool.or_eq_false_iff, hk1] at hk2) <;>
        (try simp only [go_sem] at lhk2) <;>
        (try simp only [go_sem] at xhk2) <;>
        (try simp only [go_sem, Bool.not_eq_true', Bool.not_eq_false', Bool.and_eq_true, Bool.or_eq_false_iff, hk1, hk2] at hk3) <;>
        (try simp only [go_sem, Bool.not_eq_true', Bool.not_eq_false', Bool.and_eq_true, Bool.or_eq_false_iff, hk1, hk2, hk3] at hk4) <;>
        (try simp only [go_sem, Bool.not_eq_true', Bool.not_eq_false', Bool.and_eq_true, Bool.or_eq_false_iff, hk1, hk2, hk3, hk4] at hk5) <;>
        simp only [go_sem, ir16, E_impl_ReadNumber_l1, R_impl_ReadNumber_l1, ir16_b0, ir16_k0, ir16_o0, ir16_r0, hk1, hk2, lhk2, xhk2, hk3, hk4, hk5]
      · obtain rfl := so_some h
        refine ⟨0, fun L hL => ?_⟩
        (try simp only [go_sem, Bool.not_eq_true', Bool.not_eq_false', Bool.and_eq_true, Bool.or_eq_false_iff] at hk1) <;>
        (try simp only [go_sem, Bool.not_eq_true', Bool.not_eq_false', Bool.and_eq_true, Bool.or_eq_false_iff, hk1] at hk2) <;>
        (try simp only [go_sem] at lhk2) <;>
        (try simp only [go_sem] at xhk2) <;>
        (try simp only [go_sem, Bool.not_eq_true', Bool.not_eq_false', Bool.and_eq_true, Bool.or_eq_false_iff, hk1, hk2] at hk3) <;>
        (try simp only [go_sem, Bool.not_eq_true', Bool.not_eq_false', Bool.and_eq_true, Bool.or_eq_false_iff, hk1, hk2, hk3] at hk4) <;>
        (try simp only [go_sem, Bool.not_eq_true', Bool.not_eq_false', Bool.and_eq_true, Bool.or_eq_false_iff, hk1, hk2, hk3, hk4] at hk5) <;>
        simp only [go_sem, ir16, E_impl_ReadNumber_l1, R_impl_ReadNumber_l1, ir16_b0, ir16_k0, ir16_o0, ir16_r0, hk1, hk2, lhk2, xhk2, hk3, hk4, hk5]
    · obtain rfl := so_some h
      refine ⟨0, fun L hL => ?_⟩
      (try simp only [go_sem, Bool.not_eq_true', Bool.not_eq_false', Bool.and_eq_true, Bool.or_eq_false_iff] at hk1) <;>
      (try simp only [go_sem, Bool.not_eq_true', Bool.not_eq_false', Bool.and_eq_true, Bool.or_eq_false_iff, hk1] at hk2) <;>
      (try simp only [go_sem] at lhk2) <;>
      (try simp only [go_sem] at xhk2) <;>
      (try simp only [go_sem, Bool.not_eq_true', Bool.not_eq_false', Bool.and_eq_true, Bool.or_eq_false_iff, hk1, hk2] at hk3) <;>
      (try simp only [go_sem, Bool.not_eq_true', Bool.not_eq_false', Bool.and_eq_true, Bool.or_eq_false_iff, hk1, hk2, hk3] at hk4) <;>
      simp only [go_sem, ir16, E_impl_ReadNumber_l1, R_impl_ReadNumber_l1, ir16_b0, ir16_k0, ir16_o0, ir16_r0, hk1, hk2, lhk2, xhk2, hk3, hk4]
  · obtain rfl := so_some h
    refine ⟨0, fun L hL => ?_⟩
    (try simp only [go_sem, Bool.not_eq_true', Bool.not_eq_false', Bool.and_eq_true, Bool.or_eq_false_iff] at hk1) <;>
    simp only [go_sem, ir16, E_impl_ReadNumber_l1, R_impl_ReadNumber_l1, ir16_b0, ir16_k0, ir16_o0, ir16_r0, hk1]

theorem Fs_impl_ReadNumber {b : List UInt8} {y_ : Int × Int × Bool} (h : impl_ReadNumber b = some y_) : c_impl_ReadNumber.F [.sl 1 (List.map byteAV b)] = ⟨true, .tup [.int .i64 y_.1, .int .i64 y_.2.1, .bool y_.2.2], [.any]⟩ := by
  refine mkF_E rfl ?_
  dsimp only [impl_ReadNumber] at h
  obtain ⟨y_6, hk6, h⟩ := bd_some h
  obtain ⟨Lhk6, ehk6⟩ := impl_ReadNumber_l1_ex hk6
  rcases y_6 with y_6a | y_6b
  · dsimp only at h
    obtain rfl := so_some h
    refine ⟨Lhk6, fun L hL => ?_⟩
    have ehk6 := ehk6 L (by omega)
    (try simp only [go_sem, E_impl_ReadNumber_l1, R_impl_ReadNumber_l1, ir16_k0, ir16_o0, ir16_r0] at ehk6) <;>
    simp only [go_sem, ir16, E_impl_ReadNumber_l1, R_impl_ReadNumber_l1, ir16_k0, ir16_o0, ir16_r0, ehk6]
  · dsimp only at h
    obtain rfl := so_some h
    refine ⟨Lhk6, fun L hL => ?_⟩
    have ehk6 := ehk6 L (by omega)
    (try simp only [go_sem, E_impl_ReadNumber_l1, R_impl_ReadNumber_l1, ir16_k0, ir16_o0, ir16_r0] at ehk6) <;>
    simp only [go_sem, ir16, E_impl_ReadNumber_l1, R_impl_ReadNumber_l1, ir16_k0, ir16_o0, ir16_r0, ehk6]


def ir17_b0 : IR := .seq (.test false [
    ⟨.push, 11, none, .mov (.v 3)⟩,
    ⟨.push, 12, none, .mov (.v 0)⟩,
    ⟨.push, 13, none, .len false (.s 0)⟩,
    ⟨.push, 14, none, .bin false .lss (.s 2) (.s 0)⟩] (.s 0)
  (.skip)
  (.exit 0))
 (.seq (.block 1 (.anyo 9 [
     ⟨.slot 0, 17, none, .mov (.v 0)⟩,
     ⟨.slot 1, 18, none, .mov (.v 3)⟩,
     ⟨.slot 2, 19, none, .ixAddr 1 (.s 0) (.s 1)⟩,
     ⟨.slot 3, 20, none, .load false 1 (.s 2)⟩,
     ⟨.slot 4, 21, none, .mov (.v 1)⟩,
     ⟨.slot 5, 22, none, .mov (.v 3)⟩,
     ⟨.slot 6, 23, none, .ixAddr 1 (.s 4) (.s 5)⟩,
     ⟨.slot 7, 24, none, .load false 1 (.s 6)⟩,
     ⟨.slot 8, 25, none, .bin false .neq (.s 3) (.s 7)⟩] [] (.cond (.s 8)
   (.seq (.region false [
       ⟨.var 2, 4, none, .mov (.c (.bool false))⟩])
    (.ret))
   (.skip))))
 (.region false [
   ⟨.push, 15, none, .mov (.v 3)⟩,
   ⟨.push, 16, none, .bin false .add (.s 0) (.c (.int .i64 (1)))⟩,
   ⟨.var 3, 5, none, .mov (.s 0)⟩]))
def ir17_k0 : List Bool := [true, true, false, true]
def ir17_o0 : List Bool := [false, false, false, false]
def ir17_r0 : List Bool := [false, false, true, false]
def ir17_v : List Nat := [0, 1, 4, 5]
def ir17 : AFn := ⟨2, 4, .seq (.region false [
    ⟨.var 2, 4, none, .mov (.c (.bool false))⟩])
 (.seq (.test false [
    ⟨.push, 6, none, .mov (.v 0)⟩,
    ⟨.push, 7, none, .len false (.s 0)⟩,
    ⟨.push, 8, none, .mov (.v 1)⟩,
    ⟨.push, 9, none, .len false (.s 0)⟩,
    ⟨.push, 10, none, .bin false .neq (.s 2) (.s 0)⟩] (.s 0)
  (.seq (.region false [
      ⟨.var 2, 4, none, .mov (.c (.bool false))⟩])
   (.ret))
  (.skip))
 (.seq (.seq (.region false [
     ⟨.var 3, 5, none, .mov (.c (.int .i64 (0)))⟩])
  (.block 0 (.loop ir17_k0 ir17_o0 ir17_r0 ir17_b0)))
 (.seq (.region false [
    ⟨.var 2, 4, none, .mov (.c (.bool true))⟩])
 (.ret)))), [.t 2]⟩
noncomputable def t_laws_eqByteS : List (Nat × Ctr) := []
noncomputable def c_laws_eqByteS : Ctr := mkF t_laws_eqByteS ir17 [.bor, .bor]
theorem s_laws_eqByteS : Sound Try.prog 17 c_laws_eqByteS := mkF_sound _ rfl snd_nil (by kernel_rfl : chkFn Try.prog 17 ir17 ir17_v = true)
theorem M_laws_eqByteS : c_laws_eqByteS.modes = [.bor, .bor] := rfl
theorem Fl_laws_eqByteS : c_laws_eqByteS.flat = true := rfl
def E_laws_eqByteS_l1 (a : List UInt8) (b : List UInt8) : Int → St
  | i => ⟨[.sl 1 (List.map byteAV a), .sl 1 (List.map byteAV b), .any, .int .i64 i], [], [], true⟩
def R_laws_eqByteS_l1 (a : List UInt8) (b : List UInt8) : (Unit ⊕ Bool) → Res
  | .inl y => (.exit 0, ⟨[.any, .any, .any, .any], [], [], true⟩)
  | .inr y => (.ret, ⟨[.any, .any, .bool y, .any], [], [], true⟩)
theorem laws_eqByteS_l1_ex {a : List UInt8} {b : List UInt8} {sgm_ : Int} {rho_ : Unit ⊕ Bool} (h : whileE (laws_eqByteS_l1 a b) sgm_ = some rho_) : ∃ L0, ∀ L, L0 ≤ L → iter (exec (look t_laws_eqByteS) L ir17_b0) ir17_k0 ir17_o0 ir17_r0 L (E_laws_eqByteS_l1 a b sgm_) = R_laws_eqByteS_l1 a b rho_ := by
  refine loop_ex (E := E_laws_eqByteS_l1 a b) (R := R_laws_eqByteS_l1 a b) (fun y => by first | (intro c; cases c) | (rcases y with y | y <;> (intro c; cases c)) | (rcases y with y | y | y <;> (intro c; cases c))) ?_ h
  clear h
  intro i o_ h
  dsimp only [laws_eqByteS_l1] at h
  rcases it_some h with ⟨hk2, h⟩ | ⟨hk2, h⟩
  · obtain ⟨hk3, h⟩ := ck_some h
    have lhk3 := ix_lt hk3
    have xhk3 := getD_mapD byteAV a lhk3
    obtain ⟨hk4, h⟩ := ck_some h
    have lhk4 := ix_lt hk4
    have xhk4 := getD_mapD byteAV b lhk4
    rcases it_some h with ⟨hk5, h⟩ | ⟨hk5, h⟩
    · obtain rfl := so_some h
      refine ⟨0, fun L hL => ?_⟩
      (try simp only [go_sem, Bool.not_eq_true', Bool.not_eq_false', Bool.and_eq_true, Bool.or_eq_false_iff] at hk2) <;>
      (try simp only [go_sem, Bool.not_eq_true', Bool.not_eq_false', Bool.and_eq_true, Bool.or_eq_false_iff, hk2] at hk3) <;>
      (try simp only [go_sem] at lhk3) <;>
      (try simp only [go_sem] at xhk3) <;>
      (try simp only [go_sem, Bool.not_eq_true', Bool.not_eq_false', Bool.and_eq_true, Bool.or_eq_false_iff, hk2, hk3] at hk4) <;>
      (try simp only [go_sem] at lhk4) <;>
      (try simp only [go_sem] at xhk4) <;>
      (try simp only [go_sem, Bool.not_eq_true', Bool.not_eq_false', Bool.and_eq_true, Bool.or_eq_false_iff, hk2, hk3, hk4] at hk5) <;>
      simp only [go_sem, ir17, E_laws_eqByteS_l1, R_laws_eqByteS_l1, ir17_b0, ir17_k0, ir17_o0, ir17_r0, hk2, hk3, lhk3, xhk3, hk4, lhk4, xhk4, hk5]
    · obtain rfl := so_some h
      refine ⟨0, fun L hL => ?_⟩
      (try simp only [go_sem, Bool.not_eq_true', Bool.not_eq_false', Bool.and_eq_true, Bool.or_eq_false_iff] at hk2) <;>
      (try simp only [go_sem, Bool.not_eq_true', Bool.not_eq_false', Bool.and_eq_true, Bool.or_eq_false_iff, hk2] at hk3) <;>
      (try simp only [go_sem] at lhk3) <;>
      (try simp only [go_sem] at xhk3) <;>
      (try simp only [go_sem, Bool.not_eq_true', Bool.not_eq_false', Bool.and_eq_true, Bool.or_eq_false_iff, hk2, hk3] at hk4) <;>
      (try simp only [go_sem] at lhk4) <;>
      (try simp only [go_sem] at xhk4) <;>
      (try simp only [go_sem, Bool.not_eq_true', Bool.not_eq_false', Bool.and_eq_true, Bool.or_eq_false_iff, hk2, hk3, hk4] at hk5) <;>
      simp only [go_sem, ir17, E_laws_eqByteS_l1, R_laws_eqByteS_l1, ir17_b0, ir17_k0, ir17_o0, ir17_r0, hk2, hk3, lhk3, xhk3, hk4, lhk4, xhk4, hk5]
  · obtain rfl := so_some h
    refine ⟨0, fun L hL => ?_⟩
    (try simp only [go_sem, Bool.not_eq_true', Bool.not_eq_false', Bool.and_eq_true, Bool.or_eq_false_iff] at hk2) <;>
    simp only [go_sem, ir17, E_laws_eqByteS_l1, R_laws_eqByteS_l1, ir17_b0, ir17_k0, ir17_o0, ir17_r0, hk2]

theorem Fs_laws_eqByteS {a : List UInt8} {b : List UInt8} {y_ : Bool} (h : laws_eqByteS a b = some y_) : c_laws_eqByteS.F [.sl 1 (List.map byteAV a), .sl 1 (List.map byteAV b)] = ⟨true, .bool y_, [.any, .any]⟩ := by
  refine mkF_E rfl ?_
  dsimp only [laws_eqByteS] at h
  rcases it_some h with ⟨hk1, h⟩ | ⟨hk1, h⟩
  · obtain rfl := so_some h
    refine ⟨0, fun L hL => ?_⟩
    (try simp only [go_sem, Bool.not_eq_true', Bool.not_eq_false', Bool.and_eq_true, Bool.or_eq_false_iff] at hk1) <;>
    simp only [go_sem, ir17, E_laws_eqByteS_l1, R_laws_eqByteS_l1, ir17_k0, ir17_o0, ir17_r0, hk1]
  · obtain ⟨y_6, hk6, h⟩ := bd_some h
    obtain ⟨Lhk6, ehk6⟩ := laws_eqByteS_l1_ex hk6
    rcases y_6 with y_6a | y_6b
    · dsimp only at h
      obtain rfl := so_some h
      refine ⟨Lhk6, fun L hL => ?_⟩
      have ehk6 := ehk6 L (by omega)
      (try simp only [go_sem, Bool.not_eq_true', Bool.not_eq_false', Bool.and_eq_true, Bool.or_eq_false_iff] at hk1) <;>
      (try simp only [go_sem, E_laws_eqByteS_l1, R_laws_eqByteS_l1, ir17_k0, ir17_o0, ir17_r0] at ehk6) <;>
      simp only [go_sem, ir17, E_laws_eqByteS_l1, R_laws_eqByteS_l1, ir17_k0, ir17_o0, ir17_r0, hk1, ehk6]
    · dsimp only at h
      obtain rfl := so_some h
      refine ⟨Lhk6, fun L hL => ?_⟩
      have ehk6 := ehk6 L (by omega)
      (try simp only [go_sem, Bool.not_eq_true', Bool.not_eq_false', Bool.and_eq_true, Bool.or_eq_false_iff] at hk1) <;>
      (try simp only [go_sem, E_laws_eqByteS_l1, R_laws_eqByteS_l1, ir17_k0, ir17_o0, ir17_r0] at ehk6) <;>
      simp only [go_sem, ir17, E_laws_eqByteS_l1, R_laws_eqByteS_l1, ir17_k0, ir17_o0, ir17_r0, hk1, ehk6]


def ir5_v : List Nat := [0, 2, 3, 4, 5, 6, 7, 8, 9]
def ir5 : AFn := ⟨1, 9, .seq (.region false [
    ⟨.var 1, 2, none, .mov (.c (.bool false))⟩])
 (.seq (.test false [
    ⟨.push, 10, none, .mov (.v 0)⟩,
    ⟨.push, 11, none, .len false (.s 0)⟩,
    ⟨.push, 12, none, .bin false .gtr (.s 0) (.c (.int .i64 (1048576)))⟩] (.s 0)
  (.seq (.region false [
      ⟨.var 1, 2, none, .mov (.c (.bool true))⟩])
   (.ret))
  (.skip))
 (.seq (.region false [
    ⟨.push, 14, none, .mov (.v 0)⟩,
    ⟨.push, 15, none, .call 15 [(.s 0)]⟩,
    ⟨.push, 16, none, .call 14 [(.s 0)]⟩,
    ⟨.push, 13, none, .mov (.s 0)⟩,
    ⟨.push, 17, none, .ext (.s 0) 0⟩,
    ⟨.push, 18, none, .ext (.s 1) 1⟩,
    ⟨.push, 19, none, .ext (.s 2) 2⟩,
    ⟨.var 2, 3, none, .mov (.s 2)⟩,
    ⟨.var 3, 4, none, .mov (.s 1)⟩,
    ⟨.var 4, 5, none, .mov (.s 0)⟩])
 (.seq (.region false [
    ⟨.push, 20, none, .mov (.v 0)⟩,
    ⟨.push, 21, none, .call 15 [(.s 0)]⟩,
    ⟨.var 5, 6, none, .mov (.s 0)⟩])
 (.seq (.region false [
    ⟨.push, 23, none, .mov (.v 5)⟩,
    ⟨.push, 24, none, .call 16 [(.s 0)]⟩,
    ⟨.push, 22, none, .mov (.s 0)⟩,
    ⟨.push, 25, none, .ext (.s 0) 0⟩,
    ⟨.push, 26, none, .ext (.s 1) 1⟩,
    ⟨.push, 27, none, .ext (.s 2) 2⟩,
    ⟨.var 6, 7, none, .mov (.s 2)⟩,
    ⟨.var 7, 8, none, .mov (.s 1)⟩,
    ⟨.var 8, 9, none, .mov (.s 0)⟩])
 (.seq (.test false [
    ⟨.push, 28, none, .mov (.v 6)⟩,
    ⟨.push, 29, none, .mov (.v 2)⟩,
    ⟨.push, 30, none, .bin false .neq (.s 1) (.s 0)⟩,
    ⟨.push, 31, none, .mov (.s 0)⟩,
    ⟨.push, 32, (some ((.s 0), false)), .mov (.v 7)⟩,
    ⟨.push, 33, (some ((.s 1), false)), .mov (.v 3)⟩,
    ⟨.push, 34, (some ((.s 2), false)), .bin false .neq (.s 1) (.s 0)⟩,
    ⟨.push, 35, none, .pick (.s 3) (.c (.bool true)) (.s 0)⟩,
    ⟨.push, 36, none, .mov (.s 0)⟩,
    ⟨.push, 37, (some ((.s 0), false)), .mov (.v 8)⟩,
    ⟨.push, 38, (some ((.s 1), false)), .mov (.v 4)⟩,
    ⟨.push, 39, (some ((.s 2), false)), .bin true .neq (.s 1) (.s 0)⟩,
    ⟨.push, 40, none, .pick (.s 3) (.c (.bool true)) (.s 0)⟩] (.s 0)
  (.seq (.region false [
      ⟨.var 1, 2, none, .mov (.c (.bool false))⟩])
   (.ret))
  (.skip))
 (.seq (.test false [
    ⟨.push, 41, none, .mov (.v 5)⟩,
    ⟨.push, 42, none, .mov (.v 0)⟩,
    ⟨.push, 43, none, .call 15 [(.s 0)]⟩,
    ⟨.push, 44, none, .call 17 [(.s 2), (.s 0)]⟩,
    ⟨.push, 45, none, .un .not (.s 0)⟩] (.s 0)
  (.seq (.region false [
      ⟨.var 1, 2, none, .mov (.c (.bool false))⟩])
   (.ret))
  (.skip))
 (.seq (.region false [
    ⟨.var 1, 2, none, .mov (.c (.bool true))⟩])
 (.ret)))))))), [.t 1]⟩
noncomputable def t_laws_FnExactReadNumber : List (Nat × Ctr) := [(15, c_laws_toByteS), (14, c_spec_ReadNumber), (16, c_impl_ReadNumber), (17, c_laws_eqByteS)]
theorem lk_laws_FnExactReadNumber_15 : look t_laws_FnExactReadNumber 15 = some c_laws_toByteS := rfl
theorem lk_laws_FnExactReadNumber_14 : look t_laws_FnExactReadNumber 14 = some c_spec_ReadNumber := rfl
theorem lk_laws_FnExactReadNumber_16 : look t_laws_FnExactReadNumber 16 = some c_impl_ReadNumber := rfl
theorem lk_laws_FnExactReadNumber_17 : look t_laws_FnExactReadNumber 17 = some c_laws_eqByteS := rfl
noncomputable def c_laws_FnExactReadNumber : Ctr := mkF t_laws_FnExactReadNumber ir5 [.bor]
theorem s_laws_FnExactReadNumber : Sound Try.prog 5 c_laws_FnExactReadNumber := mkF_sound _ rfl (snd_cons s_laws_toByteS (snd_cons s_spec_ReadNumber (snd_cons s_impl_ReadNumber (snd_cons s_laws_eqByteS snd_nil)))) (by kernel_rfl : chkFn Try.prog 5 ir5 ir5_v = true)
theorem M_laws_FnExactReadNumber : c_laws_FnExactReadNumber.modes = [.bor] := rfl
theorem Fl_laws_FnExactReadNumber : c_laws_FnExactReadNumber.flat = true := rfl
theorem Fs_laws_FnExactReadNumber {aB : List UInt8} {y_ : Bool} (h : laws_FnExactReadNumber aB = some y_) : c_laws_FnExactReadNumber.F [.sl 1 (List.map byteAV aB)] = ⟨true, .bool y_, [.any]⟩ := by
  refine mkF_E rfl ?_
  dsimp only [laws_FnExactReadNumber] at h
  rcases it_some h with ⟨hk1, h⟩ | ⟨hk1, h⟩
  · obtain rfl := so_some h
    refine ⟨0, fun L hL => ?_⟩
    (try simp only [go_sem, Bool.not_eq_true', Bool.not_eq_false', Bool.and_eq_true, Bool.or_eq_false_iff] at hk1) <;>
    simp only [go_sem, ir5, lk_laws_FnExactReadNumber_15, lk_laws_FnExactReadNumber_14, lk_laws_FnExactReadNumber_16, lk_laws_FnExactReadNumber_17, M_laws_toByteS, M_spec_ReadNumber, M_impl_ReadNumber, M_laws_eqByteS, Fl_laws_toByteS, Fl_spec_ReadNumber, Fl_impl_ReadNumber, Fl_laws_eqByteS, hk1]
  · obtain ⟨y_2, hk2, h⟩ := bd_some h
    have fhk2 := Fs_laws_toByteS hk2
    obtain ⟨y_3, hk3, h⟩ := bd_some h
    have fhk3 := Fs_spec_ReadNumber hk3
    obtain ⟨y_4, hk4, h⟩ := bd_some h
    have fhk4 := Fs_impl_ReadNumber hk4
    rcases it_some h with ⟨hk5, h⟩ | ⟨hk5, h⟩
    · obtain rfl := so_some h
      refine ⟨0, fun L hL => ?_⟩
      (try simp only [go_sem, Bool.not_eq_true', Bool.not_eq_false', Bool.and_eq_true, Bool.or_eq_false_iff] at hk1) <;>
      (try simp only [go_sem] at fhk2) <;>
      (try simp only [go_sem] at fhk3) <;>
      (try simp only [go_sem] at fhk4) <;>
      (try simp only [go_sem, Bool.not_eq_true', Bool.not_eq_false', Bool.and_eq_true, Bool.or_eq_false_iff, hk1] at hk5) <;>
      simp only [go_sem, ir5, lk_laws_FnExactReadNumber_15, lk_laws_FnExactReadNumber_14, lk_laws_FnExactReadNumber_16, lk_laws_FnExactReadNumber_17, M_laws_toByteS, M_spec_ReadNumber, M_impl_ReadNumber, M_laws_eqByteS, Fl_laws_toByteS, Fl_spec_ReadNumber, Fl_impl_ReadNumber, Fl_laws_eqByteS, hk1, fhk2, fhk3, fhk4, hk5]
    · obtain ⟨y_6, hk6, h⟩ := bd_some h
      have fhk6 := Fs_laws_eqByteS hk6
      rcases it_some h with ⟨hk7, h⟩ | ⟨hk7, h⟩
      · obtain rfl := so_some h
        refine ⟨0, fun L hL => ?_⟩
        (try simp only [go_sem, Bool.not_eq_true', Bool.not_eq_false', Bool.and_eq_true, Bool.or_eq_false_iff] at hk1) <;>
        (try simp only [go_sem] at fhk2) <;>
        (try simp only [go_sem] at fhk3) <;>
        (try simp only [go_sem] at fhk4) <;>
        (try simp only [go_sem, Bool.not_eq_true', Bool.not_eq_false', Bool.and_eq_true, Bool.or_eq_false_iff, hk1] at hk5) <;>
        (try simp only [go_sem] at fhk6) <;>
        (try simp only [go_sem, Bool.not_eq_true', Bool.not_eq_false', Bool.and_eq_true, Bool.or_eq_false_iff, hk1, hk5] at hk7) <;>
        simp only [go_sem, ir5, lk_laws_FnExactReadNumber_15, lk_laws_FnExactReadNumber_14, lk_laws_FnExactReadNumber_16, lk_laws_FnExactReadNumber_17, M_laws_toByteS, M_spec_ReadNumber, M_impl_ReadNumber, M_laws_eqByteS, Fl_laws_toByteS, Fl_spec_ReadNumber, Fl_impl_ReadNumber, Fl_laws_eqByteS, hk1, fhk2, fhk3, fhk4, hk5, fhk6, hk7]
      · obtain rfl := so_some h
        refine ⟨0, fun L hL => ?_⟩
        (try simp only [go_sem, Bool.not_eq_true', Bool.not_eq_false', Bool.and_eq_true, Bool.or_eq_false_iff] at hk1) <;>
        (try simp only [go_sem] at fhk2) <;>
        (try simp only [go_sem] at fhk3) <;>
        (try simp only [go_sem] at fhk4) <;>
        (try simp only [go_sem, Bool.not_eq_true', Bool.not_eq_false', Bool.and_eq_true, Bool.or_eq_false_iff, hk1] at hk5) <;>
        (try simp only [go_sem] at fhk6) <;>
        (try simp only [go_sem, Bool.not_eq_true', Bool.not_eq_false', Bool.and_eq_true, Bool.or_eq_false_iff, hk1, hk5] at hk7) <;>
        simp only [go_sem, ir5, lk_laws_FnExactReadNumber_15, lk_laws_FnExactReadNumber_14, lk_laws_FnExactReadNumber_16, lk_laws_FnExactReadNumber_17, M_laws_toByteS, M_spec_ReadNumber, M_impl_ReadNumber, M_laws_eqByteS, Fl_laws_toByteS, Fl_spec_ReadNumber, Fl_impl_ReadNumber, Fl_laws_eqByteS, hk1, fhk2, fhk3, fhk4, hk5, fhk6, hk7]


def ir18_v : List Nat := [0, 1, 2, 4]
def ir18 : AFn := ⟨2, 4, .seq (.region false [
    ⟨.var 2, 2, none, .box (.v 0)⟩,
    ⟨.var 3, 4, none, .mov (.c (.int .i64 (0)))⟩])
 (.seq (.region false [
    ⟨.push, 5, none, .mov (.v 1)⟩,
    ⟨.push, 6, none, .fldAddr 1 (.v 2)⟩,
    ⟨.push, 7, none, .load false 1 (.s 0)⟩,
    ⟨.push, 8, none, .len true (.s 0)⟩,
    ⟨.push, 9, none, .bin false .sub (.s 3) (.s 0)⟩,
    ⟨.var 1, 1, none, .mov (.s 0)⟩])
 (.seq (.test false [
    ⟨.push, 10, none, .mov (.v 1)⟩,
    ⟨.push, 11, none, .bin false .lss (.s 0) (.c (.int .i64 (0)))⟩] (.s 0)
  (.seq (.region false [
      ⟨.var 3, 4, none, .mov (.c (.int .i64 (-1)))⟩])
   (.ret))
  (.skip))
 (.seq (.region false [
    ⟨.push, 12, none, .mov (.v 1)⟩,
    ⟨.var 3, 4, none, .mov (.s 0)⟩])
 (.ret)))), [.t 3]⟩
noncomputable def t_laws_szEntry : List (Nat × Ctr) := []
noncomputable def c_laws_szEntry : Ctr := mkF t_laws_szEntry ir18 [.bor, .bor]
theorem s_laws_szEntry : Sound Try.prog 18 c_laws_szEntry := mkF_sound _ rfl snd_nil (by kernel_rfl : chkFn Try.prog 18 ir18 ir18_v = true)
theorem M_laws_szEntry : c_laws_szEntry.modes = [.bor, .bor] := rfl
theorem Fl_laws_szEntry : c_laws_szEntry.flat = true := rfl
theorem Fs_laws_szEntry {a : Entry} {left_ : Int} {y_ : Int} (h : laws_szEntry a left_ = some y_) : c_laws_szEntry.F [Entry_av a, .int .i64 left_] = ⟨true, .int .i64 y_, [.any, .any]⟩ := by
  refine mkF_E rfl ?_
  dsimp only [laws_szEntry] at h
  rcases it_some h with ⟨hk1, h⟩ | ⟨hk1, h⟩
  · obtain rfl := so_some h
    refine ⟨0, fun L hL => ?_⟩
    (try simp only [go_sem, Bool.not_eq_true', Bool.not_eq_false', Bool.and_eq_true, Bool.or_eq_false_iff] at hk1) <;>
    simp only [go_sem, ir18, hk1]
  · obtain rfl := so_some h
    refine ⟨0, fun L hL => ?_⟩
    (try simp only [go_sem, Bool.not_eq_true', Bool.not_eq_false', Bool.and_eq_true, Bool.or_eq_false_iff] at hk1) <;>
    simp only [go_sem, ir18, hk1]


def ir20_v : List Nat := [0, 1, 2, 3]
def ir20 : AFn := ⟨1, 4, .seq (.region false [
    ⟨.var 1, 1, none, .box (.v 0)⟩,
    ⟨.var 2, 2, none, .alloc (.agg [.int .i64 (0), .str [], .int .i64 (0)])⟩])
 (.seq (.region false [
    ⟨.var 3, 3, none, .alloc (.agg [.int .i64 (0), .str [], .int .i64 (0)])⟩])
 (.seq (.region false [
    ⟨.push, 4, none, .fldAddr 0 (.v 1)⟩,
    ⟨.push, 5, none, .load false 1 (.s 0)⟩,
    ⟨.push, 6, none, .fldAddr 0 (.v 3)⟩,
    ⟨.no, 0, none, .store 1 (.s 0) (.s 1)⟩])
 (.seq (.region false [
    ⟨.push, 7, none, .fldAddr 1 (.v 1)⟩,
    ⟨.push, 8, none, .load false 1 (.s 0)⟩,
    ⟨.push, 9, none, .fldAddr 1 (.v 3)⟩,
    ⟨.no, 0, none, .store 1 (.s 0) (.s 1)⟩])
 (.seq (.region false [
    ⟨.push, 10, none, .fldAddr 2 (.v 1)⟩,
    ⟨.push, 11, none, .load false 1 (.s 0)⟩,
    ⟨.push, 12, none, .fldAddr 2 (.v 3)⟩,
    ⟨.no, 0, none, .store 1 (.s 0) (.s 1)⟩])
 (.seq (.region false [
    ⟨.push, 13, none, .load true 3 (.v 3)⟩,
    ⟨.no, 0, none, .store 3 (.v 2) (.s 0)⟩])
 (.ret)))))), [.cell true 3 2]⟩
noncomputable def t_laws_toEntry : List (Nat × Ctr) := []
noncomputable def c_laws_toEntry : Ctr := mkN t_laws_toEntry ir20 [.bor]
theorem s_laws_toEntry : Sound Try.prog 20 c_laws_toEntry := mkN_sound _ snd_nil (by kernel_rfl : chkFn Try.prog 20 ir20 ir20_v = true)
theorem M_laws_toEntry : c_laws_toEntry.modes = [.bor] := rfl
theorem Fl_laws_toEntry : c_laws_toEntry.flat = false := rfl
theorem Fs_laws_toEntry {a : Entry} {y_ : Entry} (h : laws_toEntry a = some y_) : c_laws_toEntry.F [Entry_av a] = ⟨true, Entry_av y_, [.any]⟩ := by
  refine mkN_E ?_
  dsimp only [laws_toEntry] at h
  obtain rfl := so_some h
  refine ⟨0, fun L hL => ?_⟩
  simp only [go_sem, ir20]


def ir32_v : List Nat := [0, 2]
def ir32 : AFn := ⟨1, 2, .seq (.region false [
    ⟨.var 1, 2, none, .mov (.c (.bool false))⟩])
 (.seq (.region false [
    ⟨.push, 3, none, .mov (.v 0)⟩,
    ⟨.push, 4, none, .call 31 [(.s 0), (.c (.int .i64 (0))), (.c (.int .i64 (100000)))]⟩,
    ⟨.var 1, 2, none, .mov (.s 0)⟩])
 (.ret)), [.t 1]⟩
noncomputable def t_spec_l27Day : List (Nat × Ctr) := [(31, c_spec_l00In)]
theorem lk_spec_l27Day_31 : look t_spec_l27Day 31 = some c_spec_l00In := rfl
noncomputable def c_spec_l27Day : Ctr := mkF t_spec_l27Day ir32 [.bor]
theorem s_spec_l27Day : Sound Try.prog 32 c_spec_l27Day := mkF_sound _ rfl (snd_cons s_spec_l00In snd_nil) (by kernel_rfl : chkFn Try.prog 32 ir32 ir32_v = true)
theorem M_spec_l27Day : c_spec_l27Day.modes = [.bor] := rfl
theorem Fl_spec_l27Day : c_spec_l27Day.flat = true := rfl
theorem Fs_spec_l27Day {n : Int} {y_ : Bool} (h : spec_l27Day n = some y_) : c_spec_l27Day.F [.int .i64 n] = ⟨true, .bool y_, [.any]⟩ := by
  refine mkF_E rfl ?_
  dsimp only [spec_l27Day] at h
  obtain ⟨y_1, hk1, h⟩ := bd_some h
  have fhk1 := Fs_spec_l00In hk1
  obtain rfl := so_some h
  refine ⟨0, fun L hL => ?_⟩
  (try simp only [go_sem] at fhk1) <;>
  simp only [go_sem, ir32, lk_spec_l27Day_31, M_spec_l00In, Fl_spec_l00In, fhk1]


def ir34_v : List Nat := [0, 2]
def ir34 : AFn := ⟨1, 2, .seq (.region false [
    ⟨.var 1, 2, none, .mov (.c (.bool false))⟩])
 (.seq (.region false [
    ⟨.push, 3, none, .mov (.v 0)⟩,
    ⟨.push, 4, none, .bin false .geq (.s 0) (.c (.int .u8 (97)))⟩,
    ⟨.push, 5, none, .mov (.s 0)⟩,
    ⟨.push, 6, (some ((.s 0), true)), .mov (.v 0)⟩,
    ⟨.push, 7, (some ((.s 1), true)), .bin false .leq (.s 0) (.c (.int .u8 (122)))⟩,
    ⟨.push, 8, none, .pick (.s 2) (.s 0) (.c (.bool false))⟩,
    ⟨.var 1, 2, none, .mov (.s 0)⟩])
 (.ret)), [.t 1]⟩
noncomputable def t_spec_l01Small : List (Nat × Ctr) := []
noncomputable def c_spec_l01Small : Ctr := mkF t_spec_l01Small ir34 [.bor]
theorem s_spec_l01Small : Sound Try.prog 34 c_spec_l01Small := mkF_sound _ rfl snd_nil (by kernel_rfl : chkFn Try.prog 34 ir34 ir34_v = true)
theorem M_spec_l01Small : c_spec_l01Small.modes = [.bor] := rfl
theorem Fl_spec_l01Small : c_spec_l01Small.flat = true := rfl
theorem Fs_spec_l01Small {c : UInt8} {y_ : Bool} (h : spec_l01Small c = some y_) : c_spec_l01Small.F [.int .u8 (c.toNat : Int)] = ⟨true, .bool y_, [.any]⟩ := by
  refine mkF_E rfl ?_
  dsimp only [spec_l01Small] at h
  obtain rfl := so_some h
  refine ⟨0, fun L hL => ?_⟩
  simp only [go_sem, ir34]


def ir35_v : List Nat := [0, 2]
def ir35 : AFn := ⟨1, 2, .seq (.region false [
    ⟨.var 1, 2, none, .mov (.c (.bool false))⟩])
 (.seq (.region false [
    ⟨.push, 3, none, .mov (.v 0)⟩,
    ⟨.push, 4, none, .bin false .geq (.s 0) (.c (.int .u8 (48)))⟩,
    ⟨.push, 5, none, .mov (.s 0)⟩,
    ⟨.push, 6, (some ((.s 0), true)), .mov (.v 0)⟩,
    ⟨.push, 7, (some ((.s 1), true)), .bin false .leq (.s 0) (.c (.int .u8 (57)))⟩,
    ⟨.push, 8, none, .pick (.s 2) (.s 0) (.c (.bool false))⟩,
    ⟨.var 1, 2, none, .mov (.s 0)⟩])
 (.ret)), [.t 1]⟩
noncomputable def t_spec_l01Digit : List (Nat × Ctr) := []
noncomputable def c_spec_l01Digit : Ctr := mkF t_spec_l01Digit ir35 [.bor]
theorem s_spec_l01Digit : Sound Try.prog 35 c_spec_l01Digit := mkF_sound _ rfl snd_nil (by kernel_rfl : chkFn Try.prog 35 ir35 ir35_v = true)
theorem M_spec_l01Digit : c_spec_l01Digit.modes = [.bor] := rfl
theorem Fl_spec_l01Digit : c_spec_l01Digit.flat = true := rfl
theorem Fs_spec_l01Digit {c : UInt8} {y_ : Bool} (h : spec_l01Digit c = some y_) : c_spec_l01Digit.F [.int .u8 (c.toNat : Int)] = ⟨true, .bool y_, [.any]⟩ := by
  refine mkF_E rfl ?_
  dsimp only [spec_l01Digit] at h
  obtain rfl := so_some h
  refine ⟨0, fun L hL => ?_⟩
  simp only [go_sem, ir35]


def ir33_b0 : IR := .seq (.test false [
    ⟨.push, 17, none, .mov (.v 2)⟩,
    ⟨.push, 18, none, .mov (.v 0)⟩,
    ⟨.push, 19, none, .len true (.s 0)⟩,
    ⟨.push, 20, none, .bin false .lss (.s 2) (.s 0)⟩] (.s 0)
  (.skip)
  (.exit 0))
 (.seq (.block 1 (.test false [
     ⟨.push, 23, none, .mov (.v 0)⟩,
     ⟨.push, 24, none, .mov (.v 2)⟩,
     ⟨.push, 25, none, .ixStr (.s 1) (.s 0)⟩,
     ⟨.push, 26, none, .call 34 [(.s 0)]⟩,
     ⟨.push, 27, none, .un .not (.s 0)⟩,
     ⟨.push, 28, none, .mov (.s 0)⟩,
     ⟨.push, 29, (some ((.s 0), true)), .mov (.v 0)⟩,
     ⟨.push, 30, (some ((.s 1), true)), .mov (.v 2)⟩,
     ⟨.push, 31, (some ((.s 2), true)), .ixStr (.s 1) (.s 0)⟩,
     ⟨.push, 32, (some ((.s 3), true)), .call 35 [(.s 0)]⟩,
     ⟨.push, 33, (some ((.s 4), true)), .un .not (.s 0)⟩,
     ⟨.push, 34, none, .pick (.s 5) (.s 0) (.c (.bool false))⟩,
     ⟨.push, 35, none, .mov (.s 0)⟩,
     ⟨.push, 36, (some ((.s 0), true)), .mov (.v 0)⟩,
     ⟨.push, 37, (some ((.s 1), true)), .mov (.v 2)⟩,
     ⟨.push, 38, (some ((.s 2), true)), .ixStr (.s 1) (.s 0)⟩,
     ⟨.push, 39, (some ((.s 3), true)), .bin false .neq (.s 0) (.c (.int .u8 (45)))⟩,
     ⟨.push, 40, none, .pick (.s 4) (.s 0) (.c (.bool false))⟩] (.s 0)
   (.seq (.region false [
       ⟨.var 1, 2, none, .mov (.c (.bool false))⟩])
    (.ret))
   (.skip)))
 (.region false [
   ⟨.push, 21, none, .mov (.v 2)⟩,
   ⟨.push, 22, none, .bin false .add (.s 0) (.c (.int .i64 (1)))⟩,
   ⟨.var 2, 3, none, .mov (.s 0)⟩]))
def ir33_k0 : List Bool := [true, false, true]
def ir33_o0 : List Bool := [false, false, false]
def ir33_r0 : List Bool := [false, true, false]
def ir33_v : List Nat := [0, 2, 3]
def ir33 : AFn := ⟨1, 3, .seq (.region false [
    ⟨.var 1, 2, none, .mov (.c (.bool false))⟩])
 (.seq (.test false [
    ⟨.push, 4, none, .mov (.v 0)⟩,
    ⟨.push, 5, none, .bin false .eql (.s 0) (.c (.str []))⟩,
    ⟨.push, 6, none, .mov (.s 0)⟩,
    ⟨.push, 7, (some ((.s 0), false)), .mov (.v 0)⟩,
    ⟨.push, 8, (some ((.s 1), false)), .len true (.s 0)⟩,
    ⟨.push, 9, (some ((.s 2), false)), .bin false .gtr (.s 0) (.c (.int .i64 (12)))⟩,
    ⟨.push, 10, none, .pick (.s 3) (.c (.bool true)) (.s 0)⟩,
    ⟨.push, 11, none, .mov (.s 0)⟩,
    ⟨.push, 12, (some ((.s 0), false)), .mov (.v 0)⟩,
    ⟨.push, 13, (some ((.s 1), false)), .ixStr (.s 0) (.c (.int .i64 (0)))⟩,
    ⟨.push, 14, (some ((.s 2), false)), .call 34 [(.s 0)]⟩,
    ⟨.push, 15, (some ((.s 3), false)), .un .not (.s 0)⟩,
    ⟨.push, 16, none, .pick (.s 4) (.c (.bool true)) (.s 0)⟩] (.s 0)
  (.seq (.region false [
      ⟨.var 1, 2, none, .mov (.c (.bool false))⟩])
   (.ret))
  (.skip))
 (.seq (.seq (.region false [
     ⟨.var 2, 3, none, .mov (.c (.int .i64 (0)))⟩])
  (.block 0 (.loop ir33_k0 ir33_o0 ir33_r0 ir33_b0)))
 (.seq (.region false [
    ⟨.var 1, 2, none, .mov (.c (.bool true))⟩])
 (.ret)))), [.t 1]⟩
noncomputable def t_spec_IsName : List (Nat × Ctr) := [(34, c_spec_l01Small), (35, c_spec_l01Digit)]
theorem lk_spec_IsName_34 : look t_spec_IsName 34 = some c_spec_l01Small := rfl
theorem lk_spec_IsName_35 : look t_spec_IsName 35 = some c_spec_l01Digit := rfl
noncomputable def c_spec_IsName : Ctr := mkF t_spec_IsName ir33 [.bor]
theorem s_spec_IsName : Sound Try.prog 33 c_spec_IsName := mkF_sound _ rfl (snd_cons s_spec_l01Small (snd_cons s_spec_l01Digit snd_nil)) (by kernel_rfl : chkFn Try.prog 33 ir33 ir33_v = true)
theorem M_spec_IsName : c_spec_IsName.modes = [.bor] := rfl
theorem Fl_spec_IsName : c_spec_IsName.flat = true := rfl
def E_spec_IsName_l1 (s_ : List UInt8) : Int → St
  | i => ⟨[.str s_, .any, .int .i64 i], [], [], true⟩
def R_spec_IsName_l1 (s_ : List UInt8) : (Unit ⊕ Bool) → Res
  | .inl y => (.exit 0, ⟨[.any, .any, .any], [], [], true⟩)
  | .inr y => (.ret, ⟨[.any, .bool y, .any], [], [], true⟩)
theorem spec_IsName_l1_ex {s_ : List UInt8} {sgm_ : Int} {rho_ : Unit ⊕ Bool} (h : whileE (spec_IsName_l1 s_) sgm_ = some rho_) : ∃ L0, ∀ L, L0 ≤ L → iter (exec (look t_spec_IsName) L ir33_b0) ir33_k0 ir33_o0 ir33_r0 L (E_spec_IsName_l1 s_ sgm_) = R_spec_IsName_l1 s_ rho_ := by
  refine loop_ex (E := E_spec_IsName_l1 s_) (R := R_spec_IsName_l1 s_) (fun y => by first | (intro c; cases c) | (rcases y with y | y <;> (intro c; cases c)) | (rcases y with y | y | y <;> (intro c; cases c))) ?_ h
  clear h
  intro i o_ h
  dsimp only [spec_IsName_l1] at h
  rcases it_some h with ⟨hk4, h⟩ | ⟨hk4, h⟩
  · obtain ⟨hk5, h⟩ := ck_some h
    obtain ⟨y_6, hk6, h⟩ := bd_some h
    have fhk6 := Fs_spec_l01Small hk6
    obtain ⟨hk7, h⟩ := ck_some h
    rcases or_split hk7 with ⟨ghk7, hk7⟩ | ghk7
    · obtain ⟨y_7, hhk7⟩ := Option.isSome_iff_exists.1 hk7
      have fhk7 := Fs_spec_l01Digit hhk7
      rcases it_some h with ⟨hk8, h⟩ | ⟨hk8, h⟩
      · obtain rfl := so_some h
        refine ⟨0, fun L hL => ?_⟩
        (try simp only [go_sem, Bool.not_eq_true', Bool.not_eq_false', Bool.and_eq_true, Bool.or_eq_false_iff] at hk4) <;>
        (try simp only [go_sem, Bool.not_eq_true', Bool.not_eq_false', Bool.and_eq_true, Bool.or_eq_false_iff, hk4] at hk5) <;>
        (try simp only [go_sem] at fhk6) <;>
        (try simp only [go_sem, Bool.not_eq_true', Bool.not_eq_false', Bool.and_eq_true, Bool.or_eq_false_iff, hk4, hk5] at ghk7) <;>
        (try simp only [go_sem, Bool.not_eq_true', Bool.not_eq_false', Bool.and_eq_true, Bool.or_eq_false_iff, hk4, hk5, ghk7] at hk7) <;>
        (try simp only [go_sem, Bool.not_eq_true', Bool.not_eq_false', Bool.and_eq_true, Bool.or_eq_false_iff, hk4, hk5, ghk7, hk7] at hhk7) <;>
        (try simp only [go_sem] at fhk7) <;>
        (try simp only [go_sem, Bool.not_eq_true', Bool.not_eq_false', Bool.and_eq_true, Bool.or_eq_false_iff, hk4, hk5, ghk7, hk7, hhk7] at hk8) <;>
        simp only [go_sem, ir33, lk_spec_IsName_34, lk_spec_IsName_35, M_spec_l01Small, M_spec_l01Digit, Fl_spec_l01Small, Fl_spec_l01Digit, E_spec_IsName_l1, R_spec_IsName_l1, ir33_b0, ir33_k0, ir33_o0, ir33_r0, hk4, hk5, fhk6, ghk7, hk7, hhk7, fhk7, hk8]
      · obtain rfl := so_some h
        refine ⟨0, fun L hL => ?_⟩
        (try simp only [go_sem, Bool.not_eq_true', Bool.not_eq_false', Bool.and_eq_true, Bool.or_eq_false_iff] at hk4) <;>
        (try simp only [go_sem, Bool.not_eq_true', Bool.not_eq_false', Bool.and_eq_true, Bool.or_eq_false_iff, hk4] at hk5) <;>
        (try simp only [go_sem] at fhk6) <;>
        (try simp only [go_sem, Bool.not_eq_true', Bool.not_eq_false', Bool.and_eq_true, Bool.or_eq_false_iff, hk4, hk5] at ghk7) <;>
        (try simp only [go_sem, Bool.not_eq_true', Bool.not_eq_false', Bool.and_eq_true, Bool.or_eq_false_iff, hk4, hk5, ghk7] at hk7) <;>
        (try simp only [go_sem, Bool.not_eq_true', Bool.not_eq_false', Bool.and_eq_true, Bool.or_eq_false_iff, hk4, hk5, ghk7, hk7] at hhk7) <;>
        (try simp only [go_sem] at fhk7) <;>
        (try simp only [go_sem, Bool.not_eq_true', Bool.not_eq_false', Bool.and_eq_true, Bool.or_eq_false_iff, hk4, hk5, ghk7, hk7, hhk7] at hk8) <;>
        simp only [go_sem, ir33, lk_spec_IsName_34, lk_spec_IsName_35, M_spec_l01Small, M_spec_l01Digit, Fl_spec_l01Small, Fl_spec_l01Digit, E_spec_IsName_l1, R_spec_IsName_l1, ir33_b0, ir33_k0, ir33_o0, ir33_r0, hk4, hk5, fhk6, ghk7, hk7, hhk7, fhk7, hk8]
    · rcases it_some h with ⟨hk8, h⟩ | ⟨hk8, h⟩
      · obtain rfl := so_some h
        refine ⟨0, fun L hL => ?_⟩
        (try simp only [go_sem, Bool.not_eq_true', Bool.not_eq_false', Bool.and_eq_true, Bool.or_eq_false_iff] at hk4) <;>
        (try simp only [go_sem, Bool.not_eq_true', Bool.not_eq_false', Bool.and_eq_true, Bool.or_eq_false_iff, hk4] at hk5) <;>
        (try simp only [go_sem] at fhk6) <;>
        (try simp only [go_sem, Bool.not_eq_true', Bool.not_eq_false', Bool.and_eq_true, Bool.or_eq_false_iff, hk4, hk5] at ghk7) <;>
        (try simp only [go_sem, Bool.not_eq_true', Bool.not_eq_false', Bool.and_eq_true, Bool.or_eq_false_iff, hk4, hk5, ghk7] at hk8) <;>
        simp only [go_sem, ir33, lk_spec_IsName_34, lk_spec_IsName_35, M_spec_l01Small, M_spec_l01Digit, Fl_spec_l01Small, Fl_spec_l01Digit, E_spec_IsName_l1, R_spec_IsName_l1, ir33_b0, ir33_k0, ir33_o0, ir33_r0, hk4, hk5, fhk6, ghk7, hk8]
      · obtain rfl := so_some h
        refine ⟨0, fun L hL => ?_⟩
        (try simp only [go_sem, Bool.not_eq_true', Bool.not_eq_false', Bool.and_eq_true, Bool.or_eq_false_iff] at hk4) <;>
        (try simp only [go_sem, Bool.not_eq_true', Bool.not_eq_false', Bool.and_eq_true, Bool.or_eq_false_iff, hk4] at hk5) <;>
        (try simp only [go_sem] at fhk6) <;>
        (try simp only [go_sem, Bool.not_eq_true', Bool.not_eq_false', Bool.and_eq_true, Bool.or_eq_false_iff, hk4, hk5] at ghk7) <;>
        (try simp only [go_sem, Bool.not_eq_true', Bool.not_eq_false', Bool.and_eq_true, Bool.or_eq_false_iff, hk4, hk5, ghk7] at hk8) <;>
        simp only [go_sem, ir33, lk_spec_IsName_34, lk_spec_IsName_35, M_spec_l01Small, M_spec_l01Digit, Fl_spec_l01Small, Fl_spec_l01Digit, E_spec_IsName_l1, R_spec_IsName_l1, ir33_b0, ir33_k0, ir33_o0, ir33_r0, hk4, hk5, fhk6, ghk7, hk8]
  · obtain rfl := so_some h
    refine ⟨0, fun L hL => ?_⟩
    (try simp only [go_sem, Bool.not_eq_true', Bool.not_eq_false', Bool.and_eq_true, Bool.or_eq_false_iff] at hk4) <;>
    simp only [go_sem, ir33, lk_spec_IsName_34, lk_spec_IsName_35, M_spec_l01Small, M_spec_l01Digit, Fl_spec_l01Small, Fl_spec_l01Digit, E_spec_IsName_l1, R_spec_IsName_l1, ir33_b0, ir33_k0, ir33_o0, ir33_r0, hk4]

theorem Fs_spec_IsName {s_ : List UInt8} {y_ : Bool} (h : spec_IsName s_ = some y_) : c_spec_IsName.F [.str s_] = ⟨true, .bool y_, [.any]⟩ := by
  refine mkF_E rfl ?_
  dsimp only [spec_IsName] at h
  obtain ⟨hk1, h⟩ := ck_some h
  rcases or_split hk1 with ⟨ghk1, hk1⟩ | ghk1
  · obtain ⟨hk2, h⟩ := ck_some h
    rcases or_split hk2 with ⟨ghk2, hk2⟩ | ghk2
    · obtain ⟨y_2, hhk2⟩ := Option.isSome_iff_exists.1 hk2
      have fhk2 := Fs_spec_l01Small hhk2
      rcases it_some h with ⟨hk3, h⟩ | ⟨hk3, h⟩
      · obtain rfl := so_some h
        refine ⟨0, fun L hL => ?_⟩
        (try simp only [go_sem, Bool.not_eq_true', Bool.not_eq_false', Bool.and_eq_true, Bool.or_eq_false_iff] at ghk1) <;>
        (try simp only [go_sem, Bool.not_eq_true', Bool.not_eq_false', Bool.and_eq_true, Bool.or_eq_false_iff, ghk1] at hk1) <;>
        (try simp only [go_sem, Bool.not_eq_true', Bool.not_eq_false', Bool.and_eq_true, Bool.or_eq_false_iff, ghk1, hk1] at ghk2) <;>
        (try simp only [go_sem, Bool.not_eq_true', Bool.not_eq_false', Bool.and_eq_true, Bool.or_eq_false_iff, ghk1, hk1, ghk2] at hk2) <;>
        (try simp only [go_sem, Bool.not_eq_true', Bool.not_eq_false', Bool.and_eq_true, Bool.or_eq_false_iff, ghk1, hk1, ghk2, hk2] at hhk2) <;>
        (try simp only [go_sem] at fhk2) <;>
        (try simp only [go_sem, Bool.not_eq_true', Bool.not_eq_false', Bool.and_eq_true, Bool.or_eq_false_iff, ghk1, hk1, ghk2, hk2, hhk2] at hk3) <;>
        simp only [go_sem, ir33, lk_spec_IsName_34, lk_spec_IsName_35, M_spec_l01Small, M_spec_l01Digit, Fl_spec_l01Small, Fl_spec_l01Digit, E_spec_IsName_l1, R_spec_IsName_l1, ir33_k0, ir33_o0, ir33_r0, ghk1, hk1, ghk2, hk2, hhk2, fhk2, hk3]
      · obtain ⟨y_9, hk9, h⟩ := bd_some h
        obtain ⟨Lhk9, ehk9⟩ := spec_IsName_l1_ex hk9
        rcases y_9 with y_9a | y_9b
        · dsimp only at h
          obtain rfl := so_some h
          refine ⟨Lhk9, fun L hL => ?_⟩
          have ehk9 := ehk9 L (by omega)
          (try simp only [go_sem, Bool.not_eq_true', Bool.not_eq_false', Bool.and_eq_true, Bool.or_eq_false_iff] at ghk1) <;>
          (try simp only [go_sem, Bool.not_eq_true', Bool.not_eq_false', Bool.and_eq_true, Bool.or_eq_false_iff, ghk1] at hk1) <;>
          (try simp only [go_sem, Bool.not_eq_true', Bool.not_eq_false', Bool.and_eq_true, Bool.or_eq_false_iff, ghk1, hk1] at ghk2) <;>
          (try simp only [go_sem, Bool.not_eq_true', Bool.not_eq_false', Bool.and_eq_true, Bool.or_eq_false_iff, ghk1, hk1, ghk2] at hk2) <;>
          (try simp only [go_sem, Bool.not_eq_true', Bool.not_eq_false', Bool.and_eq_true, Bool.or_eq_false_iff, ghk1, hk1, ghk2, hk2] at hhk2) <;>
          (try simp only [go_sem] at fhk2) <;>
          (try simp only [go_sem, Bool.not_eq_true', Bool.not_eq_false', Bool.and_eq_true, Bool.or_eq_false_iff, ghk1, hk1, ghk2, hk2, hhk2] at hk3) <;>
          (try simp only [go_sem, E_spec_IsName_l1, R_spec_IsName_l1, ir33_k0, ir33_o0, ir33_r0] at ehk9) <;>
          simp only [go_sem, ir33, lk_spec_IsName_34, lk_spec_IsName_35, M_spec_l01Small, M_spec_l01Digit, Fl_spec_l01Small, Fl_spec_l01Digit, E_spec_IsName_l1, R_spec_IsName_l1, ir33_k0, ir33_o0, ir33_r0, ghk1, hk1, ghk2, hk2, hhk2, fhk2, hk3, ehk9]
        · dsimp only at h
          obtain rfl := so_some h
          refine ⟨Lhk9, fun L hL => ?_⟩
          have ehk9 := ehk9 L (by omega)
          (try simp only [go_sem, Bool.not_eq_true', Bool.not_eq_false', Bool.and_eq_true, Bool.or_eq_false_iff] at ghk1) <;>
          (try simp only [go_sem, Bool.not_eq_true', Bool.not_eq_false', Bool.and_eq_true, Bool.or_eq_false_iff, ghk1] at hk1) <;>
          (try simp only [go_sem, Bool.not_eq_true', Bool.not_eq_false', Bool.and_eq_true, Bool.or_eq_false_iff, ghk1, hk1] at ghk2) <;>
          (try simp only [go_sem, Bool.not_eq_true', Bool.not_eq_false', Bool.and_eq_true, Bool.or_eq_false_iff, ghk1, hk1, ghk2] at hk2) <;>
          (try simp only [go_sem, Bool.not_eq_true', Bool.not_eq_false', Bool.and_eq_true, Bool.or_eq_false_iff, ghk1, hk1, ghk2, hk2] at hhk2) <;>
          (try simp only [go_sem] at fhk2) <;>
          (try simp only [go_sem, Bool.not_eq_true', Bool.not_eq_false', Bool.and_eq_true, Bool.or_eq_false_iff, ghk1, hk1, ghk2, hk2, hhk2] at hk3) <;>
          (try simp only [go_sem, E_spec_IsName_l1, R_spec_IsName_l1, ir33_k0, ir33_o0, ir33_r0] at ehk9) <;>
          simp only [go_sem, ir33, lk_spec_IsName_34, lk_spec_IsName_35, M_spec_l01Small, M_spec_l01Digit, Fl_spec_l01Small, Fl_spec_l01Digit, E_spec_IsName_l1, R_spec_IsName_l1, ir33_k0, ir33_o0, ir33_r0, ghk1, hk1, ghk2, hk2, hhk2, fhk2, hk3, ehk9]
    · rcases it_some h with ⟨hk3, h⟩ | ⟨hk3, h⟩
      · obtain rfl := so_some h
        refine ⟨0, fun L hL => ?_⟩
        (try simp only [go_sem, Bool.not_eq_true', Bool.not_eq_false', Bool.and_eq_true, Bool.or_eq_false_iff] at ghk1) <;>
        (try simp only [go_sem, Bool.not_eq_true', Bool.not_eq_false', Bool.and_eq_true, Bool.or_eq_false_iff, ghk1] at hk1) <;>
        (try simp only [go_sem, Bool.not_eq_true', Bool.not_eq_false', Bool.and_eq_true, Bool.or_eq_false_iff, ghk1, hk1] at ghk2) <;>
        (try simp only [go_sem, Bool.not_eq_true', Bool.not_eq_false', Bool.and_eq_true, Bool.or_eq_false_iff, ghk1, hk1, ghk2] at hk3) <;>
        simp only [go_sem, ir33, lk_spec_IsName_34, lk_spec_IsName_35, M_spec_l01Small, M_spec_l01Digit, Fl_spec_l01Small, Fl_spec_l01Digit, E_spec_IsName_l1, R_spec_IsName_l1, ir33_k0, ir33_o0, ir33_r0, ghk1, hk1, ghk2, hk3]
      · obtain ⟨y_9, hk9, h⟩ := bd_some h
        obtain ⟨Lhk9, ehk9⟩ := spec_IsName_l1_ex hk9
        rcases y_9 with y_9a | y_9b
        · dsimp only at h
          obtain rfl := so_some h
          refine ⟨Lhk9, fun L hL => ?_⟩
          have ehk9 := ehk9 L (by omega)
          (try simp only [go_sem, Bool.not_eq_true', Bool.not_eq_false', Bool.and_eq_true, Bool.or_eq_false_iff] at ghk1) <;>
          (try simp only [go_sem, Bool.not_eq_true', Bool.not_eq_false', Bool.and_eq_true, Bool.or_eq_false_iff, ghk1] at hk1) <;>
          (try simp only [go_sem, Bool.not_eq_true', Bool.not_eq_false', Bool.and_eq_true, Bool.or_eq_false_iff, ghk1, hk1] at ghk2) <;>
          (try simp only [go_sem, Bool.not_eq_true', Bool.not_eq_false', Bool.and_eq_true, Bool.or_eq_false_iff, ghk1, hk1, ghk2] at hk3) <;>
          (try simp only [go_sem, E_spec_IsName_l1, R_spec_IsName_l1, ir33_k0, ir33_o0, ir33_r0] at ehk9) <;>
          simp only [go_sem, ir33, lk_spec_IsName_34, lk_spec_IsName_35, M_spec_l01Small, M_spec_l01Digit, Fl_spec_l01Small, Fl_spec_l01Digit, E_spec_IsName_l1, R_spec_IsName_l1, ir33_k0, ir33_o0, ir33_r0, ghk1, hk1, ghk2, hk3, ehk9]
        · dsimp only at h
          obtain rfl := so_some h
          refine ⟨Lhk9, fun L hL => ?_⟩
          have ehk9 := ehk9 L (by omega)
          (try simp only [go_sem, Bool.not_eq_true', Bool.not_eq_false', Bool.and_eq_true, Bool.or_eq_false_iff] at ghk1) <;>
          (try simp only [go_sem, Bool.not_eq_true', Bool.not_eq_false', Bool.and_eq_true, Bool.or_eq_false_iff, ghk1] at hk1) <;>
          (try simp only [go_sem, Bool.not_eq_true', Bool.not_eq_false', Bool.and_eq_true, Bool.or_eq_false_iff, ghk1, hk1] at ghk2) <;>
          (try simp only [go_sem, Bool.not_eq_true', Bool.not_eq_false', Bool.and_eq_true, Bool.or_eq_false_iff, ghk1, hk1, ghk2] at hk3) <;>
          (try simp only [go_sem, E_spec_IsName_l1, R_spec_IsName_l1, ir33_k0, ir33_o0, ir33_r0] at ehk9) <;>
          simp only [go_sem, ir33, lk_spec_IsName_34, lk_spec_IsName_35, M_spec_l01Small, M_spec_l01Digit, Fl_spec_l01Small, Fl_spec_l01Digit, E_spec_IsName_l1, R_spec_IsName_l1, ir33_k0, ir33_o0, ir33_r0, ghk1, hk1, ghk2, hk3, ehk9]
  · obtain ⟨hk2, h⟩ := ck_some h
    rcases or_split hk2 with ⟨ghk2, hk2⟩ | ghk2
    · obtain ⟨y_2, hhk2⟩ := Option.isSome_iff_exists.1 hk2
      have fhk2 := Fs_spec_l01Small hhk2
      rcases it_some h with ⟨hk3, h⟩ | ⟨hk3, h⟩
      · obtain rfl := so_some h
        refine ⟨0, fun L hL => ?_⟩
        (try simp only [go_sem, Bool.not_eq_true', Bool.not_eq_false', Bool.and_eq_true, Bool.or_eq_false_iff] at ghk1) <;>
        (try simp only [go_sem, Bool.not_eq_true', Bool.not_eq_false', Bool.and_eq_true, Bool.or_eq_false_iff, ghk1] at ghk2) <;>
        (try simp only [go_sem, Bool.not_eq_true', Bool.not_eq_false', Bool.and_eq_true, Bool.or_eq_false_iff, ghk1, ghk2] at hk2) <;>
        (try simp only [go_sem, Bool.not_eq_true', Bool.not_eq_false', Bool.and_eq_true, Bool.or_eq_false_iff, ghk1, ghk2, hk2] at hhk2) <;>
        (try simp only [go_sem] at fhk2) <;>
        (try simp only [go_sem, Bool.not_eq_true', Bool.not_eq_false', Bool.and_eq_true, Bool.or_eq_false_iff, ghk1, ghk2, hk2, hhk2] at hk3) <;>
        simp only [go_sem, ir33, lk_spec_IsName_34, lk_spec_IsName_35, M_spec_l01Small, M_spec_l01Digit, Fl_spec_l01Small, Fl_spec_l01Digit, E_spec_IsName_l1, R_spec_IsName_l1, ir33_k0, ir33_o0, ir33_r0, ghk1, ghk2, hk2, hhk2, fhk2, hk3]
      · obtain ⟨y_9, hk9, h⟩ := bd_some h
        obtain ⟨Lhk9, ehk9⟩ := spec_IsName_l1_ex hk9
        rcases y_9 with y_9a | y_9b
        · dsimp only at h
          obtain rfl := so_some h
          refine ⟨Lhk9, fun L hL => ?_⟩
          have ehk9 := ehk9 L (by omega)
          (try simp only [go_sem, Bool.not_eq_true', Bool.not_eq_false', Bool.and_eq_true, Bool.or_eq_false_iff] at ghk1) <;>
          (try simp only [go_sem, Bool.not_eq_true', Bool.not_eq_false', Bool.and_eq_true, Bool.or_eq_false_iff, ghk1] at ghk2) <;>
          (try simp only [go_sem, Bool.not_eq_true', Bool.not_eq_false', Bool.and_eq_true, Bool.or_eq_false_iff, ghk1, ghk2] at hk2) <;>
          (try simp only [go_sem, Bool.not_eq_true', Bool.not_eq_false', Bool.and_eq_true, Bool.or_eq_false_iff, ghk1, ghk2, hk2] at hhk2) <;>
          (try simp only [go_sem] at fhk2) <;>
          (try simp only [go_sem, Bool.not_eq_true', Bool.not_eq_false', Bool.and_eq_true, Bool.or_eq_false_iff, ghk1, ghk2, hk2, hhk2] at hk3) <;>
          (try simp only [go_sem, E_spec_IsName_l1, R_spec_IsName_l1, ir33_k0, ir33_o0, ir33_r0] at ehk9) <;>
          simp only [go_sem, ir33, lk_spec_IsName_34, lk_spec_IsName_35, M_spec_l01Small, M_spec_l01Digit, Fl_spec_l01Small, Fl_spec_l01Digit, E_spec_IsName_l1, R_spec_IsName_l1, ir33_k0, ir33_o0, ir33_r0, ghk1, ghk2, hk2, hhk2, fhk2, hk3, ehk9]
        · dsimp only at h
          obtain rfl := so_some h
          refine ⟨Lhk9, fun L hL => ?_⟩
          have ehk9 := ehk9 L (by omega)
          (try simp only [go_sem, Bool.not_eq_true', Bool.not_eq_false', Bool.and_eq_true, Bool.or_eq_false_iff] at ghk1) <;>
          (try simp only [go_sem, Bool.not_eq_true', Bool.not_eq_false', Bool.and_eq_true, Bool.or_eq_false_iff, ghk1] at ghk2) <;>
          (try simp only [go_sem, Bool.not_eq_true', Bool.not_eq_false', Bool.and_eq_true, Bool.or_eq_false_iff, ghk1, ghk2] at hk2) <;>
          (try simp only [go_sem, Bool.not_eq_true', Bool.not_eq_false', Bool.and_eq_true, Bool.or_eq_false_iff, ghk1, ghk2, hk2] at hhk2) <;>
          (try simp only [go_sem] at fhk2) <;>
          (try simp only [go_sem, Bool.not_eq_true', Bool.not_eq_false', Bool.and_eq_true, Bool.or_eq_false_iff, ghk1, ghk2, hk2, hhk2] at hk3) <;>
          (try simp only [go_sem, E_spec_IsName_l1, R_spec_IsName_l1, ir33_k0, ir33_o0, ir33_r0] at ehk9) <;>
          simp only [go_sem, ir33, lk_spec_IsName_34, lk_spec_IsName_35, M_spec_l01Small, M_spec_l01Digit, Fl_spec_l01Small, Fl_spec_l01Digit, E_spec_IsName_l1, R_spec_IsName_l1, ir33_k0, ir33_o0, ir33_r0, ghk1, ghk2, hk2, hhk2, fhk2, hk3, ehk9]
    · rcases it_some h with ⟨hk3, h⟩ | ⟨hk3, h⟩
      · obtain rfl := so_some h
        refine ⟨0, fun L hL => ?_⟩
        (try simp only [go_sem, Bool.not_eq_true', Bool.not_eq_false', Bool.and_eq_true, Bool.or_eq_false_iff] at ghk1) <;>
        (try simp only [go_sem, Bool.not_eq_true', Bool.not_eq_false', Bool.and_eq_true, Bool.or_eq_false_iff, ghk1] at ghk2) <;>
        (try simp only [go_sem, Bool.not_eq_true', Bool.not_eq_false', Bool.and_eq_true, Bool.or_eq_false_iff, ghk1, ghk2] at hk3) <;>
        simp only [go_sem, ir33, lk_spec_IsName_34, lk_spec_IsName_35, M_spec_l01Small, M_spec_l01Digit, Fl_spec_l01Small, Fl_spec_l01Digit, E_spec_IsName_l1, R_spec_IsName_l1, ir33_k0, ir33_o0, ir33_r0, ghk1, ghk2, hk3]
      · obtain ⟨y_9, hk9, h⟩ := bd_some h
        obtain ⟨Lhk9, ehk9⟩ := spec_IsName_l1_ex hk9
        rcases y_9 with y_9a | y_9b
        · dsimp only at h
          obtain rfl := so_some h
          refine ⟨Lhk9, fun L hL => ?_⟩
          have ehk9 := ehk9 L (by omega)
          (try simp only [go_sem, Bool.not_eq_true', Bool.not_eq_false', Bool.and_eq_true, Bool.or_eq_false_iff] at ghk1) <;>
          (try simp only [go_sem, Bool.not_eq_true', Bool.not_eq_false', Bool.and_eq_true, Bool.or_eq_false_iff, ghk1] at ghk2) <;>
          (try simp only [go_sem, Bool.not_eq_true', Bool.not_eq_false', Bool.and_eq_true, Bool.or_eq_false_iff, ghk1, ghk2] at hk3) <;>
          (try simp only [go_sem, E_spec_IsName_l1, R_spec_IsName_l1, ir33_k0, ir33_o0, ir33_r0] at ehk9) <;>
          simp only [go_sem, ir33, lk_spec_IsName_34, lk_spec_IsName_35, M_spec_l01Small, M_spec_l01Digit, Fl_spec_l01Small, Fl_spec_l01Digit, E_spec_IsName_l1, R_spec_IsName_l1, ir33_k0, ir33_o0, ir33_r0, ghk1, ghk2, hk3, ehk9]
        · dsimp only at h
          obtain rfl := so_some h
          refine ⟨Lhk9, fun L hL => ?_⟩
          have ehk9 := ehk9 L (by omega)
          (try simp only [go_sem, Bool.not_eq_true', Bool.not_eq_false', Bool.and_eq_true, Bool.or_eq_false_iff] at ghk1) <;>
          (try simp only [go_sem, Bool.not_eq_true', Bool.not_eq_false', Bool.and_eq_true, Bool.or_eq_false_iff, ghk1] at ghk2) <;>
          (try simp only [go_sem, Bool.not_eq_true', Bool.not_eq_false', Bool.and_eq_true, Bool.or_eq_false_iff, ghk1, ghk2] at hk3) <;>
          (try simp only [go_sem, E_spec_IsName_l1, R_spec_IsName_l1, ir33_k0, ir33_o0, ir33_r0] at ehk9) <;>
          simp only [go_sem, ir33, lk_spec_IsName_34, lk_spec_IsName_35, M_spec_l01Small, M_spec_l01Digit, Fl_spec_l01Small, Fl_spec_l01Digit, E_spec_IsName_l1, R_spec_IsName_l1, ir33_k0, ir33_o0, ir33_r0, ghk1, ghk2, hk3, ehk9]


def ir29_v : List Nat := [0, 2]
def ir29 : AFn := ⟨1, 2, .seq (.region false [
    ⟨.var 1, 2, none, .mov (.c (.bool false))⟩])
 (.seq (.region false [
    ⟨.push, 3, none, .mov (.v 0)⟩,
    ⟨.push, 4, none, .nilck (.s 0)⟩,
    ⟨.push, 5, none, .fldAddr 0 (.s 0)⟩,
    ⟨.push, 6, none, .load false 1 (.s 0)⟩,
    ⟨.push, 7, none, .call 32 [(.s 0)]⟩,
    ⟨.push, 8, none, .mov (.s 0)⟩,
    ⟨.push, 9, (some ((.s 0), true)), .mov (.v 0)⟩,
    ⟨.push, 10, (some ((.s 1), true)), .nilck (.s 0)⟩,
    ⟨.push, 11, (some ((.s 2), true)), .fldAddr 1 (.s 0)⟩,
    ⟨.push, 12, (some ((.s 3), true)), .load false 1 (.s 0)⟩,
    ⟨.push, 13, (some ((.s 4), true)), .call 33 [(.s 0)]⟩,
    ⟨.push, 14, none, .pick (.s 5) (.s 0) (.c (.bool false))⟩,
    ⟨.push, 15, none, .mov (.s 0)⟩,
    ⟨.push, 16, (some ((.s 0), true)), .mov (.v 0)⟩,
    ⟨.push, 17, (some ((.s 1), true)), .nilck (.s 0)⟩,
    ⟨.push, 18, (some ((.s 2), true)), .fldAddr 2 (.s 0)⟩,
    ⟨.push, 19, (some ((.s 3), true)), .load false 1 (.s 0)⟩,
    ⟨.push, 20, (some ((.s 4), true)), .call 31 [(.s 0), (.c (.int .i64 (-1000000))), (.c (.int .i64 (1000000)))]⟩,
    ⟨.push, 21, none, .pick (.s 5) (.s 0) (.c (.bool false))⟩,
    ⟨.var 1, 2, none, .mov (.s 0)⟩])
 (.ret)), [.t 1]⟩
noncomputable def t_spec_l27Ok : List (Nat × Ctr) := [(32, c_spec_l27Day), (33, c_spec_IsName), (31, c_spec_l00In)]
theorem lk_spec_l27Ok_32 : look t_spec_l27Ok 32 = some c_spec_l27Day := rfl
theorem lk_spec_l27Ok_33 : look t_spec_l27Ok 33 = some c_spec_IsName := rfl
theorem lk_spec_l27Ok_31 : look t_spec_l27Ok 31 = some c_spec_l00In := rfl
noncomputable def c_spec_l27Ok : Ctr := mkF t_spec_l27Ok ir29 [.bor]
theorem s_spec_l27Ok : Sound Try.prog 29 c_spec_l27Ok := mkF_sound _ rfl (snd_cons s_spec_l27Day (snd_cons s_spec_IsName (snd_cons s_spec_l00In snd_nil))) (by kernel_rfl : chkFn Try.prog 29 ir29 ir29_v = true)
theorem M_spec_l27Ok : c_spec_l27Ok.modes = [.bor] := rfl
theorem Fl_spec_l27Ok : c_spec_l27Ok.flat = true := rfl
theorem Fs_spec_l27Ok {e_ : Entry} {y_ : Bool} (h : spec_l27Ok e_ = some y_) : c_spec_l27Ok.F [.ptr 3 [Entry_av e_] 0 0] = ⟨true, .bool y_, [.any]⟩ := by
  refine mkF_E rfl ?_
  dsimp only [spec_l27Ok] at h
  obtain ⟨y_1, hk1, h⟩ := bd_some h
  have fhk1 := Fs_spec_l27Day hk1
  obtain ⟨hk2, h⟩ := ck_some h
  rcases or_split hk2 with ⟨ghk2, hk2⟩ | ghk2
  · obtain ⟨y_2, hhk2⟩ := Option.isSome_iff_exists.1 hk2
    have fhk2 := Fs_spec_IsName hhk2
    obtain ⟨hk3, h⟩ := ck_some h
    rcases or_split hk3 with ⟨ghk3, hk3⟩ | ghk3
    · obtain ⟨y_3, hhk3⟩ := Option.isSome_iff_exists.1 hk3
      have fhk3 := Fs_spec_l00In hhk3
      obtain rfl := so_some h
      refine ⟨0, fun L hL => ?_⟩
      (try simp only [go_sem] at fhk1) <;>
      (try simp only [go_sem, Bool.not_eq_true', Bool.not_eq_false', Bool.and_eq_true, Bool.or_eq_false_iff] at ghk2) <;>
      (try simp only [go_sem, Bool.not_eq_true', Bool.not_eq_false', Bool.and_eq_true, Bool.or_eq_false_iff, ghk2] at hk2) <;>
      (try simp only [go_sem, Bool.not_eq_true', Bool.not_eq_false', Bool.and_eq_true, Bool.or_eq_false_iff, ghk2, hk2] at hhk2) <;>
      (try simp only [go_sem] at fhk2) <;>
      (try simp only [go_sem, Bool.not_eq_true', Bool.not_eq_false', Bool.and_eq_true, Bool.or_eq_false_iff, ghk2, hk2, hhk2] at ghk3) <;>
      (try simp only [go_sem, Bool.not_eq_true', Bool.not_eq_false', Bool.and_eq_true, Bool.or_eq_false_iff, ghk2, hk2, hhk2, ghk3] at hk3) <;>
      (try simp only [go_sem, Bool.not_eq_true', Bool.not_eq_false', Bool.and_eq_true, Bool.or_eq_false_iff, ghk2, hk2, hhk2, ghk3, hk3] at hhk3) <;>
      (try simp only [go_sem] at fhk3) <;>
      simp only [go_sem, ir29, lk_spec_l27Ok_32, lk_spec_l27Ok_33, lk_spec_l27Ok_31, M_spec_l27Day, M_spec_IsName, M_spec_l00In, Fl_spec_l27Day, Fl_spec_IsName, Fl_spec_l00In, fhk1, ghk2, hk2, hhk2, fhk2, ghk3, hk3, hhk3, fhk3]
    · obtain rfl := so_some h
      refine ⟨0, fun L hL => ?_⟩
      (try simp only [go_sem] at fhk1) <;>
      (try simp only [go_sem, Bool.not_eq_true', Bool.not_eq_false', Bool.and_eq_true, Bool.or_eq_false_iff] at ghk2) <;>
      (try simp only [go_sem, Bool.not_eq_true', Bool.not_eq_false', Bool.and_eq_true, Bool.or_eq_false_iff, ghk2] at hk2) <;>
      (try simp only [go_sem, Bool.not_eq_true', Bool.not_eq_false', Bool.and_eq_true, Bool.or_eq_false_iff, ghk2, hk2] at hhk2) <;>
      (try simp only [go_sem] at fhk2) <;>
      (try simp only [go_sem, Bool.not_eq_true', Bool.not_eq_false', Bool.and_eq_true, Bool.or_eq_false_iff, ghk2, hk2, hhk2] at ghk3) <;>
      simp only [go_sem, ir29, lk_spec_l27Ok_32, lk_spec_l27Ok_33, lk_spec_l27Ok_31, M_spec_l27Day, M_spec_IsName, M_spec_l00In, Fl_spec_l27Day, Fl_spec_IsName, Fl_spec_l00In, fhk1, ghk2, hk2, hhk2, fhk2, ghk3]
  · obtain ⟨hk3, h⟩ := ck_some h
    rcases or_split hk3 with ⟨ghk3, hk3⟩ | ghk3
    · obtain ⟨y_3, hhk3⟩ := Option.isSome_iff_exists.1 hk3
      have fhk3 := Fs_spec_l00In hhk3
      obtain rfl := so_some h
      refine ⟨0, fun L hL => ?_⟩
      (try simp only [go_sem] at fhk1) <;>
      (try simp only [go_sem, Bool.not_eq_true', Bool.not_eq_false', Bool.and_eq_true, Bool.or_eq_false_iff] at ghk2) <;>
      (try simp only [go_sem, Bool.not_eq_true', Bool.not_eq_false', Bool.and_eq_true, Bool.or_eq_false_iff, ghk2] at ghk3) <;>
      (try simp only [go_sem, Bool.not_eq_true', Bool.not_eq_false', Bool.and_eq_true, Bool.or_eq_false_iff, ghk2, ghk3] at hk3) <;>
      (try simp only [go_sem, Bool.not_eq_true', Bool.not_eq_false', Bool.and_eq_true, Bool.or_eq_false_iff, ghk2, ghk3, hk3] at hhk3) <;>
      (try simp only [go_sem] at fhk3) <;>
      simp only [go_sem, ir29, lk_spec_l27Ok_32, lk_spec_l27Ok_33, lk_spec_l27Ok_31, M_spec_l27Day, M_spec_IsName, M_spec_l00In, Fl_spec_l27Day, Fl_spec_IsName, Fl_spec_l00In, fhk1, ghk2, ghk3, hk3, hhk3, fhk3]
    · obtain rfl := so_some h
      refine ⟨0, fun L hL => ?_⟩
      (try simp only [go_sem] at fhk1) <;>
      (try simp only [go_sem, Bool.not_eq_true', Bool.not_eq_false', Bool.and_eq_true, Bool.or_eq_false_iff] at ghk2) <;>
      (try simp only [go_sem, Bool.not_eq_true', Bool.not_eq_false', Bool.and_eq_true, Bool.or_eq_false_iff, ghk2] at ghk3) <;>
      simp only [go_sem, ir29, lk_spec_l27Ok_32, lk_spec_l27Ok_33, lk_spec_l27Ok_31, M_spec_l27Day, M_spec_IsName, M_spec_l00In, Fl_spec_l27Day, Fl_spec_IsName, Fl_spec_l00In, fhk1, ghk2, ghk3]


def ir19_v : List Nat := [0, 1, 2]
def ir19 : AFn := ⟨1, 3, .seq (.region false [
    ⟨.var 1, 1, none, .box (.v 0)⟩,
    ⟨.var 2, 2, none, .mov (.c (.bool false))⟩])
 (.seq (.region false [
    ⟨.push, 3, none, .call 29 [(.v 1)]⟩,
    ⟨.var 2, 2, none, .mov (.s 0)⟩])
 (.ret)), [.t 2]⟩
noncomputable def t_spec_ValidEntry : List (Nat × Ctr) := [(29, c_spec_l27Ok)]
theorem lk_spec_ValidEntry_29 : look t_spec_ValidEntry 29 = some c_spec_l27Ok := rfl
noncomputable def c_spec_ValidEntry : Ctr := mkF t_spec_ValidEntry ir19 [.bor]
theorem s_spec_ValidEntry : Sound Try.prog 19 c_spec_ValidEntry := mkF_sound _ rfl (snd_cons s_spec_l27Ok snd_nil) (by kernel_rfl : chkFn Try.prog 19 ir19 ir19_v = true)
theorem M_spec_ValidEntry : c_spec_ValidEntry.modes = [.bor] := rfl
theorem Fl_spec_ValidEntry : c_spec_ValidEntry.flat = true := rfl
theorem Fs_spec_ValidEntry {e_ : Entry} {y_ : Bool} (h : spec_ValidEntry e_ = some y_) : c_spec_ValidEntry.F [Entry_av e_] = ⟨true, .bool y_, [.any]⟩ := by
  refine mkF_E rfl ?_
  dsimp only [spec_ValidEntry] at h
  obtain ⟨y_1, hk1, h⟩ := bd_some h
  have fhk1 := Fs_spec_l27Ok hk1
  obtain rfl := so_some h
  refine ⟨0, fun L hL => ?_⟩
  (try simp only [go_sem] at fhk1) <;>
  simp only [go_sem, ir19, lk_spec_ValidEntry_29, M_spec_l27Ok, Fl_spec_l27Ok, fhk1]


def ir30_b0 : IR := .seq (.region false [
    ⟨.var 7, 17, none, .bin false .lss (.v 6) (.v 5)⟩])
 (.seq (.cond (.v 7) (.skip)
  (.exit 0))
 (.seq (.block 1 (.seq (.region false [
      ⟨.push, 18, none, .mov (.v 6)⟩,
      ⟨.var 2, 3, none, .mov (.s 0)⟩])
   (.seq (.region false [
      ⟨.push, 19, none, .mov (.v 0)⟩,
      ⟨.push, 20, none, .mov (.v 2)⟩,
      ⟨.push, 21, none, .ixStr (.s 1) (.s 0)⟩,
      ⟨.push, 22, none, .bin false .geq (.s 0) (.c (.int .u8 (97)))⟩,
      ⟨.push, 23, none, .mov (.s 0)⟩,
      ⟨.push, 24, (some ((.s 0), true)), .mov (.v 0)⟩,
      ⟨.push, 25, (some ((.s 1), true)), .mov (.v 2)⟩,
      ⟨.push, 26, (some ((.s 2), true)), .ixStr (.s 1) (.s 0)⟩,
      ⟨.push, 27, (some ((.s 3), true)), .bin false .leq (.s 0) (.c (.int .u8 (122)))⟩,
      ⟨.push, 28, none, .pick (.s 4) (.s 0) (.c (.bool false))⟩,
      ⟨.var 3, 4, none, .mov (.s 0)⟩])
   (.seq (.region false [
      ⟨.push, 29, none, .mov (.v 0)⟩,
      ⟨.push, 30, none, .mov (.v 2)⟩,
      ⟨.push, 31, none, .ixStr (.s 1) (.s 0)⟩,
      ⟨.push, 32, none, .bin false .geq (.s 0) (.c (.int .u8 (48)))⟩,
      ⟨.push, 33, none, .mov (.s 0)⟩,
      ⟨.push, 34, (some ((.s 0), true)), .mov (.v 0)⟩,
      ⟨.push, 35, (some ((.s 1), true)), .mov (.v 2)⟩,
      ⟨.push, 36, (some ((.s 2), true)), .ixStr (.s 1) (.s 0)⟩,
      ⟨.push, 37, (some ((.s 3), true)), .bin false .leq (.s 0) (.c (.int .u8 (57)))⟩,
      ⟨.push, 38, none, .pick (.s 4) (.s 0) (.c (.bool false))⟩,
      ⟨.push, 39, none, .mov (.s 0)⟩,
      ⟨.push, 40, (some ((.s 0), false)), .mov (.v 0)⟩,
      ⟨.push, 41, (some ((.s 1), false)), .mov (.v 2)⟩,
      ⟨.push, 42, (some ((.s 2), false)), .ixStr (.s 1) (.s 0)⟩,
      ⟨.push, 43, (some ((.s 3), false)), .bin false .eql (.s 0) (.c (.int .u8 (45)))⟩,
      ⟨.push, 44, none, .pick (.s 4) (.c (.bool true)) (.s 0)⟩,
      ⟨.var 4, 5, none, .mov (.s 0)⟩])
   (.test false [
     ⟨.push, 45, none, .mov (.v 3)⟩,
     ⟨.push, 46, none, .un .not (.s 0)⟩,
     ⟨.push, 47, none, .mov (.s 0)⟩,
     ⟨.push, 48, (some ((.s 0), true)), .mov (.v 2)⟩,
     ⟨.push, 49, (some ((.s 1), true)), .bin false .eql (.s 0) (.c (.int .i64 (0)))⟩,
     ⟨.push, 50, (some ((.s 2), true)), .mov (.s 0)⟩,
     ⟨.push, 51, (some ((.s 0), false)), .mov (.v 4)⟩,
     ⟨.push, 52, (some ((.s 1), false)), .un .not (.s 0)⟩,
     ⟨.push, 53, (some ((.s 5), true)), .pick (.s 2) (.c (.bool true)) (.s 0)⟩,
     ⟨.push, 54, none, .pick (.s 6) (.s 0) (.c (.bool false))⟩] (.s 0)
   (.seq (.region false [
       ⟨.var 1, 2, none, .mov (.c (.bool false))⟩])
    (.ret))
   (.skip))))))
 (.region false [
   ⟨.push, 55, none, .bin false .add (.v 6) (.c (.int .i64 (1)))⟩,
   ⟨.var 6, 16, none, .mov (.s 0)⟩])))
def ir30_k0 : List Bool := [true, false, false, false, false, true, true, false]
def ir30_o0 : List Bool := [false, false, false, false, false, false, false, false]
def ir30_r0 : List Bool := [false, true, false, false, false, false, false, false]
def ir30_v : List Nat := [0, 2, 3, 4, 5, 15, 16, 17]
def ir30 : AFn := ⟨1, 8, .seq (.region false [
    ⟨.var 1, 2, none, .mov (.c (.bool false))⟩])
 (.seq (.test false [
    ⟨.push, 6, none, .mov (.v 0)⟩,
    ⟨.push, 7, none, .len true (.s 0)⟩,
    ⟨.push, 8, none, .bin false .lss (.s 0) (.c (.int .i64 (1)))⟩,
    ⟨.push, 9, none, .mov (.s 0)⟩,
    ⟨.push, 10, (some ((.s 0), false)), .mov (.v 0)⟩,
    ⟨.push, 11, (some ((.s 1), false)), .len true (.s 0)⟩,
    ⟨.push, 12, (some ((.s 2), false)), .bin false .gtr (.s 0) (.c (.int .i64 (12)))⟩,
    ⟨.push, 13, none, .pick (.s 3) (.c (.bool true)) (.s 0)⟩] (.s 0)
  (.seq (.region false [
      ⟨.var 1, 2, none, .mov (.c (.bool false))⟩])
   (.ret))
  (.skip))
 (.seq (.seq (.region false [
     ⟨.push, 14, none, .mov (.v 0)⟩,
     ⟨.var 5, 15, none, .len true (.s 0)⟩,
     ⟨.var 6, 16, none, .mov (.c (.int .i64 (0)))⟩])
  (.block 0 (.loop ir30_k0 ir30_o0 ir30_r0 ir30_b0)))
 (.seq (.region false [
    ⟨.var 1, 2, none, .mov (.c (.bool true))⟩])
 (.ret)))), [.t 1]⟩
noncomputable def t_impl_IsName : List (Nat × Ctr) := []
noncomputable def c_impl_IsName : Ctr := mkF t_impl_IsName ir30 [.bor]
theorem s_impl_IsName : Sound Try.prog 30 c_impl_IsName := mkF_sound _ rfl snd_nil (by kernel_rfl : chkFn Try.prog 30 ir30 ir30_v = true)
theorem M_impl_IsName : c_impl_IsName.modes = [.bor] := rfl
theorem Fl_impl_IsName : c_impl_IsName.flat = true := rfl
def E_impl_IsName_l1 (s_ : List UInt8) (t15 : Int) : Int → St
  | t16 => ⟨[.str s_, .any, .any, .any, .any, .int .i64 t15, .int .i64 t16, .any], [], [], true⟩
def R_impl_IsName_l1 (s_ : List UInt8) (t15 : Int) : (Unit ⊕ Bool) → Res
  | .inl y => (.exit 0, ⟨[.any, .any, .any, .any, .any, .any, .any, .any], [], [], true⟩)
  | .inr y => (.ret, ⟨[.any, .bool y, .any, .any, .any, .any, .any, .any], [], [], true⟩)
theorem impl_IsName_l1_ex {s_ : List UInt8} {t15 : Int} {sgm_ : Int} {rho_ : Unit ⊕ Bool} (h : whileE (impl_IsName_l1 s_ t15) sgm_ = some rho_) : ∃ L0, ∀ L, L0 ≤ L → iter (exec (look t_impl_IsName) L ir30_b0) ir30_k0 ir30_o0 ir30_r0 L (E_impl_IsName_l1 s_ t15 sgm_) = R_impl_IsName_l1 s_ t15 rho_ := by
  refine loop_ex (E := E_impl_IsName_l1 s_ t15) (R := R_impl_IsName_l1 s_ t15) (fun y => by first | (intro c; cases c) | (rcases y with y | y <;> (intro c; cases c)) | (rcases y with y | y | y <;> (intro c; cases c))) ?_ h
  clear h
  intro t16 o_ h
  dsimp only [impl_IsName_l1] at h
  rcases it_some h with ⟨hk2, h⟩ | ⟨hk2, h⟩
  · obtain ⟨hk3, h⟩ := ck_some h
    rcases it_some h with ⟨hk4, h⟩ | ⟨hk4, h⟩
    · obtain rfl := so_some h
      refine ⟨0, fun L hL => ?_⟩
      (try simp only [go_sem, Bool.not_eq_true', Bool.not_eq_false', Bool.and_eq_true, Bool.or_eq_false_iff] at hk2) <;>
      (try simp only [go_sem, Bool.not_eq_true', Bool.not_eq_false', Bool.and_eq_true, Bool.or_eq_false_iff, hk2] at hk3) <;>
      (try simp only [go_sem, Bool.not_eq_true', Bool.not_eq_false', Bool.and_eq_true, Bool.or_eq_false_iff, hk2, hk3] at hk4) <;>
      simp only [go_sem, ir30, E_impl_IsName_l1, R_impl_IsName_l1, ir30_b0, ir30_k0, ir30_o0, ir30_r0, hk2, hk3, hk4]
    · obtain rfl := so_some h
      refine ⟨0, fun L hL => ?_⟩
      (try simp only [go_sem, Bool.not_eq_true', Bool.not_eq_false', Bool.and_eq_true, Bool.or_eq_false_iff] at hk2) <;>
      (try simp only [go_sem, Bool.not_eq_true', Bool.not_eq_false', Bool.and_eq_true, Bool.or_eq_false_iff, hk2] at hk3) <;>
      (try simp only [go_sem, Bool.not_eq_true', Bool.not_eq_false', Bool.and_eq_true, Bool.or_eq_false_iff, hk2, hk3] at hk4) <;>
      simp only [go_sem, ir30, E_impl_IsName_l1, R_impl_IsName_l1, ir30_b0, ir30_k0, ir30_o0, ir30_r0, hk2, hk3, hk4]
  · obtain rfl := so_some h
    refine ⟨0, fun L hL => ?_⟩
    (try simp only [go_sem, Bool.not_eq_true', Bool.not_eq_false', Bool.and_eq_true, Bool.or_eq_false_iff] at hk2) <;>
    simp only [go_sem, ir30, E_impl_IsName_l1, R_impl_IsName_l1, ir30_b0, ir30_k0, ir30_o0, ir30_r0, hk2]

theorem Fs_impl_IsName {s_ : List UInt8} {y_ : Bool} (h : impl_IsName s_ = some y_) : c_impl_IsName.F [.str s_] = ⟨true, .bool y_, [.any]⟩ := by
  refine mkF_E rfl ?_
  dsimp only [impl_IsName] at h
  rcases it_some h with ⟨hk1, h⟩ | ⟨hk1, h⟩
  · obtain rfl := so_some h
    refine ⟨0, fun L hL => ?_⟩
    (try simp only [go_sem, Bool.not_eq_true', Bool.not_eq_false', Bool.and_eq_true, Bool.or_eq_false_iff] at hk1) <;>
    simp only [go_sem, ir30, E_impl_IsName_l1, R_impl_IsName_l1, ir30_k0, ir30_o0, ir30_r0, hk1]
  · obtain ⟨y_5, hk5, h⟩ := bd_some h
    obtain ⟨Lhk5, ehk5⟩ := impl_IsName_l1_ex hk5
    rcases y_5 with y_5a | y_5b
    · dsimp only at h
      obtain rfl := so_some h
      refine ⟨Lhk5, fun L hL => ?_⟩
      have ehk5 := ehk5 L (by omega)
      (try simp only [go_sem, Bool.not_eq_true', Bool.not_eq_false', Bool.and_eq_true, Bool.or_eq_false_iff] at hk1) <;>
      (try simp only [go_sem, E_impl_IsName_l1, R_impl_IsName_l1, ir30_k0, ir30_o0, ir30_r0] at ehk5) <;>
      simp only [go_sem, ir30, E_impl_IsName_l1, R_impl_IsName_l1, ir30_k0, ir30_o0, ir30_r0, hk1, ehk5]
    · dsimp only at h
      obtain rfl := so_some h
      refine ⟨Lhk5, fun L hL => ?_⟩
      have ehk5 := ehk5 L (by omega)
      (try simp only [go_sem, Bool.not_eq_true', Bool.not_eq_false', Bool.and_eq_true, Bool.or_eq_false_iff] at hk1) <;>
      (try simp only [go_sem, E_impl_IsName_l1, R_impl_IsName_l1, ir30_k0, ir30_o0, ir30_r0] at ehk5) <;>
      simp only [go_sem, ir30, E_impl_IsName_l1, R_impl_IsName_l1, ir30_k0, ir30_o0, ir30_r0, hk1, ehk5]


def ir21_v : List Nat := [0, 1, 2]
def ir21 : AFn := ⟨1, 3, .seq (.region false [
    ⟨.var 1, 1, none, .box (.v 0)⟩,
    ⟨.var 2, 2, none, .mov (.c (.bool false))⟩])
 (.seq (.region false [
    ⟨.push, 3, none, .fldAddr 0 (.v 1)⟩,
    ⟨.push, 4, none, .load false 1 (.s 0)⟩,
    ⟨.push, 5, none, .call 24 [(.s 0), (.c (.int .i64 (0))), (.c (.int .i64 (100000)))]⟩,
    ⟨.push, 6, none, .mov (.s 0)⟩,
    ⟨.push, 7, (some ((.s 0), true)), .fldAddr 1 (.v 1)⟩,
    ⟨.push, 8, (some ((.s 1), true)), .load false 1 (.s 0)⟩,
    ⟨.push, 9, (some ((.s 2), true)), .call 30 [(.s 0)]⟩,
    ⟨.push, 10, none, .pick (.s 3) (.s 0) (.c (.bool false))⟩,
    ⟨.push, 11, none, .mov (.s 0)⟩,
    ⟨.push, 12, (some ((.s 0), true)), .fldAddr 2 (.v 1)⟩,
    ⟨.push, 13, (some ((.s 1), true)), .load false 1 (.s 0)⟩,
    ⟨.push, 14, (some ((.s 2), true)), .call 24 [(.s 0), (.c (.int .i64 (-1000000))), (.c (.int .i64 (1000000)))]⟩,
    ⟨.push, 15, none, .pick (.s 3) (.s 0) (.c (.bool false))⟩,
    ⟨.var 2, 2, none, .mov (.s 0)⟩])
 (.ret)), [.t 2]⟩
noncomputable def t_impl_ValidEntry : List (Nat × Ctr) := [(24, c_impl_in), (30, c_impl_IsName)]
theorem lk_impl_ValidEntry_24 : look t_impl_ValidEntry 24 = some c_impl_in := rfl
theorem lk_impl_ValidEntry_30 : look t_impl_ValidEntry 30 = some c_impl_IsName := rfl
noncomputable def c_impl_ValidEntry : Ctr := mkF t_impl_ValidEntry ir21 [.bor]
theorem s_impl_ValidEntry : Sound Try.prog 21 c_impl_ValidEntry := mkF_sound _ rfl (snd_cons s_impl_in (snd_cons s_impl_IsName snd_nil)) (by kernel_rfl : chkFn Try.prog 21 ir21 ir21_v = true)
theorem M_impl_ValidEntry : c_impl_ValidEntry.modes = [.bor] := rfl
theorem Fl_impl_ValidEntry : c_impl_ValidEntry.flat = true := rfl
theorem Fs_impl_ValidEntry {e_ : Entry} {y_ : Bool} (h : impl_ValidEntry e_ = some y_) : c_impl_ValidEntry.F [Entry_av e_] = ⟨true, .bool y_, [.any]⟩ := by
  refine mkF_E rfl ?_
  dsimp only [impl_ValidEntry] at h
  obtain ⟨y_1, hk1, h⟩ := bd_some h
  have fhk1 := Fs_impl_in hk1
  obtain ⟨hk2, h⟩ := ck_some h
  rcases or_split hk2 with ⟨ghk2, hk2⟩ | ghk2
  · obtain ⟨y_2, hhk2⟩ := Option.isSome_iff_exists.1 hk2
    have fhk2 := Fs_impl_IsName hhk2
    obtain ⟨hk3, h⟩ := ck_some h
    rcases or_split hk3 with ⟨ghk3, hk3⟩ | ghk3
    · obtain ⟨y_3, hhk3⟩ := Option.isSome_iff_exists.1 hk3
      have fhk3 := Fs_impl_in hhk3
      obtain rfl := so_some h
      refine ⟨0, fun L hL => ?_⟩
      (try simp only [go_sem] at fhk1) <;>
      (try simp only [go_sem, Bool.not_eq_true', Bool.not_eq_false', Bool.and_eq_true, Bool.or_eq_false_iff] at ghk2) <;>
      (try simp only [go_sem, Bool.not_eq_true', Bool.not_eq_false', Bool.and_eq_true, Bool.or_eq_false_iff, ghk2] at hk2) <;>
      (try simp only [go_sem, Bool.not_eq_true', Bool.not_eq_false', Bool.and_eq_true, Bool.or_eq_false_iff, ghk2, hk2] at hhk2) <;>
      (try simp only [go_sem] at fhk2) <;>
      (try simp only [go_sem, Bool.not_eq_true', Bool.not_eq_false', Bool.and_eq_true, Bool.or_eq_false_iff, ghk2, hk2, hhk2] at ghk3) <;>
      (try simp only [go_sem, Bool.not_eq_true', Bool.not_eq_false', Bool.and_eq_true, Bool.or_eq_false_iff, ghk2, hk2, hhk2, ghk3] at hk3) <;>
      (try simp only [go_sem, Bool.not_eq_true', Bool.not_eq_false', Bool.and_eq_true, Bool.or_eq_false_iff, ghk2, hk2, hhk2, ghk3, hk3] at hhk3) <;>
      (try simp only [go_sem] at fhk3) <;>
      simp only [go_sem, ir21, lk_impl_ValidEntry_24, lk_impl_ValidEntry_30, M_impl_in, M_impl_IsName, Fl_impl_in, Fl_impl_IsName, fhk1, ghk2, hk2, hhk2, fhk2, ghk3, hk3, hhk3, fhk3]
    · obtain rfl := so_some h
      refine ⟨0, fun L hL => ?_⟩
      (try simp only [go_sem] at fhk1) <;>
      (try simp only [go_sem, Bool.not_eq_true', Bool.not_eq_false', Bool.and_eq_true, Bool.or_eq_false_iff] at ghk2) <;>
      (try simp only [go_sem, Bool.not_eq_true', Bool.not_eq_false', Bool.and_eq_true, Bool.or_eq_false_iff, ghk2] at hk2) <;>
      (try simp only [go_sem, Bool.not_eq_true', Bool.not_eq_false', Bool.and_eq_true, Bool.or_eq_false_iff, ghk2, hk2] at hhk2) <;>
      (try simp only [go_sem] at fhk2) <;>
      (try simp only [go_sem, Bool.not_eq_true', Bool.not_eq_false', Bool.and_eq_true, Bool.or_eq_false_iff, ghk2, hk2, hhk2] at ghk3) <;>
      simp only [go_sem, ir21, lk_impl_ValidEntry_24, lk_impl_ValidEntry_30, M_impl_in, M_impl_IsName, Fl_impl_in, Fl_impl_IsName, fhk1, ghk2, hk2, hhk2, fhk2, ghk3]
  · obtain ⟨hk3, h⟩ := ck_some h
    rcases or_split hk3 with ⟨ghk3, hk3⟩ | ghk3
    · obtain ⟨y_3, hhk3⟩ := Option.isSome_iff_exists.1 hk3
      have fhk3 := Fs_impl_in hhk3
      obtain rfl := so_some h
      refine ⟨0, fun L hL => ?_⟩
      (try simp only [go_sem] at fhk1) <;>
      (try simp only [go_sem, Bool.not_eq_true', Bool.not_eq_false', Bool.and_eq_true, Bool.or_eq_false_iff] at ghk2) <;>
      (try simp only [go_sem, Bool.not_eq_true', Bool.not_eq_false', Bool.and_eq_true, Bool.or_eq_false_iff, ghk2] at ghk3) <;>
      (try simp only [go_sem, Bool.not_eq_true', Bool.not_eq_false', Bool.and_eq_true, Bool.or_eq_false_iff, ghk2, ghk3] at hk3) <;>
      (try simp only [go_sem, Bool.not_eq_true', Bool.not_eq_false', Bool.and_eq_true, Bool.or_eq_false_iff, ghk2, ghk3, hk3] at hhk3) <;>
      (try simp only [go_sem] at fhk3) <;>
      simp only [go_sem, ir21, lk_impl_ValidEntry_24, lk_impl_ValidEntry_30, M_impl_in, M_impl_IsName, Fl_impl_in, Fl_impl_IsName, fhk1, ghk2, ghk3, hk3, hhk3, fhk3]
    · obtain rfl := so_some h
      refine ⟨0, fun L hL => ?_⟩
      (try simp only [go_sem] at fhk1) <;>
      (try simp only [go_sem, Bool.not_eq_true', Bool.not_eq_false', Bool.and_eq_true, Bool.or_eq_false_iff] at ghk2) <;>
      (try simp only [go_sem, Bool.not_eq_true', Bool.not_eq_false', Bool.and_eq_true, Bool.or_eq_false_iff, ghk2] at ghk3) <;>
      simp only [go_sem, ir21, lk_impl_ValidEntry_24, lk_impl_ValidEntry_30, M_impl_in, M_impl_IsName, Fl_impl_in, Fl_impl_IsName, fhk1, ghk2, ghk3]


def ir6_v : List Nat := [0, 1, 2, 3, 4, 5]
def ir6 : AFn := ⟨1, 6, .seq (.region false [
    ⟨.var 1, 1, none, .box (.v 0)⟩,
    ⟨.var 2, 2, none, .mov (.c (.bool false))⟩])
 (.seq (.region false [
    ⟨.var 3, 3, none, .mov (.c (.int .i64 (1048576)))⟩])
 (.seq (.region false [
    ⟨.push, 6, none, .load true 3 (.v 1)⟩,
    ⟨.push, 7, none, .mov (.v 3)⟩,
    ⟨.push, 8, none, .call 18 [(.s 1), (.s 0)]⟩,
    ⟨.var 3, 3, none, .mov (.s 0)⟩])
 (.seq (.test false [
    ⟨.push, 9, none, .mov (.v 3)⟩,
    ⟨.push, 10, none, .bin false .lss (.s 0) (.c (.int .i64 (0)))⟩] (.s 0)
  (.seq (.region false [
      ⟨.var 2, 2, none, .mov (.c (.bool true))⟩])
   (.ret))
  (.skip))
 (.seq (.region false [
    ⟨.push, 11, none, .load true 3 (.v 1)⟩,
    ⟨.push, 12, none, .call 20 [(.s 0)]⟩,
    ⟨.push, 13, none, .call 19 [(.s 0)]⟩,
    ⟨.var 4, 4, none, .mov (.s 0)⟩])
 (.seq (.region false [
    ⟨.push, 14, none, .load true 3 (.v 1)⟩,
    ⟨.push, 15, none, .call 20 [(.s 0)]⟩,
    ⟨.push, 16, none, .call 21 [(.s 0)]⟩,
    ⟨.var 5, 5, none, .mov (.s 0)⟩])
 (.seq (.test false [
    ⟨.push, 17, none, .mov (.v 5)⟩,
    ⟨.push, 18, none, .mov (.v 4)⟩,
    ⟨.push, 19, none, .bin true .neq (.s 1) (.s 0)⟩] (.s 0)
  (.seq (.region false [
      ⟨.var 2, 2, none, .mov (.c (.bool false))⟩])
   (.ret))
  (.skip))
 (.seq (.region false [
    ⟨.var 2, 2, none, .mov (.c (.bool true))⟩])
 (.ret)))))))), [.t 2]⟩
noncomputable def t_laws_FnExactValidEntry : List (Nat × Ctr) := [(18, c_laws_szEntry), (20, c_laws_toEntry), (19, c_spec_ValidEntry), (21, c_impl_ValidEntry)]
theorem lk_laws_FnExactValidEntry_18 : look t_laws_FnExactValidEntry 18 = some c_laws_szEntry := rfl
theorem lk_laws_FnExactValidEntry_20 : look t_laws_FnExactValidEntry 20 = some c_laws_toEntry := rfl
theorem lk_laws_FnExactValidEntry_19 : look t_laws_FnExactValidEntry 19 = some c_spec_ValidEntry := rfl
theorem lk_laws_FnExactValidEntry_21 : look t_laws_FnExactValidEntry 21 = some c_impl_ValidEntry := rfl
noncomputable def c_laws_FnExactValidEntry : Ctr := mkF t_laws_FnExactValidEntry ir6 [.bor]
theorem s_laws_FnExactValidEntry : Sound Try.prog 6 c_laws_FnExactValidEntry := mkF_sound _ rfl (snd_cons s_laws_szEntry (snd_cons s_laws_toEntry (snd_cons s_spec_ValidEntry (snd_cons s_impl_ValidEntry snd_nil)))) (by kernel_rfl : chkFn Try.prog 6 ir6 ir6_v = true)
theorem M_laws_FnExactValidEntry : c_laws_FnExactValidEntry.modes = [.bor] := rfl
theorem Fl_laws_FnExactValidEntry : c_laws_FnExactValidEntry.flat = true := rfl
theorem Fs_laws_FnExactValidEntry {aE : Entry} {y_ : Bool} (h : laws_FnExactValidEntry aE = some y_) : c_laws_FnExactValidEntry.F [Entry_av aE] = ⟨true, .bool y_, [.any]⟩ := by
  refine mkF_E rfl ?_
  dsimp only [laws_FnExactValidEntry] at h
  obtain ⟨y_1, hk1, h⟩ := bd_some h
  have fhk1 := Fs_laws_szEntry hk1
  rcases it_some h with ⟨hk2, h⟩ | ⟨hk2, h⟩
  · obtain rfl := so_some h
    refine ⟨0, fun L hL => ?_⟩
    (try simp only [go_sem] at fhk1) <;>
    (try simp only [go_sem, Bool.not_eq_true', Bool.not_eq_false', Bool.and_eq_true, Bool.or_eq_false_iff] at hk2) <;>
    simp only [go_sem, ir6, lk_laws_FnExactValidEntry_18, lk_laws_FnExactValidEntry_20, lk_laws_FnExactValidEntry_19, lk_laws_FnExactValidEntry_21, M_laws_szEntry, M_laws_toEntry, M_spec_ValidEntry, M_impl_ValidEntry, Fl_laws_szEntry, Fl_laws_toEntry, Fl_spec_ValidEntry, Fl_impl_ValidEntry, fhk1, hk2]
  · obtain ⟨y_3, hk3, h⟩ := bd_some h
    have fhk3 := Fs_laws_toEntry hk3
    obtain ⟨y_4, hk4, h⟩ := bd_some h
    have fhk4 := Fs_spec_ValidEntry hk4
    obtain ⟨y_5, hk5, h⟩ := bd_some h
    have fhk5 := Fs_impl_ValidEntry hk5
    rcases it_some h with ⟨hk6, h⟩ | ⟨hk6, h⟩
    · obtain rfl := so_some h
      refine ⟨0, fun L hL => ?_⟩
      (try simp only [go_sem] at fhk1) <;>
      (try simp only [go_sem, Bool.not_eq_true', Bool.not_eq_false', Bool.and_eq_true, Bool.or_eq_false_iff] at hk2) <;>
      (try simp only [go_sem] at fhk3) <;>
      (try simp only [go_sem] at fhk4) <;>
      (try simp only [go_sem] at fhk5) <;>
      (try simp only [go_sem, Bool.not_eq_true', Bool.not_eq_false', Bool.and_eq_true, Bool.or_eq_false_iff, hk2] at hk6) <;>
      simp only [go_sem, ir6, lk_laws_FnExactValidEntry_18, lk_laws_FnExactValidEntry_20, lk_laws_FnExactValidEntry_19, lk_laws_FnExactValidEntry_21, M_laws_szEntry, M_laws_toEntry, M_spec_ValidEntry, M_impl_ValidEntry, Fl_laws_szEntry, Fl_laws_toEntry, Fl_spec_ValidEntry, Fl_impl_ValidEntry, fhk1, hk2, fhk3, fhk4, fhk5, hk6]
    · obtain rfl := so_some h
      refine ⟨0, fun L hL => ?_⟩
      (try simp only [go_sem] at fhk1) <;>
      (try simp only [go_sem, Bool.not_eq_true', Bool.not_eq_false', Bool.and_eq_true, Bool.or_eq_false_iff] at hk2) <;>
      (try simp only [go_sem] at fhk3) <;>
      (try simp only [go_sem] at fhk4) <;>
      (try simp only [go_sem] at fhk5) <;>
      (try simp only [go_sem, Bool.not_eq_true', Bool.not_eq_false', Bool.and_eq_true, Bool.or_eq_false_iff, hk2] at hk6) <;>
      simp only [go_sem, ir6, lk_laws_FnExactValidEntry_18, lk_laws_FnExactValidEntry_20, lk_laws_FnExactValidEntry_19, lk_laws_FnExactValidEntry_21, M_laws_szEntry, M_laws_toEntry, M_spec_ValidEntry, M_impl_ValidEntry, Fl_laws_szEntry, Fl_laws_toEntry, Fl_spec_ValidEntry, Fl_impl_ValidEntry, fhk1, hk2, fhk3, fhk4, fhk5, hk6]


end Go.Proofs.Ytkapngmboghaeaa
