/- Codes and contracts of the functions that A1 reaches, and that their typed forms say what they do. No condition. -/
import Derived.Test.YtkapngmboghaeaaR1T
import Derived.Test.YtkapngmboghaeaaRows
import Derived.WalkKit
namespace Go.Proofs.Ytkapngmboghaeaa
open Go Go.RowKit
set_option linter.unusedVariables false
set_option linter.unusedSimpArgs false
set_option maxRecDepth 10000

def ir31_v : List Nat := [0, 1, 2, 6]
def ir31 : AFn := ⟨3, 4, .seq (.region false [
    ⟨.var 3, 6, none, .mov (.c (.bool false))⟩])
 (.seq (.region false [
    ⟨.push, 7, none, .mov (.v 0)⟩,
    ⟨.push, 8, none, .mov (.v 1)⟩,
    ⟨.push, 9, none, .bin false .geq (.s 1) (.s 0)⟩,
    ⟨.push, 10, none, .mov (.s 0)⟩,
    ⟨.push, 11, (some ((.s 0), true)), .mov (.v 0)⟩,
    ⟨.push, 12, (some ((.s 1), true)), .mov (.v 2)⟩,
    ⟨.push, 13, (some ((.s 2), true)), .bin false .leq (.s 1) (.s 0)⟩,
    ⟨.push, 14, none, .pick (.s 3) (.s 0) (.c (.bool false))⟩,
    ⟨.var 3, 6, none, .mov (.s 0)⟩])
 (.ret)), [.t 3]⟩
noncomputable def t_spec_l00In : List (Nat × Ctr) := []
noncomputable def c_spec_l00In : Ctr := mkF t_spec_l00In ir31 [.bor, .bor, .bor]
theorem s_spec_l00In : Sound Try.prog 31 c_spec_l00In := mkF_sound _ rfl snd_nil (by kernel_rfl : chkFn Try.prog 31 ir31 ir31_v = true)
theorem M_spec_l00In : c_spec_l00In.modes = [.bor, .bor, .bor] := rfl
theorem Fl_spec_l00In : c_spec_l00In.flat = true := rfl
attribute [go_sem] M_spec_l00In Fl_spec_l00In
theorem Fs_spec_l00In {n : Int} {low : Int} {high : Int} {y_ : Bool} (h : spec_l00In n low high = some y_) : c_spec_l00In.F [.int .i64 n, .int .i64 low, .int .i64 high] = ⟨true, .bool y_, [.any, .any, .any]⟩ := by
  refine mkF_E rfl ?_
  dsimp only [spec_l00In] at h
  obtain rfl := so_some h
  refine ⟨0, fun L hL => ?_⟩
  simp only [go_sem, ir31]


def ir22_v : List Nat := [0, 2]
def ir22 : AFn := ⟨1, 2, .seq (.region false [
    ⟨.var 1, 2, none, .mov (.c (.bool false))⟩])
 (.seq (.region false [
    ⟨.push, 3, none, .mov (.v 0)⟩,
    ⟨.push, 4, none, .call 31 [(.s 0), (.c (.int .i64 (1))), (.c (.int .i64 (5)))]⟩,
    ⟨.var 1, 2, none, .mov (.s 0)⟩])
 (.ret)), [.t 1]⟩
noncomputable def t_spec_l26Kind : List (Nat × Ctr) := [(31, c_spec_l00In)]
theorem lk_spec_l26Kind_31 : look t_spec_l26Kind 31 = some c_spec_l00In := rfl
noncomputable def c_spec_l26Kind : Ctr := mkF t_spec_l26Kind ir22 [.bor]
theorem s_spec_l26Kind : Sound Try.prog 22 c_spec_l26Kind := mkF_sound _ rfl (snd_cons s_spec_l00In snd_nil) (by kernel_rfl : chkFn Try.prog 22 ir22 ir22_v = true)
theorem M_spec_l26Kind : c_spec_l26Kind.modes = [.bor] := rfl
theorem Fl_spec_l26Kind : c_spec_l26Kind.flat = true := rfl
attribute [go_sem] M_spec_l26Kind Fl_spec_l26Kind
attribute [go_sem] lk_spec_l26Kind_31
theorem Fs_spec_l26Kind {n : Int} {y_ : Bool} (h : spec_l26Kind n = some y_) : c_spec_l26Kind.F [.int .i64 n] = ⟨true, .bool y_, [.any]⟩ := by
  refine mkF_E rfl ?_
  dsimp only [spec_l26Kind] at h
  obtain ⟨y_1, hk1, h⟩ := bd_some h
  have fhk1 := Fs_spec_l00In hk1
  try simp only [go_sem] at fhk1
  obtain rfl := so_some h
  refine ⟨0, fun L hL => ?_⟩
  simp only [go_sem, ir22, fhk1]


def ir23_v : List Nat := [0]
def ir23 : AFn := ⟨0, 1, .seq (.region false [
    ⟨.var 0, 0, none, .newnil 1⟩])
 (.seq (.region false [
    ⟨.push, 1, none, .mkSl 1 (.str []) 5 [(0, (.c (.str [115, 116, 97, 114]))), (1, (.c (.str [111, 98, 115, 101, 114, 118, 101, 114]))), (2, (.c (.str [98, 114, 105, 103, 104, 116]))), (3, (.c (.str [102, 97, 105, 110, 116]))), (4, (.c (.str [116, 119, 105, 110])))]⟩,
    ⟨.var 0, 0, none, .mov (.s 0)⟩])
 (.ret)), [.t 0]⟩
noncomputable def t_spec_l26Names : List (Nat × Ctr) := []
noncomputable def c_spec_l26Names : Ctr := mkF t_spec_l26Names ir23 []
theorem s_spec_l26Names : Sound Try.prog 23 c_spec_l26Names := mkF_sound _ rfl snd_nil (by kernel_rfl : chkFn Try.prog 23 ir23 ir23_v = true)
theorem M_spec_l26Names : c_spec_l26Names.modes = [] := rfl
theorem Fl_spec_l26Names : c_spec_l26Names.flat = true := rfl
attribute [go_sem] M_spec_l26Names Fl_spec_l26Names
theorem Fs_spec_l26Names  {y_ : (List (List UInt8))} (h : spec_l26Names = some y_) : c_spec_l26Names.F [] = ⟨true, .fresh 1 (List.map AV.str y_), []⟩ := by
  refine mkF_E (by simp only [flatA, flatB, flat1, List.all_cons, List.all_nil, Bool.and_self, flatE_map (f := AV.str) (fun _ => rfl)]) ?_
  dsimp only [spec_l26Names] at h
  obtain rfl := so_some h
  refine ⟨0, fun L hL => ?_⟩
  simp only [go_sem, ir23]


def ir7_v : List Nat := [0, 2]
def ir7 : AFn := ⟨1, 2, .seq (.region false [
    ⟨.var 1, 2, none, .mov (.c (.str []))⟩])
 (.seq (.test false [
    ⟨.push, 3, none, .mov (.v 0)⟩,
    ⟨.push, 4, none, .call 22 [(.s 0)]⟩,
    ⟨.push, 5, none, .un .not (.s 0)⟩] (.s 0)
  (.seq (.region false [
      ⟨.var 1, 2, none, .mov (.c (.str []))⟩])
   (.ret))
  (.skip))
 (.seq (.region false [
    ⟨.push, 6, none, .call 23 []⟩,
    ⟨.push, 7, none, .mov (.v 0)⟩,
    ⟨.push, 8, none, .bin false .sub (.s 0) (.c (.int .i64 (1)))⟩,
    ⟨.push, 9, none, .ixAddr 1 (.s 2) (.s 0)⟩,
    ⟨.push, 10, none, .load false 1 (.s 0)⟩,
    ⟨.var 1, 2, none, .mov (.s 0)⟩])
 (.ret))), [.t 1]⟩
noncomputable def t_spec_FaultName : List (Nat × Ctr) := [(22, c_spec_l26Kind), (23, c_spec_l26Names)]
theorem lk_spec_FaultName_22 : look t_spec_FaultName 22 = some c_spec_l26Kind := rfl
theorem lk_spec_FaultName_23 : look t_spec_FaultName 23 = some c_spec_l26Names := rfl
noncomputable def c_spec_FaultName : Ctr := mkF t_spec_FaultName ir7 [.bor]
theorem s_spec_FaultName : Sound Try.prog 7 c_spec_FaultName := mkF_sound _ rfl (snd_cons s_spec_l26Kind (snd_cons s_spec_l26Names snd_nil)) (by kernel_rfl : chkFn Try.prog 7 ir7 ir7_v = true)
theorem M_spec_FaultName : c_spec_FaultName.modes = [.bor] := rfl
theorem Fl_spec_FaultName : c_spec_FaultName.flat = true := rfl
attribute [go_sem] M_spec_FaultName Fl_spec_FaultName
attribute [go_sem] lk_spec_FaultName_22 lk_spec_FaultName_23
theorem Fs_spec_FaultName {kind : Int} {y_ : (List UInt8)} (h : spec_FaultName kind = some y_) : c_spec_FaultName.F [.int .i64 kind] = ⟨true, .str y_, [.any]⟩ := by
  refine mkF_E rfl ?_
  dsimp only [spec_FaultName] at h
  obtain ⟨y_1, hk1, h⟩ := bd_some h
  have fhk1 := Fs_spec_l26Kind hk1
  try simp only [go_sem] at fhk1
  rcases it_some h with ⟨hk2, h⟩ | ⟨hk2, h⟩
  · try simp only [go_sem, n1, n2, n3, n4] at hk2
    all_goals
    obtain rfl := so_some h
    refine ⟨0, fun L hL => ?_⟩
    simp only [go_sem, ir7, fhk1, hk2]
  · try simp only [go_sem, n1, n2, n3, n4] at hk2
    all_goals
    obtain ⟨y_3, hk3, h⟩ := bd_some h
    have fhk3 := Fs_spec_l26Names hk3
    try simp only [go_sem] at fhk3
    obtain ⟨hk4, h⟩ := ck_some h
    have lhk4 := ix_lt hk4
    have xhk4 := getD_mapD AV.str y_3 lhk4
    try simp only [go_sem] at lhk4
    try simp only [go_sem] at xhk4
    try simp only [go_sem, n1, n2, n3, n4, hk2] at hk4
    all_goals
    obtain rfl := so_some h
    refine ⟨0, fun L hL => ?_⟩
    simp only [go_sem, ir7, fhk1, hk2, fhk3, hk4, lhk4, xhk4]


def ir24_v : List Nat := [0, 1, 2, 6]
def ir24 : AFn := ⟨3, 4, .seq (.region false [
    ⟨.var 3, 6, none, .mov (.c (.bool false))⟩])
 (.seq (.region false [
    ⟨.push, 7, none, .mov (.v 0)⟩,
    ⟨.push, 8, none, .mov (.v 1)⟩,
    ⟨.push, 9, none, .bin false .geq (.s 1) (.s 0)⟩,
    ⟨.push, 10, none, .mov (.s 0)⟩,
    ⟨.push, 11, (some ((.s 0), true)), .mov (.v 0)⟩,
    ⟨.push, 12, (some ((.s 1), true)), .mov (.v 2)⟩,
    ⟨.push, 13, (some ((.s 2), true)), .bin false .leq (.s 1) (.s 0)⟩,
    ⟨.push, 14, none, .pick (.s 3) (.s 0) (.c (.bool false))⟩,
    ⟨.var 3, 6, none, .mov (.s 0)⟩])
 (.ret)), [.t 3]⟩
noncomputable def t_impl_in : List (Nat × Ctr) := []
noncomputable def c_impl_in : Ctr := mkF t_impl_in ir24 [.bor, .bor, .bor]
theorem s_impl_in : Sound Try.prog 24 c_impl_in := mkF_sound _ rfl snd_nil (by kernel_rfl : chkFn Try.prog 24 ir24 ir24_v = true)
theorem M_impl_in : c_impl_in.modes = [.bor, .bor, .bor] := rfl
theorem Fl_impl_in : c_impl_in.flat = true := rfl
attribute [go_sem] M_impl_in Fl_impl_in
theorem Fs_impl_in {n : Int} {low : Int} {high : Int} {y_ : Bool} (h : impl_in n low high = some y_) : c_impl_in.F [.int .i64 n, .int .i64 low, .int .i64 high] = ⟨true, .bool y_, [.any, .any, .any]⟩ := by
  refine mkF_E rfl ?_
  dsimp only [impl_in] at h
  obtain rfl := so_some h
  refine ⟨0, fun L hL => ?_⟩
  simp only [go_sem, ir24]


def ir25_v : List Nat := [0]
def ir25 : AFn := ⟨0, 1, .seq (.region false [
    ⟨.var 0, 0, none, .newnil 1⟩])
 (.seq (.region false [
    ⟨.push, 1, none, .mkSl 1 (.str []) 5 [(0, (.c (.str [115, 116, 97, 114]))), (1, (.c (.str [111, 98, 115, 101, 114, 118, 101, 114]))), (2, (.c (.str [98, 114, 105, 103, 104, 116]))), (3, (.c (.str [102, 97, 105, 110, 116]))), (4, (.c (.str [116, 119, 105, 110])))]⟩,
    ⟨.var 0, 0, none, .mov (.s 0)⟩])
 (.ret)), [.t 0]⟩
noncomputable def t_impl_faultNames : List (Nat × Ctr) := []
noncomputable def c_impl_faultNames : Ctr := mkF t_impl_faultNames ir25 []
theorem s_impl_faultNames : Sound Try.prog 25 c_impl_faultNames := mkF_sound _ rfl snd_nil (by kernel_rfl : chkFn Try.prog 25 ir25 ir25_v = true)
theorem M_impl_faultNames : c_impl_faultNames.modes = [] := rfl
theorem Fl_impl_faultNames : c_impl_faultNames.flat = true := rfl
attribute [go_sem] M_impl_faultNames Fl_impl_faultNames
theorem Fs_impl_faultNames  {y_ : (List (List UInt8))} (h : impl_faultNames = some y_) : c_impl_faultNames.F [] = ⟨true, .fresh 1 (List.map AV.str y_), []⟩ := by
  refine mkF_E (by simp only [flatA, flatB, flat1, List.all_cons, List.all_nil, Bool.and_self, flatE_map (f := AV.str) (fun _ => rfl)]) ?_
  dsimp only [impl_faultNames] at h
  obtain rfl := so_some h
  refine ⟨0, fun L hL => ?_⟩
  simp only [go_sem, ir25]


def ir8_v : List Nat := [0, 2]
def ir8 : AFn := ⟨1, 2, .seq (.region false [
    ⟨.var 1, 2, none, .mov (.c (.str []))⟩])
 (.seq (.test false [
    ⟨.push, 3, none, .mov (.v 0)⟩,
    ⟨.push, 4, none, .call 24 [(.s 0), (.c (.int .i64 (1))), (.c (.int .i64 (5)))]⟩,
    ⟨.push, 5, none, .un .not (.s 0)⟩] (.s 0)
  (.seq (.region false [
      ⟨.var 1, 2, none, .mov (.c (.str []))⟩])
   (.ret))
  (.skip))
 (.seq (.region false [
    ⟨.push, 6, none, .call 25 []⟩,
    ⟨.push, 7, none, .mov (.v 0)⟩,
    ⟨.push, 8, none, .bin false .sub (.s 0) (.c (.int .i64 (1)))⟩,
    ⟨.push, 9, none, .ixAddr 1 (.s 2) (.s 0)⟩,
    ⟨.push, 10, none, .load false 1 (.s 0)⟩,
    ⟨.var 1, 2, none, .mov (.s 0)⟩])
 (.ret))), [.t 1]⟩
noncomputable def t_impl_FaultName : List (Nat × Ctr) := [(24, c_impl_in), (25, c_impl_faultNames)]
theorem lk_impl_FaultName_24 : look t_impl_FaultName 24 = some c_impl_in := rfl
theorem lk_impl_FaultName_25 : look t_impl_FaultName 25 = some c_impl_faultNames := rfl
noncomputable def c_impl_FaultName : Ctr := mkF t_impl_FaultName ir8 [.bor]
theorem s_impl_FaultName : Sound Try.prog 8 c_impl_FaultName := mkF_sound _ rfl (snd_cons s_impl_in (snd_cons s_impl_faultNames snd_nil)) (by kernel_rfl : chkFn Try.prog 8 ir8 ir8_v = true)
theorem M_impl_FaultName : c_impl_FaultName.modes = [.bor] := rfl
theorem Fl_impl_FaultName : c_impl_FaultName.flat = true := rfl
attribute [go_sem] M_impl_FaultName Fl_impl_FaultName
attribute [go_sem] lk_impl_FaultName_24 lk_impl_FaultName_25
theorem Fs_impl_FaultName {kind : Int} {y_ : (List UInt8)} (h : impl_FaultName kind = some y_) : c_impl_FaultName.F [.int .i64 kind] = ⟨true, .str y_, [.any]⟩ := by
  refine mkF_E rfl ?_
  dsimp only [impl_FaultName] at h
  obtain ⟨y_1, hk1, h⟩ := bd_some h
  have fhk1 := Fs_impl_in hk1
  try simp only [go_sem] at fhk1
  rcases it_some h with ⟨hk2, h⟩ | ⟨hk2, h⟩
  · try simp only [go_sem, n1, n2, n3, n4] at hk2
    all_goals
    obtain rfl := so_some h
    refine ⟨0, fun L hL => ?_⟩
    simp only [go_sem, ir8, fhk1, hk2]
  · try simp only [go_sem, n1, n2, n3, n4] at hk2
    all_goals
    obtain ⟨y_3, hk3, h⟩ := bd_some h
    have fhk3 := Fs_impl_faultNames hk3
    try simp only [go_sem] at fhk3
    obtain ⟨hk4, h⟩ := ck_some h
    have lhk4 := ix_lt hk4
    have xhk4 := getD_mapD AV.str y_3 lhk4
    try simp only [go_sem] at lhk4
    try simp only [go_sem] at xhk4
    try simp only [go_sem, n1, n2, n3, n4, hk2] at hk4
    all_goals
    obtain rfl := so_some h
    refine ⟨0, fun L hL => ?_⟩
    simp only [go_sem, ir8, fhk1, hk2, fhk3, hk4, lhk4, xhk4]


def ir3_v : List Nat := [0, 2, 3, 4]
def ir3 : AFn := ⟨1, 4, .seq (.region false [
    ⟨.var 1, 2, none, .mov (.c (.bool false))⟩])
 (.seq (.region false [
    ⟨.push, 5, none, .mov (.v 0)⟩,
    ⟨.push, 6, none, .call 7 [(.s 0)]⟩,
    ⟨.var 2, 3, none, .mov (.s 0)⟩])
 (.seq (.region false [
    ⟨.push, 7, none, .mov (.v 0)⟩,
    ⟨.push, 8, none, .call 8 [(.s 0)]⟩,
    ⟨.var 3, 4, none, .mov (.s 0)⟩])
 (.seq (.test false [
    ⟨.push, 9, none, .mov (.v 3)⟩,
    ⟨.push, 10, none, .mov (.v 2)⟩,
    ⟨.push, 11, none, .bin false .neq (.s 1) (.s 0)⟩] (.s 0)
  (.seq (.region false [
      ⟨.var 1, 2, none, .mov (.c (.bool false))⟩])
   (.ret))
  (.skip))
 (.seq (.region false [
    ⟨.var 1, 2, none, .mov (.c (.bool true))⟩])
 (.ret))))), [.t 1]⟩
noncomputable def t_laws_FnExactFaultName : List (Nat × Ctr) := [(7, c_spec_FaultName), (8, c_impl_FaultName)]
theorem lk_laws_FnExactFaultName_7 : look t_laws_FnExactFaultName 7 = some c_spec_FaultName := rfl
theorem lk_laws_FnExactFaultName_8 : look t_laws_FnExactFaultName 8 = some c_impl_FaultName := rfl
noncomputable def c_laws_FnExactFaultName : Ctr := mkF t_laws_FnExactFaultName ir3 [.bor]
theorem s_laws_FnExactFaultName : Sound Try.prog 3 c_laws_FnExactFaultName := mkF_sound _ rfl (snd_cons s_spec_FaultName (snd_cons s_impl_FaultName snd_nil)) (by kernel_rfl : chkFn Try.prog 3 ir3 ir3_v = true)
theorem M_laws_FnExactFaultName : c_laws_FnExactFaultName.modes = [.bor] := rfl
theorem Fl_laws_FnExactFaultName : c_laws_FnExactFaultName.flat = true := rfl
attribute [go_sem] M_laws_FnExactFaultName Fl_laws_FnExactFaultName
attribute [go_sem] lk_laws_FnExactFaultName_7 lk_laws_FnExactFaultName_8
theorem Fs_laws_FnExactFaultName {aKind : Int} {y_ : Bool} (h : laws_FnExactFaultName aKind = some y_) : c_laws_FnExactFaultName.F [.int .i64 aKind] = ⟨true, .bool y_, [.any]⟩ := by
  refine mkF_E rfl ?_
  dsimp only [laws_FnExactFaultName] at h
  obtain ⟨y_1, hk1, h⟩ := bd_some h
  have fhk1 := Fs_spec_FaultName hk1
  try simp only [go_sem] at fhk1
  obtain ⟨y_2, hk2, h⟩ := bd_some h
  have fhk2 := Fs_impl_FaultName hk2
  try simp only [go_sem] at fhk2
  rcases it_some h with ⟨hk3, h⟩ | ⟨hk3, h⟩
  · try simp only [go_sem, n1, n2, n3, n4] at hk3
    all_goals
    obtain rfl := so_some h
    refine ⟨0, fun L hL => ?_⟩
    simp only [go_sem, ir3, fhk1, fhk2, hk3]
  · try simp only [go_sem, n1, n2, n3, n4] at hk3
    all_goals
    obtain rfl := so_some h
    refine ⟨0, fun L hL => ?_⟩
    simp only [go_sem, ir3, fhk1, fhk2, hk3]


def ir26_v : List Nat := [0]
def ir26 : AFn := ⟨0, 1, .seq (.region false [
    ⟨.var 0, 0, none, .newnil 1⟩])
 (.seq (.region false [
    ⟨.push, 1, none, .mkSl 1 (.str []) 10 [(0, (.c (.str [97, 109, 112]))), (1, (.c (.str [98, 101, 115, 116]))), (2, (.c (.str [99, 117, 114, 118, 101]))), (3, (.c (.str [101, 110, 116, 101, 114]))), (4, (.c (.str [101, 115, 116]))), (5, (.c (.str [102, 111, 108, 100]))), (6, (.c (.str [108, 97, 115, 116]))), (7, (.c (.str [108, 111, 103]))), (8, (.c (.str [112, 97, 105, 114, 115]))), (9, (.c (.str [115, 116, 97, 114])))]⟩,
    ⟨.var 0, 0, none, .mov (.s 0)⟩])
 (.ret)), [.t 0]⟩
noncomputable def t_spec_l28Words : List (Nat × Ctr) := []
noncomputable def c_spec_l28Words : Ctr := mkF t_spec_l28Words ir26 []
theorem s_spec_l28Words : Sound Try.prog 26 c_spec_l28Words := mkF_sound _ rfl snd_nil (by kernel_rfl : chkFn Try.prog 26 ir26 ir26_v = true)
theorem M_spec_l28Words : c_spec_l28Words.modes = [] := rfl
theorem Fl_spec_l28Words : c_spec_l28Words.flat = true := rfl
attribute [go_sem] M_spec_l28Words Fl_spec_l28Words
theorem Fs_spec_l28Words  {y_ : (List (List UInt8))} (h : spec_l28Words = some y_) : c_spec_l28Words.F [] = ⟨true, .fresh 1 (List.map AV.str y_), []⟩ := by
  refine mkF_E (by simp only [flatA, flatB, flat1, List.all_cons, List.all_nil, Bool.and_self, flatE_map (f := AV.str) (fun _ => rfl)]) ?_
  dsimp only [spec_l28Words] at h
  obtain rfl := so_some h
  refine ⟨0, fun L hL => ?_⟩
  simp only [go_sem, ir26]


def ir9_v : List Nat := [0]
def ir9 : AFn := ⟨0, 1, .seq (.region false [
    ⟨.var 0, 0, none, .newnil 1⟩])
 (.seq (.region false [
    ⟨.push, 1, none, .call 26 []⟩,
    ⟨.var 0, 0, none, .mov (.s 0)⟩])
 (.ret)), [.t 0]⟩
noncomputable def t_spec_DeskWords : List (Nat × Ctr) := [(26, c_spec_l28Words)]
theorem lk_spec_DeskWords_26 : look t_spec_DeskWords 26 = some c_spec_l28Words := rfl
noncomputable def c_spec_DeskWords : Ctr := mkF t_spec_DeskWords ir9 []
theorem s_spec_DeskWords : Sound Try.prog 9 c_spec_DeskWords := mkF_sound _ rfl (snd_cons s_spec_l28Words snd_nil) (by kernel_rfl : chkFn Try.prog 9 ir9 ir9_v = true)
theorem M_spec_DeskWords : c_spec_DeskWords.modes = [] := rfl
theorem Fl_spec_DeskWords : c_spec_DeskWords.flat = true := rfl
attribute [go_sem] M_spec_DeskWords Fl_spec_DeskWords
attribute [go_sem] lk_spec_DeskWords_26
theorem Fs_spec_DeskWords  {y_ : (List (List UInt8))} (h : spec_DeskWords = some y_) : c_spec_DeskWords.F [] = ⟨true, .fresh 1 (List.map AV.str y_), []⟩ := by
  refine mkF_E (by simp only [flatA, flatB, flat1, List.all_cons, List.all_nil, Bool.and_self, flatE_map (f := AV.str) (fun _ => rfl)]) ?_
  dsimp only [spec_DeskWords] at h
  obtain ⟨y_1, hk1, h⟩ := bd_some h
  have fhk1 := Fs_spec_l28Words hk1
  try simp only [go_sem] at fhk1
  obtain rfl := so_some h
  refine ⟨0, fun L hL => ?_⟩
  simp only [go_sem, ir9, fhk1]


def ir10_v : List Nat := [0]
def ir10 : AFn := ⟨0, 1, .seq (.region false [
    ⟨.var 0, 0, none, .newnil 1⟩])
 (.seq (.region false [
    ⟨.push, 1, none, .mkSl 1 (.str []) 10 [(0, (.c (.str [97, 109, 112]))), (1, (.c (.str [98, 101, 115, 116]))), (2, (.c (.str [99, 117, 114, 118, 101]))), (3, (.c (.str [101, 110, 116, 101, 114]))), (4, (.c (.str [101, 115, 116]))), (5, (.c (.str [102, 111, 108, 100]))), (6, (.c (.str [108, 97, 115, 116]))), (7, (.c (.str [108, 111, 103]))), (8, (.c (.str [112, 97, 105, 114, 115]))), (9, (.c (.str [115, 116, 97, 114])))]⟩,
    ⟨.var 0, 0, none, .mov (.s 0)⟩])
 (.ret)), [.t 0]⟩
noncomputable def t_impl_DeskWords : List (Nat × Ctr) := []
noncomputable def c_impl_DeskWords : Ctr := mkF t_impl_DeskWords ir10 []
theorem s_impl_DeskWords : Sound Try.prog 10 c_impl_DeskWords := mkF_sound _ rfl snd_nil (by kernel_rfl : chkFn Try.prog 10 ir10 ir10_v = true)
theorem M_impl_DeskWords : c_impl_DeskWords.modes = [] := rfl
theorem Fl_impl_DeskWords : c_impl_DeskWords.flat = true := rfl
attribute [go_sem] M_impl_DeskWords Fl_impl_DeskWords
theorem Fs_impl_DeskWords  {y_ : (List (List UInt8))} (h : impl_DeskWords = some y_) : c_impl_DeskWords.F [] = ⟨true, .fresh 1 (List.map AV.str y_), []⟩ := by
  refine mkF_E (by simp only [flatA, flatB, flat1, List.all_cons, List.all_nil, Bool.and_self, flatE_map (f := AV.str) (fun _ => rfl)]) ?_
  dsimp only [impl_DeskWords] at h
  obtain rfl := so_some h
  refine ⟨0, fun L hL => ?_⟩
  simp only [go_sem, ir10]


def ir11_b0 : IR := .seq (.test false [
    ⟨.push, 11, none, .mov (.v 3)⟩,
    ⟨.push, 12, none, .mov (.v 0)⟩,
    ⟨.push, 13, none, .len false (.s 0)⟩,
    ⟨.push, 14, none, .bin false .lss (.s 2) (.s 0)⟩] (.s 0)
  (.skip)
  (.exit 0))
 (.seq (.block 1 (.anyo 9 [
     ⟨.slot 0, 17, none, .mov (.v 0)⟩,
     ⟨.slot 1, 18, none, .mov (.v 3)⟩,
     ⟨.slot 2, 19, none, .ixAddr 1 (.s 0) (.s 1)⟩,
     ⟨.slot 3, 20, none, .load false 1 (.s 2)⟩,
     ⟨.slot 4, 21, none, .mov (.v 1)⟩,
     ⟨.slot 5, 22, none, .mov (.v 3)⟩,
     ⟨.slot 6, 23, none, .ixAddr 1 (.s 4) (.s 5)⟩,
     ⟨.slot 7, 24, none, .load false 1 (.s 6)⟩,
     ⟨.slot 8, 25, none, .bin false .neq (.s 3) (.s 7)⟩] [] (.cond (.s 8)
   (.seq (.region false [
       ⟨.var 2, 4, none, .mov (.c (.bool false))⟩])
    (.ret))
   (.skip))))
 (.region false [
   ⟨.push, 15, none, .mov (.v 3)⟩,
   ⟨.push, 16, none, .bin false .add (.s 0) (.c (.int .i64 (1)))⟩,
   ⟨.var 3, 5, none, .mov (.s 0)⟩]))
def ir11_k0 : List Bool := [true, true, false, true]
def ir11_o0 : List Bool := [false, false, false, false]
def ir11_r0 : List Bool := [false, false, true, false]
def ir11_v : List Nat := [0, 1, 4, 5]
def ir11 : AFn := ⟨2, 4, .seq (.region false [
    ⟨.var 2, 4, none, .mov (.c (.bool false))⟩])
 (.seq (.test false [
    ⟨.push, 6, none, .mov (.v 0)⟩,
    ⟨.push, 7, none, .len false (.s 0)⟩,
    ⟨.push, 8, none, .mov (.v 1)⟩,
    ⟨.push, 9, none, .len false (.s 0)⟩,
    ⟨.push, 10, none, .bin false .neq (.s 2) (.s 0)⟩] (.s 0)
  (.seq (.region false [
      ⟨.var 2, 4, none, .mov (.c (.bool false))⟩])
   (.ret))
  (.skip))
 (.seq (.seq (.region false [
     ⟨.var 3, 5, none, .mov (.c (.int .i64 (0)))⟩])
  (.block 0 (.loop ir11_k0 ir11_o0 ir11_r0 ir11_b0)))
 (.seq (.region false [
    ⟨.var 2, 4, none, .mov (.c (.bool true))⟩])
 (.ret)))), [.t 2]⟩
noncomputable def t_laws_eqStringS : List (Nat × Ctr) := []
noncomputable def c_laws_eqStringS : Ctr := mkF t_laws_eqStringS ir11 [.bor, .bor]
theorem s_laws_eqStringS : Sound Try.prog 11 c_laws_eqStringS := mkF_sound _ rfl snd_nil (by kernel_rfl : chkFn Try.prog 11 ir11 ir11_v = true)
theorem M_laws_eqStringS : c_laws_eqStringS.modes = [.bor, .bor] := rfl
theorem Fl_laws_eqStringS : c_laws_eqStringS.flat = true := rfl
attribute [go_sem] M_laws_eqStringS Fl_laws_eqStringS
def E_laws_eqStringS_l1 (a : List (List UInt8)) (b : List (List UInt8)) : Int → St
  | i => ⟨[.sl 1 (List.map AV.str a), .sl 1 (List.map AV.str b), .any, .int .i64 i], [], [], true⟩
def R_laws_eqStringS_l1 (a : List (List UInt8)) (b : List (List UInt8)) : (Unit ⊕ Bool) → Res
  | .inl y => (.exit 0, ⟨[.any, .any, .any, .any], [], [], true⟩)
  | .inr y => (.ret, ⟨[.any, .any, .bool y, .any], [], [], true⟩)
theorem laws_eqStringS_l1_ex {a : List (List UInt8)} {b : List (List UInt8)} {sgm_ : Int} {rho_ : Unit ⊕ Bool} (h : whileE (laws_eqStringS_l1 a b) sgm_ = some rho_) : ∃ L0, ∀ L, L0 ≤ L → iter (exec (look t_laws_eqStringS) L ir11_b0) ir11_k0 ir11_o0 ir11_r0 L (E_laws_eqStringS_l1 a b sgm_) = R_laws_eqStringS_l1 a b rho_ := by
  refine loop_ex (E := E_laws_eqStringS_l1 a b) (R := R_laws_eqStringS_l1 a b) (fun y => by first | (intro c; cases c) | (rcases y with y | y <;> (intro c; cases c)) | (rcases y with y | y | y <;> (intro c; cases c))) ?_ h
  clear h
  intro i o_ h
  dsimp only [laws_eqStringS_l1] at h
  rcases it_some h with ⟨hk2, h⟩ | ⟨hk2, h⟩
  · try simp only [go_sem, n1, n2, n3, n4] at hk2
    all_goals
    obtain ⟨hk3, h⟩ := ck_some h
    have lhk3 := ix_lt hk3
    have xhk3 := getD_mapD AV.str a lhk3
    try simp only [go_sem] at lhk3
    try simp only [go_sem] at xhk3
    try simp only [go_sem, n1, n2, n3, n4, hk2] at hk3
    all_goals
    obtain ⟨hk4, h⟩ := ck_some h
    have lhk4 := ix_lt hk4
    have xhk4 := getD_mapD AV.str b lhk4
    try simp only [go_sem] at lhk4
    try simp only [go_sem] at xhk4
    try simp only [go_sem, n1, n2, n3, n4, hk2, hk3] at hk4
    all_goals
    rcases it_some h with ⟨hk5, h⟩ | ⟨hk5, h⟩
    · try simp only [go_sem, n1, n2, n3, n4, hk2, hk3, hk4] at hk5
      all_goals
      obtain rfl := so_some h
      refine ⟨0, fun L hL => ?_⟩
      simp only [go_sem, ir11, E_laws_eqStringS_l1, R_laws_eqStringS_l1, ir11_b0, ir11_k0, ir11_o0, ir11_r0, hk2, hk3, lhk3, xhk3, hk4, lhk4, xhk4, hk5]
    · try simp only [go_sem, n1, n2, n3, n4, hk2, hk3, hk4] at hk5
      all_goals
      obtain rfl := so_some h
      refine ⟨0, fun L hL => ?_⟩
      simp only [go_sem, ir11, E_laws_eqStringS_l1, R_laws_eqStringS_l1, ir11_b0, ir11_k0, ir11_o0, ir11_r0, hk2, hk3, lhk3, xhk3, hk4, lhk4, xhk4, hk5]
  · try simp only [go_sem, n1, n2, n3, n4] at hk2
    all_goals
    obtain rfl := so_some h
    refine ⟨0, fun L hL => ?_⟩
    simp only [go_sem, ir11, E_laws_eqStringS_l1, R_laws_eqStringS_l1, ir11_b0, ir11_k0, ir11_o0, ir11_r0, hk2]

theorem Fs_laws_eqStringS {a : List (List UInt8)} {b : List (List UInt8)} {y_ : Bool} (h : laws_eqStringS a b = some y_) : c_laws_eqStringS.F [.sl 1 (List.map AV.str a), .sl 1 (List.map AV.str b)] = ⟨true, .bool y_, [.any, .any]⟩ := by
  refine mkF_E rfl ?_
  dsimp only [laws_eqStringS] at h
  rcases it_some h with ⟨hk1, h⟩ | ⟨hk1, h⟩
  · try simp only [go_sem, n1, n2, n3, n4] at hk1
    all_goals
    obtain rfl := so_some h
    refine ⟨0, fun L hL => ?_⟩
    simp only [go_sem, ir11, E_laws_eqStringS_l1, R_laws_eqStringS_l1, ir11_k0, ir11_o0, ir11_r0, hk1]
  · try simp only [go_sem, n1, n2, n3, n4] at hk1
    all_goals
    obtain ⟨y_6, hk6, h⟩ := bd_some h
    obtain ⟨Lhk6, ehk6⟩ := laws_eqStringS_l1_ex hk6
    rcases y_6 with y_6a | y_6b
    · dsimp only at h
      obtain rfl := so_some h
      refine ⟨Lhk6, fun L hL => ?_⟩
      have ehk6 := ehk6 L (by omega)
      try simp only [go_sem, E_laws_eqStringS_l1, R_laws_eqStringS_l1, ir11_k0, ir11_o0, ir11_r0] at ehk6
      simp only [go_sem, ir11, E_laws_eqStringS_l1, R_laws_eqStringS_l1, ir11_k0, ir11_o0, ir11_r0, hk1, ehk6]
    · dsimp only at h
      obtain rfl := so_some h
      refine ⟨Lhk6, fun L hL => ?_⟩
      have ehk6 := ehk6 L (by omega)
      try simp only [go_sem, E_laws_eqStringS_l1, R_laws_eqStringS_l1, ir11_k0, ir11_o0, ir11_r0] at ehk6
      simp only [go_sem, ir11, E_laws_eqStringS_l1, R_laws_eqStringS_l1, ir11_k0, ir11_o0, ir11_r0, hk1, ehk6]


def ir27_b0 : IR := .seq (.test false [
    ⟨.push, 6, none, .mov (.v 0)⟩,
    ⟨.push, 7, none, .bin false .gtr (.s 0) (.c (.int .i64 (0)))⟩] (.s 0)
  (.skip)
  (.exit 0))
 (.block 1 (.seq (.region false [
     ⟨.push, 8, none, .mov (.v 0)⟩,
     ⟨.push, 9, none, .bin false .rem (.s 0) (.c (.int .i64 (10)))⟩,
     ⟨.push, 10, none, .bin false .add (.c (.int .i64 (48))) (.s 0)⟩,
     ⟨.push, 11, none, .conv .u8 (.s 0)⟩,
     ⟨.push, 12, none, .mkSl 1 (.int .u8 (0)) 1 [(0, (.s 0))]⟩,
     ⟨.push, 13, none, .b2s (.s 0)⟩,
     ⟨.push, 14, none, .mov (.v 2)⟩,
     ⟨.push, 15, none, .bin false .add (.s 1) (.s 0)⟩,
     ⟨.var 2, 3, none, .mov (.s 0)⟩])
  (.region false [
    ⟨.push, 16, none, .mov (.v 0)⟩,
    ⟨.push, 17, none, .bin false .quo (.s 0) (.c (.int .i64 (10)))⟩,
    ⟨.var 0, 0, none, .mov (.s 0)⟩])))
def ir27_k0 : List Bool := [true, false, true]
def ir27_o0 : List Bool := [false, false, true]
def ir27_r0 : List Bool := [false, true, false]
def ir27_v : List Nat := [0, 2, 3]
def ir27 : AFn := ⟨1, 3, .seq (.region false [
    ⟨.var 1, 2, none, .mov (.c (.str []))⟩])
 (.seq (.test false [
    ⟨.push, 4, none, .mov (.v 0)⟩,
    ⟨.push, 5, none, .bin false .leq (.s 0) (.c (.int .i64 (0)))⟩] (.s 0)
  (.seq (.region false [
      ⟨.var 1, 2, none, .mov (.c (.str [109, 48]))⟩])
   (.ret))
  (.skip))
 (.seq (.region false [
    ⟨.var 2, 3, none, .mov (.c (.str []))⟩])
 (.seq (.block 0 (.loop ir27_k0 ir27_o0 ir27_r0 ir27_b0))
 (.seq (.region false [
    ⟨.push, 18, none, .mov (.v 2)⟩,
    ⟨.push, 19, none, .bin false .add (.c (.str [109])) (.s 0)⟩,
    ⟨.var 1, 2, none, .mov (.s 0)⟩])
 (.ret))))), [.t 1]⟩
noncomputable def t_laws_markText : List (Nat × Ctr) := []
noncomputable def c_laws_markText : Ctr := mkF t_laws_markText ir27 [.bor]
theorem s_laws_markText : Sound Try.prog 27 c_laws_markText := mkF_sound _ rfl snd_nil (by kernel_rfl : chkFn Try.prog 27 ir27 ir27_v = true)
theorem M_laws_markText : c_laws_markText.modes = [.bor] := rfl
theorem Fl_laws_markText : c_laws_markText.flat = true := rfl
attribute [go_sem] M_laws_markText Fl_laws_markText
def E_laws_markText_l1  : (Int × (List UInt8)) → St
  | (k, out) => ⟨[.int .i64 k, .any, .str out], [], [], true⟩
def R_laws_markText_l1  (y : (List UInt8)) : Res := (.exit 0, ⟨[.any, .any, .str y], [], [], true⟩)
theorem laws_markText_l1_ex  {sgm_ : Int × (List UInt8)} {rho_ : (List UInt8)} (h : whileE (laws_markText_l1) sgm_ = some rho_) : ∃ L0, ∀ L, L0 ≤ L → iter (exec (look t_laws_markText) L ir27_b0) ir27_k0 ir27_o0 ir27_r0 L (E_laws_markText_l1 sgm_) = R_laws_markText_l1 rho_ := by
  refine loop_ex (E := E_laws_markText_l1) (R := R_laws_markText_l1) (fun y => by first | (intro c; cases c) | (rcases y with y | y <;> (intro c; cases c)) | (rcases y with y | y | y <;> (intro c; cases c))) ?_ h
  clear h
  rintro ⟨k, out⟩ o_ h
  dsimp only [laws_markText_l1] at h
  rcases it_some h with ⟨hk2, h⟩ | ⟨hk2, h⟩
  · try simp only [go_sem, n1, n2, n3, n4] at hk2
    all_goals
    obtain ⟨hk3, h⟩ := ck_some h
    try simp only [go_sem, n1, n2, n3, n4, hk2] at hk3
    all_goals
    obtain ⟨hk4, h⟩ := ck_some h
    try simp only [go_sem, n1, n2, n3, n4, hk2, hk3] at hk4
    all_goals
    obtain rfl := so_some h
    refine ⟨0, fun L hL => ?_⟩
    simp only [go_sem, ir27, E_laws_markText_l1, R_laws_markText_l1, ir27_b0, ir27_k0, ir27_o0, ir27_r0, hk2, hk3, hk4]
  · try simp only [go_sem, n1, n2, n3, n4] at hk2
    all_goals
    obtain rfl := so_some h
    refine ⟨0, fun L hL => ?_⟩
    simp only [go_sem, ir27, E_laws_markText_l1, R_laws_markText_l1, ir27_b0, ir27_k0, ir27_o0, ir27_r0, hk2]

theorem Fs_laws_markText {k : Int} {y_ : (List UInt8)} (h : laws_markText k = some y_) : c_laws_markText.F [.int .i64 k] = ⟨true, .str y_, [.any]⟩ := by
  refine mkF_E rfl ?_
  dsimp only [laws_markText] at h
  rcases it_some h with ⟨hk1, h⟩ | ⟨hk1, h⟩
  · try simp only [go_sem, n1, n2, n3, n4] at hk1
    all_goals
    obtain rfl := so_some h
    refine ⟨0, fun L hL => ?_⟩
    simp only [go_sem, ir27, E_laws_markText_l1, R_laws_markText_l1, ir27_k0, ir27_o0, ir27_r0, hk1]
  · try simp only [go_sem, n1, n2, n3, n4] at hk1
    all_goals
    obtain ⟨y_5, hk5, h⟩ := bd_some h
    obtain ⟨Lhk5, ehk5⟩ := laws_markText_l1_ex hk5
    obtain ⟨hk6, h⟩ := ck_some h
    try simp only [go_sem, n1, n2, n3, n4, hk1] at hk6
    all_goals
    obtain rfl := so_some h
    refine ⟨Lhk5, fun L hL => ?_⟩
    have ehk5 := ehk5 L (by omega)
    try simp only [go_sem, E_laws_markText_l1, R_laws_markText_l1, ir27_k0, ir27_o0, ir27_r0] at ehk5
    simp only [go_sem, ir27, E_laws_markText_l1, R_laws_markText_l1, ir27_k0, ir27_o0, ir27_r0, hk1, hk6, ehk5]


def ir12_b0 : IR := .seq (.test false [
    ⟨.push, 6, none, .mov (.v 3)⟩,
    ⟨.push, 7, none, .mov (.v 0)⟩,
    ⟨.push, 8, none, .len false (.s 0)⟩,
    ⟨.push, 9, none, .bin false .lss (.s 2) (.s 0)⟩] (.s 0)
  (.skip)
  (.exit 0))
 (.seq (.block 1 (.seq (.region false [
      ⟨.push, 12, none, .mov (.v 0)⟩,
      ⟨.push, 13, none, .mov (.v 3)⟩,
      ⟨.push, 14, none, .mov (.v 1)⟩,
      ⟨.push, 15, none, .call 27 [(.s 0)]⟩,
      ⟨.push, 16, none, .ixAddr 1 (.s 3) (.s 2)⟩,
      ⟨.no, 0, none, .store 1 (.s 0) (.s 1)⟩])
   (.region false [
     ⟨.push, 17, none, .mov (.v 1)⟩,
     ⟨.push, 18, none, .bin false .add (.s 0) (.c (.int .i64 (1)))⟩,
     ⟨.var 1, 1, none, .mov (.s 0)⟩])))
 (.region false [
   ⟨.push, 10, none, .mov (.v 3)⟩,
   ⟨.push, 11, none, .bin false .add (.s 0) (.c (.int .i64 (1)))⟩,
   ⟨.var 3, 5, none, .mov (.s 0)⟩]))
def ir12_k0 : List Bool := [true, true, false, true]
def ir12_o0 : List Bool := [true, true, false, false]
def ir12_r0 : List Bool := [true, false, true, false]
def ir12_v : List Nat := [0, 1, 4, 5]
def ir12 : AFn := ⟨2, 4, .seq (.region false [
    ⟨.var 2, 4, none, .mov (.c (.int .i64 (0)))⟩])
 (.seq (.seq (.region false [
     ⟨.var 3, 5, none, .mov (.c (.int .i64 (0)))⟩])
  (.block 0 (.loop ir12_k0 ir12_o0 ir12_r0 ir12_b0)))
 (.seq (.region false [
    ⟨.push, 19, none, .mov (.v 1)⟩,
    ⟨.var 2, 4, none, .mov (.s 0)⟩])
 (.ret))), [.t 2]⟩
noncomputable def t_laws_markStringS : List (Nat × Ctr) := [(27, c_laws_markText)]
theorem lk_laws_markStringS_27 : look t_laws_markStringS 27 = some c_laws_markText := rfl
noncomputable def c_laws_markStringS : Ctr := mkN t_laws_markStringS ir12 [.io, .bor]
theorem s_laws_markStringS : Sound Try.prog 12 c_laws_markStringS := mkN_sound _ (snd_cons s_laws_markText snd_nil) (by kernel_rfl : chkFn Try.prog 12 ir12 ir12_v = true)
theorem M_laws_markStringS : c_laws_markStringS.modes = [.io, .bor] := rfl
theorem Fl_laws_markStringS : c_laws_markStringS.flat = false := rfl
attribute [go_sem] M_laws_markStringS Fl_laws_markStringS
attribute [go_sem] lk_laws_markStringS_27
def E_laws_markStringS_l1  : ((List (List UInt8)) × Int × Int) → St
  | (a, k, i) => ⟨[.own 31, .int .i64 k, .any, .int .i64 i], [], [(31, ⟨1, List.map AV.str a⟩)], true⟩
def R_laws_markStringS_l1  (y : (List (List UInt8)) × Int) : Res := (.exit 0, ⟨[.own 31, .int .i64 y.2, .any, .any], [], [(31, ⟨1, List.map AV.str y.1⟩)], true⟩)
theorem laws_markStringS_l1_ex  {sgm_ : (List (List UInt8)) × Int × Int} {rho_ : (List (List UInt8)) × Int} (h : whileE (laws_markStringS_l1) sgm_ = some rho_) : ∃ L0, ∀ L, L0 ≤ L → iter (exec (look t_laws_markStringS) L ir12_b0) ir12_k0 ir12_o0 ir12_r0 L (E_laws_markStringS_l1 sgm_) = R_laws_markStringS_l1 rho_ := by
  refine loop_ex (E := E_laws_markStringS_l1) (R := R_laws_markStringS_l1) (fun y => by first | (intro c; cases c) | (rcases y with y | y <;> (intro c; cases c)) | (rcases y with y | y | y <;> (intro c; cases c))) ?_ h
  clear h
  rintro ⟨a, k, i⟩ o_ h
  dsimp only [laws_markStringS_l1] at h
  rcases it_some h with ⟨hk1, h⟩ | ⟨hk1, h⟩
  · try simp only [go_sem, n1, n2, n3, n4] at hk1
    all_goals
    obtain ⟨y_2, hk2, h⟩ := bd_some h
    have fhk2 := Fs_laws_markText hk2
    try simp only [go_sem] at fhk2
    obtain ⟨hk3, h⟩ := ck_some h
    have lhk3 := ix_lt hk3
    have xhk3 := getD_mapD AV.str a lhk3
    try simp only [go_sem] at lhk3
    try simp only [go_sem] at xhk3
    try simp only [go_sem, n1, n2, n3, n4, hk1] at hk3
    all_goals
    obtain rfl := so_some h
    refine ⟨0, fun L hL => ?_⟩
    simp only [go_sem, ir12, E_laws_markStringS_l1, R_laws_markStringS_l1, ir12_b0, ir12_k0, ir12_o0, ir12_r0, hk1, fhk2, hk3, lhk3, xhk3]
  · try simp only [go_sem, n1, n2, n3, n4] at hk1
    all_goals
    obtain rfl := so_some h
    refine ⟨0, fun L hL => ?_⟩
    simp only [go_sem, ir12, E_laws_markStringS_l1, R_laws_markStringS_l1, ir12_b0, ir12_k0, ir12_o0, ir12_r0, hk1]

theorem Fs_laws_markStringS {a : List (List UInt8)} {k : Int} {y_ : Int × (List (List UInt8))} (h : laws_markStringS a k = some y_) : c_laws_markStringS.F [.fresh 1 (List.map AV.str a), .int .i64 k] = ⟨true, .int .i64 y_.1, [.fresh 1 (List.map AV.str y_.2), .any]⟩ := by
  refine mkN_E ?_
  dsimp only [laws_markStringS] at h
  obtain ⟨y_4, hk4, h⟩ := bd_some h
  obtain ⟨Lhk4, ehk4⟩ := laws_markStringS_l1_ex hk4
  obtain ⟨hk5, h⟩ := ck_some h
  try simp only [go_sem, n1, n2, n3, n4] at hk5
  all_goals
  obtain rfl := so_some h
  refine ⟨Lhk4, fun L hL => ?_⟩
  have ehk4 := ehk4 L (by omega)
  try simp only [go_sem, E_laws_markStringS_l1, R_laws_markStringS_l1, ir12_k0, ir12_o0, ir12_r0] at ehk4
  simp only [go_sem, ir12, E_laws_markStringS_l1, R_laws_markStringS_l1, ir12_k0, ir12_o0, ir12_r0, hk5, ehk4]


def ir13_b0 : IR := .seq (.test false [
    ⟨.push, 6, none, .mov (.v 3)⟩,
    ⟨.push, 7, none, .mov (.v 0)⟩,
    ⟨.push, 8, none, .len false (.s 0)⟩,
    ⟨.push, 9, none, .bin false .lss (.s 2) (.s 0)⟩] (.s 0)
  (.skip)
  (.exit 0))
 (.seq (.block 1 (.seq (.anyo 7 [
      ⟨.slot 0, 12, none, .mov (.v 0)⟩,
      ⟨.slot 1, 13, none, .mov (.v 3)⟩,
      ⟨.slot 2, 14, none, .ixAddr 1 (.s 0) (.s 1)⟩,
      ⟨.slot 3, 15, none, .load false 1 (.s 2)⟩,
      ⟨.slot 4, 16, none, .mov (.v 1)⟩,
      ⟨.slot 5, 17, none, .callp 27 [(.s 4)]⟩,
      ⟨.slot 6, 18, none, .bin false .neq (.s 3) (.s 5)⟩] [] (.cond (.s 6)
    (.seq (.region false [
        ⟨.var 2, 4, none, .mov (.c (.int .i64 (-1)))⟩])
     (.ret))
    (.skip)))
   (.region false [
     ⟨.push, 19, none, .mov (.v 1)⟩,
     ⟨.push, 20, none, .bin false .add (.s 0) (.c (.int .i64 (1)))⟩,
     ⟨.var 1, 1, none, .mov (.s 0)⟩])))
 (.region false [
   ⟨.push, 10, none, .mov (.v 3)⟩,
   ⟨.push, 11, none, .bin false .add (.s 0) (.c (.int .i64 (1)))⟩,
   ⟨.var 3, 5, none, .mov (.s 0)⟩]))
def ir13_k0 : List Bool := [true, true, false, true]
def ir13_o0 : List Bool := [false, true, false, false]
def ir13_r0 : List Bool := [false, false, true, false]
def ir13_v : List Nat := [0, 1, 4, 5]
def ir13 : AFn := ⟨2, 4, .seq (.region false [
    ⟨.var 2, 4, none, .mov (.c (.int .i64 (0)))⟩])
 (.seq (.seq (.region false [
     ⟨.var 3, 5, none, .mov (.c (.int .i64 (0)))⟩])
  (.block 0 (.loop ir13_k0 ir13_o0 ir13_r0 ir13_b0)))
 (.seq (.region false [
    ⟨.push, 21, none, .mov (.v 1)⟩,
    ⟨.var 2, 4, none, .mov (.s 0)⟩])
 (.ret))), [.t 2]⟩
noncomputable def t_laws_heldStringS : List (Nat × Ctr) := [(27, c_laws_markText)]
theorem lk_laws_heldStringS_27 : look t_laws_heldStringS 27 = some c_laws_markText := rfl
noncomputable def c_laws_heldStringS : Ctr := mkF t_laws_heldStringS ir13 [.bor, .bor]
theorem s_laws_heldStringS : Sound Try.prog 13 c_laws_heldStringS := mkF_sound _ rfl (snd_cons s_laws_markText snd_nil) (by kernel_rfl : chkFn Try.prog 13 ir13 ir13_v = true)
theorem M_laws_heldStringS : c_laws_heldStringS.modes = [.bor, .bor] := rfl
theorem Fl_laws_heldStringS : c_laws_heldStringS.flat = true := rfl
attribute [go_sem] M_laws_heldStringS Fl_laws_heldStringS
attribute [go_sem] lk_laws_heldStringS_27
def E_laws_heldStringS_l1 (a : List (List UInt8)) : (Int × Int) → St
  | (k, i) => ⟨[.sl 1 (List.map AV.str a), .int .i64 k, .any, .int .i64 i], [], [], true⟩
def R_laws_heldStringS_l1 (a : List (List UInt8)) : (Int ⊕ Int) → Res
  | .inl y => (.exit 0, ⟨[.any, .int .i64 y, .any, .any], [], [], true⟩)
  | .inr y => (.ret, ⟨[.any, .any, .int .i64 y, .any], [], [], true⟩)
theorem laws_heldStringS_l1_ex {a : List (List UInt8)} {sgm_ : Int × Int} {rho_ : Int ⊕ Int} (h : whileE (laws_heldStringS_l1 a) sgm_ = some rho_) : ∃ L0, ∀ L, L0 ≤ L → iter (exec (look t_laws_heldStringS) L ir13_b0) ir13_k0 ir13_o0 ir13_r0 L (E_laws_heldStringS_l1 a sgm_) = R_laws_heldStringS_l1 a rho_ := by
  refine loop_ex (E := E_laws_heldStringS_l1 a) (R := R_laws_heldStringS_l1 a) (fun y => by first | (intro c; cases c) | (rcases y with y | y <;> (intro c; cases c)) | (rcases y with y | y | y <;> (intro c; cases c))) ?_ h
  clear h
  rintro ⟨k, i⟩ o_ h
  dsimp only [laws_heldStringS_l1] at h
  rcases it_some h with ⟨hk1, h⟩ | ⟨hk1, h⟩
  · try simp only [go_sem, n1, n2, n3, n4] at hk1
    all_goals
    obtain ⟨hk2, h⟩ := ck_some h
    have lhk2 := ix_lt hk2
    have xhk2 := getD_mapD AV.str a lhk2
    try simp only [go_sem] at lhk2
    try simp only [go_sem] at xhk2
    try simp only [go_sem, n1, n2, n3, n4, hk1] at hk2
    all_goals
    obtain ⟨y_3, hk3, h⟩ := bd_some h
    have fhk3 := Fs_laws_markText hk3
    try simp only [go_sem] at fhk3
    rcases it_some h with ⟨hk4, h⟩ | ⟨hk4, h⟩
    · try simp only [go_sem, n1, n2, n3, n4, hk1, hk2] at hk4
      all_goals
      obtain rfl := so_some h
      refine ⟨0, fun L hL => ?_⟩
      simp only [go_sem, ir13, E_laws_heldStringS_l1, R_laws_heldStringS_l1, ir13_b0, ir13_k0, ir13_o0, ir13_r0, hk1, hk2, lhk2, xhk2, fhk3, hk4]
    · try simp only [go_sem, n1, n2, n3, n4, hk1, hk2] at hk4
      all_goals
      obtain rfl := so_some h
      refine ⟨0, fun L hL => ?_⟩
      simp only [go_sem, ir13, E_laws_heldStringS_l1, R_laws_heldStringS_l1, ir13_b0, ir13_k0, ir13_o0, ir13_r0, hk1, hk2, lhk2, xhk2, fhk3, hk4]
  · try simp only [go_sem, n1, n2, n3, n4] at hk1
    all_goals
    obtain rfl := so_some h
    refine ⟨0, fun L hL => ?_⟩
    simp only [go_sem, ir13, E_laws_heldStringS_l1, R_laws_heldStringS_l1, ir13_b0, ir13_k0, ir13_o0, ir13_r0, hk1]

theorem Fs_laws_heldStringS {a : List (List UInt8)} {k : Int} {y_ : Int} (h : laws_heldStringS a k = some y_) : c_laws_heldStringS.F [.sl 1 (List.map AV.str a), .int .i64 k] = ⟨true, .int .i64 y_, [.any, .any]⟩ := by
  refine mkF_E rfl ?_
  dsimp only [laws_heldStringS] at h
  obtain ⟨y_5, hk5, h⟩ := bd_some h
  obtain ⟨Lhk5, ehk5⟩ := laws_heldStringS_l1_ex hk5
  rcases y_5 with y_5a | y_5b
  · dsimp only at h
    obtain rfl := so_some h
    refine ⟨Lhk5, fun L hL => ?_⟩
    have ehk5 := ehk5 L (by omega)
    try simp only [go_sem, E_laws_heldStringS_l1, R_laws_heldStringS_l1, ir13_k0, ir13_o0, ir13_r0] at ehk5
    simp only [go_sem, ir13, E_laws_heldStringS_l1, R_laws_heldStringS_l1, ir13_k0, ir13_o0, ir13_r0, ehk5]
  · dsimp only at h
    obtain rfl := so_some h
    refine ⟨Lhk5, fun L hL => ?_⟩
    have ehk5 := ehk5 L (by omega)
    try simp only [go_sem, E_laws_heldStringS_l1, R_laws_heldStringS_l1, ir13_k0, ir13_o0, ir13_r0] at ehk5
    simp only [go_sem, ir13, E_laws_heldStringS_l1, R_laws_heldStringS_l1, ir13_k0, ir13_o0, ir13_r0, ehk5]


def ir4_v : List Nat := [0, 1, 2, 3, 4, 5]
def ir4 : AFn := ⟨0, 6, .seq (.region false [
    ⟨.var 0, 0, none, .mov (.c (.bool false))⟩])
 (.seq (.region false [
    ⟨.push, 6, none, .call 9 []⟩,
    ⟨.var 1, 1, none, .mov (.s 0)⟩])
 (.seq (.region false [
    ⟨.push, 7, none, .call 10 []⟩,
    ⟨.var 2, 2, none, .mov (.s 0)⟩])
 (.seq (.test false [
    ⟨.push, 8, none, .mov (.v 2)⟩,
    ⟨.push, 9, none, .mov (.v 1)⟩,
    ⟨.push, 10, none, .call 11 [(.s 1), (.s 0)]⟩,
    ⟨.push, 11, none, .un .not (.s 0)⟩] (.s 0)
  (.seq (.region false [
      ⟨.var 0, 0, none, .mov (.c (.bool false))⟩])
   (.ret))
  (.skip))
 (.seq (.region false [
    ⟨.var 3, 3, none, .mov (.c (.int .i64 (1)))⟩])
 (.seq (.region false [
    ⟨.push, 12, none, .mov (.v 2)⟩,
    ⟨.push, 13, none, .mov (.v 3)⟩,
    ⟨.push, 14, none, .call 12 [(.s 1), (.s 0)]⟩,
    ⟨.var 3, 3, none, .mov (.s 0)⟩])
 (.seq (.region false [
    ⟨.var 4, 4, none, .mov (.c (.int .i64 (1)))⟩])
 (.seq (.region false [
    ⟨.push, 15, none, .mov (.v 2)⟩,
    ⟨.push, 16, none, .mov (.v 4)⟩,
    ⟨.push, 17, none, .call 13 [(.s 1), (.s 0)]⟩,
    ⟨.var 4, 4, none, .mov (.s 0)⟩])
 (.seq (.test false [
    ⟨.push, 18, none, .mov (.v 4)⟩,
    ⟨.push, 19, none, .bin false .lss (.s 0) (.c (.int .i64 (0)))⟩] (.s 0)
  (.seq (.region false [
      ⟨.var 0, 0, none, .mov (.c (.bool false))⟩])
   (.ret))
  (.skip))
 (.seq (.test false [
    ⟨.push, 20, none, .mov (.v 4)⟩,
    ⟨.push, 21, none, .mov (.v 3)⟩,
    ⟨.push, 22, none, .bin false .neq (.s 1) (.s 0)⟩] (.s 0)
  (.seq (.region false [
      ⟨.var 0, 0, none, .mov (.c (.bool false))⟩])
   (.ret))
  (.skip))
 (.seq (.region false [
    ⟨.push, 23, none, .call 10 []⟩,
    ⟨.var 5, 5, none, .mov (.s 0)⟩])
 (.seq (.test false [
    ⟨.push, 24, none, .mov (.v 5)⟩,
    ⟨.push, 25, none, .mov (.v 1)⟩,
    ⟨.push, 26, none, .call 11 [(.s 1), (.s 0)]⟩,
    ⟨.push, 27, none, .un .not (.s 0)⟩] (.s 0)
  (.seq (.region false [
      ⟨.var 0, 0, none, .mov (.c (.bool false))⟩])
   (.ret))
  (.skip))
 (.seq (.region false [
    ⟨.var 4, 4, none, .mov (.c (.int .i64 (1)))⟩])
 (.seq (.region false [
    ⟨.push, 28, none, .mov (.v 2)⟩,
    ⟨.push, 29, none, .mov (.v 4)⟩,
    ⟨.push, 30, none, .call 13 [(.s 1), (.s 0)]⟩,
    ⟨.var 4, 4, none, .mov (.s 0)⟩])
 (.seq (.test false [
    ⟨.push, 31, none, .mov (.v 4)⟩,
    ⟨.push, 32, none, .bin false .lss (.s 0) (.c (.int .i64 (0)))⟩] (.s 0)
  (.seq (.region false [
      ⟨.var 0, 0, none, .mov (.c (.bool false))⟩])
   (.ret))
  (.skip))
 (.seq (.test false [
    ⟨.push, 33, none, .mov (.v 4)⟩,
    ⟨.push, 34, none, .mov (.v 3)⟩,
    ⟨.push, 35, none, .bin false .neq (.s 1) (.s 0)⟩] (.s 0)
  (.seq (.region false [
      ⟨.var 0, 0, none, .mov (.c (.bool false))⟩])
   (.ret))
  (.skip))
 (.seq (.region false [
    ⟨.var 0, 0, none, .mov (.c (.bool true))⟩])
 (.ret))))))))))))))))), [.t 0]⟩
noncomputable def t_laws_FnExactDeskWords : List (Nat × Ctr) := [(9, c_spec_DeskWords), (10, c_impl_DeskWords), (11, c_laws_eqStringS), (12, c_laws_markStringS), (13, c_laws_heldStringS)]
theorem lk_laws_FnExactDeskWords_9 : look t_laws_FnExactDeskWords 9 = some c_spec_DeskWords := rfl
theorem lk_laws_FnExactDeskWords_10 : look t_laws_FnExactDeskWords 10 = some c_impl_DeskWords := rfl
theorem lk_laws_FnExactDeskWords_11 : look t_laws_FnExactDeskWords 11 = some c_laws_eqStringS := rfl
theorem lk_laws_FnExactDeskWords_12 : look t_laws_FnExactDeskWords 12 = some c_laws_markStringS := rfl
theorem lk_laws_FnExactDeskWords_13 : look t_laws_FnExactDeskWords 13 = some c_laws_heldStringS := rfl
noncomputable def c_laws_FnExactDeskWords : Ctr := mkF t_laws_FnExactDeskWords ir4 []
theorem s_laws_FnExactDeskWords : Sound Try.prog 4 c_laws_FnExactDeskWords := mkF_sound _ rfl (snd_cons s_spec_DeskWords (snd_cons s_impl_DeskWords (snd_cons s_laws_eqStringS (snd_cons s_laws_markStringS (snd_cons s_laws_heldStringS snd_nil))))) (by kernel_rfl : chkFn Try.prog 4 ir4 ir4_v = true)
theorem M_laws_FnExactDeskWords : c_laws_FnExactDeskWords.modes = [] := rfl
theorem Fl_laws_FnExactDeskWords : c_laws_FnExactDeskWords.flat = true := rfl
attribute [go_sem] M_laws_FnExactDeskWords Fl_laws_FnExactDeskWords
attribute [go_sem] lk_laws_FnExactDeskWords_9 lk_laws_FnExactDeskWords_10 lk_laws_FnExactDeskWords_11 lk_laws_FnExactDeskWords_12 lk_laws_FnExactDeskWords_13
theorem Fs_laws_FnExactDeskWords  {y_ : Bool} (h : laws_FnExactDeskWords = some y_) : c_laws_FnExactDeskWords.F [] = ⟨true, .bool y_, []⟩ := by
  refine mkF_E rfl ?_
  dsimp only [laws_FnExactDeskWords] at h
  obtain ⟨y_1, hk1, h⟩ := bd_some h
  have fhk1 := Fs_spec_DeskWords hk1
  try simp only [go_sem] at fhk1
  obtain ⟨y_2, hk2, h⟩ := bd_some h
  have fhk2 := Fs_impl_DeskWords hk2
  try simp only [go_sem] at fhk2
  obtain ⟨y_3, hk3, h⟩ := bd_some h
  have fhk3 := Fs_laws_eqStringS hk3
  try simp only [go_sem] at fhk3
  rcases it_some h with ⟨hk4, h⟩ | ⟨hk4, h⟩
  · try simp only [go_sem, n1, n2, n3, n4] at hk4
    all_goals
    obtain rfl := so_some h
    refine ⟨0, fun L hL => ?_⟩
    simp only [go_sem, ir4, fhk1, fhk2, fhk3, hk4]
  · try simp only [go_sem, n1, n2, n3, n4] at hk4
    all_goals
    obtain ⟨y_5, hk5, h⟩ := bd_some h
    have fhk5 := Fs_laws_markStringS hk5
    try simp only [go_sem] at fhk5
    obtain ⟨y_6, hk6, h⟩ := bd_some h
    have fhk6 := Fs_laws_heldStringS hk6
    try simp only [go_sem] at fhk6
    rcases it_some h with ⟨hk7, h⟩ | ⟨hk7, h⟩
    · try simp only [go_sem, n1, n2, n3, n4, hk4] at hk7
      all_goals
      obtain rfl := so_some h
      refine ⟨0, fun L hL => ?_⟩
      simp only [go_sem, ir4, fhk1, fhk2, fhk3, hk4, fhk5, fhk6, hk7]
    · try simp only [go_sem, n1, n2, n3, n4, hk4] at hk7
      all_goals
      rcases it_some h with ⟨hk8, h⟩ | ⟨hk8, h⟩
      · try simp only [go_sem, n1, n2, n3, n4, hk4, hk7] at hk8
        all_goals
        obtain rfl := so_some h
        refine ⟨0, fun L hL => ?_⟩
        simp only [go_sem, ir4, fhk1, fhk2, fhk3, hk4, fhk5, fhk6, hk7, hk8]
      · try simp only [go_sem, n1, n2, n3, n4, hk4, hk7] at hk8
        all_goals
        obtain rfl := so_some h
        refine ⟨0, fun L hL => ?_⟩
        simp only [go_sem, ir4, fhk1, fhk2, fhk3, hk4, fhk5, fhk6, hk7, hk8]


end Go.Proofs.Ytkapngmboghaeaa
