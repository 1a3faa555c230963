/- Codes and contracts of the functions that RC reaches, and that their typed forms say what they do. No condition. -/
import Derived.Test.YtgbopjgnggdhkaaDoorEngLR
import Derived.Test.YtgbopjgnggdhkaaDoorRows
import Derived.WalkKit
namespace Go.Proofs.YtgbopjgnggdhkaaDoor
open Go Go.RowKit
set_option linter.unusedVariables false
set_option linter.unusedSimpArgs false
set_option maxRecDepth 10000

def ir5_v : List Nat := [0, 2, 3]
def ir5 : AFn := ⟨1, 3, .seq (.region false [
    ⟨.var 1, 2, none, .mov (.c (.int .i64 (0)))⟩,
    ⟨.var 2, 3, none, .mov (.c (.int .i64 (0)))⟩])
 (.seq (.test false [
    ⟨.push, 4, none, .mov (.v 0)⟩,
    ⟨.push, 5, none, .len true (.s 0)⟩,
    ⟨.push, 6, none, .bin false .gtr (.s 0) (.c (.int .i64 (4000)))⟩] (.s 0)
  (.seq (.region false [
      ⟨.var 1, 2, none, .mov (.c (.int .i64 (0)))⟩,
      ⟨.var 2, 3, none, .mov (.c (.int .i64 (5)))⟩])
   (.ret))
  (.skip))
 (.seq (.region false [
    ⟨.push, 7, none, .mov (.v 0)⟩,
    ⟨.push, 8, none, .call 9 [(.s 0)]⟩,
    ⟨.push, 9, none, .nilck (.s 0)⟩,
    ⟨.push, 10, none, .fldAddr 1 (.s 0)⟩,
    ⟨.push, 11, none, .load false 1 (.s 0)⟩,
    ⟨.var 1, 2, none, .mov (.s 0)⟩,
    ⟨.var 2, 3, none, .mov (.c (.int .i64 (0)))⟩])
 (.ret))), [.t 1, .t 2]⟩
noncomputable def t_spec_CheckLog : List (Nat × Ctr) := [(9, c_spec_l27Read)]
theorem lk_spec_CheckLog_9 : look t_spec_CheckLog 9 = some c_spec_l27Read := rfl
noncomputable def c_spec_CheckLog : Ctr := mkF t_spec_CheckLog ir5 [.bor]
theorem s_spec_CheckLog : Sound Tryd.prog 5 c_spec_CheckLog := mkF_sound _ rfl (snd_cons s_spec_l27Read snd_nil) (by kernel_rfl : chkFn Tryd.prog 5 ir5 ir5_v = true)
theorem M_spec_CheckLog : c_spec_CheckLog.modes = [.bor] := rfl
theorem Fl_spec_CheckLog : c_spec_CheckLog.flat = true := rfl
attribute [go_sem] M_spec_CheckLog Fl_spec_CheckLog
attribute [go_sem] lk_spec_CheckLog_9
theorem Fs_spec_CheckLog {log : List UInt8} {y_ : Int × Int} (h : spec_CheckLog log = some y_) : c_spec_CheckLog.F [.str log] = ⟨true, .tup [.int .i64 y_.1, .int .i64 y_.2], [.any]⟩ := by
  refine mkF_E rfl ?_
  dsimp only [spec_CheckLog] at h
  rcases it_some h with ⟨hk1, h⟩ | ⟨hk1, h⟩
  · try simp only [go_sem, n1, n2, n3, n4] at hk1
    all_goals
    obtain rfl := so_some h
    refine ⟨0, fun L hL => ?_⟩
    simp only [go_sem, ir5, hk1]
  · try simp only [go_sem, n1, n2, n3, n4] at hk1
    all_goals
    obtain ⟨y_2, hk2, h⟩ := bd_some h
    have fhk2 := Fs_spec_l27Read hk2
    try simp only [go_sem, hk1] at fhk2
    obtain rfl := so_some h
    refine ⟨0, fun L hL => ?_⟩
    simp only [go_sem, ir5, hk1, fhk2]


theorem s_hCut : Sound Tryd.prog 12 c_hCut := hCut_is

theorem s_hSplit : Sound Tryd.prog 23 c_hSplit := hSplit_is

theorem s_hRdDec : Sound Tryd.prog 24 c_hRdDec := hRdDec_is

def ir37_v : List Nat := [0, 1, 2, 6]
def ir37 : AFn := ⟨3, 4, .seq (.region false [
    ⟨.var 3, 6, none, .mov (.c (.bool false))⟩])
 (.seq (.region false [
    ⟨.push, 7, none, .mov (.v 0)⟩,
    ⟨.push, 8, none, .mov (.v 1)⟩,
    ⟨.push, 9, none, .bin false .geq (.s 1) (.s 0)⟩,
    ⟨.push, 10, none, .mov (.s 0)⟩,
    ⟨.push, 11, (some ((.s 0), true)), .mov (.v 0)⟩,
    ⟨.push, 12, (some ((.s 1), true)), .mov (.v 2)⟩,
    ⟨.push, 13, (some ((.s 2), true)), .bin false .leq (.s 1) (.s 0)⟩,
    ⟨.push, 14, none, .pick (.s 3) (.s 0) (.c (.bool false))⟩,
    ⟨.var 3, 6, none, .mov (.s 0)⟩])
 (.ret)), [.t 3]⟩
noncomputable def t_impl_in : List (Nat × Ctr) := []
noncomputable def c_impl_in : Ctr := mkF t_impl_in ir37 [.bor, .bor, .bor]
theorem s_impl_in : Sound Tryd.prog 37 c_impl_in := mkF_sound _ rfl snd_nil (by kernel_rfl : chkFn Tryd.prog 37 ir37 ir37_v = true)
theorem M_impl_in : c_impl_in.modes = [.bor, .bor, .bor] := rfl
theorem Fl_impl_in : c_impl_in.flat = true := rfl
attribute [go_sem] M_impl_in Fl_impl_in
theorem Fs_impl_in {n : Int} {low : Int} {high : Int} {y_ : Bool} (h : impl_in n low high = some y_) : c_impl_in.F [.int .i64 n, .int .i64 low, .int .i64 high] = ⟨true, .bool y_, [.any, .any, .any]⟩ := by
  refine mkF_E rfl ?_
  dsimp only [impl_in] at h
  obtain rfl := so_some h
  refine ⟨0, fun L hL => ?_⟩
  simp only [go_sem, ir37]


def ir38_b0 : IR := .seq (.region false [
    ⟨.var 7, 17, none, .bin false .lss (.v 6) (.v 5)⟩])
 (.seq (.cond (.v 7) (.skip)
  (.exit 0))
 (.seq (.block 1 (.seq (.region false [
      ⟨.push, 18, none, .mov (.v 6)⟩,
      ⟨.var 2, 3, none, .mov (.s 0)⟩])
   (.seq (.region false [
      ⟨.push, 19, none, .mov (.v 0)⟩,
      ⟨.push, 20, none, .mov (.v 2)⟩,
      ⟨.push, 21, none, .ixStr (.s 1) (.s 0)⟩,
      ⟨.push, 22, none, .bin false .geq (.s 0) (.c (.int .u8 (97)))⟩,
      ⟨.push, 23, none, .mov (.s 0)⟩,
      ⟨.push, 24, (some ((.s 0), true)), .mov (.v 0)⟩,
      ⟨.push, 25, (some ((.s 1), true)), .mov (.v 2)⟩,
      ⟨.push, 26, (some ((.s 2), true)), .ixStr (.s 1) (.s 0)⟩,
      ⟨.push, 27, (some ((.s 3), true)), .bin false .leq (.s 0) (.c (.int .u8 (122)))⟩,
      ⟨.push, 28, none, .pick (.s 4) (.s 0) (.c (.bool false))⟩,
      ⟨.var 3, 4, none, .mov (.s 0)⟩])
   (.seq (.region false [
      ⟨.push, 29, none, .mov (.v 0)⟩,
      ⟨.push, 30, none, .mov (.v 2)⟩,
      ⟨.push, 31, none, .ixStr (.s 1) (.s 0)⟩,
      ⟨.push, 32, none, .bin false .geq (.s 0) (.c (.int .u8 (48)))⟩,
      ⟨.push, 33, none, .mov (.s 0)⟩,
      ⟨.push, 34, (some ((.s 0), true)), .mov (.v 0)⟩,
      ⟨.push, 35, (some ((.s 1), true)), .mov (.v 2)⟩,
      ⟨.push, 36, (some ((.s 2), true)), .ixStr (.s 1) (.s 0)⟩,
      ⟨.push, 37, (some ((.s 3), true)), .bin false .leq (.s 0) (.c (.int .u8 (57)))⟩,
      ⟨.push, 38, none, .pick (.s 4) (.s 0) (.c (.bool false))⟩,
      ⟨.push, 39, none, .mov (.s 0)⟩,
      ⟨.push, 40, (some ((.s 0), false)), .mov (.v 0)⟩,
      ⟨.push, 41, (some ((.s 1), false)), .mov (.v 2)⟩,
      ⟨.push, 42, (some ((.s 2), false)), .ixStr (.s 1) (.s 0)⟩,
      ⟨.push, 43, (some ((.s 3), false)), .bin false .eql (.s 0) (.c (.int .u8 (45)))⟩,
      ⟨.push, 44, none, .pick (.s 4) (.c (.bool true)) (.s 0)⟩,
      ⟨.var 4, 5, none, .mov (.s 0)⟩])
   (.test false [
     ⟨.push, 45, none, .mov (.v 3)⟩,
     ⟨.push, 46, none, .un .not (.s 0)⟩,
     ⟨.push, 47, none, .mov (.s 0)⟩,
     ⟨.push, 48, (some ((.s 0), true)), .mov (.v 2)⟩,
     ⟨.push, 49, (some ((.s 1), true)), .bin false .eql (.s 0) (.c (.int .i64 (0)))⟩,
     ⟨.push, 50, (some ((.s 2), true)), .mov (.s 0)⟩,
     ⟨.push, 51, (some ((.s 0), false)), .mov (.v 4)⟩,
     ⟨.push, 52, (some ((.s 1), false)), .un .not (.s 0)⟩,
     ⟨.push, 53, (some ((.s 5), true)), .pick (.s 2) (.c (.bool true)) (.s 0)⟩,
     ⟨.push, 54, none, .pick (.s 6) (.s 0) (.c (.bool false))⟩] (.s 0)
   (.seq (.region false [
       ⟨.var 1, 2, none, .mov (.c (.bool false))⟩])
    (.ret))
   (.skip))))))
 (.region false [
   ⟨.push, 55, none, .bin false .add (.v 6) (.c (.int .i64 (1)))⟩,
   ⟨.var 6, 16, none, .mov (.s 0)⟩])))
def ir38_k0 : List Bool := [true, false, false, false, false, true, true, false]
def ir38_o0 : List Bool := [false, false, false, false, false, false, false, false]
def ir38_r0 : List Bool := [false, true, false, false, false, false, false, false]
def ir38_v : List Nat := [0, 2, 3, 4, 5, 15, 16, 17]
def ir38 : AFn := ⟨1, 8, .seq (.region false [
    ⟨.var 1, 2, none, .mov (.c (.bool false))⟩])
 (.seq (.test false [
    ⟨.push, 6, none, .mov (.v 0)⟩,
    ⟨.push, 7, none, .len true (.s 0)⟩,
    ⟨.push, 8, none, .bin false .lss (.s 0) (.c (.int .i64 (1)))⟩,
    ⟨.push, 9, none, .mov (.s 0)⟩,
    ⟨.push, 10, (some ((.s 0), false)), .mov (.v 0)⟩,
    ⟨.push, 11, (some ((.s 1), false)), .len true (.s 0)⟩,
    ⟨.push, 12, (some ((.s 2), false)), .bin false .gtr (.s 0) (.c (.int .i64 (12)))⟩,
    ⟨.push, 13, none, .pick (.s 3) (.c (.bool true)) (.s 0)⟩] (.s 0)
  (.seq (.region false [
      ⟨.var 1, 2, none, .mov (.c (.bool false))⟩])
   (.ret))
  (.skip))
 (.seq (.seq (.region false [
     ⟨.push, 14, none, .mov (.v 0)⟩,
     ⟨.var 5, 15, none, .len true (.s 0)⟩,
     ⟨.var 6, 16, none, .mov (.c (.int .i64 (0)))⟩])
  (.block 0 (.loop ir38_k0 ir38_o0 ir38_r0 ir38_b0)))
 (.seq (.region false [
    ⟨.var 1, 2, none, .mov (.c (.bool true))⟩])
 (.ret)))), [.t 1]⟩
noncomputable def t_impl_IsName : List (Nat × Ctr) := []
noncomputable def c_impl_IsName : Ctr := mkF t_impl_IsName ir38 [.bor]
theorem s_impl_IsName : Sound Tryd.prog 38 c_impl_IsName := mkF_sound _ rfl snd_nil (by kernel_rfl : chkFn Tryd.prog 38 ir38 ir38_v = true)
theorem M_impl_IsName : c_impl_IsName.modes = [.bor] := rfl
theorem Fl_impl_IsName : c_impl_IsName.flat = true := rfl
attribute [go_sem] M_impl_IsName Fl_impl_IsName
def E_impl_IsName_l1 (s_ : List UInt8) (t15 : Int) : Int → St
  | t16 => ⟨[.str s_, .any, .any, .any, .any, .int .i64 t15, .int .i64 t16, .any], [], [], true⟩
def R_impl_IsName_l1 (s_ : List UInt8) (t15 : Int) : (Unit ⊕ Bool) → Res
  | .inl y => (.exit 0, ⟨[.any, .any, .any, .any, .any, .any, .any, .any], [], [], true⟩)
  | .inr y => (.ret, ⟨[.any, .bool y, .any, .any, .any, .any, .any, .any], [], [], true⟩)
theorem impl_IsName_l1_ex {s_ : List UInt8} {t15 : Int} {sgm_ : Int} {rho_ : Unit ⊕ Bool} (h : whileE (impl_IsName_l1 s_ t15) sgm_ = some rho_) : ∃ L0, ∀ L, L0 ≤ L → iter (exec (look t_impl_IsName) L ir38_b0) ir38_k0 ir38_o0 ir38_r0 L (E_impl_IsName_l1 s_ t15 sgm_) = R_impl_IsName_l1 s_ t15 rho_ := by
  refine loop_ex (E := E_impl_IsName_l1 s_ t15) (R := R_impl_IsName_l1 s_ t15) (fun y => by first | (intro c; cases c) | (rcases y with y | y <;> (intro c; cases c)) | (rcases y with y | y | y <;> (intro c; cases c))) ?_ h
  clear h
  intro t16 o_ h
  dsimp only [impl_IsName_l1] at h
  rcases it_some h with ⟨hk2, h⟩ | ⟨hk2, h⟩
  · try simp only [go_sem, n1, n2, n3, n4] at hk2
    all_goals
    obtain ⟨hk3, h⟩ := ck_some h
    try simp only [go_sem, n1, n2, n3, n4, hk2] at hk3
    all_goals
    rcases it_some h with ⟨hk4, h⟩ | ⟨hk4, h⟩
    · try simp only [go_sem, n1, n2, n3, n4, hk2, hk3] at hk4
      all_goals
      obtain rfl := so_some h
      refine ⟨0, fun L hL => ?_⟩
      simp only [go_sem, ir38, E_impl_IsName_l1, R_impl_IsName_l1, ir38_b0, ir38_k0, ir38_o0, ir38_r0, hk2, hk3, hk4]
    · try simp only [go_sem, n1, n2, n3, n4, hk2, hk3] at hk4
      all_goals
      obtain rfl := so_some h
      refine ⟨0, fun L hL => ?_⟩
      simp only [go_sem, ir38, E_impl_IsName_l1, R_impl_IsName_l1, ir38_b0, ir38_k0, ir38_o0, ir38_r0, hk2, hk3, hk4]
  · try simp only [go_sem, n1, n2, n3, n4] at hk2
    all_goals
    obtain rfl := so_some h
    refine ⟨0, fun L hL => ?_⟩
    simp only [go_sem, ir38, E_impl_IsName_l1, R_impl_IsName_l1, ir38_b0, ir38_k0, ir38_o0, ir38_r0, hk2]

theorem Fs_impl_IsName {s_ : List UInt8} {y_ : Bool} (h : impl_IsName s_ = some y_) : c_impl_IsName.F [.str s_] = ⟨true, .bool y_, [.any]⟩ := by
  refine mkF_E rfl ?_
  dsimp only [impl_IsName] at h
  rcases it_some h with ⟨hk1, h⟩ | ⟨hk1, h⟩
  · try simp only [go_sem, n1, n2, n3, n4] at hk1
    all_goals
    obtain rfl := so_some h
    refine ⟨0, fun L hL => ?_⟩
    simp only [go_sem, ir38, E_impl_IsName_l1, R_impl_IsName_l1, ir38_k0, ir38_o0, ir38_r0, hk1]
  · try simp only [go_sem, n1, n2, n3, n4] at hk1
    all_goals
    obtain ⟨y_5, hk5, h⟩ := bd_some h
    obtain ⟨Lhk5, ehk5⟩ := impl_IsName_l1_ex hk5
    rcases y_5 with y_5a | y_5b
    · dsimp only at h
      obtain rfl := so_some h
      refine ⟨Lhk5, fun L hL => ?_⟩
      have ehk5 := ehk5 L (by omega)
      try simp only [go_sem, E_impl_IsName_l1, R_impl_IsName_l1, ir38_k0, ir38_o0, ir38_r0, hk1] at ehk5
      simp only [go_sem, ir38, E_impl_IsName_l1, R_impl_IsName_l1, ir38_k0, ir38_o0, ir38_r0, hk1, ehk5]
    · dsimp only at h
      obtain rfl := so_some h
      refine ⟨Lhk5, fun L hL => ?_⟩
      have ehk5 := ehk5 L (by omega)
      try simp only [go_sem, E_impl_IsName_l1, R_impl_IsName_l1, ir38_k0, ir38_o0, ir38_r0, hk1] at ehk5
      simp only [go_sem, ir38, E_impl_IsName_l1, R_impl_IsName_l1, ir38_k0, ir38_o0, ir38_r0, hk1, ehk5]


def ir25_v : List Nat := [0, 1, 2]
def ir25 : AFn := ⟨1, 3, .seq (.region false [
    ⟨.var 1, 1, none, .box (.v 0)⟩,
    ⟨.var 2, 2, none, .mov (.c (.bool false))⟩])
 (.seq (.region false [
    ⟨.push, 3, none, .fldAddr 0 (.v 1)⟩,
    ⟨.push, 4, none, .load false 1 (.s 0)⟩,
    ⟨.push, 5, none, .call 37 [(.s 0), (.c (.int .i64 (0))), (.c (.int .i64 (100000)))]⟩,
    ⟨.push, 6, none, .mov (.s 0)⟩,
    ⟨.push, 7, (some ((.s 0), true)), .fldAddr 1 (.v 1)⟩,
    ⟨.push, 8, (some ((.s 1), true)), .load false 1 (.s 0)⟩,
    ⟨.push, 9, (some ((.s 2), true)), .call 38 [(.s 0)]⟩,
    ⟨.push, 10, none, .pick (.s 3) (.s 0) (.c (.bool false))⟩,
    ⟨.push, 11, none, .mov (.s 0)⟩,
    ⟨.push, 12, (some ((.s 0), true)), .fldAddr 2 (.v 1)⟩,
    ⟨.push, 13, (some ((.s 1), true)), .load false 1 (.s 0)⟩,
    ⟨.push, 14, (some ((.s 2), true)), .call 37 [(.s 0), (.c (.int .i64 (-1000000))), (.c (.int .i64 (1000000)))]⟩,
    ⟨.push, 15, none, .pick (.s 3) (.s 0) (.c (.bool false))⟩,
    ⟨.var 2, 2, none, .mov (.s 0)⟩])
 (.ret)), [.t 2]⟩
noncomputable def t_impl_ValidEntry : List (Nat × Ctr) := [(37, c_impl_in), (38, c_impl_IsName)]
theorem lk_impl_ValidEntry_37 : look t_impl_ValidEntry 37 = some c_impl_in := rfl
theorem lk_impl_ValidEntry_38 : look t_impl_ValidEntry 38 = some c_impl_IsName := rfl
noncomputable def c_impl_ValidEntry : Ctr := mkF t_impl_ValidEntry ir25 [.bor]
theorem s_impl_ValidEntry : Sound Tryd.prog 25 c_impl_ValidEntry := mkF_sound _ rfl (snd_cons s_impl_in (snd_cons s_impl_IsName snd_nil)) (by kernel_rfl : chkFn Tryd.prog 25 ir25 ir25_v = true)
theorem M_impl_ValidEntry : c_impl_ValidEntry.modes = [.bor] := rfl
theorem Fl_impl_ValidEntry : c_impl_ValidEntry.flat = true := rfl
attribute [go_sem] M_impl_ValidEntry Fl_impl_ValidEntry
attribute [go_sem] lk_impl_ValidEntry_37 lk_impl_ValidEntry_38
theorem Fs_impl_ValidEntry {e_ : Entry} {y_ : Bool} (h : impl_ValidEntry e_ = some y_) : c_impl_ValidEntry.F [Entry_av e_] = ⟨true, .bool y_, [.any]⟩ := by
  refine mkF_E rfl ?_
  dsimp only [impl_ValidEntry] at h
  obtain ⟨y_1, hk1, h⟩ := bd_some h
  have fhk1 := Fs_impl_in hk1
  try simp only [go_sem] at fhk1
  obtain ⟨hk2, h⟩ := ck_some h
  rcases or_split hk2 with ⟨ghk2, hk2⟩ | ghk2
  · try simp only [go_sem, n1, n2, n3, n4] at ghk2
    all_goals
    obtain ⟨y_2, hhk2⟩ := Option.isSome_iff_exists.1 hk2
    have fhk2 := Fs_impl_IsName hhk2
    try simp only [go_sem, ghk2] at fhk2
    obtain ⟨hk3, h⟩ := ck_some h
    rcases or_split hk3 with ⟨ghk3, hk3⟩ | ghk3
    · try simp only [go_sem, n1, n2, n3, n4, ghk2, hhk2] at ghk3
      all_goals
      obtain ⟨y_3, hhk3⟩ := Option.isSome_iff_exists.1 hk3
      have fhk3 := Fs_impl_in hhk3
      try simp only [go_sem, ghk2, hhk2, ghk3] at fhk3
      obtain rfl := so_some h
      refine ⟨0, fun L hL => ?_⟩
      simp only [go_sem, ir25, fhk1, ghk2, hhk2, fhk2, ghk3, hhk3, fhk3]
    · rcases and_f ghk3 with ghk3a | ⟨ghk3a, ghk3b⟩
      · try simp only [go_sem, n1, n2, n3, n4, ghk2, hhk2] at ghk3a
        all_goals
        obtain rfl := so_some h
        refine ⟨0, fun L hL => ?_⟩
        simp only [go_sem, ir25, fhk1, ghk2, hhk2, fhk2, ghk3a]
      · try simp only [go_sem, n1, n2, n3, n4, ghk2, hhk2] at ghk3a
        all_goals
        try simp only [go_sem, n1, n2, n3, n4, ghk2, hhk2, ghk3a] at ghk3b
        all_goals
        obtain rfl := so_some h
        refine ⟨0, fun L hL => ?_⟩
        simp only [go_sem, ir25, fhk1, ghk2, hhk2, fhk2, ghk3a, ghk3b]
  · try simp only [go_sem, n1, n2, n3, n4] at ghk2
    all_goals
    obtain ⟨hk3, h⟩ := ck_some h
    rcases or_split hk3 with ⟨ghk3, hk3⟩ | ghk3
    · try simp only [go_sem, n1, n2, n3, n4, ghk2] at ghk3
      all_goals
      obtain ⟨y_3, hhk3⟩ := Option.isSome_iff_exists.1 hk3
      have fhk3 := Fs_impl_in hhk3
      try simp only [go_sem, ghk2, ghk3] at fhk3
      obtain rfl := so_some h
      refine ⟨0, fun L hL => ?_⟩
      simp only [go_sem, ir25, fhk1, ghk2, ghk3, hhk3, fhk3]
    · rcases and_f ghk3 with ghk3a | ⟨ghk3a, ghk3b⟩
      · try simp only [go_sem, n1, n2, n3, n4, ghk2] at ghk3a
        all_goals
        obtain rfl := so_some h
        refine ⟨0, fun L hL => ?_⟩
        simp only [go_sem, ir25, fhk1, ghk2, ghk3a]
      · try simp only [go_sem, n1, n2, n3, n4, ghk2] at ghk3a
        all_goals
        try simp only [go_sem, n1, n2, n3, n4, ghk2, ghk3a] at ghk3b
        all_goals
        obtain rfl := so_some h
        refine ⟨0, fun L hL => ?_⟩
        simp only [go_sem, ir25, fhk1, ghk2, ghk3a, ghk3b]


def ir13_v : List Nat := [0, 2, 3, 4, 5, 6, 7, 8, 9, 10, 11, 12]
def ir13 : AFn := ⟨1, 12, .seq (.region false [
    ⟨.var 1, 2, none, .alloc (.agg [.int .i64 (0), .str [], .int .i64 (0)])⟩,
    ⟨.var 2, 3, none, .mov (.c (.int .i64 (0)))⟩,
    ⟨.var 3, 4, none, .mov (.c (.bool false))⟩])
 (.seq (.region false [
    ⟨.push, 13, none, .mov (.v 0)⟩,
    ⟨.push, 14, none, .call 23 [(.s 0), (.c (.str [32]))]⟩,
    ⟨.var 4, 5, none, .mov (.s 0)⟩])
 (.seq (.test false [
    ⟨.push, 15, none, .mov (.v 4)⟩,
    ⟨.push, 16, none, .len false (.s 0)⟩,
    ⟨.push, 17, none, .bin false .neq (.s 0) (.c (.int .i64 (4)))⟩] (.s 0)
  (.seq (.region false [
      ⟨.push, 18, none, .build [.int .i64 (0), .str [], .int .i64 (0)] []⟩,
      ⟨.no, 0, none, .store 3 (.v 1) (.s 0)⟩,
      ⟨.var 2, 3, none, .mov (.c (.int .i64 (0)))⟩,
      ⟨.var 3, 4, none, .mov (.c (.bool false))⟩])
   (.ret))
  (.skip))
 (.seq (.region false [
    ⟨.push, 20, none, .mov (.v 4)⟩,
    ⟨.push, 21, none, .ixAddr 1 (.s 0) (.c (.int .i64 (0)))⟩,
    ⟨.push, 22, none, .load false 1 (.s 0)⟩,
    ⟨.push, 23, none, .call 24 [(.s 0)]⟩,
    ⟨.push, 19, none, .mov (.s 0)⟩,
    ⟨.push, 24, none, .ext (.s 0) 0⟩,
    ⟨.push, 25, none, .ext (.s 1) 1⟩,
    ⟨.var 5, 6, none, .mov (.s 1)⟩,
    ⟨.var 6, 7, none, .mov (.s 0)⟩])
 (.seq (.region false [
    ⟨.push, 27, none, .mov (.v 4)⟩,
    ⟨.push, 28, none, .ixAddr 1 (.s 0) (.c (.int .i64 (2)))⟩,
    ⟨.push, 29, none, .load false 1 (.s 0)⟩,
    ⟨.push, 30, none, .call 24 [(.s 0)]⟩,
    ⟨.push, 26, none, .mov (.s 0)⟩,
    ⟨.push, 31, none, .ext (.s 0) 0⟩,
    ⟨.push, 32, none, .ext (.s 1) 1⟩,
    ⟨.var 7, 8, none, .mov (.s 1)⟩,
    ⟨.var 8, 9, none, .mov (.s 0)⟩])
 (.seq (.region false [
    ⟨.push, 34, none, .mov (.v 4)⟩,
    ⟨.push, 35, none, .ixAddr 1 (.s 0) (.c (.int .i64 (3)))⟩,
    ⟨.push, 36, none, .load false 1 (.s 0)⟩,
    ⟨.push, 37, none, .call 24 [(.s 0)]⟩,
    ⟨.push, 33, none, .mov (.s 0)⟩,
    ⟨.push, 38, none, .ext (.s 0) 0⟩,
    ⟨.push, 39, none, .ext (.s 1) 1⟩,
    ⟨.var 9, 10, none, .mov (.s 1)⟩,
    ⟨.var 10, 11, none, .mov (.s 0)⟩])
 (.seq (.region false [
    ⟨.push, 40, none, .mov (.v 5)⟩,
    ⟨.push, 41, none, .mov (.v 4)⟩,
    ⟨.push, 42, none, .ixAddr 1 (.s 0) (.c (.int .i64 (1)))⟩,
    ⟨.push, 43, none, .load false 1 (.s 0)⟩,
    ⟨.push, 44, none, .mov (.v 7)⟩,
    ⟨.push, 45, none, .build [.int .i64 (0), .str [], .int .i64 (0)] [(0, 1, (.s 4)), (1, 1, (.s 1)), (2, 1, (.s 0))]⟩,
    ⟨.var 11, 12, none, .alloc (.agg [.int .i64 (0), .str [], .int .i64 (0)])⟩,
    ⟨.no, 0, none, .store 3 (.v 11) (.s 0)⟩])
 (.seq (.anyo 13 [
    ⟨.slot 0, 46, none, .load true 3 (.v 11)⟩,
    ⟨.slot 1, 47, none, .mov (.v 9)⟩,
    ⟨.slot 2, 48, none, .mov (.v 6)⟩,
    ⟨.slot 3, 49, none, .mov (.s 2)⟩,
    ⟨.slot 4, 50, (some ((.s 3), true)), .mov (.v 8)⟩,
    ⟨.slot 5, 51, none, .pick (.s 3) (.s 4) (.c (.bool false))⟩,
    ⟨.slot 6, 52, none, .mov (.s 5)⟩,
    ⟨.slot 7, 53, (some ((.s 6), true)), .mov (.v 10)⟩,
    ⟨.slot 8, 54, none, .pick (.s 6) (.s 7) (.c (.bool false))⟩,
    ⟨.slot 9, 55, none, .mov (.s 8)⟩,
    ⟨.slot 10, 56, (some ((.s 9), true)), .load true 3 (.v 11)⟩,
    ⟨.slot 11, 57, (some ((.s 9), true)), .call 25 [(.s 10)]⟩,
    ⟨.slot 12, 58, none, .pick (.s 9) (.s 11) (.c (.bool false))⟩,
    ⟨.no, 0, none, .store 3 (.v 1) (.s 0)⟩,
    ⟨.var 2, 3, none, .mov (.s 1)⟩,
    ⟨.var 3, 4, none, .mov (.s 12)⟩] [[0, 2, 3, 4, 5, 6, 7, 8, 9, 10, 11, 1, 12, 13, 14, 15], [0, 2, 3, 4, 5, 6, 7, 8, 9, 10, 11, 1, 13, 12, 14, 15], [0, 2, 3, 4, 5, 6, 7, 8, 9, 10, 11, 12, 1, 13, 14, 15], [0, 2, 3, 4, 5, 6, 7, 8, 9, 10, 11, 12, 13, 1, 14, 15], [0, 2, 3, 4, 5, 6, 7, 8, 9, 10, 11, 13, 1, 12, 14, 15]] .skip)
 (.ret)))))))), [.cell true 3 1, .t 2, .t 3]⟩
noncomputable def t_impl_readEntry : List (Nat × Ctr) := [(23, c_hSplit), (24, c_hRdDec), (25, c_impl_ValidEntry)]
theorem lk_impl_readEntry_23 : look t_impl_readEntry 23 = some c_hSplit := rfl
theorem lk_impl_readEntry_24 : look t_impl_readEntry 24 = some c_hRdDec := rfl
theorem lk_impl_readEntry_25 : look t_impl_readEntry 25 = some c_impl_ValidEntry := rfl
noncomputable def c_impl_readEntry : Ctr := mkN t_impl_readEntry ir13 [.bor]
theorem s_impl_readEntry : Sound Tryd.prog 13 c_impl_readEntry := mkN_sound _ (snd_cons s_hSplit (snd_cons s_hRdDec (snd_cons s_impl_ValidEntry snd_nil))) (by kernel_rfl : chkFn Tryd.prog 13 ir13 ir13_v = true)
theorem M_impl_readEntry : c_impl_readEntry.modes = [.bor] := rfl
theorem Fl_impl_readEntry : c_impl_readEntry.flat = false := rfl
attribute [go_sem] M_impl_readEntry Fl_impl_readEntry
attribute [go_sem] lk_impl_readEntry_23 lk_impl_readEntry_24 lk_impl_readEntry_25
theorem Fs_impl_readEntry {line : List UInt8} {y_ : Entry × Int × Bool} (h : impl_readEntry line = some y_) : c_impl_readEntry.F [.str line] = ⟨true, .tup [Entry_av y_.1, .int .i64 y_.2.1, .bool y_.2.2], [.any]⟩ := by
  refine mkN_E ?_
  dsimp only [impl_readEntry] at h
  obtain ⟨y_1, hk1, h⟩ := bd_some h
  have fhk1 := Fs_hSplit hk1
  try simp only [go_sem] at fhk1
  rcases it_some h with ⟨hk2, h⟩ | ⟨hk2, h⟩
  · try simp only [go_sem, n1, n2, n3, n4] at hk2
    all_goals
    obtain rfl := so_some h
    refine ⟨0, fun L hL => ?_⟩
    simp only [go_sem, ir13, fhk1, hk2]
  · try simp only [go_sem, n1, n2, n3, n4] at hk2
    all_goals
    obtain ⟨hk3, h⟩ := ck_some h
    have lhk3 := ix_lt hk3
    have xhk3 := getD_mapD AV.str y_1 lhk3
    try simp only [go_sem] at lhk3
    try simp only [go_sem] at xhk3
    try simp only [go_sem, n1, n2, n3, n4, hk2] at hk3
    all_goals
    obtain ⟨y_4, hk4, h⟩ := bd_some h
    have fhk4 := Fs_hRdDec hk4
    try simp only [go_sem, hk2, hk3] at fhk4
    obtain ⟨hk5, h⟩ := ck_some h
    have lhk5 := ix_lt hk5
    have xhk5 := getD_mapD AV.str y_1 lhk5
    try simp only [go_sem] at lhk5
    try simp only [go_sem] at xhk5
    try simp only [go_sem, n1, n2, n3, n4, hk2, hk3] at hk5
    all_goals
    obtain ⟨y_6, hk6, h⟩ := bd_some h
    have fhk6 := Fs_hRdDec hk6
    try simp only [go_sem, hk2, hk3, hk5] at fhk6
    obtain ⟨hk7, h⟩ := ck_some h
    have lhk7 := ix_lt hk7
    have xhk7 := getD_mapD AV.str y_1 lhk7
    try simp only [go_sem] at lhk7
    try simp only [go_sem] at xhk7
    try simp only [go_sem, n1, n2, n3, n4, hk2, hk3, hk5] at hk7
    all_goals
    obtain ⟨y_8, hk8, h⟩ := bd_some h
    have fhk8 := Fs_hRdDec hk8
    try simp only [go_sem, hk2, hk3, hk5, hk7] at fhk8
    obtain ⟨hk9, h⟩ := ck_some h
    have lhk9 := ix_lt hk9
    have xhk9 := getD_mapD AV.str y_1 lhk9
    try simp only [go_sem] at lhk9
    try simp only [go_sem] at xhk9
    try simp only [go_sem, n1, n2, n3, n4, hk2, hk3, hk5, hk7] at hk9
    all_goals
    obtain ⟨hk10, h⟩ := ck_some h
    rcases or_split hk10 with ⟨ghk10, hk10⟩ | ghk10
    · try simp only [go_sem, n1, n2, n3, n4, hk2, hk3, hk5, hk7, hk9] at ghk10
      all_goals
      obtain ⟨y_10, hhk10⟩ := Option.isSome_iff_exists.1 hk10
      have fhk10 := Fs_impl_ValidEntry hhk10
      try simp only [go_sem, hk2, hk3, hk5, hk7, hk9, ghk10] at fhk10
      obtain rfl := so_some h
      refine ⟨0, fun L hL => ?_⟩
      simp only [go_sem, ir13, fhk1, hk2, hk3, lhk3, xhk3, fhk4, hk5, lhk5, xhk5, fhk6, hk7, lhk7, xhk7, fhk8, hk9, lhk9, xhk9, ghk10, hhk10, fhk10]
    · rcases and_f ghk10 with ghk10a | ⟨ghk10a, ghk10b⟩
      · rcases and_f ghk10a with ghk10aa | ⟨ghk10aa, ghk10ab⟩
        · try simp only [go_sem, n1, n2, n3, n4, hk2, hk3, hk5, hk7, hk9] at ghk10aa
          all_goals
          obtain rfl := so_some h
          refine ⟨0, fun L hL => ?_⟩
          simp only [go_sem, ir13, fhk1, hk2, hk3, lhk3, xhk3, fhk4, hk5, lhk5, xhk5, fhk6, hk7, lhk7, xhk7, fhk8, hk9, lhk9, xhk9, ghk10aa]
        · try simp only [go_sem, n1, n2, n3, n4, hk2, hk3, hk5, hk7, hk9] at ghk10aa
          all_goals
          try simp only [go_sem, n1, n2, n3, n4, hk2, hk3, hk5, hk7, hk9, ghk10aa] at ghk10ab
          all_goals
          obtain rfl := so_some h
          refine ⟨0, fun L hL => ?_⟩
          simp only [go_sem, ir13, fhk1, hk2, hk3, lhk3, xhk3, fhk4, hk5, lhk5, xhk5, fhk6, hk7, lhk7, xhk7, fhk8, hk9, lhk9, xhk9, ghk10aa, ghk10ab]
      · obtain ⟨ghk10aa, ghk10ab⟩ := and_t ghk10a
        try simp only [go_sem, n1, n2, n3, n4, hk2, hk3, hk5, hk7, hk9] at ghk10aa
        all_goals
        try simp only [go_sem, n1, n2, n3, n4, hk2, hk3, hk5, hk7, hk9, ghk10aa] at ghk10ab
        all_goals
        try simp only [go_sem, n1, n2, n3, n4, hk2, hk3, hk5, hk7, hk9, ghk10aa, ghk10ab] at ghk10b
        all_goals
        obtain rfl := so_some h
        refine ⟨0, fun L hL => ?_⟩
        simp only [go_sem, ir13, fhk1, hk2, hk3, lhk3, xhk3, fhk4, hk5, lhk5, xhk5, fhk6, hk7, lhk7, xhk7, fhk8, hk9, lhk9, xhk9, ghk10aa, ghk10ab, ghk10b]


theorem s_hFmt : Sound Tryd.prog 62 c_hFmt := hFmt_is

def ir50_v : List Nat := [0, 1, 4]
def ir50 : AFn := ⟨2, 3, .seq (.region false [
    ⟨.var 2, 4, none, .mov (.c (.str []))⟩])
 (.seq (.region false [
    ⟨.push, 5, none, .mov (.v 0)⟩,
    ⟨.push, 6, none, .mov (.v 1)⟩,
    ⟨.push, 7, none, .call 62 [(.s 1), (.s 0)]⟩,
    ⟨.var 2, 4, none, .mov (.s 0)⟩])
 (.ret)), [.t 2]⟩
noncomputable def t_strconv_FormatInt : List (Nat × Ctr) := [(62, c_hFmt)]
theorem lk_strconv_FormatInt_62 : look t_strconv_FormatInt 62 = some c_hFmt := rfl
noncomputable def c_strconv_FormatInt : Ctr := mkF t_strconv_FormatInt ir50 [.bor, .bor]
theorem s_strconv_FormatInt : Sound Tryd.prog 50 c_strconv_FormatInt := mkF_sound _ rfl (snd_cons s_hFmt snd_nil) (by kernel_rfl : chkFn Tryd.prog 50 ir50 ir50_v = true)
theorem M_strconv_FormatInt : c_strconv_FormatInt.modes = [.bor, .bor] := rfl
theorem Fl_strconv_FormatInt : c_strconv_FormatInt.flat = true := rfl
attribute [go_sem] M_strconv_FormatInt Fl_strconv_FormatInt
attribute [go_sem] lk_strconv_FormatInt_62
theorem Fs_strconv_FormatInt {i : Int} {base : Int} {y_ : (List UInt8)} (h : strconv_FormatInt i base = some y_) : c_strconv_FormatInt.F [.int .i64 i, .int .i64 base] = ⟨true, .str y_, [.any, .any]⟩ := by
  refine mkF_E rfl ?_
  dsimp only [strconv_FormatInt] at h
  obtain ⟨y_1, hk1, h⟩ := bd_some h
  have fhk1 := Fs_hFmt hk1
  try simp only [go_sem] at fhk1
  obtain rfl := so_some h
  refine ⟨0, fun L hL => ?_⟩
  simp only [go_sem, ir50, fhk1]


def ir36_v : List Nat := [0, 2]
def ir36 : AFn := ⟨1, 2, .seq (.region false [
    ⟨.var 1, 2, none, .mov (.c (.str []))⟩])
 (.seq (.region false [
    ⟨.push, 3, none, .mov (.v 0)⟩,
    ⟨.push, 4, none, .call 50 [(.s 0), (.c (.int .i64 (10)))]⟩,
    ⟨.var 1, 2, none, .mov (.s 0)⟩])
 (.ret)), [.t 1]⟩
noncomputable def t_impl_Decimal : List (Nat × Ctr) := [(50, c_strconv_FormatInt)]
theorem lk_impl_Decimal_50 : look t_impl_Decimal 50 = some c_strconv_FormatInt := rfl
noncomputable def c_impl_Decimal : Ctr := mkF t_impl_Decimal ir36 [.bor]
theorem s_impl_Decimal : Sound Tryd.prog 36 c_impl_Decimal := mkF_sound _ rfl (snd_cons s_strconv_FormatInt snd_nil) (by kernel_rfl : chkFn Tryd.prog 36 ir36 ir36_v = true)
theorem M_impl_Decimal : c_impl_Decimal.modes = [.bor] := rfl
theorem Fl_impl_Decimal : c_impl_Decimal.flat = true := rfl
attribute [go_sem] M_impl_Decimal Fl_impl_Decimal
attribute [go_sem] lk_impl_Decimal_50
theorem Fs_impl_Decimal {n : Int} {y_ : (List UInt8)} (h : impl_Decimal n = some y_) : c_impl_Decimal.F [.int .i64 n] = ⟨true, .str y_, [.any]⟩ := by
  refine mkF_E rfl ?_
  dsimp only [impl_Decimal] at h
  obtain ⟨y_1, hk1, h⟩ := bd_some h
  have fhk1 := Fs_strconv_FormatInt hk1
  try simp only [go_sem] at fhk1
  obtain rfl := so_some h
  refine ⟨0, fun L hL => ?_⟩
  simp only [go_sem, ir36, fhk1]


def ir26_v : List Nat := [0, 1, 2]
def ir26 : AFn := ⟨1, 3, .seq (.region false [
    ⟨.var 1, 1, none, .box (.v 0)⟩,
    ⟨.var 2, 2, none, .mov (.c (.str []))⟩])
 (.seq (.anyo 12 [
    ⟨.slot 0, 3, none, .fldAddr 0 (.v 1)⟩,
    ⟨.slot 1, 4, none, .load false 1 (.s 0)⟩,
    ⟨.slot 2, 5, none, .callp 36 [(.s 1)]⟩,
    ⟨.slot 3, 6, none, .bin false .add (.s 2) (.c (.str [32]))⟩,
    ⟨.slot 4, 7, none, .fldAddr 1 (.v 1)⟩,
    ⟨.slot 5, 8, none, .load false 1 (.s 4)⟩,
    ⟨.slot 6, 9, none, .bin false .add (.s 3) (.s 5)⟩,
    ⟨.slot 7, 10, none, .bin false .add (.s 6) (.c (.str [32]))⟩,
    ⟨.slot 8, 11, none, .fldAddr 2 (.v 1)⟩,
    ⟨.slot 9, 12, none, .load false 1 (.s 8)⟩,
    ⟨.slot 10, 13, none, .callp 36 [(.s 9)]⟩,
    ⟨.slot 11, 14, none, .bin false .add (.s 7) (.s 10)⟩,
    ⟨.var 2, 2, none, .mov (.s 11)⟩] [] .skip)
 (.ret)), [.t 2]⟩
noncomputable def t_impl_Entry_words : List (Nat × Ctr) := [(36, c_impl_Decimal)]
theorem lk_impl_Entry_words_36 : look t_impl_Entry_words 36 = some c_impl_Decimal := rfl
noncomputable def c_impl_Entry_words : Ctr := mkF t_impl_Entry_words ir26 [.bor]
theorem s_impl_Entry_words : Sound Tryd.prog 26 c_impl_Entry_words := mkF_sound _ rfl (snd_cons s_impl_Decimal snd_nil) (by kernel_rfl : chkFn Tryd.prog 26 ir26 ir26_v = true)
theorem M_impl_Entry_words : c_impl_Entry_words.modes = [.bor] := rfl
theorem Fl_impl_Entry_words : c_impl_Entry_words.flat = true := rfl
attribute [go_sem] M_impl_Entry_words Fl_impl_Entry_words
attribute [go_sem] lk_impl_Entry_words_36
theorem Fs_impl_Entry_words {e_ : Entry} {y_ : (List UInt8)} (h : impl_Entry_words e_ = some y_) : c_impl_Entry_words.F [Entry_av e_] = ⟨true, .str y_, [.any]⟩ := by
  refine mkF_E rfl ?_
  dsimp only [impl_Entry_words] at h
  obtain ⟨y_1, hk1, h⟩ := bd_some h
  have fhk1 := Fs_impl_Decimal hk1
  try simp only [go_sem] at fhk1
  obtain ⟨hk2, h⟩ := ck_some h
  try simp only [go_sem, n1, n2, n3, n4] at hk2
  all_goals
  obtain ⟨hk3, h⟩ := ck_some h
  try simp only [go_sem, n1, n2, n3, n4, hk2] at hk3
  all_goals
  obtain ⟨hk4, h⟩ := ck_some h
  try simp only [go_sem, n1, n2, n3, n4, hk2, hk3] at hk4
  all_goals
  obtain ⟨y_5, hk5, h⟩ := bd_some h
  have fhk5 := Fs_impl_Decimal hk5
  try simp only [go_sem, hk2, hk3, hk4] at fhk5
  obtain ⟨hk6, h⟩ := ck_some h
  try simp only [go_sem, n1, n2, n3, n4, hk2, hk3, hk4] at hk6
  all_goals
  obtain rfl := so_some h
  refine ⟨0, fun L hL => ?_⟩
  simp only [go_sem, ir26, fhk1, hk2, hk3, hk4, fhk5, hk6]


def ir14_b0 : IR := .seq (.region false [
    ⟨.var 9, 16, none, .bin false .lss (.v 8) (.v 7)⟩])
 (.seq (.cond (.v 9) (.skip)
  (.exit 0))
 (.seq (.block 1 (.seq (.region false [
      ⟨.push, 17, none, .mov (.v 8)⟩,
      ⟨.var 6, 7, none, .mov (.s 0)⟩])
   (.region false [
     ⟨.push, 18, none, .mov (.v 4)⟩,
     ⟨.push, 19, none, .bin false .mul (.c (.int .i64 (31))) (.s 0)⟩,
     ⟨.push, 20, none, .mov (.v 5)⟩,
     ⟨.push, 21, none, .mov (.v 6)⟩,
     ⟨.push, 22, none, .ixStr (.s 1) (.s 0)⟩,
     ⟨.push, 23, none, .conv .i64 (.s 0)⟩,
     ⟨.push, 24, none, .bin false .add (.s 4) (.s 0)⟩,
     ⟨.push, 25, none, .bin false .rem (.s 0) (.c (.int .i64 (65521)))⟩,
     ⟨.var 4, 5, none, .mov (.s 0)⟩])))
 (.region false [
   ⟨.push, 26, none, .bin false .add (.v 8) (.c (.int .i64 (1)))⟩,
   ⟨.var 8, 15, none, .mov (.s 0)⟩])))
def ir14_k0 : List Bool := [false, false, false, false, true, true, false, true, true, false]
def ir14_o0 : List Bool := [false, false, false, false, true, false, false, false, false, false]
def ir14_r0 : List Bool := [false, false, false, true, false, false, false, false, false, false]
def ir14_v : List Nat := [0, 1, 3, 4, 5, 6, 7, 14, 15, 16]
def ir14 : AFn := ⟨2, 10, .seq (.region false [
    ⟨.var 2, 3, none, .box (.v 1)⟩,
    ⟨.var 3, 4, none, .mov (.c (.int .i64 (0)))⟩])
 (.seq (.region false [
    ⟨.push, 8, none, .mov (.v 0)⟩,
    ⟨.push, 9, none, .bin false .add (.s 0) (.c (.int .i64 (23)))⟩,
    ⟨.push, 10, none, .bin false .rem (.s 0) (.c (.int .i64 (65521)))⟩,
    ⟨.push, 11, none, .load true 3 (.v 2)⟩,
    ⟨.push, 12, none, .call 26 [(.s 0)]⟩,
    ⟨.var 4, 5, none, .mov (.s 2)⟩,
    ⟨.var 5, 6, none, .mov (.s 0)⟩])
 (.seq (.seq (.region false [
     ⟨.push, 13, none, .mov (.v 5)⟩,
     ⟨.var 7, 14, none, .len true (.s 0)⟩,
     ⟨.var 8, 15, none, .mov (.c (.int .i64 (0)))⟩])
  (.block 0 (.loop ir14_k0 ir14_o0 ir14_r0 ir14_b0)))
 (.seq (.region false [
    ⟨.push, 27, none, .mov (.v 4)⟩,
    ⟨.var 3, 4, none, .mov (.s 0)⟩])
 (.ret)))), [.t 3]⟩
noncomputable def t_impl_stamp : List (Nat × Ctr) := [(26, c_impl_Entry_words)]
theorem lk_impl_stamp_26 : look t_impl_stamp 26 = some c_impl_Entry_words := rfl
noncomputable def c_impl_stamp : Ctr := mkF t_impl_stamp ir14 [.bor, .bor]
theorem s_impl_stamp : Sound Tryd.prog 14 c_impl_stamp := mkF_sound _ rfl (snd_cons s_impl_Entry_words snd_nil) (by kernel_rfl : chkFn Tryd.prog 14 ir14 ir14_v = true)
theorem M_impl_stamp : c_impl_stamp.modes = [.bor, .bor] := rfl
theorem Fl_impl_stamp : c_impl_stamp.flat = true := rfl
attribute [go_sem] M_impl_stamp Fl_impl_stamp
attribute [go_sem] lk_impl_stamp_26
def E_impl_stamp_l1 (words : List UInt8) (t14 : Int) : (Int × Int) → St
  | (sum, t15) => ⟨[.any, .any, .any, .any, .int .i64 sum, .str words, .any, .int .i64 t14, .int .i64 t15, .any], [], [], true⟩
def R_impl_stamp_l1 (words : List UInt8) (t14 : Int) (y : Int) : Res := (.exit 0, ⟨[.any, .any, .any, .any, .int .i64 y, .any, .any, .any, .any, .any], [], [], true⟩)
theorem impl_stamp_l1_ex {words : List UInt8} {t14 : Int} {sgm_ : Int × Int} {rho_ : Int} (h : whileE (impl_stamp_l1 words t14) sgm_ = some rho_) : ∃ L0, ∀ L, L0 ≤ L → iter (exec (look t_impl_stamp) L ir14_b0) ir14_k0 ir14_o0 ir14_r0 L (E_impl_stamp_l1 words t14 sgm_) = R_impl_stamp_l1 words t14 rho_ := by
  refine loop_ex (E := E_impl_stamp_l1 words t14) (R := R_impl_stamp_l1 words t14) (fun y => by first | (intro c; cases c) | (rcases y with y | y <;> (intro c; cases c)) | (rcases y with y | y | y <;> (intro c; cases c))) ?_ h
  clear h
  rintro ⟨sum, t15⟩ o_ h
  dsimp only [impl_stamp_l1] at h
  rcases it_some h with ⟨hk3, h⟩ | ⟨hk3, h⟩
  · try simp only [go_sem, n1, n2, n3, n4] at hk3
    all_goals
    obtain ⟨hk4, h⟩ := ck_some h
    try simp only [go_sem, n1, n2, n3, n4, hk3] at hk4
    all_goals
    obtain ⟨hk5, h⟩ := ck_some h
    try simp only [go_sem, n1, n2, n3, n4, hk3, hk4] at hk5
    all_goals
    obtain rfl := so_some h
    refine ⟨0, fun L hL => ?_⟩
    simp only [go_sem, ir14, E_impl_stamp_l1, R_impl_stamp_l1, ir14_b0, ir14_k0, ir14_o0, ir14_r0, hk3, hk4, hk5]
  · try simp only [go_sem, n1, n2, n3, n4] at hk3
    all_goals
    obtain rfl := so_some h
    refine ⟨0, fun L hL => ?_⟩
    simp only [go_sem, ir14, E_impl_stamp_l1, R_impl_stamp_l1, ir14_b0, ir14_k0, ir14_o0, ir14_r0, hk3]

theorem Fs_impl_stamp {before : Int} {e_ : Entry} {y_ : Int} (h : impl_stamp before e_ = some y_) : c_impl_stamp.F [.int .i64 before, Entry_av e_] = ⟨true, .int .i64 y_, [.any, .any]⟩ := by
  refine mkF_E rfl ?_
  dsimp only [impl_stamp] at h
  obtain ⟨hk1, h⟩ := ck_some h
  try simp only [go_sem, n1, n2, n3, n4] at hk1
  all_goals
  obtain ⟨y_2, hk2, h⟩ := bd_some h
  have fhk2 := Fs_impl_Entry_words hk2
  try simp only [go_sem, hk1] at fhk2
  obtain ⟨y_6, hk6, h⟩ := bd_some h
  obtain ⟨Lhk6, ehk6⟩ := impl_stamp_l1_ex hk6
  obtain rfl := so_some h
  refine ⟨Lhk6, fun L hL => ?_⟩
  have ehk6 := ehk6 L (by omega)
  try simp only [go_sem, E_impl_stamp_l1, R_impl_stamp_l1, ir14_k0, ir14_o0, ir14_r0, hk1] at ehk6
  simp only [go_sem, ir14, E_impl_stamp_l1, R_impl_stamp_l1, ir14_k0, ir14_o0, ir14_r0, hk1, fhk2, ehk6]


def ir10_b0 : IR := .block 1 (.seq (.region false [
     ⟨.push, 17, none, .mov (.v 0)⟩,
     ⟨.push, 18, none, .mov (.v 5)⟩,
     ⟨.push, 19, none, .slice 0 (.s 1) (some (.s 0)) none⟩,
     ⟨.push, 20, none, .call 12 [(.s 0), (.c (.str [10]))]⟩,
     ⟨.push, 16, none, .mov (.s 0)⟩,
     ⟨.push, 21, none, .ext (.s 0) 0⟩,
     ⟨.push, 22, none, .ext (.s 1) 1⟩,
     ⟨.push, 23, none, .ext (.s 2) 2⟩,
     ⟨.var 8, 9, none, .mov (.s 2)⟩,
     ⟨.push, 10, none, .mov (.s 1)⟩,
     ⟨.var 9, 11, none, .mov (.s 1)⟩])
  (.seq (.region false [
     ⟨.push, 25, none, .mov (.v 8)⟩,
     ⟨.push, 26, none, .call 13 [(.s 0)]⟩,
     ⟨.push, 24, none, .mov (.s 0)⟩,
     ⟨.push, 27, none, .ext (.s 0) 0⟩,
     ⟨.push, 28, none, .ext (.s 1) 1⟩,
     ⟨.push, 29, none, .ext (.s 2) 2⟩,
     ⟨.var 10, 12, none, .alloc (.agg [.int .i64 (0), .str [], .int .i64 (0)])⟩,
     ⟨.no, 0, none, .store 3 (.v 10) (.s 2)⟩,
     ⟨.var 11, 13, none, .mov (.s 1)⟩,
     ⟨.var 12, 14, none, .mov (.s 0)⟩])
  (.seq (.test false [
     ⟨.push, 30, none, .mov (.v 9)⟩,
     ⟨.push, 31, none, .un .not (.s 0)⟩,
     ⟨.push, 32, none, .mov (.s 0)⟩,
     ⟨.push, 33, (some ((.s 0), false)), .mov (.v 12)⟩,
     ⟨.push, 34, (some ((.s 1), false)), .un .not (.s 0)⟩,
     ⟨.push, 35, none, .pick (.s 2) (.c (.bool true)) (.s 0)⟩,
     ⟨.push, 36, none, .mov (.s 0)⟩,
     ⟨.push, 37, (some ((.s 0), false)), .fldAddr 0 (.v 10)⟩,
     ⟨.push, 38, (some ((.s 1), false)), .load false 1 (.s 0)⟩,
     ⟨.push, 39, (some ((.s 2), false)), .mov (.v 7)⟩,
     ⟨.push, 40, (some ((.s 3), false)), .bin false .lss (.s 1) (.s 0)⟩,
     ⟨.push, 41, none, .pick (.s 4) (.c (.bool true)) (.s 0)⟩,
     ⟨.push, 42, none, .mov (.s 0)⟩,
     ⟨.push, 43, (some ((.s 0), false)), .mov (.v 11)⟩,
     ⟨.push, 44, (some ((.s 1), false)), .mov (.v 6)⟩,
     ⟨.push, 45, (some ((.s 2), false)), .load true 3 (.v 10)⟩,
     ⟨.push, 46, (some ((.s 3), false)), .call 14 [(.s 1), (.s 0)]⟩,
     ⟨.push, 47, (some ((.s 4), false)), .bin false .neq (.s 3) (.s 0)⟩,
     ⟨.push, 48, none, .pick (.s 5) (.c (.bool true)) (.s 0)⟩] (.s 0)
   (.seq (.region false [
       ⟨.push, 49, none, .mov (.v 4)⟩,
       ⟨.push, 50, none, .mov (.v 5)⟩,
       ⟨.push, 51, none, .mov (.v 6)⟩,
       ⟨.var 1, 2, none, .mov (.s 2)⟩,
       ⟨.var 2, 3, none, .mov (.s 1)⟩,
       ⟨.var 3, 4, none, .mov (.s 0)⟩])
    (.ret))
   (.skip))
  (.seq (.region false [
     ⟨.push, 52, none, .mov (.v 4)⟩,
     ⟨.push, 53, none, .load true 3 (.v 10)⟩,
     ⟨.push, 54, none, .mkSl 3 (.agg [.int .i64 (0), .str [], .int .i64 (0)]) 1 [(0, (.s 0))]⟩,
     ⟨.push, 55, none, .app 3 32 (.agg [.int .i64 (0), .str [], .int .i64 (0)]) (.s 2) (.s 0)⟩,
     ⟨.var 4, 5, none, .mov (.s 0)⟩])
  (.seq (.region false [
     ⟨.push, 56, none, .mov (.v 5)⟩,
     ⟨.push, 57, none, .mov (.v 8)⟩,
     ⟨.push, 58, none, .len true (.s 0)⟩,
     ⟨.push, 59, none, .bin false .add (.s 0) (.c (.int .i64 (1)))⟩,
     ⟨.push, 60, none, .bin false .add (.s 3) (.s 0)⟩,
     ⟨.var 5, 6, none, .mov (.s 0)⟩])
  (.anyo 3 [
    ⟨.slot 0, 61, none, .mov (.v 11)⟩,
    ⟨.slot 1, 62, none, .fldAddr 0 (.v 10)⟩,
    ⟨.slot 2, 63, none, .load false 1 (.s 1)⟩,
    ⟨.var 6, 7, none, .mov (.s 0)⟩,
    ⟨.var 7, 8, none, .mov (.s 2)⟩] [] .skip))))))
def ir10_k0 : List Bool := [true, false, false, false, true, true, true, true, false, false, false, false, false]
def ir10_o0 : List Bool := [false, false, false, false, false, false, false, false, false, false, false, false, false]
def ir10_r0 : List Bool := [false, true, true, true, false, false, false, false, false, false, false, false, false]
def ir10_v : List Nat := [0, 2, 3, 4, 5, 6, 7, 8, 9, 11, 12, 13, 14]
def ir10 : AFn := ⟨1, 13, .seq (.region false [
    ⟨.var 1, 2, none, .newnil 3⟩,
    ⟨.var 2, 3, none, .mov (.c (.int .i64 (0)))⟩,
    ⟨.var 3, 4, none, .mov (.c (.int .i64 (0)))⟩])
 (.seq (.region false [
    ⟨.push, 15, none, .mkSl 3 (.agg [.int .i64 (0), .str [], .int .i64 (0)]) 0 []⟩,
    ⟨.var 4, 5, none, .mov (.s 0)⟩,
    ⟨.var 5, 6, none, .mov (.c (.int .i64 (0)))⟩,
    ⟨.var 6, 7, none, .mov (.c (.int .i64 (0)))⟩,
    ⟨.var 7, 8, none, .mov (.c (.int .i64 (0)))⟩])
 (.block 0 (.loop ir10_k0 ir10_o0 ir10_r0 ir10_b0))), [.t 1, .t 2, .t 3]⟩
noncomputable def t_impl_readLog : List (Nat × Ctr) := [(12, c_hCut), (13, c_impl_readEntry), (14, c_impl_stamp)]
theorem lk_impl_readLog_12 : look t_impl_readLog 12 = some c_hCut := rfl
theorem lk_impl_readLog_13 : look t_impl_readLog 13 = some c_impl_readEntry := rfl
theorem lk_impl_readLog_14 : look t_impl_readLog 14 = some c_impl_stamp := rfl
noncomputable def c_impl_readLog : Ctr := mkF t_impl_readLog ir10 [.bor]
theorem s_impl_readLog : Sound Tryd.prog 10 c_impl_readLog := mkF_sound _ rfl (snd_cons s_hCut (snd_cons s_impl_readEntry (snd_cons s_impl_stamp snd_nil))) (by kernel_rfl : chkFn Tryd.prog 10 ir10 ir10_v = true)
theorem M_impl_readLog : c_impl_readLog.modes = [.bor] := rfl
theorem Fl_impl_readLog : c_impl_readLog.flat = true := rfl
attribute [go_sem] M_impl_readLog Fl_impl_readLog
attribute [go_sem] lk_impl_readLog_12 lk_impl_readLog_13 lk_impl_readLog_14
def E_impl_readLog_l1 (log : List UInt8) : ((List Entry) × Int × Int × Int) → St
  | (entries, used, last, day) => ⟨[.str log, .any, .any, .any, .own 3200000, .int .i64 used, .int .i64 last, .int .i64 day, .any, .any, .any, .any, .any], [], [(3200000, ⟨3, List.map Entry_av entries⟩)], true⟩
def R_impl_readLog_l1 (log : List UInt8) (y : (List Entry) × Int × Int) : Res := (.ret, ⟨[.any, .own 3200000, .int .i64 y.2.1, .int .i64 y.2.2, .any, .any, .any, .any, .any, .any, .any, .any, .any], [], [(3200000, ⟨3, List.map Entry_av y.1⟩)], true⟩)
theorem impl_readLog_l1_ex {log : List UInt8} {sgm_ : (List Entry) × Int × Int × Int} {rho_ : (List Entry) × Int × Int} (h : whileE (impl_readLog_l1 log) sgm_ = some rho_) : ∃ L0, ∀ L, L0 ≤ L → iter (exec (look t_impl_readLog) L ir10_b0) ir10_k0 ir10_o0 ir10_r0 L (E_impl_readLog_l1 log sgm_) = R_impl_readLog_l1 log rho_ := by
  refine loop_ex (E := E_impl_readLog_l1 log) (R := R_impl_readLog_l1 log) (fun y => by first | (intro c; cases c) | (rcases y with y | y <;> (intro c; cases c)) | (rcases y with y | y | y <;> (intro c; cases c))) ?_ h
  clear h
  rintro ⟨entries, used, last, day⟩ o_ h
  dsimp only [impl_readLog_l1] at h
  obtain ⟨hk1, h⟩ := ck_some h
  try simp only [go_sem, n1, n2, n3, n4] at hk1
  all_goals
  obtain ⟨y_2, hk2, h⟩ := bd_some h
  have fhk2 := Fs_hCut hk2
  try simp only [go_sem, hk1] at fhk2
  obtain ⟨y_3, hk3, h⟩ := bd_some h
  have fhk3 := Fs_impl_readEntry hk3
  try simp only [go_sem, hk1] at fhk3
  obtain ⟨hk4, h⟩ := ck_some h
  rcases or_split hk4 with ⟨ghk4, hk4⟩ | ghk4
  · try simp only [go_sem, n1, n2, n3, n4, hk1] at ghk4
    all_goals
    obtain ⟨y_4, hhk4⟩ := Option.isSome_iff_exists.1 hk4
    have fhk4 := Fs_impl_stamp hhk4
    try simp only [go_sem, hk1, ghk4] at fhk4
    rcases it_some h with ⟨hk5, h⟩ | ⟨hk5, h⟩
    · try simp only [go_sem, n1, n2, n3, n4, hk1, ghk4, hhk4] at hk5
      all_goals
      obtain rfl := so_some h
      refine ⟨0, fun L hL => ?_⟩
      simp only [go_sem, ir10, E_impl_readLog_l1, R_impl_readLog_l1, ir10_b0, ir10_k0, ir10_o0, ir10_r0, hk1, fhk2, fhk3, ghk4, hhk4, fhk4, hk5]
    · try simp only [go_sem, n1, n2, n3, n4, hk1, ghk4, hhk4] at hk5
      all_goals
      obtain ⟨hk6, h⟩ := ck_some h
      try simp only [go_sem, n1, n2, n3, n4, hk1, ghk4, hhk4, hk5] at hk6
      all_goals
      obtain rfl := so_some h
      refine ⟨0, fun L hL => ?_⟩
      simp only [go_sem, ir10, E_impl_readLog_l1, R_impl_readLog_l1, ir10_b0, ir10_k0, ir10_o0, ir10_r0, hk1, fhk2, fhk3, ghk4, hhk4, fhk4, hk5, hk6]
  · have ghk4n := no_f ghk4
    rcases or_t ghk4n with ghk4na | ⟨ghk4na, ghk4nb⟩
    · rcases or_t ghk4na with ghk4naa | ⟨ghk4naa, ghk4nab⟩
      · have ghk4naan := no_t ghk4naa
        try simp only [go_sem, n1, n2, n3, n4, hk1] at ghk4naan
        all_goals
        rcases it_some h with ⟨hk5, h⟩ | ⟨hk5, h⟩
        · try simp only [go_sem, n1, n2, n3, n4, hk1, ghk4naan] at hk5
          all_goals
          obtain rfl := so_some h
          refine ⟨0, fun L hL => ?_⟩
          simp only [go_sem, ir10, E_impl_readLog_l1, R_impl_readLog_l1, ir10_b0, ir10_k0, ir10_o0, ir10_r0, hk1, fhk2, fhk3, ghk4naan, hk5]
        · try simp only [go_sem, n1, n2, n3, n4, hk1, ghk4naan] at hk5
          all_goals
          obtain ⟨hk6, h⟩ := ck_some h
          try simp only [go_sem, n1, n2, n3, n4, hk1, ghk4naan, hk5] at hk6
          all_goals
          obtain rfl := so_some h
          refine ⟨0, fun L hL => ?_⟩
          simp only [go_sem, ir10, E_impl_readLog_l1, R_impl_readLog_l1, ir10_b0, ir10_k0, ir10_o0, ir10_r0, hk1, fhk2, fhk3, ghk4naan, hk5, hk6]
      · have ghk4naan := no_f ghk4naa
        have ghk4nabn := no_t ghk4nab
        try simp only [go_sem, n1, n2, n3, n4, hk1] at ghk4naan
        all_goals
        try simp only [go_sem, n1, n2, n3, n4, hk1, ghk4naan] at ghk4nabn
        all_goals
        rcases it_some h with ⟨hk5, h⟩ | ⟨hk5, h⟩
        · try simp only [go_sem, n1, n2, n3, n4, hk1, ghk4naan, ghk4nabn] at hk5
          all_goals
          obtain rfl := so_some h
          refine ⟨0, fun L hL => ?_⟩
          simp only [go_sem, ir10, E_impl_readLog_l1, R_impl_readLog_l1, ir10_b0, ir10_k0, ir10_o0, ir10_r0, hk1, fhk2, fhk3, ghk4naan, ghk4nabn, hk5]
        · try simp only [go_sem, n1, n2, n3, n4, hk1, ghk4naan, ghk4nabn] at hk5
          all_goals
          obtain ⟨hk6, h⟩ := ck_some h
          try simp only [go_sem, n1, n2, n3, n4, hk1, ghk4naan, ghk4nabn, hk5] at hk6
          all_goals
          obtain rfl := so_some h
          refine ⟨0, fun L hL => ?_⟩
          simp only [go_sem, ir10, E_impl_readLog_l1, R_impl_readLog_l1, ir10_b0, ir10_k0, ir10_o0, ir10_r0, hk1, fhk2, fhk3, ghk4naan, ghk4nabn, hk5, hk6]
    · obtain ⟨ghk4naa, ghk4nab⟩ := or_f ghk4na
      have ghk4naan := no_f ghk4naa
      have ghk4nabn := no_f ghk4nab
      try simp only [go_sem, n1, n2, n3, n4, hk1] at ghk4naan
      all_goals
      try simp only [go_sem, n1, n2, n3, n4, hk1, ghk4naan] at ghk4nabn
      all_goals
      try simp only [go_sem, n1, n2, n3, n4, hk1, ghk4naan, ghk4nabn] at ghk4nb
      all_goals
      rcases it_some h with ⟨hk5, h⟩ | ⟨hk5, h⟩
      · try simp only [go_sem, n1, n2, n3, n4, hk1, ghk4naan, ghk4nabn, ghk4nb] at hk5
        all_goals
        obtain rfl := so_some h
        refine ⟨0, fun L hL => ?_⟩
        simp only [go_sem, ir10, E_impl_readLog_l1, R_impl_readLog_l1, ir10_b0, ir10_k0, ir10_o0, ir10_r0, hk1, fhk2, fhk3, ghk4naan, ghk4nabn, ghk4nb, hk5]
      · try simp only [go_sem, n1, n2, n3, n4, hk1, ghk4naan, ghk4nabn, ghk4nb] at hk5
        all_goals
        obtain ⟨hk6, h⟩ := ck_some h
        try simp only [go_sem, n1, n2, n3, n4, hk1, ghk4naan, ghk4nabn, ghk4nb, hk5] at hk6
        all_goals
        obtain rfl := so_some h
        refine ⟨0, fun L hL => ?_⟩
        simp only [go_sem, ir10, E_impl_readLog_l1, R_impl_readLog_l1, ir10_b0, ir10_k0, ir10_o0, ir10_r0, hk1, fhk2, fhk3, ghk4naan, ghk4nabn, ghk4nb, hk5, hk6]

theorem Fs_impl_readLog {log : List UInt8} {y_ : (List Entry) × Int × Int} (h : impl_readLog log = some y_) : c_impl_readLog.F [.str log] = ⟨true, .tup [.fresh 3 (List.map Entry_av y_.1), .int .i64 y_.2.1, .int .i64 y_.2.2], [.any]⟩ := by
  refine mkF_E (by simp only [flatA, flatB, flat1, List.all_cons, List.all_nil, Bool.and_self, flatE_map (f := Entry_av) (fun _ => rfl)]) ?_
  dsimp only [impl_readLog] at h
  obtain ⟨y_7, hk7, h⟩ := bd_some h
  obtain ⟨Lhk7, ehk7⟩ := impl_readLog_l1_ex hk7
  obtain rfl := so_some h
  refine ⟨Lhk7, fun L hL => ?_⟩
  have ehk7 := ehk7 L (by omega)
  try simp only [go_sem, E_impl_readLog_l1, R_impl_readLog_l1, ir10_k0, ir10_o0, ir10_r0] at ehk7
  simp only [go_sem, ir10, E_impl_readLog_l1, R_impl_readLog_l1, ir10_k0, ir10_o0, ir10_r0, ehk7]


def ir6_v : List Nat := [0, 2, 3, 5]
def ir6 : AFn := ⟨1, 4, .seq (.region false [
    ⟨.var 1, 2, none, .mov (.c (.int .i64 (0)))⟩,
    ⟨.var 2, 3, none, .mov (.c (.int .i64 (0)))⟩])
 (.seq (.test false [
    ⟨.push, 7, none, .mov (.v 0)⟩,
    ⟨.push, 8, none, .len true (.s 0)⟩,
    ⟨.push, 9, none, .bin false .gtr (.s 0) (.c (.int .i64 (4000)))⟩] (.s 0)
  (.seq (.region false [
      ⟨.var 1, 2, none, .mov (.c (.int .i64 (0)))⟩,
      ⟨.var 2, 3, none, .mov (.c (.int .i64 (5)))⟩])
   (.ret))
  (.skip))
 (.seq (.region false [
    ⟨.push, 11, none, .mov (.v 0)⟩,
    ⟨.push, 12, none, .call 10 [(.s 0)]⟩,
    ⟨.push, 10, none, .mov (.s 0)⟩,
    ⟨.push, 13, none, .ext (.s 0) 0⟩,
    ⟨.push, 14, none, .ext (.s 1) 1⟩,
    ⟨.push, 15, none, .ext (.s 2) 2⟩,
    ⟨.push, 4, none, .mov (.s 2)⟩,
    ⟨.var 3, 5, none, .mov (.s 2)⟩,
    ⟨.push, 6, none, .mov (.s 1)⟩])
 (.seq (.region false [
    ⟨.push, 16, none, .mov (.v 3)⟩,
    ⟨.var 1, 2, none, .mov (.s 0)⟩,
    ⟨.var 2, 3, none, .mov (.c (.int .i64 (0)))⟩])
 (.ret)))), [.t 1, .t 2]⟩
noncomputable def t_impl_CheckLog : List (Nat × Ctr) := [(10, c_impl_readLog)]
theorem lk_impl_CheckLog_10 : look t_impl_CheckLog 10 = some c_impl_readLog := rfl
noncomputable def c_impl_CheckLog : Ctr := mkF t_impl_CheckLog ir6 [.bor]
theorem s_impl_CheckLog : Sound Tryd.prog 6 c_impl_CheckLog := mkF_sound _ rfl (snd_cons s_impl_readLog snd_nil) (by kernel_rfl : chkFn Tryd.prog 6 ir6 ir6_v = true)
theorem M_impl_CheckLog : c_impl_CheckLog.modes = [.bor] := rfl
theorem Fl_impl_CheckLog : c_impl_CheckLog.flat = true := rfl
attribute [go_sem] M_impl_CheckLog Fl_impl_CheckLog
attribute [go_sem] lk_impl_CheckLog_10
theorem Fs_impl_CheckLog {log : List UInt8} {y_ : Int × Int} (h : impl_CheckLog log = some y_) : c_impl_CheckLog.F [.str log] = ⟨true, .tup [.int .i64 y_.1, .int .i64 y_.2], [.any]⟩ := by
  refine mkF_E rfl ?_
  dsimp only [impl_CheckLog] at h
  rcases it_some h with ⟨hk1, h⟩ | ⟨hk1, h⟩
  · try simp only [go_sem, n1, n2, n3, n4] at hk1
    all_goals
    obtain rfl := so_some h
    refine ⟨0, fun L hL => ?_⟩
    simp only [go_sem, ir6, hk1]
  · try simp only [go_sem, n1, n2, n3, n4] at hk1
    all_goals
    obtain ⟨y_2, hk2, h⟩ := bd_some h
    have fhk2 := Fs_impl_readLog hk2
    try simp only [go_sem, hk1] at fhk2
    obtain rfl := so_some h
    refine ⟨0, fun L hL => ?_⟩
    simp only [go_sem, ir6, hk1, fhk2]


def ir3_v : List Nat := [0, 2, 3, 4, 5, 6]
def ir3 : AFn := ⟨1, 6, .seq (.region false [
    ⟨.var 1, 2, none, .mov (.c (.bool false))⟩])
 (.seq (.test false [
    ⟨.push, 7, none, .mov (.v 0)⟩,
    ⟨.push, 8, none, .len true (.s 0)⟩,
    ⟨.push, 9, none, .bin false .gtr (.s 0) (.c (.int .i64 (1048576)))⟩] (.s 0)
  (.seq (.region false [
      ⟨.var 1, 2, none, .mov (.c (.bool true))⟩])
   (.ret))
  (.skip))
 (.seq (.region false [
    ⟨.push, 11, none, .mov (.v 0)⟩,
    ⟨.push, 12, none, .call 5 [(.s 0)]⟩,
    ⟨.push, 10, none, .mov (.s 0)⟩,
    ⟨.push, 13, none, .ext (.s 0) 0⟩,
    ⟨.push, 14, none, .ext (.s 1) 1⟩,
    ⟨.var 2, 3, none, .mov (.s 1)⟩,
    ⟨.var 3, 4, none, .mov (.s 0)⟩])
 (.seq (.region false [
    ⟨.push, 16, none, .mov (.v 0)⟩,
    ⟨.push, 17, none, .call 6 [(.s 0)]⟩,
    ⟨.push, 15, none, .mov (.s 0)⟩,
    ⟨.push, 18, none, .ext (.s 0) 0⟩,
    ⟨.push, 19, none, .ext (.s 1) 1⟩,
    ⟨.var 4, 5, none, .mov (.s 1)⟩,
    ⟨.var 5, 6, none, .mov (.s 0)⟩])
 (.seq (.test false [
    ⟨.push, 20, none, .mov (.v 4)⟩,
    ⟨.push, 21, none, .mov (.v 2)⟩,
    ⟨.push, 22, none, .bin false .neq (.s 1) (.s 0)⟩,
    ⟨.push, 23, none, .mov (.s 0)⟩,
    ⟨.push, 24, (some ((.s 0), false)), .mov (.v 5)⟩,
    ⟨.push, 25, (some ((.s 1), false)), .mov (.v 3)⟩,
    ⟨.push, 26, (some ((.s 2), false)), .bin false .neq (.s 1) (.s 0)⟩,
    ⟨.push, 27, none, .pick (.s 3) (.c (.bool true)) (.s 0)⟩] (.s 0)
  (.seq (.region false [
      ⟨.var 1, 2, none, .mov (.c (.bool false))⟩])
   (.ret))
  (.skip))
 (.seq (.region false [
    ⟨.var 1, 2, none, .mov (.c (.bool true))⟩])
 (.ret)))))), [.t 1]⟩
noncomputable def t_laws_FnExactCheckLog : List (Nat × Ctr) := [(5, c_spec_CheckLog), (6, c_impl_CheckLog)]
theorem lk_laws_FnExactCheckLog_5 : look t_laws_FnExactCheckLog 5 = some c_spec_CheckLog := rfl
theorem lk_laws_FnExactCheckLog_6 : look t_laws_FnExactCheckLog 6 = some c_impl_CheckLog := rfl
noncomputable def c_laws_FnExactCheckLog : Ctr := mkF t_laws_FnExactCheckLog ir3 [.bor]
theorem s_laws_FnExactCheckLog : Sound Tryd.prog 3 c_laws_FnExactCheckLog := mkF_sound _ rfl (snd_cons s_spec_CheckLog (snd_cons s_impl_CheckLog snd_nil)) (by kernel_rfl : chkFn Tryd.prog 3 ir3 ir3_v = true)
theorem M_laws_FnExactCheckLog : c_laws_FnExactCheckLog.modes = [.bor] := rfl
theorem Fl_laws_FnExactCheckLog : c_laws_FnExactCheckLog.flat = true := rfl
attribute [go_sem] M_laws_FnExactCheckLog Fl_laws_FnExactCheckLog
attribute [go_sem] lk_laws_FnExactCheckLog_5 lk_laws_FnExactCheckLog_6
theorem Fs_laws_FnExactCheckLog {aLog : List UInt8} {y_ : Bool} (h : laws_FnExactCheckLog aLog = some y_) : c_laws_FnExactCheckLog.F [.str aLog] = ⟨true, .bool y_, [.any]⟩ := by
  refine mkF_E rfl ?_
  dsimp only [laws_FnExactCheckLog] at h
  rcases it_some h with ⟨hk1, h⟩ | ⟨hk1, h⟩
  · try simp only [go_sem, n1, n2, n3, n4] at hk1
    all_goals
    obtain rfl := so_some h
    refine ⟨0, fun L hL => ?_⟩
    simp only [go_sem, ir3, hk1]
  · try simp only [go_sem, n1, n2, n3, n4] at hk1
    all_goals
    obtain ⟨y_2, hk2, h⟩ := bd_some h
    have fhk2 := Fs_spec_CheckLog hk2
    try simp only [go_sem, hk1] at fhk2
    obtain ⟨y_3, hk3, h⟩ := bd_some h
    have fhk3 := Fs_impl_CheckLog hk3
    try simp only [go_sem, hk1] at fhk3
    rcases it_some h with ⟨hk4, h⟩ | ⟨hk4, h⟩
    · try simp only [go_sem, n1, n2, n3, n4, hk1] at hk4
      all_goals
      obtain rfl := so_some h
      refine ⟨0, fun L hL => ?_⟩
      simp only [go_sem, ir3, hk1, fhk2, fhk3, hk4]
    · try simp only [go_sem, n1, n2, n3, n4, hk1] at hk4
      all_goals
      obtain rfl := so_some h
      refine ⟨0, fun L hL => ?_⟩
      simp only [go_sem, ir3, hk1, fhk2, fhk3, hk4]


def ir7_v : List Nat := [0, 2, 3, 4, 5]
def ir7 : AFn := ⟨1, 5, .seq (.region false [
    ⟨.var 1, 2, none, .mov (.c (.str []))⟩,
    ⟨.var 2, 3, none, .mov (.c (.int .i64 (0)))⟩,
    ⟨.var 3, 4, none, .mov (.c (.int .i64 (0)))⟩])
 (.seq (.test false [
    ⟨.push, 6, none, .mov (.v 0)⟩,
    ⟨.push, 7, none, .len true (.s 0)⟩,
    ⟨.push, 8, none, .bin false .gtr (.s 0) (.c (.int .i64 (4000)))⟩] (.s 0)
  (.seq (.region false [
      ⟨.var 1, 2, none, .mov (.c (.str []))⟩,
      ⟨.var 2, 3, none, .mov (.c (.int .i64 (0)))⟩,
      ⟨.var 3, 4, none, .mov (.c (.int .i64 (5)))⟩])
   (.ret))
  (.skip))
 (.seq (.region false [
    ⟨.push, 9, none, .mov (.v 0)⟩,
    ⟨.push, 10, none, .call 9 [(.s 0)]⟩,
    ⟨.push, 11, none, .nilck (.s 0)⟩,
    ⟨.push, 12, none, .fldAddr 1 (.s 0)⟩,
    ⟨.push, 13, none, .load false 1 (.s 0)⟩,
    ⟨.var 4, 5, none, .mov (.s 0)⟩])
 (.seq (.region false [
    ⟨.push, 14, none, .mov (.v 0)⟩,
    ⟨.push, 15, none, .mov (.v 4)⟩,
    ⟨.push, 16, none, .slice 0 (.s 1) none (some (.s 0))⟩,
    ⟨.push, 17, none, .mov (.v 0)⟩,
    ⟨.push, 18, none, .len true (.s 0)⟩,
    ⟨.push, 19, none, .mov (.v 4)⟩,
    ⟨.push, 20, none, .bin false .sub (.s 1) (.s 0)⟩,
    ⟨.var 1, 2, none, .mov (.s 4)⟩,
    ⟨.var 2, 3, none, .mov (.s 0)⟩,
    ⟨.var 3, 4, none, .mov (.c (.int .i64 (0)))⟩])
 (.ret)))), [.t 1, .t 2, .t 3]⟩
noncomputable def t_spec_RecoverLog : List (Nat × Ctr) := [(9, c_spec_l27Read)]
theorem lk_spec_RecoverLog_9 : look t_spec_RecoverLog 9 = some c_spec_l27Read := rfl
noncomputable def c_spec_RecoverLog : Ctr := mkF t_spec_RecoverLog ir7 [.bor]
theorem s_spec_RecoverLog : Sound Tryd.prog 7 c_spec_RecoverLog := mkF_sound _ rfl (snd_cons s_spec_l27Read snd_nil) (by kernel_rfl : chkFn Tryd.prog 7 ir7 ir7_v = true)
theorem M_spec_RecoverLog : c_spec_RecoverLog.modes = [.bor] := rfl
theorem Fl_spec_RecoverLog : c_spec_RecoverLog.flat = true := rfl
attribute [go_sem] M_spec_RecoverLog Fl_spec_RecoverLog
attribute [go_sem] lk_spec_RecoverLog_9
theorem Fs_spec_RecoverLog {log : List UInt8} {y_ : (List UInt8) × Int × Int} (h : spec_RecoverLog log = some y_) : c_spec_RecoverLog.F [.str log] = ⟨true, .tup [.str y_.1, .int .i64 y_.2.1, .int .i64 y_.2.2], [.any]⟩ := by
  refine mkF_E rfl ?_
  dsimp only [spec_RecoverLog] at h
  rcases it_some h with ⟨hk1, h⟩ | ⟨hk1, h⟩
  · try simp only [go_sem, n1, n2, n3, n4] at hk1
    all_goals
    obtain rfl := so_some h
    refine ⟨0, fun L hL => ?_⟩
    simp only [go_sem, ir7, hk1]
  · try simp only [go_sem, n1, n2, n3, n4] at hk1
    all_goals
    obtain ⟨y_2, hk2, h⟩ := bd_some h
    have fhk2 := Fs_spec_l27Read hk2
    try simp only [go_sem, hk1] at fhk2
    obtain ⟨hk3, h⟩ := ck_some h
    try simp only [go_sem, n1, n2, n3, n4, hk1] at hk3
    all_goals
    obtain rfl := so_some h
    refine ⟨0, fun L hL => ?_⟩
    simp only [go_sem, ir7, hk1, fhk2, hk3]


def ir8_v : List Nat := [0, 2, 3, 4, 5, 6]
def ir8 : AFn := ⟨1, 6, .seq (.region false [
    ⟨.var 1, 2, none, .mov (.c (.str []))⟩,
    ⟨.var 2, 3, none, .mov (.c (.int .i64 (0)))⟩,
    ⟨.var 3, 4, none, .mov (.c (.int .i64 (0)))⟩])
 (.seq (.region false [
    ⟨.push, 8, none, .mov (.v 0)⟩,
    ⟨.push, 9, none, .call 6 [(.s 0)]⟩,
    ⟨.push, 7, none, .mov (.s 0)⟩,
    ⟨.push, 10, none, .ext (.s 0) 0⟩,
    ⟨.push, 11, none, .ext (.s 1) 1⟩,
    ⟨.var 4, 5, none, .mov (.s 1)⟩,
    ⟨.var 5, 6, none, .mov (.s 0)⟩])
 (.seq (.test false [
    ⟨.push, 12, none, .mov (.v 5)⟩,
    ⟨.push, 13, none, .bin false .neq (.s 0) (.c (.int .i64 (0)))⟩] (.s 0)
  (.seq (.region false [
      ⟨.push, 14, none, .mov (.v 5)⟩,
      ⟨.var 1, 2, none, .mov (.c (.str []))⟩,
      ⟨.var 2, 3, none, .mov (.c (.int .i64 (0)))⟩,
      ⟨.var 3, 4, none, .mov (.s 0)⟩])
   (.ret))
  (.skip))
 (.seq (.region false [
    ⟨.push, 15, none, .mov (.v 0)⟩,
    ⟨.push, 16, none, .mov (.v 4)⟩,
    ⟨.push, 17, none, .slice 0 (.s 1) none (some (.s 0))⟩,
    ⟨.push, 18, none, .mov (.v 0)⟩,
    ⟨.push, 19, none, .len true (.s 0)⟩,
    ⟨.push, 20, none, .mov (.v 4)⟩,
    ⟨.push, 21, none, .bin false .sub (.s 1) (.s 0)⟩,
    ⟨.var 1, 2, none, .mov (.s 4)⟩,
    ⟨.var 2, 3, none, .mov (.s 0)⟩,
    ⟨.var 3, 4, none, .mov (.c (.int .i64 (0)))⟩])
 (.ret)))), [.t 1, .t 2, .t 3]⟩
noncomputable def t_impl_RecoverLog : List (Nat × Ctr) := [(6, c_impl_CheckLog)]
theorem lk_impl_RecoverLog_6 : look t_impl_RecoverLog 6 = some c_impl_CheckLog := rfl
noncomputable def c_impl_RecoverLog : Ctr := mkF t_impl_RecoverLog ir8 [.bor]
theorem s_impl_RecoverLog : Sound Tryd.prog 8 c_impl_RecoverLog := mkF_sound _ rfl (snd_cons s_impl_CheckLog snd_nil) (by kernel_rfl : chkFn Tryd.prog 8 ir8 ir8_v = true)
theorem M_impl_RecoverLog : c_impl_RecoverLog.modes = [.bor] := rfl
theorem Fl_impl_RecoverLog : c_impl_RecoverLog.flat = true := rfl
attribute [go_sem] M_impl_RecoverLog Fl_impl_RecoverLog
attribute [go_sem] lk_impl_RecoverLog_6
theorem Fs_impl_RecoverLog {log : List UInt8} {y_ : (List UInt8) × Int × Int} (h : impl_RecoverLog log = some y_) : c_impl_RecoverLog.F [.str log] = ⟨true, .tup [.str y_.1, .int .i64 y_.2.1, .int .i64 y_.2.2], [.any]⟩ := by
  refine mkF_E rfl ?_
  dsimp only [impl_RecoverLog] at h
  obtain ⟨y_1, hk1, h⟩ := bd_some h
  have fhk1 := Fs_impl_CheckLog hk1
  try simp only [go_sem] at fhk1
  rcases it_some h with ⟨hk2, h⟩ | ⟨hk2, h⟩
  · try simp only [go_sem, n1, n2, n3, n4] at hk2
    all_goals
    obtain rfl := so_some h
    refine ⟨0, fun L hL => ?_⟩
    simp only [go_sem, ir8, fhk1, hk2]
  · try simp only [go_sem, n1, n2, n3, n4] at hk2
    all_goals
    obtain ⟨hk3, h⟩ := ck_some h
    try simp only [go_sem, n1, n2, n3, n4, hk2] at hk3
    all_goals
    obtain rfl := so_some h
    refine ⟨0, fun L hL => ?_⟩
    simp only [go_sem, ir8, fhk1, hk2, hk3]


def ir4_v : List Nat := [0, 2, 3, 4, 5, 6, 7, 8]
def ir4 : AFn := ⟨1, 8, .seq (.region false [
    ⟨.var 1, 2, none, .mov (.c (.bool false))⟩])
 (.seq (.test false [
    ⟨.push, 9, none, .mov (.v 0)⟩,
    ⟨.push, 10, none, .len true (.s 0)⟩,
    ⟨.push, 11, none, .bin false .gtr (.s 0) (.c (.int .i64 (1048576)))⟩] (.s 0)
  (.seq (.region false [
      ⟨.var 1, 2, none, .mov (.c (.bool true))⟩])
   (.ret))
  (.skip))
 (.seq (.region false [
    ⟨.push, 13, none, .mov (.v 0)⟩,
    ⟨.push, 14, none, .call 7 [(.s 0)]⟩,
    ⟨.push, 12, none, .mov (.s 0)⟩,
    ⟨.push, 15, none, .ext (.s 0) 0⟩,
    ⟨.push, 16, none, .ext (.s 1) 1⟩,
    ⟨.push, 17, none, .ext (.s 2) 2⟩,
    ⟨.var 2, 3, none, .mov (.s 2)⟩,
    ⟨.var 3, 4, none, .mov (.s 1)⟩,
    ⟨.var 4, 5, none, .mov (.s 0)⟩])
 (.seq (.region false [
    ⟨.push, 19, none, .mov (.v 0)⟩,
    ⟨.push, 20, none, .call 8 [(.s 0)]⟩,
    ⟨.push, 18, none, .mov (.s 0)⟩,
    ⟨.push, 21, none, .ext (.s 0) 0⟩,
    ⟨.push, 22, none, .ext (.s 1) 1⟩,
    ⟨.push, 23, none, .ext (.s 2) 2⟩,
    ⟨.var 5, 6, none, .mov (.s 2)⟩,
    ⟨.var 6, 7, none, .mov (.s 1)⟩,
    ⟨.var 7, 8, none, .mov (.s 0)⟩])
 (.seq (.test false [
    ⟨.push, 24, none, .mov (.v 5)⟩,
    ⟨.push, 25, none, .mov (.v 2)⟩,
    ⟨.push, 26, none, .bin false .neq (.s 1) (.s 0)⟩,
    ⟨.push, 27, none, .mov (.s 0)⟩,
    ⟨.push, 28, (some ((.s 0), false)), .mov (.v 6)⟩,
    ⟨.push, 29, (some ((.s 1), false)), .mov (.v 3)⟩,
    ⟨.push, 30, (some ((.s 2), false)), .bin false .neq (.s 1) (.s 0)⟩,
    ⟨.push, 31, none, .pick (.s 3) (.c (.bool true)) (.s 0)⟩,
    ⟨.push, 32, none, .mov (.s 0)⟩,
    ⟨.push, 33, (some ((.s 0), false)), .mov (.v 7)⟩,
    ⟨.push, 34, (some ((.s 1), false)), .mov (.v 4)⟩,
    ⟨.push, 35, (some ((.s 2), false)), .bin false .neq (.s 1) (.s 0)⟩,
    ⟨.push, 36, none, .pick (.s 3) (.c (.bool true)) (.s 0)⟩] (.s 0)
  (.seq (.region false [
      ⟨.var 1, 2, none, .mov (.c (.bool false))⟩])
   (.ret))
  (.skip))
 (.seq (.region false [
    ⟨.var 1, 2, none, .mov (.c (.bool true))⟩])
 (.ret)))))), [.t 1]⟩
noncomputable def t_laws_FnExactRecoverLog : List (Nat × Ctr) := [(7, c_spec_RecoverLog), (8, c_impl_RecoverLog)]
theorem lk_laws_FnExactRecoverLog_7 : look t_laws_FnExactRecoverLog 7 = some c_spec_RecoverLog := rfl
theorem lk_laws_FnExactRecoverLog_8 : look t_laws_FnExactRecoverLog 8 = some c_impl_RecoverLog := rfl
noncomputable def c_laws_FnExactRecoverLog : Ctr := mkF t_laws_FnExactRecoverLog ir4 [.bor]
theorem s_laws_FnExactRecoverLog : Sound Tryd.prog 4 c_laws_FnExactRecoverLog := mkF_sound _ rfl (snd_cons s_spec_RecoverLog (snd_cons s_impl_RecoverLog snd_nil)) (by kernel_rfl : chkFn Tryd.prog 4 ir4 ir4_v = true)
theorem M_laws_FnExactRecoverLog : c_laws_FnExactRecoverLog.modes = [.bor] := rfl
theorem Fl_laws_FnExactRecoverLog : c_laws_FnExactRecoverLog.flat = true := rfl
attribute [go_sem] M_laws_FnExactRecoverLog Fl_laws_FnExactRecoverLog
attribute [go_sem] lk_laws_FnExactRecoverLog_7 lk_laws_FnExactRecoverLog_8
theorem Fs_laws_FnExactRecoverLog {aLog : List UInt8} {y_ : Bool} (h : laws_FnExactRecoverLog aLog = some y_) : c_laws_FnExactRecoverLog.F [.str aLog] = ⟨true, .bool y_, [.any]⟩ := by
  refine mkF_E rfl ?_
  dsimp only [laws_FnExactRecoverLog] at h
  rcases it_some h with ⟨hk1, h⟩ | ⟨hk1, h⟩
  · try simp only [go_sem, n1, n2, n3, n4] at hk1
    all_goals
    obtain rfl := so_some h
    refine ⟨0, fun L hL => ?_⟩
    simp only [go_sem, ir4, hk1]
  · try simp only [go_sem, n1, n2, n3, n4] at hk1
    all_goals
    obtain ⟨y_2, hk2, h⟩ := bd_some h
    have fhk2 := Fs_spec_RecoverLog hk2
    try simp only [go_sem, hk1] at fhk2
    obtain ⟨y_3, hk3, h⟩ := bd_some h
    have fhk3 := Fs_impl_RecoverLog hk3
    try simp only [go_sem, hk1] at fhk3
    rcases it_some h with ⟨hk4, h⟩ | ⟨hk4, h⟩
    · try simp only [go_sem, n1, n2, n3, n4, hk1] at hk4
      all_goals
      obtain rfl := so_some h
      refine ⟨0, fun L hL => ?_⟩
      simp only [go_sem, ir4, hk1, fhk2, fhk3, hk4]
    · try simp only [go_sem, n1, n2, n3, n4, hk1] at hk4
      all_goals
      obtain rfl := so_some h
      refine ⟨0, fun L hL => ?_⟩
      simp only [go_sem, ir4, hk1, fhk2, fhk3, hk4]


end Go.Proofs.YtgbopjgnggdhkaaDoor
