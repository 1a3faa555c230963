/- Codes and contracts of the functions that B9 reaches, and that their typed forms say what they do. No condition. -/
import Derived.Test.YtgbopjgnggdhkaaR9T
import Derived.Test.YtgbopjgnggdhkaaEngSG
import Derived.Test.YtgbopjgnggdhkaaRows
import Derived.WalkKit
namespace Go.Proofs.Ytgbopjgnggdhkaa
open Go Go.RowKit
set_option linter.unusedVariables false
set_option linter.unusedSimpArgs false
set_option maxRecDepth 10000

def ir15_b0 : IR := .seq (.test false [
    ⟨.push, 8, none, .mov (.v 3)⟩,
    ⟨.push, 9, none, .mov (.v 0)⟩,
    ⟨.push, 10, none, .len false (.s 0)⟩,
    ⟨.push, 11, none, .bin false .lss (.s 2) (.s 0)⟩] (.s 0)
  (.skip)
  (.exit 0))
 (.seq (.block 1 (.region false [
     ⟨.push, 14, none, .mov (.v 2)⟩,
     ⟨.push, 15, none, .mov (.v 3)⟩,
     ⟨.push, 16, none, .mov (.v 0)⟩,
     ⟨.push, 17, none, .mov (.v 3)⟩,
     ⟨.push, 18, none, .ixAddr 1 (.s 1) (.s 0)⟩,
     ⟨.push, 19, none, .load false 1 (.s 0)⟩,
     ⟨.push, 20, none, .ixAddr 1 (.s 5) (.s 4)⟩,
     ⟨.no, 0, none, .store 1 (.s 0) (.s 1)⟩]))
 (.region false [
   ⟨.push, 12, none, .mov (.v 3)⟩,
   ⟨.push, 13, none, .bin false .add (.s 0) (.c (.int .i64 (1)))⟩,
   ⟨.var 3, 4, none, .mov (.s 0)⟩]))
def ir15_k0 : List Bool := [true, false, true, true]
def ir15_o0 : List Bool := [false, false, true, false]
def ir15_r0 : List Bool := [false, true, false, false]
def ir15_v : List Nat := [0, 2, 3, 4]
def ir15 : AFn := ⟨1, 4, .seq (.region false [
    ⟨.var 1, 2, none, .newnil 1⟩])
 (.seq (.region false [
    ⟨.push, 5, none, .mov (.v 0)⟩,
    ⟨.push, 6, none, .len false (.s 0)⟩,
    ⟨.push, 7, none, .make 1 1 (.int .u8 (0)) (.s 0) (.s 0)⟩,
    ⟨.var 2, 3, none, .mov (.s 0)⟩])
 (.seq (.seq (.region false [
     ⟨.var 3, 4, none, .mov (.c (.int .i64 (0)))⟩])
  (.block 0 (.loop ir15_k0 ir15_o0 ir15_r0 ir15_b0)))
 (.seq (.region false [
    ⟨.push, 21, none, .mov (.v 2)⟩,
    ⟨.var 1, 2, none, .mov (.s 0)⟩])
 (.ret)))), [.t 1]⟩
noncomputable def t_laws_toByteS : List (Nat × Ctr) := []
noncomputable def c_laws_toByteS : Ctr := mkF t_laws_toByteS ir15 [.bor]
theorem s_laws_toByteS : Sound Try.prog 15 c_laws_toByteS := mkF_sound _ rfl snd_nil (by kernel_rfl : chkFn Try.prog 15 ir15 ir15_v = true)
theorem M_laws_toByteS : c_laws_toByteS.modes = [.bor] := rfl
theorem Fl_laws_toByteS : c_laws_toByteS.flat = true := rfl
attribute [go_sem] M_laws_toByteS Fl_laws_toByteS
def E_laws_toByteS_l1 (a : List UInt8) : ((List UInt8) × Int) → St
  | (out, i) => ⟨[.sl 1 (List.map byteAV a), .any, .own 3200000, .int .i64 i], [], [(3200000, ⟨1, List.map byteAV out⟩)], true⟩
def R_laws_toByteS_l1 (a : List UInt8) (y : (List UInt8)) : Res := (.exit 0, ⟨[.any, .any, .own 3200000, .any], [], [(3200000, ⟨1, List.map byteAV y⟩)], true⟩)
theorem laws_toByteS_l1_ex {a : List UInt8} {sgm_ : (List UInt8) × Int} {rho_ : (List UInt8)} (h : whileE (laws_toByteS_l1 a) sgm_ = some rho_) : ∃ L0, ∀ L, L0 ≤ L → iter (exec (look t_laws_toByteS) L ir15_b0) ir15_k0 ir15_o0 ir15_r0 L (E_laws_toByteS_l1 a sgm_) = R_laws_toByteS_l1 a rho_ := by
  refine loop_ex (E := E_laws_toByteS_l1 a) (R := R_laws_toByteS_l1 a) (fun y => by first | (intro c; cases c) | (rcases y with y | y <;> (intro c; cases c)) | (rcases y with y | y | y <;> (intro c; cases c))) ?_ h
  clear h
  rintro ⟨out, i⟩ o_ h
  dsimp only [laws_toByteS_l1] at h
  rcases it_some h with ⟨hk2, h⟩ | ⟨hk2, h⟩
  · try simp only [go_sem, n1, n2, n3, n4] at hk2
    all_goals
    obtain ⟨hk3, h⟩ := ck_some h
    have lhk3 := ix_lt hk3
    have xhk3 := getD_mapD byteAV a lhk3
    try simp only [go_sem] at lhk3
    try simp only [go_sem] at xhk3
    try simp only [go_sem, n1, n2, n3, n4, hk2] at hk3
    all_goals
    obtain ⟨hk4, h⟩ := ck_some h
    have lhk4 := ix_lt hk4
    have xhk4 := getD_mapD byteAV out lhk4
    try simp only [go_sem] at lhk4
    try simp only [go_sem] at xhk4
    try simp only [go_sem, n1, n2, n3, n4, hk2, hk3] at hk4
    all_goals
    obtain rfl := so_some h
    refine ⟨0, fun L hL => ?_⟩
    simp only [go_sem, ir15, E_laws_toByteS_l1, R_laws_toByteS_l1, ir15_b0, ir15_k0, ir15_o0, ir15_r0, hk2, hk3, lhk3, xhk3, hk4, lhk4, xhk4]
  · try simp only [go_sem, n1, n2, n3, n4] at hk2
    all_goals
    obtain rfl := so_some h
    refine ⟨0, fun L hL => ?_⟩
    simp only [go_sem, ir15, E_laws_toByteS_l1, R_laws_toByteS_l1, ir15_b0, ir15_k0, ir15_o0, ir15_r0, hk2]

theorem Fs_laws_toByteS {a : List UInt8} {y_ : (List UInt8)} (h : laws_toByteS a = some y_) : c_laws_toByteS.F [.sl 1 (List.map byteAV a)] = ⟨true, .fresh 1 (List.map byteAV y_), [.any]⟩ := by
  refine mkF_E (by simp only [flatA, flatB, flat1, List.all_cons, List.all_nil, Bool.and_self, flatE_map (f := byteAV) (fun _ => rfl)]) ?_
  dsimp only [laws_toByteS] at h
  obtain ⟨hk1, h⟩ := ck_some h
  try simp only [go_sem, n1, n2, n3, n4] at hk1
  all_goals
  obtain ⟨y_5, hk5, h⟩ := bd_some h
  obtain ⟨Lhk5, ehk5⟩ := laws_toByteS_l1_ex hk5
  obtain rfl := so_some h
  refine ⟨Lhk5, fun L hL => ?_⟩
  have ehk5 := ehk5 L (by omega)
  try simp only [go_sem, E_laws_toByteS_l1, R_laws_toByteS_l1, ir15_k0, ir15_o0, ir15_r0, hk1] at ehk5
  simp only [go_sem, ir15, E_laws_toByteS_l1, R_laws_toByteS_l1, ir15_k0, ir15_o0, ir15_r0, hk1, ehk5]


def ir58_b0 : IR := .seq (.test false [
    ⟨.push, 6, none, .mov (.v 4)⟩,
    ⟨.push, 7, none, .mov (.v 0)⟩,
    ⟨.push, 8, none, .len false (.s 0)⟩,
    ⟨.push, 9, none, .bin false .lss (.s 2) (.s 0)⟩] (.s 0)
  (.skip)
  (.exit 0))
 (.seq (.block 1 (.seq (.region false [
      ⟨.push, 12, none, .mov (.v 2)⟩,
      ⟨.push, 13, none, .mov (.v 0)⟩,
      ⟨.push, 14, none, .mov (.v 4)⟩,
      ⟨.push, 15, none, .ixAddr 1 (.s 1) (.s 0)⟩,
      ⟨.push, 16, none, .load false 1 (.s 0)⟩,
      ⟨.push, 17, none, .conv .i64 (.s 0)⟩,
      ⟨.push, 18, none, .bin false .add (.s 5) (.s 0)⟩,
      ⟨.push, 19, none, .bin false .rem (.s 0) (.c (.int .i64 (251)))⟩,
      ⟨.var 2, 3, none, .mov (.s 0)⟩])
   (.region false [
     ⟨.push, 20, none, .mov (.v 3)⟩,
     ⟨.push, 21, none, .mov (.v 2)⟩,
     ⟨.push, 22, none, .bin false .add (.s 1) (.s 0)⟩,
     ⟨.push, 23, none, .bin false .rem (.s 0) (.c (.int .i64 (251)))⟩,
     ⟨.var 3, 4, none, .mov (.s 0)⟩])))
 (.region false [
   ⟨.push, 10, none, .mov (.v 4)⟩,
   ⟨.push, 11, none, .bin false .add (.s 0) (.c (.int .i64 (1)))⟩,
   ⟨.var 4, 5, none, .mov (.s 0)⟩]))
def ir58_k0 : List Bool := [true, false, true, true, true]
def ir58_o0 : List Bool := [false, false, true, true, false]
def ir58_r0 : List Bool := [false, true, false, false, false]
def ir58_v : List Nat := [0, 2, 3, 4, 5]
def ir58 : AFn := ⟨1, 5, .seq (.region false [
    ⟨.var 1, 2, none, .mov (.c (.int .i64 (0)))⟩])
 (.seq (.region false [
    ⟨.var 2, 3, none, .mov (.c (.int .i64 (1)))⟩])
 (.seq (.region false [
    ⟨.var 3, 4, none, .mov (.c (.int .i64 (0)))⟩])
 (.seq (.seq (.region false [
     ⟨.var 4, 5, none, .mov (.c (.int .i64 (0)))⟩])
  (.block 0 (.loop ir58_k0 ir58_o0 ir58_r0 ir58_b0)))
 (.seq (.region false [
    ⟨.push, 24, none, .mov (.v 3)⟩,
    ⟨.push, 25, none, .bin false .mul (.c (.int .i64 (251))) (.s 0)⟩,
    ⟨.push, 26, none, .mov (.v 2)⟩,
    ⟨.push, 27, none, .bin false .add (.s 1) (.s 0)⟩,
    ⟨.var 1, 2, none, .mov (.s 0)⟩])
 (.ret))))), [.t 1]⟩
noncomputable def t_spec_l25Sum : List (Nat × Ctr) := []
noncomputable def c_spec_l25Sum : Ctr := mkF t_spec_l25Sum ir58 [.bor]
theorem s_spec_l25Sum : Sound Try.prog 58 c_spec_l25Sum := mkF_sound _ rfl snd_nil (by kernel_rfl : chkFn Try.prog 58 ir58 ir58_v = true)
theorem M_spec_l25Sum : c_spec_l25Sum.modes = [.bor] := rfl
theorem Fl_spec_l25Sum : c_spec_l25Sum.flat = true := rfl
attribute [go_sem] M_spec_l25Sum Fl_spec_l25Sum
def E_spec_l25Sum_l1 (b : List UInt8) : (Int × Int × Int) → St
  | (sum, all, i) => ⟨[.sl 1 (List.map byteAV b), .any, .int .i64 sum, .int .i64 all, .int .i64 i], [], [], true⟩
def R_spec_l25Sum_l1 (b : List UInt8) (y : Int × Int) : Res := (.exit 0, ⟨[.any, .any, .int .i64 y.1, .int .i64 y.2, .any], [], [], true⟩)
theorem spec_l25Sum_l1_ex {b : List UInt8} {sgm_ : Int × Int × Int} {rho_ : Int × Int} (h : whileE (spec_l25Sum_l1 b) sgm_ = some rho_) : ∃ L0, ∀ L, L0 ≤ L → iter (exec (look t_spec_l25Sum) L ir58_b0) ir58_k0 ir58_o0 ir58_r0 L (E_spec_l25Sum_l1 b sgm_) = R_spec_l25Sum_l1 b rho_ := by
  refine loop_ex (E := E_spec_l25Sum_l1 b) (R := R_spec_l25Sum_l1 b) (fun y => by first | (intro c; cases c) | (rcases y with y | y <;> (intro c; cases c)) | (rcases y with y | y | y <;> (intro c; cases c))) ?_ h
  clear h
  rintro ⟨sum, all, i⟩ o_ h
  dsimp only [spec_l25Sum_l1] at h
  rcases it_some h with ⟨hk1, h⟩ | ⟨hk1, h⟩
  · try simp only [go_sem, n1, n2, n3, n4] at hk1
    all_goals
    obtain ⟨hk2, h⟩ := ck_some h
    have lhk2 := ix_lt hk2
    have xhk2 := getD_mapD byteAV b lhk2
    try simp only [go_sem] at lhk2
    try simp only [go_sem] at xhk2
    try simp only [go_sem, n1, n2, n3, n4, hk1] at hk2
    all_goals
    obtain ⟨hk3, h⟩ := ck_some h
    try simp only [go_sem, n1, n2, n3, n4, hk1, hk2] at hk3
    all_goals
    obtain rfl := so_some h
    refine ⟨0, fun L hL => ?_⟩
    simp only [go_sem, ir58, E_spec_l25Sum_l1, R_spec_l25Sum_l1, ir58_b0, ir58_k0, ir58_o0, ir58_r0, hk1, hk2, lhk2, xhk2, hk3]
  · try simp only [go_sem, n1, n2, n3, n4] at hk1
    all_goals
    obtain rfl := so_some h
    refine ⟨0, fun L hL => ?_⟩
    simp only [go_sem, ir58, E_spec_l25Sum_l1, R_spec_l25Sum_l1, ir58_b0, ir58_k0, ir58_o0, ir58_r0, hk1]

theorem Fs_spec_l25Sum {b : List UInt8} {y_ : Int} (h : spec_l25Sum b = some y_) : c_spec_l25Sum.F [.sl 1 (List.map byteAV b)] = ⟨true, .int .i64 y_, [.any]⟩ := by
  refine mkF_E rfl ?_
  dsimp only [spec_l25Sum] at h
  obtain ⟨y_4, hk4, h⟩ := bd_some h
  obtain ⟨Lhk4, ehk4⟩ := spec_l25Sum_l1_ex hk4
  obtain rfl := so_some h
  refine ⟨Lhk4, fun L hL => ?_⟩
  have ehk4 := ehk4 L (by omega)
  try simp only [go_sem, E_spec_l25Sum_l1, R_spec_l25Sum_l1, ir58_k0, ir58_o0, ir58_r0] at ehk4
  simp only [go_sem, ir58, E_spec_l25Sum_l1, R_spec_l25Sum_l1, ir58_k0, ir58_o0, ir58_r0, ehk4]


def ir34_v : List Nat := [0, 1, 4, 5, 6]
def ir34 : AFn := ⟨2, 5, .seq (.region false [
    ⟨.var 2, 4, none, .mov (.c (.int .i64 (0)))⟩])
 (.seq (.region false [
    ⟨.push, 7, none, .mov (.v 0)⟩,
    ⟨.push, 8, none, .len false (.s 0)⟩,
    ⟨.var 3, 5, none, .mov (.s 0)⟩])
 (.seq (.test false [
    ⟨.push, 9, none, .mov (.v 3)⟩,
    ⟨.push, 10, none, .bin false .lss (.s 0) (.c (.int .i64 (3)))⟩,
    ⟨.push, 11, none, .mov (.s 0)⟩,
    ⟨.push, 12, (some ((.s 0), false)), .mov (.v 3)⟩,
    ⟨.push, 13, (some ((.s 1), false)), .bin false .gtr (.s 0) (.c (.int .i64 (8000)))⟩,
    ⟨.push, 14, none, .pick (.s 2) (.c (.bool true)) (.s 0)⟩,
    ⟨.push, 15, none, .mov (.s 0)⟩,
    ⟨.push, 16, (some ((.s 0), false)), .mov (.v 0)⟩,
    ⟨.push, 17, (some ((.s 1), false)), .ixAddr 1 (.s 0) (.c (.int .i64 (0)))⟩,
    ⟨.push, 18, (some ((.s 2), false)), .load false 1 (.s 0)⟩,
    ⟨.push, 19, (some ((.s 3), false)), .conv .i64 (.s 0)⟩,
    ⟨.push, 20, (some ((.s 4), false)), .mov (.v 1)⟩,
    ⟨.push, 21, (some ((.s 5), false)), .bin false .neq (.s 1) (.s 0)⟩,
    ⟨.push, 22, none, .pick (.s 6) (.c (.bool true)) (.s 0)⟩] (.s 0)
  (.seq (.region false [
      ⟨.var 2, 4, none, .mov (.c (.int .i64 (8)))⟩])
   (.ret))
  (.skip))
 (.seq (.anyo 14 [
    ⟨.slot 0, 23, none, .mov (.v 0)⟩,
    ⟨.slot 1, 24, none, .mov (.v 3)⟩,
    ⟨.slot 2, 25, none, .bin false .sub (.s 1) (.c (.int .i64 (2)))⟩,
    ⟨.slot 3, 26, none, .ixAddr 1 (.s 0) (.s 2)⟩,
    ⟨.slot 4, 27, none, .load false 1 (.s 3)⟩,
    ⟨.slot 5, 28, none, .conv .i64 (.s 4)⟩,
    ⟨.slot 6, 29, none, .bin false .mul (.c (.int .i64 (256))) (.s 5)⟩,
    ⟨.slot 7, 30, none, .mov (.v 0)⟩,
    ⟨.slot 8, 31, none, .mov (.v 3)⟩,
    ⟨.slot 9, 32, none, .bin false .sub (.s 8) (.c (.int .i64 (1)))⟩,
    ⟨.slot 10, 33, none, .ixAddr 1 (.s 7) (.s 9)⟩,
    ⟨.slot 11, 34, none, .load false 1 (.s 10)⟩,
    ⟨.slot 12, 35, none, .conv .i64 (.s 11)⟩,
    ⟨.slot 13, 36, none, .bin false .add (.s 6) (.s 12)⟩,
    ⟨.var 4, 6, none, .mov (.s 13)⟩] [] .skip)
 (.seq (.test false [
    ⟨.push, 37, none, .mov (.v 4)⟩,
    ⟨.push, 38, none, .mov (.v 0)⟩,
    ⟨.push, 39, none, .mov (.v 3)⟩,
    ⟨.push, 40, none, .bin false .sub (.s 0) (.c (.int .i64 (2)))⟩,
    ⟨.push, 41, none, .slice 1 (.s 2) none (some (.s 0))⟩,
    ⟨.push, 42, none, .call 58 [(.s 0)]⟩,
    ⟨.push, 43, none, .bin false .neq (.s 5) (.s 0)⟩] (.s 0)
  (.seq (.region false [
      ⟨.var 2, 4, none, .mov (.c (.int .i64 (9)))⟩])
   (.ret))
  (.skip))
 (.seq (.region false [
    ⟨.var 2, 4, none, .mov (.c (.int .i64 (0)))⟩])
 (.ret)))))), [.t 2]⟩
noncomputable def t_spec_l25Open : List (Nat × Ctr) := [(58, c_spec_l25Sum)]
theorem lk_spec_l25Open_58 : look t_spec_l25Open 58 = some c_spec_l25Sum := rfl
noncomputable def c_spec_l25Open : Ctr := mkF t_spec_l25Open ir34 [.bor, .bor]
theorem s_spec_l25Open : Sound Try.prog 34 c_spec_l25Open := mkF_sound _ rfl (snd_cons s_spec_l25Sum snd_nil) (by kernel_rfl : chkFn Try.prog 34 ir34 ir34_v = true)
theorem M_spec_l25Open : c_spec_l25Open.modes = [.bor, .bor] := rfl
theorem Fl_spec_l25Open : c_spec_l25Open.flat = true := rfl
attribute [go_sem] M_spec_l25Open Fl_spec_l25Open
attribute [go_sem] lk_spec_l25Open_58
theorem Fs_spec_l25Open {b : List UInt8} {kind : Int} {y_ : Int} (h : spec_l25Open b kind = some y_) : c_spec_l25Open.F [.sl 1 (List.map byteAV b), .int .i64 kind] = ⟨true, .int .i64 y_, [.any, .any]⟩ := by
  refine mkF_E rfl ?_
  dsimp only [spec_l25Open] at h
  obtain ⟨hk1, h⟩ := ck_some h
  rcases or_split hk1 with ⟨ghk1, hk1⟩ | ghk1
  · try simp only [go_sem, n1, n2, n3, n4] at ghk1
    all_goals
    have lhk1 := ix_lt hk1
    have xhk1 := getD_mapD byteAV b lhk1
    try simp only [go_sem] at lhk1
    try simp only [go_sem] at xhk1
    try simp only [go_sem, n1, n2, n3, n4, ghk1] at hk1
    all_goals
    rcases it_some h with ⟨hk2, h⟩ | ⟨hk2, h⟩
    · try simp only [go_sem, n1, n2, n3, n4, ghk1, hk1] at hk2
      all_goals
      obtain rfl := so_some h
      refine ⟨0, fun L hL => ?_⟩
      simp only [go_sem, ir34, ghk1, hk1, lhk1, xhk1, hk2]
    · try simp only [go_sem, n1, n2, n3, n4, ghk1, hk1] at hk2
      all_goals
      obtain ⟨hk3, h⟩ := ck_some h
      have lhk3 := ix_lt hk3
      have xhk3 := getD_mapD byteAV b lhk3
      try simp only [go_sem] at lhk3
      try simp only [go_sem] at xhk3
      try simp only [go_sem, n1, n2, n3, n4, ghk1, hk1, hk2] at hk3
      all_goals
      obtain ⟨hk4, h⟩ := ck_some h
      have lhk4 := ix_lt hk4
      have xhk4 := getD_mapD byteAV b lhk4
      try simp only [go_sem] at lhk4
      try simp only [go_sem] at xhk4
      try simp only [go_sem, n1, n2, n3, n4, ghk1, hk1, hk2, hk3] at hk4
      all_goals
      obtain ⟨hk5, h⟩ := ck_some h
      try simp only [go_sem, n1, n2, n3, n4, ghk1, hk1, hk2, hk3, hk4] at hk5
      all_goals
      obtain ⟨y_6, hk6, h⟩ := bd_some h
      have fhk6 := Fs_spec_l25Sum hk6
      try simp only [go_sem, ghk1, hk1, hk2, hk3, hk4, hk5] at fhk6
      rcases it_some h with ⟨hk7, h⟩ | ⟨hk7, h⟩
      · try simp only [go_sem, n1, n2, n3, n4, ghk1, hk1, hk2, hk3, hk4, hk5] at hk7
        all_goals
        obtain rfl := so_some h
        refine ⟨0, fun L hL => ?_⟩
        simp only [go_sem, ir34, ghk1, hk1, lhk1, xhk1, hk2, hk3, lhk3, xhk3, hk4, lhk4, xhk4, hk5, fhk6, hk7]
      · try simp only [go_sem, n1, n2, n3, n4, ghk1, hk1, hk2, hk3, hk4, hk5] at hk7
        all_goals
        obtain rfl := so_some h
        refine ⟨0, fun L hL => ?_⟩
        simp only [go_sem, ir34, ghk1, hk1, lhk1, xhk1, hk2, hk3, lhk3, xhk3, hk4, lhk4, xhk4, hk5, fhk6, hk7]
  · have ghk1n := no_f ghk1
    rcases or_t ghk1n with ghk1na | ⟨ghk1na, ghk1nb⟩
    · try simp only [go_sem, n1, n2, n3, n4] at ghk1na
      all_goals
      rcases it_some h with ⟨hk2, h⟩ | ⟨hk2, h⟩
      · try simp only [go_sem, n1, n2, n3, n4, ghk1na] at hk2
        all_goals
        obtain rfl := so_some h
        refine ⟨0, fun L hL => ?_⟩
        simp only [go_sem, ir34, ghk1na, hk2]
      · try simp only [go_sem, n1, n2, n3, n4, ghk1na] at hk2
        all_goals
        obtain ⟨hk3, h⟩ := ck_some h
        have lhk3 := ix_lt hk3
        have xhk3 := getD_mapD byteAV b lhk3
        try simp only [go_sem] at lhk3
        try simp only [go_sem] at xhk3
        try simp only [go_sem, n1, n2, n3, n4, ghk1na, hk2] at hk3
        all_goals
        obtain ⟨hk4, h⟩ := ck_some h
        have lhk4 := ix_lt hk4
        have xhk4 := getD_mapD byteAV b lhk4
        try simp only [go_sem] at lhk4
        try simp only [go_sem] at xhk4
        try simp only [go_sem, n1, n2, n3, n4, ghk1na, hk2, hk3] at hk4
        all_goals
        obtain ⟨hk5, h⟩ := ck_some h
        try simp only [go_sem, n1, n2, n3, n4, ghk1na, hk2, hk3, hk4] at hk5
        all_goals
        obtain ⟨y_6, hk6, h⟩ := bd_some h
        have fhk6 := Fs_spec_l25Sum hk6
        try simp only [go_sem, ghk1na, hk2, hk3, hk4, hk5] at fhk6
        rcases it_some h with ⟨hk7, h⟩ | ⟨hk7, h⟩
        · try simp only [go_sem, n1, n2, n3, n4, ghk1na, hk2, hk3, hk4, hk5] at hk7
          all_goals
          obtain rfl := so_some h
          refine ⟨0, fun L hL => ?_⟩
          simp only [go_sem, ir34, ghk1na, hk2, hk3, lhk3, xhk3, hk4, lhk4, xhk4, hk5, fhk6, hk7]
        · try simp only [go_sem, n1, n2, n3, n4, ghk1na, hk2, hk3, hk4, hk5] at hk7
          all_goals
          obtain rfl := so_some h
          refine ⟨0, fun L hL => ?_⟩
          simp only [go_sem, ir34, ghk1na, hk2, hk3, lhk3, xhk3, hk4, lhk4, xhk4, hk5, fhk6, hk7]
    · try simp only [go_sem, n1, n2, n3, n4] at ghk1na
      all_goals
      try simp only [go_sem, n1, n2, n3, n4, ghk1na] at ghk1nb
      all_goals
      rcases it_some h with ⟨hk2, h⟩ | ⟨hk2, h⟩
      · try simp only [go_sem, n1, n2, n3, n4, ghk1na, ghk1nb] at hk2
        all_goals
        obtain rfl := so_some h
        refine ⟨0, fun L hL => ?_⟩
        simp only [go_sem, ir34, ghk1na, ghk1nb, hk2]
      · try simp only [go_sem, n1, n2, n3, n4, ghk1na, ghk1nb] at hk2
        all_goals
        obtain ⟨hk3, h⟩ := ck_some h
        have lhk3 := ix_lt hk3
        have xhk3 := getD_mapD byteAV b lhk3
        try simp only [go_sem] at lhk3
        try simp only [go_sem] at xhk3
        try simp only [go_sem, n1, n2, n3, n4, ghk1na, ghk1nb, hk2] at hk3
        all_goals
        obtain ⟨hk4, h⟩ := ck_some h
        have lhk4 := ix_lt hk4
        have xhk4 := getD_mapD byteAV b lhk4
        try simp only [go_sem] at lhk4
        try simp only [go_sem] at xhk4
        try simp only [go_sem, n1, n2, n3, n4, ghk1na, ghk1nb, hk2, hk3] at hk4
        all_goals
        obtain ⟨hk5, h⟩ := ck_some h
        try simp only [go_sem, n1, n2, n3, n4, ghk1na, ghk1nb, hk2, hk3, hk4] at hk5
        all_goals
        obtain ⟨y_6, hk6, h⟩ := bd_some h
        have fhk6 := Fs_spec_l25Sum hk6
        try simp only [go_sem, ghk1na, ghk1nb, hk2, hk3, hk4, hk5] at fhk6
        rcases it_some h with ⟨hk7, h⟩ | ⟨hk7, h⟩
        · try simp only [go_sem, n1, n2, n3, n4, ghk1na, ghk1nb, hk2, hk3, hk4, hk5] at hk7
          all_goals
          obtain rfl := so_some h
          refine ⟨0, fun L hL => ?_⟩
          simp only [go_sem, ir34, ghk1na, ghk1nb, hk2, hk3, lhk3, xhk3, hk4, lhk4, xhk4, hk5, fhk6, hk7]
        · try simp only [go_sem, n1, n2, n3, n4, ghk1na, ghk1nb, hk2, hk3, hk4, hk5] at hk7
          all_goals
          obtain rfl := so_some h
          refine ⟨0, fun L hL => ?_⟩
          simp only [go_sem, ir34, ghk1na, ghk1nb, hk2, hk3, lhk3, xhk3, hk4, lhk4, xhk4, hk5, fhk6, hk7]


def ir76_b0 : IR := .seq (.test false [
    ⟨.push, 7, none, .mov (.v 5)⟩,
    ⟨.push, 8, none, .mov (.v 0)⟩,
    ⟨.push, 9, none, .len false (.s 0)⟩,
    ⟨.push, 10, none, .bin false .lss (.s 2) (.s 0)⟩,
    ⟨.push, 11, none, .mov (.s 0)⟩,
    ⟨.push, 12, (some ((.s 0), true)), .mov (.v 5)⟩,
    ⟨.push, 13, (some ((.s 1), true)), .bin false .lss (.s 0) (.c (.int .i64 (9)))⟩,
    ⟨.push, 14, none, .pick (.s 2) (.s 0) (.c (.bool false))⟩] (.s 0)
  (.skip)
  (.exit 0))
 (.seq (.block 1 (.seq (.region false [
      ⟨.push, 17, none, .mov (.v 4)⟩,
      ⟨.push, 18, none, .mov (.v 0)⟩,
      ⟨.push, 19, none, .mov (.v 5)⟩,
      ⟨.push, 20, none, .ixAddr 1 (.s 1) (.s 0)⟩,
      ⟨.push, 21, none, .load false 1 (.s 0)⟩,
      ⟨.push, 22, none, .bin false .and (.s 0) (.c (.int .u8 (127)))⟩,
      ⟨.push, 23, none, .conv .i64 (.s 0)⟩,
      ⟨.push, 24, none, .mov (.v 5)⟩,
      ⟨.push, 25, none, .bin false .mul (.c (.int .i64 (7))) (.s 0)⟩,
      ⟨.push, 26, none, .conv .u64 (.s 0)⟩,
      ⟨.push, 27, none, .bin false .shl (.s 3) (.s 0)⟩,
      ⟨.push, 28, none, .bin false .add (.s 10) (.s 0)⟩,
      ⟨.var 4, 5, none, .mov (.s 0)⟩])
   (.test false [
     ⟨.push, 29, none, .mov (.v 0)⟩,
     ⟨.push, 30, none, .mov (.v 5)⟩,
     ⟨.push, 31, none, .ixAddr 1 (.s 1) (.s 0)⟩,
     ⟨.push, 32, none, .load false 1 (.s 0)⟩,
     ⟨.push, 33, none, .bin false .lss (.s 0) (.c (.int .u8 (128)))⟩] (.s 0)
   (.seq (.test false [
       ⟨.push, 34, none, .mov (.v 5)⟩,
       ⟨.push, 35, none, .bin false .gtr (.s 0) (.c (.int .i64 (0)))⟩,
       ⟨.push, 36, none, .mov (.s 0)⟩,
       ⟨.push, 37, (some ((.s 0), true)), .mov (.v 0)⟩,
       ⟨.push, 38, (some ((.s 1), true)), .mov (.v 5)⟩,
       ⟨.push, 39, (some ((.s 2), true)), .ixAddr 1 (.s 1) (.s 0)⟩,
       ⟨.push, 40, (some ((.s 3), true)), .load false 1 (.s 0)⟩,
       ⟨.push, 41, (some ((.s 4), true)), .bin false .eql (.s 0) (.c (.int .u8 (0)))⟩,
       ⟨.push, 42, none, .pick (.s 5) (.s 0) (.c (.bool false))⟩] (.s 0)
     (.seq (.region false [
         ⟨.var 1, 2, none, .mov (.c (.int .i64 (0)))⟩,
         ⟨.var 2, 3, none, .mov (.c (.int .i64 (0)))⟩,
         ⟨.var 3, 4, none, .mov (.c (.bool false))⟩])
      (.ret))
     (.skip))
    (.seq (.region false [
       ⟨.push, 43, none, .mov (.v 4)⟩,
       ⟨.push, 44, none, .mov (.v 5)⟩,
       ⟨.push, 45, none, .bin false .add (.s 0) (.c (.int .i64 (1)))⟩,
       ⟨.var 1, 2, none, .mov (.s 2)⟩,
       ⟨.var 2, 3, none, .mov (.s 0)⟩,
       ⟨.var 3, 4, none, .mov (.c (.bool true))⟩])
    (.ret)))
   (.skip))))
 (.region false [
   ⟨.push, 15, none, .mov (.v 5)⟩,
   ⟨.push, 16, none, .bin false .add (.s 0) (.c (.int .i64 (1)))⟩,
   ⟨.var 5, 6, none, .mov (.s 0)⟩]))
def ir76_k0 : List Bool := [true, false, false, false, true, true]
def ir76_o0 : List Bool := [false, false, false, false, false, false]
def ir76_r0 : List Bool := [false, true, true, true, false, false]
def ir76_v : List Nat := [0, 2, 3, 4, 5, 6]
def ir76 : AFn := ⟨1, 6, .seq (.region false [
    ⟨.var 1, 2, none, .mov (.c (.int .i64 (0)))⟩,
    ⟨.var 2, 3, none, .mov (.c (.int .i64 (0)))⟩,
    ⟨.var 3, 4, none, .mov (.c (.bool false))⟩])
 (.seq (.region false [
    ⟨.var 4, 5, none, .mov (.c (.int .i64 (0)))⟩])
 (.seq (.seq (.region false [
     ⟨.var 5, 6, none, .mov (.c (.int .i64 (0)))⟩])
  (.block 0 (.loop ir76_k0 ir76_o0 ir76_r0 ir76_b0)))
 (.seq (.region false [
    ⟨.var 1, 2, none, .mov (.c (.int .i64 (0)))⟩,
    ⟨.var 2, 3, none, .mov (.c (.int .i64 (0)))⟩,
    ⟨.var 3, 4, none, .mov (.c (.bool false))⟩])
 (.ret)))), [.t 1, .t 2, .t 3]⟩
noncomputable def t_spec_l25Read : List (Nat × Ctr) := []
noncomputable def c_spec_l25Read : Ctr := mkF t_spec_l25Read ir76 [.bor]
theorem s_spec_l25Read : Sound Try.prog 76 c_spec_l25Read := mkF_sound _ rfl snd_nil (by kernel_rfl : chkFn Try.prog 76 ir76 ir76_v = true)
theorem M_spec_l25Read : c_spec_l25Read.modes = [.bor] := rfl
theorem Fl_spec_l25Read : c_spec_l25Read.flat = true := rfl
attribute [go_sem] M_spec_l25Read Fl_spec_l25Read
def E_spec_l25Read_l1 (b : List UInt8) : (Int × Int) → St
  | (n, i) => ⟨[.sl 1 (List.map byteAV b), .any, .any, .any, .int .i64 n, .int .i64 i], [], [], true⟩
def R_spec_l25Read_l1 (b : List UInt8) : (Unit ⊕ (Int × Int × Bool)) → Res
  | .inl y => (.exit 0, ⟨[.any, .any, .any, .any, .any, .any], [], [], true⟩)
  | .inr y => (.ret, ⟨[.any, .int .i64 y.1, .int .i64 y.2.1, .bool y.2.2, .any, .any], [], [], true⟩)
theorem spec_l25Read_l1_ex {b : List UInt8} {sgm_ : Int × Int} {rho_ : Unit ⊕ (Int × Int × Bool)} (h : whileE (spec_l25Read_l1 b) sgm_ = some rho_) : ∃ L0, ∀ L, L0 ≤ L → iter (exec (look t_spec_l25Read) L ir76_b0) ir76_k0 ir76_o0 ir76_r0 L (E_spec_l25Read_l1 b sgm_) = R_spec_l25Read_l1 b rho_ := by
  refine loop_ex (E := E_spec_l25Read_l1 b) (R := R_spec_l25Read_l1 b) (fun y => by first | (intro c; cases c) | (rcases y with y | y <;> (intro c; cases c)) | (rcases y with y | y | y <;> (intro c; cases c))) ?_ h
  clear h
  rintro ⟨n, i⟩ o_ h
  dsimp only [spec_l25Read_l1] at h
  rcases it_some h with ⟨hk1, h⟩ | ⟨hk1, h⟩
  · try simp only [go_sem, n1, n2, n3, n4] at hk1
    all_goals
    obtain ⟨hk2, h⟩ := ck_some h
    have lhk2 := ix_lt hk2
    have xhk2 := getD_mapD byteAV b lhk2
    try simp only [go_sem] at lhk2
    try simp only [go_sem] at xhk2
    try simp only [go_sem, n1, n2, n3, n4, hk1] at hk2
    all_goals
    obtain ⟨hk3, h⟩ := ck_some h
    try simp only [go_sem, n1, n2, n3, n4, hk1, hk2] at hk3
    all_goals
    rcases it_some h with ⟨hk4, h⟩ | ⟨hk4, h⟩
    · try simp only [go_sem, n1, n2, n3, n4, hk1, hk2, hk3] at hk4
      all_goals
      rcases it_some h with ⟨hk5, h⟩ | ⟨hk5, h⟩
      · try simp only [go_sem, n1, n2, n3, n4, hk1, hk2, hk3, hk4] at hk5
        all_goals
        obtain rfl := so_some h
        refine ⟨0, fun L hL => ?_⟩
        simp only [go_sem, ir76, E_spec_l25Read_l1, R_spec_l25Read_l1, ir76_b0, ir76_k0, ir76_o0, ir76_r0, hk1, hk2, lhk2, xhk2, hk3, hk4, hk5]
      · try simp only [go_sem, n1, n2, n3, n4, hk1, hk2, hk3, hk4] at hk5
        all_goals
        obtain rfl := so_some h
        refine ⟨0, fun L hL => ?_⟩
        simp only [go_sem, ir76, E_spec_l25Read_l1, R_spec_l25Read_l1, ir76_b0, ir76_k0, ir76_o0, ir76_r0, hk1, hk2, lhk2, xhk2, hk3, hk4, hk5]
    · try simp only [go_sem, n1, n2, n3, n4, hk1, hk2, hk3] at hk4
      all_goals
      obtain rfl := so_some h
      refine ⟨0, fun L hL => ?_⟩
      simp only [go_sem, ir76, E_spec_l25Read_l1, R_spec_l25Read_l1, ir76_b0, ir76_k0, ir76_o0, ir76_r0, hk1, hk2, lhk2, xhk2, hk3, hk4]
  · try simp only [go_sem, n1, n2, n3, n4] at hk1
    all_goals
    obtain rfl := so_some h
    refine ⟨0, fun L hL => ?_⟩
    simp only [go_sem, ir76, E_spec_l25Read_l1, R_spec_l25Read_l1, ir76_b0, ir76_k0, ir76_o0, ir76_r0, hk1]

theorem Fs_spec_l25Read {b : List UInt8} {y_ : Int × Int × Bool} (h : spec_l25Read b = some y_) : c_spec_l25Read.F [.sl 1 (List.map byteAV b)] = ⟨true, .tup [.int .i64 y_.1, .int .i64 y_.2.1, .bool y_.2.2], [.any]⟩ := by
  refine mkF_E rfl ?_
  dsimp only [spec_l25Read] at h
  obtain ⟨y_6, hk6, h⟩ := bd_some h
  obtain ⟨Lhk6, ehk6⟩ := spec_l25Read_l1_ex hk6
  rcases y_6 with y_6a | y_6b
  · dsimp only at h
    obtain rfl := so_some h
    refine ⟨Lhk6, fun L hL => ?_⟩
    have ehk6 := ehk6 L (by omega)
    try simp only [go_sem, E_spec_l25Read_l1, R_spec_l25Read_l1, ir76_k0, ir76_o0, ir76_r0] at ehk6
    simp only [go_sem, ir76, E_spec_l25Read_l1, R_spec_l25Read_l1, ir76_k0, ir76_o0, ir76_r0, ehk6]
  · dsimp only at h
    obtain rfl := so_some h
    refine ⟨Lhk6, fun L hL => ?_⟩
    have ehk6 := ehk6 L (by omega)
    try simp only [go_sem, E_spec_l25Read_l1, R_spec_l25Read_l1, ir76_k0, ir76_o0, ir76_r0] at ehk6
    simp only [go_sem, ir76, E_spec_l25Read_l1, R_spec_l25Read_l1, ir76_k0, ir76_o0, ir76_r0, ehk6]


def ir60_v : List Nat := [0, 1, 4, 5, 6, 7]
def ir60 : AFn := ⟨2, 6, .seq (.region false [
    ⟨.var 2, 4, none, .mov (.c (.int .i64 (0)))⟩])
 (.seq (.anyo 14 [
    ⟨.slot 0, 9, none, .mov (.v 0)⟩,
    ⟨.slot 1, 10, none, .nilck (.s 0)⟩,
    ⟨.slot 2, 11, none, .fldAddr 0 (.s 1)⟩,
    ⟨.slot 3, 12, none, .load false 1 (.s 2)⟩,
    ⟨.slot 4, 13, none, .mov (.v 0)⟩,
    ⟨.slot 5, 14, none, .nilck (.s 4)⟩,
    ⟨.slot 6, 15, none, .fldAddr 1 (.s 5)⟩,
    ⟨.slot 7, 16, none, .load false 1 (.s 6)⟩,
    ⟨.slot 8, 17, none, .pur (.slice 1 (.s 3) (some (.s 7)) none)⟩,
    ⟨.slot 9, 18, none, .call 76 [(.s 8)]⟩,
    ⟨.slot 10, 8, none, .mov (.s 9)⟩,
    ⟨.slot 11, 19, none, .ext (.s 10) 0⟩,
    ⟨.slot 12, 20, none, .ext (.s 10) 1⟩,
    ⟨.slot 13, 21, none, .ext (.s 10) 2⟩,
    ⟨.var 3, 5, none, .mov (.s 11)⟩,
    ⟨.var 4, 6, none, .mov (.s 12)⟩,
    ⟨.var 5, 7, none, .mov (.s 13)⟩] [] .skip)
 (.seq (.test false [
    ⟨.push, 22, none, .mov (.v 5)⟩,
    ⟨.push, 23, none, .un .not (.s 0)⟩,
    ⟨.push, 24, none, .mov (.s 0)⟩,
    ⟨.push, 25, (some ((.s 0), false)), .mov (.v 3)⟩,
    ⟨.push, 26, (some ((.s 1), false)), .mov (.v 1)⟩,
    ⟨.push, 27, (some ((.s 2), false)), .bin false .gtr (.s 1) (.s 0)⟩,
    ⟨.push, 28, none, .pick (.s 3) (.c (.bool true)) (.s 0)⟩] (.s 0)
  (.seq (.region false [
      ⟨.push, 29, none, .mov (.v 0)⟩,
      ⟨.push, 30, none, .nilck (.s 0)⟩,
      ⟨.push, 31, none, .fldAddr 2 (.s 0)⟩,
      ⟨.no, 0, none, .store 1 (.s 0) (.c (.bool false))⟩])
   (.seq (.region false [
      ⟨.var 2, 4, none, .mov (.c (.int .i64 (0)))⟩])
   (.ret)))
  (.skip))
 (.seq (.region false [
    ⟨.push, 32, none, .mov (.v 0)⟩,
    ⟨.push, 33, none, .nilck (.s 0)⟩,
    ⟨.push, 34, none, .fldAddr 1 (.s 0)⟩,
    ⟨.push, 35, none, .load false 1 (.s 0)⟩,
    ⟨.push, 36, none, .mov (.v 4)⟩,
    ⟨.push, 37, none, .bin false .add (.s 1) (.s 0)⟩,
    ⟨.push, 38, none, .nilck (.s 5)⟩,
    ⟨.push, 39, none, .fldAddr 1 (.s 0)⟩,
    ⟨.no, 0, none, .store 1 (.s 0) (.s 2)⟩])
 (.seq (.region false [
    ⟨.push, 40, none, .mov (.v 3)⟩,
    ⟨.var 2, 4, none, .mov (.s 0)⟩])
 (.ret))))), [.t 2]⟩
noncomputable def t_spec_l25R_number : List (Nat × Ctr) := [(76, c_spec_l25Read)]
theorem lk_spec_l25R_number_76 : look t_spec_l25R_number 76 = some c_spec_l25Read := rfl
noncomputable def c_spec_l25R_number : Ctr := mkN t_spec_l25R_number ir60 [.io, .bor]
theorem s_spec_l25R_number : Sound Try.prog 60 c_spec_l25R_number := mkN_sound _ (snd_cons s_spec_l25Read snd_nil) (by kernel_rfl : chkFn Try.prog 60 ir60 ir60_v = true)
theorem M_spec_l25R_number : c_spec_l25R_number.modes = [.io, .bor] := rfl
theorem Fl_spec_l25R_number : c_spec_l25R_number.flat = false := rfl
attribute [go_sem] M_spec_l25R_number Fl_spec_l25R_number
attribute [go_sem] lk_spec_l25R_number_76
theorem Fs_spec_l25R_number {r : L25R} {most : Int} {y_ : Int × L25R} (h : spec_l25R_number r most = some y_) : c_spec_l25R_number.F [.mem 3 [L25R_av r], .int .i64 most] = ⟨true, .int .i64 y_.1, [.mem 3 [L25R_av y_.2], .any]⟩ := by
  refine mkN_E ?_
  dsimp only [spec_l25R_number] at h
  obtain ⟨hk1, h⟩ := ck_some h
  try simp only [go_sem, n1, n2, n3, n4] at hk1
  all_goals
  obtain ⟨y_2, hk2, h⟩ := bd_some h
  have fhk2 := Fs_spec_l25Read hk2
  try simp only [go_sem, hk1] at fhk2
  rcases it_some h with ⟨hk3, h⟩ | ⟨hk3, h⟩
  · try simp only [go_sem, n1, n2, n3, n4, hk1] at hk3
    all_goals
    obtain rfl := so_some h
    refine ⟨0, fun L hL => ?_⟩
    simp only [go_sem, ir60, hk1, fhk2, hk3]
  · try simp only [go_sem, n1, n2, n3, n4, hk1] at hk3
    all_goals
    obtain rfl := so_some h
    refine ⟨0, fun L hL => ?_⟩
    simp only [go_sem, ir60, hk1, fhk2, hk3]


def ir59_b0 : IR := .seq (.test false [
    ⟨.push, 9, none, .mov (.v 3)⟩,
    ⟨.push, 10, none, .bin false .gtr (.s 0) (.c (.int .i64 (0)))⟩,
    ⟨.push, 11, none, .mov (.s 0)⟩,
    ⟨.push, 12, (some ((.s 0), true)), .mov (.v 0)⟩,
    ⟨.push, 13, (some ((.s 1), true)), .nilck (.s 0)⟩,
    ⟨.push, 14, (some ((.s 2), true)), .fldAddr 2 (.s 0)⟩,
    ⟨.push, 15, (some ((.s 3), true)), .load false 1 (.s 0)⟩,
    ⟨.push, 16, none, .pick (.s 4) (.s 0) (.c (.bool false))⟩] (.s 0)
  (.skip)
  (.exit 0))
 (.seq (.block 1 (.seq (.region false [
      ⟨.push, 19, none, .mov (.v 0)⟩,
      ⟨.push, 20, none, .call 60 [(.s 0), (.c (.int .i64 (12)))]⟩,
      ⟨.var 4, 5, none, .mov (.s 0)⟩])
   (.seq (.anyo 12 [
      ⟨.slot 0, 21, none, .mov (.v 0)⟩,
      ⟨.slot 1, 22, none, .nilck (.s 0)⟩,
      ⟨.slot 2, 23, none, .fldAddr 1 (.s 1)⟩,
      ⟨.slot 3, 24, none, .load false 1 (.s 2)⟩,
      ⟨.slot 4, 25, none, .mov (.v 4)⟩,
      ⟨.slot 5, 26, none, .bin false .add (.s 3) (.s 4)⟩,
      ⟨.slot 6, 27, none, .mov (.v 0)⟩,
      ⟨.slot 7, 28, none, .nilck (.s 6)⟩,
      ⟨.slot 8, 29, none, .fldAddr 0 (.s 7)⟩,
      ⟨.slot 9, 30, none, .load false 1 (.s 8)⟩,
      ⟨.slot 10, 31, none, .len false (.s 9)⟩,
      ⟨.slot 11, 32, none, .bin false .gtr (.s 5) (.s 10)⟩] [] (.cond (.s 11)
    (.seq (.region false [
        ⟨.push, 33, none, .mov (.v 0)⟩,
        ⟨.push, 34, none, .nilck (.s 0)⟩,
        ⟨.push, 35, none, .fldAddr 2 (.s 0)⟩,
        ⟨.no, 0, none, .store 1 (.s 0) (.c (.bool false))⟩])
     (.exit 0))
    (.skip)))
   (.seq (.anyo 19 [
      ⟨.slot 0, 36, none, .mov (.v 2)⟩,
      ⟨.slot 1, 37, none, .mov (.v 0)⟩,
      ⟨.slot 2, 38, none, .nilck (.s 1)⟩,
      ⟨.slot 3, 39, none, .fldAddr 0 (.s 2)⟩,
      ⟨.slot 4, 40, none, .load false 1 (.s 3)⟩,
      ⟨.slot 5, 41, none, .mov (.v 0)⟩,
      ⟨.slot 6, 42, none, .nilck (.s 5)⟩,
      ⟨.slot 7, 43, none, .fldAddr 1 (.s 6)⟩,
      ⟨.slot 8, 44, none, .load false 1 (.s 7)⟩,
      ⟨.slot 9, 45, none, .mov (.v 0)⟩,
      ⟨.slot 10, 46, none, .nilck (.s 9)⟩,
      ⟨.slot 11, 47, none, .fldAddr 1 (.s 10)⟩,
      ⟨.slot 12, 48, none, .load false 1 (.s 11)⟩,
      ⟨.slot 13, 49, none, .mov (.v 4)⟩,
      ⟨.slot 14, 50, none, .bin false .add (.s 12) (.s 13)⟩,
      ⟨.slot 15, 51, none, .pur (.slice 1 (.s 4) (some (.s 8)) (some (.s 14)))⟩,
      ⟨.slot 16, 52, none, .b2s (.s 15)⟩,
      ⟨.slot 17, 53, none, .pur (.mkSl 1 (.str []) 1 [(0, (.s 16))])⟩,
      ⟨.slot 18, 54, none, .app 1 16 (.str []) (.s 0) (.s 17)⟩,
      ⟨.var 2, 3, none, .mov (.s 18)⟩] [] .skip)
   (.region false [
     ⟨.push, 55, none, .mov (.v 0)⟩,
     ⟨.push, 56, none, .nilck (.s 0)⟩,
     ⟨.push, 57, none, .fldAddr 1 (.s 0)⟩,
     ⟨.push, 58, none, .load false 1 (.s 0)⟩,
     ⟨.push, 59, none, .mov (.v 4)⟩,
     ⟨.push, 60, none, .bin false .add (.s 1) (.s 0)⟩,
     ⟨.push, 61, none, .nilck (.s 5)⟩,
     ⟨.push, 62, none, .fldAddr 1 (.s 0)⟩,
     ⟨.no, 0, none, .store 1 (.s 0) (.s 2)⟩])))))
 (.region false [
   ⟨.push, 17, none, .mov (.v 3)⟩,
   ⟨.push, 18, none, .bin false .sub (.s 0) (.c (.int .i64 (1)))⟩,
   ⟨.var 3, 4, none, .mov (.s 0)⟩]))
def ir59_k0 : List Bool := [true, false, true, true, false]
def ir59_o0 : List Bool := [true, false, true, false, false]
def ir59_r0 : List Bool := [true, true, false, false, false]
def ir59_v : List Nat := [0, 2, 3, 4, 5]
def ir59 : AFn := ⟨1, 5, .seq (.region false [
    ⟨.var 1, 2, none, .newnil 1⟩])
 (.seq (.region false [
    ⟨.push, 6, none, .mkSl 1 (.str []) 0 []⟩,
    ⟨.var 2, 3, none, .mov (.s 0)⟩])
 (.seq (.region false [
    ⟨.push, 7, none, .mov (.v 0)⟩,
    ⟨.push, 8, none, .call 60 [(.s 0), (.c (.int .i64 (100)))]⟩,
    ⟨.var 3, 4, none, .mov (.s 0)⟩])
 (.seq (.block 0 (.loop ir59_k0 ir59_o0 ir59_r0 ir59_b0))
 (.seq (.region false [
    ⟨.push, 63, none, .mov (.v 2)⟩,
    ⟨.var 1, 2, none, .mov (.s 0)⟩])
 (.ret))))), [.t 1]⟩
noncomputable def t_spec_l25R_names : List (Nat × Ctr) := [(60, c_spec_l25R_number)]
theorem lk_spec_l25R_names_60 : look t_spec_l25R_names 60 = some c_spec_l25R_number := rfl
noncomputable def c_spec_l25R_names : Ctr := mkN t_spec_l25R_names ir59 [.io]
theorem s_spec_l25R_names : Sound Try.prog 59 c_spec_l25R_names := mkN_sound _ (snd_cons s_spec_l25R_number snd_nil) (by kernel_rfl : chkFn Try.prog 59 ir59 ir59_v = true)
theorem M_spec_l25R_names : c_spec_l25R_names.modes = [.io] := rfl
theorem Fl_spec_l25R_names : c_spec_l25R_names.flat = false := rfl
attribute [go_sem] M_spec_l25R_names Fl_spec_l25R_names
attribute [go_sem] lk_spec_l25R_names_60
def E_spec_l25R_names_l1  : (L25R × (List (List UInt8)) × Int) → St
  | (r, out, n) => ⟨[.ref 31 0 0, .any, .own 3200032, .int .i64 n, .any], [], [(31, ⟨3, [L25R_av r]⟩), (3200032, ⟨1, List.map AV.str out⟩)], true⟩
def R_spec_l25R_names_l1  (y : L25R × (List (List UInt8))) : Res := (.exit 0, ⟨[.ref 31 0 0, .any, .own 3200032, .any, .any], [], [(31, ⟨3, [L25R_av y.1]⟩), (3200032, ⟨1, List.map AV.str y.2⟩)], true⟩)
theorem spec_l25R_names_l1_ex  {sgm_ : L25R × (List (List UInt8)) × Int} {rho_ : L25R × (List (List UInt8))} (h : whileE (spec_l25R_names_l1) sgm_ = some rho_) : ∃ L0, ∀ L, L0 ≤ L → iter (exec (look t_spec_l25R_names) L ir59_b0) ir59_k0 ir59_o0 ir59_r0 L (E_spec_l25R_names_l1 sgm_) = R_spec_l25R_names_l1 rho_ := by
  refine loop_ex (E := E_spec_l25R_names_l1) (R := R_spec_l25R_names_l1) (fun y => by first | (intro c; cases c) | (rcases y with y | y <;> (intro c; cases c)) | (rcases y with y | y | y <;> (intro c; cases c))) ?_ h
  clear h
  rintro ⟨r, out, n⟩ o_ h
  dsimp only [spec_l25R_names_l1] at h
  rcases it_some h with ⟨hk2, h⟩ | ⟨hk2, h⟩
  · try simp only [go_sem, n1, n2, n3, n4] at hk2
    all_goals
    obtain ⟨y_3, hk3, h⟩ := bd_some h
    have fhk3 := Fs_spec_l25R_number hk3
    try simp only [go_sem, hk2] at fhk3
    rcases it_some h with ⟨hk4, h⟩ | ⟨hk4, h⟩
    · try simp only [go_sem, n1, n2, n3, n4, hk2] at hk4
      all_goals
      obtain rfl := so_some h
      refine ⟨0, fun L hL => ?_⟩
      simp only [go_sem, ir59, E_spec_l25R_names_l1, R_spec_l25R_names_l1, ir59_b0, ir59_k0, ir59_o0, ir59_r0, hk2, fhk3, hk4]
    · try simp only [go_sem, n1, n2, n3, n4, hk2] at hk4
      all_goals
      obtain ⟨hk5, h⟩ := ck_some h
      try simp only [go_sem, n1, n2, n3, n4, hk2, hk4] at hk5
      all_goals
      obtain ⟨hk6, h⟩ := ck_some h
      try simp only [go_sem, n1, n2, n3, n4, hk2, hk4, hk5] at hk6
      all_goals
      obtain rfl := so_some h
      refine ⟨0, fun L hL => ?_⟩
      simp only [go_sem, ir59, E_spec_l25R_names_l1, R_spec_l25R_names_l1, ir59_b0, ir59_k0, ir59_o0, ir59_r0, hk2, fhk3, hk4, hk5, hk6]
  · try simp only [go_sem, n1, n2, n3, n4] at hk2
    all_goals
    obtain rfl := so_some h
    refine ⟨0, fun L hL => ?_⟩
    simp only [go_sem, ir59, E_spec_l25R_names_l1, R_spec_l25R_names_l1, ir59_b0, ir59_k0, ir59_o0, ir59_r0, hk2]

theorem Fs_spec_l25R_names {r : L25R} {y_ : (List (List UInt8)) × L25R} (h : spec_l25R_names r = some y_) : c_spec_l25R_names.F [.mem 3 [L25R_av r]] = ⟨true, .fresh 1 (List.map AV.str y_.1), [.mem 3 [L25R_av y_.2]]⟩ := by
  refine mkN_E ?_
  dsimp only [spec_l25R_names] at h
  obtain ⟨y_1, hk1, h⟩ := bd_some h
  have fhk1 := Fs_spec_l25R_number hk1
  try simp only [go_sem] at fhk1
  obtain ⟨y_7, hk7, h⟩ := bd_some h
  obtain ⟨Lhk7, ehk7⟩ := spec_l25R_names_l1_ex hk7
  obtain rfl := so_some h
  refine ⟨Lhk7, fun L hL => ?_⟩
  have ehk7 := ehk7 L (by omega)
  try simp only [go_sem, E_spec_l25R_names_l1, R_spec_l25R_names_l1, ir59_k0, ir59_o0, ir59_r0] at ehk7
  simp only [go_sem, ir59, E_spec_l25R_names_l1, R_spec_l25R_names_l1, ir59_k0, ir59_o0, ir59_r0, fhk1, ehk7]


def ir61_v : List Nat := [0, 2]
def ir61 : AFn := ⟨1, 2, .seq (.region false [
    ⟨.var 1, 2, none, .mov (.c (.int .i64 (0)))⟩])
 (.seq (.test false [
    ⟨.push, 3, none, .mov (.v 0)⟩,
    ⟨.push, 4, none, .bin false .rem (.s 0) (.c (.int .i64 (2)))⟩,
    ⟨.push, 5, none, .bin false .eql (.s 0) (.c (.int .i64 (1)))⟩] (.s 0)
  (.seq (.region false [
      ⟨.push, 6, none, .mov (.v 0)⟩,
      ⟨.push, 7, none, .bin false .add (.s 0) (.c (.int .i64 (1)))⟩,
      ⟨.push, 8, none, .un .neg (.s 0)⟩,
      ⟨.push, 9, none, .bin false .quo (.s 0) (.c (.int .i64 (2)))⟩,
      ⟨.var 1, 2, none, .mov (.s 0)⟩])
   (.ret))
  (.skip))
 (.seq (.region false [
    ⟨.push, 10, none, .mov (.v 0)⟩,
    ⟨.push, 11, none, .bin false .quo (.s 0) (.c (.int .i64 (2)))⟩,
    ⟨.var 1, 2, none, .mov (.s 0)⟩])
 (.ret))), [.t 1]⟩
noncomputable def t_spec_l25Unfold : List (Nat × Ctr) := []
noncomputable def c_spec_l25Unfold : Ctr := mkF t_spec_l25Unfold ir61 [.bor]
theorem s_spec_l25Unfold : Sound Try.prog 61 c_spec_l25Unfold := mkF_sound _ rfl snd_nil (by kernel_rfl : chkFn Try.prog 61 ir61 ir61_v = true)
theorem M_spec_l25Unfold : c_spec_l25Unfold.modes = [.bor] := rfl
theorem Fl_spec_l25Unfold : c_spec_l25Unfold.flat = true := rfl
attribute [go_sem] M_spec_l25Unfold Fl_spec_l25Unfold
theorem Fs_spec_l25Unfold {n : Int} {y_ : Int} (h : spec_l25Unfold n = some y_) : c_spec_l25Unfold.F [.int .i64 n] = ⟨true, .int .i64 y_, [.any]⟩ := by
  refine mkF_E rfl ?_
  dsimp only [spec_l25Unfold] at h
  obtain ⟨hk1, h⟩ := ck_some h
  try simp only [go_sem, n1, n2, n3, n4] at hk1
  all_goals
  rcases it_some h with ⟨hk2, h⟩ | ⟨hk2, h⟩
  · try simp only [go_sem, n1, n2, n3, n4, hk1] at hk2
    all_goals
    obtain rfl := so_some h
    refine ⟨0, fun L hL => ?_⟩
    simp only [go_sem, ir61, hk1, hk2]
  · try simp only [go_sem, n1, n2, n3, n4, hk1] at hk2
    all_goals
    obtain rfl := so_some h
    refine ⟨0, fun L hL => ?_⟩
    simp only [go_sem, ir61, hk1, hk2]


def ir35_b0 : IR := .seq (.test false [
    ⟨.push, 23, none, .mov (.v 8)⟩,
    ⟨.push, 24, none, .bin false .gtr (.s 0) (.c (.int .i64 (0)))⟩,
    ⟨.push, 25, none, .mov (.s 0)⟩,
    ⟨.push, 26, (some ((.s 0), true)), .mov (.v 0)⟩,
    ⟨.push, 27, (some ((.s 1), true)), .nilck (.s 0)⟩,
    ⟨.push, 28, (some ((.s 2), true)), .fldAddr 2 (.s 0)⟩,
    ⟨.push, 29, (some ((.s 3), true)), .load false 1 (.s 0)⟩,
    ⟨.push, 30, none, .pick (.s 4) (.s 0) (.c (.bool false))⟩] (.s 0)
  (.skip)
  (.exit 0))
 (.seq (.block 1 (.seq (.region false [
      ⟨.push, 33, none, .mov (.v 6)⟩,
      ⟨.push, 34, none, .mov (.v 0)⟩,
      ⟨.push, 35, none, .call 60 [(.s 0), (.c (.int .i64 (10000000)))]⟩,
      ⟨.push, 36, none, .bin false .add (.s 2) (.s 0)⟩,
      ⟨.var 6, 7, none, .mov (.s 0)⟩])
   (.seq (.region false [
      ⟨.push, 37, none, .mov (.v 0)⟩,
      ⟨.push, 38, none, .mov (.v 3)⟩,
      ⟨.push, 39, none, .len false (.s 0)⟩,
      ⟨.push, 40, none, .bin false .sub (.s 0) (.c (.int .i64 (1)))⟩,
      ⟨.push, 41, none, .call 60 [(.s 3), (.s 0)]⟩,
      ⟨.var 9, 10, none, .mov (.s 0)⟩])
   (.seq (.region false [
      ⟨.push, 42, none, .mov (.v 0)⟩,
      ⟨.push, 43, none, .mov (.v 4)⟩,
      ⟨.push, 44, none, .len false (.s 0)⟩,
      ⟨.push, 45, none, .bin false .mul (.c (.int .i64 (2))) (.s 0)⟩,
      ⟨.push, 46, none, .bin false .sub (.s 0) (.c (.int .i64 (1)))⟩,
      ⟨.push, 47, none, .call 60 [(.s 4), (.s 0)]⟩,
      ⟨.var 10, 11, none, .mov (.s 0)⟩])
   (.seq (.region false [
      ⟨.push, 48, none, .mov (.v 7)⟩,
      ⟨.push, 49, none, .mov (.v 0)⟩,
      ⟨.push, 50, none, .call 60 [(.s 0), (.c (.int .i64 (100000)))]⟩,
      ⟨.push, 51, none, .call 61 [(.s 0)]⟩,
      ⟨.push, 52, none, .bin false .add (.s 3) (.s 0)⟩,
      ⟨.var 7, 8, none, .mov (.s 0)⟩])
   (.seq (.test false [
      ⟨.push, 53, none, .mov (.v 0)⟩,
      ⟨.push, 54, none, .nilck (.s 0)⟩,
      ⟨.push, 55, none, .fldAddr 2 (.s 0)⟩,
      ⟨.push, 56, none, .load false 1 (.s 0)⟩,
      ⟨.push, 57, none, .un .not (.s 0)⟩] (.s 0)
    (.exit 0)
    (.skip))
   (.anyo 18 [
     ⟨.slot 0, 58, none, .mov (.v 5)⟩,
     ⟨.slot 1, 59, none, .mov (.v 6)⟩,
     ⟨.slot 2, 60, none, .mov (.v 3)⟩,
     ⟨.slot 3, 61, none, .mov (.v 9)⟩,
     ⟨.slot 4, 62, none, .ixAddr 1 (.s 2) (.s 3)⟩,
     ⟨.slot 5, 63, none, .load false 1 (.s 4)⟩,
     ⟨.slot 6, 64, none, .mov (.v 4)⟩,
     ⟨.slot 7, 65, none, .mov (.v 10)⟩,
     ⟨.slot 8, 66, none, .bin false .quo (.s 7) (.c (.int .i64 (2)))⟩,
     ⟨.slot 9, 67, none, .ixAddr 1 (.s 6) (.s 8)⟩,
     ⟨.slot 10, 68, none, .load false 1 (.s 9)⟩,
     ⟨.slot 11, 69, none, .mov (.v 7)⟩,
     ⟨.slot 12, 70, none, .mov (.v 10)⟩,
     ⟨.slot 13, 71, none, .bin false .rem (.s 12) (.c (.int .i64 (2)))⟩,
     ⟨.slot 14, 72, none, .bin false .eql (.s 13) (.c (.int .i64 (1)))⟩,
     ⟨.slot 15, 73, none, .pur (.build [.int .i64 (0), .str [], .str [], .int .i64 (0), .bool false] [(0, 1, (.s 1)), (1, 1, (.s 5)), (2, 1, (.s 10)), (3, 1, (.s 11)), (4, 1, (.s 14))])⟩,
     ⟨.slot 16, 74, none, .pur (.mkSl 5 (.agg [.int .i64 (0), .str [], .str [], .int .i64 (0), .bool false]) 1 [(0, (.s 15))])⟩,
     ⟨.slot 17, 75, none, .app 5 56 (.agg [.int .i64 (0), .str [], .str [], .int .i64 (0), .bool false]) (.s 0) (.s 16)⟩,
     ⟨.var 5, 6, none, .mov (.s 17)⟩] [] .skip)))))))
 (.region false [
   ⟨.push, 31, none, .mov (.v 8)⟩,
   ⟨.push, 32, none, .bin false .sub (.s 0) (.c (.int .i64 (1)))⟩,
   ⟨.var 8, 9, none, .mov (.s 0)⟩]))
def ir35_k0 : List Bool := [true, false, false, true, true, true, true, true, true, false, false]
def ir35_o0 : List Bool := [true, false, false, false, false, true, false, false, false, false, false]
def ir35_r0 : List Bool := [true, true, true, false, false, false, false, false, false, false, false]
def ir35_v : List Nat := [0, 2, 3, 4, 5, 6, 7, 8, 9, 10, 11]
def ir35 : AFn := ⟨1, 11, .seq (.region false [
    ⟨.var 1, 2, none, .newnil 5⟩,
    ⟨.var 2, 3, none, .mov (.c (.bool false))⟩])
 (.seq (.region false [
    ⟨.push, 12, none, .mov (.v 0)⟩,
    ⟨.push, 13, none, .call 59 [(.s 0)]⟩,
    ⟨.var 3, 4, none, .mov (.s 0)⟩])
 (.seq (.region false [
    ⟨.push, 14, none, .mov (.v 0)⟩,
    ⟨.push, 15, none, .call 59 [(.s 0)]⟩,
    ⟨.var 4, 5, none, .mov (.s 0)⟩])
 (.seq (.region false [
    ⟨.push, 16, none, .mkSl 5 (.agg [.int .i64 (0), .str [], .str [], .int .i64 (0), .bool false]) 0 []⟩,
    ⟨.var 5, 6, none, .mov (.s 0)⟩])
 (.seq (.region false [
    ⟨.var 6, 7, none, .mov (.c (.int .i64 (0)))⟩])
 (.seq (.region false [
    ⟨.var 7, 8, none, .mov (.c (.int .i64 (0)))⟩])
 (.seq (.region false [
    ⟨.var 8, 9, none, .mov (.c (.int .i64 (0)))⟩])
 (.seq (.test false [
    ⟨.push, 17, none, .mov (.v 0)⟩,
    ⟨.push, 18, none, .nilck (.s 0)⟩,
    ⟨.push, 19, none, .fldAddr 2 (.s 0)⟩,
    ⟨.push, 20, none, .load false 1 (.s 0)⟩] (.s 0)
  (.region false [
     ⟨.push, 21, none, .mov (.v 0)⟩,
     ⟨.push, 22, none, .call 60 [(.s 0), (.c (.int .i64 (100)))]⟩,
     ⟨.var 8, 9, none, .mov (.s 0)⟩])
  (.skip))
 (.seq (.block 0 (.loop ir35_k0 ir35_o0 ir35_r0 ir35_b0))
 (.seq (.anyo 5 [
    ⟨.slot 0, 76, none, .mov (.v 5)⟩,
    ⟨.slot 1, 77, none, .mov (.v 0)⟩,
    ⟨.slot 2, 78, none, .nilck (.s 1)⟩,
    ⟨.slot 3, 79, none, .fldAddr 2 (.s 2)⟩,
    ⟨.slot 4, 80, none, .load false 1 (.s 3)⟩,
    ⟨.var 1, 2, none, .mov (.s 0)⟩,
    ⟨.var 2, 3, none, .mov (.s 4)⟩] [] .skip)
 (.ret)))))))))), [.t 1, .t 2]⟩
noncomputable def t_spec_l25List : List (Nat × Ctr) := [(59, c_spec_l25R_names), (60, c_spec_l25R_number), (61, c_spec_l25Unfold)]
theorem lk_spec_l25List_59 : look t_spec_l25List 59 = some c_spec_l25R_names := rfl
theorem lk_spec_l25List_60 : look t_spec_l25List 60 = some c_spec_l25R_number := rfl
theorem lk_spec_l25List_61 : look t_spec_l25List 61 = some c_spec_l25Unfold := rfl
noncomputable def c_spec_l25List : Ctr := mkN t_spec_l25List ir35 [.io]
theorem s_spec_l25List : Sound Try.prog 35 c_spec_l25List := mkN_sound _ (snd_cons s_spec_l25R_names (snd_cons s_spec_l25R_number (snd_cons s_spec_l25Unfold snd_nil))) (by kernel_rfl : chkFn Try.prog 35 ir35 ir35_v = true)
theorem M_spec_l25List : c_spec_l25List.modes = [.io] := rfl
theorem Fl_spec_l25List : c_spec_l25List.flat = false := rfl
attribute [go_sem] M_spec_l25List Fl_spec_l25List
attribute [go_sem] lk_spec_l25List_59 lk_spec_l25List_60 lk_spec_l25List_61
def E_spec_l25List_l1 (stars : List (List UInt8)) (people : List (List UInt8)) : (L25R × (List Estimate) × Int × Int × Int) → St
  | (r, out, time, mag, n) => ⟨[.ref 31 0 0, .any, .any, .own 3200032, .own 3200064, .own 3200096, .int .i64 time, .int .i64 mag, .int .i64 n, .any, .any], [], [(31, ⟨3, [L25R_av r]⟩), (3200032, ⟨1, List.map AV.str stars⟩), (3200064, ⟨1, List.map AV.str people⟩), (3200096, ⟨5, List.map Estimate_av out⟩)], true⟩
def R_spec_l25List_l1 (stars : List (List UInt8)) (people : List (List UInt8)) (y : L25R × (List Estimate)) : Res := (.exit 0, ⟨[.ref 31 0 0, .any, .any, .any, .any, .own 3200032, .any, .any, .any, .any, .any], [], [(31, ⟨3, [L25R_av y.1]⟩), (3200032, ⟨5, List.map Estimate_av y.2⟩)], true⟩)
theorem spec_l25List_l1_ex {stars : List (List UInt8)} {people : List (List UInt8)} {sgm_ : L25R × (List Estimate) × Int × Int × Int} {rho_ : L25R × (List Estimate)} (h : whileE (spec_l25List_l1 stars people) sgm_ = some rho_) : ∃ L0, ∀ L, L0 ≤ L → iter (exec (look t_spec_l25List) L ir35_b0) ir35_k0 ir35_o0 ir35_r0 L (E_spec_l25List_l1 stars people sgm_) = R_spec_l25List_l1 stars people rho_ := by
  refine loop_ex (E := E_spec_l25List_l1 stars people) (R := R_spec_l25List_l1 stars people) (fun y => by first | (intro c; cases c) | (rcases y with y | y <;> (intro c; cases c)) | (rcases y with y | y | y <;> (intro c; cases c))) ?_ h
  clear h
  rintro ⟨r, out, time, mag, n⟩ o_ h
  dsimp only [spec_l25List_l1] at h
  rcases it_some h with ⟨hk5, h⟩ | ⟨hk5, h⟩
  · try simp only [go_sem, n1, n2, n3, n4] at hk5
    all_goals
    obtain ⟨y_6, hk6, h⟩ := bd_some h
    have fhk6 := Fs_spec_l25R_number hk6
    try simp only [go_sem, hk5] at fhk6
    obtain ⟨y_7, hk7, h⟩ := bd_some h
    have fhk7 := Fs_spec_l25R_number hk7
    try simp only [go_sem, hk5] at fhk7
    obtain ⟨y_8, hk8, h⟩ := bd_some h
    have fhk8 := Fs_spec_l25R_number hk8
    try simp only [go_sem, hk5] at fhk8
    obtain ⟨y_9, hk9, h⟩ := bd_some h
    have fhk9 := Fs_spec_l25R_number hk9
    try simp only [go_sem, hk5] at fhk9
    obtain ⟨y_10, hk10, h⟩ := bd_some h
    have fhk10 := Fs_spec_l25Unfold hk10
    try simp only [go_sem, hk5] at fhk10
    rcases it_some h with ⟨hk11, h⟩ | ⟨hk11, h⟩
    · try simp only [go_sem, n1, n2, n3, n4, hk5] at hk11
      all_goals
      obtain rfl := so_some h
      refine ⟨0, fun L hL => ?_⟩
      simp only [go_sem, ir35, E_spec_l25List_l1, R_spec_l25List_l1, ir35_b0, ir35_k0, ir35_o0, ir35_r0, hk5, fhk6, fhk7, fhk8, fhk9, fhk10, hk11]
    · try simp only [go_sem, n1, n2, n3, n4, hk5] at hk11
      all_goals
      obtain ⟨hk12, h⟩ := ck_some h
      have lhk12 := ix_lt hk12
      have xhk12 := getD_mapD AV.str stars lhk12
      try simp only [go_sem] at lhk12
      try simp only [go_sem] at xhk12
      try simp only [go_sem, n1, n2, n3, n4, hk5, hk11] at hk12
      all_goals
      obtain ⟨hk13, h⟩ := ck_some h
      try simp only [go_sem, n1, n2, n3, n4, hk5, hk11, hk12] at hk13
      all_goals
      obtain ⟨hk14, h⟩ := ck_some h
      have lhk14 := ix_lt hk14
      have xhk14 := getD_mapD AV.str people lhk14
      try simp only [go_sem] at lhk14
      try simp only [go_sem] at xhk14
      try simp only [go_sem, n1, n2, n3, n4, hk5, hk11, hk12, hk13] at hk14
      all_goals
      obtain ⟨hk15, h⟩ := ck_some h
      try simp only [go_sem, n1, n2, n3, n4, hk5, hk11, hk12, hk13, hk14] at hk15
      all_goals
      obtain rfl := so_some h
      refine ⟨0, fun L hL => ?_⟩
      simp only [go_sem, ir35, E_spec_l25List_l1, R_spec_l25List_l1, ir35_b0, ir35_k0, ir35_o0, ir35_r0, hk5, fhk6, fhk7, fhk8, fhk9, fhk10, hk11, hk12, lhk12, xhk12, hk13, hk14, lhk14, xhk14, hk15]
  · try simp only [go_sem, n1, n2, n3, n4] at hk5
    all_goals
    obtain rfl := so_some h
    refine ⟨0, fun L hL => ?_⟩
    simp only [go_sem, ir35, E_spec_l25List_l1, R_spec_l25List_l1, ir35_b0, ir35_k0, ir35_o0, ir35_r0, hk5]

def E_spec_l25List_l2 (stars : List (List UInt8)) (people : List (List UInt8)) : (L25R × (List Estimate) × Int × Int × Int) → St
  | (r, out, time, mag, n) => ⟨[.ref 31 0 0, .any, .any, .own 3200032, .own 3200064, .own 3200096, .int .i64 time, .int .i64 mag, .int .i64 n, .any, .any], [], [(31, ⟨3, [L25R_av r]⟩), (3200032, ⟨1, List.map AV.str stars⟩), (3200064, ⟨1, List.map AV.str people⟩), (3200096, ⟨5, List.map Estimate_av out⟩)], true⟩
def R_spec_l25List_l2 (stars : List (List UInt8)) (people : List (List UInt8)) (y : L25R × (List Estimate)) : Res := (.exit 0, ⟨[.ref 31 0 0, .any, .any, .any, .any, .own 3200032, .any, .any, .any, .any, .any], [], [(31, ⟨3, [L25R_av y.1]⟩), (3200032, ⟨5, List.map Estimate_av y.2⟩)], true⟩)
theorem spec_l25List_l2_ex {stars : List (List UInt8)} {people : List (List UInt8)} {sgm_ : L25R × (List Estimate) × Int × Int × Int} {rho_ : L25R × (List Estimate)} (h : whileE (spec_l25List_l2 stars people) sgm_ = some rho_) : ∃ L0, ∀ L, L0 ≤ L → iter (exec (look t_spec_l25List) L ir35_b0) ir35_k0 ir35_o0 ir35_r0 L (E_spec_l25List_l2 stars people sgm_) = R_spec_l25List_l2 stars people rho_ := by
  refine loop_ex (E := E_spec_l25List_l2 stars people) (R := R_spec_l25List_l2 stars people) (fun y => by first | (intro c; cases c) | (rcases y with y | y <;> (intro c; cases c)) | (rcases y with y | y | y <;> (intro c; cases c))) ?_ h
  clear h
  rintro ⟨r, out, time, mag, n⟩ o_ h
  dsimp only [spec_l25List_l2] at h
  rcases it_some h with ⟨hk17, h⟩ | ⟨hk17, h⟩
  · try simp only [go_sem, n1, n2, n3, n4] at hk17
    all_goals
    obtain ⟨y_18, hk18, h⟩ := bd_some h
    have fhk18 := Fs_spec_l25R_number hk18
    try simp only [go_sem, hk17] at fhk18
    obtain ⟨y_19, hk19, h⟩ := bd_some h
    have fhk19 := Fs_spec_l25R_number hk19
    try simp only [go_sem, hk17] at fhk19
    obtain ⟨y_20, hk20, h⟩ := bd_some h
    have fhk20 := Fs_spec_l25R_number hk20
    try simp only [go_sem, hk17] at fhk20
    obtain ⟨y_21, hk21, h⟩ := bd_some h
    have fhk21 := Fs_spec_l25R_number hk21
    try simp only [go_sem, hk17] at fhk21
    obtain ⟨y_22, hk22, h⟩ := bd_some h
    have fhk22 := Fs_spec_l25Unfold hk22
    try simp only [go_sem, hk17] at fhk22
    rcases it_some h with ⟨hk23, h⟩ | ⟨hk23, h⟩
    · try simp only [go_sem, n1, n2, n3, n4, hk17] at hk23
      all_goals
      obtain rfl := so_some h
      refine ⟨0, fun L hL => ?_⟩
      simp only [go_sem, ir35, E_spec_l25List_l2, R_spec_l25List_l2, ir35_b0, ir35_k0, ir35_o0, ir35_r0, E_spec_l25List_l1, R_spec_l25List_l1, ir35_k0, ir35_o0, ir35_r0, hk17, fhk18, fhk19, fhk20, fhk21, fhk22, hk23]
    · try simp only [go_sem, n1, n2, n3, n4, hk17] at hk23
      all_goals
      obtain ⟨hk24, h⟩ := ck_some h
      have lhk24 := ix_lt hk24
      have xhk24 := getD_mapD AV.str stars lhk24
      try simp only [go_sem] at lhk24
      try simp only [go_sem] at xhk24
      try simp only [go_sem, n1, n2, n3, n4, hk17, hk23] at hk24
      all_goals
      obtain ⟨hk25, h⟩ := ck_some h
      try simp only [go_sem, n1, n2, n3, n4, hk17, hk23, hk24] at hk25
      all_goals
      obtain ⟨hk26, h⟩ := ck_some h
      have lhk26 := ix_lt hk26
      have xhk26 := getD_mapD AV.str people lhk26
      try simp only [go_sem] at lhk26
      try simp only [go_sem] at xhk26
      try simp only [go_sem, n1, n2, n3, n4, hk17, hk23, hk24, hk25] at hk26
      all_goals
      obtain ⟨hk27, h⟩ := ck_some h
      try simp only [go_sem, n1, n2, n3, n4, hk17, hk23, hk24, hk25, hk26] at hk27
      all_goals
      obtain rfl := so_some h
      refine ⟨0, fun L hL => ?_⟩
      simp only [go_sem, ir35, E_spec_l25List_l2, R_spec_l25List_l2, ir35_b0, ir35_k0, ir35_o0, ir35_r0, E_spec_l25List_l1, R_spec_l25List_l1, ir35_k0, ir35_o0, ir35_r0, hk17, fhk18, fhk19, fhk20, fhk21, fhk22, hk23, hk24, lhk24, xhk24, hk25, hk26, lhk26, xhk26, hk27]
  · try simp only [go_sem, n1, n2, n3, n4] at hk17
    all_goals
    obtain rfl := so_some h
    refine ⟨0, fun L hL => ?_⟩
    simp only [go_sem, ir35, E_spec_l25List_l2, R_spec_l25List_l2, ir35_b0, ir35_k0, ir35_o0, ir35_r0, E_spec_l25List_l1, R_spec_l25List_l1, ir35_k0, ir35_o0, ir35_r0, hk17]

theorem Fs_spec_l25List {r : L25R} {y_ : (List Estimate) × Bool × L25R} (h : spec_l25List r = some y_) : c_spec_l25List.F [.mem 3 [L25R_av r]] = ⟨true, .tup [.fresh 5 (List.map Estimate_av y_.1), .bool y_.2.1], [.mem 3 [L25R_av y_.2.2]]⟩ := by
  refine mkN_E ?_
  dsimp only [spec_l25List] at h
  obtain ⟨y_1, hk1, h⟩ := bd_some h
  have fhk1 := Fs_spec_l25R_names hk1
  try simp only [go_sem] at fhk1
  obtain ⟨y_2, hk2, h⟩ := bd_some h
  have fhk2 := Fs_spec_l25R_names hk2
  try simp only [go_sem] at fhk2
  rcases it_some h with ⟨hk3, h⟩ | ⟨hk3, h⟩
  · try simp only [go_sem, n1, n2, n3, n4] at hk3
    all_goals
    obtain ⟨y_4, hk4, h⟩ := bd_some h
    have fhk4 := Fs_spec_l25R_number hk4
    try simp only [go_sem, hk3] at fhk4
    obtain ⟨y_16, hk16, h⟩ := bd_some h
    obtain ⟨Lhk16, ehk16⟩ := spec_l25List_l1_ex hk16
    obtain rfl := so_some h
    refine ⟨Lhk16, fun L hL => ?_⟩
    have ehk16 := ehk16 L (by omega)
    try simp only [go_sem, E_spec_l25List_l1, R_spec_l25List_l1, ir35_k0, ir35_o0, ir35_r0, E_spec_l25List_l2, R_spec_l25List_l2, ir35_k0, ir35_o0, ir35_r0, hk3] at ehk16
    simp only [go_sem, ir35, E_spec_l25List_l1, R_spec_l25List_l1, ir35_k0, ir35_o0, ir35_r0, E_spec_l25List_l2, R_spec_l25List_l2, ir35_k0, ir35_o0, ir35_r0, fhk1, fhk2, hk3, fhk4, ehk16]
  · try simp only [go_sem, n1, n2, n3, n4] at hk3
    all_goals
    obtain ⟨y_28, hk28, h⟩ := bd_some h
    obtain ⟨Lhk28, ehk28⟩ := spec_l25List_l2_ex hk28
    obtain rfl := so_some h
    refine ⟨Lhk28, fun L hL => ?_⟩
    have ehk28 := ehk28 L (by omega)
    try simp only [go_sem, E_spec_l25List_l1, R_spec_l25List_l1, ir35_k0, ir35_o0, ir35_r0, E_spec_l25List_l2, R_spec_l25List_l2, ir35_k0, ir35_o0, ir35_r0, hk3] at ehk28
    simp only [go_sem, ir35, E_spec_l25List_l1, R_spec_l25List_l1, ir35_k0, ir35_o0, ir35_r0, E_spec_l25List_l2, R_spec_l25List_l2, ir35_k0, ir35_o0, ir35_r0, fhk1, fhk2, hk3, ehk28]


def ir77_v : List Nat := [0, 1, 2, 6]
def ir77 : AFn := ⟨3, 4, .seq (.region false [
    ⟨.var 3, 6, none, .mov (.c (.bool false))⟩])
 (.seq (.region false [
    ⟨.push, 7, none, .mov (.v 0)⟩,
    ⟨.push, 8, none, .mov (.v 1)⟩,
    ⟨.push, 9, none, .bin false .geq (.s 1) (.s 0)⟩,
    ⟨.push, 10, none, .mov (.s 0)⟩,
    ⟨.push, 11, (some ((.s 0), true)), .mov (.v 0)⟩,
    ⟨.push, 12, (some ((.s 1), true)), .mov (.v 2)⟩,
    ⟨.push, 13, (some ((.s 2), true)), .bin false .leq (.s 1) (.s 0)⟩,
    ⟨.push, 14, none, .pick (.s 3) (.s 0) (.c (.bool false))⟩,
    ⟨.var 3, 6, none, .mov (.s 0)⟩])
 (.ret)), [.t 3]⟩
noncomputable def t_spec_l00In : List (Nat × Ctr) := []
noncomputable def c_spec_l00In : Ctr := mkF t_spec_l00In ir77 [.bor, .bor, .bor]
theorem s_spec_l00In : Sound Try.prog 77 c_spec_l00In := mkF_sound _ rfl snd_nil (by kernel_rfl : chkFn Try.prog 77 ir77 ir77_v = true)
theorem M_spec_l00In : c_spec_l00In.modes = [.bor, .bor, .bor] := rfl
theorem Fl_spec_l00In : c_spec_l00In.flat = true := rfl
attribute [go_sem] M_spec_l00In Fl_spec_l00In
theorem Fs_spec_l00In {n : Int} {low : Int} {high : Int} {y_ : Bool} (h : spec_l00In n low high = some y_) : c_spec_l00In.F [.int .i64 n, .int .i64 low, .int .i64 high] = ⟨true, .bool y_, [.any, .any, .any]⟩ := by
  refine mkF_E rfl ?_
  dsimp only [spec_l00In] at h
  obtain rfl := so_some h
  refine ⟨0, fun L hL => ?_⟩
  simp only [go_sem, ir77]


def ir63_v : List Nat := [0, 2]
def ir63 : AFn := ⟨1, 2, .seq (.region false [
    ⟨.var 1, 2, none, .mov (.c (.bool false))⟩])
 (.seq (.region false [
    ⟨.push, 3, none, .mov (.v 0)⟩,
    ⟨.push, 4, none, .call 77 [(.s 0), (.c (.int .i64 (0))), (.c (.int .i64 (10000000)))]⟩,
    ⟨.var 1, 2, none, .mov (.s 0)⟩])
 (.ret)), [.t 1]⟩
noncomputable def t_spec_l06Time : List (Nat × Ctr) := [(77, c_spec_l00In)]
theorem lk_spec_l06Time_77 : look t_spec_l06Time 77 = some c_spec_l00In := rfl
noncomputable def c_spec_l06Time : Ctr := mkF t_spec_l06Time ir63 [.bor]
theorem s_spec_l06Time : Sound Try.prog 63 c_spec_l06Time := mkF_sound _ rfl (snd_cons s_spec_l00In snd_nil) (by kernel_rfl : chkFn Try.prog 63 ir63 ir63_v = true)
theorem M_spec_l06Time : c_spec_l06Time.modes = [.bor] := rfl
theorem Fl_spec_l06Time : c_spec_l06Time.flat = true := rfl
attribute [go_sem] M_spec_l06Time Fl_spec_l06Time
attribute [go_sem] lk_spec_l06Time_77
theorem Fs_spec_l06Time {n : Int} {y_ : Bool} (h : spec_l06Time n = some y_) : c_spec_l06Time.F [.int .i64 n] = ⟨true, .bool y_, [.any]⟩ := by
  refine mkF_E rfl ?_
  dsimp only [spec_l06Time] at h
  obtain ⟨y_1, hk1, h⟩ := bd_some h
  have fhk1 := Fs_spec_l00In hk1
  try simp only [go_sem] at fhk1
  obtain rfl := so_some h
  refine ⟨0, fun L hL => ?_⟩
  simp only [go_sem, ir63, fhk1]


def ir78_v : List Nat := [0, 2]
def ir78 : AFn := ⟨1, 2, .seq (.region false [
    ⟨.var 1, 2, none, .mov (.c (.bool false))⟩])
 (.seq (.region false [
    ⟨.push, 3, none, .mov (.v 0)⟩,
    ⟨.push, 4, none, .bin false .geq (.s 0) (.c (.int .u8 (97)))⟩,
    ⟨.push, 5, none, .mov (.s 0)⟩,
    ⟨.push, 6, (some ((.s 0), true)), .mov (.v 0)⟩,
    ⟨.push, 7, (some ((.s 1), true)), .bin false .leq (.s 0) (.c (.int .u8 (122)))⟩,
    ⟨.push, 8, none, .pick (.s 2) (.s 0) (.c (.bool false))⟩,
    ⟨.var 1, 2, none, .mov (.s 0)⟩])
 (.ret)), [.t 1]⟩
noncomputable def t_spec_l01Small : List (Nat × Ctr) := []
noncomputable def c_spec_l01Small : Ctr := mkF t_spec_l01Small ir78 [.bor]
theorem s_spec_l01Small : Sound Try.prog 78 c_spec_l01Small := mkF_sound _ rfl snd_nil (by kernel_rfl : chkFn Try.prog 78 ir78 ir78_v = true)
theorem M_spec_l01Small : c_spec_l01Small.modes = [.bor] := rfl
theorem Fl_spec_l01Small : c_spec_l01Small.flat = true := rfl
attribute [go_sem] M_spec_l01Small Fl_spec_l01Small
theorem Fs_spec_l01Small {c : UInt8} {y_ : Bool} (h : spec_l01Small c = some y_) : c_spec_l01Small.F [.int .u8 (c.toNat : Int)] = ⟨true, .bool y_, [.any]⟩ := by
  refine mkF_E rfl ?_
  dsimp only [spec_l01Small] at h
  obtain rfl := so_some h
  refine ⟨0, fun L hL => ?_⟩
  simp only [go_sem, ir78]


def ir79_v : List Nat := [0, 2]
def ir79 : AFn := ⟨1, 2, .seq (.region false [
    ⟨.var 1, 2, none, .mov (.c (.bool false))⟩])
 (.seq (.region false [
    ⟨.push, 3, none, .mov (.v 0)⟩,
    ⟨.push, 4, none, .bin false .geq (.s 0) (.c (.int .u8 (48)))⟩,
    ⟨.push, 5, none, .mov (.s 0)⟩,
    ⟨.push, 6, (some ((.s 0), true)), .mov (.v 0)⟩,
    ⟨.push, 7, (some ((.s 1), true)), .bin false .leq (.s 0) (.c (.int .u8 (57)))⟩,
    ⟨.push, 8, none, .pick (.s 2) (.s 0) (.c (.bool false))⟩,
    ⟨.var 1, 2, none, .mov (.s 0)⟩])
 (.ret)), [.t 1]⟩
noncomputable def t_spec_l01Digit : List (Nat × Ctr) := []
noncomputable def c_spec_l01Digit : Ctr := mkF t_spec_l01Digit ir79 [.bor]
theorem s_spec_l01Digit : Sound Try.prog 79 c_spec_l01Digit := mkF_sound _ rfl snd_nil (by kernel_rfl : chkFn Try.prog 79 ir79 ir79_v = true)
theorem M_spec_l01Digit : c_spec_l01Digit.modes = [.bor] := rfl
theorem Fl_spec_l01Digit : c_spec_l01Digit.flat = true := rfl
attribute [go_sem] M_spec_l01Digit Fl_spec_l01Digit
theorem Fs_spec_l01Digit {c : UInt8} {y_ : Bool} (h : spec_l01Digit c = some y_) : c_spec_l01Digit.F [.int .u8 (c.toNat : Int)] = ⟨true, .bool y_, [.any]⟩ := by
  refine mkF_E rfl ?_
  dsimp only [spec_l01Digit] at h
  obtain rfl := so_some h
  refine ⟨0, fun L hL => ?_⟩
  simp only [go_sem, ir79]


def ir64_b0 : IR := .seq (.test false [
    ⟨.push, 17, none, .mov (.v 2)⟩,
    ⟨.push, 18, none, .mov (.v 0)⟩,
    ⟨.push, 19, none, .len true (.s 0)⟩,
    ⟨.push, 20, none, .bin false .lss (.s 2) (.s 0)⟩] (.s 0)
  (.skip)
  (.exit 0))
 (.seq (.block 1 (.test false [
     ⟨.push, 23, none, .mov (.v 0)⟩,
     ⟨.push, 24, none, .mov (.v 2)⟩,
     ⟨.push, 25, none, .ixStr (.s 1) (.s 0)⟩,
     ⟨.push, 26, none, .call 78 [(.s 0)]⟩,
     ⟨.push, 27, none, .un .not (.s 0)⟩,
     ⟨.push, 28, none, .mov (.s 0)⟩,
     ⟨.push, 29, (some ((.s 0), true)), .mov (.v 0)⟩,
     ⟨.push, 30, (some ((.s 1), true)), .mov (.v 2)⟩,
     ⟨.push, 31, (some ((.s 2), true)), .ixStr (.s 1) (.s 0)⟩,
     ⟨.push, 32, (some ((.s 3), true)), .call 79 [(.s 0)]⟩,
     ⟨.push, 33, (some ((.s 4), true)), .un .not (.s 0)⟩,
     ⟨.push, 34, none, .pick (.s 5) (.s 0) (.c (.bool false))⟩,
     ⟨.push, 35, none, .mov (.s 0)⟩,
     ⟨.push, 36, (some ((.s 0), true)), .mov (.v 0)⟩,
     ⟨.push, 37, (some ((.s 1), true)), .mov (.v 2)⟩,
     ⟨.push, 38, (some ((.s 2), true)), .ixStr (.s 1) (.s 0)⟩,
     ⟨.push, 39, (some ((.s 3), true)), .bin false .neq (.s 0) (.c (.int .u8 (45)))⟩,
     ⟨.push, 40, none, .pick (.s 4) (.s 0) (.c (.bool false))⟩] (.s 0)
   (.seq (.region false [
       ⟨.var 1, 2, none, .mov (.c (.bool false))⟩])
    (.ret))
   (.skip)))
 (.region false [
   ⟨.push, 21, none, .mov (.v 2)⟩,
   ⟨.push, 22, none, .bin false .add (.s 0) (.c (.int .i64 (1)))⟩,
   ⟨.var 2, 3, none, .mov (.s 0)⟩]))
def ir64_k0 : List Bool := [true, false, true]
def ir64_o0 : List Bool := [false, false, false]
def ir64_r0 : List Bool := [false, true, false]
def ir64_v : List Nat := [0, 2, 3]
def ir64 : AFn := ⟨1, 3, .seq (.region false [
    ⟨.var 1, 2, none, .mov (.c (.bool false))⟩])
 (.seq (.test false [
    ⟨.push, 4, none, .mov (.v 0)⟩,
    ⟨.push, 5, none, .bin false .eql (.s 0) (.c (.str []))⟩,
    ⟨.push, 6, none, .mov (.s 0)⟩,
    ⟨.push, 7, (some ((.s 0), false)), .mov (.v 0)⟩,
    ⟨.push, 8, (some ((.s 1), false)), .len true (.s 0)⟩,
    ⟨.push, 9, (some ((.s 2), false)), .bin false .gtr (.s 0) (.c (.int .i64 (12)))⟩,
    ⟨.push, 10, none, .pick (.s 3) (.c (.bool true)) (.s 0)⟩,
    ⟨.push, 11, none, .mov (.s 0)⟩,
    ⟨.push, 12, (some ((.s 0), false)), .mov (.v 0)⟩,
    ⟨.push, 13, (some ((.s 1), false)), .ixStr (.s 0) (.c (.int .i64 (0)))⟩,
    ⟨.push, 14, (some ((.s 2), false)), .call 78 [(.s 0)]⟩,
    ⟨.push, 15, (some ((.s 3), false)), .un .not (.s 0)⟩,
    ⟨.push, 16, none, .pick (.s 4) (.c (.bool true)) (.s 0)⟩] (.s 0)
  (.seq (.region false [
      ⟨.var 1, 2, none, .mov (.c (.bool false))⟩])
   (.ret))
  (.skip))
 (.seq (.seq (.region false [
     ⟨.var 2, 3, none, .mov (.c (.int .i64 (0)))⟩])
  (.block 0 (.loop ir64_k0 ir64_o0 ir64_r0 ir64_b0)))
 (.seq (.region false [
    ⟨.var 1, 2, none, .mov (.c (.bool true))⟩])
 (.ret)))), [.t 1]⟩
noncomputable def t_spec_IsName : List (Nat × Ctr) := [(78, c_spec_l01Small), (79, c_spec_l01Digit)]
theorem lk_spec_IsName_78 : look t_spec_IsName 78 = some c_spec_l01Small := rfl
theorem lk_spec_IsName_79 : look t_spec_IsName 79 = some c_spec_l01Digit := rfl
noncomputable def c_spec_IsName : Ctr := mkF t_spec_IsName ir64 [.bor]
theorem s_spec_IsName : Sound Try.prog 64 c_spec_IsName := mkF_sound _ rfl (snd_cons s_spec_l01Small (snd_cons s_spec_l01Digit snd_nil)) (by kernel_rfl : chkFn Try.prog 64 ir64 ir64_v = true)
theorem M_spec_IsName : c_spec_IsName.modes = [.bor] := rfl
theorem Fl_spec_IsName : c_spec_IsName.flat = true := rfl
attribute [go_sem] M_spec_IsName Fl_spec_IsName
attribute [go_sem] lk_spec_IsName_78 lk_spec_IsName_79
def E_spec_IsName_l1 (s_ : List UInt8) : Int → St
  | i => ⟨[.str s_, .any, .int .i64 i], [], [], true⟩
def R_spec_IsName_l1 (s_ : List UInt8) : (Unit ⊕ Bool) → Res
  | .inl y => (.exit 0, ⟨[.any, .any, .any], [], [], true⟩)
  | .inr y => (.ret, ⟨[.any, .bool y, .any], [], [], true⟩)
theorem spec_IsName_l1_ex {s_ : List UInt8} {sgm_ : Int} {rho_ : Unit ⊕ Bool} (h : whileE (spec_IsName_l1 s_) sgm_ = some rho_) : ∃ L0, ∀ L, L0 ≤ L → iter (exec (look t_spec_IsName) L ir64_b0) ir64_k0 ir64_o0 ir64_r0 L (E_spec_IsName_l1 s_ sgm_) = R_spec_IsName_l1 s_ rho_ := by
  refine loop_ex (E := E_spec_IsName_l1 s_) (R := R_spec_IsName_l1 s_) (fun y => by first | (intro c; cases c) | (rcases y with y | y <;> (intro c; cases c)) | (rcases y with y | y | y <;> (intro c; cases c))) ?_ h
  clear h
  intro i o_ h
  dsimp only [spec_IsName_l1] at h
  rcases it_some h with ⟨hk4, h⟩ | ⟨hk4, h⟩
  · try simp only [go_sem, n1, n2, n3, n4] at hk4
    all_goals
    obtain ⟨hk5, h⟩ := ck_some h
    try simp only [go_sem, n1, n2, n3, n4, hk4] at hk5
    all_goals
    obtain ⟨y_6, hk6, h⟩ := bd_some h
    have fhk6 := Fs_spec_l01Small hk6
    try simp only [go_sem, hk4, hk5] at fhk6
    obtain ⟨hk7, h⟩ := ck_some h
    rcases or_split hk7 with ⟨ghk7, hk7⟩ | ghk7
    · try simp only [go_sem, n1, n2, n3, n4, hk4, hk5] at ghk7
      all_goals
      obtain ⟨y_7, hhk7⟩ := Option.isSome_iff_exists.1 hk7
      have fhk7 := Fs_spec_l01Digit hhk7
      try simp only [go_sem, hk4, hk5, ghk7] at fhk7
      rcases it_some h with ⟨hk8, h⟩ | ⟨hk8, h⟩
      · try simp only [go_sem, n1, n2, n3, n4, hk4, hk5, ghk7, hhk7] at hk8
        all_goals
        obtain rfl := so_some h
        refine ⟨0, fun L hL => ?_⟩
        simp only [go_sem, ir64, E_spec_IsName_l1, R_spec_IsName_l1, ir64_b0, ir64_k0, ir64_o0, ir64_r0, hk4, hk5, fhk6, ghk7, hhk7, fhk7, hk8]
      · try simp only [go_sem, n1, n2, n3, n4, hk4, hk5, ghk7, hhk7] at hk8
        all_goals
        obtain rfl := so_some h
        refine ⟨0, fun L hL => ?_⟩
        simp only [go_sem, ir64, E_spec_IsName_l1, R_spec_IsName_l1, ir64_b0, ir64_k0, ir64_o0, ir64_r0, hk4, hk5, fhk6, ghk7, hhk7, fhk7, hk8]
    · have ghk7n := no_f ghk7
      try simp only [go_sem, n1, n2, n3, n4, hk4, hk5] at ghk7n
      all_goals
      rcases it_some h with ⟨hk8, h⟩ | ⟨hk8, h⟩
      · try simp only [go_sem, n1, n2, n3, n4, hk4, hk5, ghk7n] at hk8
        all_goals
        obtain rfl := so_some h
        refine ⟨0, fun L hL => ?_⟩
        simp only [go_sem, ir64, E_spec_IsName_l1, R_spec_IsName_l1, ir64_b0, ir64_k0, ir64_o0, ir64_r0, hk4, hk5, fhk6, ghk7n, hk8]
      · try simp only [go_sem, n1, n2, n3, n4, hk4, hk5, ghk7n] at hk8
        all_goals
        obtain rfl := so_some h
        refine ⟨0, fun L hL => ?_⟩
        simp only [go_sem, ir64, E_spec_IsName_l1, R_spec_IsName_l1, ir64_b0, ir64_k0, ir64_o0, ir64_r0, hk4, hk5, fhk6, ghk7n, hk8]
  · try simp only [go_sem, n1, n2, n3, n4] at hk4
    all_goals
    obtain rfl := so_some h
    refine ⟨0, fun L hL => ?_⟩
    simp only [go_sem, ir64, E_spec_IsName_l1, R_spec_IsName_l1, ir64_b0, ir64_k0, ir64_o0, ir64_r0, hk4]

theorem Fs_spec_IsName {s_ : List UInt8} {y_ : Bool} (h : spec_IsName s_ = some y_) : c_spec_IsName.F [.str s_] = ⟨true, .bool y_, [.any]⟩ := by
  refine mkF_E rfl ?_
  dsimp only [spec_IsName] at h
  obtain ⟨hk1, h⟩ := ck_some h
  rcases or_split hk1 with ⟨ghk1, hk1⟩ | ghk1
  · try simp only [go_sem, n1, n2, n3, n4] at ghk1
    all_goals
    try simp only [go_sem, n1, n2, n3, n4, ghk1] at hk1
    all_goals
    obtain ⟨hk2, h⟩ := ck_some h
    rcases or_split hk2 with ⟨ghk2, hk2⟩ | ghk2
    · try simp only [go_sem, n1, n2, n3, n4, ghk1, hk1] at ghk2
      all_goals
      obtain ⟨y_2, hhk2⟩ := Option.isSome_iff_exists.1 hk2
      have fhk2 := Fs_spec_l01Small hhk2
      try simp only [go_sem, ghk1, hk1, ghk2] at fhk2
      rcases it_some h with ⟨hk3, h⟩ | ⟨hk3, h⟩
      · try simp only [go_sem, n1, n2, n3, n4, ghk1, hk1, ghk2, hhk2] at hk3
        all_goals
        obtain rfl := so_some h
        refine ⟨0, fun L hL => ?_⟩
        simp only [go_sem, ir64, E_spec_IsName_l1, R_spec_IsName_l1, ir64_k0, ir64_o0, ir64_r0, ghk1, hk1, ghk2, hhk2, fhk2, hk3]
      · try simp only [go_sem, n1, n2, n3, n4, ghk1, hk1, ghk2, hhk2] at hk3
        all_goals
        obtain ⟨y_9, hk9, h⟩ := bd_some h
        obtain ⟨Lhk9, ehk9⟩ := spec_IsName_l1_ex hk9
        rcases y_9 with y_9a | y_9b
        · dsimp only at h
          obtain rfl := so_some h
          refine ⟨Lhk9, fun L hL => ?_⟩
          have ehk9 := ehk9 L (by omega)
          try simp only [go_sem, E_spec_IsName_l1, R_spec_IsName_l1, ir64_k0, ir64_o0, ir64_r0, ghk1, hk1, ghk2, hhk2, hk3] at ehk9
          simp only [go_sem, ir64, E_spec_IsName_l1, R_spec_IsName_l1, ir64_k0, ir64_o0, ir64_r0, ghk1, hk1, ghk2, hhk2, fhk2, hk3, ehk9]
        · dsimp only at h
          obtain rfl := so_some h
          refine ⟨Lhk9, fun L hL => ?_⟩
          have ehk9 := ehk9 L (by omega)
          try simp only [go_sem, E_spec_IsName_l1, R_spec_IsName_l1, ir64_k0, ir64_o0, ir64_r0, ghk1, hk1, ghk2, hhk2, hk3] at ehk9
          simp only [go_sem, ir64, E_spec_IsName_l1, R_spec_IsName_l1, ir64_k0, ir64_o0, ir64_r0, ghk1, hk1, ghk2, hhk2, fhk2, hk3, ehk9]
    · have ghk2n := no_f ghk2
      rcases or_t ghk2n with ghk2na | ⟨ghk2na, ghk2nb⟩
      · try simp only [go_sem, n1, n2, n3, n4, ghk1, hk1] at ghk2na
        all_goals
        rcases it_some h with ⟨hk3, h⟩ | ⟨hk3, h⟩
        · try simp only [go_sem, n1, n2, n3, n4, ghk1, hk1, ghk2na] at hk3
          all_goals
          obtain rfl := so_some h
          refine ⟨0, fun L hL => ?_⟩
          simp only [go_sem, ir64, E_spec_IsName_l1, R_spec_IsName_l1, ir64_k0, ir64_o0, ir64_r0, ghk1, hk1, ghk2na, hk3]
        · try simp only [go_sem, n1, n2, n3, n4, ghk1, hk1, ghk2na] at hk3
          all_goals
          obtain ⟨y_9, hk9, h⟩ := bd_some h
          obtain ⟨Lhk9, ehk9⟩ := spec_IsName_l1_ex hk9
          rcases y_9 with y_9a | y_9b
          · dsimp only at h
            obtain rfl := so_some h
            refine ⟨Lhk9, fun L hL => ?_⟩
            have ehk9 := ehk9 L (by omega)
            try simp only [go_sem, E_spec_IsName_l1, R_spec_IsName_l1, ir64_k0, ir64_o0, ir64_r0, ghk1, hk1, ghk2na, hk3] at ehk9
            simp only [go_sem, ir64, E_spec_IsName_l1, R_spec_IsName_l1, ir64_k0, ir64_o0, ir64_r0, ghk1, hk1, ghk2na, hk3, ehk9]
          · dsimp only at h
            obtain rfl := so_some h
            refine ⟨Lhk9, fun L hL => ?_⟩
            have ehk9 := ehk9 L (by omega)
            try simp only [go_sem, E_spec_IsName_l1, R_spec_IsName_l1, ir64_k0, ir64_o0, ir64_r0, ghk1, hk1, ghk2na, hk3] at ehk9
            simp only [go_sem, ir64, E_spec_IsName_l1, R_spec_IsName_l1, ir64_k0, ir64_o0, ir64_r0, ghk1, hk1, ghk2na, hk3, ehk9]
      · try simp only [go_sem, n1, n2, n3, n4, ghk1, hk1] at ghk2na
        all_goals
        try simp only [go_sem, n1, n2, n3, n4, ghk1, hk1, ghk2na] at ghk2nb
        all_goals
        rcases it_some h with ⟨hk3, h⟩ | ⟨hk3, h⟩
        · try simp only [go_sem, n1, n2, n3, n4, ghk1, hk1, ghk2na, ghk2nb] at hk3
          all_goals
          obtain rfl := so_some h
          refine ⟨0, fun L hL => ?_⟩
          simp only [go_sem, ir64, E_spec_IsName_l1, R_spec_IsName_l1, ir64_k0, ir64_o0, ir64_r0, ghk1, hk1, ghk2na, ghk2nb, hk3]
        · try simp only [go_sem, n1, n2, n3, n4, ghk1, hk1, ghk2na, ghk2nb] at hk3
          all_goals
          obtain ⟨y_9, hk9, h⟩ := bd_some h
          obtain ⟨Lhk9, ehk9⟩ := spec_IsName_l1_ex hk9
          rcases y_9 with y_9a | y_9b
          · dsimp only at h
            obtain rfl := so_some h
            refine ⟨Lhk9, fun L hL => ?_⟩
            have ehk9 := ehk9 L (by omega)
            try simp only [go_sem, E_spec_IsName_l1, R_spec_IsName_l1, ir64_k0, ir64_o0, ir64_r0, ghk1, hk1, ghk2na, ghk2nb, hk3] at ehk9
            simp only [go_sem, ir64, E_spec_IsName_l1, R_spec_IsName_l1, ir64_k0, ir64_o0, ir64_r0, ghk1, hk1, ghk2na, ghk2nb, hk3, ehk9]
          · dsimp only at h
            obtain rfl := so_some h
            refine ⟨Lhk9, fun L hL => ?_⟩
            have ehk9 := ehk9 L (by omega)
            try simp only [go_sem, E_spec_IsName_l1, R_spec_IsName_l1, ir64_k0, ir64_o0, ir64_r0, ghk1, hk1, ghk2na, ghk2nb, hk3] at ehk9
            simp only [go_sem, ir64, E_spec_IsName_l1, R_spec_IsName_l1, ir64_k0, ir64_o0, ir64_r0, ghk1, hk1, ghk2na, ghk2nb, hk3, ehk9]
  · have ghk1n := no_f ghk1
    rcases or_t ghk1n with ghk1na | ⟨ghk1na, ghk1nb⟩
    · try simp only [go_sem, n1, n2, n3, n4] at ghk1na
      all_goals
      obtain ⟨hk2, h⟩ := ck_some h
      rcases or_split hk2 with ⟨ghk2, hk2⟩ | ghk2
      · try simp only [go_sem, n1, n2, n3, n4, ghk1na] at ghk2
        all_goals
        obtain ⟨y_2, hhk2⟩ := Option.isSome_iff_exists.1 hk2
        have fhk2 := Fs_spec_l01Small hhk2
        try simp only [go_sem, ghk1na, ghk2] at fhk2
        rcases it_some h with ⟨hk3, h⟩ | ⟨hk3, h⟩
        · try simp only [go_sem, n1, n2, n3, n4, ghk1na, ghk2, hhk2] at hk3
          all_goals
          obtain rfl := so_some h
          refine ⟨0, fun L hL => ?_⟩
          simp only [go_sem, ir64, E_spec_IsName_l1, R_spec_IsName_l1, ir64_k0, ir64_o0, ir64_r0, ghk1na, ghk2, hhk2, fhk2, hk3]
        · try simp only [go_sem, n1, n2, n3, n4, ghk1na, ghk2, hhk2] at hk3
          all_goals
          obtain ⟨y_9, hk9, h⟩ := bd_some h
          obtain ⟨Lhk9, ehk9⟩ := spec_IsName_l1_ex hk9
          rcases y_9 with y_9a | y_9b
          · dsimp only at h
            obtain rfl := so_some h
            refine ⟨Lhk9, fun L hL => ?_⟩
            have ehk9 := ehk9 L (by omega)
            try simp only [go_sem, E_spec_IsName_l1, R_spec_IsName_l1, ir64_k0, ir64_o0, ir64_r0, ghk1na, ghk2, hhk2, hk3] at ehk9
            simp only [go_sem, ir64, E_spec_IsName_l1, R_spec_IsName_l1, ir64_k0, ir64_o0, ir64_r0, ghk1na, ghk2, hhk2, fhk2, hk3, ehk9]
          · dsimp only at h
            obtain rfl := so_some h
            refine ⟨Lhk9, fun L hL => ?_⟩
            have ehk9 := ehk9 L (by omega)
            try simp only [go_sem, E_spec_IsName_l1, R_spec_IsName_l1, ir64_k0, ir64_o0, ir64_r0, ghk1na, ghk2, hhk2, hk3] at ehk9
            simp only [go_sem, ir64, E_spec_IsName_l1, R_spec_IsName_l1, ir64_k0, ir64_o0, ir64_r0, ghk1na, ghk2, hhk2, fhk2, hk3, ehk9]
      · have ghk2n := no_f ghk2
        rcases or_t ghk2n with ghk2na | ⟨ghk2na, ghk2nb⟩
        · try simp only [go_sem, n1, n2, n3, n4, ghk1na] at ghk2na
          all_goals
          rcases it_some h with ⟨hk3, h⟩ | ⟨hk3, h⟩
          · try simp only [go_sem, n1, n2, n3, n4, ghk1na, ghk2na] at hk3
            all_goals
            obtain rfl := so_some h
            refine ⟨0, fun L hL => ?_⟩
            simp only [go_sem, ir64, E_spec_IsName_l1, R_spec_IsName_l1, ir64_k0, ir64_o0, ir64_r0, ghk1na, ghk2na, hk3]
          · try simp only [go_sem, n1, n2, n3, n4, ghk1na, ghk2na] at hk3
            all_goals
            obtain ⟨y_9, hk9, h⟩ := bd_some h
            obtain ⟨Lhk9, ehk9⟩ := spec_IsName_l1_ex hk9
            rcases y_9 with y_9a | y_9b
            · dsimp only at h
              obtain rfl := so_some h
              refine ⟨Lhk9, fun L hL => ?_⟩
              have ehk9 := ehk9 L (by omega)
              try simp only [go_sem, E_spec_IsName_l1, R_spec_IsName_l1, ir64_k0, ir64_o0, ir64_r0, ghk1na, ghk2na, hk3] at ehk9
              simp only [go_sem, ir64, E_spec_IsName_l1, R_spec_IsName_l1, ir64_k0, ir64_o0, ir64_r0, ghk1na, ghk2na, hk3, ehk9]
            · dsimp only at h
              obtain rfl := so_some h
              refine ⟨Lhk9, fun L hL => ?_⟩
              have ehk9 := ehk9 L (by omega)
              try simp only [go_sem, E_spec_IsName_l1, R_spec_IsName_l1, ir64_k0, ir64_o0, ir64_r0, ghk1na, ghk2na, hk3] at ehk9
              simp only [go_sem, ir64, E_spec_IsName_l1, R_spec_IsName_l1, ir64_k0, ir64_o0, ir64_r0, ghk1na, ghk2na, hk3, ehk9]
        · try simp only [go_sem, n1, n2, n3, n4, ghk1na] at ghk2na
          all_goals
          try simp only [go_sem, n1, n2, n3, n4, ghk1na, ghk2na] at ghk2nb
          all_goals
          rcases it_some h with ⟨hk3, h⟩ | ⟨hk3, h⟩
          · try simp only [go_sem, n1, n2, n3, n4, ghk1na, ghk2na, ghk2nb] at hk3
            all_goals
            obtain rfl := so_some h
            refine ⟨0, fun L hL => ?_⟩
            simp only [go_sem, ir64, E_spec_IsName_l1, R_spec_IsName_l1, ir64_k0, ir64_o0, ir64_r0, ghk1na, ghk2na, ghk2nb, hk3]
          · try simp only [go_sem, n1, n2, n3, n4, ghk1na, ghk2na, ghk2nb] at hk3
            all_goals
            obtain ⟨y_9, hk9, h⟩ := bd_some h
            obtain ⟨Lhk9, ehk9⟩ := spec_IsName_l1_ex hk9
            rcases y_9 with y_9a | y_9b
            · dsimp only at h
              obtain rfl := so_some h
              refine ⟨Lhk9, fun L hL => ?_⟩
              have ehk9 := ehk9 L (by omega)
              try simp only [go_sem, E_spec_IsName_l1, R_spec_IsName_l1, ir64_k0, ir64_o0, ir64_r0, ghk1na, ghk2na, ghk2nb, hk3] at ehk9
              simp only [go_sem, ir64, E_spec_IsName_l1, R_spec_IsName_l1, ir64_k0, ir64_o0, ir64_r0, ghk1na, ghk2na, ghk2nb, hk3, ehk9]
            · dsimp only at h
              obtain rfl := so_some h
              refine ⟨Lhk9, fun L hL => ?_⟩
              have ehk9 := ehk9 L (by omega)
              try simp only [go_sem, E_spec_IsName_l1, R_spec_IsName_l1, ir64_k0, ir64_o0, ir64_r0, ghk1na, ghk2na, ghk2nb, hk3] at ehk9
              simp only [go_sem, ir64, E_spec_IsName_l1, R_spec_IsName_l1, ir64_k0, ir64_o0, ir64_r0, ghk1na, ghk2na, ghk2nb, hk3, ehk9]
    · try simp only [go_sem, n1, n2, n3, n4] at ghk1na
      all_goals
      try simp only [go_sem, n1, n2, n3, n4, ghk1na] at ghk1nb
      all_goals
      obtain ⟨hk2, h⟩ := ck_some h
      rcases or_split hk2 with ⟨ghk2, hk2⟩ | ghk2
      · try simp only [go_sem, n1, n2, n3, n4, ghk1na, ghk1nb] at ghk2
        all_goals
        obtain ⟨y_2, hhk2⟩ := Option.isSome_iff_exists.1 hk2
        have fhk2 := Fs_spec_l01Small hhk2
        try simp only [go_sem, ghk1na, ghk1nb, ghk2] at fhk2
        rcases it_some h with ⟨hk3, h⟩ | ⟨hk3, h⟩
        · try simp only [go_sem, n1, n2, n3, n4, ghk1na, ghk1nb, ghk2, hhk2] at hk3
          all_goals
          obtain rfl := so_some h
          refine ⟨0, fun L hL => ?_⟩
          simp only [go_sem, ir64, E_spec_IsName_l1, R_spec_IsName_l1, ir64_k0, ir64_o0, ir64_r0, ghk1na, ghk1nb, ghk2, hhk2, fhk2, hk3]
        · try simp only [go_sem, n1, n2, n3, n4, ghk1na, ghk1nb, ghk2, hhk2] at hk3
          all_goals
          obtain ⟨y_9, hk9, h⟩ := bd_some h
          obtain ⟨Lhk9, ehk9⟩ := spec_IsName_l1_ex hk9
          rcases y_9 with y_9a | y_9b
          · dsimp only at h
            obtain rfl := so_some h
            refine ⟨Lhk9, fun L hL => ?_⟩
            have ehk9 := ehk9 L (by omega)
            try simp only [go_sem, E_spec_IsName_l1, R_spec_IsName_l1, ir64_k0, ir64_o0, ir64_r0, ghk1na, ghk1nb, ghk2, hhk2, hk3] at ehk9
            simp only [go_sem, ir64, E_spec_IsName_l1, R_spec_IsName_l1, ir64_k0, ir64_o0, ir64_r0, ghk1na, ghk1nb, ghk2, hhk2, fhk2, hk3, ehk9]
          · dsimp only at h
            obtain rfl := so_some h
            refine ⟨Lhk9, fun L hL => ?_⟩
            have ehk9 := ehk9 L (by omega)
            try simp only [go_sem, E_spec_IsName_l1, R_spec_IsName_l1, ir64_k0, ir64_o0, ir64_r0, ghk1na, ghk1nb, ghk2, hhk2, hk3] at ehk9
            simp only [go_sem, ir64, E_spec_IsName_l1, R_spec_IsName_l1, ir64_k0, ir64_o0, ir64_r0, ghk1na, ghk1nb, ghk2, hhk2, fhk2, hk3, ehk9]
      · have ghk2n := no_f ghk2
        rcases or_t ghk2n with ghk2na | ⟨ghk2na, ghk2nb⟩
        · try simp only [go_sem, n1, n2, n3, n4, ghk1na, ghk1nb] at ghk2na
          all_goals
          rcases it_some h with ⟨hk3, h⟩ | ⟨hk3, h⟩
          · try simp only [go_sem, n1, n2, n3, n4, ghk1na, ghk1nb, ghk2na] at hk3
            all_goals
            obtain rfl := so_some h
            refine ⟨0, fun L hL => ?_⟩
            simp only [go_sem, ir64, E_spec_IsName_l1, R_spec_IsName_l1, ir64_k0, ir64_o0, ir64_r0, ghk1na, ghk1nb, ghk2na, hk3]
          · try simp only [go_sem, n1, n2, n3, n4, ghk1na, ghk1nb, ghk2na] at hk3
            all_goals
            obtain ⟨y_9, hk9, h⟩ := bd_some h
            obtain ⟨Lhk9, ehk9⟩ := spec_IsName_l1_ex hk9
            rcases y_9 with y_9a | y_9b
            · dsimp only at h
              obtain rfl := so_some h
              refine ⟨Lhk9, fun L hL => ?_⟩
              have ehk9 := ehk9 L (by omega)
              try simp only [go_sem, E_spec_IsName_l1, R_spec_IsName_l1, ir64_k0, ir64_o0, ir64_r0, ghk1na, ghk1nb, ghk2na, hk3] at ehk9
              simp only [go_sem, ir64, E_spec_IsName_l1, R_spec_IsName_l1, ir64_k0, ir64_o0, ir64_r0, ghk1na, ghk1nb, ghk2na, hk3, ehk9]
            · dsimp only at h
              obtain rfl := so_some h
              refine ⟨Lhk9, fun L hL => ?_⟩
              have ehk9 := ehk9 L (by omega)
              try simp only [go_sem, E_spec_IsName_l1, R_spec_IsName_l1, ir64_k0, ir64_o0, ir64_r0, ghk1na, ghk1nb, ghk2na, hk3] at ehk9
              simp only [go_sem, ir64, E_spec_IsName_l1, R_spec_IsName_l1, ir64_k0, ir64_o0, ir64_r0, ghk1na, ghk1nb, ghk2na, hk3, ehk9]
        · try simp only [go_sem, n1, n2, n3, n4, ghk1na, ghk1nb] at ghk2na
          all_goals
          try simp only [go_sem, n1, n2, n3, n4, ghk1na, ghk1nb, ghk2na] at ghk2nb
          all_goals
          rcases it_some h with ⟨hk3, h⟩ | ⟨hk3, h⟩
          · try simp only [go_sem, n1, n2, n3, n4, ghk1na, ghk1nb, ghk2na, ghk2nb] at hk3
            all_goals
            obtain rfl := so_some h
            refine ⟨0, fun L hL => ?_⟩
            simp only [go_sem, ir64, E_spec_IsName_l1, R_spec_IsName_l1, ir64_k0, ir64_o0, ir64_r0, ghk1na, ghk1nb, ghk2na, ghk2nb, hk3]
          · try simp only [go_sem, n1, n2, n3, n4, ghk1na, ghk1nb, ghk2na, ghk2nb] at hk3
            all_goals
            obtain ⟨y_9, hk9, h⟩ := bd_some h
            obtain ⟨Lhk9, ehk9⟩ := spec_IsName_l1_ex hk9
            rcases y_9 with y_9a | y_9b
            · dsimp only at h
              obtain rfl := so_some h
              refine ⟨Lhk9, fun L hL => ?_⟩
              have ehk9 := ehk9 L (by omega)
              try simp only [go_sem, E_spec_IsName_l1, R_spec_IsName_l1, ir64_k0, ir64_o0, ir64_r0, ghk1na, ghk1nb, ghk2na, ghk2nb, hk3] at ehk9
              simp only [go_sem, ir64, E_spec_IsName_l1, R_spec_IsName_l1, ir64_k0, ir64_o0, ir64_r0, ghk1na, ghk1nb, ghk2na, ghk2nb, hk3, ehk9]
            · dsimp only at h
              obtain rfl := so_some h
              refine ⟨Lhk9, fun L hL => ?_⟩
              have ehk9 := ehk9 L (by omega)
              try simp only [go_sem, E_spec_IsName_l1, R_spec_IsName_l1, ir64_k0, ir64_o0, ir64_r0, ghk1na, ghk1nb, ghk2na, ghk2nb, hk3] at ehk9
              simp only [go_sem, ir64, E_spec_IsName_l1, R_spec_IsName_l1, ir64_k0, ir64_o0, ir64_r0, ghk1na, ghk1nb, ghk2na, ghk2nb, hk3, ehk9]


def ir65_v : List Nat := [0, 2]
def ir65 : AFn := ⟨1, 2, .seq (.region false [
    ⟨.var 1, 2, none, .mov (.c (.bool false))⟩])
 (.seq (.region false [
    ⟨.push, 3, none, .mov (.v 0)⟩,
    ⟨.push, 4, none, .call 77 [(.s 0), (.c (.int .i64 (-2000))), (.c (.int .i64 (20000)))]⟩,
    ⟨.var 1, 2, none, .mov (.s 0)⟩])
 (.ret)), [.t 1]⟩
noncomputable def t_spec_l02Mag : List (Nat × Ctr) := [(77, c_spec_l00In)]
theorem lk_spec_l02Mag_77 : look t_spec_l02Mag 77 = some c_spec_l00In := rfl
noncomputable def c_spec_l02Mag : Ctr := mkF t_spec_l02Mag ir65 [.bor]
theorem s_spec_l02Mag : Sound Try.prog 65 c_spec_l02Mag := mkF_sound _ rfl (snd_cons s_spec_l00In snd_nil) (by kernel_rfl : chkFn Try.prog 65 ir65 ir65_v = true)
theorem M_spec_l02Mag : c_spec_l02Mag.modes = [.bor] := rfl
theorem Fl_spec_l02Mag : c_spec_l02Mag.flat = true := rfl
attribute [go_sem] M_spec_l02Mag Fl_spec_l02Mag
attribute [go_sem] lk_spec_l02Mag_77
theorem Fs_spec_l02Mag {m : Int} {y_ : Bool} (h : spec_l02Mag m = some y_) : c_spec_l02Mag.F [.int .i64 m] = ⟨true, .bool y_, [.any]⟩ := by
  refine mkF_E rfl ?_
  dsimp only [spec_l02Mag] at h
  obtain ⟨y_1, hk1, h⟩ := bd_some h
  have fhk1 := Fs_spec_l00In hk1
  try simp only [go_sem] at fhk1
  obtain rfl := so_some h
  refine ⟨0, fun L hL => ?_⟩
  simp only [go_sem, ir65, fhk1]


def ir43_v : List Nat := [0, 2]
def ir43 : AFn := ⟨1, 2, .seq (.region false [
    ⟨.var 1, 2, none, .mov (.c (.bool false))⟩])
 (.seq (.region false [
    ⟨.push, 3, none, .mov (.v 0)⟩,
    ⟨.push, 4, none, .nilck (.s 0)⟩,
    ⟨.push, 5, none, .fldAddr 0 (.s 0)⟩,
    ⟨.push, 6, none, .load false 1 (.s 0)⟩,
    ⟨.push, 7, none, .call 63 [(.s 0)]⟩,
    ⟨.push, 8, none, .mov (.s 0)⟩,
    ⟨.push, 9, (some ((.s 0), true)), .mov (.v 0)⟩,
    ⟨.push, 10, (some ((.s 1), true)), .nilck (.s 0)⟩,
    ⟨.push, 11, (some ((.s 2), true)), .fldAddr 1 (.s 0)⟩,
    ⟨.push, 12, (some ((.s 3), true)), .load false 1 (.s 0)⟩,
    ⟨.push, 13, (some ((.s 4), true)), .call 64 [(.s 0)]⟩,
    ⟨.push, 14, none, .pick (.s 5) (.s 0) (.c (.bool false))⟩,
    ⟨.push, 15, none, .mov (.s 0)⟩,
    ⟨.push, 16, (some ((.s 0), true)), .mov (.v 0)⟩,
    ⟨.push, 17, (some ((.s 1), true)), .nilck (.s 0)⟩,
    ⟨.push, 18, (some ((.s 2), true)), .fldAddr 2 (.s 0)⟩,
    ⟨.push, 19, (some ((.s 3), true)), .load false 1 (.s 0)⟩,
    ⟨.push, 20, (some ((.s 4), true)), .call 64 [(.s 0)]⟩,
    ⟨.push, 21, none, .pick (.s 5) (.s 0) (.c (.bool false))⟩,
    ⟨.push, 22, none, .mov (.s 0)⟩,
    ⟨.push, 23, (some ((.s 0), true)), .mov (.v 0)⟩,
    ⟨.push, 24, (some ((.s 1), true)), .nilck (.s 0)⟩,
    ⟨.push, 25, (some ((.s 2), true)), .fldAddr 3 (.s 0)⟩,
    ⟨.push, 26, (some ((.s 3), true)), .load false 1 (.s 0)⟩,
    ⟨.push, 27, (some ((.s 4), true)), .call 65 [(.s 0)]⟩,
    ⟨.push, 28, none, .pick (.s 5) (.s 0) (.c (.bool false))⟩,
    ⟨.var 1, 2, none, .mov (.s 0)⟩])
 (.ret)), [.t 1]⟩
noncomputable def t_spec_l06One : List (Nat × Ctr) := [(63, c_spec_l06Time), (64, c_spec_IsName), (65, c_spec_l02Mag)]
theorem lk_spec_l06One_63 : look t_spec_l06One 63 = some c_spec_l06Time := rfl
theorem lk_spec_l06One_64 : look t_spec_l06One 64 = some c_spec_IsName := rfl
theorem lk_spec_l06One_65 : look t_spec_l06One 65 = some c_spec_l02Mag := rfl
noncomputable def c_spec_l06One : Ctr := mkF t_spec_l06One ir43 [.bor]
theorem s_spec_l06One : Sound Try.prog 43 c_spec_l06One := mkF_sound _ rfl (snd_cons s_spec_l06Time (snd_cons s_spec_IsName (snd_cons s_spec_l02Mag snd_nil))) (by kernel_rfl : chkFn Try.prog 43 ir43 ir43_v = true)
theorem M_spec_l06One : c_spec_l06One.modes = [.bor] := rfl
theorem Fl_spec_l06One : c_spec_l06One.flat = true := rfl
attribute [go_sem] M_spec_l06One Fl_spec_l06One
attribute [go_sem] lk_spec_l06One_63 lk_spec_l06One_64 lk_spec_l06One_65
theorem Fs_spec_l06One {e_ : Estimate} {y_ : Bool} (h : spec_l06One e_ = some y_) : c_spec_l06One.F [.ptr 5 [Estimate_av e_] 0 0] = ⟨true, .bool y_, [.any]⟩ := by
  refine mkF_E rfl ?_
  dsimp only [spec_l06One] at h
  obtain ⟨y_1, hk1, h⟩ := bd_some h
  have fhk1 := Fs_spec_l06Time hk1
  try simp only [go_sem] at fhk1
  obtain ⟨hk2, h⟩ := ck_some h
  rcases or_split hk2 with ⟨ghk2, hk2⟩ | ghk2
  · try simp only [go_sem, n1, n2, n3, n4] at ghk2
    all_goals
    obtain ⟨y_2, hhk2⟩ := Option.isSome_iff_exists.1 hk2
    have fhk2 := Fs_spec_IsName hhk2
    try simp only [go_sem, ghk2] at fhk2
    obtain ⟨hk3, h⟩ := ck_some h
    rcases or_split hk3 with ⟨ghk3, hk3⟩ | ghk3
    · try simp only [go_sem, n1, n2, n3, n4, ghk2, hhk2] at ghk3
      all_goals
      obtain ⟨y_3, hhk3⟩ := Option.isSome_iff_exists.1 hk3
      have fhk3 := Fs_spec_IsName hhk3
      try simp only [go_sem, ghk2, hhk2, ghk3] at fhk3
      obtain ⟨hk4, h⟩ := ck_some h
      rcases or_split hk4 with ⟨ghk4, hk4⟩ | ghk4
      · try simp only [go_sem, n1, n2, n3, n4, ghk2, hhk2, ghk3, hhk3] at ghk4
        all_goals
        obtain ⟨y_4, hhk4⟩ := Option.isSome_iff_exists.1 hk4
        have fhk4 := Fs_spec_l02Mag hhk4
        try simp only [go_sem, ghk2, hhk2, ghk3, hhk3, ghk4] at fhk4
        obtain rfl := so_some h
        refine ⟨0, fun L hL => ?_⟩
        simp only [go_sem, ir43, fhk1, ghk2, hhk2, fhk2, ghk3, hhk3, fhk3, ghk4, hhk4, fhk4]
      · rcases and_f ghk4 with ghk4a | ⟨ghk4a, ghk4b⟩
        · rcases and_f ghk4a with ghk4aa | ⟨ghk4aa, ghk4ab⟩
          · try simp only [go_sem, n1, n2, n3, n4, ghk2, hhk2, ghk3, hhk3] at ghk4aa
            all_goals
            obtain rfl := so_some h
            refine ⟨0, fun L hL => ?_⟩
            simp only [go_sem, ir43, fhk1, ghk2, hhk2, fhk2, ghk3, hhk3, fhk3, ghk4aa]
          · try simp only [go_sem, n1, n2, n3, n4, ghk2, hhk2, ghk3, hhk3] at ghk4aa
            all_goals
            try simp only [go_sem, n1, n2, n3, n4, ghk2, hhk2, ghk3, hhk3, ghk4aa] at ghk4ab
            all_goals
            obtain rfl := so_some h
            refine ⟨0, fun L hL => ?_⟩
            simp only [go_sem, ir43, fhk1, ghk2, hhk2, fhk2, ghk3, hhk3, fhk3, ghk4aa, ghk4ab]
        · obtain ⟨ghk4aa, ghk4ab⟩ := and_t ghk4a
          try simp only [go_sem, n1, n2, n3, n4, ghk2, hhk2, ghk3, hhk3] at ghk4aa
          all_goals
          try simp only [go_sem, n1, n2, n3, n4, ghk2, hhk2, ghk3, hhk3, ghk4aa] at ghk4ab
          all_goals
          try simp only [go_sem, n1, n2, n3, n4, ghk2, hhk2, ghk3, hhk3, ghk4aa, ghk4ab] at ghk4b
          all_goals
          obtain rfl := so_some h
          refine ⟨0, fun L hL => ?_⟩
          simp only [go_sem, ir43, fhk1, ghk2, hhk2, fhk2, ghk3, hhk3, fhk3, ghk4aa, ghk4ab, ghk4b]
    · rcases and_f ghk3 with ghk3a | ⟨ghk3a, ghk3b⟩
      · try simp only [go_sem, n1, n2, n3, n4, ghk2, hhk2] at ghk3a
        all_goals
        obtain ⟨hk4, h⟩ := ck_some h
        rcases or_split hk4 with ⟨ghk4, hk4⟩ | ghk4
        · try simp only [go_sem, n1, n2, n3, n4, ghk2, hhk2, ghk3a] at ghk4
          all_goals
          obtain ⟨y_4, hhk4⟩ := Option.isSome_iff_exists.1 hk4
          have fhk4 := Fs_spec_l02Mag hhk4
          try simp only [go_sem, ghk2, hhk2, ghk3a, ghk4] at fhk4
          obtain rfl := so_some h
          refine ⟨0, fun L hL => ?_⟩
          simp only [go_sem, ir43, fhk1, ghk2, hhk2, fhk2, ghk3a, ghk4, hhk4, fhk4]
        · rcases and_f ghk4 with ghk4a | ⟨ghk4a, ghk4b⟩
          · rcases and_f ghk4a with ghk4aa | ⟨ghk4aa, ghk4ab⟩
            · try simp only [go_sem, n1, n2, n3, n4, ghk2, hhk2, ghk3a] at ghk4aa
              all_goals
              obtain rfl := so_some h
              refine ⟨0, fun L hL => ?_⟩
              simp only [go_sem, ir43, fhk1, ghk2, hhk2, fhk2, ghk3a, ghk4aa]
            · try simp only [go_sem, n1, n2, n3, n4, ghk2, hhk2, ghk3a] at ghk4aa
              all_goals
              try simp only [go_sem, n1, n2, n3, n4, ghk2, hhk2, ghk3a, ghk4aa] at ghk4ab
              all_goals
              obtain rfl := so_some h
              refine ⟨0, fun L hL => ?_⟩
              simp only [go_sem, ir43, fhk1, ghk2, hhk2, fhk2, ghk3a, ghk4aa, ghk4ab]
          · obtain ⟨ghk4aa, ghk4ab⟩ := and_t ghk4a
            try simp only [go_sem, n1, n2, n3, n4, ghk2, hhk2, ghk3a] at ghk4aa
            all_goals
            try simp only [go_sem, n1, n2, n3, n4, ghk2, hhk2, ghk3a, ghk4aa] at ghk4ab
            all_goals
            try simp only [go_sem, n1, n2, n3, n4, ghk2, hhk2, ghk3a, ghk4aa, ghk4ab] at ghk4b
            all_goals
            obtain rfl := so_some h
            refine ⟨0, fun L hL => ?_⟩
            simp only [go_sem, ir43, fhk1, ghk2, hhk2, fhk2, ghk3a, ghk4aa, ghk4ab, ghk4b]
      · try simp only [go_sem, n1, n2, n3, n4, ghk2, hhk2] at ghk3a
        all_goals
        try simp only [go_sem, n1, n2, n3, n4, ghk2, hhk2, ghk3a] at ghk3b
        all_goals
        obtain ⟨hk4, h⟩ := ck_some h
        rcases or_split hk4 with ⟨ghk4, hk4⟩ | ghk4
        · try simp only [go_sem, n1, n2, n3, n4, ghk2, hhk2, ghk3a, ghk3b] at ghk4
          all_goals
          obtain ⟨y_4, hhk4⟩ := Option.isSome_iff_exists.1 hk4
          have fhk4 := Fs_spec_l02Mag hhk4
          try simp only [go_sem, ghk2, hhk2, ghk3a, ghk3b, ghk4] at fhk4
          obtain rfl := so_some h
          refine ⟨0, fun L hL => ?_⟩
          simp only [go_sem, ir43, fhk1, ghk2, hhk2, fhk2, ghk3a, ghk3b, ghk4, hhk4, fhk4]
        · rcases and_f ghk4 with ghk4a | ⟨ghk4a, ghk4b⟩
          · rcases and_f ghk4a with ghk4aa | ⟨ghk4aa, ghk4ab⟩
            · try simp only [go_sem, n1, n2, n3, n4, ghk2, hhk2, ghk3a, ghk3b] at ghk4aa
              all_goals
              obtain rfl := so_some h
              refine ⟨0, fun L hL => ?_⟩
              simp only [go_sem, ir43, fhk1, ghk2, hhk2, fhk2, ghk3a, ghk3b, ghk4aa]
            · try simp only [go_sem, n1, n2, n3, n4, ghk2, hhk2, ghk3a, ghk3b] at ghk4aa
              all_goals
              try simp only [go_sem, n1, n2, n3, n4, ghk2, hhk2, ghk3a, ghk3b, ghk4aa] at ghk4ab
              all_goals
              obtain rfl := so_some h
              refine ⟨0, fun L hL => ?_⟩
              simp only [go_sem, ir43, fhk1, ghk2, hhk2, fhk2, ghk3a, ghk3b, ghk4aa, ghk4ab]
          · obtain ⟨ghk4aa, ghk4ab⟩ := and_t ghk4a
            try simp only [go_sem, n1, n2, n3, n4, ghk2, hhk2, ghk3a, ghk3b] at ghk4aa
            all_goals
            try simp only [go_sem, n1, n2, n3, n4, ghk2, hhk2, ghk3a, ghk3b, ghk4aa] at ghk4ab
            all_goals
            try simp only [go_sem, n1, n2, n3, n4, ghk2, hhk2, ghk3a, ghk3b, ghk4aa, ghk4ab] at ghk4b
            all_goals
            obtain rfl := so_some h
            refine ⟨0, fun L hL => ?_⟩
            simp only [go_sem, ir43, fhk1, ghk2, hhk2, fhk2, ghk3a, ghk3b, ghk4aa, ghk4ab, ghk4b]
  · try simp only [go_sem, n1, n2, n3, n4] at ghk2
    all_goals
    obtain ⟨hk3, h⟩ := ck_some h
    rcases or_split hk3 with ⟨ghk3, hk3⟩ | ghk3
    · try simp only [go_sem, n1, n2, n3, n4, ghk2] at ghk3
      all_goals
      obtain ⟨y_3, hhk3⟩ := Option.isSome_iff_exists.1 hk3
      have fhk3 := Fs_spec_IsName hhk3
      try simp only [go_sem, ghk2, ghk3] at fhk3
      obtain ⟨hk4, h⟩ := ck_some h
      rcases or_split hk4 with ⟨ghk4, hk4⟩ | ghk4
      · try simp only [go_sem, n1, n2, n3, n4, ghk2, ghk3, hhk3] at ghk4
        all_goals
        obtain ⟨y_4, hhk4⟩ := Option.isSome_iff_exists.1 hk4
        have fhk4 := Fs_spec_l02Mag hhk4
        try simp only [go_sem, ghk2, ghk3, hhk3, ghk4] at fhk4
        obtain rfl := so_some h
        refine ⟨0, fun L hL => ?_⟩
        simp only [go_sem, ir43, fhk1, ghk2, ghk3, hhk3, fhk3, ghk4, hhk4, fhk4]
      · rcases and_f ghk4 with ghk4a | ⟨ghk4a, ghk4b⟩
        · rcases and_f ghk4a with ghk4aa | ⟨ghk4aa, ghk4ab⟩
          · try simp only [go_sem, n1, n2, n3, n4, ghk2, ghk3, hhk3] at ghk4aa
            all_goals
            obtain rfl := so_some h
            refine ⟨0, fun L hL => ?_⟩
            simp only [go_sem, ir43, fhk1, ghk2, ghk3, hhk3, fhk3, ghk4aa]
          · try simp only [go_sem, n1, n2, n3, n4, ghk2, ghk3, hhk3] at ghk4aa
            all_goals
            try simp only [go_sem, n1, n2, n3, n4, ghk2, ghk3, hhk3, ghk4aa] at ghk4ab
            all_goals
            obtain rfl := so_some h
            refine ⟨0, fun L hL => ?_⟩
            simp only [go_sem, ir43, fhk1, ghk2, ghk3, hhk3, fhk3, ghk4aa, ghk4ab]
        · obtain ⟨ghk4aa, ghk4ab⟩ := and_t ghk4a
          try simp only [go_sem, n1, n2, n3, n4, ghk2, ghk3, hhk3] at ghk4aa
          all_goals
          try simp only [go_sem, n1, n2, n3, n4, ghk2, ghk3, hhk3, ghk4aa] at ghk4ab
          all_goals
          try simp only [go_sem, n1, n2, n3, n4, ghk2, ghk3, hhk3, ghk4aa, ghk4ab] at ghk4b
          all_goals
          obtain rfl := so_some h
          refine ⟨0, fun L hL => ?_⟩
          simp only [go_sem, ir43, fhk1, ghk2, ghk3, hhk3, fhk3, ghk4aa, ghk4ab, ghk4b]
    · rcases and_f ghk3 with ghk3a | ⟨ghk3a, ghk3b⟩
      · try simp only [go_sem, n1, n2, n3, n4, ghk2] at ghk3a
        all_goals
        obtain ⟨hk4, h⟩ := ck_some h
        rcases or_split hk4 with ⟨ghk4, hk4⟩ | ghk4
        · try simp only [go_sem, n1, n2, n3, n4, ghk2, ghk3a] at ghk4
          all_goals
          obtain ⟨y_4, hhk4⟩ := Option.isSome_iff_exists.1 hk4
          have fhk4 := Fs_spec_l02Mag hhk4
          try simp only [go_sem, ghk2, ghk3a, ghk4] at fhk4
          obtain rfl := so_some h
          refine ⟨0, fun L hL => ?_⟩
          simp only [go_sem, ir43, fhk1, ghk2, ghk3a, ghk4, hhk4, fhk4]
        · rcases and_f ghk4 with ghk4a | ⟨ghk4a, ghk4b⟩
          · rcases and_f ghk4a with ghk4aa | ⟨ghk4aa, ghk4ab⟩
            · try simp only [go_sem, n1, n2, n3, n4, ghk2, ghk3a] at ghk4aa
              all_goals
              obtain rfl := so_some h
              refine ⟨0, fun L hL => ?_⟩
              simp only [go_sem, ir43, fhk1, ghk2, ghk3a, ghk4aa]
            · try simp only [go_sem, n1, n2, n3, n4, ghk2, ghk3a] at ghk4aa
              all_goals
              try simp only [go_sem, n1, n2, n3, n4, ghk2, ghk3a, ghk4aa] at ghk4ab
              all_goals
              obtain rfl := so_some h
              refine ⟨0, fun L hL => ?_⟩
              simp only [go_sem, ir43, fhk1, ghk2, ghk3a, ghk4aa, ghk4ab]
          · obtain ⟨ghk4aa, ghk4ab⟩ := and_t ghk4a
            try simp only [go_sem, n1, n2, n3, n4, ghk2, ghk3a] at ghk4aa
            all_goals
            try simp only [go_sem, n1, n2, n3, n4, ghk2, ghk3a, ghk4aa] at ghk4ab
            all_goals
            try simp only [go_sem, n1, n2, n3, n4, ghk2, ghk3a, ghk4aa, ghk4ab] at ghk4b
            all_goals
            obtain rfl := so_some h
            refine ⟨0, fun L hL => ?_⟩
            simp only [go_sem, ir43, fhk1, ghk2, ghk3a, ghk4aa, ghk4ab, ghk4b]
      · try simp only [go_sem, n1, n2, n3, n4, ghk2] at ghk3a
        all_goals
        try simp only [go_sem, n1, n2, n3, n4, ghk2, ghk3a] at ghk3b
        all_goals
        obtain ⟨hk4, h⟩ := ck_some h
        rcases or_split hk4 with ⟨ghk4, hk4⟩ | ghk4
        · try simp only [go_sem, n1, n2, n3, n4, ghk2, ghk3a, ghk3b] at ghk4
          all_goals
          obtain ⟨y_4, hhk4⟩ := Option.isSome_iff_exists.1 hk4
          have fhk4 := Fs_spec_l02Mag hhk4
          try simp only [go_sem, ghk2, ghk3a, ghk3b, ghk4] at fhk4
          obtain rfl := so_some h
          refine ⟨0, fun L hL => ?_⟩
          simp only [go_sem, ir43, fhk1, ghk2, ghk3a, ghk3b, ghk4, hhk4, fhk4]
        · rcases and_f ghk4 with ghk4a | ⟨ghk4a, ghk4b⟩
          · rcases and_f ghk4a with ghk4aa | ⟨ghk4aa, ghk4ab⟩
            · try simp only [go_sem, n1, n2, n3, n4, ghk2, ghk3a, ghk3b] at ghk4aa
              all_goals
              obtain rfl := so_some h
              refine ⟨0, fun L hL => ?_⟩
              simp only [go_sem, ir43, fhk1, ghk2, ghk3a, ghk3b, ghk4aa]
            · try simp only [go_sem, n1, n2, n3, n4, ghk2, ghk3a, ghk3b] at ghk4aa
              all_goals
              try simp only [go_sem, n1, n2, n3, n4, ghk2, ghk3a, ghk3b, ghk4aa] at ghk4ab
              all_goals
              obtain rfl := so_some h
              refine ⟨0, fun L hL => ?_⟩
              simp only [go_sem, ir43, fhk1, ghk2, ghk3a, ghk3b, ghk4aa, ghk4ab]
          · obtain ⟨ghk4aa, ghk4ab⟩ := and_t ghk4a
            try simp only [go_sem, n1, n2, n3, n4, ghk2, ghk3a, ghk3b] at ghk4aa
            all_goals
            try simp only [go_sem, n1, n2, n3, n4, ghk2, ghk3a, ghk3b, ghk4aa] at ghk4ab
            all_goals
            try simp only [go_sem, n1, n2, n3, n4, ghk2, ghk3a, ghk3b, ghk4aa, ghk4ab] at ghk4b
            all_goals
            obtain rfl := so_some h
            refine ⟨0, fun L hL => ?_⟩
            simp only [go_sem, ir43, fhk1, ghk2, ghk3a, ghk3b, ghk4aa, ghk4ab, ghk4b]


def ir44_v : List Nat := [0, 1, 4]
def ir44 : AFn := ⟨2, 3, .seq (.region false [
    ⟨.var 2, 4, none, .mov (.c (.bool false))⟩])
 (.seq (.anyo 9 [
    ⟨.slot 0, 5, none, .mov (.v 0)⟩,
    ⟨.slot 1, 6, none, .nilck (.s 0)⟩,
    ⟨.slot 2, 7, none, .fldAddr 0 (.s 1)⟩,
    ⟨.slot 3, 8, none, .load false 1 (.s 2)⟩,
    ⟨.slot 4, 9, none, .mov (.v 1)⟩,
    ⟨.slot 5, 10, none, .nilck (.s 4)⟩,
    ⟨.slot 6, 11, none, .fldAddr 0 (.s 5)⟩,
    ⟨.slot 7, 12, none, .load false 1 (.s 6)⟩,
    ⟨.slot 8, 13, none, .bin false .neq (.s 3) (.s 7)⟩] [] (.cond (.s 8)
  (.seq (.anyo 9 [
      ⟨.slot 0, 14, none, .mov (.v 0)⟩,
      ⟨.slot 1, 15, none, .nilck (.s 0)⟩,
      ⟨.slot 2, 16, none, .fldAddr 0 (.s 1)⟩,
      ⟨.slot 3, 17, none, .load false 1 (.s 2)⟩,
      ⟨.slot 4, 18, none, .mov (.v 1)⟩,
      ⟨.slot 5, 19, none, .nilck (.s 4)⟩,
      ⟨.slot 6, 20, none, .fldAddr 0 (.s 5)⟩,
      ⟨.slot 7, 21, none, .load false 1 (.s 6)⟩,
      ⟨.slot 8, 22, none, .bin false .lss (.s 3) (.s 7)⟩,
      ⟨.var 2, 4, none, .mov (.s 8)⟩] [] .skip)
   (.ret))
  (.skip)))
 (.seq (.anyo 9 [
    ⟨.slot 0, 23, none, .mov (.v 0)⟩,
    ⟨.slot 1, 24, none, .nilck (.s 0)⟩,
    ⟨.slot 2, 25, none, .fldAddr 1 (.s 1)⟩,
    ⟨.slot 3, 26, none, .load false 1 (.s 2)⟩,
    ⟨.slot 4, 27, none, .mov (.v 1)⟩,
    ⟨.slot 5, 28, none, .nilck (.s 4)⟩,
    ⟨.slot 6, 29, none, .fldAddr 1 (.s 5)⟩,
    ⟨.slot 7, 30, none, .load false 1 (.s 6)⟩,
    ⟨.slot 8, 31, none, .bin false .neq (.s 3) (.s 7)⟩] [] (.cond (.s 8)
  (.seq (.anyo 9 [
      ⟨.slot 0, 32, none, .mov (.v 0)⟩,
      ⟨.slot 1, 33, none, .nilck (.s 0)⟩,
      ⟨.slot 2, 34, none, .fldAddr 1 (.s 1)⟩,
      ⟨.slot 3, 35, none, .load false 1 (.s 2)⟩,
      ⟨.slot 4, 36, none, .mov (.v 1)⟩,
      ⟨.slot 5, 37, none, .nilck (.s 4)⟩,
      ⟨.slot 6, 38, none, .fldAddr 1 (.s 5)⟩,
      ⟨.slot 7, 39, none, .load false 1 (.s 6)⟩,
      ⟨.slot 8, 40, none, .bin false .lss (.s 3) (.s 7)⟩,
      ⟨.var 2, 4, none, .mov (.s 8)⟩] [] .skip)
   (.ret))
  (.skip)))
 (.seq (.anyo 9 [
    ⟨.slot 0, 41, none, .mov (.v 0)⟩,
    ⟨.slot 1, 42, none, .nilck (.s 0)⟩,
    ⟨.slot 2, 43, none, .fldAddr 2 (.s 1)⟩,
    ⟨.slot 3, 44, none, .load false 1 (.s 2)⟩,
    ⟨.slot 4, 45, none, .mov (.v 1)⟩,
    ⟨.slot 5, 46, none, .nilck (.s 4)⟩,
    ⟨.slot 6, 47, none, .fldAddr 2 (.s 5)⟩,
    ⟨.slot 7, 48, none, .load false 1 (.s 6)⟩,
    ⟨.slot 8, 49, none, .bin false .lss (.s 3) (.s 7)⟩,
    ⟨.var 2, 4, none, .mov (.s 8)⟩] [] .skip)
 (.ret)))), [.t 2]⟩
noncomputable def t_spec_l06Before : List (Nat × Ctr) := []
noncomputable def c_spec_l06Before : Ctr := mkF t_spec_l06Before ir44 [.bor, .bor]
theorem s_spec_l06Before : Sound Try.prog 44 c_spec_l06Before := mkF_sound _ rfl snd_nil (by kernel_rfl : chkFn Try.prog 44 ir44 ir44_v = true)
theorem M_spec_l06Before : c_spec_l06Before.modes = [.bor, .bor] := rfl
theorem Fl_spec_l06Before : c_spec_l06Before.flat = true := rfl
attribute [go_sem] M_spec_l06Before Fl_spec_l06Before
theorem Fs_spec_l06Before {a : Estimate} {b : Estimate} {y_ : Bool} (h : spec_l06Before a b = some y_) : c_spec_l06Before.F [.ptr 5 [Estimate_av a] 0 0, .ptr 5 [Estimate_av b] 0 0] = ⟨true, .bool y_, [.any, .any]⟩ := by
  refine mkF_E rfl ?_
  dsimp only [spec_l06Before] at h
  rcases it_some h with ⟨hk1, h⟩ | ⟨hk1, h⟩
  · try simp only [go_sem, n1, n2, n3, n4] at hk1
    all_goals
    obtain rfl := so_some h
    refine ⟨0, fun L hL => ?_⟩
    simp only [go_sem, ir44, hk1]
  · try simp only [go_sem, n1, n2, n3, n4] at hk1
    all_goals
    rcases it_some h with ⟨hk2, h⟩ | ⟨hk2, h⟩
    · try simp only [go_sem, n1, n2, n3, n4, hk1] at hk2
      all_goals
      obtain rfl := so_some h
      refine ⟨0, fun L hL => ?_⟩
      simp only [go_sem, ir44, hk1, hk2]
    · try simp only [go_sem, n1, n2, n3, n4, hk1] at hk2
      all_goals
      obtain rfl := so_some h
      refine ⟨0, fun L hL => ?_⟩
      simp only [go_sem, ir44, hk1, hk2]


def ir19_b0 : IR := .seq (.test false [
    ⟨.push, 4, none, .mov (.v 2)⟩,
    ⟨.push, 5, none, .mov (.v 0)⟩,
    ⟨.push, 6, none, .len false (.s 0)⟩,
    ⟨.push, 7, none, .bin false .lss (.s 2) (.s 0)⟩] (.s 0)
  (.skip)
  (.exit 0))
 (.seq (.block 1 (.anyo 20 [
     ⟨.slot 0, 10, none, .mov (.v 0)⟩,
     ⟨.slot 1, 11, none, .mov (.v 2)⟩,
     ⟨.slot 2, 12, none, .ixAddr 5 (.s 0) (.s 1)⟩,
     ⟨.slot 3, 13, none, .callp 43 [(.s 2)]⟩,
     ⟨.slot 4, 14, none, .un .not (.s 3)⟩,
     ⟨.slot 5, 15, none, .mov (.s 4)⟩,
     ⟨.slot 6, 16, (some ((.s 5), false)), .mov (.v 2)⟩,
     ⟨.slot 7, 17, (some ((.s 5), false)), .bin false .gtr (.s 6) (.c (.int .i64 (0)))⟩,
     ⟨.slot 8, 18, (some ((.s 5), false)), .mov (.s 7)⟩,
     ⟨.slot 9, 19, (some ((.s 8), true)), .mov (.v 0)⟩,
     ⟨.slot 10, 20, (some ((.s 8), true)), .mov (.v 2)⟩,
     ⟨.slot 11, 21, (some ((.s 8), true)), .bin false .sub (.s 10) (.c (.int .i64 (1)))⟩,
     ⟨.slot 12, 22, (some ((.s 8), true)), .ixAddr 5 (.s 9) (.s 11)⟩,
     ⟨.slot 13, 23, (some ((.s 8), true)), .mov (.v 0)⟩,
     ⟨.slot 14, 24, (some ((.s 8), true)), .mov (.v 2)⟩,
     ⟨.slot 15, 25, (some ((.s 8), true)), .ixAddr 5 (.s 13) (.s 14)⟩,
     ⟨.slot 16, 26, (some ((.s 8), true)), .call 44 [(.s 12), (.s 15)]⟩,
     ⟨.slot 17, 27, (some ((.s 8), true)), .un .not (.s 16)⟩,
     ⟨.slot 18, 28, (some ((.s 5), false)), .pick (.s 8) (.s 17) (.c (.bool false))⟩,
     ⟨.slot 19, 29, none, .pick (.s 5) (.c (.bool true)) (.s 18)⟩] [] (.cond (.s 19)
   (.seq (.region false [
       ⟨.var 1, 2, none, .mov (.c (.bool false))⟩])
    (.ret))
   (.skip))))
 (.region false [
   ⟨.push, 8, none, .mov (.v 2)⟩,
   ⟨.push, 9, none, .bin false .add (.s 0) (.c (.int .i64 (1)))⟩,
   ⟨.var 2, 3, none, .mov (.s 0)⟩]))
def ir19_k0 : List Bool := [true, false, true]
def ir19_o0 : List Bool := [true, false, false]
def ir19_r0 : List Bool := [false, true, false]
def ir19_v : List Nat := [0, 2, 3]
def ir19 : AFn := ⟨1, 3, .seq (.region false [
    ⟨.var 1, 2, none, .mov (.c (.bool false))⟩])
 (.seq (.seq (.region false [
     ⟨.var 2, 3, none, .mov (.c (.int .i64 (0)))⟩])
  (.block 0 (.loop ir19_k0 ir19_o0 ir19_r0 ir19_b0)))
 (.seq (.region false [
    ⟨.push, 30, none, .mov (.v 0)⟩,
    ⟨.push, 31, none, .len false (.s 0)⟩,
    ⟨.push, 32, none, .bin false .leq (.s 0) (.c (.int .i64 (100)))⟩,
    ⟨.var 1, 2, none, .mov (.s 0)⟩])
 (.ret))), [.t 1]⟩
noncomputable def t_spec_l06Ok : List (Nat × Ctr) := [(43, c_spec_l06One), (44, c_spec_l06Before)]
theorem lk_spec_l06Ok_43 : look t_spec_l06Ok 43 = some c_spec_l06One := rfl
theorem lk_spec_l06Ok_44 : look t_spec_l06Ok 44 = some c_spec_l06Before := rfl
noncomputable def c_spec_l06Ok : Ctr := mkF t_spec_l06Ok ir19 [.bor]
theorem s_spec_l06Ok : Sound Try.prog 19 c_spec_l06Ok := mkF_sound _ rfl (snd_cons s_spec_l06One (snd_cons s_spec_l06Before snd_nil)) (by kernel_rfl : chkFn Try.prog 19 ir19 ir19_v = true)
theorem M_spec_l06Ok : c_spec_l06Ok.modes = [.bor] := rfl
theorem Fl_spec_l06Ok : c_spec_l06Ok.flat = true := rfl
attribute [go_sem] M_spec_l06Ok Fl_spec_l06Ok
attribute [go_sem] lk_spec_l06Ok_43 lk_spec_l06Ok_44
def E_spec_l06Ok_l1 (list : List Estimate) : Int → St
  | i => ⟨[.sl 5 (List.map Estimate_av list), .any, .int .i64 i], [], [], true⟩
def R_spec_l06Ok_l1 (list : List Estimate) : (Unit ⊕ Bool) → Res
  | .inl y => (.exit 0, ⟨[.sl 5 (List.map Estimate_av list), .any, .any], [], [], true⟩)
  | .inr y => (.ret, ⟨[.any, .bool y, .any], [], [], true⟩)
theorem spec_l06Ok_l1_ex {list : List Estimate} {sgm_ : Int} {rho_ : Unit ⊕ Bool} (h : whileE (spec_l06Ok_l1 list) sgm_ = some rho_) : ∃ L0, ∀ L, L0 ≤ L → iter (exec (look t_spec_l06Ok) L ir19_b0) ir19_k0 ir19_o0 ir19_r0 L (E_spec_l06Ok_l1 list sgm_) = R_spec_l06Ok_l1 list rho_ := by
  refine loop_ex (E := E_spec_l06Ok_l1 list) (R := R_spec_l06Ok_l1 list) (fun y => by first | (intro c; cases c) | (rcases y with y | y <;> (intro c; cases c)) | (rcases y with y | y | y <;> (intro c; cases c))) ?_ h
  clear h
  intro i o_ h
  dsimp only [spec_l06Ok_l1] at h
  rcases it_some h with ⟨hk1, h⟩ | ⟨hk1, h⟩
  · try simp only [go_sem, n1, n2, n3, n4] at hk1
    all_goals
    obtain ⟨hk2, h⟩ := ck_some h
    have lhk2 := ix_lt hk2
    have xhk2 := getD_mapD Estimate_av list lhk2
    try simp only [go_sem] at lhk2
    try simp only [go_sem] at xhk2
    try simp only [go_sem, n1, n2, n3, n4, hk1] at hk2
    all_goals
    obtain ⟨y_3, hk3, h⟩ := bd_some h
    have fhk3 := Fs_spec_l06One hk3
    try simp only [go_sem, hk1, hk2] at fhk3
    obtain ⟨hk4, h⟩ := ck_some h
    rcases or_split hk4 with ⟨ghk4, hk4⟩ | ghk4
    · try simp only [go_sem, n1, n2, n3, n4, hk1, hk2] at ghk4
      all_goals
      have lhk4 := ix_lt hk4
      have xhk4 := getD_mapD Estimate_av list lhk4
      try simp only [go_sem] at lhk4
      try simp only [go_sem] at xhk4
      try simp only [go_sem, n1, n2, n3, n4, hk1, hk2, ghk4] at hk4
      all_goals
      obtain ⟨hk5, h⟩ := ck_some h
      rcases or_split hk5 with ⟨ghk5, hk5⟩ | ghk5
      · try simp only [go_sem, n1, n2, n3, n4, hk1, hk2, ghk4, hk4] at ghk5
        all_goals
        obtain ⟨y_5, hhk5⟩ := Option.isSome_iff_exists.1 hk5
        have fhk5 := Fs_spec_l06Before hhk5
        try simp only [go_sem, hk1, hk2, ghk4, hk4, ghk5] at fhk5
        rcases it_some h with ⟨hk6, h⟩ | ⟨hk6, h⟩
        · try simp only [go_sem, n1, n2, n3, n4, hk1, hk2, ghk4, hk4, ghk5, hhk5] at hk6
          all_goals
          obtain rfl := so_some h
          refine ⟨0, fun L hL => ?_⟩
          simp only [go_sem, ir19, E_spec_l06Ok_l1, R_spec_l06Ok_l1, ir19_b0, ir19_k0, ir19_o0, ir19_r0, hk1, hk2, lhk2, xhk2, fhk3, ghk4, hk4, lhk4, xhk4, ghk5, hhk5, fhk5, hk6]
        · try simp only [go_sem, n1, n2, n3, n4, hk1, hk2, ghk4, hk4, ghk5, hhk5] at hk6
          all_goals
          obtain rfl := so_some h
          refine ⟨0, fun L hL => ?_⟩
          simp only [go_sem, ir19, E_spec_l06Ok_l1, R_spec_l06Ok_l1, ir19_b0, ir19_k0, ir19_o0, ir19_r0, hk1, hk2, lhk2, xhk2, fhk3, ghk4, hk4, lhk4, xhk4, ghk5, hhk5, fhk5, hk6]
      · rcases and_f ghk5 with ghk5a | ⟨ghk5a, ghk5b⟩
        · have ghk5an := no_f ghk5a
          have ghk5ann := no_t ghk5an
          try simp only [go_sem, n1, n2, n3, n4, hk1, hk2, ghk4, hk4] at ghk5ann
          all_goals
          rcases it_some h with ⟨hk6, h⟩ | ⟨hk6, h⟩
          · try simp only [go_sem, n1, n2, n3, n4, hk1, hk2, ghk4, hk4, ghk5ann] at hk6
            all_goals
            obtain rfl := so_some h
            refine ⟨0, fun L hL => ?_⟩
            simp only [go_sem, ir19, E_spec_l06Ok_l1, R_spec_l06Ok_l1, ir19_b0, ir19_k0, ir19_o0, ir19_r0, hk1, hk2, lhk2, xhk2, fhk3, ghk4, hk4, lhk4, xhk4, ghk5ann, hk6]
          · try simp only [go_sem, n1, n2, n3, n4, hk1, hk2, ghk4, hk4, ghk5ann] at hk6
            all_goals
            obtain rfl := so_some h
            refine ⟨0, fun L hL => ?_⟩
            simp only [go_sem, ir19, E_spec_l06Ok_l1, R_spec_l06Ok_l1, ir19_b0, ir19_k0, ir19_o0, ir19_r0, hk1, hk2, lhk2, xhk2, fhk3, ghk4, hk4, lhk4, xhk4, ghk5ann, hk6]
        · have ghk5an := no_t ghk5a
          have ghk5ann := no_f ghk5an
          try simp only [go_sem, n1, n2, n3, n4, hk1, hk2, ghk4, hk4] at ghk5ann
          all_goals
          try simp only [go_sem, n1, n2, n3, n4, hk1, hk2, ghk4, hk4, ghk5ann] at ghk5b
          all_goals
          rcases it_some h with ⟨hk6, h⟩ | ⟨hk6, h⟩
          · try simp only [go_sem, n1, n2, n3, n4, hk1, hk2, ghk4, hk4, ghk5ann, ghk5b] at hk6
            all_goals
            obtain rfl := so_some h
            refine ⟨0, fun L hL => ?_⟩
            simp only [go_sem, ir19, E_spec_l06Ok_l1, R_spec_l06Ok_l1, ir19_b0, ir19_k0, ir19_o0, ir19_r0, hk1, hk2, lhk2, xhk2, fhk3, ghk4, hk4, lhk4, xhk4, ghk5ann, ghk5b, hk6]
          · try simp only [go_sem, n1, n2, n3, n4, hk1, hk2, ghk4, hk4, ghk5ann, ghk5b] at hk6
            all_goals
            obtain rfl := so_some h
            refine ⟨0, fun L hL => ?_⟩
            simp only [go_sem, ir19, E_spec_l06Ok_l1, R_spec_l06Ok_l1, ir19_b0, ir19_k0, ir19_o0, ir19_r0, hk1, hk2, lhk2, xhk2, fhk3, ghk4, hk4, lhk4, xhk4, ghk5ann, ghk5b, hk6]
    · rcases and_f ghk4 with ghk4a | ⟨ghk4a, ghk4b⟩
      · have ghk4an := no_f ghk4a
        have ghk4ann := no_t ghk4an
        try simp only [go_sem, n1, n2, n3, n4, hk1, hk2] at ghk4ann
        all_goals
        obtain ⟨hk5, h⟩ := ck_some h
        rcases or_split hk5 with ⟨ghk5, hk5⟩ | ghk5
        · try simp only [go_sem, n1, n2, n3, n4, hk1, hk2, ghk4ann] at ghk5
          all_goals
          obtain ⟨y_5, hhk5⟩ := Option.isSome_iff_exists.1 hk5
          have fhk5 := Fs_spec_l06Before hhk5
          try simp only [go_sem, hk1, hk2, ghk4ann, ghk5] at fhk5
          rcases it_some h with ⟨hk6, h⟩ | ⟨hk6, h⟩
          · try simp only [go_sem, n1, n2, n3, n4, hk1, hk2, ghk4ann, ghk5, hhk5] at hk6
            all_goals
            obtain rfl := so_some h
            refine ⟨0, fun L hL => ?_⟩
            simp only [go_sem, ir19, E_spec_l06Ok_l1, R_spec_l06Ok_l1, ir19_b0, ir19_k0, ir19_o0, ir19_r0, hk1, hk2, lhk2, xhk2, fhk3, ghk4ann, ghk5, hhk5, fhk5, hk6]
          · try simp only [go_sem, n1, n2, n3, n4, hk1, hk2, ghk4ann, ghk5, hhk5] at hk6
            all_goals
            obtain rfl := so_some h
            refine ⟨0, fun L hL => ?_⟩
            simp only [go_sem, ir19, E_spec_l06Ok_l1, R_spec_l06Ok_l1, ir19_b0, ir19_k0, ir19_o0, ir19_r0, hk1, hk2, lhk2, xhk2, fhk3, ghk4ann, ghk5, hhk5, fhk5, hk6]
        · rcases and_f ghk5 with ghk5a | ⟨ghk5a, ghk5b⟩
          · have ghk5an := no_f ghk5a
            have ghk5ann := no_t ghk5an
            try simp only [go_sem, n1, n2, n3, n4, hk1, hk2, ghk4ann] at ghk5ann
            all_goals
            rcases it_some h with ⟨hk6, h⟩ | ⟨hk6, h⟩
            · try simp only [go_sem, n1, n2, n3, n4, hk1, hk2, ghk4ann, ghk5ann] at hk6
              all_goals
              obtain rfl := so_some h
              refine ⟨0, fun L hL => ?_⟩
              simp only [go_sem, ir19, E_spec_l06Ok_l1, R_spec_l06Ok_l1, ir19_b0, ir19_k0, ir19_o0, ir19_r0, hk1, hk2, lhk2, xhk2, fhk3, ghk4ann, ghk5ann, hk6]
            · try simp only [go_sem, n1, n2, n3, n4, hk1, hk2, ghk4ann, ghk5ann] at hk6
              all_goals
              obtain rfl := so_some h
              refine ⟨0, fun L hL => ?_⟩
              simp only [go_sem, ir19, E_spec_l06Ok_l1, R_spec_l06Ok_l1, ir19_b0, ir19_k0, ir19_o0, ir19_r0, hk1, hk2, lhk2, xhk2, fhk3, ghk4ann, ghk5ann, hk6]
          · have ghk5an := no_t ghk5a
            have ghk5ann := no_f ghk5an
            try simp only [go_sem, n1, n2, n3, n4, hk1, hk2, ghk4ann] at ghk5ann
            all_goals
            try simp only [go_sem, n1, n2, n3, n4, hk1, hk2, ghk4ann, ghk5ann] at ghk5b
            all_goals
            rcases it_some h with ⟨hk6, h⟩ | ⟨hk6, h⟩
            · try simp only [go_sem, n1, n2, n3, n4, hk1, hk2, ghk4ann, ghk5ann, ghk5b] at hk6
              all_goals
              obtain rfl := so_some h
              refine ⟨0, fun L hL => ?_⟩
              simp only [go_sem, ir19, E_spec_l06Ok_l1, R_spec_l06Ok_l1, ir19_b0, ir19_k0, ir19_o0, ir19_r0, hk1, hk2, lhk2, xhk2, fhk3, ghk4ann, ghk5ann, ghk5b, hk6]
            · try simp only [go_sem, n1, n2, n3, n4, hk1, hk2, ghk4ann, ghk5ann, ghk5b] at hk6
              all_goals
              obtain rfl := so_some h
              refine ⟨0, fun L hL => ?_⟩
              simp only [go_sem, ir19, E_spec_l06Ok_l1, R_spec_l06Ok_l1, ir19_b0, ir19_k0, ir19_o0, ir19_r0, hk1, hk2, lhk2, xhk2, fhk3, ghk4ann, ghk5ann, ghk5b, hk6]
      · have ghk4an := no_t ghk4a
        have ghk4ann := no_f ghk4an
        try simp only [go_sem, n1, n2, n3, n4, hk1, hk2] at ghk4ann
        all_goals
        try simp only [go_sem, n1, n2, n3, n4, hk1, hk2, ghk4ann] at ghk4b
        all_goals
        obtain ⟨hk5, h⟩ := ck_some h
        rcases or_split hk5 with ⟨ghk5, hk5⟩ | ghk5
        · try simp only [go_sem, n1, n2, n3, n4, hk1, hk2, ghk4ann, ghk4b] at ghk5
          all_goals
          obtain ⟨y_5, hhk5⟩ := Option.isSome_iff_exists.1 hk5
          have fhk5 := Fs_spec_l06Before hhk5
          try simp only [go_sem, hk1, hk2, ghk4ann, ghk4b, ghk5] at fhk5
          rcases it_some h with ⟨hk6, h⟩ | ⟨hk6, h⟩
          · try simp only [go_sem, n1, n2, n3, n4, hk1, hk2, ghk4ann, ghk4b, ghk5, hhk5] at hk6
            all_goals
            obtain rfl := so_some h
            refine ⟨0, fun L hL => ?_⟩
            simp only [go_sem, ir19, E_spec_l06Ok_l1, R_spec_l06Ok_l1, ir19_b0, ir19_k0, ir19_o0, ir19_r0, hk1, hk2, lhk2, xhk2, fhk3, ghk4ann, ghk4b, ghk5, hhk5, fhk5, hk6]
          · try simp only [go_sem, n1, n2, n3, n4, hk1, hk2, ghk4ann, ghk4b, ghk5, hhk5] at hk6
            all_goals
            obtain rfl := so_some h
            refine ⟨0, fun L hL => ?_⟩
            simp only [go_sem, ir19, E_spec_l06Ok_l1, R_spec_l06Ok_l1, ir19_b0, ir19_k0, ir19_o0, ir19_r0, hk1, hk2, lhk2, xhk2, fhk3, ghk4ann, ghk4b, ghk5, hhk5, fhk5, hk6]
        · rcases and_f ghk5 with ghk5a | ⟨ghk5a, ghk5b⟩
          · have ghk5an := no_f ghk5a
            have ghk5ann := no_t ghk5an
            try simp only [go_sem, n1, n2, n3, n4, hk1, hk2, ghk4ann, ghk4b] at ghk5ann
            all_goals
            rcases it_some h with ⟨hk6, h⟩ | ⟨hk6, h⟩
            · try simp only [go_sem, n1, n2, n3, n4, hk1, hk2, ghk4ann, ghk4b, ghk5ann] at hk6
              all_goals
              obtain rfl := so_some h
              refine ⟨0, fun L hL => ?_⟩
              simp only [go_sem, ir19, E_spec_l06Ok_l1, R_spec_l06Ok_l1, ir19_b0, ir19_k0, ir19_o0, ir19_r0, hk1, hk2, lhk2, xhk2, fhk3, ghk4ann, ghk4b, ghk5ann, hk6]
            · try simp only [go_sem, n1, n2, n3, n4, hk1, hk2, ghk4ann, ghk4b, ghk5ann] at hk6
              all_goals
              obtain rfl := so_some h
              refine ⟨0, fun L hL => ?_⟩
              simp only [go_sem, ir19, E_spec_l06Ok_l1, R_spec_l06Ok_l1, ir19_b0, ir19_k0, ir19_o0, ir19_r0, hk1, hk2, lhk2, xhk2, fhk3, ghk4ann, ghk4b, ghk5ann, hk6]
          · have ghk5an := no_t ghk5a
            have ghk5ann := no_f ghk5an
            try simp only [go_sem, n1, n2, n3, n4, hk1, hk2, ghk4ann, ghk4b] at ghk5ann
            all_goals
            try simp only [go_sem, n1, n2, n3, n4, hk1, hk2, ghk4ann, ghk4b, ghk5ann] at ghk5b
            all_goals
            rcases it_some h with ⟨hk6, h⟩ | ⟨hk6, h⟩
            · try simp only [go_sem, n1, n2, n3, n4, hk1, hk2, ghk4ann, ghk4b, ghk5ann, ghk5b] at hk6
              all_goals
              obtain rfl := so_some h
              refine ⟨0, fun L hL => ?_⟩
              simp only [go_sem, ir19, E_spec_l06Ok_l1, R_spec_l06Ok_l1, ir19_b0, ir19_k0, ir19_o0, ir19_r0, hk1, hk2, lhk2, xhk2, fhk3, ghk4ann, ghk4b, ghk5ann, ghk5b, hk6]
            · try simp only [go_sem, n1, n2, n3, n4, hk1, hk2, ghk4ann, ghk4b, ghk5ann, ghk5b] at hk6
              all_goals
              obtain rfl := so_some h
              refine ⟨0, fun L hL => ?_⟩
              simp only [go_sem, ir19, E_spec_l06Ok_l1, R_spec_l06Ok_l1, ir19_b0, ir19_k0, ir19_o0, ir19_r0, hk1, hk2, lhk2, xhk2, fhk3, ghk4ann, ghk4b, ghk5ann, ghk5b, hk6]
  · try simp only [go_sem, n1, n2, n3, n4] at hk1
    all_goals
    obtain rfl := so_some h
    refine ⟨0, fun L hL => ?_⟩
    simp only [go_sem, ir19, E_spec_l06Ok_l1, R_spec_l06Ok_l1, ir19_b0, ir19_k0, ir19_o0, ir19_r0, hk1]

theorem Fs_spec_l06Ok {list : List Estimate} {y_ : Bool} (h : spec_l06Ok list = some y_) : c_spec_l06Ok.F [.sl 5 (List.map Estimate_av list)] = ⟨true, .bool y_, [.any]⟩ := by
  refine mkF_E rfl ?_
  dsimp only [spec_l06Ok] at h
  obtain ⟨y_7, hk7, h⟩ := bd_some h
  obtain ⟨Lhk7, ehk7⟩ := spec_l06Ok_l1_ex hk7
  rcases y_7 with y_7a | y_7b
  · dsimp only at h
    obtain rfl := so_some h
    refine ⟨Lhk7, fun L hL => ?_⟩
    have ehk7 := ehk7 L (by omega)
    try simp only [go_sem, E_spec_l06Ok_l1, R_spec_l06Ok_l1, ir19_k0, ir19_o0, ir19_r0] at ehk7
    simp only [go_sem, ir19, E_spec_l06Ok_l1, R_spec_l06Ok_l1, ir19_k0, ir19_o0, ir19_r0, ehk7]
  · dsimp only at h
    obtain rfl := so_some h
    refine ⟨Lhk7, fun L hL => ?_⟩
    have ehk7 := ehk7 L (by omega)
    try simp only [go_sem, E_spec_l06Ok_l1, R_spec_l06Ok_l1, ir19_k0, ir19_o0, ir19_r0] at ehk7
    simp only [go_sem, ir19, E_spec_l06Ok_l1, R_spec_l06Ok_l1, ir19_k0, ir19_o0, ir19_r0, ehk7]


def ir66_b0 : IR := .seq (.test false [
    ⟨.push, 9, none, .mov (.v 3)⟩,
    ⟨.push, 10, none, .bin false .gtr (.s 0) (.c (.int .i64 (0)))⟩,
    ⟨.push, 11, none, .mov (.s 0)⟩,
    ⟨.push, 12, (some ((.s 0), true)), .mov (.v 0)⟩,
    ⟨.push, 13, (some ((.s 1), true)), .mov (.v 3)⟩,
    ⟨.push, 14, (some ((.s 2), true)), .bin false .sub (.s 0) (.c (.int .i64 (1)))⟩,
    ⟨.push, 15, (some ((.s 3), true)), .ixAddr 1 (.s 2) (.s 0)⟩,
    ⟨.push, 16, (some ((.s 4), true)), .load false 1 (.s 0)⟩,
    ⟨.push, 17, (some ((.s 5), true)), .mov (.v 1)⟩,
    ⟨.push, 18, (some ((.s 6), true)), .bin false .gtr (.s 1) (.s 0)⟩,
    ⟨.push, 19, none, .pick (.s 7) (.s 0) (.c (.bool false))⟩] (.s 0)
  (.skip)
  (.exit 0))
 (.block 1 (.region false [
    ⟨.push, 20, none, .mov (.v 3)⟩,
    ⟨.push, 21, none, .bin false .sub (.s 0) (.c (.int .i64 (1)))⟩,
    ⟨.var 3, 5, none, .mov (.s 0)⟩]))
def ir66_k0 : List Bool := [true, true, false, true, false]
def ir66_o0 : List Bool := [true, true, false, true, false]
def ir66_r0 : List Bool := [false, false, true, false, false]
def ir66_v : List Nat := [0, 1, 4, 5, 6]
def ir66 : AFn := ⟨2, 5, .seq (.region false [
    ⟨.var 2, 4, none, .newnil 1⟩])
 (.seq (.region false [
    ⟨.push, 7, none, .mov (.v 0)⟩,
    ⟨.push, 8, none, .len false (.s 0)⟩,
    ⟨.var 3, 5, none, .mov (.s 0)⟩])
 (.seq (.block 0 (.loop ir66_k0 ir66_o0 ir66_r0 ir66_b0))
 (.seq (.test false [
    ⟨.push, 22, none, .mov (.v 3)⟩,
    ⟨.push, 23, none, .bin false .gtr (.s 0) (.c (.int .i64 (0)))⟩,
    ⟨.push, 24, none, .mov (.s 0)⟩,
    ⟨.push, 25, (some ((.s 0), true)), .mov (.v 0)⟩,
    ⟨.push, 26, (some ((.s 1), true)), .mov (.v 3)⟩,
    ⟨.push, 27, (some ((.s 2), true)), .bin false .sub (.s 0) (.c (.int .i64 (1)))⟩,
    ⟨.push, 28, (some ((.s 3), true)), .ixAddr 1 (.s 2) (.s 0)⟩,
    ⟨.push, 29, (some ((.s 4), true)), .load false 1 (.s 0)⟩,
    ⟨.push, 30, (some ((.s 5), true)), .mov (.v 1)⟩,
    ⟨.push, 31, (some ((.s 6), true)), .bin false .eql (.s 1) (.s 0)⟩,
    ⟨.push, 32, none, .pick (.s 7) (.s 0) (.c (.bool false))⟩] (.s 0)
  (.seq (.region false [
      ⟨.push, 33, none, .mov (.v 0)⟩,
      ⟨.var 2, 4, none, .mov (.s 0)⟩])
   (.ret))
  (.skip))
 (.seq (.region false [
    ⟨.push, 34, none, .mkSl 1 (.str []) 0 []⟩,
    ⟨.push, 35, none, .mov (.v 0)⟩,
    ⟨.push, 36, none, .mov (.v 3)⟩,
    ⟨.push, 37, none, .slice 1 (.s 1) none (some (.s 0))⟩,
    ⟨.push, 38, none, .app 1 16 (.str []) (.s 3) (.s 0)⟩,
    ⟨.var 4, 6, none, .mov (.s 0)⟩])
 (.seq (.region false [
    ⟨.push, 39, none, .mov (.v 4)⟩,
    ⟨.push, 40, none, .mov (.v 1)⟩,
    ⟨.push, 41, none, .mkSl 1 (.str []) 1 [(0, (.s 0))]⟩,
    ⟨.push, 42, none, .app 1 16 (.str []) (.s 2) (.s 0)⟩,
    ⟨.var 4, 6, none, .mov (.s 0)⟩])
 (.seq (.region false [
    ⟨.push, 43, none, .mov (.v 4)⟩,
    ⟨.push, 44, none, .mov (.v 0)⟩,
    ⟨.push, 45, none, .mov (.v 3)⟩,
    ⟨.push, 46, none, .slice 1 (.s 1) (some (.s 0)) none⟩,
    ⟨.push, 47, none, .app 1 16 (.str []) (.s 3) (.s 0)⟩,
    ⟨.var 2, 4, none, .mov (.s 0)⟩])
 (.ret))))))), [.t 2]⟩
noncomputable def t_spec_l06PutName : List (Nat × Ctr) := []
noncomputable def c_spec_l06PutName : Ctr := mkZ t_spec_l06PutName ir66 [.bor, .bor]
theorem s_spec_l06PutName : Sound Try.prog 66 c_spec_l06PutName := mkZ_sound _ snd_nil (by kernel_rfl : chkFn Try.prog 66 ir66 ir66_v = true)
theorem M_spec_l06PutName : c_spec_l06PutName.modes = [.bor, .bor] := rfl
theorem Fl_spec_l06PutName : c_spec_l06PutName.flat = false := rfl
attribute [go_sem] M_spec_l06PutName Fl_spec_l06PutName
def E_spec_l06PutName_l1 (list : List (List UInt8)) (name : List UInt8) : Int → St
  | k => ⟨[.sl 1 (List.map AV.str list), .str name, .any, .int .i64 k, .any], [], [], true⟩
def R_spec_l06PutName_l1 (list : List (List UInt8)) (name : List UInt8) (y : Int) : Res := (.exit 0, ⟨[.sl 1 (List.map AV.str list), .str name, .any, .int .i64 y, .any], [], [], true⟩)
theorem spec_l06PutName_l1_ex {list : List (List UInt8)} {name : List UInt8} {sgm_ : Int} {rho_ : Int} (h : whileE (spec_l06PutName_l1 list name) sgm_ = some rho_) : ∃ L0, ∀ L, L0 ≤ L → iter (exec (look t_spec_l06PutName) L ir66_b0) ir66_k0 ir66_o0 ir66_r0 L (E_spec_l06PutName_l1 list name sgm_) = R_spec_l06PutName_l1 list name rho_ := by
  refine loop_ex (E := E_spec_l06PutName_l1 list name) (R := R_spec_l06PutName_l1 list name) (fun y => by first | (intro c; cases c) | (rcases y with y | y <;> (intro c; cases c)) | (rcases y with y | y | y <;> (intro c; cases c))) ?_ h
  clear h
  intro k o_ h
  dsimp only [spec_l06PutName_l1] at h
  obtain ⟨hk1, h⟩ := ck_some h
  rcases or_split hk1 with ⟨ghk1, hk1⟩ | ghk1
  · try simp only [go_sem, n1, n2, n3, n4] at ghk1
    all_goals
    have lhk1 := ix_lt hk1
    have xhk1 := getD_mapD AV.str list lhk1
    try simp only [go_sem] at lhk1
    try simp only [go_sem] at xhk1
    try simp only [go_sem, n1, n2, n3, n4, ghk1] at hk1
    all_goals
    rcases it_some h with ⟨hk2, h⟩ | ⟨hk2, h⟩
    · try simp only [go_sem, n1, n2, n3, n4, ghk1, hk1] at hk2
      all_goals
      obtain rfl := so_some h
      refine ⟨0, fun L hL => ?_⟩
      simp only [go_sem, ir66, E_spec_l06PutName_l1, R_spec_l06PutName_l1, ir66_b0, ir66_k0, ir66_o0, ir66_r0, ghk1, hk1, lhk1, xhk1, hk2]
    · try simp only [go_sem, n1, n2, n3, n4, ghk1, hk1] at hk2
      all_goals
      obtain rfl := so_some h
      refine ⟨0, fun L hL => ?_⟩
      simp only [go_sem, ir66, E_spec_l06PutName_l1, R_spec_l06PutName_l1, ir66_b0, ir66_k0, ir66_o0, ir66_r0, ghk1, hk1, lhk1, xhk1, hk2]
  · try simp only [go_sem, n1, n2, n3, n4] at ghk1
    all_goals
    rcases it_some h with ⟨hk2, h⟩ | ⟨hk2, h⟩
    · try simp only [go_sem, n1, n2, n3, n4, ghk1] at hk2
      all_goals
      obtain rfl := so_some h
      refine ⟨0, fun L hL => ?_⟩
      simp only [go_sem, ir66, E_spec_l06PutName_l1, R_spec_l06PutName_l1, ir66_b0, ir66_k0, ir66_o0, ir66_r0, ghk1, hk2]
    · try simp only [go_sem, n1, n2, n3, n4, ghk1] at hk2
      all_goals
      obtain rfl := so_some h
      refine ⟨0, fun L hL => ?_⟩
      simp only [go_sem, ir66, E_spec_l06PutName_l1, R_spec_l06PutName_l1, ir66_b0, ir66_k0, ir66_o0, ir66_r0, ghk1, hk2]

theorem Fs_spec_l06PutName {list : List (List UInt8)} {name : List UInt8} {y_ : (List (List UInt8))} (h : spec_l06PutName list name = some y_) : c_spec_l06PutName.F [.sl 1 (List.map AV.str list), .str name] = ⟨true, .sl 1 (List.map AV.str y_), [.any, .any]⟩ := by
  refine mkZ_E ?_
  dsimp only [spec_l06PutName] at h
  obtain ⟨y_3, hk3, h⟩ := bd_some h
  obtain ⟨Lhk3, ehk3⟩ := spec_l06PutName_l1_ex hk3
  obtain ⟨hk4, h⟩ := ck_some h
  rcases or_split hk4 with ⟨ghk4, hk4⟩ | ghk4
  · try simp only [go_sem, n1, n2, n3, n4] at ghk4
    all_goals
    have lhk4 := ix_lt hk4
    have xhk4 := getD_mapD AV.str list lhk4
    try simp only [go_sem] at lhk4
    try simp only [go_sem] at xhk4
    try simp only [go_sem, n1, n2, n3, n4, ghk4] at hk4
    all_goals
    rcases it_some h with ⟨hk5, h⟩ | ⟨hk5, h⟩
    · try simp only [go_sem, n1, n2, n3, n4, ghk4, hk4] at hk5
      all_goals
      obtain rfl := so_some h
      refine ⟨Lhk3, fun L hL => ?_⟩
      have ehk3 := ehk3 L (by omega)
      try simp only [go_sem, E_spec_l06PutName_l1, R_spec_l06PutName_l1, ir66_k0, ir66_o0, ir66_r0, ghk4, hk4, hk5] at ehk3
      simp only [go_sem, ir66, E_spec_l06PutName_l1, R_spec_l06PutName_l1, ir66_k0, ir66_o0, ir66_r0, ghk4, hk4, lhk4, xhk4, hk5, ehk3]
    · try simp only [go_sem, n1, n2, n3, n4, ghk4, hk4] at hk5
      all_goals
      obtain ⟨hk6, h⟩ := ck_some h
      try simp only [go_sem, n1, n2, n3, n4, ghk4, hk4, hk5] at hk6
      all_goals
      obtain ⟨hk7, h⟩ := ck_some h
      try simp only [go_sem, n1, n2, n3, n4, ghk4, hk4, hk5, hk6] at hk7
      all_goals
      obtain ⟨hk8, h⟩ := ck_some h
      try simp only [go_sem, n1, n2, n3, n4, ghk4, hk4, hk5, hk6, hk7] at hk8
      all_goals
      obtain ⟨hk9, h⟩ := ck_some h
      try simp only [go_sem, n1, n2, n3, n4, ghk4, hk4, hk5, hk6, hk7, hk8] at hk9
      all_goals
      obtain ⟨hk10, h⟩ := ck_some h
      try simp only [go_sem, n1, n2, n3, n4, ghk4, hk4, hk5, hk6, hk7, hk8, hk9] at hk10
      all_goals
      obtain rfl := so_some h
      refine ⟨Lhk3, fun L hL => ?_⟩
      have ehk3 := ehk3 L (by omega)
      try simp only [go_sem, E_spec_l06PutName_l1, R_spec_l06PutName_l1, ir66_k0, ir66_o0, ir66_r0, ghk4, hk4, hk5, hk6, hk7, hk8, hk9, hk10] at ehk3
      simp only [go_sem, ir66, E_spec_l06PutName_l1, R_spec_l06PutName_l1, ir66_k0, ir66_o0, ir66_r0, ghk4, hk4, lhk4, xhk4, hk5, hk6, hk7, hk8, hk9, hk10, ehk3]
  · try simp only [go_sem, n1, n2, n3, n4] at ghk4
    all_goals
    rcases it_some h with ⟨hk5, h⟩ | ⟨hk5, h⟩
    · try simp only [go_sem, n1, n2, n3, n4, ghk4] at hk5
      all_goals
      obtain rfl := so_some h
      refine ⟨Lhk3, fun L hL => ?_⟩
      have ehk3 := ehk3 L (by omega)
      try simp only [go_sem, E_spec_l06PutName_l1, R_spec_l06PutName_l1, ir66_k0, ir66_o0, ir66_r0, ghk4, hk5] at ehk3
      simp only [go_sem, ir66, E_spec_l06PutName_l1, R_spec_l06PutName_l1, ir66_k0, ir66_o0, ir66_r0, ghk4, hk5, ehk3]
    · try simp only [go_sem, n1, n2, n3, n4, ghk4] at hk5
      all_goals
      obtain ⟨hk6, h⟩ := ck_some h
      try simp only [go_sem, n1, n2, n3, n4, ghk4, hk5] at hk6
      all_goals
      obtain ⟨hk7, h⟩ := ck_some h
      try simp only [go_sem, n1, n2, n3, n4, ghk4, hk5, hk6] at hk7
      all_goals
      obtain ⟨hk8, h⟩ := ck_some h
      try simp only [go_sem, n1, n2, n3, n4, ghk4, hk5, hk6, hk7] at hk8
      all_goals
      obtain ⟨hk9, h⟩ := ck_some h
      try simp only [go_sem, n1, n2, n3, n4, ghk4, hk5, hk6, hk7, hk8] at hk9
      all_goals
      obtain ⟨hk10, h⟩ := ck_some h
      try simp only [go_sem, n1, n2, n3, n4, ghk4, hk5, hk6, hk7, hk8, hk9] at hk10
      all_goals
      obtain rfl := so_some h
      refine ⟨Lhk3, fun L hL => ?_⟩
      have ehk3 := ehk3 L (by omega)
      try simp only [go_sem, E_spec_l06PutName_l1, R_spec_l06PutName_l1, ir66_k0, ir66_o0, ir66_r0, ghk4, hk5, hk6, hk7, hk8, hk9, hk10] at ehk3
      simp only [go_sem, ir66, E_spec_l06PutName_l1, R_spec_l06PutName_l1, ir66_k0, ir66_o0, ir66_r0, ghk4, hk5, hk6, hk7, hk8, hk9, hk10, ehk3]


def ir45_b0 : IR := .seq (.test false [
    ⟨.push, 8, none, .mov (.v 4)⟩,
    ⟨.push, 9, none, .mov (.v 0)⟩,
    ⟨.push, 10, none, .len false (.s 0)⟩,
    ⟨.push, 11, none, .bin false .lss (.s 2) (.s 0)⟩] (.s 0)
  (.skip)
  (.exit 0))
 (.seq (.block 1 (.test false [
     ⟨.push, 14, none, .mov (.v 1)⟩] (.s 0)
   (.region false [
      ⟨.push, 15, none, .mov (.v 3)⟩,
      ⟨.push, 16, none, .mov (.v 0)⟩,
      ⟨.push, 17, none, .mov (.v 4)⟩,
      ⟨.push, 18, none, .ixAddr 5 (.s 1) (.s 0)⟩,
      ⟨.push, 19, none, .fldAddr 1 (.s 0)⟩,
      ⟨.push, 20, none, .load false 1 (.s 0)⟩,
      ⟨.push, 21, none, .call 66 [(.s 5), (.s 0)]⟩,
      ⟨.var 3, 5, none, .mov (.s 0)⟩])
   (.region false [
      ⟨.push, 22, none, .mov (.v 3)⟩,
      ⟨.push, 23, none, .mov (.v 0)⟩,
      ⟨.push, 24, none, .mov (.v 4)⟩,
      ⟨.push, 25, none, .ixAddr 5 (.s 1) (.s 0)⟩,
      ⟨.push, 26, none, .fldAddr 2 (.s 0)⟩,
      ⟨.push, 27, none, .load false 1 (.s 0)⟩,
      ⟨.push, 28, none, .call 66 [(.s 5), (.s 0)]⟩,
      ⟨.var 3, 5, none, .mov (.s 0)⟩])))
 (.region false [
   ⟨.push, 12, none, .mov (.v 4)⟩,
   ⟨.push, 13, none, .bin false .add (.s 0) (.c (.int .i64 (1)))⟩,
   ⟨.var 4, 6, none, .mov (.s 0)⟩]))
def ir45_k0 : List Bool := [true, true, false, true, true]
def ir45_o0 : List Bool := [false, false, false, true, false]
def ir45_r0 : List Bool := [false, false, true, false, false]
def ir45_v : List Nat := [0, 1, 4, 5, 6]
def ir45 : AFn := ⟨2, 5, .seq (.region false [
    ⟨.var 2, 4, none, .newnil 1⟩])
 (.seq (.region false [
    ⟨.push, 7, none, .pur (.mkSl 1 (.str []) 0 [])⟩,
    ⟨.var 3, 5, none, .mov (.s 0)⟩])
 (.seq (.seq (.region false [
     ⟨.var 4, 6, none, .mov (.c (.int .i64 (0)))⟩])
  (.block 0 (.loop ir45_k0 ir45_o0 ir45_r0 ir45_b0)))
 (.seq (.region false [
    ⟨.push, 29, none, .mov (.v 3)⟩,
    ⟨.var 2, 4, none, .mov (.s 0)⟩])
 (.ret)))), [.t 2]⟩
noncomputable def t_spec_l25Names : List (Nat × Ctr) := [(66, c_spec_l06PutName)]
theorem lk_spec_l25Names_66 : look t_spec_l25Names 66 = some c_spec_l06PutName := rfl
noncomputable def c_spec_l25Names : Ctr := mkN t_spec_l25Names ir45 [.bor, .bor]
theorem s_spec_l25Names : Sound Try.prog 45 c_spec_l25Names := mkN_sound _ (snd_cons s_spec_l06PutName snd_nil) (by kernel_rfl : chkFn Try.prog 45 ir45 ir45_v = true)
theorem M_spec_l25Names : c_spec_l25Names.modes = [.bor, .bor] := rfl
theorem Fl_spec_l25Names : c_spec_l25Names.flat = false := rfl
attribute [go_sem] M_spec_l25Names Fl_spec_l25Names
attribute [go_sem] lk_spec_l25Names_66
def E_spec_l25Names_l1 (list : List Estimate) (star : Bool) : ((List (List UInt8)) × Int) → St
  | (out, i) => ⟨[.sl 5 (List.map Estimate_av list), .bool star, .any, .sl 1 (List.map AV.str out), .int .i64 i], [], [], true⟩
def R_spec_l25Names_l1 (list : List Estimate) (star : Bool) (y : (List (List UInt8))) : Res := (.exit 0, ⟨[.any, .any, .any, .sl 1 (List.map AV.str y), .any], [], [], true⟩)
theorem spec_l25Names_l1_ex {list : List Estimate} {star : Bool} {sgm_ : (List (List UInt8)) × Int} {rho_ : (List (List UInt8))} (h : whileE (spec_l25Names_l1 list star) sgm_ = some rho_) : ∃ L0, ∀ L, L0 ≤ L → iter (exec (look t_spec_l25Names) L ir45_b0) ir45_k0 ir45_o0 ir45_r0 L (E_spec_l25Names_l1 list star sgm_) = R_spec_l25Names_l1 list star rho_ := by
  refine loop_ex (E := E_spec_l25Names_l1 list star) (R := R_spec_l25Names_l1 list star) (fun y => by first | (intro c; cases c) | (rcases y with y | y <;> (intro c; cases c)) | (rcases y with y | y | y <;> (intro c; cases c))) ?_ h
  clear h
  rintro ⟨out, i⟩ o_ h
  dsimp only [spec_l25Names_l1] at h
  rcases it_some h with ⟨hk1, h⟩ | ⟨hk1, h⟩
  · try simp only [go_sem, n1, n2, n3, n4] at hk1
    all_goals
    rcases it_some h with ⟨hk2, h⟩ | ⟨hk2, h⟩
    · try simp only [go_sem, n1, n2, n3, n4, hk1] at hk2
      all_goals
      obtain ⟨hk3, h⟩ := ck_some h
      have lhk3 := ix_lt hk3
      have xhk3 := getD_mapD Estimate_av list lhk3
      try simp only [go_sem] at lhk3
      try simp only [go_sem] at xhk3
      try simp only [go_sem, n1, n2, n3, n4, hk1, hk2] at hk3
      all_goals
      obtain ⟨y_4, hk4, h⟩ := bd_some h
      have fhk4 := Fs_spec_l06PutName hk4
      try simp only [go_sem, hk1, hk2, hk3] at fhk4
      obtain rfl := so_some h
      refine ⟨0, fun L hL => ?_⟩
      simp only [go_sem, ir45, E_spec_l25Names_l1, R_spec_l25Names_l1, ir45_b0, ir45_k0, ir45_o0, ir45_r0, hk1, hk2, hk3, lhk3, xhk3, fhk4]
    · try simp only [go_sem, n1, n2, n3, n4, hk1] at hk2
      all_goals
      obtain ⟨hk5, h⟩ := ck_some h
      have lhk5 := ix_lt hk5
      have xhk5 := getD_mapD Estimate_av list lhk5
      try simp only [go_sem] at lhk5
      try simp only [go_sem] at xhk5
      try simp only [go_sem, n1, n2, n3, n4, hk1, hk2] at hk5
      all_goals
      obtain ⟨y_6, hk6, h⟩ := bd_some h
      have fhk6 := Fs_spec_l06PutName hk6
      try simp only [go_sem, hk1, hk2, hk5] at fhk6
      obtain rfl := so_some h
      refine ⟨0, fun L hL => ?_⟩
      simp only [go_sem, ir45, E_spec_l25Names_l1, R_spec_l25Names_l1, ir45_b0, ir45_k0, ir45_o0, ir45_r0, hk1, hk2, hk5, lhk5, xhk5, fhk6]
  · try simp only [go_sem, n1, n2, n3, n4] at hk1
    all_goals
    obtain rfl := so_some h
    refine ⟨0, fun L hL => ?_⟩
    simp only [go_sem, ir45, E_spec_l25Names_l1, R_spec_l25Names_l1, ir45_b0, ir45_k0, ir45_o0, ir45_r0, hk1]

theorem Fs_spec_l25Names {list : List Estimate} {star : Bool} {y_ : (List (List UInt8))} (h : spec_l25Names list star = some y_) : c_spec_l25Names.F [.sl 5 (List.map Estimate_av list), .bool star] = ⟨true, .sl 1 (List.map AV.str y_), [.any, .any]⟩ := by
  refine mkN_E ?_
  dsimp only [spec_l25Names] at h
  obtain ⟨y_7, hk7, h⟩ := bd_some h
  obtain ⟨Lhk7, ehk7⟩ := spec_l25Names_l1_ex hk7
  obtain rfl := so_some h
  refine ⟨Lhk7, fun L hL => ?_⟩
  have ehk7 := ehk7 L (by omega)
  try simp only [go_sem, E_spec_l25Names_l1, R_spec_l25Names_l1, ir45_k0, ir45_o0, ir45_r0] at ehk7
  simp only [go_sem, ir45, E_spec_l25Names_l1, R_spec_l25Names_l1, ir45_k0, ir45_o0, ir45_r0, ehk7]


def ir47_b0 : IR := .seq (.test false [
    ⟨.push, 5, none, .mov (.v 0)⟩,
    ⟨.push, 6, none, .bin false .geq (.s 0) (.c (.int .i64 (128)))⟩] (.s 0)
  (.skip)
  (.exit 0))
 (.block 1 (.seq (.region false [
     ⟨.push, 7, none, .mov (.v 2)⟩,
     ⟨.push, 8, none, .mov (.v 0)⟩,
     ⟨.push, 9, none, .bin false .rem (.s 0) (.c (.int .i64 (128)))⟩,
     ⟨.push, 10, none, .bin false .add (.s 0) (.c (.int .i64 (128)))⟩,
     ⟨.push, 11, none, .conv .u8 (.s 0)⟩,
     ⟨.push, 12, none, .mkSl 1 (.int .u8 (0)) 1 [(0, (.s 0))]⟩,
     ⟨.push, 13, none, .app 1 1 (.int .u8 (0)) (.s 5) (.s 0)⟩,
     ⟨.var 2, 3, none, .mov (.s 0)⟩])
  (.region false [
    ⟨.push, 14, none, .mov (.v 0)⟩,
    ⟨.push, 15, none, .bin false .quo (.s 0) (.c (.int .i64 (128)))⟩,
    ⟨.var 0, 0, none, .mov (.s 0)⟩])))
def ir47_k0 : List Bool := [true, false, true]
def ir47_o0 : List Bool := [true, false, true]
def ir47_r0 : List Bool := [false, true, false]
def ir47_v : List Nat := [0, 2, 3]
def ir47 : AFn := ⟨1, 3, .seq (.region false [
    ⟨.var 1, 2, none, .newnil 1⟩])
 (.seq (.region false [
    ⟨.push, 4, none, .mkSl 1 (.int .u8 (0)) 0 []⟩,
    ⟨.var 2, 3, none, .mov (.s 0)⟩])
 (.seq (.block 0 (.loop ir47_k0 ir47_o0 ir47_r0 ir47_b0))
 (.seq (.region false [
    ⟨.push, 16, none, .mov (.v 2)⟩,
    ⟨.push, 17, none, .mov (.v 0)⟩,
    ⟨.push, 18, none, .conv .u8 (.s 0)⟩,
    ⟨.push, 19, none, .mkSl 1 (.int .u8 (0)) 1 [(0, (.s 0))]⟩,
    ⟨.push, 20, none, .app 1 1 (.int .u8 (0)) (.s 3) (.s 0)⟩,
    ⟨.var 1, 2, none, .mov (.s 0)⟩])
 (.ret)))), [.t 1]⟩
noncomputable def t_spec_l25Number : List (Nat × Ctr) := []
noncomputable def c_spec_l25Number : Ctr := mkF t_spec_l25Number ir47 [.bor]
theorem s_spec_l25Number : Sound Try.prog 47 c_spec_l25Number := mkF_sound _ rfl snd_nil (by kernel_rfl : chkFn Try.prog 47 ir47 ir47_v = true)
theorem M_spec_l25Number : c_spec_l25Number.modes = [.bor] := rfl
theorem Fl_spec_l25Number : c_spec_l25Number.flat = true := rfl
attribute [go_sem] M_spec_l25Number Fl_spec_l25Number
def E_spec_l25Number_l1  : (Int × (List UInt8)) → St
  | (n, out) => ⟨[.int .i64 n, .any, .own 3200000], [], [(3200000, ⟨1, List.map byteAV out⟩)], true⟩
def R_spec_l25Number_l1  (y : Int × (List UInt8)) : Res := (.exit 0, ⟨[.int .i64 y.1, .any, .own 3200000], [], [(3200000, ⟨1, List.map byteAV y.2⟩)], true⟩)
theorem spec_l25Number_l1_ex  {sgm_ : Int × (List UInt8)} {rho_ : Int × (List UInt8)} (h : whileE (spec_l25Number_l1) sgm_ = some rho_) : ∃ L0, ∀ L, L0 ≤ L → iter (exec (look t_spec_l25Number) L ir47_b0) ir47_k0 ir47_o0 ir47_r0 L (E_spec_l25Number_l1 sgm_) = R_spec_l25Number_l1 rho_ := by
  refine loop_ex (E := E_spec_l25Number_l1) (R := R_spec_l25Number_l1) (fun y => by first | (intro c; cases c) | (rcases y with y | y <;> (intro c; cases c)) | (rcases y with y | y | y <;> (intro c; cases c))) ?_ h
  clear h
  rintro ⟨n, out⟩ o_ h
  dsimp only [spec_l25Number_l1] at h
  rcases it_some h with ⟨hk1, h⟩ | ⟨hk1, h⟩
  · try simp only [go_sem, n1, n2, n3, n4] at hk1
    all_goals
    obtain ⟨hk2, h⟩ := ck_some h
    try simp only [go_sem, n1, n2, n3, n4, hk1] at hk2
    all_goals
    obtain ⟨hk3, h⟩ := ck_some h
    try simp only [go_sem, n1, n2, n3, n4, hk1, hk2] at hk3
    all_goals
    obtain rfl := so_some h
    refine ⟨0, fun L hL => ?_⟩
    simp only [go_sem, ir47, E_spec_l25Number_l1, R_spec_l25Number_l1, ir47_b0, ir47_k0, ir47_o0, ir47_r0, hk1, hk2, hk3]
  · try simp only [go_sem, n1, n2, n3, n4] at hk1
    all_goals
    obtain rfl := so_some h
    refine ⟨0, fun L hL => ?_⟩
    simp only [go_sem, ir47, E_spec_l25Number_l1, R_spec_l25Number_l1, ir47_b0, ir47_k0, ir47_o0, ir47_r0, hk1]

theorem Fs_spec_l25Number {n : Int} {y_ : (List UInt8)} (h : spec_l25Number n = some y_) : c_spec_l25Number.F [.int .i64 n] = ⟨true, .fresh 1 (List.map byteAV y_), [.any]⟩ := by
  refine mkF_E (by simp only [flatA, flatB, flat1, List.all_cons, List.all_nil, Bool.and_self, flatE_map (f := byteAV) (fun _ => rfl)]) ?_
  dsimp only [spec_l25Number] at h
  obtain ⟨y_4, hk4, h⟩ := bd_some h
  obtain ⟨Lhk4, ehk4⟩ := spec_l25Number_l1_ex hk4
  obtain ⟨hk5, h⟩ := ck_some h
  try simp only [go_sem, n1, n2, n3, n4] at hk5
  all_goals
  obtain rfl := so_some h
  refine ⟨Lhk4, fun L hL => ?_⟩
  have ehk4 := ehk4 L (by omega)
  try simp only [go_sem, E_spec_l25Number_l1, R_spec_l25Number_l1, ir47_k0, ir47_o0, ir47_r0, hk5] at ehk4
  simp only [go_sem, ir47, E_spec_l25Number_l1, R_spec_l25Number_l1, ir47_k0, ir47_o0, ir47_r0, hk5, ehk4]


def ir46_b0 : IR := .seq (.test false [
    ⟨.push, 11, none, .mov (.v 3)⟩,
    ⟨.push, 12, none, .mov (.v 1)⟩,
    ⟨.push, 13, none, .len false (.s 0)⟩,
    ⟨.push, 14, none, .bin false .lss (.s 2) (.s 0)⟩] (.s 0)
  (.skip)
  (.exit 0))
 (.seq (.block 1 (.seq (.region false [
      ⟨.push, 17, none, .mov (.v 0)⟩,
      ⟨.push, 18, none, .mov (.v 1)⟩,
      ⟨.push, 19, none, .mov (.v 3)⟩,
      ⟨.push, 20, none, .ixAddr 1 (.s 1) (.s 0)⟩,
      ⟨.push, 21, none, .load false 1 (.s 0)⟩,
      ⟨.push, 22, none, .len true (.s 0)⟩,
      ⟨.push, 23, none, .call 47 [(.s 0)]⟩,
      ⟨.push, 24, none, .app 1 1 (.int .u8 (0)) (.s 6) (.s 0)⟩,
      ⟨.var 0, 0, none, .mov (.s 0)⟩])
   (.region false [
     ⟨.push, 25, none, .mov (.v 0)⟩,
     ⟨.push, 26, none, .mov (.v 1)⟩,
     ⟨.push, 27, none, .mov (.v 3)⟩,
     ⟨.push, 28, none, .ixAddr 1 (.s 1) (.s 0)⟩,
     ⟨.push, 29, none, .load false 1 (.s 0)⟩,
     ⟨.push, 30, none, .app 1 1 (.int .u8 (0)) (.s 4) (.s 0)⟩,
     ⟨.var 0, 0, none, .mov (.s 0)⟩])))
 (.region false [
   ⟨.push, 15, none, .mov (.v 3)⟩,
   ⟨.push, 16, none, .bin false .add (.s 0) (.c (.int .i64 (1)))⟩,
   ⟨.var 3, 5, none, .mov (.s 0)⟩]))
def ir46_k0 : List Bool := [true, true, false, true]
def ir46_o0 : List Bool := [true, false, false, false]
def ir46_r0 : List Bool := [false, false, true, false]
def ir46_v : List Nat := [0, 1, 4, 5]
def ir46 : AFn := ⟨2, 4, .seq (.region false [
    ⟨.var 2, 4, none, .newnil 1⟩])
 (.seq (.region false [
    ⟨.push, 6, none, .mov (.v 0)⟩,
    ⟨.push, 7, none, .mov (.v 1)⟩,
    ⟨.push, 8, none, .len false (.s 0)⟩,
    ⟨.push, 9, none, .call 47 [(.s 0)]⟩,
    ⟨.push, 10, none, .app 1 1 (.int .u8 (0)) (.s 3) (.s 0)⟩,
    ⟨.var 0, 0, none, .mov (.s 0)⟩])
 (.seq (.seq (.region false [
     ⟨.var 3, 5, none, .mov (.c (.int .i64 (0)))⟩])
  (.block 0 (.loop ir46_k0 ir46_o0 ir46_r0 ir46_b0)))
 (.seq (.region false [
    ⟨.push, 31, none, .mov (.v 0)⟩,
    ⟨.var 2, 4, none, .mov (.s 0)⟩])
 (.ret)))), [.t 2]⟩
noncomputable def t_spec_l25PutNames : List (Nat × Ctr) := [(47, c_spec_l25Number)]
theorem lk_spec_l25PutNames_47 : look t_spec_l25PutNames 47 = some c_spec_l25Number := rfl
noncomputable def c_spec_l25PutNames : Ctr := mkF t_spec_l25PutNames ir46 [.mov, .bor]
theorem s_spec_l25PutNames : Sound Try.prog 46 c_spec_l25PutNames := mkF_sound _ rfl (snd_cons s_spec_l25Number snd_nil) (by kernel_rfl : chkFn Try.prog 46 ir46 ir46_v = true)
theorem M_spec_l25PutNames : c_spec_l25PutNames.modes = [.mov, .bor] := rfl
theorem Fl_spec_l25PutNames : c_spec_l25PutNames.flat = true := rfl
attribute [go_sem] M_spec_l25PutNames Fl_spec_l25PutNames
attribute [go_sem] lk_spec_l25PutNames_47
def E_spec_l25PutNames_l1 (names : List (List UInt8)) : ((List UInt8) × Int) → St
  | (out, i) => ⟨[.own 31, .sl 1 (List.map AV.str names), .any, .int .i64 i], [], [(31, ⟨1, List.map byteAV out⟩)], true⟩
def R_spec_l25PutNames_l1 (names : List (List UInt8)) (y : (List UInt8)) : Res := (.exit 0, ⟨[.own 31, .any, .any, .any], [], [(31, ⟨1, List.map byteAV y⟩)], true⟩)
theorem spec_l25PutNames_l1_ex {names : List (List UInt8)} {sgm_ : (List UInt8) × Int} {rho_ : (List UInt8)} (h : whileE (spec_l25PutNames_l1 names) sgm_ = some rho_) : ∃ L0, ∀ L, L0 ≤ L → iter (exec (look t_spec_l25PutNames) L ir46_b0) ir46_k0 ir46_o0 ir46_r0 L (E_spec_l25PutNames_l1 names sgm_) = R_spec_l25PutNames_l1 names rho_ := by
  refine loop_ex (E := E_spec_l25PutNames_l1 names) (R := R_spec_l25PutNames_l1 names) (fun y => by first | (intro c; cases c) | (rcases y with y | y <;> (intro c; cases c)) | (rcases y with y | y | y <;> (intro c; cases c))) ?_ h
  clear h
  rintro ⟨out, i⟩ o_ h
  dsimp only [spec_l25PutNames_l1] at h
  rcases it_some h with ⟨hk3, h⟩ | ⟨hk3, h⟩
  · try simp only [go_sem, n1, n2, n3, n4] at hk3
    all_goals
    obtain ⟨hk4, h⟩ := ck_some h
    have lhk4 := ix_lt hk4
    have xhk4 := getD_mapD AV.str names lhk4
    try simp only [go_sem] at lhk4
    try simp only [go_sem] at xhk4
    try simp only [go_sem, n1, n2, n3, n4, hk3] at hk4
    all_goals
    obtain ⟨y_5, hk5, h⟩ := bd_some h
    have fhk5 := Fs_spec_l25Number hk5
    try simp only [go_sem, hk3, hk4] at fhk5
    obtain ⟨hk6, h⟩ := ck_some h
    try simp only [go_sem, n1, n2, n3, n4, hk3, hk4] at hk6
    all_goals
    obtain ⟨hk7, h⟩ := ck_some h
    try simp only [go_sem, n1, n2, n3, n4, hk3, hk4, hk6] at hk7
    all_goals
    obtain rfl := so_some h
    refine ⟨0, fun L hL => ?_⟩
    simp only [go_sem, ir46, E_spec_l25PutNames_l1, R_spec_l25PutNames_l1, ir46_b0, ir46_k0, ir46_o0, ir46_r0, hk3, hk4, lhk4, xhk4, fhk5, hk6, hk7]
  · try simp only [go_sem, n1, n2, n3, n4] at hk3
    all_goals
    obtain rfl := so_some h
    refine ⟨0, fun L hL => ?_⟩
    simp only [go_sem, ir46, E_spec_l25PutNames_l1, R_spec_l25PutNames_l1, ir46_b0, ir46_k0, ir46_o0, ir46_r0, hk3]

theorem Fs_spec_l25PutNames {out : List UInt8} {names : List (List UInt8)} {y_ : (List UInt8)} (h : spec_l25PutNames out names = some y_) : c_spec_l25PutNames.F [.fresh 1 (List.map byteAV out), .sl 1 (List.map AV.str names)] = ⟨true, .fresh 1 (List.map byteAV y_), [.any, .any]⟩ := by
  refine mkF_E (by simp only [flatA, flatB, flat1, List.all_cons, List.all_nil, Bool.and_self, flatE_map (f := byteAV) (fun _ => rfl)]) ?_
  dsimp only [spec_l25PutNames] at h
  obtain ⟨y_1, hk1, h⟩ := bd_some h
  have fhk1 := Fs_spec_l25Number hk1
  try simp only [go_sem] at fhk1
  obtain ⟨hk2, h⟩ := ck_some h
  try simp only [go_sem, n1, n2, n3, n4] at hk2
  all_goals
  obtain ⟨y_8, hk8, h⟩ := bd_some h
  obtain ⟨Lhk8, ehk8⟩ := spec_l25PutNames_l1_ex hk8
  obtain rfl := so_some h
  refine ⟨Lhk8, fun L hL => ?_⟩
  have ehk8 := ehk8 L (by omega)
  try simp only [go_sem, E_spec_l25PutNames_l1, R_spec_l25PutNames_l1, ir46_k0, ir46_o0, ir46_r0, hk2] at ehk8
  simp only [go_sem, ir46, E_spec_l25PutNames_l1, R_spec_l25PutNames_l1, ir46_k0, ir46_o0, ir46_r0, fhk1, hk2, ehk8]


def ir48_b0 : IR := .seq (.test false [
    ⟨.push, 6, none, .mov (.v 3)⟩,
    ⟨.push, 7, none, .mov (.v 0)⟩,
    ⟨.push, 8, none, .len false (.s 0)⟩,
    ⟨.push, 9, none, .bin false .lss (.s 2) (.s 0)⟩] (.s 0)
  (.skip)
  (.exit 0))
 (.seq (.block 1 (.test false [
     ⟨.push, 12, none, .mov (.v 0)⟩,
     ⟨.push, 13, none, .mov (.v 3)⟩,
     ⟨.push, 14, none, .ixAddr 1 (.s 1) (.s 0)⟩,
     ⟨.push, 15, none, .load false 1 (.s 0)⟩,
     ⟨.push, 16, none, .mov (.v 1)⟩,
     ⟨.push, 17, none, .bin false .eql (.s 1) (.s 0)⟩] (.s 0)
   (.seq (.region false [
       ⟨.push, 18, none, .mov (.v 3)⟩,
       ⟨.var 2, 4, none, .mov (.s 0)⟩])
    (.ret))
   (.skip)))
 (.region false [
   ⟨.push, 10, none, .mov (.v 3)⟩,
   ⟨.push, 11, none, .bin false .add (.s 0) (.c (.int .i64 (1)))⟩,
   ⟨.var 3, 5, none, .mov (.s 0)⟩]))
def ir48_k0 : List Bool := [true, true, false, true]
def ir48_o0 : List Bool := [false, false, false, false]
def ir48_r0 : List Bool := [false, false, true, false]
def ir48_v : List Nat := [0, 1, 4, 5]
def ir48 : AFn := ⟨2, 4, .seq (.region false [
    ⟨.var 2, 4, none, .mov (.c (.int .i64 (0)))⟩])
 (.seq (.seq (.region false [
     ⟨.var 3, 5, none, .mov (.c (.int .i64 (0)))⟩])
  (.block 0 (.loop ir48_k0 ir48_o0 ir48_r0 ir48_b0)))
 (.seq (.region false [
    ⟨.var 2, 4, none, .mov (.c (.int .i64 (-1)))⟩])
 (.ret))), [.t 2]⟩
noncomputable def t_spec_l25Find : List (Nat × Ctr) := []
noncomputable def c_spec_l25Find : Ctr := mkF t_spec_l25Find ir48 [.bor, .bor]
theorem s_spec_l25Find : Sound Try.prog 48 c_spec_l25Find := mkF_sound _ rfl snd_nil (by kernel_rfl : chkFn Try.prog 48 ir48 ir48_v = true)
theorem M_spec_l25Find : c_spec_l25Find.modes = [.bor, .bor] := rfl
theorem Fl_spec_l25Find : c_spec_l25Find.flat = true := rfl
attribute [go_sem] M_spec_l25Find Fl_spec_l25Find
def E_spec_l25Find_l1 (list : List (List UInt8)) (name : List UInt8) : Int → St
  | i => ⟨[.sl 1 (List.map AV.str list), .str name, .any, .int .i64 i], [], [], true⟩
def R_spec_l25Find_l1 (list : List (List UInt8)) (name : List UInt8) : (Unit ⊕ Int) → Res
  | .inl y => (.exit 0, ⟨[.any, .any, .any, .any], [], [], true⟩)
  | .inr y => (.ret, ⟨[.any, .any, .int .i64 y, .any], [], [], true⟩)
theorem spec_l25Find_l1_ex {list : List (List UInt8)} {name : List UInt8} {sgm_ : Int} {rho_ : Unit ⊕ Int} (h : whileE (spec_l25Find_l1 list name) sgm_ = some rho_) : ∃ L0, ∀ L, L0 ≤ L → iter (exec (look t_spec_l25Find) L ir48_b0) ir48_k0 ir48_o0 ir48_r0 L (E_spec_l25Find_l1 list name sgm_) = R_spec_l25Find_l1 list name rho_ := by
  refine loop_ex (E := E_spec_l25Find_l1 list name) (R := R_spec_l25Find_l1 list name) (fun y => by first | (intro c; cases c) | (rcases y with y | y <;> (intro c; cases c)) | (rcases y with y | y | y <;> (intro c; cases c))) ?_ h
  clear h
  intro i o_ h
  dsimp only [spec_l25Find_l1] at h
  rcases it_some h with ⟨hk1, h⟩ | ⟨hk1, h⟩
  · try simp only [go_sem, n1, n2, n3, n4] at hk1
    all_goals
    obtain ⟨hk2, h⟩ := ck_some h
    have lhk2 := ix_lt hk2
    have xhk2 := getD_mapD AV.str list lhk2
    try simp only [go_sem] at lhk2
    try simp only [go_sem] at xhk2
    try simp only [go_sem, n1, n2, n3, n4, hk1] at hk2
    all_goals
    rcases it_some h with ⟨hk3, h⟩ | ⟨hk3, h⟩
    · try simp only [go_sem, n1, n2, n3, n4, hk1, hk2] at hk3
      all_goals
      obtain rfl := so_some h
      refine ⟨0, fun L hL => ?_⟩
      simp only [go_sem, ir48, E_spec_l25Find_l1, R_spec_l25Find_l1, ir48_b0, ir48_k0, ir48_o0, ir48_r0, hk1, hk2, lhk2, xhk2, hk3]
    · try simp only [go_sem, n1, n2, n3, n4, hk1, hk2] at hk3
      all_goals
      obtain rfl := so_some h
      refine ⟨0, fun L hL => ?_⟩
      simp only [go_sem, ir48, E_spec_l25Find_l1, R_spec_l25Find_l1, ir48_b0, ir48_k0, ir48_o0, ir48_r0, hk1, hk2, lhk2, xhk2, hk3]
  · try simp only [go_sem, n1, n2, n3, n4] at hk1
    all_goals
    obtain rfl := so_some h
    refine ⟨0, fun L hL => ?_⟩
    simp only [go_sem, ir48, E_spec_l25Find_l1, R_spec_l25Find_l1, ir48_b0, ir48_k0, ir48_o0, ir48_r0, hk1]

theorem Fs_spec_l25Find {list : List (List UInt8)} {name : List UInt8} {y_ : Int} (h : spec_l25Find list name = some y_) : c_spec_l25Find.F [.sl 1 (List.map AV.str list), .str name] = ⟨true, .int .i64 y_, [.any, .any]⟩ := by
  refine mkF_E rfl ?_
  dsimp only [spec_l25Find] at h
  obtain ⟨y_4, hk4, h⟩ := bd_some h
  obtain ⟨Lhk4, ehk4⟩ := spec_l25Find_l1_ex hk4
  rcases y_4 with y_4a | y_4b
  · dsimp only at h
    obtain rfl := so_some h
    refine ⟨Lhk4, fun L hL => ?_⟩
    have ehk4 := ehk4 L (by omega)
    try simp only [go_sem, E_spec_l25Find_l1, R_spec_l25Find_l1, ir48_k0, ir48_o0, ir48_r0] at ehk4
    simp only [go_sem, ir48, E_spec_l25Find_l1, R_spec_l25Find_l1, ir48_k0, ir48_o0, ir48_r0, ehk4]
  · dsimp only at h
    obtain rfl := so_some h
    refine ⟨Lhk4, fun L hL => ?_⟩
    have ehk4 := ehk4 L (by omega)
    try simp only [go_sem, E_spec_l25Find_l1, R_spec_l25Find_l1, ir48_k0, ir48_o0, ir48_r0] at ehk4
    simp only [go_sem, ir48, E_spec_l25Find_l1, R_spec_l25Find_l1, ir48_k0, ir48_o0, ir48_r0, ehk4]


def ir49_v : List Nat := [0, 2]
def ir49 : AFn := ⟨1, 2, .seq (.region false [
    ⟨.var 1, 2, none, .mov (.c (.int .i64 (0)))⟩])
 (.seq (.test false [
    ⟨.push, 3, none, .mov (.v 0)⟩,
    ⟨.push, 4, none, .bin false .lss (.s 0) (.c (.int .i64 (0)))⟩] (.s 0)
  (.seq (.region false [
      ⟨.push, 5, none, .mov (.v 0)⟩,
      ⟨.push, 6, none, .bin false .mul (.c (.int .i64 (-2))) (.s 0)⟩,
      ⟨.push, 7, none, .bin false .sub (.s 0) (.c (.int .i64 (1)))⟩,
      ⟨.var 1, 2, none, .mov (.s 0)⟩])
   (.ret))
  (.skip))
 (.seq (.region false [
    ⟨.push, 8, none, .mov (.v 0)⟩,
    ⟨.push, 9, none, .bin false .mul (.c (.int .i64 (2))) (.s 0)⟩,
    ⟨.var 1, 2, none, .mov (.s 0)⟩])
 (.ret))), [.t 1]⟩
noncomputable def t_spec_l25Fold : List (Nat × Ctr) := []
noncomputable def c_spec_l25Fold : Ctr := mkF t_spec_l25Fold ir49 [.bor]
theorem s_spec_l25Fold : Sound Try.prog 49 c_spec_l25Fold := mkF_sound _ rfl snd_nil (by kernel_rfl : chkFn Try.prog 49 ir49 ir49_v = true)
theorem M_spec_l25Fold : c_spec_l25Fold.modes = [.bor] := rfl
theorem Fl_spec_l25Fold : c_spec_l25Fold.flat = true := rfl
attribute [go_sem] M_spec_l25Fold Fl_spec_l25Fold
theorem Fs_spec_l25Fold {n : Int} {y_ : Int} (h : spec_l25Fold n = some y_) : c_spec_l25Fold.F [.int .i64 n] = ⟨true, .int .i64 y_, [.any]⟩ := by
  refine mkF_E rfl ?_
  dsimp only [spec_l25Fold] at h
  rcases it_some h with ⟨hk1, h⟩ | ⟨hk1, h⟩
  · try simp only [go_sem, n1, n2, n3, n4] at hk1
    all_goals
    obtain rfl := so_some h
    refine ⟨0, fun L hL => ?_⟩
    simp only [go_sem, ir49, hk1]
  · try simp only [go_sem, n1, n2, n3, n4] at hk1
    all_goals
    obtain rfl := so_some h
    refine ⟨0, fun L hL => ?_⟩
    simp only [go_sem, ir49, hk1]


def ir50_v : List Nat := [0, 2, 3]
def ir50 : AFn := ⟨1, 3, .seq (.region false [
    ⟨.var 1, 2, none, .newnil 1⟩])
 (.seq (.region false [
    ⟨.push, 4, none, .mov (.v 0)⟩,
    ⟨.push, 5, none, .call 58 [(.s 0)]⟩,
    ⟨.var 2, 3, none, .mov (.s 0)⟩])
 (.seq (.region false [
    ⟨.push, 6, none, .mov (.v 0)⟩,
    ⟨.push, 7, none, .mov (.v 2)⟩,
    ⟨.push, 8, none, .bin false .quo (.s 0) (.c (.int .i64 (256)))⟩,
    ⟨.push, 9, none, .conv .u8 (.s 0)⟩,
    ⟨.push, 10, none, .mkSl 1 (.int .u8 (0)) 1 [(0, (.s 0))]⟩,
    ⟨.push, 11, none, .app 1 1 (.int .u8 (0)) (.s 4) (.s 0)⟩,
    ⟨.var 0, 0, none, .mov (.s 0)⟩])
 (.seq (.region false [
    ⟨.push, 12, none, .mov (.v 0)⟩,
    ⟨.push, 13, none, .mov (.v 2)⟩,
    ⟨.push, 14, none, .bin false .rem (.s 0) (.c (.int .i64 (256)))⟩,
    ⟨.push, 15, none, .conv .u8 (.s 0)⟩,
    ⟨.push, 16, none, .mkSl 1 (.int .u8 (0)) 1 [(0, (.s 0))]⟩,
    ⟨.push, 17, none, .app 1 1 (.int .u8 (0)) (.s 4) (.s 0)⟩,
    ⟨.var 1, 2, none, .mov (.s 0)⟩])
 (.ret)))), [.t 1]⟩
noncomputable def t_spec_l25Close : List (Nat × Ctr) := [(58, c_spec_l25Sum)]
theorem lk_spec_l25Close_58 : look t_spec_l25Close 58 = some c_spec_l25Sum := rfl
noncomputable def c_spec_l25Close : Ctr := mkF t_spec_l25Close ir50 [.mov]
theorem s_spec_l25Close : Sound Try.prog 50 c_spec_l25Close := mkF_sound _ rfl (snd_cons s_spec_l25Sum snd_nil) (by kernel_rfl : chkFn Try.prog 50 ir50 ir50_v = true)
theorem M_spec_l25Close : c_spec_l25Close.modes = [.mov] := rfl
theorem Fl_spec_l25Close : c_spec_l25Close.flat = true := rfl
attribute [go_sem] M_spec_l25Close Fl_spec_l25Close
attribute [go_sem] lk_spec_l25Close_58
theorem Fs_spec_l25Close {out : List UInt8} {y_ : (List UInt8)} (h : spec_l25Close out = some y_) : c_spec_l25Close.F [.fresh 1 (List.map byteAV out)] = ⟨true, .fresh 1 (List.map byteAV y_), [.any]⟩ := by
  refine mkF_E (by simp only [flatA, flatB, flat1, List.all_cons, List.all_nil, Bool.and_self, flatE_map (f := byteAV) (fun _ => rfl)]) ?_
  dsimp only [spec_l25Close] at h
  obtain ⟨y_1, hk1, h⟩ := bd_some h
  have fhk1 := Fs_spec_l25Sum hk1
  try simp only [go_sem] at fhk1
  obtain ⟨hk2, h⟩ := ck_some h
  try simp only [go_sem, n1, n2, n3, n4] at hk2
  all_goals
  obtain ⟨hk3, h⟩ := ck_some h
  try simp only [go_sem, n1, n2, n3, n4, hk2] at hk3
  all_goals
  obtain ⟨hk4, h⟩ := ck_some h
  try simp only [go_sem, n1, n2, n3, n4, hk2, hk3] at hk4
  all_goals
  obtain rfl := so_some h
  refine ⟨0, fun L hL => ?_⟩
  simp only [go_sem, ir50, fhk1, hk2, hk3, hk4]


def ir20_b0 : IR := .seq (.test false [
    ⟨.push, 26, none, .mov (.v 7)⟩,
    ⟨.push, 27, none, .mov (.v 0)⟩,
    ⟨.push, 28, none, .len false (.s 0)⟩,
    ⟨.push, 29, none, .bin false .lss (.s 2) (.s 0)⟩] (.s 0)
  (.skip)
  (.exit 0))
 (.seq (.block 1 (.seq (.region false [
      ⟨.push, 32, none, .mov (.v 4)⟩,
      ⟨.push, 33, none, .mov (.v 0)⟩,
      ⟨.push, 34, none, .mov (.v 7)⟩,
      ⟨.push, 35, none, .ixAddr 5 (.s 1) (.s 0)⟩,
      ⟨.push, 36, none, .fldAddr 0 (.s 0)⟩,
      ⟨.push, 37, none, .load false 1 (.s 0)⟩,
      ⟨.push, 38, none, .mov (.v 5)⟩,
      ⟨.push, 39, none, .bin false .sub (.s 1) (.s 0)⟩,
      ⟨.push, 40, none, .call 47 [(.s 0)]⟩,
      ⟨.push, 41, none, .app 1 1 (.int .u8 (0)) (.s 8) (.s 0)⟩,
      ⟨.var 4, 5, none, .mov (.s 0)⟩])
   (.seq (.region false [
      ⟨.push, 42, none, .mov (.v 4)⟩,
      ⟨.push, 43, none, .mov (.v 2)⟩,
      ⟨.push, 44, none, .mov (.v 0)⟩,
      ⟨.push, 45, none, .mov (.v 7)⟩,
      ⟨.push, 46, none, .ixAddr 5 (.s 1) (.s 0)⟩,
      ⟨.push, 47, none, .fldAddr 1 (.s 0)⟩,
      ⟨.push, 48, none, .load false 1 (.s 0)⟩,
      ⟨.push, 49, none, .call 48 [(.s 5), (.s 0)]⟩,
      ⟨.push, 50, none, .call 47 [(.s 0)]⟩,
      ⟨.push, 51, none, .app 1 1 (.int .u8 (0)) (.s 8) (.s 0)⟩,
      ⟨.var 4, 5, none, .mov (.s 0)⟩])
   (.seq (.region false [
      ⟨.push, 52, none, .mov (.v 3)⟩,
      ⟨.push, 53, none, .mov (.v 0)⟩,
      ⟨.push, 54, none, .mov (.v 7)⟩,
      ⟨.push, 55, none, .ixAddr 5 (.s 1) (.s 0)⟩,
      ⟨.push, 56, none, .fldAddr 2 (.s 0)⟩,
      ⟨.push, 57, none, .load false 1 (.s 0)⟩,
      ⟨.push, 58, none, .call 48 [(.s 5), (.s 0)]⟩,
      ⟨.push, 59, none, .bin false .mul (.c (.int .i64 (2))) (.s 0)⟩,
      ⟨.var 8, 9, none, .mov (.s 0)⟩])
   (.seq (.test false [
      ⟨.push, 60, none, .mov (.v 0)⟩,
      ⟨.push, 61, none, .mov (.v 7)⟩,
      ⟨.push, 62, none, .ixAddr 5 (.s 1) (.s 0)⟩,
      ⟨.push, 63, none, .fldAddr 4 (.s 0)⟩,
      ⟨.push, 64, none, .load false 1 (.s 0)⟩] (.s 0)
    (.region false [
       ⟨.push, 65, none, .mov (.v 8)⟩,
       ⟨.push, 66, none, .bin false .add (.s 0) (.c (.int .i64 (1)))⟩,
       ⟨.var 8, 9, none, .mov (.s 0)⟩])
    (.skip))
   (.seq (.region false [
      ⟨.push, 67, none, .mov (.v 4)⟩,
      ⟨.push, 68, none, .mov (.v 8)⟩,
      ⟨.push, 69, none, .call 47 [(.s 0)]⟩,
      ⟨.push, 70, none, .app 1 1 (.int .u8 (0)) (.s 2) (.s 0)⟩,
      ⟨.var 4, 5, none, .mov (.s 0)⟩])
   (.seq (.region false [
      ⟨.push, 71, none, .mov (.v 4)⟩,
      ⟨.push, 72, none, .mov (.v 0)⟩,
      ⟨.push, 73, none, .mov (.v 7)⟩,
      ⟨.push, 74, none, .ixAddr 5 (.s 1) (.s 0)⟩,
      ⟨.push, 75, none, .fldAddr 3 (.s 0)⟩,
      ⟨.push, 76, none, .load false 1 (.s 0)⟩,
      ⟨.push, 77, none, .mov (.v 6)⟩,
      ⟨.push, 78, none, .bin false .sub (.s 1) (.s 0)⟩,
      ⟨.push, 79, none, .call 49 [(.s 0)]⟩,
      ⟨.push, 80, none, .call 47 [(.s 0)]⟩,
      ⟨.push, 81, none, .app 1 1 (.int .u8 (0)) (.s 9) (.s 0)⟩,
      ⟨.var 4, 5, none, .mov (.s 0)⟩])
   (.seq (.region false [
      ⟨.push, 82, none, .mov (.v 0)⟩,
      ⟨.push, 83, none, .mov (.v 7)⟩,
      ⟨.push, 84, none, .ixAddr 5 (.s 1) (.s 0)⟩,
      ⟨.push, 85, none, .fldAddr 0 (.s 0)⟩,
      ⟨.push, 86, none, .load false 1 (.s 0)⟩,
      ⟨.var 5, 6, none, .mov (.s 0)⟩])
   (.region false [
     ⟨.push, 87, none, .mov (.v 0)⟩,
     ⟨.push, 88, none, .mov (.v 7)⟩,
     ⟨.push, 89, none, .ixAddr 5 (.s 1) (.s 0)⟩,
     ⟨.push, 90, none, .fldAddr 3 (.s 0)⟩,
     ⟨.push, 91, none, .load false 1 (.s 0)⟩,
     ⟨.var 6, 7, none, .mov (.s 0)⟩])))))))))
 (.region false [
   ⟨.push, 30, none, .mov (.v 7)⟩,
   ⟨.push, 31, none, .bin false .add (.s 0) (.c (.int .i64 (1)))⟩,
   ⟨.var 7, 8, none, .mov (.s 0)⟩]))
def ir20_k0 : List Bool := [true, false, true, true, true, true, true, true, false]
def ir20_o0 : List Bool := [false, false, false, false, true, false, false, false, false]
def ir20_r0 : List Bool := [false, true, false, false, false, false, false, false, false]
def ir20_v : List Nat := [0, 2, 3, 4, 5, 6, 7, 8, 9]
def ir20 : AFn := ⟨1, 9, .seq (.region false [
    ⟨.var 1, 2, none, .newnil 1⟩])
 (.seq (.region false [
    ⟨.push, 10, none, .mov (.v 0)⟩,
    ⟨.push, 11, none, .call 45 [(.s 0), (.c (.bool true))]⟩,
    ⟨.var 2, 3, none, .mov (.s 0)⟩])
 (.seq (.region false [
    ⟨.push, 12, none, .mov (.v 0)⟩,
    ⟨.push, 13, none, .call 45 [(.s 0), (.c (.bool false))]⟩,
    ⟨.var 3, 4, none, .mov (.s 0)⟩])
 (.seq (.region false [
    ⟨.push, 14, none, .mkSl 1 (.int .u8 (0)) 1 [(0, (.c (.int .u8 (69))))]⟩,
    ⟨.var 4, 5, none, .mov (.s 0)⟩])
 (.seq (.region false [
    ⟨.push, 15, none, .mov (.v 4)⟩,
    ⟨.push, 16, none, .mov (.v 2)⟩,
    ⟨.push, 17, none, .call 46 [(.s 1), (.s 0)]⟩,
    ⟨.var 4, 5, none, .mov (.s 0)⟩])
 (.seq (.region false [
    ⟨.push, 18, none, .mov (.v 4)⟩,
    ⟨.push, 19, none, .mov (.v 3)⟩,
    ⟨.push, 20, none, .call 46 [(.s 1), (.s 0)]⟩,
    ⟨.var 4, 5, none, .mov (.s 0)⟩])
 (.seq (.region false [
    ⟨.push, 21, none, .mov (.v 4)⟩,
    ⟨.push, 22, none, .mov (.v 0)⟩,
    ⟨.push, 23, none, .len false (.s 0)⟩,
    ⟨.push, 24, none, .call 47 [(.s 0)]⟩,
    ⟨.push, 25, none, .app 1 1 (.int .u8 (0)) (.s 3) (.s 0)⟩,
    ⟨.var 4, 5, none, .mov (.s 0)⟩])
 (.seq (.region false [
    ⟨.var 5, 6, none, .mov (.c (.int .i64 (0)))⟩])
 (.seq (.region false [
    ⟨.var 6, 7, none, .mov (.c (.int .i64 (0)))⟩])
 (.seq (.seq (.region false [
     ⟨.var 7, 8, none, .mov (.c (.int .i64 (0)))⟩])
  (.block 0 (.loop ir20_k0 ir20_o0 ir20_r0 ir20_b0)))
 (.seq (.region false [
    ⟨.push, 92, none, .mov (.v 4)⟩,
    ⟨.push, 93, none, .call 50 [(.s 0)]⟩,
    ⟨.var 1, 2, none, .mov (.s 0)⟩])
 (.ret))))))))))), [.t 1]⟩
noncomputable def t_spec_l25Estimates : List (Nat × Ctr) := [(45, c_spec_l25Names), (46, c_spec_l25PutNames), (47, c_spec_l25Number), (48, c_spec_l25Find), (49, c_spec_l25Fold), (50, c_spec_l25Close)]
theorem lk_spec_l25Estimates_45 : look t_spec_l25Estimates 45 = some c_spec_l25Names := rfl
theorem lk_spec_l25Estimates_46 : look t_spec_l25Estimates 46 = some c_spec_l25PutNames := rfl
theorem lk_spec_l25Estimates_47 : look t_spec_l25Estimates 47 = some c_spec_l25Number := rfl
theorem lk_spec_l25Estimates_48 : look t_spec_l25Estimates 48 = some c_spec_l25Find := rfl
theorem lk_spec_l25Estimates_49 : look t_spec_l25Estimates 49 = some c_spec_l25Fold := rfl
theorem lk_spec_l25Estimates_50 : look t_spec_l25Estimates 50 = some c_spec_l25Close := rfl
noncomputable def c_spec_l25Estimates : Ctr := mkF t_spec_l25Estimates ir20 [.bor]
theorem s_spec_l25Estimates : Sound Try.prog 20 c_spec_l25Estimates := mkF_sound _ rfl (snd_cons s_spec_l25Names (snd_cons s_spec_l25PutNames (snd_cons s_spec_l25Number (snd_cons s_spec_l25Find (snd_cons s_spec_l25Fold (snd_cons s_spec_l25Close snd_nil)))))) (by kernel_rfl : chkFn Try.prog 20 ir20 ir20_v = true)
theorem M_spec_l25Estimates : c_spec_l25Estimates.modes = [.bor] := rfl
theorem Fl_spec_l25Estimates : c_spec_l25Estimates.flat = true := rfl
attribute [go_sem] M_spec_l25Estimates Fl_spec_l25Estimates
attribute [go_sem] lk_spec_l25Estimates_45 lk_spec_l25Estimates_46 lk_spec_l25Estimates_47 lk_spec_l25Estimates_48 lk_spec_l25Estimates_49 lk_spec_l25Estimates_50
def E_spec_l25Estimates_l1 (list : List Estimate) (stars : List (List UInt8)) (people : List (List UInt8)) : ((List UInt8) × Int × Int × Int) → St
  | (out, time, mag, i) => ⟨[.sl 5 (List.map Estimate_av list), .any, .sl 1 (List.map AV.str stars), .sl 1 (List.map AV.str people), .own 3200000, .int .i64 time, .int .i64 mag, .int .i64 i, .any], [], [(3200000, ⟨1, List.map byteAV out⟩)], true⟩
def R_spec_l25Estimates_l1 (list : List Estimate) (stars : List (List UInt8)) (people : List (List UInt8)) (y : (List UInt8)) : Res := (.exit 0, ⟨[.any, .any, .any, .any, .own 3200000, .any, .any, .any, .any], [], [(3200000, ⟨1, List.map byteAV y⟩)], true⟩)
theorem spec_l25Estimates_l1_ex {list : List Estimate} {stars : List (List UInt8)} {people : List (List UInt8)} {sgm_ : (List UInt8) × Int × Int × Int} {rho_ : (List UInt8)} (h : whileE (spec_l25Estimates_l1 list stars people) sgm_ = some rho_) : ∃ L0, ∀ L, L0 ≤ L → iter (exec (look t_spec_l25Estimates) L ir20_b0) ir20_k0 ir20_o0 ir20_r0 L (E_spec_l25Estimates_l1 list stars people sgm_) = R_spec_l25Estimates_l1 list stars people rho_ := by
  refine loop_ex (E := E_spec_l25Estimates_l1 list stars people) (R := R_spec_l25Estimates_l1 list stars people) (fun y => by first | (intro c; cases c) | (rcases y with y | y <;> (intro c; cases c)) | (rcases y with y | y | y <;> (intro c; cases c))) ?_ h
  clear h
  rintro ⟨out, time, mag, i⟩ o_ h
  dsimp only [spec_l25Estimates_l1] at h
  rcases it_some h with ⟨hk7, h⟩ | ⟨hk7, h⟩
  · try simp only [go_sem, n1, n2, n3, n4] at hk7
    all_goals
    obtain ⟨hk8, h⟩ := ck_some h
    have lhk8 := ix_lt hk8
    have xhk8 := getD_mapD Estimate_av list lhk8
    try simp only [go_sem] at lhk8
    try simp only [go_sem] at xhk8
    try simp only [go_sem, n1, n2, n3, n4, hk7] at hk8
    all_goals
    obtain ⟨y_9, hk9, h⟩ := bd_some h
    have fhk9 := Fs_spec_l25Number hk9
    try simp only [go_sem, hk7, hk8] at fhk9
    obtain ⟨hk10, h⟩ := ck_some h
    try simp only [go_sem, n1, n2, n3, n4, hk7, hk8] at hk10
    all_goals
    obtain ⟨y_11, hk11, h⟩ := bd_some h
    have fhk11 := Fs_spec_l25Find hk11
    try simp only [go_sem, hk7, hk8, hk10] at fhk11
    obtain ⟨y_12, hk12, h⟩ := bd_some h
    have fhk12 := Fs_spec_l25Number hk12
    try simp only [go_sem, hk7, hk8, hk10] at fhk12
    obtain ⟨hk13, h⟩ := ck_some h
    try simp only [go_sem, n1, n2, n3, n4, hk7, hk8, hk10] at hk13
    all_goals
    obtain ⟨y_14, hk14, h⟩ := bd_some h
    have fhk14 := Fs_spec_l25Find hk14
    try simp only [go_sem, hk7, hk8, hk10, hk13] at fhk14
    rcases it_some h with ⟨hk15, h⟩ | ⟨hk15, h⟩
    · try simp only [go_sem, n1, n2, n3, n4, hk7, hk8, hk10, hk13] at hk15
      all_goals
      obtain ⟨y_16, hk16, h⟩ := bd_some h
      have fhk16 := Fs_spec_l25Number hk16
      try simp only [go_sem, hk7, hk8, hk10, hk13, hk15] at fhk16
      obtain ⟨hk17, h⟩ := ck_some h
      try simp only [go_sem, n1, n2, n3, n4, hk7, hk8, hk10, hk13, hk15] at hk17
      all_goals
      obtain ⟨y_18, hk18, h⟩ := bd_some h
      have fhk18 := Fs_spec_l25Fold hk18
      try simp only [go_sem, hk7, hk8, hk10, hk13, hk15, hk17] at fhk18
      obtain ⟨y_19, hk19, h⟩ := bd_some h
      have fhk19 := Fs_spec_l25Number hk19
      try simp only [go_sem, hk7, hk8, hk10, hk13, hk15, hk17] at fhk19
      obtain ⟨hk20, h⟩ := ck_some h
      try simp only [go_sem, n1, n2, n3, n4, hk7, hk8, hk10, hk13, hk15, hk17] at hk20
      all_goals
      obtain rfl := so_some h
      refine ⟨0, fun L hL => ?_⟩
      simp only [go_sem, ir20, E_spec_l25Estimates_l1, R_spec_l25Estimates_l1, ir20_b0, ir20_k0, ir20_o0, ir20_r0, hk7, hk8, lhk8, xhk8, fhk9, hk10, fhk11, fhk12, hk13, fhk14, hk15, fhk16, hk17, fhk18, fhk19, hk20]
    · try simp only [go_sem, n1, n2, n3, n4, hk7, hk8, hk10, hk13] at hk15
      all_goals
      obtain ⟨y_21, hk21, h⟩ := bd_some h
      have fhk21 := Fs_spec_l25Number hk21
      try simp only [go_sem, hk7, hk8, hk10, hk13, hk15] at fhk21
      obtain ⟨hk22, h⟩ := ck_some h
      try simp only [go_sem, n1, n2, n3, n4, hk7, hk8, hk10, hk13, hk15] at hk22
      all_goals
      obtain ⟨y_23, hk23, h⟩ := bd_some h
      have fhk23 := Fs_spec_l25Fold hk23
      try simp only [go_sem, hk7, hk8, hk10, hk13, hk15, hk22] at fhk23
      obtain ⟨y_24, hk24, h⟩ := bd_some h
      have fhk24 := Fs_spec_l25Number hk24
      try simp only [go_sem, hk7, hk8, hk10, hk13, hk15, hk22] at fhk24
      obtain ⟨hk25, h⟩ := ck_some h
      try simp only [go_sem, n1, n2, n3, n4, hk7, hk8, hk10, hk13, hk15, hk22] at hk25
      all_goals
      obtain rfl := so_some h
      refine ⟨0, fun L hL => ?_⟩
      simp only [go_sem, ir20, E_spec_l25Estimates_l1, R_spec_l25Estimates_l1, ir20_b0, ir20_k0, ir20_o0, ir20_r0, hk7, hk8, lhk8, xhk8, fhk9, hk10, fhk11, fhk12, hk13, fhk14, hk15, fhk21, hk22, fhk23, fhk24, hk25]
  · try simp only [go_sem, n1, n2, n3, n4] at hk7
    all_goals
    obtain rfl := so_some h
    refine ⟨0, fun L hL => ?_⟩
    simp only [go_sem, ir20, E_spec_l25Estimates_l1, R_spec_l25Estimates_l1, ir20_b0, ir20_k0, ir20_o0, ir20_r0, hk7]

theorem Fs_spec_l25Estimates {list : List Estimate} {y_ : (List UInt8)} (h : spec_l25Estimates list = some y_) : c_spec_l25Estimates.F [.sl 5 (List.map Estimate_av list)] = ⟨true, .fresh 1 (List.map byteAV y_), [.any]⟩ := by
  refine mkF_E (by simp only [flatA, flatB, flat1, List.all_cons, List.all_nil, Bool.and_self, flatE_map (f := byteAV) (fun _ => rfl)]) ?_
  dsimp only [spec_l25Estimates] at h
  obtain ⟨y_1, hk1, h⟩ := bd_some h
  have fhk1 := Fs_spec_l25Names hk1
  try simp only [go_sem] at fhk1
  obtain ⟨y_2, hk2, h⟩ := bd_some h
  have fhk2 := Fs_spec_l25Names hk2
  try simp only [go_sem] at fhk2
  obtain ⟨y_3, hk3, h⟩ := bd_some h
  have fhk3 := Fs_spec_l25PutNames hk3
  try simp only [go_sem] at fhk3
  obtain ⟨y_4, hk4, h⟩ := bd_some h
  have fhk4 := Fs_spec_l25PutNames hk4
  try simp only [go_sem] at fhk4
  obtain ⟨y_5, hk5, h⟩ := bd_some h
  have fhk5 := Fs_spec_l25Number hk5
  try simp only [go_sem] at fhk5
  obtain ⟨hk6, h⟩ := ck_some h
  try simp only [go_sem, n1, n2, n3, n4] at hk6
  all_goals
  obtain ⟨y_26, hk26, h⟩ := bd_some h
  obtain ⟨Lhk26, ehk26⟩ := spec_l25Estimates_l1_ex hk26
  obtain ⟨y_27, hk27, h⟩ := bd_some h
  have fhk27 := Fs_spec_l25Close hk27
  try simp only [go_sem, hk6] at fhk27
  obtain rfl := so_some h
  refine ⟨Lhk26, fun L hL => ?_⟩
  have ehk26 := ehk26 L (by omega)
  try simp only [go_sem, E_spec_l25Estimates_l1, R_spec_l25Estimates_l1, ir20_k0, ir20_o0, ir20_r0, hk6] at ehk26
  simp only [go_sem, ir20, E_spec_l25Estimates_l1, R_spec_l25Estimates_l1, ir20_k0, ir20_o0, ir20_r0, fhk1, fhk2, fhk3, fhk4, fhk5, hk6, fhk27, ehk26]


def ir14_v : List Nat := [0, 2, 3, 4, 5, 6, 7]
def ir14 : AFn := ⟨1, 7, .seq (.region false [
    ⟨.var 1, 2, none, .newnil 5⟩,
    ⟨.var 2, 3, none, .mov (.c (.int .i64 (0)))⟩])
 (.seq (.region false [
    ⟨.push, 8, none, .mov (.v 0)⟩,
    ⟨.push, 9, none, .call 34 [(.s 0), (.c (.int .i64 (69)))]⟩,
    ⟨.var 3, 4, none, .mov (.s 0)⟩])
 (.seq (.test false [
    ⟨.push, 10, none, .mov (.v 3)⟩,
    ⟨.push, 11, none, .bin false .neq (.s 0) (.c (.int .i64 (0)))⟩] (.s 0)
  (.seq (.region false [
      ⟨.push, 12, none, .mov (.v 3)⟩,
      ⟨.var 1, 2, none, .newnil 5⟩,
      ⟨.var 2, 3, none, .mov (.s 0)⟩])
   (.ret))
  (.skip))
 (.seq (.region false [
    ⟨.push, 13, none, .mov (.v 0)⟩,
    ⟨.push, 14, none, .mov (.v 0)⟩,
    ⟨.push, 15, none, .len false (.s 0)⟩,
    ⟨.push, 16, none, .bin false .sub (.s 0) (.c (.int .i64 (2)))⟩,
    ⟨.push, 17, none, .slice 1 (.s 3) none (some (.s 0))⟩,
    ⟨.push, 18, none, .build [.sl 1 [], .int .i64 (0), .bool false] [(0, 1, (.s 0)), (1, 1, (.c (.int .i64 (1)))), (2, 1, (.c (.bool true)))]⟩,
    ⟨.push, 19, none, .box (.s 0)⟩,
    ⟨.var 4, 5, none, .mov (.s 0)⟩])
 (.seq (.region false [
    ⟨.push, 21, none, .mov (.v 4)⟩,
    ⟨.push, 22, none, .call 35 [(.s 0)]⟩,
    ⟨.push, 20, none, .mov (.s 0)⟩,
    ⟨.push, 23, none, .ext (.s 0) 0⟩,
    ⟨.push, 24, none, .ext (.s 1) 1⟩,
    ⟨.var 5, 6, none, .mov (.s 1)⟩,
    ⟨.var 6, 7, none, .mov (.s 0)⟩])
 (.seq (.anyo 15 [
    ⟨.slot 0, 25, none, .mov (.v 6)⟩,
    ⟨.slot 1, 26, none, .un .not (.s 0)⟩,
    ⟨.slot 2, 27, none, .mov (.s 1)⟩,
    ⟨.slot 3, 28, (some ((.s 2), false)), .mov (.v 5)⟩,
    ⟨.slot 4, 29, (some ((.s 2), false)), .call 19 [(.s 3)]⟩,
    ⟨.slot 5, 30, (some ((.s 2), false)), .un .not (.s 4)⟩,
    ⟨.slot 6, 31, none, .pick (.s 2) (.c (.bool true)) (.s 5)⟩,
    ⟨.slot 7, 32, none, .mov (.s 6)⟩,
    ⟨.slot 8, 33, (some ((.s 7), false)), .mov (.v 5)⟩,
    ⟨.slot 9, 34, (some ((.s 7), false)), .call 20 [(.s 8)]⟩,
    ⟨.slot 10, 35, (some ((.s 7), false)), .b2s (.s 9)⟩,
    ⟨.slot 11, 36, (some ((.s 7), false)), .mov (.v 0)⟩,
    ⟨.slot 12, 37, (some ((.s 7), false)), .b2s (.s 11)⟩,
    ⟨.slot 13, 38, (some ((.s 7), false)), .bin false .neq (.s 10) (.s 12)⟩,
    ⟨.slot 14, 39, none, .pick (.s 7) (.c (.bool true)) (.s 13)⟩] [] (.cond (.s 14)
  (.seq (.region false [
      ⟨.var 1, 2, none, .newnil 5⟩,
      ⟨.var 2, 3, none, .mov (.c (.int .i64 (8)))⟩])
   (.ret))
  (.skip)))
 (.seq (.region false [
    ⟨.push, 40, none, .mov (.v 5)⟩,
    ⟨.var 1, 2, none, .mov (.s 0)⟩,
    ⟨.var 2, 3, none, .mov (.c (.int .i64 (0)))⟩])
 (.ret))))))), [.t 1, .t 2]⟩
noncomputable def t_spec_UnpackEstimates : List (Nat × Ctr) := [(34, c_spec_l25Open), (35, c_spec_l25List), (19, c_spec_l06Ok), (20, c_spec_l25Estimates)]
theorem lk_spec_UnpackEstimates_34 : look t_spec_UnpackEstimates 34 = some c_spec_l25Open := rfl
theorem lk_spec_UnpackEstimates_35 : look t_spec_UnpackEstimates 35 = some c_spec_l25List := rfl
theorem lk_spec_UnpackEstimates_19 : look t_spec_UnpackEstimates 19 = some c_spec_l06Ok := rfl
theorem lk_spec_UnpackEstimates_20 : look t_spec_UnpackEstimates 20 = some c_spec_l25Estimates := rfl
noncomputable def c_spec_UnpackEstimates : Ctr := mkF t_spec_UnpackEstimates ir14 [.bor]
theorem s_spec_UnpackEstimates : Sound Try.prog 14 c_spec_UnpackEstimates := mkF_sound _ rfl (snd_cons s_spec_l25Open (snd_cons s_spec_l25List (snd_cons s_spec_l06Ok (snd_cons s_spec_l25Estimates snd_nil)))) (by kernel_rfl : chkFn Try.prog 14 ir14 ir14_v = true)
theorem M_spec_UnpackEstimates : c_spec_UnpackEstimates.modes = [.bor] := rfl
theorem Fl_spec_UnpackEstimates : c_spec_UnpackEstimates.flat = true := rfl
attribute [go_sem] M_spec_UnpackEstimates Fl_spec_UnpackEstimates
attribute [go_sem] lk_spec_UnpackEstimates_34 lk_spec_UnpackEstimates_35 lk_spec_UnpackEstimates_19 lk_spec_UnpackEstimates_20
theorem Fs_spec_UnpackEstimates {b : List UInt8} {y_ : (List Estimate) × Int} (h : spec_UnpackEstimates b = some y_) : c_spec_UnpackEstimates.F [.sl 1 (List.map byteAV b)] = ⟨true, .tup [.fresh 5 (List.map Estimate_av y_.1), .int .i64 y_.2], [.any]⟩ := by
  refine mkF_E (by simp only [flatA, flatB, flat1, List.all_cons, List.all_nil, Bool.and_self, flatE_map (f := Estimate_av) (fun _ => rfl)]) ?_
  dsimp only [spec_UnpackEstimates] at h
  obtain ⟨y_1, hk1, h⟩ := bd_some h
  have fhk1 := Fs_spec_l25Open hk1
  try simp only [go_sem] at fhk1
  rcases it_some h with ⟨hk2, h⟩ | ⟨hk2, h⟩
  · try simp only [go_sem, n1, n2, n3, n4] at hk2
    all_goals
    obtain rfl := so_some h
    refine ⟨0, fun L hL => ?_⟩
    simp only [go_sem, ir14, fhk1, hk2]
  · try simp only [go_sem, n1, n2, n3, n4] at hk2
    all_goals
    obtain ⟨hk3, h⟩ := ck_some h
    try simp only [go_sem, n1, n2, n3, n4, hk2] at hk3
    all_goals
    obtain ⟨y_4, hk4, h⟩ := bd_some h
    have fhk4 := Fs_spec_l25List hk4
    try simp only [go_sem, hk2, hk3] at fhk4
    obtain ⟨hk5, h⟩ := ck_some h
    rcases or_split hk5 with ⟨ghk5, hk5⟩ | ghk5
    · try simp only [go_sem, n1, n2, n3, n4, hk2, hk3] at ghk5
      all_goals
      obtain ⟨y_5, hhk5⟩ := Option.isSome_iff_exists.1 hk5
      have fhk5 := Fs_spec_l06Ok hhk5
      try simp only [go_sem, hk2, hk3, ghk5] at fhk5
      obtain ⟨hk6, h⟩ := ck_some h
      rcases or_split hk6 with ⟨ghk6, hk6⟩ | ghk6
      · try simp only [go_sem, n1, n2, n3, n4, hk2, hk3, ghk5, hhk5] at ghk6
        all_goals
        obtain ⟨y_6, hhk6⟩ := Option.isSome_iff_exists.1 hk6
        have fhk6 := Fs_spec_l25Estimates hhk6
        try simp only [go_sem, hk2, hk3, ghk5, hhk5, ghk6] at fhk6
        rcases it_some h with ⟨hk7, h⟩ | ⟨hk7, h⟩
        · try simp only [go_sem, n1, n2, n3, n4, hk2, hk3, ghk5, hhk5, ghk6, hhk6] at hk7
          all_goals
          obtain rfl := so_some h
          refine ⟨0, fun L hL => ?_⟩
          simp only [go_sem, ir14, fhk1, hk2, hk3, fhk4, ghk5, hhk5, fhk5, ghk6, hhk6, fhk6, hk7]
        · try simp only [go_sem, n1, n2, n3, n4, hk2, hk3, ghk5, hhk5, ghk6, hhk6] at hk7
          all_goals
          obtain rfl := so_some h
          refine ⟨0, fun L hL => ?_⟩
          simp only [go_sem, ir14, fhk1, hk2, hk3, fhk4, ghk5, hhk5, fhk5, ghk6, hhk6, fhk6, hk7]
      · have ghk6n := no_f ghk6
        rcases or_t ghk6n with ghk6na | ⟨ghk6na, ghk6nb⟩
        · have ghk6nan := no_t ghk6na
          try simp only [go_sem, n1, n2, n3, n4, hk2, hk3, ghk5, hhk5] at ghk6nan
          all_goals
          rcases it_some h with ⟨hk7, h⟩ | ⟨hk7, h⟩
          · try simp only [go_sem, n1, n2, n3, n4, hk2, hk3, ghk5, hhk5, ghk6nan] at hk7
            all_goals
            obtain rfl := so_some h
            refine ⟨0, fun L hL => ?_⟩
            simp only [go_sem, ir14, fhk1, hk2, hk3, fhk4, ghk5, hhk5, fhk5, ghk6nan, hk7]
          · try simp only [go_sem, n1, n2, n3, n4, hk2, hk3, ghk5, hhk5, ghk6nan] at hk7
            all_goals
            obtain rfl := so_some h
            refine ⟨0, fun L hL => ?_⟩
            simp only [go_sem, ir14, fhk1, hk2, hk3, fhk4, ghk5, hhk5, fhk5, ghk6nan, hk7]
        · have ghk6nan := no_f ghk6na
          have ghk6nbn := no_t ghk6nb
          try simp only [go_sem, n1, n2, n3, n4, hk2, hk3, ghk5, hhk5] at ghk6nan
          all_goals
          try simp only [go_sem, n1, n2, n3, n4, hk2, hk3, ghk5, hhk5, ghk6nan] at ghk6nbn
          all_goals
          rcases it_some h with ⟨hk7, h⟩ | ⟨hk7, h⟩
          · try simp only [go_sem, n1, n2, n3, n4, hk2, hk3, ghk5, hhk5, ghk6nan, ghk6nbn] at hk7
            all_goals
            obtain rfl := so_some h
            refine ⟨0, fun L hL => ?_⟩
            simp only [go_sem, ir14, fhk1, hk2, hk3, fhk4, ghk5, hhk5, fhk5, ghk6nan, ghk6nbn, hk7]
          · try simp only [go_sem, n1, n2, n3, n4, hk2, hk3, ghk5, hhk5, ghk6nan, ghk6nbn] at hk7
            all_goals
            obtain rfl := so_some h
            refine ⟨0, fun L hL => ?_⟩
            simp only [go_sem, ir14, fhk1, hk2, hk3, fhk4, ghk5, hhk5, fhk5, ghk6nan, ghk6nbn, hk7]
    · have ghk5n := no_f ghk5
      have ghk5nn := no_t ghk5n
      try simp only [go_sem, n1, n2, n3, n4, hk2, hk3] at ghk5nn
      all_goals
      obtain ⟨hk6, h⟩ := ck_some h
      rcases or_split hk6 with ⟨ghk6, hk6⟩ | ghk6
      · try simp only [go_sem, n1, n2, n3, n4, hk2, hk3, ghk5nn] at ghk6
        all_goals
        obtain ⟨y_6, hhk6⟩ := Option.isSome_iff_exists.1 hk6
        have fhk6 := Fs_spec_l25Estimates hhk6
        try simp only [go_sem, hk2, hk3, ghk5nn, ghk6] at fhk6
        rcases it_some h with ⟨hk7, h⟩ | ⟨hk7, h⟩
        · try simp only [go_sem, n1, n2, n3, n4, hk2, hk3, ghk5nn, ghk6, hhk6] at hk7
          all_goals
          obtain rfl := so_some h
          refine ⟨0, fun L hL => ?_⟩
          simp only [go_sem, ir14, fhk1, hk2, hk3, fhk4, ghk5nn, ghk6, hhk6, fhk6, hk7]
        · try simp only [go_sem, n1, n2, n3, n4, hk2, hk3, ghk5nn, ghk6, hhk6] at hk7
          all_goals
          obtain rfl := so_some h
          refine ⟨0, fun L hL => ?_⟩
          simp only [go_sem, ir14, fhk1, hk2, hk3, fhk4, ghk5nn, ghk6, hhk6, fhk6, hk7]
      · have ghk6n := no_f ghk6
        rcases or_t ghk6n with ghk6na | ⟨ghk6na, ghk6nb⟩
        · have ghk6nan := no_t ghk6na
          try simp only [go_sem, n1, n2, n3, n4, hk2, hk3, ghk5nn] at ghk6nan
          all_goals
          rcases it_some h with ⟨hk7, h⟩ | ⟨hk7, h⟩
          · try simp only [go_sem, n1, n2, n3, n4, hk2, hk3, ghk5nn, ghk6nan] at hk7
            all_goals
            obtain rfl := so_some h
            refine ⟨0, fun L hL => ?_⟩
            simp only [go_sem, ir14, fhk1, hk2, hk3, fhk4, ghk5nn, ghk6nan, hk7]
          · try simp only [go_sem, n1, n2, n3, n4, hk2, hk3, ghk5nn, ghk6nan] at hk7
            all_goals
            obtain rfl := so_some h
            refine ⟨0, fun L hL => ?_⟩
            simp only [go_sem, ir14, fhk1, hk2, hk3, fhk4, ghk5nn, ghk6nan, hk7]
        · have ghk6nan := no_f ghk6na
          have ghk6nbn := no_t ghk6nb
          try simp only [go_sem, n1, n2, n3, n4, hk2, hk3, ghk5nn] at ghk6nan
          all_goals
          try simp only [go_sem, n1, n2, n3, n4, hk2, hk3, ghk5nn, ghk6nan] at ghk6nbn
          all_goals
          rcases it_some h with ⟨hk7, h⟩ | ⟨hk7, h⟩
          · try simp only [go_sem, n1, n2, n3, n4, hk2, hk3, ghk5nn, ghk6nan, ghk6nbn] at hk7
            all_goals
            obtain rfl := so_some h
            refine ⟨0, fun L hL => ?_⟩
            simp only [go_sem, ir14, fhk1, hk2, hk3, fhk4, ghk5nn, ghk6nan, ghk6nbn, hk7]
          · try simp only [go_sem, n1, n2, n3, n4, hk2, hk3, ghk5nn, ghk6nan, ghk6nbn] at hk7
            all_goals
            obtain rfl := so_some h
            refine ⟨0, fun L hL => ?_⟩
            simp only [go_sem, ir14, fhk1, hk2, hk3, fhk4, ghk5nn, ghk6nan, ghk6nbn, hk7]


def ir57_b0 : IR := .seq (.region false [
    ⟨.var 8, 10, none, .bin false .lss (.v 7) (.v 6)⟩])
 (.seq (.cond (.v 8) (.skip)
  (.exit 0))
 (.seq (.block 1 (.seq (.region false [
      ⟨.push, 11, none, .ixAddr 1 (.v 5) (.v 7)⟩,
      ⟨.push, 12, none, .load false 1 (.s 0)⟩,
      ⟨.var 4, 6, none, .mov (.s 0)⟩])
   (.seq (.region false [
      ⟨.push, 13, none, .mov (.v 2)⟩,
      ⟨.push, 14, none, .mov (.v 4)⟩,
      ⟨.push, 15, none, .conv .i64 (.s 0)⟩,
      ⟨.push, 16, none, .bin false .add (.s 2) (.s 0)⟩,
      ⟨.push, 17, none, .bin false .rem (.s 0) (.c (.int .i64 (251)))⟩,
      ⟨.var 2, 3, none, .mov (.s 0)⟩])
   (.region false [
     ⟨.push, 18, none, .mov (.v 3)⟩,
     ⟨.push, 19, none, .mov (.v 2)⟩,
     ⟨.push, 20, none, .bin false .add (.s 1) (.s 0)⟩,
     ⟨.push, 21, none, .bin false .rem (.s 0) (.c (.int .i64 (251)))⟩,
     ⟨.var 3, 4, none, .mov (.s 0)⟩]))))
 (.region false [
   ⟨.push, 22, none, .bin false .add (.v 7) (.c (.int .i64 (1)))⟩,
   ⟨.var 7, 9, none, .mov (.s 0)⟩])))
def ir57_k0 : List Bool := [false, false, true, true, false, true, true, true, false]
def ir57_o0 : List Bool := [false, false, true, true, false, false, false, false, false]
def ir57_r0 : List Bool := [false, true, false, false, false, false, false, false, false]
def ir57_v : List Nat := [0, 2, 3, 4, 6, 7, 8, 9, 10]
def ir57 : AFn := ⟨1, 9, .seq (.region false [
    ⟨.var 1, 2, none, .mov (.c (.int .i64 (0)))⟩])
 (.seq (.region false [
    ⟨.var 2, 3, none, .mov (.c (.int .i64 (1)))⟩,
    ⟨.var 3, 4, none, .mov (.c (.int .i64 (0)))⟩])
 (.seq (.seq (.region false [
     ⟨.var 5, 7, none, .mov (.v 0)⟩,
     ⟨.var 6, 8, none, .len false (.v 5)⟩,
     ⟨.var 7, 9, none, .mov (.c (.int .i64 (0)))⟩])
  (.block 0 (.loop ir57_k0 ir57_o0 ir57_r0 ir57_b0)))
 (.seq (.region false [
    ⟨.push, 23, none, .mov (.v 3)⟩,
    ⟨.push, 24, none, .bin false .mul (.c (.int .i64 (251))) (.s 0)⟩,
    ⟨.push, 25, none, .mov (.v 2)⟩,
    ⟨.push, 26, none, .bin false .add (.s 1) (.s 0)⟩,
    ⟨.var 1, 2, none, .mov (.s 0)⟩])
 (.ret)))), [.t 1]⟩
noncomputable def t_impl_SumOfBytes : List (Nat × Ctr) := []
noncomputable def c_impl_SumOfBytes : Ctr := mkF t_impl_SumOfBytes ir57 [.bor]
theorem s_impl_SumOfBytes : Sound Try.prog 57 c_impl_SumOfBytes := mkF_sound _ rfl snd_nil (by kernel_rfl : chkFn Try.prog 57 ir57 ir57_v = true)
theorem M_impl_SumOfBytes : c_impl_SumOfBytes.modes = [.bor] := rfl
theorem Fl_impl_SumOfBytes : c_impl_SumOfBytes.flat = true := rfl
attribute [go_sem] M_impl_SumOfBytes Fl_impl_SumOfBytes
def E_impl_SumOfBytes_l1 (t7 : List UInt8) (t8 : Int) : (Int × Int × Int) → St
  | (s_, t, t9) => ⟨[.any, .any, .int .i64 s_, .int .i64 t, .any, .sl 1 (List.map byteAV t7), .int .i64 t8, .int .i64 t9, .any], [], [], true⟩
def R_impl_SumOfBytes_l1 (t7 : List UInt8) (t8 : Int) (y : Int × Int) : Res := (.exit 0, ⟨[.any, .any, .int .i64 y.1, .int .i64 y.2, .any, .any, .any, .any, .any], [], [], true⟩)
theorem impl_SumOfBytes_l1_ex {t7 : List UInt8} {t8 : Int} {sgm_ : Int × Int × Int} {rho_ : Int × Int} (h : whileE (impl_SumOfBytes_l1 t7 t8) sgm_ = some rho_) : ∃ L0, ∀ L, L0 ≤ L → iter (exec (look t_impl_SumOfBytes) L ir57_b0) ir57_k0 ir57_o0 ir57_r0 L (E_impl_SumOfBytes_l1 t7 t8 sgm_) = R_impl_SumOfBytes_l1 t7 t8 rho_ := by
  refine loop_ex (E := E_impl_SumOfBytes_l1 t7 t8) (R := R_impl_SumOfBytes_l1 t7 t8) (fun y => by first | (intro c; cases c) | (rcases y with y | y <;> (intro c; cases c)) | (rcases y with y | y | y <;> (intro c; cases c))) ?_ h
  clear h
  rintro ⟨s_, t, t9⟩ o_ h
  dsimp only [impl_SumOfBytes_l1] at h
  rcases it_some h with ⟨hk1, h⟩ | ⟨hk1, h⟩
  · try simp only [go_sem, n1, n2, n3, n4] at hk1
    all_goals
    obtain ⟨hk2, h⟩ := ck_some h
    have lhk2 := ix_lt hk2
    have xhk2 := getD_mapD byteAV t7 lhk2
    try simp only [go_sem] at lhk2
    try simp only [go_sem] at xhk2
    try simp only [go_sem, n1, n2, n3, n4, hk1] at hk2
    all_goals
    obtain ⟨hk3, h⟩ := ck_some h
    try simp only [go_sem, n1, n2, n3, n4, hk1, hk2] at hk3
    all_goals
    obtain rfl := so_some h
    refine ⟨0, fun L hL => ?_⟩
    simp only [go_sem, ir57, E_impl_SumOfBytes_l1, R_impl_SumOfBytes_l1, ir57_b0, ir57_k0, ir57_o0, ir57_r0, hk1, hk2, lhk2, xhk2, hk3]
  · try simp only [go_sem, n1, n2, n3, n4] at hk1
    all_goals
    obtain rfl := so_some h
    refine ⟨0, fun L hL => ?_⟩
    simp only [go_sem, ir57, E_impl_SumOfBytes_l1, R_impl_SumOfBytes_l1, ir57_b0, ir57_k0, ir57_o0, ir57_r0, hk1]

theorem Fs_impl_SumOfBytes {b : List UInt8} {y_ : Int} (h : impl_SumOfBytes b = some y_) : c_impl_SumOfBytes.F [.sl 1 (List.map byteAV b)] = ⟨true, .int .i64 y_, [.any]⟩ := by
  refine mkF_E rfl ?_
  dsimp only [impl_SumOfBytes] at h
  obtain ⟨y_4, hk4, h⟩ := bd_some h
  obtain ⟨Lhk4, ehk4⟩ := impl_SumOfBytes_l1_ex hk4
  obtain rfl := so_some h
  refine ⟨Lhk4, fun L hL => ?_⟩
  have ehk4 := ehk4 L (by omega)
  try simp only [go_sem, E_impl_SumOfBytes_l1, R_impl_SumOfBytes_l1, ir57_k0, ir57_o0, ir57_r0] at ehk4
  simp only [go_sem, ir57, E_impl_SumOfBytes_l1, R_impl_SumOfBytes_l1, ir57_k0, ir57_o0, ir57_r0, ehk4]


def ir37_v : List Nat := [0, 2]
def ir37 : AFn := ⟨1, 2, .seq (.region false [
    ⟨.var 1, 2, none, .mov (.c (.bool false))⟩])
 (.seq (.region false [
    ⟨.push, 3, none, .mov (.v 0)⟩,
    ⟨.push, 4, none, .bin false .eql (.s 0) (.c (.int .u8 (69)))⟩,
    ⟨.var 1, 2, none, .mov (.s 0)⟩])
 (.ret)), [.t 1]⟩
noncomputable def t_impl_UnpackEstimates_c1 : List (Nat × Ctr) := []
noncomputable def c_impl_UnpackEstimates_c1 : Ctr := mkF t_impl_UnpackEstimates_c1 ir37 [.bor]
theorem s_impl_UnpackEstimates_c1 : Sound Try.prog 37 c_impl_UnpackEstimates_c1 := mkF_sound _ rfl snd_nil (by kernel_rfl : chkFn Try.prog 37 ir37 ir37_v = true)
theorem M_impl_UnpackEstimates_c1 : c_impl_UnpackEstimates_c1.modes = [.bor] := rfl
theorem Fl_impl_UnpackEstimates_c1 : c_impl_UnpackEstimates_c1.flat = true := rfl
attribute [go_sem] M_impl_UnpackEstimates_c1 Fl_impl_UnpackEstimates_c1
theorem Fs_impl_UnpackEstimates_c1 {kind : UInt8} {y_ : Bool} (h : impl_UnpackEstimates_c1 kind = some y_) : c_impl_UnpackEstimates_c1.F [.int .u8 (kind.toNat : Int)] = ⟨true, .bool y_, [.any]⟩ := by
  refine mkF_E rfl ?_
  dsimp only [impl_UnpackEstimates_c1] at h
  obtain rfl := so_some h
  refine ⟨0, fun L hL => ?_⟩
  simp only [go_sem, ir37]


def ir36_v : List Nat := [0, 1, 4, 5]
def ir36 : AFn := ⟨2, 4, .seq (.region false [
    ⟨.var 2, 4, none, .mov (.c (.int .i64 (0)))⟩])
 (.seq (.test false [
    ⟨.push, 6, none, .mov (.v 0)⟩,
    ⟨.push, 7, none, .len false (.s 0)⟩,
    ⟨.push, 8, none, .bin false .lss (.s 0) (.c (.int .i64 (3)))⟩,
    ⟨.push, 9, none, .mov (.s 0)⟩,
    ⟨.push, 10, (some ((.s 0), false)), .mov (.v 0)⟩,
    ⟨.push, 11, (some ((.s 1), false)), .len false (.s 0)⟩,
    ⟨.push, 12, (some ((.s 2), false)), .bin false .gtr (.s 0) (.c (.int .i64 (8000)))⟩,
    ⟨.push, 13, none, .pick (.s 3) (.c (.bool true)) (.s 0)⟩,
    ⟨.push, 14, none, .mov (.s 0)⟩,
    ⟨.push, 15, (some ((.s 0), false)), .mov (.v 1)⟩,
    ⟨.push, 16, (some ((.s 1), false)), .mov (.v 0)⟩,
    ⟨.push, 17, (some ((.s 2), false)), .ixAddr 1 (.s 0) (.c (.int .i64 (0)))⟩,
    ⟨.push, 18, (some ((.s 3), false)), .load false 1 (.s 0)⟩,
    ⟨.push, 19, (some ((.s 4), false)), .callv (.s 3) [(.s 0)]⟩,
    ⟨.push, 20, (some ((.s 5), false)), .un .not (.s 0)⟩,
    ⟨.push, 21, none, .pick (.s 6) (.c (.bool true)) (.s 0)⟩] (.s 0)
  (.seq (.region false [
      ⟨.var 2, 4, none, .mov (.c (.int .i64 (8)))⟩])
   (.ret))
  (.skip))
 (.seq (.seq (.region false [
     ⟨.push, 22, none, .mov (.v 0)⟩,
     ⟨.push, 23, none, .len false (.s 0)⟩,
     ⟨.push, 24, none, .bin false .sub (.s 0) (.c (.int .i64 (2)))⟩,
     ⟨.var 3, 5, none, .mov (.s 0)⟩])
  (.anyo 18 [
    ⟨.slot 0, 25, none, .mov (.v 0)⟩,
    ⟨.slot 1, 26, none, .mov (.v 3)⟩,
    ⟨.slot 2, 27, none, .pur (.slice 1 (.s 0) none (some (.s 1)))⟩,
    ⟨.slot 3, 28, none, .callp 57 [(.s 2)]⟩,
    ⟨.slot 4, 29, none, .mov (.v 0)⟩,
    ⟨.slot 5, 30, none, .mov (.v 3)⟩,
    ⟨.slot 6, 31, none, .ixAddr 1 (.s 4) (.s 5)⟩,
    ⟨.slot 7, 32, none, .load false 1 (.s 6)⟩,
    ⟨.slot 8, 33, none, .conv .i64 (.s 7)⟩,
    ⟨.slot 9, 34, none, .bin false .mul (.s 8) (.c (.int .i64 (256)))⟩,
    ⟨.slot 10, 35, none, .mov (.v 0)⟩,
    ⟨.slot 11, 36, none, .mov (.v 3)⟩,
    ⟨.slot 12, 37, none, .bin false .add (.s 11) (.c (.int .i64 (1)))⟩,
    ⟨.slot 13, 38, none, .ixAddr 1 (.s 10) (.s 12)⟩,
    ⟨.slot 14, 39, none, .load false 1 (.s 13)⟩,
    ⟨.slot 15, 40, none, .conv .i64 (.s 14)⟩,
    ⟨.slot 16, 41, none, .bin false .add (.s 9) (.s 15)⟩,
    ⟨.slot 17, 42, none, .bin false .neq (.s 3) (.s 16)⟩] [] (.cond (.s 17)
  (.seq (.region false [
      ⟨.var 2, 4, none, .mov (.c (.int .i64 (9)))⟩])
   (.ret))
  (.skip))))
 (.seq (.region false [
    ⟨.var 2, 4, none, .mov (.c (.int .i64 (0)))⟩])
 (.ret)))), [.t 2]⟩
noncomputable def t_impl_checkPacked__impl_UnpackEstimates_c1 : List (Nat × Ctr) := [(37, c_impl_UnpackEstimates_c1), (57, c_impl_SumOfBytes)]
theorem lk_impl_checkPacked__impl_UnpackEstimates_c1_37 : look t_impl_checkPacked__impl_UnpackEstimates_c1 37 = some c_impl_UnpackEstimates_c1 := rfl
theorem lk_impl_checkPacked__impl_UnpackEstimates_c1_57 : look t_impl_checkPacked__impl_UnpackEstimates_c1 57 = some c_impl_SumOfBytes := rfl
noncomputable def c_impl_checkPacked__impl_UnpackEstimates_c1 : Ctr := mkF t_impl_checkPacked__impl_UnpackEstimates_c1 ir36 [.bor, .bor]
theorem s_impl_checkPacked__impl_UnpackEstimates_c1 : Sound Try.prog 36 c_impl_checkPacked__impl_UnpackEstimates_c1 := mkF_sound _ rfl (snd_cons s_impl_UnpackEstimates_c1 (snd_cons s_impl_SumOfBytes snd_nil)) (by kernel_rfl : chkFn Try.prog 36 ir36 ir36_v = true)
theorem M_impl_checkPacked__impl_UnpackEstimates_c1 : c_impl_checkPacked__impl_UnpackEstimates_c1.modes = [.bor, .bor] := rfl
theorem Fl_impl_checkPacked__impl_UnpackEstimates_c1 : c_impl_checkPacked__impl_UnpackEstimates_c1.flat = true := rfl
attribute [go_sem] M_impl_checkPacked__impl_UnpackEstimates_c1 Fl_impl_checkPacked__impl_UnpackEstimates_c1
attribute [go_sem] lk_impl_checkPacked__impl_UnpackEstimates_c1_37 lk_impl_checkPacked__impl_UnpackEstimates_c1_57
theorem Fs_impl_checkPacked__impl_UnpackEstimates_c1 {b : List UInt8} {y_ : Int} (h : impl_checkPacked__impl_UnpackEstimates_c1 b = some y_) : c_impl_checkPacked__impl_UnpackEstimates_c1.F [.sl 1 (List.map byteAV b), .fn (.func 37) [] []] = ⟨true, .int .i64 y_, [.any, .any]⟩ := by
  refine mkF_E rfl ?_
  dsimp only [impl_checkPacked__impl_UnpackEstimates_c1] at h
  obtain ⟨hk1, h⟩ := ck_some h
  rcases or_split hk1 with ⟨ghk1, hk1⟩ | ghk1
  · try simp only [go_sem, n1, n2, n3, n4] at ghk1
    all_goals
    have lhk1 := ix_lt hk1
    have xhk1 := getD_mapD byteAV b lhk1
    try simp only [go_sem] at lhk1
    try simp only [go_sem] at xhk1
    try simp only [go_sem, n1, n2, n3, n4, ghk1] at hk1
    all_goals
    obtain ⟨hk2, h⟩ := ck_some h
    rcases or_split hk2 with ⟨ghk2, hk2⟩ | ghk2
    · try simp only [go_sem, n1, n2, n3, n4, ghk1, hk1] at ghk2
      all_goals
      obtain ⟨y_2, hhk2⟩ := Option.isSome_iff_exists.1 hk2
      have fhk2 := Fs_impl_UnpackEstimates_c1 hhk2
      try simp only [go_sem, ghk1, hk1, ghk2] at fhk2
      rcases it_some h with ⟨hk3, h⟩ | ⟨hk3, h⟩
      · try simp only [go_sem, n1, n2, n3, n4, ghk1, hk1, ghk2, hhk2] at hk3
        all_goals
        obtain rfl := so_some h
        refine ⟨0, fun L hL => ?_⟩
        simp only [go_sem, ir36, ghk1, hk1, lhk1, xhk1, ghk2, hhk2, fhk2, hk3]
      · try simp only [go_sem, n1, n2, n3, n4, ghk1, hk1, ghk2, hhk2] at hk3
        all_goals
        obtain ⟨hk4, h⟩ := ck_some h
        try simp only [go_sem, n1, n2, n3, n4, ghk1, hk1, ghk2, hhk2, hk3] at hk4
        all_goals
        obtain ⟨y_5, hk5, h⟩ := bd_some h
        have fhk5 := Fs_impl_SumOfBytes hk5
        try simp only [go_sem, ghk1, hk1, ghk2, hhk2, hk3, hk4] at fhk5
        obtain ⟨hk6, h⟩ := ck_some h
        have lhk6 := ix_lt hk6
        have xhk6 := getD_mapD byteAV b lhk6
        try simp only [go_sem] at lhk6
        try simp only [go_sem] at xhk6
        try simp only [go_sem, n1, n2, n3, n4, ghk1, hk1, ghk2, hhk2, hk3, hk4] at hk6
        all_goals
        obtain ⟨hk7, h⟩ := ck_some h
        have lhk7 := ix_lt hk7
        have xhk7 := getD_mapD byteAV b lhk7
        try simp only [go_sem] at lhk7
        try simp only [go_sem] at xhk7
        try simp only [go_sem, n1, n2, n3, n4, ghk1, hk1, ghk2, hhk2, hk3, hk4, hk6] at hk7
        all_goals
        rcases it_some h with ⟨hk8, h⟩ | ⟨hk8, h⟩
        · try simp only [go_sem, n1, n2, n3, n4, ghk1, hk1, ghk2, hhk2, hk3, hk4, hk6, hk7] at hk8
          all_goals
          obtain rfl := so_some h
          refine ⟨0, fun L hL => ?_⟩
          simp only [go_sem, ir36, ghk1, hk1, lhk1, xhk1, ghk2, hhk2, fhk2, hk3, hk4, fhk5, hk6, lhk6, xhk6, hk7, lhk7, xhk7, hk8]
        · try simp only [go_sem, n1, n2, n3, n4, ghk1, hk1, ghk2, hhk2, hk3, hk4, hk6, hk7] at hk8
          all_goals
          obtain rfl := so_some h
          refine ⟨0, fun L hL => ?_⟩
          simp only [go_sem, ir36, ghk1, hk1, lhk1, xhk1, ghk2, hhk2, fhk2, hk3, hk4, fhk5, hk6, lhk6, xhk6, hk7, lhk7, xhk7, hk8]
    · have ghk2n := no_f ghk2
      rcases or_t ghk2n with ghk2na | ⟨ghk2na, ghk2nb⟩
      · try simp only [go_sem, n1, n2, n3, n4, ghk1, hk1] at ghk2na
        all_goals
        rcases it_some h with ⟨hk3, h⟩ | ⟨hk3, h⟩
        · try simp only [go_sem, n1, n2, n3, n4, ghk1, hk1, ghk2na] at hk3
          all_goals
          obtain rfl := so_some h
          refine ⟨0, fun L hL => ?_⟩
          simp only [go_sem, ir36, ghk1, hk1, lhk1, xhk1, ghk2na, hk3]
        · try simp only [go_sem, n1, n2, n3, n4, ghk1, hk1, ghk2na] at hk3
          all_goals
          obtain ⟨hk4, h⟩ := ck_some h
          try simp only [go_sem, n1, n2, n3, n4, ghk1, hk1, ghk2na, hk3] at hk4
          all_goals
          obtain ⟨y_5, hk5, h⟩ := bd_some h
          have fhk5 := Fs_impl_SumOfBytes hk5
          try simp only [go_sem, ghk1, hk1, ghk2na, hk3, hk4] at fhk5
          obtain ⟨hk6, h⟩ := ck_some h
          have lhk6 := ix_lt hk6
          have xhk6 := getD_mapD byteAV b lhk6
          try simp only [go_sem] at lhk6
          try simp only [go_sem] at xhk6
          try simp only [go_sem, n1, n2, n3, n4, ghk1, hk1, ghk2na, hk3, hk4] at hk6
          all_goals
          obtain ⟨hk7, h⟩ := ck_some h
          have lhk7 := ix_lt hk7
          have xhk7 := getD_mapD byteAV b lhk7
          try simp only [go_sem] at lhk7
          try simp only [go_sem] at xhk7
          try simp only [go_sem, n1, n2, n3, n4, ghk1, hk1, ghk2na, hk3, hk4, hk6] at hk7
          all_goals
          rcases it_some h with ⟨hk8, h⟩ | ⟨hk8, h⟩
          · try simp only [go_sem, n1, n2, n3, n4, ghk1, hk1, ghk2na, hk3, hk4, hk6, hk7] at hk8
            all_goals
            obtain rfl := so_some h
            refine ⟨0, fun L hL => ?_⟩
            simp only [go_sem, ir36, ghk1, hk1, lhk1, xhk1, ghk2na, hk3, hk4, fhk5, hk6, lhk6, xhk6, hk7, lhk7, xhk7, hk8]
          · try simp only [go_sem, n1, n2, n3, n4, ghk1, hk1, ghk2na, hk3, hk4, hk6, hk7] at hk8
            all_goals
            obtain rfl := so_some h
            refine ⟨0, fun L hL => ?_⟩
            simp only [go_sem, ir36, ghk1, hk1, lhk1, xhk1, ghk2na, hk3, hk4, fhk5, hk6, lhk6, xhk6, hk7, lhk7, xhk7, hk8]
      · try simp only [go_sem, n1, n2, n3, n4, ghk1, hk1] at ghk2na
        all_goals
        try simp only [go_sem, n1, n2, n3, n4, ghk1, hk1, ghk2na] at ghk2nb
        all_goals
        rcases it_some h with ⟨hk3, h⟩ | ⟨hk3, h⟩
        · try simp only [go_sem, n1, n2, n3, n4, ghk1, hk1, ghk2na, ghk2nb] at hk3
          all_goals
          obtain rfl := so_some h
          refine ⟨0, fun L hL => ?_⟩
          simp only [go_sem, ir36, ghk1, hk1, lhk1, xhk1, ghk2na, ghk2nb, hk3]
        · try simp only [go_sem, n1, n2, n3, n4, ghk1, hk1, ghk2na, ghk2nb] at hk3
          all_goals
          obtain ⟨hk4, h⟩ := ck_some h
          try simp only [go_sem, n1, n2, n3, n4, ghk1, hk1, ghk2na, ghk2nb, hk3] at hk4
          all_goals
          obtain ⟨y_5, hk5, h⟩ := bd_some h
          have fhk5 := Fs_impl_SumOfBytes hk5
          try simp only [go_sem, ghk1, hk1, ghk2na, ghk2nb, hk3, hk4] at fhk5
          obtain ⟨hk6, h⟩ := ck_some h
          have lhk6 := ix_lt hk6
          have xhk6 := getD_mapD byteAV b lhk6
          try simp only [go_sem] at lhk6
          try simp only [go_sem] at xhk6
          try simp only [go_sem, n1, n2, n3, n4, ghk1, hk1, ghk2na, ghk2nb, hk3, hk4] at hk6
          all_goals
          obtain ⟨hk7, h⟩ := ck_some h
          have lhk7 := ix_lt hk7
          have xhk7 := getD_mapD byteAV b lhk7
          try simp only [go_sem] at lhk7
          try simp only [go_sem] at xhk7
          try simp only [go_sem, n1, n2, n3, n4, ghk1, hk1, ghk2na, ghk2nb, hk3, hk4, hk6] at hk7
          all_goals
          rcases it_some h with ⟨hk8, h⟩ | ⟨hk8, h⟩
          · try simp only [go_sem, n1, n2, n3, n4, ghk1, hk1, ghk2na, ghk2nb, hk3, hk4, hk6, hk7] at hk8
            all_goals
            obtain rfl := so_some h
            refine ⟨0, fun L hL => ?_⟩
            simp only [go_sem, ir36, ghk1, hk1, lhk1, xhk1, ghk2na, ghk2nb, hk3, hk4, fhk5, hk6, lhk6, xhk6, hk7, lhk7, xhk7, hk8]
          · try simp only [go_sem, n1, n2, n3, n4, ghk1, hk1, ghk2na, ghk2nb, hk3, hk4, hk6, hk7] at hk8
            all_goals
            obtain rfl := so_some h
            refine ⟨0, fun L hL => ?_⟩
            simp only [go_sem, ir36, ghk1, hk1, lhk1, xhk1, ghk2na, ghk2nb, hk3, hk4, fhk5, hk6, lhk6, xhk6, hk7, lhk7, xhk7, hk8]
  · have ghk1n := no_f ghk1
    rcases or_t ghk1n with ghk1na | ⟨ghk1na, ghk1nb⟩
    · try simp only [go_sem, n1, n2, n3, n4] at ghk1na
      all_goals
      obtain ⟨hk2, h⟩ := ck_some h
      rcases or_split hk2 with ⟨ghk2, hk2⟩ | ghk2
      · try simp only [go_sem, n1, n2, n3, n4, ghk1na] at ghk2
        all_goals
        obtain ⟨y_2, hhk2⟩ := Option.isSome_iff_exists.1 hk2
        have fhk2 := Fs_impl_UnpackEstimates_c1 hhk2
        try simp only [go_sem, ghk1na, ghk2] at fhk2
        rcases it_some h with ⟨hk3, h⟩ | ⟨hk3, h⟩
        · try simp only [go_sem, n1, n2, n3, n4, ghk1na, ghk2, hhk2] at hk3
          all_goals
          obtain rfl := so_some h
          refine ⟨0, fun L hL => ?_⟩
          simp only [go_sem, ir36, ghk1na, ghk2, hhk2, fhk2, hk3]
        · try simp only [go_sem, n1, n2, n3, n4, ghk1na, ghk2, hhk2] at hk3
          all_goals
          obtain ⟨hk4, h⟩ := ck_some h
          try simp only [go_sem, n1, n2, n3, n4, ghk1na, ghk2, hhk2, hk3] at hk4
          all_goals
          obtain ⟨y_5, hk5, h⟩ := bd_some h
          have fhk5 := Fs_impl_SumOfBytes hk5
          try simp only [go_sem, ghk1na, ghk2, hhk2, hk3, hk4] at fhk5
          obtain ⟨hk6, h⟩ := ck_some h
          have lhk6 := ix_lt hk6
          have xhk6 := getD_mapD byteAV b lhk6
          try simp only [go_sem] at lhk6
          try simp only [go_sem] at xhk6
          try simp only [go_sem, n1, n2, n3, n4, ghk1na, ghk2, hhk2, hk3, hk4] at hk6
          all_goals
          obtain ⟨hk7, h⟩ := ck_some h
          have lhk7 := ix_lt hk7
          have xhk7 := getD_mapD byteAV b lhk7
          try simp only [go_sem] at lhk7
          try simp only [go_sem] at xhk7
          try simp only [go_sem, n1, n2, n3, n4, ghk1na, ghk2, hhk2, hk3, hk4, hk6] at hk7
          all_goals
          rcases it_some h with ⟨hk8, h⟩ | ⟨hk8, h⟩
          · try simp only [go_sem, n1, n2, n3, n4, ghk1na, ghk2, hhk2, hk3, hk4, hk6, hk7] at hk8
            all_goals
            obtain rfl := so_some h
            refine ⟨0, fun L hL => ?_⟩
            simp only [go_sem, ir36, ghk1na, ghk2, hhk2, fhk2, hk3, hk4, fhk5, hk6, lhk6, xhk6, hk7, lhk7, xhk7, hk8]
          · try simp only [go_sem, n1, n2, n3, n4, ghk1na, ghk2, hhk2, hk3, hk4, hk6, hk7] at hk8
            all_goals
            obtain rfl := so_some h
            refine ⟨0, fun L hL => ?_⟩
            simp only [go_sem, ir36, ghk1na, ghk2, hhk2, fhk2, hk3, hk4, fhk5, hk6, lhk6, xhk6, hk7, lhk7, xhk7, hk8]
      · have ghk2n := no_f ghk2
        rcases or_t ghk2n with ghk2na | ⟨ghk2na, ghk2nb⟩
        · try simp only [go_sem, n1, n2, n3, n4, ghk1na] at ghk2na
          all_goals
          rcases it_some h with ⟨hk3, h⟩ | ⟨hk3, h⟩
          · try simp only [go_sem, n1, n2, n3, n4, ghk1na, ghk2na] at hk3
            all_goals
            obtain rfl := so_some h
            refine ⟨0, fun L hL => ?_⟩
            simp only [go_sem, ir36, ghk1na, ghk2na, hk3]
          · try simp only [go_sem, n1, n2, n3, n4, ghk1na, ghk2na] at hk3
            all_goals
            obtain ⟨hk4, h⟩ := ck_some h
            try simp only [go_sem, n1, n2, n3, n4, ghk1na, ghk2na, hk3] at hk4
            all_goals
            obtain ⟨y_5, hk5, h⟩ := bd_some h
            have fhk5 := Fs_impl_SumOfBytes hk5
            try simp only [go_sem, ghk1na, ghk2na, hk3, hk4] at fhk5
            obtain ⟨hk6, h⟩ := ck_some h
            have lhk6 := ix_lt hk6
            have xhk6 := getD_mapD byteAV b lhk6
            try simp only [go_sem] at lhk6
            try simp only [go_sem] at xhk6
            try simp only [go_sem, n1, n2, n3, n4, ghk1na, ghk2na, hk3, hk4] at hk6
            all_goals
            obtain ⟨hk7, h⟩ := ck_some h
            have lhk7 := ix_lt hk7
            have xhk7 := getD_mapD byteAV b lhk7
            try simp only [go_sem] at lhk7
            try simp only [go_sem] at xhk7
            try simp only [go_sem, n1, n2, n3, n4, ghk1na, ghk2na, hk3, hk4, hk6] at hk7
            all_goals
            rcases it_some h with ⟨hk8, h⟩ | ⟨hk8, h⟩
            · try simp only [go_sem, n1, n2, n3, n4, ghk1na, ghk2na, hk3, hk4, hk6, hk7] at hk8
              all_goals
              obtain rfl := so_some h
              refine ⟨0, fun L hL => ?_⟩
              simp only [go_sem, ir36, ghk1na, ghk2na, hk3, hk4, fhk5, hk6, lhk6, xhk6, hk7, lhk7, xhk7, hk8]
            · try simp only [go_sem, n1, n2, n3, n4, ghk1na, ghk2na, hk3, hk4, hk6, hk7] at hk8
              all_goals
              obtain rfl := so_some h
              refine ⟨0, fun L hL => ?_⟩
              simp only [go_sem, ir36, ghk1na, ghk2na, hk3, hk4, fhk5, hk6, lhk6, xhk6, hk7, lhk7, xhk7, hk8]
        · try simp only [go_sem, n1, n2, n3, n4, ghk1na] at ghk2na
          all_goals
          try simp only [go_sem, n1, n2, n3, n4, ghk1na, ghk2na] at ghk2nb
          all_goals
          rcases it_some h with ⟨hk3, h⟩ | ⟨hk3, h⟩
          · try simp only [go_sem, n1, n2, n3, n4, ghk1na, ghk2na, ghk2nb] at hk3
            all_goals
            obtain rfl := so_some h
            refine ⟨0, fun L hL => ?_⟩
            simp only [go_sem, ir36, ghk1na, ghk2na, ghk2nb, hk3]
          · try simp only [go_sem, n1, n2, n3, n4, ghk1na, ghk2na, ghk2nb] at hk3
            all_goals
            obtain ⟨hk4, h⟩ := ck_some h
            try simp only [go_sem, n1, n2, n3, n4, ghk1na, ghk2na, ghk2nb, hk3] at hk4
            all_goals
            obtain ⟨y_5, hk5, h⟩ := bd_some h
            have fhk5 := Fs_impl_SumOfBytes hk5
            try simp only [go_sem, ghk1na, ghk2na, ghk2nb, hk3, hk4] at fhk5
            obtain ⟨hk6, h⟩ := ck_some h
            have lhk6 := ix_lt hk6
            have xhk6 := getD_mapD byteAV b lhk6
            try simp only [go_sem] at lhk6
            try simp only [go_sem] at xhk6
            try simp only [go_sem, n1, n2, n3, n4, ghk1na, ghk2na, ghk2nb, hk3, hk4] at hk6
            all_goals
            obtain ⟨hk7, h⟩ := ck_some h
            have lhk7 := ix_lt hk7
            have xhk7 := getD_mapD byteAV b lhk7
            try simp only [go_sem] at lhk7
            try simp only [go_sem] at xhk7
            try simp only [go_sem, n1, n2, n3, n4, ghk1na, ghk2na, ghk2nb, hk3, hk4, hk6] at hk7
            all_goals
            rcases it_some h with ⟨hk8, h⟩ | ⟨hk8, h⟩
            · try simp only [go_sem, n1, n2, n3, n4, ghk1na, ghk2na, ghk2nb, hk3, hk4, hk6, hk7] at hk8
              all_goals
              obtain rfl := so_some h
              refine ⟨0, fun L hL => ?_⟩
              simp only [go_sem, ir36, ghk1na, ghk2na, ghk2nb, hk3, hk4, fhk5, hk6, lhk6, xhk6, hk7, lhk7, xhk7, hk8]
            · try simp only [go_sem, n1, n2, n3, n4, ghk1na, ghk2na, ghk2nb, hk3, hk4, hk6, hk7] at hk8
              all_goals
              obtain rfl := so_some h
              refine ⟨0, fun L hL => ?_⟩
              simp only [go_sem, ir36, ghk1na, ghk2na, ghk2nb, hk3, hk4, fhk5, hk6, lhk6, xhk6, hk7, lhk7, xhk7, hk8]
    · try simp only [go_sem, n1, n2, n3, n4] at ghk1na
      all_goals
      try simp only [go_sem, n1, n2, n3, n4, ghk1na] at ghk1nb
      all_goals
      obtain ⟨hk2, h⟩ := ck_some h
      rcases or_split hk2 with ⟨ghk2, hk2⟩ | ghk2
      · try simp only [go_sem, n1, n2, n3, n4, ghk1na, ghk1nb] at ghk2
        all_goals
        obtain ⟨y_2, hhk2⟩ := Option.isSome_iff_exists.1 hk2
        have fhk2 := Fs_impl_UnpackEstimates_c1 hhk2
        try simp only [go_sem, ghk1na, ghk1nb, ghk2] at fhk2
        rcases it_some h with ⟨hk3, h⟩ | ⟨hk3, h⟩
        · try simp only [go_sem, n1, n2, n3, n4, ghk1na, ghk1nb, ghk2, hhk2] at hk3
          all_goals
          obtain rfl := so_some h
          refine ⟨0, fun L hL => ?_⟩
          simp only [go_sem, ir36, ghk1na, ghk1nb, ghk2, hhk2, fhk2, hk3]
        · try simp only [go_sem, n1, n2, n3, n4, ghk1na, ghk1nb, ghk2, hhk2] at hk3
          all_goals
          obtain ⟨hk4, h⟩ := ck_some h
          try simp only [go_sem, n1, n2, n3, n4, ghk1na, ghk1nb, ghk2, hhk2, hk3] at hk4
          all_goals
          obtain ⟨y_5, hk5, h⟩ := bd_some h
          have fhk5 := Fs_impl_SumOfBytes hk5
          try simp only [go_sem, ghk1na, ghk1nb, ghk2, hhk2, hk3, hk4] at fhk5
          obtain ⟨hk6, h⟩ := ck_some h
          have lhk6 := ix_lt hk6
          have xhk6 := getD_mapD byteAV b lhk6
          try simp only [go_sem] at lhk6
          try simp only [go_sem] at xhk6
          try simp only [go_sem, n1, n2, n3, n4, ghk1na, ghk1nb, ghk2, hhk2, hk3, hk4] at hk6
          all_goals
          obtain ⟨hk7, h⟩ := ck_some h
          have lhk7 := ix_lt hk7
          have xhk7 := getD_mapD byteAV b lhk7
          try simp only [go_sem] at lhk7
          try simp only [go_sem] at xhk7
          try simp only [go_sem, n1, n2, n3, n4, ghk1na, ghk1nb, ghk2, hhk2, hk3, hk4, hk6] at hk7
          all_goals
          rcases it_some h with ⟨hk8, h⟩ | ⟨hk8, h⟩
          · try simp only [go_sem, n1, n2, n3, n4, ghk1na, ghk1nb, ghk2, hhk2, hk3, hk4, hk6, hk7] at hk8
            all_goals
            obtain rfl := so_some h
            refine ⟨0, fun L hL => ?_⟩
            simp only [go_sem, ir36, ghk1na, ghk1nb, ghk2, hhk2, fhk2, hk3, hk4, fhk5, hk6, lhk6, xhk6, hk7, lhk7, xhk7, hk8]
          · try simp only [go_sem, n1, n2, n3, n4, ghk1na, ghk1nb, ghk2, hhk2, hk3, hk4, hk6, hk7] at hk8
            all_goals
            obtain rfl := so_some h
            refine ⟨0, fun L hL => ?_⟩
            simp only [go_sem, ir36, ghk1na, ghk1nb, ghk2, hhk2, fhk2, hk3, hk4, fhk5, hk6, lhk6, xhk6, hk7, lhk7, xhk7, hk8]
      · have ghk2n := no_f ghk2
        rcases or_t ghk2n with ghk2na | ⟨ghk2na, ghk2nb⟩
        · try simp only [go_sem, n1, n2, n3, n4, ghk1na, ghk1nb] at ghk2na
          all_goals
          rcases it_some h with ⟨hk3, h⟩ | ⟨hk3, h⟩
          · try simp only [go_sem, n1, n2, n3, n4, ghk1na, ghk1nb, ghk2na] at hk3
            all_goals
            obtain rfl := so_some h
            refine ⟨0, fun L hL => ?_⟩
            simp only [go_sem, ir36, ghk1na, ghk1nb, ghk2na, hk3]
          · try simp only [go_sem, n1, n2, n3, n4, ghk1na, ghk1nb, ghk2na] at hk3
            all_goals
            obtain ⟨hk4, h⟩ := ck_some h
            try simp only [go_sem, n1, n2, n3, n4, ghk1na, ghk1nb, ghk2na, hk3] at hk4
            all_goals
            obtain ⟨y_5, hk5, h⟩ := bd_some h
            have fhk5 := Fs_impl_SumOfBytes hk5
            try simp only [go_sem, ghk1na, ghk1nb, ghk2na, hk3, hk4] at fhk5
            obtain ⟨hk6, h⟩ := ck_some h
            have lhk6 := ix_lt hk6
            have xhk6 := getD_mapD byteAV b lhk6
            try simp only [go_sem] at lhk6
            try simp only [go_sem] at xhk6
            try simp only [go_sem, n1, n2, n3, n4, ghk1na, ghk1nb, ghk2na, hk3, hk4] at hk6
            all_goals
            obtain ⟨hk7, h⟩ := ck_some h
            have lhk7 := ix_lt hk7
            have xhk7 := getD_mapD byteAV b lhk7
            try simp only [go_sem] at lhk7
            try simp only [go_sem] at xhk7
            try simp only [go_sem, n1, n2, n3, n4, ghk1na, ghk1nb, ghk2na, hk3, hk4, hk6] at hk7
            all_goals
            rcases it_some h with ⟨hk8, h⟩ | ⟨hk8, h⟩
            · try simp only [go_sem, n1, n2, n3, n4, ghk1na, ghk1nb, ghk2na, hk3, hk4, hk6, hk7] at hk8
              all_goals
              obtain rfl := so_some h
              refine ⟨0, fun L hL => ?_⟩
              simp only [go_sem, ir36, ghk1na, ghk1nb, ghk2na, hk3, hk4, fhk5, hk6, lhk6, xhk6, hk7, lhk7, xhk7, hk8]
            · try simp only [go_sem, n1, n2, n3, n4, ghk1na, ghk1nb, ghk2na, hk3, hk4, hk6, hk7] at hk8
              all_goals
              obtain rfl := so_some h
              refine ⟨0, fun L hL => ?_⟩
              simp only [go_sem, ir36, ghk1na, ghk1nb, ghk2na, hk3, hk4, fhk5, hk6, lhk6, xhk6, hk7, lhk7, xhk7, hk8]
        · try simp only [go_sem, n1, n2, n3, n4, ghk1na, ghk1nb] at ghk2na
          all_goals
          try simp only [go_sem, n1, n2, n3, n4, ghk1na, ghk1nb, ghk2na] at ghk2nb
          all_goals
          rcases it_some h with ⟨hk3, h⟩ | ⟨hk3, h⟩
          · try simp only [go_sem, n1, n2, n3, n4, ghk1na, ghk1nb, ghk2na, ghk2nb] at hk3
            all_goals
            obtain rfl := so_some h
            refine ⟨0, fun L hL => ?_⟩
            simp only [go_sem, ir36, ghk1na, ghk1nb, ghk2na, ghk2nb, hk3]
          · try simp only [go_sem, n1, n2, n3, n4, ghk1na, ghk1nb, ghk2na, ghk2nb] at hk3
            all_goals
            obtain ⟨hk4, h⟩ := ck_some h
            try simp only [go_sem, n1, n2, n3, n4, ghk1na, ghk1nb, ghk2na, ghk2nb, hk3] at hk4
            all_goals
            obtain ⟨y_5, hk5, h⟩ := bd_some h
            have fhk5 := Fs_impl_SumOfBytes hk5
            try simp only [go_sem, ghk1na, ghk1nb, ghk2na, ghk2nb, hk3, hk4] at fhk5
            obtain ⟨hk6, h⟩ := ck_some h
            have lhk6 := ix_lt hk6
            have xhk6 := getD_mapD byteAV b lhk6
            try simp only [go_sem] at lhk6
            try simp only [go_sem] at xhk6
            try simp only [go_sem, n1, n2, n3, n4, ghk1na, ghk1nb, ghk2na, ghk2nb, hk3, hk4] at hk6
            all_goals
            obtain ⟨hk7, h⟩ := ck_some h
            have lhk7 := ix_lt hk7
            have xhk7 := getD_mapD byteAV b lhk7
            try simp only [go_sem] at lhk7
            try simp only [go_sem] at xhk7
            try simp only [go_sem, n1, n2, n3, n4, ghk1na, ghk1nb, ghk2na, ghk2nb, hk3, hk4, hk6] at hk7
            all_goals
            rcases it_some h with ⟨hk8, h⟩ | ⟨hk8, h⟩
            · try simp only [go_sem, n1, n2, n3, n4, ghk1na, ghk1nb, ghk2na, ghk2nb, hk3, hk4, hk6, hk7] at hk8
              all_goals
              obtain rfl := so_some h
              refine ⟨0, fun L hL => ?_⟩
              simp only [go_sem, ir36, ghk1na, ghk1nb, ghk2na, ghk2nb, hk3, hk4, fhk5, hk6, lhk6, xhk6, hk7, lhk7, xhk7, hk8]
            · try simp only [go_sem, n1, n2, n3, n4, ghk1na, ghk1nb, ghk2na, ghk2nb, hk3, hk4, hk6, hk7] at hk8
              all_goals
              obtain rfl := so_some h
              refine ⟨0, fun L hL => ?_⟩
              simp only [go_sem, ir36, ghk1na, ghk1nb, ghk2na, ghk2nb, hk3, hk4, fhk5, hk6, lhk6, xhk6, hk7, lhk7, xhk7, hk8]


def ir62_b0 : IR := .seq (.test false [
    ⟨.push, 7, none, .mov (.v 5)⟩,
    ⟨.push, 8, none, .mov (.v 0)⟩,
    ⟨.push, 9, none, .len false (.s 0)⟩,
    ⟨.push, 10, none, .bin false .lss (.s 2) (.s 0)⟩,
    ⟨.push, 11, none, .mov (.s 0)⟩,
    ⟨.push, 12, (some ((.s 0), true)), .mov (.v 5)⟩,
    ⟨.push, 13, (some ((.s 1), true)), .bin false .lss (.s 0) (.c (.int .i64 (9)))⟩,
    ⟨.push, 14, none, .pick (.s 2) (.s 0) (.c (.bool false))⟩] (.s 0)
  (.skip)
  (.exit 0))
 (.seq (.block 1 (.seq (.region false [
      ⟨.push, 17, none, .mov (.v 4)⟩,
      ⟨.push, 18, none, .mov (.v 0)⟩,
      ⟨.push, 19, none, .mov (.v 5)⟩,
      ⟨.push, 20, none, .ixAddr 1 (.s 1) (.s 0)⟩,
      ⟨.push, 21, none, .load false 1 (.s 0)⟩,
      ⟨.push, 22, none, .bin false .and (.s 0) (.c (.int .u8 (127)))⟩,
      ⟨.push, 23, none, .conv .i64 (.s 0)⟩,
      ⟨.push, 24, none, .mov (.v 5)⟩,
      ⟨.push, 25, none, .bin false .mul (.c (.int .i64 (7))) (.s 0)⟩,
      ⟨.push, 26, none, .bin false .shl (.s 2) (.s 0)⟩,
      ⟨.push, 27, none, .bin false .or (.s 9) (.s 0)⟩,
      ⟨.var 4, 5, none, .mov (.s 0)⟩])
   (.test false [
     ⟨.push, 28, none, .mov (.v 0)⟩,
     ⟨.push, 29, none, .mov (.v 5)⟩,
     ⟨.push, 30, none, .ixAddr 1 (.s 1) (.s 0)⟩,
     ⟨.push, 31, none, .load false 1 (.s 0)⟩,
     ⟨.push, 32, none, .bin false .lss (.s 0) (.c (.int .u8 (128)))⟩] (.s 0)
   (.seq (.test false [
       ⟨.push, 33, none, .mov (.v 0)⟩,
       ⟨.push, 34, none, .mov (.v 5)⟩,
       ⟨.push, 35, none, .ixAddr 1 (.s 1) (.s 0)⟩,
       ⟨.push, 36, none, .load false 1 (.s 0)⟩,
       ⟨.push, 37, none, .bin false .eql (.s 0) (.c (.int .u8 (0)))⟩,
       ⟨.push, 38, none, .mov (.s 0)⟩,
       ⟨.push, 39, (some ((.s 0), true)), .mov (.v 5)⟩,
       ⟨.push, 40, (some ((.s 1), true)), .bin false .gtr (.s 0) (.c (.int .i64 (0)))⟩,
       ⟨.push, 41, none, .pick (.s 2) (.s 0) (.c (.bool false))⟩] (.s 0)
     (.seq (.region false [
         ⟨.var 1, 2, none, .mov (.c (.int .i64 (0)))⟩,
         ⟨.var 2, 3, none, .mov (.c (.int .i64 (0)))⟩,
         ⟨.var 3, 4, none, .mov (.c (.bool false))⟩])
      (.ret))
     (.skip))
    (.seq (.region false [
       ⟨.push, 42, none, .mov (.v 4)⟩,
       ⟨.push, 43, none, .mov (.v 5)⟩,
       ⟨.push, 44, none, .bin false .add (.s 0) (.c (.int .i64 (1)))⟩,
       ⟨.var 1, 2, none, .mov (.s 2)⟩,
       ⟨.var 2, 3, none, .mov (.s 0)⟩,
       ⟨.var 3, 4, none, .mov (.c (.bool true))⟩])
    (.ret)))
   (.skip))))
 (.region false [
   ⟨.push, 15, none, .mov (.v 5)⟩,
   ⟨.push, 16, none, .bin false .add (.s 0) (.c (.int .i64 (1)))⟩,
   ⟨.var 5, 6, none, .mov (.s 0)⟩]))
def ir62_k0 : List Bool := [true, false, false, false, true, true]
def ir62_o0 : List Bool := [false, false, false, false, false, false]
def ir62_r0 : List Bool := [false, true, true, true, false, false]
def ir62_v : List Nat := [0, 2, 3, 4, 5, 6]
def ir62 : AFn := ⟨1, 6, .seq (.region false [
    ⟨.var 1, 2, none, .mov (.c (.int .i64 (0)))⟩,
    ⟨.var 2, 3, none, .mov (.c (.int .i64 (0)))⟩,
    ⟨.var 3, 4, none, .mov (.c (.bool false))⟩])
 (.seq (.region false [
    ⟨.var 4, 5, none, .mov (.c (.int .i64 (0)))⟩])
 (.seq (.seq (.region false [
     ⟨.var 5, 6, none, .mov (.c (.int .i64 (0)))⟩])
  (.block 0 (.loop ir62_k0 ir62_o0 ir62_r0 ir62_b0)))
 (.seq (.region false [
    ⟨.var 1, 2, none, .mov (.c (.int .i64 (0)))⟩,
    ⟨.var 2, 3, none, .mov (.c (.int .i64 (0)))⟩,
    ⟨.var 3, 4, none, .mov (.c (.bool false))⟩])
 (.ret)))), [.t 1, .t 2, .t 3]⟩
noncomputable def t_impl_ReadNumber : List (Nat × Ctr) := []
noncomputable def c_impl_ReadNumber : Ctr := mkF t_impl_ReadNumber ir62 [.bor]
theorem s_impl_ReadNumber : Sound Try.prog 62 c_impl_ReadNumber := mkF_sound _ rfl snd_nil (by kernel_rfl : chkFn Try.prog 62 ir62 ir62_v = true)
theorem M_impl_ReadNumber : c_impl_ReadNumber.modes = [.bor] := rfl
theorem Fl_impl_ReadNumber : c_impl_ReadNumber.flat = true := rfl
attribute [go_sem] M_impl_ReadNumber Fl_impl_ReadNumber
def E_impl_ReadNumber_l1 (b : List UInt8) : (Int × Int) → St
  | (n, i) => ⟨[.sl 1 (List.map byteAV b), .any, .any, .any, .int .i64 n, .int .i64 i], [], [], true⟩
def R_impl_ReadNumber_l1 (b : List UInt8) : (Unit ⊕ (Int × Int × Bool)) → Res
  | .inl y => (.exit 0, ⟨[.any, .any, .any, .any, .any, .any], [], [], true⟩)
  | .inr y => (.ret, ⟨[.any, .int .i64 y.1, .int .i64 y.2.1, .bool y.2.2, .any, .any], [], [], true⟩)
theorem impl_ReadNumber_l1_ex {b : List UInt8} {sgm_ : Int × Int} {rho_ : Unit ⊕ (Int × Int × Bool)} (h : whileE (impl_ReadNumber_l1 b) sgm_ = some rho_) : ∃ L0, ∀ L, L0 ≤ L → iter (exec (look t_impl_ReadNumber) L ir62_b0) ir62_k0 ir62_o0 ir62_r0 L (E_impl_ReadNumber_l1 b sgm_) = R_impl_ReadNumber_l1 b rho_ := by
  refine loop_ex (E := E_impl_ReadNumber_l1 b) (R := R_impl_ReadNumber_l1 b) (fun y => by first | (intro c; cases c) | (rcases y with y | y <;> (intro c; cases c)) | (rcases y with y | y | y <;> (intro c; cases c))) ?_ h
  clear h
  rintro ⟨n, i⟩ o_ h
  dsimp only [impl_ReadNumber_l1] at h
  rcases it_some h with ⟨hk1, h⟩ | ⟨hk1, h⟩
  · try simp only [go_sem, n1, n2, n3, n4] at hk1
    all_goals
    obtain ⟨hk2, h⟩ := ck_some h
    have lhk2 := ix_lt hk2
    have xhk2 := getD_mapD byteAV b lhk2
    try simp only [go_sem] at lhk2
    try simp only [go_sem] at xhk2
    try simp only [go_sem, n1, n2, n3, n4, hk1] at hk2
    all_goals
    obtain ⟨hk3, h⟩ := ck_some h
    try simp only [go_sem, n1, n2, n3, n4, hk1, hk2] at hk3
    all_goals
    rcases it_some h with ⟨hk4, h⟩ | ⟨hk4, h⟩
    · try simp only [go_sem, n1, n2, n3, n4, hk1, hk2, hk3] at hk4
      all_goals
      rcases it_some h with ⟨hk5, h⟩ | ⟨hk5, h⟩
      · try simp only [go_sem, n1, n2, n3, n4, hk1, hk2, hk3, hk4] at hk5
        all_goals
        obtain rfl := so_some h
        refine ⟨0, fun L hL => ?_⟩
        simp only [go_sem, ir62, E_impl_ReadNumber_l1, R_impl_ReadNumber_l1, ir62_b0, ir62_k0, ir62_o0, ir62_r0, hk1, hk2, lhk2, xhk2, hk3, hk4, hk5]
      · try simp only [go_sem, n1, n2, n3, n4, hk1, hk2, hk3, hk4] at hk5
        all_goals
        obtain rfl := so_some h
        refine ⟨0, fun L hL => ?_⟩
        simp only [go_sem, ir62, E_impl_ReadNumber_l1, R_impl_ReadNumber_l1, ir62_b0, ir62_k0, ir62_o0, ir62_r0, hk1, hk2, lhk2, xhk2, hk3, hk4, hk5]
    · try simp only [go_sem, n1, n2, n3, n4, hk1, hk2, hk3] at hk4
      all_goals
      obtain rfl := so_some h
      refine ⟨0, fun L hL => ?_⟩
      simp only [go_sem, ir62, E_impl_ReadNumber_l1, R_impl_ReadNumber_l1, ir62_b0, ir62_k0, ir62_o0, ir62_r0, hk1, hk2, lhk2, xhk2, hk3, hk4]
  · try simp only [go_sem, n1, n2, n3, n4] at hk1
    all_goals
    obtain rfl := so_some h
    refine ⟨0, fun L hL => ?_⟩
    simp only [go_sem, ir62, E_impl_ReadNumber_l1, R_impl_ReadNumber_l1, ir62_b0, ir62_k0, ir62_o0, ir62_r0, hk1]

theorem Fs_impl_ReadNumber {b : List UInt8} {y_ : Int × Int × Bool} (h : impl_ReadNumber b = some y_) : c_impl_ReadNumber.F [.sl 1 (List.map byteAV b)] = ⟨true, .tup [.int .i64 y_.1, .int .i64 y_.2.1, .bool y_.2.2], [.any]⟩ := by
  refine mkF_E rfl ?_
  dsimp only [impl_ReadNumber] at h
  obtain ⟨y_6, hk6, h⟩ := bd_some h
  obtain ⟨Lhk6, ehk6⟩ := impl_ReadNumber_l1_ex hk6
  rcases y_6 with y_6a | y_6b
  · dsimp only at h
    obtain rfl := so_some h
    refine ⟨Lhk6, fun L hL => ?_⟩
    have ehk6 := ehk6 L (by omega)
    try simp only [go_sem, E_impl_ReadNumber_l1, R_impl_ReadNumber_l1, ir62_k0, ir62_o0, ir62_r0] at ehk6
    simp only [go_sem, ir62, E_impl_ReadNumber_l1, R_impl_ReadNumber_l1, ir62_k0, ir62_o0, ir62_r0, ehk6]
  · dsimp only at h
    obtain rfl := so_some h
    refine ⟨Lhk6, fun L hL => ?_⟩
    have ehk6 := ehk6 L (by omega)
    try simp only [go_sem, E_impl_ReadNumber_l1, R_impl_ReadNumber_l1, ir62_k0, ir62_o0, ir62_r0] at ehk6
    simp only [go_sem, ir62, E_impl_ReadNumber_l1, R_impl_ReadNumber_l1, ir62_k0, ir62_o0, ir62_r0, ehk6]


def ir39_v : List Nat := [0, 1, 4, 5, 6, 7]
def ir39 : AFn := ⟨2, 6, .seq (.region false [
    ⟨.var 2, 4, none, .mov (.c (.int .i64 (0)))⟩])
 (.seq (.region false [
    ⟨.push, 9, none, .mov (.v 0)⟩,
    ⟨.push, 10, none, .nilck (.s 0)⟩,
    ⟨.push, 11, none, .fldAddr 0 (.s 0)⟩,
    ⟨.push, 12, none, .load false 1 (.s 0)⟩,
    ⟨.push, 13, none, .call 62 [(.s 0)]⟩,
    ⟨.push, 8, none, .mov (.s 0)⟩,
    ⟨.push, 14, none, .ext (.s 0) 0⟩,
    ⟨.push, 15, none, .ext (.s 1) 1⟩,
    ⟨.push, 16, none, .ext (.s 2) 2⟩,
    ⟨.var 3, 5, none, .mov (.s 2)⟩,
    ⟨.var 4, 6, none, .mov (.s 1)⟩,
    ⟨.var 5, 7, none, .mov (.s 0)⟩])
 (.seq (.test false [
    ⟨.push, 17, none, .mov (.v 0)⟩,
    ⟨.push, 18, none, .nilck (.s 0)⟩,
    ⟨.push, 19, none, .fldAddr 1 (.s 0)⟩,
    ⟨.push, 20, none, .load false 1 (.s 0)⟩,
    ⟨.push, 21, none, .mov (.s 0)⟩,
    ⟨.push, 22, (some ((.s 0), false)), .mov (.v 5)⟩,
    ⟨.push, 23, (some ((.s 1), false)), .un .not (.s 0)⟩,
    ⟨.push, 24, none, .pick (.s 2) (.c (.bool true)) (.s 0)⟩,
    ⟨.push, 25, none, .mov (.s 0)⟩,
    ⟨.push, 26, (some ((.s 0), false)), .mov (.v 3)⟩,
    ⟨.push, 27, (some ((.s 1), false)), .mov (.v 1)⟩,
    ⟨.push, 28, (some ((.s 2), false)), .bin false .gtr (.s 1) (.s 0)⟩,
    ⟨.push, 29, none, .pick (.s 3) (.c (.bool true)) (.s 0)⟩] (.s 0)
  (.seq (.region false [
      ⟨.push, 30, none, .mov (.v 0)⟩,
      ⟨.push, 31, none, .nilck (.s 0)⟩,
      ⟨.push, 32, none, .fldAddr 1 (.s 0)⟩,
      ⟨.no, 0, none, .store 1 (.s 0) (.c (.bool true))⟩])
   (.seq (.region false [
      ⟨.var 2, 4, none, .mov (.c (.int .i64 (0)))⟩])
   (.ret)))
  (.skip))
 (.seq (.region false [
    ⟨.push, 33, none, .mov (.v 0)⟩,
    ⟨.push, 34, none, .mov (.v 0)⟩,
    ⟨.push, 35, none, .nilck (.s 0)⟩,
    ⟨.push, 36, none, .fldAddr 0 (.s 0)⟩,
    ⟨.push, 37, none, .load false 1 (.s 0)⟩,
    ⟨.push, 38, none, .mov (.v 4)⟩,
    ⟨.push, 39, none, .slice 1 (.s 1) (some (.s 0)) none⟩,
    ⟨.push, 40, none, .nilck (.s 6)⟩,
    ⟨.push, 41, none, .fldAddr 0 (.s 0)⟩,
    ⟨.no, 0, none, .store 1 (.s 0) (.s 2)⟩])
 (.seq (.region false [
    ⟨.push, 42, none, .mov (.v 3)⟩,
    ⟨.var 2, 4, none, .mov (.s 0)⟩])
 (.ret))))), [.t 2]⟩
noncomputable def t_impl_unpacker_number : List (Nat × Ctr) := [(62, c_impl_ReadNumber)]
theorem lk_impl_unpacker_number_62 : look t_impl_unpacker_number 62 = some c_impl_ReadNumber := rfl
noncomputable def c_impl_unpacker_number : Ctr := mkN t_impl_unpacker_number ir39 [.io, .bor]
theorem s_impl_unpacker_number : Sound Try.prog 39 c_impl_unpacker_number := mkN_sound _ (snd_cons s_impl_ReadNumber snd_nil) (by kernel_rfl : chkFn Try.prog 39 ir39 ir39_v = true)
theorem M_impl_unpacker_number : c_impl_unpacker_number.modes = [.io, .bor] := rfl
theorem Fl_impl_unpacker_number : c_impl_unpacker_number.flat = false := rfl
attribute [go_sem] M_impl_unpacker_number Fl_impl_unpacker_number
attribute [go_sem] lk_impl_unpacker_number_62
theorem Fs_impl_unpacker_number {u : Unpacker} {most : Int} {y_ : Int × Unpacker} (h : impl_unpacker_number u most = some y_) : c_impl_unpacker_number.F [.mem 2 [Unpacker_av u], .int .i64 most] = ⟨true, .int .i64 y_.1, [.mem 2 [Unpacker_av y_.2], .any]⟩ := by
  refine mkN_E ?_
  dsimp only [impl_unpacker_number] at h
  obtain ⟨y_1, hk1, h⟩ := bd_some h
  have fhk1 := Fs_impl_ReadNumber hk1
  try simp only [go_sem] at fhk1
  rcases it_some h with ⟨hk2, h⟩ | ⟨hk2, h⟩
  · try simp only [go_sem, n1, n2, n3, n4] at hk2
    all_goals
    obtain rfl := so_some h
    refine ⟨0, fun L hL => ?_⟩
    simp only [go_sem, ir39, fhk1, hk2]
  · try simp only [go_sem, n1, n2, n3, n4] at hk2
    all_goals
    obtain ⟨hk3, h⟩ := ck_some h
    try simp only [go_sem, n1, n2, n3, n4, hk2] at hk3
    all_goals
    obtain rfl := so_some h
    refine ⟨0, fun L hL => ?_⟩
    simp only [go_sem, ir39, fhk1, hk2, hk3]


def ir38_b0 : IR := .seq (.region false [
    ⟨.var 6, 9, none, .bin false .lss (.v 5) (.v 4)⟩])
 (.seq (.cond (.v 6) (.skip)
  (.exit 0))
 (.seq (.block 1 (.seq (.region false [
      ⟨.push, 10, none, .mov (.v 0)⟩,
      ⟨.push, 11, none, .call 39 [(.s 0), (.c (.int .i64 (12)))]⟩,
      ⟨.var 3, 4, none, .mov (.s 0)⟩])
   (.seq (.test false [
      ⟨.push, 12, none, .mov (.v 0)⟩,
      ⟨.push, 13, none, .nilck (.s 0)⟩,
      ⟨.push, 14, none, .fldAddr 1 (.s 0)⟩,
      ⟨.push, 15, none, .load false 1 (.s 0)⟩,
      ⟨.push, 16, none, .mov (.s 0)⟩,
      ⟨.push, 17, (some ((.s 0), false)), .mov (.v 3)⟩,
      ⟨.push, 18, (some ((.s 1), false)), .mov (.v 0)⟩,
      ⟨.push, 19, (some ((.s 2), false)), .nilck (.s 0)⟩,
      ⟨.push, 20, (some ((.s 3), false)), .fldAddr 0 (.s 0)⟩,
      ⟨.push, 21, (some ((.s 4), false)), .load false 1 (.s 0)⟩,
      ⟨.push, 22, (some ((.s 5), false)), .len false (.s 0)⟩,
      ⟨.push, 23, (some ((.s 6), false)), .bin false .gtr (.s 5) (.s 0)⟩,
      ⟨.push, 24, none, .pick (.s 7) (.c (.bool true)) (.s 0)⟩] (.s 0)
    (.seq (.region false [
        ⟨.push, 25, none, .mov (.v 0)⟩,
        ⟨.push, 26, none, .nilck (.s 0)⟩,
        ⟨.push, 27, none, .fldAddr 1 (.s 0)⟩,
        ⟨.no, 0, none, .store 1 (.s 0) (.c (.bool true))⟩])
     (.seq (.region false [
        ⟨.var 1, 2, none, .newnil 1⟩])
     (.ret)))
    (.skip))
   (.seq (.region false [
      ⟨.push, 28, none, .mov (.v 2)⟩,
      ⟨.push, 29, none, .mov (.v 0)⟩,
      ⟨.push, 30, none, .nilck (.s 0)⟩,
      ⟨.push, 31, none, .fldAddr 0 (.s 0)⟩,
      ⟨.push, 32, none, .load false 1 (.s 0)⟩,
      ⟨.push, 33, none, .mov (.v 3)⟩,
      ⟨.push, 34, none, .slice 1 (.s 1) none (some (.s 0))⟩,
      ⟨.push, 35, none, .b2s (.s 0)⟩,
      ⟨.push, 36, none, .mkSl 1 (.str []) 1 [(0, (.s 0))]⟩,
      ⟨.push, 37, none, .app 1 16 (.str []) (.s 8) (.s 0)⟩,
      ⟨.var 2, 3, none, .mov (.s 0)⟩])
   (.region false [
     ⟨.push, 38, none, .mov (.v 0)⟩,
     ⟨.push, 39, none, .mov (.v 0)⟩,
     ⟨.push, 40, none, .nilck (.s 0)⟩,
     ⟨.push, 41, none, .fldAddr 0 (.s 0)⟩,
     ⟨.push, 42, none, .load false 1 (.s 0)⟩,
     ⟨.push, 43, none, .mov (.v 3)⟩,
     ⟨.push, 44, none, .slice 1 (.s 1) (some (.s 0)) none⟩,
     ⟨.push, 45, none, .nilck (.s 6)⟩,
     ⟨.push, 46, none, .fldAddr 0 (.s 0)⟩,
     ⟨.no, 0, none, .store 1 (.s 0) (.s 2)⟩])))))
 (.region false [
   ⟨.push, 47, none, .bin false .add (.v 5) (.c (.int .i64 (1)))⟩,
   ⟨.var 5, 8, none, .mov (.s 0)⟩])))
def ir38_k0 : List Bool := [true, false, true, false, true, true, false]
def ir38_o0 : List Bool := [true, false, true, false, false, false, false]
def ir38_r0 : List Bool := [true, true, false, false, false, false, false]
def ir38_v : List Nat := [0, 2, 3, 4, 7, 8, 9]
def ir38 : AFn := ⟨1, 7, .seq (.region false [
    ⟨.var 1, 2, none, .newnil 1⟩])
 (.seq (.region false [
    ⟨.push, 5, none, .mkSl 1 (.str []) 0 []⟩,
    ⟨.var 2, 3, none, .mov (.s 0)⟩])
 (.seq (.seq (.region false [
     ⟨.push, 6, none, .mov (.v 0)⟩,
     ⟨.var 4, 7, none, .call 39 [(.s 0), (.c (.int .i64 (100)))]⟩,
     ⟨.var 5, 8, none, .mov (.c (.int .i64 (0)))⟩])
  (.block 0 (.loop ir38_k0 ir38_o0 ir38_r0 ir38_b0)))
 (.seq (.region false [
    ⟨.push, 48, none, .mov (.v 2)⟩,
    ⟨.var 1, 2, none, .mov (.s 0)⟩])
 (.ret)))), [.t 1]⟩
noncomputable def t_impl_unpacker_names : List (Nat × Ctr) := [(39, c_impl_unpacker_number)]
theorem lk_impl_unpacker_names_39 : look t_impl_unpacker_names 39 = some c_impl_unpacker_number := rfl
noncomputable def c_impl_unpacker_names : Ctr := mkN t_impl_unpacker_names ir38 [.io]
theorem s_impl_unpacker_names : Sound Try.prog 38 c_impl_unpacker_names := mkN_sound _ (snd_cons s_impl_unpacker_number snd_nil) (by kernel_rfl : chkFn Try.prog 38 ir38 ir38_v = true)
theorem M_impl_unpacker_names : c_impl_unpacker_names.modes = [.io] := rfl
theorem Fl_impl_unpacker_names : c_impl_unpacker_names.flat = false := rfl
attribute [go_sem] M_impl_unpacker_names Fl_impl_unpacker_names
attribute [go_sem] lk_impl_unpacker_names_39
def E_impl_unpacker_names_l1 (t7 : Int) : (Unpacker × (List (List UInt8)) × Int) → St
  | (u, out, t8) => ⟨[.ref 31 0 0, .any, .own 3200032, .any, .int .i64 t7, .int .i64 t8, .any], [], [(31, ⟨2, [Unpacker_av u]⟩), (3200032, ⟨1, List.map AV.str out⟩)], true⟩
def R_impl_unpacker_names_l1 (t7 : Int) : ((Unpacker × (List (List UInt8))) ⊕ (Unpacker × (List (List UInt8)))) → Res
  | .inl y => (.exit 0, ⟨[.ref 31 0 0, .any, .own 3200032, .any, .any, .any, .any], [], [(31, ⟨2, [Unpacker_av y.1]⟩), (3200032, ⟨1, List.map AV.str y.2⟩)], true⟩)
  | .inr y => (.ret, ⟨[.ref 31 0 0, .own 3200032, .any, .any, .any, .any, .any], [], [(31, ⟨2, [Unpacker_av y.1]⟩), (3200032, ⟨1, List.map AV.str y.2⟩)], true⟩)
theorem impl_unpacker_names_l1_ex {t7 : Int} {sgm_ : Unpacker × (List (List UInt8)) × Int} {rho_ : (Unpacker × (List (List UInt8))) ⊕ (Unpacker × (List (List UInt8)))} (h : whileE (impl_unpacker_names_l1 t7) sgm_ = some rho_) : ∃ L0, ∀ L, L0 ≤ L → iter (exec (look t_impl_unpacker_names) L ir38_b0) ir38_k0 ir38_o0 ir38_r0 L (E_impl_unpacker_names_l1 t7 sgm_) = R_impl_unpacker_names_l1 t7 rho_ := by
  refine loop_ex (E := E_impl_unpacker_names_l1 t7) (R := R_impl_unpacker_names_l1 t7) (fun y => by first | (intro c; cases c) | (rcases y with y | y <;> (intro c; cases c)) | (rcases y with y | y | y <;> (intro c; cases c))) ?_ h
  clear h
  rintro ⟨u, out, t8⟩ o_ h
  dsimp only [impl_unpacker_names_l1] at h
  rcases it_some h with ⟨hk2, h⟩ | ⟨hk2, h⟩
  · try simp only [go_sem, n1, n2, n3, n4] at hk2
    all_goals
    obtain ⟨y_3, hk3, h⟩ := bd_some h
    have fhk3 := Fs_impl_unpacker_number hk3
    try simp only [go_sem, hk2] at fhk3
    rcases it_some h with ⟨hk4, h⟩ | ⟨hk4, h⟩
    · try simp only [go_sem, n1, n2, n3, n4, hk2] at hk4
      all_goals
      obtain rfl := so_some h
      refine ⟨0, fun L hL => ?_⟩
      simp only [go_sem, ir38, E_impl_unpacker_names_l1, R_impl_unpacker_names_l1, ir38_b0, ir38_k0, ir38_o0, ir38_r0, hk2, fhk3, hk4]
    · try simp only [go_sem, n1, n2, n3, n4, hk2] at hk4
      all_goals
      obtain ⟨hk5, h⟩ := ck_some h
      try simp only [go_sem, n1, n2, n3, n4, hk2, hk4] at hk5
      all_goals
      obtain ⟨hk6, h⟩ := ck_some h
      try simp only [go_sem, n1, n2, n3, n4, hk2, hk4, hk5] at hk6
      all_goals
      obtain ⟨hk7, h⟩ := ck_some h
      try simp only [go_sem, n1, n2, n3, n4, hk2, hk4, hk5, hk6] at hk7
      all_goals
      obtain rfl := so_some h
      refine ⟨0, fun L hL => ?_⟩
      simp only [go_sem, ir38, E_impl_unpacker_names_l1, R_impl_unpacker_names_l1, ir38_b0, ir38_k0, ir38_o0, ir38_r0, hk2, fhk3, hk4, hk5, hk6, hk7]
  · try simp only [go_sem, n1, n2, n3, n4] at hk2
    all_goals
    obtain rfl := so_some h
    refine ⟨0, fun L hL => ?_⟩
    simp only [go_sem, ir38, E_impl_unpacker_names_l1, R_impl_unpacker_names_l1, ir38_b0, ir38_k0, ir38_o0, ir38_r0, hk2]

theorem Fs_impl_unpacker_names {u : Unpacker} {y_ : (List (List UInt8)) × Unpacker} (h : impl_unpacker_names u = some y_) : c_impl_unpacker_names.F [.mem 2 [Unpacker_av u]] = ⟨true, .fresh 1 (List.map AV.str y_.1), [.mem 2 [Unpacker_av y_.2]]⟩ := by
  refine mkN_E ?_
  dsimp only [impl_unpacker_names] at h
  obtain ⟨y_1, hk1, h⟩ := bd_some h
  have fhk1 := Fs_impl_unpacker_number hk1
  try simp only [go_sem] at fhk1
  obtain ⟨y_8, hk8, h⟩ := bd_some h
  obtain ⟨Lhk8, ehk8⟩ := impl_unpacker_names_l1_ex hk8
  rcases y_8 with y_8a | y_8b
  · dsimp only at h
    obtain rfl := so_some h
    refine ⟨Lhk8, fun L hL => ?_⟩
    have ehk8 := ehk8 L (by omega)
    try simp only [go_sem, E_impl_unpacker_names_l1, R_impl_unpacker_names_l1, ir38_k0, ir38_o0, ir38_r0] at ehk8
    simp only [go_sem, ir38, E_impl_unpacker_names_l1, R_impl_unpacker_names_l1, ir38_k0, ir38_o0, ir38_r0, fhk1, ehk8]
  · dsimp only at h
    obtain rfl := so_some h
    refine ⟨Lhk8, fun L hL => ?_⟩
    have ehk8 := ehk8 L (by omega)
    try simp only [go_sem, E_impl_unpacker_names_l1, R_impl_unpacker_names_l1, ir38_k0, ir38_o0, ir38_r0] at ehk8
    simp only [go_sem, ir38, E_impl_unpacker_names_l1, R_impl_unpacker_names_l1, ir38_k0, ir38_o0, ir38_r0, fhk1, ehk8]


def ir40_v : List Nat := [0, 2]
def ir40 : AFn := ⟨1, 2, .seq (.region false [
    ⟨.var 1, 2, none, .mov (.c (.int .i64 (0)))⟩])
 (.seq (.region false [
    ⟨.push, 3, none, .mov (.v 0)⟩,
    ⟨.push, 4, none, .len false (.s 0)⟩,
    ⟨.var 1, 2, none, .mov (.s 0)⟩])
 (.ret)), [.t 1]⟩
noncomputable def t_impl_count_string : List (Nat × Ctr) := []
noncomputable def c_impl_count_string : Ctr := mkF t_impl_count_string ir40 [.bor]
theorem s_impl_count_string : Sound Try.prog 40 c_impl_count_string := mkF_sound _ rfl snd_nil (by kernel_rfl : chkFn Try.prog 40 ir40 ir40_v = true)
theorem M_impl_count_string : c_impl_count_string.modes = [.bor] := rfl
theorem Fl_impl_count_string : c_impl_count_string.flat = true := rfl
attribute [go_sem] M_impl_count_string Fl_impl_count_string
theorem Fs_impl_count_string {list : List (List UInt8)} {y_ : Int} (h : impl_count_string list = some y_) : c_impl_count_string.F [.sl 1 (List.map AV.str list)] = ⟨true, .int .i64 y_, [.any]⟩ := by
  refine mkF_E rfl ?_
  dsimp only [impl_count_string] at h
  obtain rfl := so_some h
  refine ⟨0, fun L hL => ?_⟩
  simp only [go_sem, ir40]


def ir41_v : List Nat := [0, 2]
def ir41 : AFn := ⟨1, 2, .seq (.region false [
    ⟨.var 1, 2, none, .mov (.c (.int .i64 (0)))⟩])
 (.seq (.test false [
    ⟨.push, 3, none, .mov (.v 0)⟩,
    ⟨.push, 4, none, .bin false .rem (.s 0) (.c (.int .i64 (2)))⟩,
    ⟨.push, 5, none, .bin false .eql (.s 0) (.c (.int .i64 (1)))⟩] (.s 0)
  (.seq (.region false [
      ⟨.push, 6, none, .mov (.v 0)⟩,
      ⟨.push, 7, none, .bin false .add (.s 0) (.c (.int .i64 (1)))⟩,
      ⟨.push, 8, none, .un .neg (.s 0)⟩,
      ⟨.push, 9, none, .bin false .quo (.s 0) (.c (.int .i64 (2)))⟩,
      ⟨.var 1, 2, none, .mov (.s 0)⟩])
   (.ret))
  (.skip))
 (.seq (.region false [
    ⟨.push, 10, none, .mov (.v 0)⟩,
    ⟨.push, 11, none, .bin false .quo (.s 0) (.c (.int .i64 (2)))⟩,
    ⟨.var 1, 2, none, .mov (.s 0)⟩])
 (.ret))), [.t 1]⟩
noncomputable def t_impl_unfold : List (Nat × Ctr) := []
noncomputable def c_impl_unfold : Ctr := mkF t_impl_unfold ir41 [.bor]
theorem s_impl_unfold : Sound Try.prog 41 c_impl_unfold := mkF_sound _ rfl snd_nil (by kernel_rfl : chkFn Try.prog 41 ir41 ir41_v = true)
theorem M_impl_unfold : c_impl_unfold.modes = [.bor] := rfl
theorem Fl_impl_unfold : c_impl_unfold.flat = true := rfl
attribute [go_sem] M_impl_unfold Fl_impl_unfold
theorem Fs_impl_unfold {n : Int} {y_ : Int} (h : impl_unfold n = some y_) : c_impl_unfold.F [.int .i64 n] = ⟨true, .int .i64 y_, [.any]⟩ := by
  refine mkF_E rfl ?_
  dsimp only [impl_unfold] at h
  obtain ⟨hk1, h⟩ := ck_some h
  try simp only [go_sem, n1, n2, n3, n4] at hk1
  all_goals
  rcases it_some h with ⟨hk2, h⟩ | ⟨hk2, h⟩
  · try simp only [go_sem, n1, n2, n3, n4, hk1] at hk2
    all_goals
    obtain rfl := so_some h
    refine ⟨0, fun L hL => ?_⟩
    simp only [go_sem, ir41, hk1, hk2]
  · try simp only [go_sem, n1, n2, n3, n4, hk1] at hk2
    all_goals
    obtain rfl := so_some h
    refine ⟨0, fun L hL => ?_⟩
    simp only [go_sem, ir41, hk1, hk2]


def ir56_v : List Nat := [0, 1, 3]
def ir56 : AFn := ⟨2, 3, .seq (.region false [
    ⟨.var 2, 3, none, .mov (.c (.bool false))⟩])
 (.seq (.region false [
    ⟨.push, 4, none, .mov (.v 0)⟩,
    ⟨.push, 5, none, .load false 1 (.v 1)⟩,
    ⟨.push, 6, none, .bin false .eql (.s 1) (.s 0)⟩,
    ⟨.var 2, 3, none, .mov (.s 0)⟩])
 (.ret)), [.t 2]⟩
noncomputable def t_impl_placeOf_c1 : List (Nat × Ctr) := []
noncomputable def c_impl_placeOf_c1 : Ctr := mkF t_impl_placeOf_c1 ir56 [.bor, .bor]
theorem s_impl_placeOf_c1 : Sound Try.prog 56 c_impl_placeOf_c1 := mkF_sound _ rfl snd_nil (by kernel_rfl : chkFn Try.prog 56 ir56 ir56_v = true)
theorem M_impl_placeOf_c1 : c_impl_placeOf_c1.modes = [.bor, .bor] := rfl
theorem Fl_impl_placeOf_c1 : c_impl_placeOf_c1.flat = true := rfl
attribute [go_sem] M_impl_placeOf_c1 Fl_impl_placeOf_c1
theorem Fs_impl_placeOf_c1 {s_ : List UInt8} {t1 : List UInt8} {y_ : Bool} (h : impl_placeOf_c1 s_ t1 = some y_) : c_impl_placeOf_c1.F [.str s_, .ptr 1 [.str t1] 0 0] = ⟨true, .bool y_, [.any, .any]⟩ := by
  refine mkF_E rfl ?_
  dsimp only [impl_placeOf_c1] at h
  obtain rfl := so_some h
  refine ⟨0, fun L hL => ?_⟩
  simp only [go_sem, ir56]


def ir75_b0 : IR := .seq (.region false [
    ⟨.var 6, 9, none, .bin false .lss (.v 5) (.v 4)⟩])
 (.seq (.cond (.v 6) (.skip)
  (.exit 0))
 (.seq (.block 1 (.seq (.region false [
      ⟨.push, 10, none, .mov (.v 5)⟩,
      ⟨.var 3, 5, none, .mov (.s 0)⟩])
   (.test false [
     ⟨.push, 11, none, .mov (.v 1)⟩,
     ⟨.push, 12, none, .mov (.v 0)⟩,
     ⟨.push, 13, none, .mov (.v 3)⟩,
     ⟨.push, 14, none, .ixAddr 1 (.s 1) (.s 0)⟩,
     ⟨.push, 15, none, .load false 1 (.s 0)⟩,
     ⟨.push, 16, none, .callv (.s 4) [(.s 0)]⟩] (.s 0)
   (.seq (.region false [
       ⟨.push, 17, none, .mov (.v 3)⟩,
       ⟨.var 2, 4, none, .mov (.s 0)⟩])
    (.ret))
   (.skip))))
 (.region false [
   ⟨.push, 18, none, .bin false .add (.v 5) (.c (.int .i64 (1)))⟩,
   ⟨.var 5, 8, none, .mov (.s 0)⟩])))
def ir75_k0 : List Bool := [true, true, false, false, true, true, false]
def ir75_o0 : List Bool := [false, false, false, false, false, false, false]
def ir75_r0 : List Bool := [false, false, true, false, false, false, false]
def ir75_v : List Nat := [0, 1, 4, 5, 7, 8, 9]
def ir75 : AFn := ⟨2, 7, .seq (.region false [
    ⟨.var 2, 4, none, .mov (.c (.int .i64 (0)))⟩])
 (.seq (.seq (.region false [
     ⟨.push, 6, none, .mov (.v 0)⟩,
     ⟨.var 4, 7, none, .len false (.s 0)⟩,
     ⟨.var 5, 8, none, .mov (.c (.int .i64 (0)))⟩])
  (.block 0 (.loop ir75_k0 ir75_o0 ir75_r0 ir75_b0)))
 (.seq (.region false [
    ⟨.var 2, 4, none, .mov (.c (.int .i64 (-1)))⟩])
 (.ret))), [.t 2]⟩
noncomputable def t_slices_IndexFunc_string_string__impl_placeOf_c1 : List (Nat × Ctr) := [(56, c_impl_placeOf_c1)]
theorem lk_slices_IndexFunc_string_string__impl_placeOf_c1_56 : look t_slices_IndexFunc_string_string__impl_placeOf_c1 56 = some c_impl_placeOf_c1 := rfl
noncomputable def c_slices_IndexFunc_string_string__impl_placeOf_c1 : Ctr := mkF t_slices_IndexFunc_string_string__impl_placeOf_c1 ir75 [.bor, .bor]
theorem s_slices_IndexFunc_string_string__impl_placeOf_c1 : Sound Try.prog 75 c_slices_IndexFunc_string_string__impl_placeOf_c1 := mkF_sound _ rfl (snd_cons s_impl_placeOf_c1 snd_nil) (by kernel_rfl : chkFn Try.prog 75 ir75 ir75_v = true)
theorem M_slices_IndexFunc_string_string__impl_placeOf_c1 : c_slices_IndexFunc_string_string__impl_placeOf_c1.modes = [.bor, .bor] := rfl
theorem Fl_slices_IndexFunc_string_string__impl_placeOf_c1 : c_slices_IndexFunc_string_string__impl_placeOf_c1.flat = true := rfl
attribute [go_sem] M_slices_IndexFunc_string_string__impl_placeOf_c1 Fl_slices_IndexFunc_string_string__impl_placeOf_c1
attribute [go_sem] lk_slices_IndexFunc_string_string__impl_placeOf_c1_56
def E_slices_IndexFunc_string_string__impl_placeOf_c1_l1 (s_ : List (List UInt8)) (c : List UInt8) (t7 : Int) : Int → St
  | t8 => ⟨[.sl 1 (List.map AV.str s_), .fn (.func 56) [] [.ptr 1 [.str c] 0 0], .any, .any, .int .i64 t7, .int .i64 t8, .any], [], [], true⟩
def R_slices_IndexFunc_string_string__impl_placeOf_c1_l1 (s_ : List (List UInt8)) (c : List UInt8) (t7 : Int) : (Unit ⊕ Int) → Res
  | .inl y => (.exit 0, ⟨[.any, .any, .any, .any, .any, .any, .any], [], [], true⟩)
  | .inr y => (.ret, ⟨[.any, .any, .int .i64 y, .any, .any, .any, .any], [], [], true⟩)
theorem slices_IndexFunc_string_string__impl_placeOf_c1_l1_ex {s_ : List (List UInt8)} {c : List UInt8} {t7 : Int} {sgm_ : Int} {rho_ : Unit ⊕ Int} (h : whileE (slices_IndexFunc_string_string__impl_placeOf_c1_l1 s_ c t7) sgm_ = some rho_) : ∃ L0, ∀ L, L0 ≤ L → iter (exec (look t_slices_IndexFunc_string_string__impl_placeOf_c1) L ir75_b0) ir75_k0 ir75_o0 ir75_r0 L (E_slices_IndexFunc_string_string__impl_placeOf_c1_l1 s_ c t7 sgm_) = R_slices_IndexFunc_string_string__impl_placeOf_c1_l1 s_ c t7 rho_ := by
  refine loop_ex (E := E_slices_IndexFunc_string_string__impl_placeOf_c1_l1 s_ c t7) (R := R_slices_IndexFunc_string_string__impl_placeOf_c1_l1 s_ c t7) (fun y => by first | (intro c; cases c) | (rcases y with y | y <;> (intro c; cases c)) | (rcases y with y | y | y <;> (intro c; cases c))) ?_ h
  clear h
  intro t8 o_ h
  dsimp only [slices_IndexFunc_string_string__impl_placeOf_c1_l1] at h
  rcases it_some h with ⟨hk1, h⟩ | ⟨hk1, h⟩
  · try simp only [go_sem, n1, n2, n3, n4] at hk1
    all_goals
    obtain ⟨hk2, h⟩ := ck_some h
    have lhk2 := ix_lt hk2
    have xhk2 := getD_mapD AV.str s_ lhk2
    try simp only [go_sem] at lhk2
    try simp only [go_sem] at xhk2
    try simp only [go_sem, n1, n2, n3, n4, hk1] at hk2
    all_goals
    obtain ⟨y_3, hk3, h⟩ := bd_some h
    have fhk3 := Fs_impl_placeOf_c1 hk3
    try simp only [go_sem, hk1, hk2] at fhk3
    rcases it_some h with ⟨hk4, h⟩ | ⟨hk4, h⟩
    · try simp only [go_sem, n1, n2, n3, n4, hk1, hk2] at hk4
      all_goals
      obtain rfl := so_some h
      refine ⟨0, fun L hL => ?_⟩
      simp only [go_sem, ir75, E_slices_IndexFunc_string_string__impl_placeOf_c1_l1, R_slices_IndexFunc_string_string__impl_placeOf_c1_l1, ir75_b0, ir75_k0, ir75_o0, ir75_r0, hk1, hk2, lhk2, xhk2, fhk3, hk4]
    · try simp only [go_sem, n1, n2, n3, n4, hk1, hk2] at hk4
      all_goals
      obtain rfl := so_some h
      refine ⟨0, fun L hL => ?_⟩
      simp only [go_sem, ir75, E_slices_IndexFunc_string_string__impl_placeOf_c1_l1, R_slices_IndexFunc_string_string__impl_placeOf_c1_l1, ir75_b0, ir75_k0, ir75_o0, ir75_r0, hk1, hk2, lhk2, xhk2, fhk3, hk4]
  · try simp only [go_sem, n1, n2, n3, n4] at hk1
    all_goals
    obtain rfl := so_some h
    refine ⟨0, fun L hL => ?_⟩
    simp only [go_sem, ir75, E_slices_IndexFunc_string_string__impl_placeOf_c1_l1, R_slices_IndexFunc_string_string__impl_placeOf_c1_l1, ir75_b0, ir75_k0, ir75_o0, ir75_r0, hk1]

theorem Fs_slices_IndexFunc_string_string__impl_placeOf_c1 {s_ : List (List UInt8)} {f_c0 : List UInt8} {y_ : Int} (h : slices_IndexFunc_string_string__impl_placeOf_c1 s_ f_c0 = some y_) : c_slices_IndexFunc_string_string__impl_placeOf_c1.F [.sl 1 (List.map AV.str s_), .fn (.func 56) [] [.ptr 1 [.str f_c0] 0 0]] = ⟨true, .int .i64 y_, [.any, .any]⟩ := by
  refine mkF_E rfl ?_
  dsimp only [slices_IndexFunc_string_string__impl_placeOf_c1] at h
  obtain ⟨y_5, hk5, h⟩ := bd_some h
  obtain ⟨Lhk5, ehk5⟩ := slices_IndexFunc_string_string__impl_placeOf_c1_l1_ex hk5
  rcases y_5 with y_5a | y_5b
  · dsimp only at h
    obtain rfl := so_some h
    refine ⟨Lhk5, fun L hL => ?_⟩
    have ehk5 := ehk5 L (by omega)
    try simp only [go_sem, E_slices_IndexFunc_string_string__impl_placeOf_c1_l1, R_slices_IndexFunc_string_string__impl_placeOf_c1_l1, ir75_k0, ir75_o0, ir75_r0] at ehk5
    simp only [go_sem, ir75, E_slices_IndexFunc_string_string__impl_placeOf_c1_l1, R_slices_IndexFunc_string_string__impl_placeOf_c1_l1, ir75_k0, ir75_o0, ir75_r0, ehk5]
  · dsimp only at h
    obtain rfl := so_some h
    refine ⟨Lhk5, fun L hL => ?_⟩
    have ehk5 := ehk5 L (by omega)
    try simp only [go_sem, E_slices_IndexFunc_string_string__impl_placeOf_c1_l1, R_slices_IndexFunc_string_string__impl_placeOf_c1_l1, ir75_k0, ir75_o0, ir75_r0] at ehk5
    simp only [go_sem, ir75, E_slices_IndexFunc_string_string__impl_placeOf_c1_l1, R_slices_IndexFunc_string_string__impl_placeOf_c1_l1, ir75_k0, ir75_o0, ir75_r0, ehk5]


def ir55_v : List Nat := [0, 1, 4, 5, 6]
def ir55 : AFn := ⟨2, 5, .seq (.region false [
    ⟨.var 2, 4, none, .mov (.c (.int .i64 (0)))⟩,
    ⟨.var 3, 5, none, .mov (.c (.int .i64 (0)))⟩])
 (.seq (.seq (.region false [
     ⟨.push, 7, none, .mov (.v 0)⟩,
     ⟨.push, 8, none, .mov (.v 1)⟩,
     ⟨.push, 9, none, .call 75 [(.s 1), (.s 0)]⟩,
     ⟨.var 4, 6, none, .mov (.s 0)⟩])
  (.test false [
    ⟨.push, 10, none, .mov (.v 4)⟩,
    ⟨.push, 11, none, .bin false .geq (.s 0) (.c (.int .i64 (0)))⟩] (.s 0)
  (.seq (.region false [
      ⟨.push, 12, none, .mov (.v 4)⟩,
      ⟨.var 2, 4, none, .mov (.s 0)⟩,
      ⟨.var 3, 5, none, .mov (.c (.int .i64 (0)))⟩])
   (.ret))
  (.skip)))
 (.seq (.region false [
    ⟨.var 2, 4, none, .mov (.c (.int .i64 (0)))⟩,
    ⟨.var 3, 5, none, .mov (.c (.int .i64 (3)))⟩])
 (.ret))), [.t 2, .t 3]⟩
noncomputable def t_impl_indexOf_string__impl_placeOf_c1 : List (Nat × Ctr) := [(75, c_slices_IndexFunc_string_string__impl_placeOf_c1)]
theorem lk_impl_indexOf_string__impl_placeOf_c1_75 : look t_impl_indexOf_string__impl_placeOf_c1 75 = some c_slices_IndexFunc_string_string__impl_placeOf_c1 := rfl
noncomputable def c_impl_indexOf_string__impl_placeOf_c1 : Ctr := mkF t_impl_indexOf_string__impl_placeOf_c1 ir55 [.bor, .bor]
theorem s_impl_indexOf_string__impl_placeOf_c1 : Sound Try.prog 55 c_impl_indexOf_string__impl_placeOf_c1 := mkF_sound _ rfl (snd_cons s_slices_IndexFunc_string_string__impl_placeOf_c1 snd_nil) (by kernel_rfl : chkFn Try.prog 55 ir55 ir55_v = true)
theorem M_impl_indexOf_string__impl_placeOf_c1 : c_impl_indexOf_string__impl_placeOf_c1.modes = [.bor, .bor] := rfl
theorem Fl_impl_indexOf_string__impl_placeOf_c1 : c_impl_indexOf_string__impl_placeOf_c1.flat = true := rfl
attribute [go_sem] M_impl_indexOf_string__impl_placeOf_c1 Fl_impl_indexOf_string__impl_placeOf_c1
attribute [go_sem] lk_impl_indexOf_string__impl_placeOf_c1_75
theorem Fs_impl_indexOf_string__impl_placeOf_c1 {list : List (List UInt8)} {wanted_c0 : List UInt8} {y_ : Int × Int} (h : impl_indexOf_string__impl_placeOf_c1 list wanted_c0 = some y_) : c_impl_indexOf_string__impl_placeOf_c1.F [.sl 1 (List.map AV.str list), .fn (.func 56) [] [.ptr 1 [.str wanted_c0] 0 0]] = ⟨true, .tup [.int .i64 y_.1, .int .i64 y_.2], [.any, .any]⟩ := by
  refine mkF_E rfl ?_
  dsimp only [impl_indexOf_string__impl_placeOf_c1] at h
  obtain ⟨y_1, hk1, h⟩ := bd_some h
  have fhk1 := Fs_slices_IndexFunc_string_string__impl_placeOf_c1 hk1
  try simp only [go_sem] at fhk1
  rcases it_some h with ⟨hk2, h⟩ | ⟨hk2, h⟩
  · try simp only [go_sem, n1, n2, n3, n4] at hk2
    all_goals
    obtain rfl := so_some h
    refine ⟨0, fun L hL => ?_⟩
    simp only [go_sem, ir55, fhk1, hk2]
  · try simp only [go_sem, n1, n2, n3, n4] at hk2
    all_goals
    obtain rfl := so_some h
    refine ⟨0, fun L hL => ?_⟩
    simp only [go_sem, ir55, fhk1, hk2]


def ir29_v : List Nat := [0, 1, 3, 4, 5]
def ir29 : AFn := ⟨2, 5, .seq (.region false [
    ⟨.var 2, 3, none, .box (.v 1)⟩,
    ⟨.var 3, 4, none, .mov (.c (.int .i64 (0)))⟩])
 (.seq (.region false [
    ⟨.push, 8, none, .mov (.v 0)⟩,
    ⟨.push, 9, none, .mkFn (.func 56) [] [(.v 2)]⟩,
    ⟨.push, 10, none, .call 55 [(.s 1), (.s 0)]⟩,
    ⟨.push, 7, none, .mov (.s 0)⟩,
    ⟨.push, 11, none, .ext (.s 0) 0⟩,
    ⟨.push, 12, none, .ext (.s 1) 1⟩,
    ⟨.var 4, 5, none, .mov (.s 1)⟩,
    ⟨.push, 6, none, .mov (.s 0)⟩])
 (.seq (.region false [
    ⟨.push, 13, none, .mov (.v 4)⟩,
    ⟨.var 3, 4, none, .mov (.s 0)⟩])
 (.ret))), [.t 3]⟩
noncomputable def t_impl_placeOf : List (Nat × Ctr) := [(55, c_impl_indexOf_string__impl_placeOf_c1)]
theorem lk_impl_placeOf_55 : look t_impl_placeOf 55 = some c_impl_indexOf_string__impl_placeOf_c1 := rfl
noncomputable def c_impl_placeOf : Ctr := mkF t_impl_placeOf ir29 [.bor, .bor]
theorem s_impl_placeOf : Sound Try.prog 29 c_impl_placeOf := mkF_sound _ rfl (snd_cons s_impl_indexOf_string__impl_placeOf_c1 snd_nil) (by kernel_rfl : chkFn Try.prog 29 ir29 ir29_v = true)
theorem M_impl_placeOf : c_impl_placeOf.modes = [.bor, .bor] := rfl
theorem Fl_impl_placeOf : c_impl_placeOf.flat = true := rfl
attribute [go_sem] M_impl_placeOf Fl_impl_placeOf
attribute [go_sem] lk_impl_placeOf_55
theorem Fs_impl_placeOf {names : List (List UInt8)} {name : List UInt8} {y_ : Int} (h : impl_placeOf names name = some y_) : c_impl_placeOf.F [.sl 1 (List.map AV.str names), .str name] = ⟨true, .int .i64 y_, [.any, .any]⟩ := by
  refine mkF_E rfl ?_
  dsimp only [impl_placeOf] at h
  obtain ⟨y_1, hk1, h⟩ := bd_some h
  have fhk1 := Fs_impl_indexOf_string__impl_placeOf_c1 hk1
  try simp only [go_sem] at fhk1
  obtain rfl := so_some h
  refine ⟨0, fun L hL => ?_⟩
  simp only [go_sem, ir29, fhk1]


def ir30_v : List Nat := [0, 2]
def ir30 : AFn := ⟨1, 2, .seq (.region false [
    ⟨.var 1, 2, none, .mov (.c (.int .i64 (0)))⟩])
 (.seq (.test false [
    ⟨.push, 3, none, .mov (.v 0)⟩,
    ⟨.push, 4, none, .bin false .lss (.s 0) (.c (.int .i64 (0)))⟩] (.s 0)
  (.seq (.region false [
      ⟨.push, 5, none, .mov (.v 0)⟩,
      ⟨.push, 6, none, .bin false .mul (.c (.int .i64 (-2))) (.s 0)⟩,
      ⟨.push, 7, none, .bin false .sub (.s 0) (.c (.int .i64 (1)))⟩,
      ⟨.var 1, 2, none, .mov (.s 0)⟩])
   (.ret))
  (.skip))
 (.seq (.region false [
    ⟨.push, 8, none, .mov (.v 0)⟩,
    ⟨.push, 9, none, .bin false .mul (.c (.int .i64 (2))) (.s 0)⟩,
    ⟨.var 1, 2, none, .mov (.s 0)⟩])
 (.ret))), [.t 1]⟩
noncomputable def t_impl_fold : List (Nat × Ctr) := []
noncomputable def c_impl_fold : Ctr := mkF t_impl_fold ir30 [.bor]
theorem s_impl_fold : Sound Try.prog 30 c_impl_fold := mkF_sound _ rfl snd_nil (by kernel_rfl : chkFn Try.prog 30 ir30 ir30_v = true)
theorem M_impl_fold : c_impl_fold.modes = [.bor] := rfl
theorem Fl_impl_fold : c_impl_fold.flat = true := rfl
attribute [go_sem] M_impl_fold Fl_impl_fold
theorem Fs_impl_fold {n : Int} {y_ : Int} (h : impl_fold n = some y_) : c_impl_fold.F [.int .i64 n] = ⟨true, .int .i64 y_, [.any]⟩ := by
  refine mkF_E rfl ?_
  dsimp only [impl_fold] at h
  rcases it_some h with ⟨hk1, h⟩ | ⟨hk1, h⟩
  · try simp only [go_sem, n1, n2, n3, n4] at hk1
    all_goals
    obtain rfl := so_some h
    refine ⟨0, fun L hL => ?_⟩
    simp only [go_sem, ir30, hk1]
  · try simp only [go_sem, n1, n2, n3, n4] at hk1
    all_goals
    obtain rfl := so_some h
    refine ⟨0, fun L hL => ?_⟩
    simp only [go_sem, ir30, hk1]


def ir80_v : List Nat := [0, 1, 2, 6]
def ir80 : AFn := ⟨3, 4, .seq (.region false [
    ⟨.var 3, 6, none, .mov (.c (.bool false))⟩])
 (.seq (.region false [
    ⟨.push, 7, none, .mov (.v 0)⟩,
    ⟨.push, 8, none, .mov (.v 1)⟩,
    ⟨.push, 9, none, .bin false .geq (.s 1) (.s 0)⟩,
    ⟨.push, 10, none, .mov (.s 0)⟩,
    ⟨.push, 11, (some ((.s 0), true)), .mov (.v 0)⟩,
    ⟨.push, 12, (some ((.s 1), true)), .mov (.v 2)⟩,
    ⟨.push, 13, (some ((.s 2), true)), .bin false .leq (.s 1) (.s 0)⟩,
    ⟨.push, 14, none, .pick (.s 3) (.s 0) (.c (.bool false))⟩,
    ⟨.var 3, 6, none, .mov (.s 0)⟩])
 (.ret)), [.t 3]⟩
noncomputable def t_impl_in : List (Nat × Ctr) := []
noncomputable def c_impl_in : Ctr := mkF t_impl_in ir80 [.bor, .bor, .bor]
theorem s_impl_in : Sound Try.prog 80 c_impl_in := mkF_sound _ rfl snd_nil (by kernel_rfl : chkFn Try.prog 80 ir80 ir80_v = true)
theorem M_impl_in : c_impl_in.modes = [.bor, .bor, .bor] := rfl
theorem Fl_impl_in : c_impl_in.flat = true := rfl
attribute [go_sem] M_impl_in Fl_impl_in
theorem Fs_impl_in {n : Int} {low : Int} {high : Int} {y_ : Bool} (h : impl_in n low high = some y_) : c_impl_in.F [.int .i64 n, .int .i64 low, .int .i64 high] = ⟨true, .bool y_, [.any, .any, .any]⟩ := by
  refine mkF_E rfl ?_
  dsimp only [impl_in] at h
  obtain rfl := so_some h
  refine ⟨0, fun L hL => ?_⟩
  simp only [go_sem, ir80]


def ir67_v : List Nat := [0, 2]
def ir67 : AFn := ⟨1, 2, .seq (.region false [
    ⟨.var 1, 2, none, .mov (.c (.bool false))⟩])
 (.seq (.region false [
    ⟨.push, 3, none, .mov (.v 0)⟩,
    ⟨.push, 4, none, .call 80 [(.s 0), (.c (.int .i64 (0))), (.c (.int .i64 (10000000)))]⟩,
    ⟨.var 1, 2, none, .mov (.s 0)⟩])
 (.ret)), [.t 1]⟩
noncomputable def t_impl_ValidTime : List (Nat × Ctr) := [(80, c_impl_in)]
theorem lk_impl_ValidTime_80 : look t_impl_ValidTime 80 = some c_impl_in := rfl
noncomputable def c_impl_ValidTime : Ctr := mkF t_impl_ValidTime ir67 [.bor]
theorem s_impl_ValidTime : Sound Try.prog 67 c_impl_ValidTime := mkF_sound _ rfl (snd_cons s_impl_in snd_nil) (by kernel_rfl : chkFn Try.prog 67 ir67 ir67_v = true)
theorem M_impl_ValidTime : c_impl_ValidTime.modes = [.bor] := rfl
theorem Fl_impl_ValidTime : c_impl_ValidTime.flat = true := rfl
attribute [go_sem] M_impl_ValidTime Fl_impl_ValidTime
attribute [go_sem] lk_impl_ValidTime_80
theorem Fs_impl_ValidTime {t : Int} {y_ : Bool} (h : impl_ValidTime t = some y_) : c_impl_ValidTime.F [.int .i64 t] = ⟨true, .bool y_, [.any]⟩ := by
  refine mkF_E rfl ?_
  dsimp only [impl_ValidTime] at h
  obtain ⟨y_1, hk1, h⟩ := bd_some h
  have fhk1 := Fs_impl_in hk1
  try simp only [go_sem] at fhk1
  obtain rfl := so_some h
  refine ⟨0, fun L hL => ?_⟩
  simp only [go_sem, ir67, fhk1]


def ir68_b0 : IR := .seq (.region false [
    ⟨.var 7, 17, none, .bin false .lss (.v 6) (.v 5)⟩])
 (.seq (.cond (.v 7) (.skip)
  (.exit 0))
 (.seq (.block 1 (.seq (.region false [
      ⟨.push, 18, none, .mov (.v 6)⟩,
      ⟨.var 2, 3, none, .mov (.s 0)⟩])
   (.seq (.region false [
      ⟨.push, 19, none, .mov (.v 0)⟩,
      ⟨.push, 20, none, .mov (.v 2)⟩,
      ⟨.push, 21, none, .ixStr (.s 1) (.s 0)⟩,
      ⟨.push, 22, none, .bin false .geq (.s 0) (.c (.int .u8 (97)))⟩,
      ⟨.push, 23, none, .mov (.s 0)⟩,
      ⟨.push, 24, (some ((.s 0), true)), .mov (.v 0)⟩,
      ⟨.push, 25, (some ((.s 1), true)), .mov (.v 2)⟩,
      ⟨.push, 26, (some ((.s 2), true)), .ixStr (.s 1) (.s 0)⟩,
      ⟨.push, 27, (some ((.s 3), true)), .bin false .leq (.s 0) (.c (.int .u8 (122)))⟩,
      ⟨.push, 28, none, .pick (.s 4) (.s 0) (.c (.bool false))⟩,
      ⟨.var 3, 4, none, .mov (.s 0)⟩])
   (.seq (.region false [
      ⟨.push, 29, none, .mov (.v 0)⟩,
      ⟨.push, 30, none, .mov (.v 2)⟩,
      ⟨.push, 31, none, .ixStr (.s 1) (.s 0)⟩,
      ⟨.push, 32, none, .bin false .geq (.s 0) (.c (.int .u8 (48)))⟩,
      ⟨.push, 33, none, .mov (.s 0)⟩,
      ⟨.push, 34, (some ((.s 0), true)), .mov (.v 0)⟩,
      ⟨.push, 35, (some ((.s 1), true)), .mov (.v 2)⟩,
      ⟨.push, 36, (some ((.s 2), true)), .ixStr (.s 1) (.s 0)⟩,
      ⟨.push, 37, (some ((.s 3), true)), .bin false .leq (.s 0) (.c (.int .u8 (57)))⟩,
      ⟨.push, 38, none, .pick (.s 4) (.s 0) (.c (.bool false))⟩,
      ⟨.push, 39, none, .mov (.s 0)⟩,
      ⟨.push, 40, (some ((.s 0), false)), .mov (.v 0)⟩,
      ⟨.push, 41, (some ((.s 1), false)), .mov (.v 2)⟩,
      ⟨.push, 42, (some ((.s 2), false)), .ixStr (.s 1) (.s 0)⟩,
      ⟨.push, 43, (some ((.s 3), false)), .bin false .eql (.s 0) (.c (.int .u8 (45)))⟩,
      ⟨.push, 44, none, .pick (.s 4) (.c (.bool true)) (.s 0)⟩,
      ⟨.var 4, 5, none, .mov (.s 0)⟩])
   (.test false [
     ⟨.push, 45, none, .mov (.v 3)⟩,
     ⟨.push, 46, none, .un .not (.s 0)⟩,
     ⟨.push, 47, none, .mov (.s 0)⟩,
     ⟨.push, 48, (some ((.s 0), true)), .mov (.v 2)⟩,
     ⟨.push, 49, (some ((.s 1), true)), .bin false .eql (.s 0) (.c (.int .i64 (0)))⟩,
     ⟨.push, 50, (some ((.s 2), true)), .mov (.s 0)⟩,
     ⟨.push, 51, (some ((.s 0), false)), .mov (.v 4)⟩,
     ⟨.push, 52, (some ((.s 1), false)), .un .not (.s 0)⟩,
     ⟨.push, 53, (some ((.s 5), true)), .pick (.s 2) (.c (.bool true)) (.s 0)⟩,
     ⟨.push, 54, none, .pick (.s 6) (.s 0) (.c (.bool false))⟩] (.s 0)
   (.seq (.region false [
       ⟨.var 1, 2, none, .mov (.c (.bool false))⟩])
    (.ret))
   (.skip))))))
 (.region false [
   ⟨.push, 55, none, .bin false .add (.v 6) (.c (.int .i64 (1)))⟩,
   ⟨.var 6, 16, none, .mov (.s 0)⟩])))
def ir68_k0 : List Bool := [true, false, false, false, false, true, true, false]
def ir68_o0 : List Bool := [false, false, false, false, false, false, false, false]
def ir68_r0 : List Bool := [false, true, false, false, false, false, false, false]
def ir68_v : List Nat := [0, 2, 3, 4, 5, 15, 16, 17]
def ir68 : AFn := ⟨1, 8, .seq (.region false [
    ⟨.var 1, 2, none, .mov (.c (.bool false))⟩])
 (.seq (.test false [
    ⟨.push, 6, none, .mov (.v 0)⟩,
    ⟨.push, 7, none, .len true (.s 0)⟩,
    ⟨.push, 8, none, .bin false .lss (.s 0) (.c (.int .i64 (1)))⟩,
    ⟨.push, 9, none, .mov (.s 0)⟩,
    ⟨.push, 10, (some ((.s 0), false)), .mov (.v 0)⟩,
    ⟨.push, 11, (some ((.s 1), false)), .len true (.s 0)⟩,
    ⟨.push, 12, (some ((.s 2), false)), .bin false .gtr (.s 0) (.c (.int .i64 (12)))⟩,
    ⟨.push, 13, none, .pick (.s 3) (.c (.bool true)) (.s 0)⟩] (.s 0)
  (.seq (.region false [
      ⟨.var 1, 2, none, .mov (.c (.bool false))⟩])
   (.ret))
  (.skip))
 (.seq (.seq (.region false [
     ⟨.push, 14, none, .mov (.v 0)⟩,
     ⟨.var 5, 15, none, .len true (.s 0)⟩,
     ⟨.var 6, 16, none, .mov (.c (.int .i64 (0)))⟩])
  (.block 0 (.loop ir68_k0 ir68_o0 ir68_r0 ir68_b0)))
 (.seq (.region false [
    ⟨.var 1, 2, none, .mov (.c (.bool true))⟩])
 (.ret)))), [.t 1]⟩
noncomputable def t_impl_IsName : List (Nat × Ctr) := []
noncomputable def c_impl_IsName : Ctr := mkF t_impl_IsName ir68 [.bor]
theorem s_impl_IsName : Sound Try.prog 68 c_impl_IsName := mkF_sound _ rfl snd_nil (by kernel_rfl : chkFn Try.prog 68 ir68 ir68_v = true)
theorem M_impl_IsName : c_impl_IsName.modes = [.bor] := rfl
theorem Fl_impl_IsName : c_impl_IsName.flat = true := rfl
attribute [go_sem] M_impl_IsName Fl_impl_IsName
def E_impl_IsName_l1 (s_ : List UInt8) (t15 : Int) : Int → St
  | t16 => ⟨[.str s_, .any, .any, .any, .any, .int .i64 t15, .int .i64 t16, .any], [], [], true⟩
def R_impl_IsName_l1 (s_ : List UInt8) (t15 : Int) : (Unit ⊕ Bool) → Res
  | .inl y => (.exit 0, ⟨[.any, .any, .any, .any, .any, .any, .any, .any], [], [], true⟩)
  | .inr y => (.ret, ⟨[.any, .bool y, .any, .any, .any, .any, .any, .any], [], [], true⟩)
theorem impl_IsName_l1_ex {s_ : List UInt8} {t15 : Int} {sgm_ : Int} {rho_ : Unit ⊕ Bool} (h : whileE (impl_IsName_l1 s_ t15) sgm_ = some rho_) : ∃ L0, ∀ L, L0 ≤ L → iter (exec (look t_impl_IsName) L ir68_b0) ir68_k0 ir68_o0 ir68_r0 L (E_impl_IsName_l1 s_ t15 sgm_) = R_impl_IsName_l1 s_ t15 rho_ := by
  refine loop_ex (E := E_impl_IsName_l1 s_ t15) (R := R_impl_IsName_l1 s_ t15) (fun y => by first | (intro c; cases c) | (rcases y with y | y <;> (intro c; cases c)) | (rcases y with y | y | y <;> (intro c; cases c))) ?_ h
  clear h
  intro t16 o_ h
  dsimp only [impl_IsName_l1] at h
  rcases it_some h with ⟨hk2, h⟩ | ⟨hk2, h⟩
  · try simp only [go_sem, n1, n2, n3, n4] at hk2
    all_goals
    obtain ⟨hk3, h⟩ := ck_some h
    try simp only [go_sem, n1, n2, n3, n4, hk2] at hk3
    all_goals
    rcases it_some h with ⟨hk4, h⟩ | ⟨hk4, h⟩
    · try simp only [go_sem, n1, n2, n3, n4, hk2, hk3] at hk4
      all_goals
      obtain rfl := so_some h
      refine ⟨0, fun L hL => ?_⟩
      simp only [go_sem, ir68, E_impl_IsName_l1, R_impl_IsName_l1, ir68_b0, ir68_k0, ir68_o0, ir68_r0, hk2, hk3, hk4]
    · try simp only [go_sem, n1, n2, n3, n4, hk2, hk3] at hk4
      all_goals
      obtain rfl := so_some h
      refine ⟨0, fun L hL => ?_⟩
      simp only [go_sem, ir68, E_impl_IsName_l1, R_impl_IsName_l1, ir68_b0, ir68_k0, ir68_o0, ir68_r0, hk2, hk3, hk4]
  · try simp only [go_sem, n1, n2, n3, n4] at hk2
    all_goals
    obtain rfl := so_some h
    refine ⟨0, fun L hL => ?_⟩
    simp only [go_sem, ir68, E_impl_IsName_l1, R_impl_IsName_l1, ir68_b0, ir68_k0, ir68_o0, ir68_r0, hk2]

theorem Fs_impl_IsName {s_ : List UInt8} {y_ : Bool} (h : impl_IsName s_ = some y_) : c_impl_IsName.F [.str s_] = ⟨true, .bool y_, [.any]⟩ := by
  refine mkF_E rfl ?_
  dsimp only [impl_IsName] at h
  rcases it_some h with ⟨hk1, h⟩ | ⟨hk1, h⟩
  · try simp only [go_sem, n1, n2, n3, n4] at hk1
    all_goals
    obtain rfl := so_some h
    refine ⟨0, fun L hL => ?_⟩
    simp only [go_sem, ir68, E_impl_IsName_l1, R_impl_IsName_l1, ir68_k0, ir68_o0, ir68_r0, hk1]
  · try simp only [go_sem, n1, n2, n3, n4] at hk1
    all_goals
    obtain ⟨y_5, hk5, h⟩ := bd_some h
    obtain ⟨Lhk5, ehk5⟩ := impl_IsName_l1_ex hk5
    rcases y_5 with y_5a | y_5b
    · dsimp only at h
      obtain rfl := so_some h
      refine ⟨Lhk5, fun L hL => ?_⟩
      have ehk5 := ehk5 L (by omega)
      try simp only [go_sem, E_impl_IsName_l1, R_impl_IsName_l1, ir68_k0, ir68_o0, ir68_r0, hk1] at ehk5
      simp only [go_sem, ir68, E_impl_IsName_l1, R_impl_IsName_l1, ir68_k0, ir68_o0, ir68_r0, hk1, ehk5]
    · dsimp only at h
      obtain rfl := so_some h
      refine ⟨Lhk5, fun L hL => ?_⟩
      have ehk5 := ehk5 L (by omega)
      try simp only [go_sem, E_impl_IsName_l1, R_impl_IsName_l1, ir68_k0, ir68_o0, ir68_r0, hk1] at ehk5
      simp only [go_sem, ir68, E_impl_IsName_l1, R_impl_IsName_l1, ir68_k0, ir68_o0, ir68_r0, hk1, ehk5]


end Go.Proofs.Ytgbopjgnggdhkaa
