/- Codes and contracts of the functions that A5 reaches, and that their typed forms say what they do. No condition. -/
import Derived.Test.YtgbibhhblimfiaaR5T
import Derived.Test.YtgbibhhblimfiaaRows
import Derived.WalkKit
namespace Go.Proofs.Ytgbibhhblimfiaa
open Go Go.RowKit
set_option linter.unusedVariables false
set_option linter.unusedSimpArgs false
set_option maxRecDepth 10000

def ir15_b0 : IR := .seq (.test false [
    ⟨.push, 8, none, .mov (.v 3)⟩,
    ⟨.push, 9, none, .mov (.v 0)⟩,
    ⟨.push, 10, none, .len false (.s 0)⟩,
    ⟨.push, 11, none, .bin false .lss (.s 2) (.s 0)⟩] (.s 0)
  (.skip)
  (.exit 0))
 (.seq (.block 1 (.region false [
     ⟨.push, 14, none, .mov (.v 2)⟩,
     ⟨.push, 15, none, .mov (.v 3)⟩,
     ⟨.push, 16, none, .mov (.v 0)⟩,
     ⟨.push, 17, none, .mov (.v 3)⟩,
     ⟨.push, 18, none, .ixAddr 1 (.s 1) (.s 0)⟩,
     ⟨.push, 19, none, .load false 1 (.s 0)⟩,
     ⟨.push, 20, none, .ixAddr 1 (.s 5) (.s 4)⟩,
     ⟨.no, 0, none, .store 1 (.s 0) (.s 1)⟩]))
 (.region false [
   ⟨.push, 12, none, .mov (.v 3)⟩,
   ⟨.push, 13, none, .bin false .add (.s 0) (.c (.int .i64 (1)))⟩,
   ⟨.var 3, 4, none, .mov (.s 0)⟩]))
def ir15_k0 : List Bool := [true, false, true, true]
def ir15_o0 : List Bool := [false, false, true, false]
def ir15_r0 : List Bool := [false, true, false, false]
def ir15_v : List Nat := [0, 2, 3, 4]
def ir15 : AFn := ⟨1, 4, .seq (.region false [
    ⟨.var 1, 2, none, .newnil 1⟩])
 (.seq (.region false [
    ⟨.push, 5, none, .mov (.v 0)⟩,
    ⟨.push, 6, none, .len false (.s 0)⟩,
    ⟨.push, 7, none, .make 1 1 (.int .u8 (0)) (.s 0) (.s 0)⟩,
    ⟨.var 2, 3, none, .mov (.s 0)⟩])
 (.seq (.seq (.region false [
     ⟨.var 3, 4, none, .mov (.c (.int .i64 (0)))⟩])
  (.block 0 (.loop ir15_k0 ir15_o0 ir15_r0 ir15_b0)))
 (.seq (.region false [
    ⟨.push, 21, none, .mov (.v 2)⟩,
    ⟨.var 1, 2, none, .mov (.s 0)⟩])
 (.ret)))), [.t 1]⟩
noncomputable def t_laws_toByteS : List (Nat × Ctr) := []
noncomputable def c_laws_toByteS : Ctr := mkF t_laws_toByteS ir15 [.bor]
theorem s_laws_toByteS : Sound Try.prog 15 c_laws_toByteS := mkF_sound _ rfl snd_nil (by kernel_rfl : chkFn Try.prog 15 ir15 ir15_v = true)
theorem M_laws_toByteS : c_laws_toByteS.modes = [.bor] := rfl
theorem Fl_laws_toByteS : c_laws_toByteS.flat = true := rfl
attribute [go_sem] M_laws_toByteS Fl_laws_toByteS
def E_laws_toByteS_l1 (a : List UInt8) : ((List UInt8) × Int) → St
  | (out, i) => ⟨[.sl 1 (List.map byteAV a), .any, .own 3200000, .int .i64 i], [], [(3200000, ⟨1, List.map byteAV out⟩)], true⟩
def R_laws_toByteS_l1 (a : List UInt8) (y : (List UInt8)) : Res := (.exit 0, ⟨[.any, .any, .own 3200000, .any], [], [(3200000, ⟨1, List.map byteAV y⟩)], true⟩)
theorem laws_toByteS_l1_ex {a : List UInt8} {sgm_ : (List UInt8) × Int} {rho_ : (List UInt8)} (h : whileE (laws_toByteS_l1 a) sgm_ = some rho_) : ∃ L0, ∀ L, L0 ≤ L → iter (exec (look t_laws_toByteS) L ir15_b0) ir15_k0 ir15_o0 ir15_r0 L (E_laws_toByteS_l1 a sgm_) = R_laws_toByteS_l1 a rho_ := by
  refine loop_ex (E := E_laws_toByteS_l1 a) (R := R_laws_toByteS_l1 a) (fun y => by first | (intro c; cases c) | (rcases y with y | y <;> (intro c; cases c)) | (rcases y with y | y | y <;> (intro c; cases c))) ?_ h
  clear h
  rintro ⟨out, i⟩ o_ h
  dsimp only [laws_toByteS_l1] at h
  rcases it_some h with ⟨hk2, h⟩ | ⟨hk2, h⟩
  · try simp only [go_sem, n1, n2, n3, n4] at hk2
    all_goals
    obtain ⟨hk3, h⟩ := ck_some h
    have lhk3 := ix_lt hk3
    have xhk3 := getD_mapD byteAV a lhk3
    try simp only [go_sem] at lhk3
    try simp only [go_sem] at xhk3
    try simp only [go_sem, n1, n2, n3, n4, hk2] at hk3
    all_goals
    obtain ⟨hk4, h⟩ := ck_some h
    have lhk4 := ix_lt hk4
    have xhk4 := getD_mapD byteAV out lhk4
    try simp only [go_sem] at lhk4
    try simp only [go_sem] at xhk4
    try simp only [go_sem, n1, n2, n3, n4, hk2, hk3] at hk4
    all_goals
    obtain rfl := so_some h
    refine ⟨0, fun L hL => ?_⟩
    simp only [go_sem, ir15, E_laws_toByteS_l1, R_laws_toByteS_l1, ir15_b0, ir15_k0, ir15_o0, ir15_r0, hk2, hk3, lhk3, xhk3, hk4, lhk4, xhk4]
  · try simp only [go_sem, n1, n2, n3, n4] at hk2
    all_goals
    obtain rfl := so_some h
    refine ⟨0, fun L hL => ?_⟩
    simp only [go_sem, ir15, E_laws_toByteS_l1, R_laws_toByteS_l1, ir15_b0, ir15_k0, ir15_o0, ir15_r0, hk2]

theorem Fs_laws_toByteS {a : List UInt8} {y_ : (List UInt8)} (h : laws_toByteS a = some y_) : c_laws_toByteS.F [.sl 1 (List.map byteAV a)] = ⟨true, .fresh 1 (List.map byteAV y_), [.any]⟩ := by
  refine mkF_E (by simp only [flatA, flatB, flat1, List.all_cons, List.all_nil, Bool.and_self, flatE_map (f := byteAV) (fun _ => rfl)]) ?_
  dsimp only [laws_toByteS] at h
  obtain ⟨hk1, h⟩ := ck_some h
  try simp only [go_sem, n1, n2, n3, n4] at hk1
  all_goals
  obtain ⟨y_5, hk5, h⟩ := bd_some h
  obtain ⟨Lhk5, ehk5⟩ := laws_toByteS_l1_ex hk5
  obtain rfl := so_some h
  refine ⟨Lhk5, fun L hL => ?_⟩
  have ehk5 := ehk5 L (by omega)
  try simp only [go_sem, E_laws_toByteS_l1, R_laws_toByteS_l1, ir15_k0, ir15_o0, ir15_r0, hk1] at ehk5
  simp only [go_sem, ir15, E_laws_toByteS_l1, R_laws_toByteS_l1, ir15_k0, ir15_o0, ir15_r0, hk1, ehk5]


def ir58_b0 : IR := .seq (.test false [
    ⟨.push, 6, none, .mov (.v 4)⟩,
    ⟨.push, 7, none, .mov (.v 0)⟩,
    ⟨.push, 8, none, .len false (.s 0)⟩,
    ⟨.push, 9, none, .bin false .lss (.s 2) (.s 0)⟩] (.s 0)
  (.skip)
  (.exit 0))
 (.seq (.block 1 (.seq (.region false [
      ⟨.push, 12, none, .mov (.v 2)⟩,
      ⟨.push, 13, none, .mov (.v 0)⟩,
      ⟨.push, 14, none, .mov (.v 4)⟩,
      ⟨.push, 15, none, .ixAddr 1 (.s 1) (.s 0)⟩,
      ⟨.push, 16, none, .load false 1 (.s 0)⟩,
      ⟨.push, 17, none, .conv .i64 (.s 0)⟩,
      ⟨.push, 18, none, .bin false .add (.s 5) (.s 0)⟩,
      ⟨.push, 19, none, .bin false .rem (.s 0) (.c (.int .i64 (251)))⟩,
      ⟨.var 2, 3, none, .mov (.s 0)⟩])
   (.region false [
     ⟨.push, 20, none, .mov (.v 3)⟩,
     ⟨.push, 21, none, .mov (.v 2)⟩,
     ⟨.push, 22, none, .bin false .add (.s 1) (.s 0)⟩,
     ⟨.push, 23, none, .bin false .rem (.s 0) (.c (.int .i64 (251)))⟩,
     ⟨.var 3, 4, none, .mov (.s 0)⟩])))
 (.region false [
   ⟨.push, 10, none, .mov (.v 4)⟩,
   ⟨.push, 11, none, .bin false .add (.s 0) (.c (.int .i64 (1)))⟩,
   ⟨.var 4, 5, none, .mov (.s 0)⟩]))
def ir58_k0 : List Bool := [true, false, true, true, true]
def ir58_o0 : List Bool := [false, false, true, true, false]
def ir58_r0 : List Bool := [false, true, false, false, false]
def ir58_v : List Nat := [0, 2, 3, 4, 5]
def ir58 : AFn := ⟨1, 5, .seq (.region false [
    ⟨.var 1, 2, none, .mov (.c (.int .i64 (0)))⟩])
 (.seq (.region false [
    ⟨.var 2, 3, none, .mov (.c (.int .i64 (1)))⟩])
 (.seq (.region false [
    ⟨.var 3, 4, none, .mov (.c (.int .i64 (0)))⟩])
 (.seq (.seq (.region false [
     ⟨.var 4, 5, none, .mov (.c (.int .i64 (0)))⟩])
  (.block 0 (.loop ir58_k0 ir58_o0 ir58_r0 ir58_b0)))
 (.seq (.region false [
    ⟨.push, 24, none, .mov (.v 3)⟩,
    ⟨.push, 25, none, .bin false .mul (.c (.int .i64 (251))) (.s 0)⟩,
    ⟨.push, 26, none, .mov (.v 2)⟩,
    ⟨.push, 27, none, .bin false .add (.s 1) (.s 0)⟩,
    ⟨.var 1, 2, none, .mov (.s 0)⟩])
 (.ret))))), [.t 1]⟩
noncomputable def t_spec_l25Sum : List (Nat × Ctr) := []
noncomputable def c_spec_l25Sum : Ctr := mkF t_spec_l25Sum ir58 [.bor]
theorem s_spec_l25Sum : Sound Try.prog 58 c_spec_l25Sum := mkF_sound _ rfl snd_nil (by kernel_rfl : chkFn Try.prog 58 ir58 ir58_v = true)
theorem M_spec_l25Sum : c_spec_l25Sum.modes = [.bor] := rfl
theorem Fl_spec_l25Sum : c_spec_l25Sum.flat = true := rfl
attribute [go_sem] M_spec_l25Sum Fl_spec_l25Sum
def E_spec_l25Sum_l1 (b : List UInt8) : (Int × Int × Int) → St
  | (sum, all, i) => ⟨[.sl 1 (List.map byteAV b), .any, .int .i64 sum, .int .i64 all, .int .i64 i], [], [], true⟩
def R_spec_l25Sum_l1 (b : List UInt8) (y : Int × Int) : Res := (.exit 0, ⟨[.any, .any, .int .i64 y.1, .int .i64 y.2, .any], [], [], true⟩)
theorem spec_l25Sum_l1_ex {b : List UInt8} {sgm_ : Int × Int × Int} {rho_ : Int × Int} (h : whileE (spec_l25Sum_l1 b) sgm_ = some rho_) : ∃ L0, ∀ L, L0 ≤ L → iter (exec (look t_spec_l25Sum) L ir58_b0) ir58_k0 ir58_o0 ir58_r0 L (E_spec_l25Sum_l1 b sgm_) = R_spec_l25Sum_l1 b rho_ := by
  refine loop_ex (E := E_spec_l25Sum_l1 b) (R := R_spec_l25Sum_l1 b) (fun y => by first | (intro c; cases c) | (rcases y with y | y <;> (intro c; cases c)) | (rcases y with y | y | y <;> (intro c; cases c))) ?_ h
  clear h
  rintro ⟨sum, all, i⟩ o_ h
  dsimp only [spec_l25Sum_l1] at h
  rcases it_some h with ⟨hk1, h⟩ | ⟨hk1, h⟩
  · try simp only [go_sem, n1, n2, n3, n4] at hk1
    all_goals
    obtain ⟨hk2, h⟩ := ck_some h
    have lhk2 := ix_lt hk2
    have xhk2 := getD_mapD byteAV b lhk2
    try simp only [go_sem] at lhk2
    try simp only [go_sem] at xhk2
    try simp only [go_sem, n1, n2, n3, n4, hk1] at hk2
    all_goals
    obtain ⟨hk3, h⟩ := ck_some h
    try simp only [go_sem, n1, n2, n3, n4, hk1, hk2] at hk3
    all_goals
    obtain rfl := so_some h
    refine ⟨0, fun L hL => ?_⟩
    simp only [go_sem, ir58, E_spec_l25Sum_l1, R_spec_l25Sum_l1, ir58_b0, ir58_k0, ir58_o0, ir58_r0, hk1, hk2, lhk2, xhk2, hk3]
  · try simp only [go_sem, n1, n2, n3, n4] at hk1
    all_goals
    obtain rfl := so_some h
    refine ⟨0, fun L hL => ?_⟩
    simp only [go_sem, ir58, E_spec_l25Sum_l1, R_spec_l25Sum_l1, ir58_b0, ir58_k0, ir58_o0, ir58_r0, hk1]

theorem Fs_spec_l25Sum {b : List UInt8} {y_ : Int} (h : spec_l25Sum b = some y_) : c_spec_l25Sum.F [.sl 1 (List.map byteAV b)] = ⟨true, .int .i64 y_, [.any]⟩ := by
  refine mkF_E rfl ?_
  dsimp only [spec_l25Sum] at h
  obtain ⟨y_4, hk4, h⟩ := bd_some h
  obtain ⟨Lhk4, ehk4⟩ := spec_l25Sum_l1_ex hk4
  obtain rfl := so_some h
  refine ⟨Lhk4, fun L hL => ?_⟩
  have ehk4 := ehk4 L (by omega)
  try simp only [go_sem, E_spec_l25Sum_l1, R_spec_l25Sum_l1, ir58_k0, ir58_o0, ir58_r0] at ehk4
  simp only [go_sem, ir58, E_spec_l25Sum_l1, R_spec_l25Sum_l1, ir58_k0, ir58_o0, ir58_r0, ehk4]


def ir36_v : List Nat := [0, 1, 4, 5, 6]
def ir36 : AFn := ⟨2, 5, .seq (.region false [
    ⟨.var 2, 4, none, .mov (.c (.int .i64 (0)))⟩])
 (.seq (.region false [
    ⟨.push, 7, none, .mov (.v 0)⟩,
    ⟨.push, 8, none, .len false (.s 0)⟩,
    ⟨.var 3, 5, none, .mov (.s 0)⟩])
 (.seq (.test false [
    ⟨.push, 9, none, .mov (.v 3)⟩,
    ⟨.push, 10, none, .bin false .lss (.s 0) (.c (.int .i64 (3)))⟩,
    ⟨.push, 11, none, .mov (.s 0)⟩,
    ⟨.push, 12, (some ((.s 0), false)), .mov (.v 3)⟩,
    ⟨.push, 13, (some ((.s 1), false)), .bin false .gtr (.s 0) (.c (.int .i64 (8000)))⟩,
    ⟨.push, 14, none, .pick (.s 2) (.c (.bool true)) (.s 0)⟩,
    ⟨.push, 15, none, .mov (.s 0)⟩,
    ⟨.push, 16, (some ((.s 0), false)), .mov (.v 0)⟩,
    ⟨.push, 17, (some ((.s 1), false)), .ixAddr 1 (.s 0) (.c (.int .i64 (0)))⟩,
    ⟨.push, 18, (some ((.s 2), false)), .load false 1 (.s 0)⟩,
    ⟨.push, 19, (some ((.s 3), false)), .conv .i64 (.s 0)⟩,
    ⟨.push, 20, (some ((.s 4), false)), .mov (.v 1)⟩,
    ⟨.push, 21, (some ((.s 5), false)), .bin false .neq (.s 1) (.s 0)⟩,
    ⟨.push, 22, none, .pick (.s 6) (.c (.bool true)) (.s 0)⟩] (.s 0)
  (.seq (.region false [
      ⟨.var 2, 4, none, .mov (.c (.int .i64 (8)))⟩])
   (.ret))
  (.skip))
 (.seq (.anyo 14 [
    ⟨.slot 0, 23, none, .mov (.v 0)⟩,
    ⟨.slot 1, 24, none, .mov (.v 3)⟩,
    ⟨.slot 2, 25, none, .bin false .sub (.s 1) (.c (.int .i64 (2)))⟩,
    ⟨.slot 3, 26, none, .ixAddr 1 (.s 0) (.s 2)⟩,
    ⟨.slot 4, 27, none, .load false 1 (.s 3)⟩,
    ⟨.slot 5, 28, none, .conv .i64 (.s 4)⟩,
    ⟨.slot 6, 29, none, .bin false .mul (.c (.int .i64 (256))) (.s 5)⟩,
    ⟨.slot 7, 30, none, .mov (.v 0)⟩,
    ⟨.slot 8, 31, none, .mov (.v 3)⟩,
    ⟨.slot 9, 32, none, .bin false .sub (.s 8) (.c (.int .i64 (1)))⟩,
    ⟨.slot 10, 33, none, .ixAddr 1 (.s 7) (.s 9)⟩,
    ⟨.slot 11, 34, none, .load false 1 (.s 10)⟩,
    ⟨.slot 12, 35, none, .conv .i64 (.s 11)⟩,
    ⟨.slot 13, 36, none, .bin false .add (.s 6) (.s 12)⟩,
    ⟨.var 4, 6, none, .mov (.s 13)⟩] [] .skip)
 (.seq (.test false [
    ⟨.push, 37, none, .mov (.v 4)⟩,
    ⟨.push, 38, none, .mov (.v 0)⟩,
    ⟨.push, 39, none, .mov (.v 3)⟩,
    ⟨.push, 40, none, .bin false .sub (.s 0) (.c (.int .i64 (2)))⟩,
    ⟨.push, 41, none, .slice 1 (.s 2) none (some (.s 0))⟩,
    ⟨.push, 42, none, .call 58 [(.s 0)]⟩,
    ⟨.push, 43, none, .bin false .neq (.s 5) (.s 0)⟩] (.s 0)
  (.seq (.region false [
      ⟨.var 2, 4, none, .mov (.c (.int .i64 (9)))⟩])
   (.ret))
  (.skip))
 (.seq (.region false [
    ⟨.var 2, 4, none, .mov (.c (.int .i64 (0)))⟩])
 (.ret)))))), [.t 2]⟩
noncomputable def t_spec_l25Open : List (Nat × Ctr) := [(58, c_spec_l25Sum)]
theorem lk_spec_l25Open_58 : look t_spec_l25Open 58 = some c_spec_l25Sum := rfl
noncomputable def c_spec_l25Open : Ctr := mkF t_spec_l25Open ir36 [.bor, .bor]
theorem s_spec_l25Open : Sound Try.prog 36 c_spec_l25Open := mkF_sound _ rfl (snd_cons s_spec_l25Sum snd_nil) (by kernel_rfl : chkFn Try.prog 36 ir36 ir36_v = true)
theorem M_spec_l25Open : c_spec_l25Open.modes = [.bor, .bor] := rfl
theorem Fl_spec_l25Open : c_spec_l25Open.flat = true := rfl
attribute [go_sem] M_spec_l25Open Fl_spec_l25Open
attribute [go_sem] lk_spec_l25Open_58
theorem Fs_spec_l25Open {b : List UInt8} {kind : Int} {y_ : Int} (h : spec_l25Open b kind = some y_) : c_spec_l25Open.F [.sl 1 (List.map byteAV b), .int .i64 kind] = ⟨true, .int .i64 y_, [.any, .any]⟩ := by
  refine mkF_E rfl ?_
  dsimp only [spec_l25Open] at h
  obtain ⟨hk1, h⟩ := ck_some h
  rcases or_split hk1 with ⟨ghk1, hk1⟩ | ghk1
  · try simp only [go_sem, n1, n2, n3, n4] at ghk1
    all_goals
    have lhk1 := ix_lt hk1
    have xhk1 := getD_mapD byteAV b lhk1
    try simp only [go_sem] at lhk1
    try simp only [go_sem] at xhk1
    try simp only [go_sem, n1, n2, n3, n4, ghk1] at hk1
    all_goals
    rcases it_some h with ⟨hk2, h⟩ | ⟨hk2, h⟩
    · try simp only [go_sem, n1, n2, n3, n4, ghk1, hk1] at hk2
      all_goals
      obtain rfl := so_some h
      refine ⟨0, fun L hL => ?_⟩
      simp only [go_sem, ir36, ghk1, hk1, lhk1, xhk1, hk2]
    · try simp only [go_sem, n1, n2, n3, n4, ghk1, hk1] at hk2
      all_goals
      obtain ⟨hk3, h⟩ := ck_some h
      have lhk3 := ix_lt hk3
      have xhk3 := getD_mapD byteAV b lhk3
      try simp only [go_sem] at lhk3
      try simp only [go_sem] at xhk3
      try simp only [go_sem, n1, n2, n3, n4, ghk1, hk1, hk2] at hk3
      all_goals
      obtain ⟨hk4, h⟩ := ck_some h
      have lhk4 := ix_lt hk4
      have xhk4 := getD_mapD byteAV b lhk4
      try simp only [go_sem] at lhk4
      try simp only [go_sem] at xhk4
      try simp only [go_sem, n1, n2, n3, n4, ghk1, hk1, hk2, hk3] at hk4
      all_goals
      obtain ⟨hk5, h⟩ := ck_some h
      try simp only [go_sem, n1, n2, n3, n4, ghk1, hk1, hk2, hk3, hk4] at hk5
      all_goals
      obtain ⟨y_6, hk6, h⟩ := bd_some h
      have fhk6 := Fs_spec_l25Sum hk6
      try simp only [go_sem, ghk1, hk1, hk2, hk3, hk4, hk5] at fhk6
      rcases it_some h with ⟨hk7, h⟩ | ⟨hk7, h⟩
      · try simp only [go_sem, n1, n2, n3, n4, ghk1, hk1, hk2, hk3, hk4, hk5] at hk7
        all_goals
        obtain rfl := so_some h
        refine ⟨0, fun L hL => ?_⟩
        simp only [go_sem, ir36, ghk1, hk1, lhk1, xhk1, hk2, hk3, lhk3, xhk3, hk4, lhk4, xhk4, hk5, fhk6, hk7]
      · try simp only [go_sem, n1, n2, n3, n4, ghk1, hk1, hk2, hk3, hk4, hk5] at hk7
        all_goals
        obtain rfl := so_some h
        refine ⟨0, fun L hL => ?_⟩
        simp only [go_sem, ir36, ghk1, hk1, lhk1, xhk1, hk2, hk3, lhk3, xhk3, hk4, lhk4, xhk4, hk5, fhk6, hk7]
  · have ghk1n := no_f ghk1
    rcases or_t ghk1n with ghk1na | ⟨ghk1na, ghk1nb⟩
    · try simp only [go_sem, n1, n2, n3, n4] at ghk1na
      all_goals
      rcases it_some h with ⟨hk2, h⟩ | ⟨hk2, h⟩
      · try simp only [go_sem, n1, n2, n3, n4, ghk1na] at hk2
        all_goals
        obtain rfl := so_some h
        refine ⟨0, fun L hL => ?_⟩
        simp only [go_sem, ir36, ghk1na, hk2]
      · try simp only [go_sem, n1, n2, n3, n4, ghk1na] at hk2
        all_goals
        obtain ⟨hk3, h⟩ := ck_some h
        have lhk3 := ix_lt hk3
        have xhk3 := getD_mapD byteAV b lhk3
        try simp only [go_sem] at lhk3
        try simp only [go_sem] at xhk3
        try simp only [go_sem, n1, n2, n3, n4, ghk1na, hk2] at hk3
        all_goals
        obtain ⟨hk4, h⟩ := ck_some h
        have lhk4 := ix_lt hk4
        have xhk4 := getD_mapD byteAV b lhk4
        try simp only [go_sem] at lhk4
        try simp only [go_sem] at xhk4
        try simp only [go_sem, n1, n2, n3, n4, ghk1na, hk2, hk3] at hk4
        all_goals
        obtain ⟨hk5, h⟩ := ck_some h
        try simp only [go_sem, n1, n2, n3, n4, ghk1na, hk2, hk3, hk4] at hk5
        all_goals
        obtain ⟨y_6, hk6, h⟩ := bd_some h
        have fhk6 := Fs_spec_l25Sum hk6
        try simp only [go_sem, ghk1na, hk2, hk3, hk4, hk5] at fhk6
        rcases it_some h with ⟨hk7, h⟩ | ⟨hk7, h⟩
        · try simp only [go_sem, n1, n2, n3, n4, ghk1na, hk2, hk3, hk4, hk5] at hk7
          all_goals
          obtain rfl := so_some h
          refine ⟨0, fun L hL => ?_⟩
          simp only [go_sem, ir36, ghk1na, hk2, hk3, lhk3, xhk3, hk4, lhk4, xhk4, hk5, fhk6, hk7]
        · try simp only [go_sem, n1, n2, n3, n4, ghk1na, hk2, hk3, hk4, hk5] at hk7
          all_goals
          obtain rfl := so_some h
          refine ⟨0, fun L hL => ?_⟩
          simp only [go_sem, ir36, ghk1na, hk2, hk3, lhk3, xhk3, hk4, lhk4, xhk4, hk5, fhk6, hk7]
    · try simp only [go_sem, n1, n2, n3, n4] at ghk1na
      all_goals
      try simp only [go_sem, n1, n2, n3, n4, ghk1na] at ghk1nb
      all_goals
      rcases it_some h with ⟨hk2, h⟩ | ⟨hk2, h⟩
      · try simp only [go_sem, n1, n2, n3, n4, ghk1na, ghk1nb] at hk2
        all_goals
        obtain rfl := so_some h
        refine ⟨0, fun L hL => ?_⟩
        simp only [go_sem, ir36, ghk1na, ghk1nb, hk2]
      · try simp only [go_sem, n1, n2, n3, n4, ghk1na, ghk1nb] at hk2
        all_goals
        obtain ⟨hk3, h⟩ := ck_some h
        have lhk3 := ix_lt hk3
        have xhk3 := getD_mapD byteAV b lhk3
        try simp only [go_sem] at lhk3
        try simp only [go_sem] at xhk3
        try simp only [go_sem, n1, n2, n3, n4, ghk1na, ghk1nb, hk2] at hk3
        all_goals
        obtain ⟨hk4, h⟩ := ck_some h
        have lhk4 := ix_lt hk4
        have xhk4 := getD_mapD byteAV b lhk4
        try simp only [go_sem] at lhk4
        try simp only [go_sem] at xhk4
        try simp only [go_sem, n1, n2, n3, n4, ghk1na, ghk1nb, hk2, hk3] at hk4
        all_goals
        obtain ⟨hk5, h⟩ := ck_some h
        try simp only [go_sem, n1, n2, n3, n4, ghk1na, ghk1nb, hk2, hk3, hk4] at hk5
        all_goals
        obtain ⟨y_6, hk6, h⟩ := bd_some h
        have fhk6 := Fs_spec_l25Sum hk6
        try simp only [go_sem, ghk1na, ghk1nb, hk2, hk3, hk4, hk5] at fhk6
        rcases it_some h with ⟨hk7, h⟩ | ⟨hk7, h⟩
        · try simp only [go_sem, n1, n2, n3, n4, ghk1na, ghk1nb, hk2, hk3, hk4, hk5] at hk7
          all_goals
          obtain rfl := so_some h
          refine ⟨0, fun L hL => ?_⟩
          simp only [go_sem, ir36, ghk1na, ghk1nb, hk2, hk3, lhk3, xhk3, hk4, lhk4, xhk4, hk5, fhk6, hk7]
        · try simp only [go_sem, n1, n2, n3, n4, ghk1na, ghk1nb, hk2, hk3, hk4, hk5] at hk7
          all_goals
          obtain rfl := so_some h
          refine ⟨0, fun L hL => ?_⟩
          simp only [go_sem, ir36, ghk1na, ghk1nb, hk2, hk3, lhk3, xhk3, hk4, lhk4, xhk4, hk5, fhk6, hk7]


def ir59_b0 : IR := .seq (.test false [
    ⟨.push, 7, none, .mov (.v 5)⟩,
    ⟨.push, 8, none, .mov (.v 0)⟩,
    ⟨.push, 9, none, .len false (.s 0)⟩,
    ⟨.push, 10, none, .bin false .lss (.s 2) (.s 0)⟩,
    ⟨.push, 11, none, .mov (.s 0)⟩,
    ⟨.push, 12, (some ((.s 0), true)), .mov (.v 5)⟩,
    ⟨.push, 13, (some ((.s 1), true)), .bin false .lss (.s 0) (.c (.int .i64 (9)))⟩,
    ⟨.push, 14, none, .pick (.s 2) (.s 0) (.c (.bool false))⟩] (.s 0)
  (.skip)
  (.exit 0))
 (.seq (.block 1 (.seq (.region false [
      ⟨.push, 17, none, .mov (.v 4)⟩,
      ⟨.push, 18, none, .mov (.v 0)⟩,
      ⟨.push, 19, none, .mov (.v 5)⟩,
      ⟨.push, 20, none, .ixAddr 1 (.s 1) (.s 0)⟩,
      ⟨.push, 21, none, .load false 1 (.s 0)⟩,
      ⟨.push, 22, none, .bin false .and (.s 0) (.c (.int .u8 (127)))⟩,
      ⟨.push, 23, none, .conv .i64 (.s 0)⟩,
      ⟨.push, 24, none, .mov (.v 5)⟩,
      ⟨.push, 25, none, .bin false .mul (.c (.int .i64 (7))) (.s 0)⟩,
      ⟨.push, 26, none, .conv .u64 (.s 0)⟩,
      ⟨.push, 27, none, .bin false .shl (.s 3) (.s 0)⟩,
      ⟨.push, 28, none, .bin false .add (.s 10) (.s 0)⟩,
      ⟨.var 4, 5, none, .mov (.s 0)⟩])
   (.test false [
     ⟨.push, 29, none, .mov (.v 0)⟩,
     ⟨.push, 30, none, .mov (.v 5)⟩,
     ⟨.push, 31, none, .ixAddr 1 (.s 1) (.s 0)⟩,
     ⟨.push, 32, none, .load false 1 (.s 0)⟩,
     ⟨.push, 33, none, .bin false .lss (.s 0) (.c (.int .u8 (128)))⟩] (.s 0)
   (.seq (.test false [
       ⟨.push, 34, none, .mov (.v 5)⟩,
       ⟨.push, 35, none, .bin false .gtr (.s 0) (.c (.int .i64 (0)))⟩,
       ⟨.push, 36, none, .mov (.s 0)⟩,
       ⟨.push, 37, (some ((.s 0), true)), .mov (.v 0)⟩,
       ⟨.push, 38, (some ((.s 1), true)), .mov (.v 5)⟩,
       ⟨.push, 39, (some ((.s 2), true)), .ixAddr 1 (.s 1) (.s 0)⟩,
       ⟨.push, 40, (some ((.s 3), true)), .load false 1 (.s 0)⟩,
       ⟨.push, 41, (some ((.s 4), true)), .bin false .eql (.s 0) (.c (.int .u8 (0)))⟩,
       ⟨.push, 42, none, .pick (.s 5) (.s 0) (.c (.bool false))⟩] (.s 0)
     (.seq (.region false [
         ⟨.var 1, 2, none, .mov (.c (.int .i64 (0)))⟩,
         ⟨.var 2, 3, none, .mov (.c (.int .i64 (0)))⟩,
         ⟨.var 3, 4, none, .mov (.c (.bool false))⟩])
      (.ret))
     (.skip))
    (.seq (.region false [
       ⟨.push, 43, none, .mov (.v 4)⟩,
       ⟨.push, 44, none, .mov (.v 5)⟩,
       ⟨.push, 45, none, .bin false .add (.s 0) (.c (.int .i64 (1)))⟩,
       ⟨.var 1, 2, none, .mov (.s 2)⟩,
       ⟨.var 2, 3, none, .mov (.s 0)⟩,
       ⟨.var 3, 4, none, .mov (.c (.bool true))⟩])
    (.ret)))
   (.skip))))
 (.region false [
   ⟨.push, 15, none, .mov (.v 5)⟩,
   ⟨.push, 16, none, .bin false .add (.s 0) (.c (.int .i64 (1)))⟩,
   ⟨.var 5, 6, none, .mov (.s 0)⟩]))
def ir59_k0 : List Bool := [true, false, false, false, true, true]
def ir59_o0 : List Bool := [false, false, false, false, false, false]
def ir59_r0 : List Bool := [false, true, true, true, false, false]
def ir59_v : List Nat := [0, 2, 3, 4, 5, 6]
def ir59 : AFn := ⟨1, 6, .seq (.region false [
    ⟨.var 1, 2, none, .mov (.c (.int .i64 (0)))⟩,
    ⟨.var 2, 3, none, .mov (.c (.int .i64 (0)))⟩,
    ⟨.var 3, 4, none, .mov (.c (.bool false))⟩])
 (.seq (.region false [
    ⟨.var 4, 5, none, .mov (.c (.int .i64 (0)))⟩])
 (.seq (.seq (.region false [
     ⟨.var 5, 6, none, .mov (.c (.int .i64 (0)))⟩])
  (.block 0 (.loop ir59_k0 ir59_o0 ir59_r0 ir59_b0)))
 (.seq (.region false [
    ⟨.var 1, 2, none, .mov (.c (.int .i64 (0)))⟩,
    ⟨.var 2, 3, none, .mov (.c (.int .i64 (0)))⟩,
    ⟨.var 3, 4, none, .mov (.c (.bool false))⟩])
 (.ret)))), [.t 1, .t 2, .t 3]⟩
noncomputable def t_spec_l25Read : List (Nat × Ctr) := []
noncomputable def c_spec_l25Read : Ctr := mkF t_spec_l25Read ir59 [.bor]
theorem s_spec_l25Read : Sound Try.prog 59 c_spec_l25Read := mkF_sound _ rfl snd_nil (by kernel_rfl : chkFn Try.prog 59 ir59 ir59_v = true)
theorem M_spec_l25Read : c_spec_l25Read.modes = [.bor] := rfl
theorem Fl_spec_l25Read : c_spec_l25Read.flat = true := rfl
attribute [go_sem] M_spec_l25Read Fl_spec_l25Read
def E_spec_l25Read_l1 (b : List UInt8) : (Int × Int) → St
  | (n, i) => ⟨[.sl 1 (List.map byteAV b), .any, .any, .any, .int .i64 n, .int .i64 i], [], [], true⟩
def R_spec_l25Read_l1 (b : List UInt8) : (Unit ⊕ (Int × Int × Bool)) → Res
  | .inl y => (.exit 0, ⟨[.any, .any, .any, .any, .any, .any], [], [], true⟩)
  | .inr y => (.ret, ⟨[.any, .int .i64 y.1, .int .i64 y.2.1, .bool y.2.2, .any, .any], [], [], true⟩)
theorem spec_l25Read_l1_ex {b : List UInt8} {sgm_ : Int × Int} {rho_ : Unit ⊕ (Int × Int × Bool)} (h : whileE (spec_l25Read_l1 b) sgm_ = some rho_) : ∃ L0, ∀ L, L0 ≤ L → iter (exec (look t_spec_l25Read) L ir59_b0) ir59_k0 ir59_o0 ir59_r0 L (E_spec_l25Read_l1 b sgm_) = R_spec_l25Read_l1 b rho_ := by
  refine loop_ex (E := E_spec_l25Read_l1 b) (R := R_spec_l25Read_l1 b) (fun y => by first | (intro c; cases c) | (rcases y with y | y <;> (intro c; cases c)) | (rcases y with y | y | y <;> (intro c; cases c))) ?_ h
  clear h
  rintro ⟨n, i⟩ o_ h
  dsimp only [spec_l25Read_l1] at h
  rcases it_some h with ⟨hk1, h⟩ | ⟨hk1, h⟩
  · try simp only [go_sem, n1, n2, n3, n4] at hk1
    all_goals
    obtain ⟨hk2, h⟩ := ck_some h
    have lhk2 := ix_lt hk2
    have xhk2 := getD_mapD byteAV b lhk2
    try simp only [go_sem] at lhk2
    try simp only [go_sem] at xhk2
    try simp only [go_sem, n1, n2, n3, n4, hk1] at hk2
    all_goals
    obtain ⟨hk3, h⟩ := ck_some h
    try simp only [go_sem, n1, n2, n3, n4, hk1, hk2] at hk3
    all_goals
    rcases it_some h with ⟨hk4, h⟩ | ⟨hk4, h⟩
    · try simp only [go_sem, n1, n2, n3, n4, hk1, hk2, hk3] at hk4
      all_goals
      rcases it_some h with ⟨hk5, h⟩ | ⟨hk5, h⟩
      · try simp only [go_sem, n1, n2, n3, n4, hk1, hk2, hk3, hk4] at hk5
        all_goals
        obtain rfl := so_some h
        refine ⟨0, fun L hL => ?_⟩
        simp only [go_sem, ir59, E_spec_l25Read_l1, R_spec_l25Read_l1, ir59_b0, ir59_k0, ir59_o0, ir59_r0, hk1, hk2, lhk2, xhk2, hk3, hk4, hk5]
      · try simp only [go_sem, n1, n2, n3, n4, hk1, hk2, hk3, hk4] at hk5
        all_goals
        obtain rfl := so_some h
        refine ⟨0, fun L hL => ?_⟩
        simp only [go_sem, ir59, E_spec_l25Read_l1, R_spec_l25Read_l1, ir59_b0, ir59_k0, ir59_o0, ir59_r0, hk1, hk2, lhk2, xhk2, hk3, hk4, hk5]
    · try simp only [go_sem, n1, n2, n3, n4, hk1, hk2, hk3] at hk4
      all_goals
      obtain rfl := so_some h
      refine ⟨0, fun L hL => ?_⟩
      simp only [go_sem, ir59, E_spec_l25Read_l1, R_spec_l25Read_l1, ir59_b0, ir59_k0, ir59_o0, ir59_r0, hk1, hk2, lhk2, xhk2, hk3, hk4]
  · try simp only [go_sem, n1, n2, n3, n4] at hk1
    all_goals
    obtain rfl := so_some h
    refine ⟨0, fun L hL => ?_⟩
    simp only [go_sem, ir59, E_spec_l25Read_l1, R_spec_l25Read_l1, ir59_b0, ir59_k0, ir59_o0, ir59_r0, hk1]

theorem Fs_spec_l25Read {b : List UInt8} {y_ : Int × Int × Bool} (h : spec_l25Read b = some y_) : c_spec_l25Read.F [.sl 1 (List.map byteAV b)] = ⟨true, .tup [.int .i64 y_.1, .int .i64 y_.2.1, .bool y_.2.2], [.any]⟩ := by
  refine mkF_E rfl ?_
  dsimp only [spec_l25Read] at h
  obtain ⟨y_6, hk6, h⟩ := bd_some h
  obtain ⟨Lhk6, ehk6⟩ := spec_l25Read_l1_ex hk6
  rcases y_6 with y_6a | y_6b
  · dsimp only at h
    obtain rfl := so_some h
    refine ⟨Lhk6, fun L hL => ?_⟩
    have ehk6 := ehk6 L (by omega)
    try simp only [go_sem, E_spec_l25Read_l1, R_spec_l25Read_l1, ir59_k0, ir59_o0, ir59_r0] at ehk6
    simp only [go_sem, ir59, E_spec_l25Read_l1, R_spec_l25Read_l1, ir59_k0, ir59_o0, ir59_r0, ehk6]
  · dsimp only at h
    obtain rfl := so_some h
    refine ⟨Lhk6, fun L hL => ?_⟩
    have ehk6 := ehk6 L (by omega)
    try simp only [go_sem, E_spec_l25Read_l1, R_spec_l25Read_l1, ir59_k0, ir59_o0, ir59_r0] at ehk6
    simp only [go_sem, ir59, E_spec_l25Read_l1, R_spec_l25Read_l1, ir59_k0, ir59_o0, ir59_r0, ehk6]


def ir37_v : List Nat := [0, 1, 4, 5, 6, 7]
def ir37 : AFn := ⟨2, 6, .seq (.region false [
    ⟨.var 2, 4, none, .mov (.c (.int .i64 (0)))⟩])
 (.seq (.anyo 14 [
    ⟨.slot 0, 9, none, .mov (.v 0)⟩,
    ⟨.slot 1, 10, none, .nilck (.s 0)⟩,
    ⟨.slot 2, 11, none, .fldAddr 0 (.s 1)⟩,
    ⟨.slot 3, 12, none, .load false 1 (.s 2)⟩,
    ⟨.slot 4, 13, none, .mov (.v 0)⟩,
    ⟨.slot 5, 14, none, .nilck (.s 4)⟩,
    ⟨.slot 6, 15, none, .fldAddr 1 (.s 5)⟩,
    ⟨.slot 7, 16, none, .load false 1 (.s 6)⟩,
    ⟨.slot 8, 17, none, .pur (.slice 1 (.s 3) (some (.s 7)) none)⟩,
    ⟨.slot 9, 18, none, .call 59 [(.s 8)]⟩,
    ⟨.slot 10, 8, none, .mov (.s 9)⟩,
    ⟨.slot 11, 19, none, .ext (.s 10) 0⟩,
    ⟨.slot 12, 20, none, .ext (.s 10) 1⟩,
    ⟨.slot 13, 21, none, .ext (.s 10) 2⟩,
    ⟨.var 3, 5, none, .mov (.s 11)⟩,
    ⟨.var 4, 6, none, .mov (.s 12)⟩,
    ⟨.var 5, 7, none, .mov (.s 13)⟩] [] .skip)
 (.seq (.test false [
    ⟨.push, 22, none, .mov (.v 5)⟩,
    ⟨.push, 23, none, .un .not (.s 0)⟩,
    ⟨.push, 24, none, .mov (.s 0)⟩,
    ⟨.push, 25, (some ((.s 0), false)), .mov (.v 3)⟩,
    ⟨.push, 26, (some ((.s 1), false)), .mov (.v 1)⟩,
    ⟨.push, 27, (some ((.s 2), false)), .bin false .gtr (.s 1) (.s 0)⟩,
    ⟨.push, 28, none, .pick (.s 3) (.c (.bool true)) (.s 0)⟩] (.s 0)
  (.seq (.region false [
      ⟨.push, 29, none, .mov (.v 0)⟩,
      ⟨.push, 30, none, .nilck (.s 0)⟩,
      ⟨.push, 31, none, .fldAddr 2 (.s 0)⟩,
      ⟨.no, 0, none, .store 1 (.s 0) (.c (.bool false))⟩])
   (.seq (.region false [
      ⟨.var 2, 4, none, .mov (.c (.int .i64 (0)))⟩])
   (.ret)))
  (.skip))
 (.seq (.region false [
    ⟨.push, 32, none, .mov (.v 0)⟩,
    ⟨.push, 33, none, .nilck (.s 0)⟩,
    ⟨.push, 34, none, .fldAddr 1 (.s 0)⟩,
    ⟨.push, 35, none, .load false 1 (.s 0)⟩,
    ⟨.push, 36, none, .mov (.v 4)⟩,
    ⟨.push, 37, none, .bin false .add (.s 1) (.s 0)⟩,
    ⟨.push, 38, none, .nilck (.s 5)⟩,
    ⟨.push, 39, none, .fldAddr 1 (.s 0)⟩,
    ⟨.no, 0, none, .store 1 (.s 0) (.s 2)⟩])
 (.seq (.region false [
    ⟨.push, 40, none, .mov (.v 3)⟩,
    ⟨.var 2, 4, none, .mov (.s 0)⟩])
 (.ret))))), [.t 2]⟩
noncomputable def t_spec_l25R_number : List (Nat × Ctr) := [(59, c_spec_l25Read)]
theorem lk_spec_l25R_number_59 : look t_spec_l25R_number 59 = some c_spec_l25Read := rfl
noncomputable def c_spec_l25R_number : Ctr := mkN t_spec_l25R_number ir37 [.io, .bor]
theorem s_spec_l25R_number : Sound Try.prog 37 c_spec_l25R_number := mkN_sound _ (snd_cons s_spec_l25Read snd_nil) (by kernel_rfl : chkFn Try.prog 37 ir37 ir37_v = true)
theorem M_spec_l25R_number : c_spec_l25R_number.modes = [.io, .bor] := rfl
theorem Fl_spec_l25R_number : c_spec_l25R_number.flat = false := rfl
attribute [go_sem] M_spec_l25R_number Fl_spec_l25R_number
attribute [go_sem] lk_spec_l25R_number_59
theorem Fs_spec_l25R_number {r : L25R} {most : Int} {y_ : Int × L25R} (h : spec_l25R_number r most = some y_) : c_spec_l25R_number.F [.mem 3 [L25R_av r], .int .i64 most] = ⟨true, .int .i64 y_.1, [.mem 3 [L25R_av y_.2], .any]⟩ := by
  refine mkN_E ?_
  dsimp only [spec_l25R_number] at h
  obtain ⟨hk1, h⟩ := ck_some h
  try simp only [go_sem, n1, n2, n3, n4] at hk1
  all_goals
  obtain ⟨y_2, hk2, h⟩ := bd_some h
  have fhk2 := Fs_spec_l25Read hk2
  try simp only [go_sem, hk1] at fhk2
  rcases it_some h with ⟨hk3, h⟩ | ⟨hk3, h⟩
  · try simp only [go_sem, n1, n2, n3, n4, hk1] at hk3
    all_goals
    obtain rfl := so_some h
    refine ⟨0, fun L hL => ?_⟩
    simp only [go_sem, ir37, hk1, fhk2, hk3]
  · try simp only [go_sem, n1, n2, n3, n4, hk1] at hk3
    all_goals
    obtain rfl := so_some h
    refine ⟨0, fun L hL => ?_⟩
    simp only [go_sem, ir37, hk1, fhk2, hk3]


def ir38_v : List Nat := [0, 2]
def ir38 : AFn := ⟨1, 2, .seq (.region false [
    ⟨.var 1, 2, none, .mov (.c (.int .i64 (0)))⟩])
 (.seq (.test false [
    ⟨.push, 3, none, .mov (.v 0)⟩,
    ⟨.push, 4, none, .bin false .rem (.s 0) (.c (.int .i64 (2)))⟩,
    ⟨.push, 5, none, .bin false .eql (.s 0) (.c (.int .i64 (1)))⟩] (.s 0)
  (.seq (.region false [
      ⟨.push, 6, none, .mov (.v 0)⟩,
      ⟨.push, 7, none, .bin false .add (.s 0) (.c (.int .i64 (1)))⟩,
      ⟨.push, 8, none, .un .neg (.s 0)⟩,
      ⟨.push, 9, none, .bin false .quo (.s 0) (.c (.int .i64 (2)))⟩,
      ⟨.var 1, 2, none, .mov (.s 0)⟩])
   (.ret))
  (.skip))
 (.seq (.region false [
    ⟨.push, 10, none, .mov (.v 0)⟩,
    ⟨.push, 11, none, .bin false .quo (.s 0) (.c (.int .i64 (2)))⟩,
    ⟨.var 1, 2, none, .mov (.s 0)⟩])
 (.ret))), [.t 1]⟩
noncomputable def t_spec_l25Unfold : List (Nat × Ctr) := []
noncomputable def c_spec_l25Unfold : Ctr := mkF t_spec_l25Unfold ir38 [.bor]
theorem s_spec_l25Unfold : Sound Try.prog 38 c_spec_l25Unfold := mkF_sound _ rfl snd_nil (by kernel_rfl : chkFn Try.prog 38 ir38 ir38_v = true)
theorem M_spec_l25Unfold : c_spec_l25Unfold.modes = [.bor] := rfl
theorem Fl_spec_l25Unfold : c_spec_l25Unfold.flat = true := rfl
attribute [go_sem] M_spec_l25Unfold Fl_spec_l25Unfold
theorem Fs_spec_l25Unfold {n : Int} {y_ : Int} (h : spec_l25Unfold n = some y_) : c_spec_l25Unfold.F [.int .i64 n] = ⟨true, .int .i64 y_, [.any]⟩ := by
  refine mkF_E rfl ?_
  dsimp only [spec_l25Unfold] at h
  obtain ⟨hk1, h⟩ := ck_some h
  try simp only [go_sem, n1, n2, n3, n4] at hk1
  all_goals
  rcases it_some h with ⟨hk2, h⟩ | ⟨hk2, h⟩
  · try simp only [go_sem, n1, n2, n3, n4, hk1] at hk2
    all_goals
    obtain rfl := so_some h
    refine ⟨0, fun L hL => ?_⟩
    simp only [go_sem, ir38, hk1, hk2]
  · try simp only [go_sem, n1, n2, n3, n4, hk1] at hk2
    all_goals
    obtain rfl := so_some h
    refine ⟨0, fun L hL => ?_⟩
    simp only [go_sem, ir38, hk1, hk2]


def ir73_v : List Nat := [0, 1, 2, 6]
def ir73 : AFn := ⟨3, 4, .seq (.region false [
    ⟨.var 3, 6, none, .mov (.c (.bool false))⟩])
 (.seq (.region false [
    ⟨.push, 7, none, .mov (.v 0)⟩,
    ⟨.push, 8, none, .mov (.v 1)⟩,
    ⟨.push, 9, none, .bin false .geq (.s 1) (.s 0)⟩,
    ⟨.push, 10, none, .mov (.s 0)⟩,
    ⟨.push, 11, (some ((.s 0), true)), .mov (.v 0)⟩,
    ⟨.push, 12, (some ((.s 1), true)), .mov (.v 2)⟩,
    ⟨.push, 13, (some ((.s 2), true)), .bin false .leq (.s 1) (.s 0)⟩,
    ⟨.push, 14, none, .pick (.s 3) (.s 0) (.c (.bool false))⟩,
    ⟨.var 3, 6, none, .mov (.s 0)⟩])
 (.ret)), [.t 3]⟩
noncomputable def t_spec_l00In : List (Nat × Ctr) := []
noncomputable def c_spec_l00In : Ctr := mkF t_spec_l00In ir73 [.bor, .bor, .bor]
theorem s_spec_l00In : Sound Try.prog 73 c_spec_l00In := mkF_sound _ rfl snd_nil (by kernel_rfl : chkFn Try.prog 73 ir73 ir73_v = true)
theorem M_spec_l00In : c_spec_l00In.modes = [.bor, .bor, .bor] := rfl
theorem Fl_spec_l00In : c_spec_l00In.flat = true := rfl
attribute [go_sem] M_spec_l00In Fl_spec_l00In
theorem Fs_spec_l00In {n : Int} {low : Int} {high : Int} {y_ : Bool} (h : spec_l00In n low high = some y_) : c_spec_l00In.F [.int .i64 n, .int .i64 low, .int .i64 high] = ⟨true, .bool y_, [.any, .any, .any]⟩ := by
  refine mkF_E rfl ?_
  dsimp only [spec_l00In] at h
  obtain rfl := so_some h
  refine ⟨0, fun L hL => ?_⟩
  simp only [go_sem, ir73]


def ir60_v : List Nat := [0, 2]
def ir60 : AFn := ⟨1, 2, .seq (.region false [
    ⟨.var 1, 2, none, .mov (.c (.bool false))⟩])
 (.seq (.region false [
    ⟨.push, 3, none, .mov (.v 0)⟩,
    ⟨.push, 4, none, .call 73 [(.s 0), (.c (.int .i64 (0))), (.c (.int .i64 (10000000)))]⟩,
    ⟨.var 1, 2, none, .mov (.s 0)⟩])
 (.ret)), [.t 1]⟩
noncomputable def t_spec_l06Time : List (Nat × Ctr) := [(73, c_spec_l00In)]
theorem lk_spec_l06Time_73 : look t_spec_l06Time 73 = some c_spec_l00In := rfl
noncomputable def c_spec_l06Time : Ctr := mkF t_spec_l06Time ir60 [.bor]
theorem s_spec_l06Time : Sound Try.prog 60 c_spec_l06Time := mkF_sound _ rfl (snd_cons s_spec_l00In snd_nil) (by kernel_rfl : chkFn Try.prog 60 ir60 ir60_v = true)
theorem M_spec_l06Time : c_spec_l06Time.modes = [.bor] := rfl
theorem Fl_spec_l06Time : c_spec_l06Time.flat = true := rfl
attribute [go_sem] M_spec_l06Time Fl_spec_l06Time
attribute [go_sem] lk_spec_l06Time_73
theorem Fs_spec_l06Time {n : Int} {y_ : Bool} (h : spec_l06Time n = some y_) : c_spec_l06Time.F [.int .i64 n] = ⟨true, .bool y_, [.any]⟩ := by
  refine mkF_E rfl ?_
  dsimp only [spec_l06Time] at h
  obtain ⟨y_1, hk1, h⟩ := bd_some h
  have fhk1 := Fs_spec_l00In hk1
  try simp only [go_sem] at fhk1
  obtain rfl := so_some h
  refine ⟨0, fun L hL => ?_⟩
  simp only [go_sem, ir60, fhk1]


def ir61_v : List Nat := [0, 2]
def ir61 : AFn := ⟨1, 2, .seq (.region false [
    ⟨.var 1, 2, none, .mov (.c (.bool false))⟩])
 (.seq (.region false [
    ⟨.push, 3, none, .mov (.v 0)⟩,
    ⟨.push, 4, none, .call 73 [(.s 0), (.c (.int .i64 (-2000))), (.c (.int .i64 (20000)))]⟩,
    ⟨.var 1, 2, none, .mov (.s 0)⟩])
 (.ret)), [.t 1]⟩
noncomputable def t_spec_l02Mag : List (Nat × Ctr) := [(73, c_spec_l00In)]
theorem lk_spec_l02Mag_73 : look t_spec_l02Mag 73 = some c_spec_l00In := rfl
noncomputable def c_spec_l02Mag : Ctr := mkF t_spec_l02Mag ir61 [.bor]
theorem s_spec_l02Mag : Sound Try.prog 61 c_spec_l02Mag := mkF_sound _ rfl (snd_cons s_spec_l00In snd_nil) (by kernel_rfl : chkFn Try.prog 61 ir61 ir61_v = true)
theorem M_spec_l02Mag : c_spec_l02Mag.modes = [.bor] := rfl
theorem Fl_spec_l02Mag : c_spec_l02Mag.flat = true := rfl
attribute [go_sem] M_spec_l02Mag Fl_spec_l02Mag
attribute [go_sem] lk_spec_l02Mag_73
theorem Fs_spec_l02Mag {m : Int} {y_ : Bool} (h : spec_l02Mag m = some y_) : c_spec_l02Mag.F [.int .i64 m] = ⟨true, .bool y_, [.any]⟩ := by
  refine mkF_E rfl ?_
  dsimp only [spec_l02Mag] at h
  obtain ⟨y_1, hk1, h⟩ := bd_some h
  have fhk1 := Fs_spec_l00In hk1
  try simp only [go_sem] at fhk1
  obtain rfl := so_some h
  refine ⟨0, fun L hL => ?_⟩
  simp only [go_sem, ir61, fhk1]


def ir39_b0 : IR := .seq (.test false [
    ⟨.push, 4, none, .mov (.v 2)⟩,
    ⟨.push, 5, none, .mov (.v 0)⟩,
    ⟨.push, 6, none, .len false (.s 0)⟩,
    ⟨.push, 7, none, .bin false .lss (.s 2) (.s 0)⟩] (.s 0)
  (.skip)
  (.exit 0))
 (.seq (.block 1 (.anyo 34 [
     ⟨.slot 0, 10, none, .mov (.v 0)⟩,
     ⟨.slot 1, 11, none, .mov (.v 2)⟩,
     ⟨.slot 2, 12, none, .ixAddr 2 (.s 0) (.s 1)⟩,
     ⟨.slot 3, 13, none, .fldAddr 0 (.s 2)⟩,
     ⟨.slot 4, 14, none, .load false 1 (.s 3)⟩,
     ⟨.slot 5, 15, none, .callp 60 [(.s 4)]⟩,
     ⟨.slot 6, 16, none, .un .not (.s 5)⟩,
     ⟨.slot 7, 17, none, .mov (.s 6)⟩,
     ⟨.slot 8, 18, (some ((.s 7), false)), .mov (.v 0)⟩,
     ⟨.slot 9, 19, (some ((.s 7), false)), .mov (.v 2)⟩,
     ⟨.slot 10, 20, (some ((.s 7), false)), .ixAddr 2 (.s 8) (.s 9)⟩,
     ⟨.slot 11, 21, (some ((.s 7), false)), .fldAddr 1 (.s 10)⟩,
     ⟨.slot 12, 22, (some ((.s 7), false)), .load false 1 (.s 11)⟩,
     ⟨.slot 13, 23, (some ((.s 7), false)), .call 61 [(.s 12)]⟩,
     ⟨.slot 14, 24, (some ((.s 7), false)), .un .not (.s 13)⟩,
     ⟨.slot 15, 25, none, .pick (.s 7) (.c (.bool true)) (.s 14)⟩,
     ⟨.slot 16, 26, none, .mov (.s 15)⟩,
     ⟨.slot 17, 27, (some ((.s 16), false)), .mov (.v 2)⟩,
     ⟨.slot 18, 28, (some ((.s 16), false)), .bin false .gtr (.s 17) (.c (.int .i64 (0)))⟩,
     ⟨.slot 19, 29, (some ((.s 16), false)), .mov (.s 18)⟩,
     ⟨.slot 20, 30, (some ((.s 19), true)), .mov (.v 0)⟩,
     ⟨.slot 21, 31, (some ((.s 19), true)), .mov (.v 2)⟩,
     ⟨.slot 22, 32, (some ((.s 19), true)), .bin false .sub (.s 21) (.c (.int .i64 (1)))⟩,
     ⟨.slot 23, 33, (some ((.s 19), true)), .ixAddr 2 (.s 20) (.s 22)⟩,
     ⟨.slot 24, 34, (some ((.s 19), true)), .fldAddr 0 (.s 23)⟩,
     ⟨.slot 25, 35, (some ((.s 19), true)), .load false 1 (.s 24)⟩,
     ⟨.slot 26, 36, (some ((.s 19), true)), .mov (.v 0)⟩,
     ⟨.slot 27, 37, (some ((.s 19), true)), .mov (.v 2)⟩,
     ⟨.slot 28, 38, (some ((.s 19), true)), .ixAddr 2 (.s 26) (.s 27)⟩,
     ⟨.slot 29, 39, (some ((.s 19), true)), .fldAddr 0 (.s 28)⟩,
     ⟨.slot 30, 40, (some ((.s 19), true)), .load false 1 (.s 29)⟩,
     ⟨.slot 31, 41, (some ((.s 19), true)), .bin false .geq (.s 25) (.s 30)⟩,
     ⟨.slot 32, 42, (some ((.s 16), false)), .pick (.s 19) (.s 31) (.c (.bool false))⟩,
     ⟨.slot 33, 43, none, .pick (.s 16) (.c (.bool true)) (.s 32)⟩] [] (.cond (.s 33)
   (.seq (.region false [
       ⟨.var 1, 2, none, .mov (.c (.bool false))⟩])
    (.ret))
   (.skip))))
 (.region false [
   ⟨.push, 8, none, .mov (.v 2)⟩,
   ⟨.push, 9, none, .bin false .add (.s 0) (.c (.int .i64 (1)))⟩,
   ⟨.var 2, 3, none, .mov (.s 0)⟩]))
def ir39_k0 : List Bool := [true, false, true]
def ir39_o0 : List Bool := [true, false, false]
def ir39_r0 : List Bool := [false, true, false]
def ir39_v : List Nat := [0, 2, 3]
def ir39 : AFn := ⟨1, 3, .seq (.region false [
    ⟨.var 1, 2, none, .mov (.c (.bool false))⟩])
 (.seq (.seq (.region false [
     ⟨.var 2, 3, none, .mov (.c (.int .i64 (0)))⟩])
  (.block 0 (.loop ir39_k0 ir39_o0 ir39_r0 ir39_b0)))
 (.seq (.region false [
    ⟨.push, 44, none, .mov (.v 0)⟩,
    ⟨.push, 45, none, .len false (.s 0)⟩,
    ⟨.push, 46, none, .bin false .leq (.s 0) (.c (.int .i64 (100)))⟩,
    ⟨.var 1, 2, none, .mov (.s 0)⟩])
 (.ret))), [.t 1]⟩
noncomputable def t_spec_l08Ok : List (Nat × Ctr) := [(60, c_spec_l06Time), (61, c_spec_l02Mag)]
theorem lk_spec_l08Ok_60 : look t_spec_l08Ok 60 = some c_spec_l06Time := rfl
theorem lk_spec_l08Ok_61 : look t_spec_l08Ok 61 = some c_spec_l02Mag := rfl
noncomputable def c_spec_l08Ok : Ctr := mkF t_spec_l08Ok ir39 [.bor]
theorem s_spec_l08Ok : Sound Try.prog 39 c_spec_l08Ok := mkF_sound _ rfl (snd_cons s_spec_l06Time (snd_cons s_spec_l02Mag snd_nil)) (by kernel_rfl : chkFn Try.prog 39 ir39 ir39_v = true)
theorem M_spec_l08Ok : c_spec_l08Ok.modes = [.bor] := rfl
theorem Fl_spec_l08Ok : c_spec_l08Ok.flat = true := rfl
attribute [go_sem] M_spec_l08Ok Fl_spec_l08Ok
attribute [go_sem] lk_spec_l08Ok_60 lk_spec_l08Ok_61
def E_spec_l08Ok_l1 (curve : List Point) : Int → St
  | i => ⟨[.sl 2 (List.map Point_av curve), .any, .int .i64 i], [], [], true⟩
def R_spec_l08Ok_l1 (curve : List Point) : (Unit ⊕ Bool) → Res
  | .inl y => (.exit 0, ⟨[.sl 2 (List.map Point_av curve), .any, .any], [], [], true⟩)
  | .inr y => (.ret, ⟨[.any, .bool y, .any], [], [], true⟩)
theorem spec_l08Ok_l1_ex {curve : List Point} {sgm_ : Int} {rho_ : Unit ⊕ Bool} (h : whileE (spec_l08Ok_l1 curve) sgm_ = some rho_) : ∃ L0, ∀ L, L0 ≤ L → iter (exec (look t_spec_l08Ok) L ir39_b0) ir39_k0 ir39_o0 ir39_r0 L (E_spec_l08Ok_l1 curve sgm_) = R_spec_l08Ok_l1 curve rho_ := by
  refine loop_ex (E := E_spec_l08Ok_l1 curve) (R := R_spec_l08Ok_l1 curve) (fun y => by first | (intro c; cases c) | (rcases y with y | y <;> (intro c; cases c)) | (rcases y with y | y | y <;> (intro c; cases c))) ?_ h
  clear h
  intro i o_ h
  dsimp only [spec_l08Ok_l1] at h
  rcases it_some h with ⟨hk1, h⟩ | ⟨hk1, h⟩
  · try simp only [go_sem, n1, n2, n3, n4] at hk1
    all_goals
    obtain ⟨hk2, h⟩ := ck_some h
    have lhk2 := ix_lt hk2
    have xhk2 := getD_mapD Point_av curve lhk2
    try simp only [go_sem] at lhk2
    try simp only [go_sem] at xhk2
    try simp only [go_sem, n1, n2, n3, n4, hk1] at hk2
    all_goals
    obtain ⟨y_3, hk3, h⟩ := bd_some h
    have fhk3 := Fs_spec_l06Time hk3
    try simp only [go_sem, hk1, hk2] at fhk3
    obtain ⟨hk4, h⟩ := ck_some h
    rcases or_split hk4 with ⟨ghk4, hk4⟩ | ghk4
    · try simp only [go_sem, n1, n2, n3, n4, hk1, hk2] at ghk4
      all_goals
      obtain ⟨y_4, hhk4⟩ := Option.isSome_iff_exists.1 hk4
      have fhk4 := Fs_spec_l02Mag hhk4
      try simp only [go_sem, hk1, hk2, ghk4] at fhk4
      obtain ⟨hk5, h⟩ := ck_some h
      rcases or_split hk5 with ⟨ghk5, hk5⟩ | ghk5
      · try simp only [go_sem, n1, n2, n3, n4, hk1, hk2, ghk4, hhk4] at ghk5
        all_goals
        have lhk5 := ix_lt hk5
        have xhk5 := getD_mapD Point_av curve lhk5
        try simp only [go_sem] at lhk5
        try simp only [go_sem] at xhk5
        try simp only [go_sem, n1, n2, n3, n4, hk1, hk2, ghk4, hhk4, ghk5] at hk5
        all_goals
        rcases it_some h with ⟨hk6, h⟩ | ⟨hk6, h⟩
        · try simp only [go_sem, n1, n2, n3, n4, hk1, hk2, ghk4, hhk4, ghk5, hk5] at hk6
          all_goals
          obtain rfl := so_some h
          refine ⟨0, fun L hL => ?_⟩
          simp only [go_sem, ir39, E_spec_l08Ok_l1, R_spec_l08Ok_l1, ir39_b0, ir39_k0, ir39_o0, ir39_r0, hk1, hk2, lhk2, xhk2, fhk3, ghk4, hhk4, fhk4, ghk5, hk5, lhk5, xhk5, hk6]
        · try simp only [go_sem, n1, n2, n3, n4, hk1, hk2, ghk4, hhk4, ghk5, hk5] at hk6
          all_goals
          obtain rfl := so_some h
          refine ⟨0, fun L hL => ?_⟩
          simp only [go_sem, ir39, E_spec_l08Ok_l1, R_spec_l08Ok_l1, ir39_b0, ir39_k0, ir39_o0, ir39_r0, hk1, hk2, lhk2, xhk2, fhk3, ghk4, hhk4, fhk4, ghk5, hk5, lhk5, xhk5, hk6]
      · rcases and_f ghk5 with ghk5a | ⟨ghk5a, ghk5b⟩
        · have ghk5an := no_f ghk5a
          rcases or_t ghk5an with ghk5ana | ⟨ghk5ana, ghk5anb⟩
          · have ghk5anan := no_t ghk5ana
            try simp only [go_sem, n1, n2, n3, n4, hk1, hk2, ghk4, hhk4] at ghk5anan
            all_goals
            rcases it_some h with ⟨hk6, h⟩ | ⟨hk6, h⟩
            · try simp only [go_sem, n1, n2, n3, n4, hk1, hk2, ghk4, hhk4, ghk5anan] at hk6
              all_goals
              obtain rfl := so_some h
              refine ⟨0, fun L hL => ?_⟩
              simp only [go_sem, ir39, E_spec_l08Ok_l1, R_spec_l08Ok_l1, ir39_b0, ir39_k0, ir39_o0, ir39_r0, hk1, hk2, lhk2, xhk2, fhk3, ghk4, hhk4, fhk4, ghk5anan, hk6]
            · try simp only [go_sem, n1, n2, n3, n4, hk1, hk2, ghk4, hhk4, ghk5anan] at hk6
              all_goals
              obtain rfl := so_some h
              refine ⟨0, fun L hL => ?_⟩
              simp only [go_sem, ir39, E_spec_l08Ok_l1, R_spec_l08Ok_l1, ir39_b0, ir39_k0, ir39_o0, ir39_r0, hk1, hk2, lhk2, xhk2, fhk3, ghk4, hhk4, fhk4, ghk5anan, hk6]
          · have ghk5anan := no_f ghk5ana
            have ghk5anbn := no_t ghk5anb
            try simp only [go_sem, n1, n2, n3, n4, hk1, hk2, ghk4, hhk4] at ghk5anan
            all_goals
            try simp only [go_sem, n1, n2, n3, n4, hk1, hk2, ghk4, hhk4, ghk5anan] at ghk5anbn
            all_goals
            rcases it_some h with ⟨hk6, h⟩ | ⟨hk6, h⟩
            · try simp only [go_sem, n1, n2, n3, n4, hk1, hk2, ghk4, hhk4, ghk5anan, ghk5anbn] at hk6
              all_goals
              obtain rfl := so_some h
              refine ⟨0, fun L hL => ?_⟩
              simp only [go_sem, ir39, E_spec_l08Ok_l1, R_spec_l08Ok_l1, ir39_b0, ir39_k0, ir39_o0, ir39_r0, hk1, hk2, lhk2, xhk2, fhk3, ghk4, hhk4, fhk4, ghk5anan, ghk5anbn, hk6]
            · try simp only [go_sem, n1, n2, n3, n4, hk1, hk2, ghk4, hhk4, ghk5anan, ghk5anbn] at hk6
              all_goals
              obtain rfl := so_some h
              refine ⟨0, fun L hL => ?_⟩
              simp only [go_sem, ir39, E_spec_l08Ok_l1, R_spec_l08Ok_l1, ir39_b0, ir39_k0, ir39_o0, ir39_r0, hk1, hk2, lhk2, xhk2, fhk3, ghk4, hhk4, fhk4, ghk5anan, ghk5anbn, hk6]
        · have ghk5an := no_t ghk5a
          obtain ⟨ghk5ana, ghk5anb⟩ := or_f ghk5an
          have ghk5anan := no_f ghk5ana
          have ghk5anbn := no_f ghk5anb
          try simp only [go_sem, n1, n2, n3, n4, hk1, hk2, ghk4, hhk4] at ghk5anan
          all_goals
          try simp only [go_sem, n1, n2, n3, n4, hk1, hk2, ghk4, hhk4, ghk5anan] at ghk5anbn
          all_goals
          try simp only [go_sem, n1, n2, n3, n4, hk1, hk2, ghk4, hhk4, ghk5anan, ghk5anbn] at ghk5b
          all_goals
          rcases it_some h with ⟨hk6, h⟩ | ⟨hk6, h⟩
          · try simp only [go_sem, n1, n2, n3, n4, hk1, hk2, ghk4, hhk4, ghk5anan, ghk5anbn, ghk5b] at hk6
            all_goals
            obtain rfl := so_some h
            refine ⟨0, fun L hL => ?_⟩
            simp only [go_sem, ir39, E_spec_l08Ok_l1, R_spec_l08Ok_l1, ir39_b0, ir39_k0, ir39_o0, ir39_r0, hk1, hk2, lhk2, xhk2, fhk3, ghk4, hhk4, fhk4, ghk5anan, ghk5anbn, ghk5b, hk6]
          · try simp only [go_sem, n1, n2, n3, n4, hk1, hk2, ghk4, hhk4, ghk5anan, ghk5anbn, ghk5b] at hk6
            all_goals
            obtain rfl := so_some h
            refine ⟨0, fun L hL => ?_⟩
            simp only [go_sem, ir39, E_spec_l08Ok_l1, R_spec_l08Ok_l1, ir39_b0, ir39_k0, ir39_o0, ir39_r0, hk1, hk2, lhk2, xhk2, fhk3, ghk4, hhk4, fhk4, ghk5anan, ghk5anbn, ghk5b, hk6]
    · have ghk4n := no_f ghk4
      have ghk4nn := no_t ghk4n
      try simp only [go_sem, n1, n2, n3, n4, hk1, hk2] at ghk4nn
      all_goals
      obtain ⟨hk5, h⟩ := ck_some h
      rcases or_split hk5 with ⟨ghk5, hk5⟩ | ghk5
      · try simp only [go_sem, n1, n2, n3, n4, hk1, hk2, ghk4nn] at ghk5
        all_goals
        have lhk5 := ix_lt hk5
        have xhk5 := getD_mapD Point_av curve lhk5
        try simp only [go_sem] at lhk5
        try simp only [go_sem] at xhk5
        try simp only [go_sem, n1, n2, n3, n4, hk1, hk2, ghk4nn, ghk5] at hk5
        all_goals
        rcases it_some h with ⟨hk6, h⟩ | ⟨hk6, h⟩
        · try simp only [go_sem, n1, n2, n3, n4, hk1, hk2, ghk4nn, ghk5, hk5] at hk6
          all_goals
          obtain rfl := so_some h
          refine ⟨0, fun L hL => ?_⟩
          simp only [go_sem, ir39, E_spec_l08Ok_l1, R_spec_l08Ok_l1, ir39_b0, ir39_k0, ir39_o0, ir39_r0, hk1, hk2, lhk2, xhk2, fhk3, ghk4nn, ghk5, hk5, lhk5, xhk5, hk6]
        · try simp only [go_sem, n1, n2, n3, n4, hk1, hk2, ghk4nn, ghk5, hk5] at hk6
          all_goals
          obtain rfl := so_some h
          refine ⟨0, fun L hL => ?_⟩
          simp only [go_sem, ir39, E_spec_l08Ok_l1, R_spec_l08Ok_l1, ir39_b0, ir39_k0, ir39_o0, ir39_r0, hk1, hk2, lhk2, xhk2, fhk3, ghk4nn, ghk5, hk5, lhk5, xhk5, hk6]
      · rcases and_f ghk5 with ghk5a | ⟨ghk5a, ghk5b⟩
        · have ghk5an := no_f ghk5a
          rcases or_t ghk5an with ghk5ana | ⟨ghk5ana, ghk5anb⟩
          · have ghk5anan := no_t ghk5ana
            try simp only [go_sem, n1, n2, n3, n4, hk1, hk2, ghk4nn] at ghk5anan
            all_goals
            rcases it_some h with ⟨hk6, h⟩ | ⟨hk6, h⟩
            · try simp only [go_sem, n1, n2, n3, n4, hk1, hk2, ghk4nn, ghk5anan] at hk6
              all_goals
              obtain rfl := so_some h
              refine ⟨0, fun L hL => ?_⟩
              simp only [go_sem, ir39, E_spec_l08Ok_l1, R_spec_l08Ok_l1, ir39_b0, ir39_k0, ir39_o0, ir39_r0, hk1, hk2, lhk2, xhk2, fhk3, ghk4nn, ghk5anan, hk6]
            · try simp only [go_sem, n1, n2, n3, n4, hk1, hk2, ghk4nn, ghk5anan] at hk6
              all_goals
              obtain rfl := so_some h
              refine ⟨0, fun L hL => ?_⟩
              simp only [go_sem, ir39, E_spec_l08Ok_l1, R_spec_l08Ok_l1, ir39_b0, ir39_k0, ir39_o0, ir39_r0, hk1, hk2, lhk2, xhk2, fhk3, ghk4nn, ghk5anan, hk6]
          · have ghk5anan := no_f ghk5ana
            have ghk5anbn := no_t ghk5anb
            try simp only [go_sem, n1, n2, n3, n4, hk1, hk2, ghk4nn] at ghk5anan
            all_goals
            try simp only [go_sem, n1, n2, n3, n4, hk1, hk2, ghk4nn, ghk5anan] at ghk5anbn
            all_goals
            rcases it_some h with ⟨hk6, h⟩ | ⟨hk6, h⟩
            · try simp only [go_sem, n1, n2, n3, n4, hk1, hk2, ghk4nn, ghk5anan, ghk5anbn] at hk6
              all_goals
              obtain rfl := so_some h
              refine ⟨0, fun L hL => ?_⟩
              simp only [go_sem, ir39, E_spec_l08Ok_l1, R_spec_l08Ok_l1, ir39_b0, ir39_k0, ir39_o0, ir39_r0, hk1, hk2, lhk2, xhk2, fhk3, ghk4nn, ghk5anan, ghk5anbn, hk6]
            · try simp only [go_sem, n1, n2, n3, n4, hk1, hk2, ghk4nn, ghk5anan, ghk5anbn] at hk6
              all_goals
              obtain rfl := so_some h
              refine ⟨0, fun L hL => ?_⟩
              simp only [go_sem, ir39, E_spec_l08Ok_l1, R_spec_l08Ok_l1, ir39_b0, ir39_k0, ir39_o0, ir39_r0, hk1, hk2, lhk2, xhk2, fhk3, ghk4nn, ghk5anan, ghk5anbn, hk6]
        · have ghk5an := no_t ghk5a
          obtain ⟨ghk5ana, ghk5anb⟩ := or_f ghk5an
          have ghk5anan := no_f ghk5ana
          have ghk5anbn := no_f ghk5anb
          try simp only [go_sem, n1, n2, n3, n4, hk1, hk2, ghk4nn] at ghk5anan
          all_goals
          try simp only [go_sem, n1, n2, n3, n4, hk1, hk2, ghk4nn, ghk5anan] at ghk5anbn
          all_goals
          try simp only [go_sem, n1, n2, n3, n4, hk1, hk2, ghk4nn, ghk5anan, ghk5anbn] at ghk5b
          all_goals
          rcases it_some h with ⟨hk6, h⟩ | ⟨hk6, h⟩
          · try simp only [go_sem, n1, n2, n3, n4, hk1, hk2, ghk4nn, ghk5anan, ghk5anbn, ghk5b] at hk6
            all_goals
            obtain rfl := so_some h
            refine ⟨0, fun L hL => ?_⟩
            simp only [go_sem, ir39, E_spec_l08Ok_l1, R_spec_l08Ok_l1, ir39_b0, ir39_k0, ir39_o0, ir39_r0, hk1, hk2, lhk2, xhk2, fhk3, ghk4nn, ghk5anan, ghk5anbn, ghk5b, hk6]
          · try simp only [go_sem, n1, n2, n3, n4, hk1, hk2, ghk4nn, ghk5anan, ghk5anbn, ghk5b] at hk6
            all_goals
            obtain rfl := so_some h
            refine ⟨0, fun L hL => ?_⟩
            simp only [go_sem, ir39, E_spec_l08Ok_l1, R_spec_l08Ok_l1, ir39_b0, ir39_k0, ir39_o0, ir39_r0, hk1, hk2, lhk2, xhk2, fhk3, ghk4nn, ghk5anan, ghk5anbn, ghk5b, hk6]
  · try simp only [go_sem, n1, n2, n3, n4] at hk1
    all_goals
    obtain rfl := so_some h
    refine ⟨0, fun L hL => ?_⟩
    simp only [go_sem, ir39, E_spec_l08Ok_l1, R_spec_l08Ok_l1, ir39_b0, ir39_k0, ir39_o0, ir39_r0, hk1]

theorem Fs_spec_l08Ok {curve : List Point} {y_ : Bool} (h : spec_l08Ok curve = some y_) : c_spec_l08Ok.F [.sl 2 (List.map Point_av curve)] = ⟨true, .bool y_, [.any]⟩ := by
  refine mkF_E rfl ?_
  dsimp only [spec_l08Ok] at h
  obtain ⟨y_7, hk7, h⟩ := bd_some h
  obtain ⟨Lhk7, ehk7⟩ := spec_l08Ok_l1_ex hk7
  rcases y_7 with y_7a | y_7b
  · dsimp only at h
    obtain rfl := so_some h
    refine ⟨Lhk7, fun L hL => ?_⟩
    have ehk7 := ehk7 L (by omega)
    try simp only [go_sem, E_spec_l08Ok_l1, R_spec_l08Ok_l1, ir39_k0, ir39_o0, ir39_r0] at ehk7
    simp only [go_sem, ir39, E_spec_l08Ok_l1, R_spec_l08Ok_l1, ir39_k0, ir39_o0, ir39_r0, ehk7]
  · dsimp only at h
    obtain rfl := so_some h
    refine ⟨Lhk7, fun L hL => ?_⟩
    have ehk7 := ehk7 L (by omega)
    try simp only [go_sem, E_spec_l08Ok_l1, R_spec_l08Ok_l1, ir39_k0, ir39_o0, ir39_r0] at ehk7
    simp only [go_sem, ir39, E_spec_l08Ok_l1, R_spec_l08Ok_l1, ir39_k0, ir39_o0, ir39_r0, ehk7]


def ir62_b0 : IR := .seq (.test false [
    ⟨.push, 5, none, .mov (.v 0)⟩,
    ⟨.push, 6, none, .bin false .geq (.s 0) (.c (.int .i64 (128)))⟩] (.s 0)
  (.skip)
  (.exit 0))
 (.block 1 (.seq (.region false [
     ⟨.push, 7, none, .mov (.v 2)⟩,
     ⟨.push, 8, none, .mov (.v 0)⟩,
     ⟨.push, 9, none, .bin false .rem (.s 0) (.c (.int .i64 (128)))⟩,
     ⟨.push, 10, none, .bin false .add (.s 0) (.c (.int .i64 (128)))⟩,
     ⟨.push, 11, none, .conv .u8 (.s 0)⟩,
     ⟨.push, 12, none, .mkSl 1 (.int .u8 (0)) 1 [(0, (.s 0))]⟩,
     ⟨.push, 13, none, .app 1 1 (.int .u8 (0)) (.s 5) (.s 0)⟩,
     ⟨.var 2, 3, none, .mov (.s 0)⟩])
  (.region false [
    ⟨.push, 14, none, .mov (.v 0)⟩,
    ⟨.push, 15, none, .bin false .quo (.s 0) (.c (.int .i64 (128)))⟩,
    ⟨.var 0, 0, none, .mov (.s 0)⟩])))
def ir62_k0 : List Bool := [true, false, true]
def ir62_o0 : List Bool := [true, false, true]
def ir62_r0 : List Bool := [false, true, false]
def ir62_v : List Nat := [0, 2, 3]
def ir62 : AFn := ⟨1, 3, .seq (.region false [
    ⟨.var 1, 2, none, .newnil 1⟩])
 (.seq (.region false [
    ⟨.push, 4, none, .mkSl 1 (.int .u8 (0)) 0 []⟩,
    ⟨.var 2, 3, none, .mov (.s 0)⟩])
 (.seq (.block 0 (.loop ir62_k0 ir62_o0 ir62_r0 ir62_b0))
 (.seq (.region false [
    ⟨.push, 16, none, .mov (.v 2)⟩,
    ⟨.push, 17, none, .mov (.v 0)⟩,
    ⟨.push, 18, none, .conv .u8 (.s 0)⟩,
    ⟨.push, 19, none, .mkSl 1 (.int .u8 (0)) 1 [(0, (.s 0))]⟩,
    ⟨.push, 20, none, .app 1 1 (.int .u8 (0)) (.s 3) (.s 0)⟩,
    ⟨.var 1, 2, none, .mov (.s 0)⟩])
 (.ret)))), [.t 1]⟩
noncomputable def t_spec_l25Number : List (Nat × Ctr) := []
noncomputable def c_spec_l25Number : Ctr := mkF t_spec_l25Number ir62 [.bor]
theorem s_spec_l25Number : Sound Try.prog 62 c_spec_l25Number := mkF_sound _ rfl snd_nil (by kernel_rfl : chkFn Try.prog 62 ir62 ir62_v = true)
theorem M_spec_l25Number : c_spec_l25Number.modes = [.bor] := rfl
theorem Fl_spec_l25Number : c_spec_l25Number.flat = true := rfl
attribute [go_sem] M_spec_l25Number Fl_spec_l25Number
def E_spec_l25Number_l1  : (Int × (List UInt8)) → St
  | (n, out) => ⟨[.int .i64 n, .any, .own 3200000], [], [(3200000, ⟨1, List.map byteAV out⟩)], true⟩
def R_spec_l25Number_l1  (y : Int × (List UInt8)) : Res := (.exit 0, ⟨[.int .i64 y.1, .any, .own 3200000], [], [(3200000, ⟨1, List.map byteAV y.2⟩)], true⟩)
theorem spec_l25Number_l1_ex  {sgm_ : Int × (List UInt8)} {rho_ : Int × (List UInt8)} (h : whileE (spec_l25Number_l1) sgm_ = some rho_) : ∃ L0, ∀ L, L0 ≤ L → iter (exec (look t_spec_l25Number) L ir62_b0) ir62_k0 ir62_o0 ir62_r0 L (E_spec_l25Number_l1 sgm_) = R_spec_l25Number_l1 rho_ := by
  refine loop_ex (E := E_spec_l25Number_l1) (R := R_spec_l25Number_l1) (fun y => by first | (intro c; cases c) | (rcases y with y | y <;> (intro c; cases c)) | (rcases y with y | y | y <;> (intro c; cases c))) ?_ h
  clear h
  rintro ⟨n, out⟩ o_ h
  dsimp only [spec_l25Number_l1] at h
  rcases it_some h with ⟨hk1, h⟩ | ⟨hk1, h⟩
  · try simp only [go_sem, n1, n2, n3, n4] at hk1
    all_goals
    obtain ⟨hk2, h⟩ := ck_some h
    try simp only [go_sem, n1, n2, n3, n4, hk1] at hk2
    all_goals
    obtain ⟨hk3, h⟩ := ck_some h
    try simp only [go_sem, n1, n2, n3, n4, hk1, hk2] at hk3
    all_goals
    obtain rfl := so_some h
    refine ⟨0, fun L hL => ?_⟩
    simp only [go_sem, ir62, E_spec_l25Number_l1, R_spec_l25Number_l1, ir62_b0, ir62_k0, ir62_o0, ir62_r0, hk1, hk2, hk3]
  · try simp only [go_sem, n1, n2, n3, n4] at hk1
    all_goals
    obtain rfl := so_some h
    refine ⟨0, fun L hL => ?_⟩
    simp only [go_sem, ir62, E_spec_l25Number_l1, R_spec_l25Number_l1, ir62_b0, ir62_k0, ir62_o0, ir62_r0, hk1]

theorem Fs_spec_l25Number {n : Int} {y_ : (List UInt8)} (h : spec_l25Number n = some y_) : c_spec_l25Number.F [.int .i64 n] = ⟨true, .fresh 1 (List.map byteAV y_), [.any]⟩ := by
  refine mkF_E (by simp only [flatA, flatB, flat1, List.all_cons, List.all_nil, Bool.and_self, flatE_map (f := byteAV) (fun _ => rfl)]) ?_
  dsimp only [spec_l25Number] at h
  obtain ⟨y_4, hk4, h⟩ := bd_some h
  obtain ⟨Lhk4, ehk4⟩ := spec_l25Number_l1_ex hk4
  obtain ⟨hk5, h⟩ := ck_some h
  try simp only [go_sem, n1, n2, n3, n4] at hk5
  all_goals
  obtain rfl := so_some h
  refine ⟨Lhk4, fun L hL => ?_⟩
  have ehk4 := ehk4 L (by omega)
  try simp only [go_sem, E_spec_l25Number_l1, R_spec_l25Number_l1, ir62_k0, ir62_o0, ir62_r0, hk5] at ehk4
  simp only [go_sem, ir62, E_spec_l25Number_l1, R_spec_l25Number_l1, ir62_k0, ir62_o0, ir62_r0, hk5, ehk4]


def ir63_v : List Nat := [0, 2]
def ir63 : AFn := ⟨1, 2, .seq (.region false [
    ⟨.var 1, 2, none, .mov (.c (.int .i64 (0)))⟩])
 (.seq (.test false [
    ⟨.push, 3, none, .mov (.v 0)⟩,
    ⟨.push, 4, none, .bin false .lss (.s 0) (.c (.int .i64 (0)))⟩] (.s 0)
  (.seq (.region false [
      ⟨.push, 5, none, .mov (.v 0)⟩,
      ⟨.push, 6, none, .bin false .mul (.c (.int .i64 (-2))) (.s 0)⟩,
      ⟨.push, 7, none, .bin false .sub (.s 0) (.c (.int .i64 (1)))⟩,
      ⟨.var 1, 2, none, .mov (.s 0)⟩])
   (.ret))
  (.skip))
 (.seq (.region false [
    ⟨.push, 8, none, .mov (.v 0)⟩,
    ⟨.push, 9, none, .bin false .mul (.c (.int .i64 (2))) (.s 0)⟩,
    ⟨.var 1, 2, none, .mov (.s 0)⟩])
 (.ret))), [.t 1]⟩
noncomputable def t_spec_l25Fold : List (Nat × Ctr) := []
noncomputable def c_spec_l25Fold : Ctr := mkF t_spec_l25Fold ir63 [.bor]
theorem s_spec_l25Fold : Sound Try.prog 63 c_spec_l25Fold := mkF_sound _ rfl snd_nil (by kernel_rfl : chkFn Try.prog 63 ir63 ir63_v = true)
theorem M_spec_l25Fold : c_spec_l25Fold.modes = [.bor] := rfl
theorem Fl_spec_l25Fold : c_spec_l25Fold.flat = true := rfl
attribute [go_sem] M_spec_l25Fold Fl_spec_l25Fold
theorem Fs_spec_l25Fold {n : Int} {y_ : Int} (h : spec_l25Fold n = some y_) : c_spec_l25Fold.F [.int .i64 n] = ⟨true, .int .i64 y_, [.any]⟩ := by
  refine mkF_E rfl ?_
  dsimp only [spec_l25Fold] at h
  rcases it_some h with ⟨hk1, h⟩ | ⟨hk1, h⟩
  · try simp only [go_sem, n1, n2, n3, n4] at hk1
    all_goals
    obtain rfl := so_some h
    refine ⟨0, fun L hL => ?_⟩
    simp only [go_sem, ir63, hk1]
  · try simp only [go_sem, n1, n2, n3, n4] at hk1
    all_goals
    obtain rfl := so_some h
    refine ⟨0, fun L hL => ?_⟩
    simp only [go_sem, ir63, hk1]


def ir64_v : List Nat := [0, 2, 3]
def ir64 : AFn := ⟨1, 3, .seq (.region false [
    ⟨.var 1, 2, none, .newnil 1⟩])
 (.seq (.region false [
    ⟨.push, 4, none, .mov (.v 0)⟩,
    ⟨.push, 5, none, .call 58 [(.s 0)]⟩,
    ⟨.var 2, 3, none, .mov (.s 0)⟩])
 (.seq (.region false [
    ⟨.push, 6, none, .mov (.v 0)⟩,
    ⟨.push, 7, none, .mov (.v 2)⟩,
    ⟨.push, 8, none, .bin false .quo (.s 0) (.c (.int .i64 (256)))⟩,
    ⟨.push, 9, none, .conv .u8 (.s 0)⟩,
    ⟨.push, 10, none, .mkSl 1 (.int .u8 (0)) 1 [(0, (.s 0))]⟩,
    ⟨.push, 11, none, .app 1 1 (.int .u8 (0)) (.s 4) (.s 0)⟩,
    ⟨.var 0, 0, none, .mov (.s 0)⟩])
 (.seq (.region false [
    ⟨.push, 12, none, .mov (.v 0)⟩,
    ⟨.push, 13, none, .mov (.v 2)⟩,
    ⟨.push, 14, none, .bin false .rem (.s 0) (.c (.int .i64 (256)))⟩,
    ⟨.push, 15, none, .conv .u8 (.s 0)⟩,
    ⟨.push, 16, none, .mkSl 1 (.int .u8 (0)) 1 [(0, (.s 0))]⟩,
    ⟨.push, 17, none, .app 1 1 (.int .u8 (0)) (.s 4) (.s 0)⟩,
    ⟨.var 1, 2, none, .mov (.s 0)⟩])
 (.ret)))), [.t 1]⟩
noncomputable def t_spec_l25Close : List (Nat × Ctr) := [(58, c_spec_l25Sum)]
theorem lk_spec_l25Close_58 : look t_spec_l25Close 58 = some c_spec_l25Sum := rfl
noncomputable def c_spec_l25Close : Ctr := mkF t_spec_l25Close ir64 [.mov]
theorem s_spec_l25Close : Sound Try.prog 64 c_spec_l25Close := mkF_sound _ rfl (snd_cons s_spec_l25Sum snd_nil) (by kernel_rfl : chkFn Try.prog 64 ir64 ir64_v = true)
theorem M_spec_l25Close : c_spec_l25Close.modes = [.mov] := rfl
theorem Fl_spec_l25Close : c_spec_l25Close.flat = true := rfl
attribute [go_sem] M_spec_l25Close Fl_spec_l25Close
attribute [go_sem] lk_spec_l25Close_58
theorem Fs_spec_l25Close {out : List UInt8} {y_ : (List UInt8)} (h : spec_l25Close out = some y_) : c_spec_l25Close.F [.fresh 1 (List.map byteAV out)] = ⟨true, .fresh 1 (List.map byteAV y_), [.any]⟩ := by
  refine mkF_E (by simp only [flatA, flatB, flat1, List.all_cons, List.all_nil, Bool.and_self, flatE_map (f := byteAV) (fun _ => rfl)]) ?_
  dsimp only [spec_l25Close] at h
  obtain ⟨y_1, hk1, h⟩ := bd_some h
  have fhk1 := Fs_spec_l25Sum hk1
  try simp only [go_sem] at fhk1
  obtain ⟨hk2, h⟩ := ck_some h
  try simp only [go_sem, n1, n2, n3, n4] at hk2
  all_goals
  obtain ⟨hk3, h⟩ := ck_some h
  try simp only [go_sem, n1, n2, n3, n4, hk2] at hk3
  all_goals
  obtain ⟨hk4, h⟩ := ck_some h
  try simp only [go_sem, n1, n2, n3, n4, hk2, hk3] at hk4
  all_goals
  obtain rfl := so_some h
  refine ⟨0, fun L hL => ?_⟩
  simp only [go_sem, ir64, fhk1, hk2, hk3, hk4]


def ir40_b0 : IR := .seq (.test false [
    ⟨.push, 13, none, .mov (.v 5)⟩,
    ⟨.push, 14, none, .mov (.v 0)⟩,
    ⟨.push, 15, none, .len false (.s 0)⟩,
    ⟨.push, 16, none, .bin false .lss (.s 2) (.s 0)⟩] (.s 0)
  (.skip)
  (.exit 0))
 (.seq (.block 1 (.seq (.region false [
      ⟨.push, 19, none, .mov (.v 2)⟩,
      ⟨.push, 20, none, .mov (.v 0)⟩,
      ⟨.push, 21, none, .mov (.v 5)⟩,
      ⟨.push, 22, none, .ixAddr 2 (.s 1) (.s 0)⟩,
      ⟨.push, 23, none, .fldAddr 0 (.s 0)⟩,
      ⟨.push, 24, none, .load false 1 (.s 0)⟩,
      ⟨.push, 25, none, .mov (.v 3)⟩,
      ⟨.push, 26, none, .bin false .sub (.s 1) (.s 0)⟩,
      ⟨.push, 27, none, .call 62 [(.s 0)]⟩,
      ⟨.push, 28, none, .app 1 1 (.int .u8 (0)) (.s 8) (.s 0)⟩,
      ⟨.var 2, 3, none, .mov (.s 0)⟩])
   (.seq (.region false [
      ⟨.push, 29, none, .mov (.v 2)⟩,
      ⟨.push, 30, none, .mov (.v 0)⟩,
      ⟨.push, 31, none, .mov (.v 5)⟩,
      ⟨.push, 32, none, .ixAddr 2 (.s 1) (.s 0)⟩,
      ⟨.push, 33, none, .fldAddr 1 (.s 0)⟩,
      ⟨.push, 34, none, .load false 1 (.s 0)⟩,
      ⟨.push, 35, none, .mov (.v 4)⟩,
      ⟨.push, 36, none, .bin false .sub (.s 1) (.s 0)⟩,
      ⟨.push, 37, none, .call 63 [(.s 0)]⟩,
      ⟨.push, 38, none, .call 62 [(.s 0)]⟩,
      ⟨.push, 39, none, .app 1 1 (.int .u8 (0)) (.s 9) (.s 0)⟩,
      ⟨.var 2, 3, none, .mov (.s 0)⟩])
   (.seq (.region false [
      ⟨.push, 40, none, .mov (.v 0)⟩,
      ⟨.push, 41, none, .mov (.v 5)⟩,
      ⟨.push, 42, none, .ixAddr 2 (.s 1) (.s 0)⟩,
      ⟨.push, 43, none, .fldAddr 0 (.s 0)⟩,
      ⟨.push, 44, none, .load false 1 (.s 0)⟩,
      ⟨.var 3, 4, none, .mov (.s 0)⟩])
   (.region false [
     ⟨.push, 45, none, .mov (.v 0)⟩,
     ⟨.push, 46, none, .mov (.v 5)⟩,
     ⟨.push, 47, none, .ixAddr 2 (.s 1) (.s 0)⟩,
     ⟨.push, 48, none, .fldAddr 1 (.s 0)⟩,
     ⟨.push, 49, none, .load false 1 (.s 0)⟩,
     ⟨.var 4, 5, none, .mov (.s 0)⟩])))))
 (.region false [
   ⟨.push, 17, none, .mov (.v 5)⟩,
   ⟨.push, 18, none, .bin false .add (.s 0) (.c (.int .i64 (1)))⟩,
   ⟨.var 5, 6, none, .mov (.s 0)⟩]))
def ir40_k0 : List Bool := [true, false, true, true, true, true]
def ir40_o0 : List Bool := [false, false, true, false, false, false]
def ir40_r0 : List Bool := [false, true, false, false, false, false]
def ir40_v : List Nat := [0, 2, 3, 4, 5, 6]
def ir40 : AFn := ⟨1, 6, .seq (.region false [
    ⟨.var 1, 2, none, .newnil 1⟩])
 (.seq (.region false [
    ⟨.push, 7, none, .mkSl 1 (.int .u8 (0)) 1 [(0, (.c (.int .u8 (67))))]⟩,
    ⟨.var 2, 3, none, .mov (.s 0)⟩])
 (.seq (.region false [
    ⟨.push, 8, none, .mov (.v 2)⟩,
    ⟨.push, 9, none, .mov (.v 0)⟩,
    ⟨.push, 10, none, .len false (.s 0)⟩,
    ⟨.push, 11, none, .call 62 [(.s 0)]⟩,
    ⟨.push, 12, none, .app 1 1 (.int .u8 (0)) (.s 3) (.s 0)⟩,
    ⟨.var 2, 3, none, .mov (.s 0)⟩])
 (.seq (.region false [
    ⟨.var 3, 4, none, .mov (.c (.int .i64 (0)))⟩])
 (.seq (.region false [
    ⟨.var 4, 5, none, .mov (.c (.int .i64 (0)))⟩])
 (.seq (.seq (.region false [
     ⟨.var 5, 6, none, .mov (.c (.int .i64 (0)))⟩])
  (.block 0 (.loop ir40_k0 ir40_o0 ir40_r0 ir40_b0)))
 (.seq (.region false [
    ⟨.push, 50, none, .mov (.v 2)⟩,
    ⟨.push, 51, none, .call 64 [(.s 0)]⟩,
    ⟨.var 1, 2, none, .mov (.s 0)⟩])
 (.ret))))))), [.t 1]⟩
noncomputable def t_spec_l25Curve : List (Nat × Ctr) := [(62, c_spec_l25Number), (63, c_spec_l25Fold), (64, c_spec_l25Close)]
theorem lk_spec_l25Curve_62 : look t_spec_l25Curve 62 = some c_spec_l25Number := rfl
theorem lk_spec_l25Curve_63 : look t_spec_l25Curve 63 = some c_spec_l25Fold := rfl
theorem lk_spec_l25Curve_64 : look t_spec_l25Curve 64 = some c_spec_l25Close := rfl
noncomputable def c_spec_l25Curve : Ctr := mkF t_spec_l25Curve ir40 [.bor]
theorem s_spec_l25Curve : Sound Try.prog 40 c_spec_l25Curve := mkF_sound _ rfl (snd_cons s_spec_l25Number (snd_cons s_spec_l25Fold (snd_cons s_spec_l25Close snd_nil))) (by kernel_rfl : chkFn Try.prog 40 ir40 ir40_v = true)
theorem M_spec_l25Curve : c_spec_l25Curve.modes = [.bor] := rfl
theorem Fl_spec_l25Curve : c_spec_l25Curve.flat = true := rfl
attribute [go_sem] M_spec_l25Curve Fl_spec_l25Curve
attribute [go_sem] lk_spec_l25Curve_62 lk_spec_l25Curve_63 lk_spec_l25Curve_64
def E_spec_l25Curve_l1 (curve : List Point) : ((List UInt8) × Int × Int × Int) → St
  | (out, time, mag, i) => ⟨[.sl 2 (List.map Point_av curve), .any, .own 3200000, .int .i64 time, .int .i64 mag, .int .i64 i], [], [(3200000, ⟨1, List.map byteAV out⟩)], true⟩
def R_spec_l25Curve_l1 (curve : List Point) (y : (List UInt8)) : Res := (.exit 0, ⟨[.any, .any, .own 3200000, .any, .any, .any], [], [(3200000, ⟨1, List.map byteAV y⟩)], true⟩)
theorem spec_l25Curve_l1_ex {curve : List Point} {sgm_ : (List UInt8) × Int × Int × Int} {rho_ : (List UInt8)} (h : whileE (spec_l25Curve_l1 curve) sgm_ = some rho_) : ∃ L0, ∀ L, L0 ≤ L → iter (exec (look t_spec_l25Curve) L ir40_b0) ir40_k0 ir40_o0 ir40_r0 L (E_spec_l25Curve_l1 curve sgm_) = R_spec_l25Curve_l1 curve rho_ := by
  refine loop_ex (E := E_spec_l25Curve_l1 curve) (R := R_spec_l25Curve_l1 curve) (fun y => by first | (intro c; cases c) | (rcases y with y | y <;> (intro c; cases c)) | (rcases y with y | y | y <;> (intro c; cases c))) ?_ h
  clear h
  rintro ⟨out, time, mag, i⟩ o_ h
  dsimp only [spec_l25Curve_l1] at h
  rcases it_some h with ⟨hk3, h⟩ | ⟨hk3, h⟩
  · try simp only [go_sem, n1, n2, n3, n4] at hk3
    all_goals
    obtain ⟨hk4, h⟩ := ck_some h
    have lhk4 := ix_lt hk4
    have xhk4 := getD_mapD Point_av curve lhk4
    try simp only [go_sem] at lhk4
    try simp only [go_sem] at xhk4
    try simp only [go_sem, n1, n2, n3, n4, hk3] at hk4
    all_goals
    obtain ⟨y_5, hk5, h⟩ := bd_some h
    have fhk5 := Fs_spec_l25Number hk5
    try simp only [go_sem, hk3, hk4] at fhk5
    obtain ⟨hk6, h⟩ := ck_some h
    try simp only [go_sem, n1, n2, n3, n4, hk3, hk4] at hk6
    all_goals
    obtain ⟨y_7, hk7, h⟩ := bd_some h
    have fhk7 := Fs_spec_l25Fold hk7
    try simp only [go_sem, hk3, hk4, hk6] at fhk7
    obtain ⟨y_8, hk8, h⟩ := bd_some h
    have fhk8 := Fs_spec_l25Number hk8
    try simp only [go_sem, hk3, hk4, hk6] at fhk8
    obtain ⟨hk9, h⟩ := ck_some h
    try simp only [go_sem, n1, n2, n3, n4, hk3, hk4, hk6] at hk9
    all_goals
    obtain rfl := so_some h
    refine ⟨0, fun L hL => ?_⟩
    simp only [go_sem, ir40, E_spec_l25Curve_l1, R_spec_l25Curve_l1, ir40_b0, ir40_k0, ir40_o0, ir40_r0, hk3, hk4, lhk4, xhk4, fhk5, hk6, fhk7, fhk8, hk9]
  · try simp only [go_sem, n1, n2, n3, n4] at hk3
    all_goals
    obtain rfl := so_some h
    refine ⟨0, fun L hL => ?_⟩
    simp only [go_sem, ir40, E_spec_l25Curve_l1, R_spec_l25Curve_l1, ir40_b0, ir40_k0, ir40_o0, ir40_r0, hk3]

theorem Fs_spec_l25Curve {curve : List Point} {y_ : (List UInt8)} (h : spec_l25Curve curve = some y_) : c_spec_l25Curve.F [.sl 2 (List.map Point_av curve)] = ⟨true, .fresh 1 (List.map byteAV y_), [.any]⟩ := by
  refine mkF_E (by simp only [flatA, flatB, flat1, List.all_cons, List.all_nil, Bool.and_self, flatE_map (f := byteAV) (fun _ => rfl)]) ?_
  dsimp only [spec_l25Curve] at h
  obtain ⟨y_1, hk1, h⟩ := bd_some h
  have fhk1 := Fs_spec_l25Number hk1
  try simp only [go_sem] at fhk1
  obtain ⟨hk2, h⟩ := ck_some h
  try simp only [go_sem, n1, n2, n3, n4] at hk2
  all_goals
  obtain ⟨y_10, hk10, h⟩ := bd_some h
  obtain ⟨Lhk10, ehk10⟩ := spec_l25Curve_l1_ex hk10
  obtain ⟨y_11, hk11, h⟩ := bd_some h
  have fhk11 := Fs_spec_l25Close hk11
  try simp only [go_sem, hk2] at fhk11
  obtain rfl := so_some h
  refine ⟨Lhk10, fun L hL => ?_⟩
  have ehk10 := ehk10 L (by omega)
  try simp only [go_sem, E_spec_l25Curve_l1, R_spec_l25Curve_l1, ir40_k0, ir40_o0, ir40_r0, hk2] at ehk10
  simp only [go_sem, ir40, E_spec_l25Curve_l1, R_spec_l25Curve_l1, ir40_k0, ir40_o0, ir40_r0, fhk1, hk2, fhk11, ehk10]


def ir14_b0 : IR := .seq (.test false [
    ⟨.push, 25, none, .mov (.v 8)⟩,
    ⟨.push, 26, none, .bin false .gtr (.s 0) (.c (.int .i64 (0)))⟩,
    ⟨.push, 27, none, .mov (.s 0)⟩,
    ⟨.push, 28, (some ((.s 0), true)), .mov (.v 4)⟩,
    ⟨.push, 29, (some ((.s 1), true)), .nilck (.s 0)⟩,
    ⟨.push, 30, (some ((.s 2), true)), .fldAddr 2 (.s 0)⟩,
    ⟨.push, 31, (some ((.s 3), true)), .load false 1 (.s 0)⟩,
    ⟨.push, 32, none, .pick (.s 4) (.s 0) (.c (.bool false))⟩] (.s 0)
  (.skip)
  (.exit 0))
 (.seq (.block 1 (.seq (.region false [
      ⟨.push, 35, none, .mov (.v 6)⟩,
      ⟨.push, 36, none, .mov (.v 4)⟩,
      ⟨.push, 37, none, .call 37 [(.s 0), (.c (.int .i64 (10000000)))]⟩,
      ⟨.push, 38, none, .bin false .add (.s 2) (.s 0)⟩,
      ⟨.var 6, 7, none, .mov (.s 0)⟩])
   (.seq (.region false [
      ⟨.push, 39, none, .mov (.v 7)⟩,
      ⟨.push, 40, none, .mov (.v 4)⟩,
      ⟨.push, 41, none, .call 37 [(.s 0), (.c (.int .i64 (100000)))]⟩,
      ⟨.push, 42, none, .call 38 [(.s 0)]⟩,
      ⟨.push, 43, none, .bin false .add (.s 3) (.s 0)⟩,
      ⟨.var 7, 8, none, .mov (.s 0)⟩])
   (.region false [
     ⟨.push, 44, none, .mov (.v 5)⟩,
     ⟨.push, 45, none, .mov (.v 6)⟩,
     ⟨.push, 46, none, .mov (.v 7)⟩,
     ⟨.push, 47, none, .build [.int .i64 (0), .int .i64 (0)] [(0, 1, (.s 1)), (1, 1, (.s 0))]⟩,
     ⟨.push, 48, none, .mkSl 2 (.agg [.int .i64 (0), .int .i64 (0)]) 1 [(0, (.s 0))]⟩,
     ⟨.push, 49, none, .app 2 16 (.agg [.int .i64 (0), .int .i64 (0)]) (.s 4) (.s 0)⟩,
     ⟨.var 5, 6, none, .mov (.s 0)⟩]))))
 (.region false [
   ⟨.push, 33, none, .mov (.v 8)⟩,
   ⟨.push, 34, none, .bin false .sub (.s 0) (.c (.int .i64 (1)))⟩,
   ⟨.var 8, 9, none, .mov (.s 0)⟩]))
def ir14_k0 : List Bool := [true, false, false, false, true, true, true, true, true]
def ir14_o0 : List Bool := [true, false, false, false, true, true, false, false, false]
def ir14_r0 : List Bool := [false, true, true, false, false, false, false, false, false]
def ir14_v : List Nat := [0, 2, 3, 4, 5, 6, 7, 8, 9]
def ir14 : AFn := ⟨1, 9, .seq (.region false [
    ⟨.var 1, 2, none, .newnil 2⟩,
    ⟨.var 2, 3, none, .mov (.c (.int .i64 (0)))⟩])
 (.seq (.region false [
    ⟨.push, 10, none, .mov (.v 0)⟩,
    ⟨.push, 11, none, .call 36 [(.s 0), (.c (.int .i64 (67)))]⟩,
    ⟨.var 3, 4, none, .mov (.s 0)⟩])
 (.seq (.test false [
    ⟨.push, 12, none, .mov (.v 3)⟩,
    ⟨.push, 13, none, .bin false .neq (.s 0) (.c (.int .i64 (0)))⟩] (.s 0)
  (.seq (.region false [
      ⟨.push, 14, none, .mov (.v 3)⟩,
      ⟨.var 1, 2, none, .newnil 2⟩,
      ⟨.var 2, 3, none, .mov (.s 0)⟩])
   (.ret))
  (.skip))
 (.seq (.region false [
    ⟨.push, 15, none, .mov (.v 0)⟩,
    ⟨.push, 16, none, .mov (.v 0)⟩,
    ⟨.push, 17, none, .len false (.s 0)⟩,
    ⟨.push, 18, none, .bin false .sub (.s 0) (.c (.int .i64 (2)))⟩,
    ⟨.push, 19, none, .slice 1 (.s 3) none (some (.s 0))⟩,
    ⟨.push, 20, none, .build [.sl 1 [], .int .i64 (0), .bool false] [(0, 1, (.s 0)), (1, 1, (.c (.int .i64 (1)))), (2, 1, (.c (.bool true)))]⟩,
    ⟨.push, 21, none, .box (.s 0)⟩,
    ⟨.var 4, 5, none, .mov (.s 0)⟩])
 (.seq (.region false [
    ⟨.push, 22, none, .mkSl 2 (.agg [.int .i64 (0), .int .i64 (0)]) 0 []⟩,
    ⟨.var 5, 6, none, .mov (.s 0)⟩])
 (.seq (.region false [
    ⟨.var 6, 7, none, .mov (.c (.int .i64 (0)))⟩])
 (.seq (.region false [
    ⟨.var 7, 8, none, .mov (.c (.int .i64 (0)))⟩])
 (.seq (.seq (.region false [
     ⟨.push, 23, none, .mov (.v 4)⟩,
     ⟨.push, 24, none, .call 37 [(.s 0), (.c (.int .i64 (100)))]⟩,
     ⟨.var 8, 9, none, .mov (.s 0)⟩])
  (.block 0 (.loop ir14_k0 ir14_o0 ir14_r0 ir14_b0)))
 (.seq (.anyo 18 [
    ⟨.slot 0, 50, none, .mov (.v 4)⟩,
    ⟨.slot 1, 51, none, .nilck (.s 0)⟩,
    ⟨.slot 2, 52, none, .fldAddr 2 (.s 1)⟩,
    ⟨.slot 3, 53, none, .load false 1 (.s 2)⟩,
    ⟨.slot 4, 54, none, .un .not (.s 3)⟩,
    ⟨.slot 5, 55, none, .mov (.s 4)⟩,
    ⟨.slot 6, 56, (some ((.s 5), false)), .mov (.v 5)⟩,
    ⟨.slot 7, 57, (some ((.s 5), false)), .call 39 [(.s 6)]⟩,
    ⟨.slot 8, 58, (some ((.s 5), false)), .un .not (.s 7)⟩,
    ⟨.slot 9, 59, none, .pick (.s 5) (.c (.bool true)) (.s 8)⟩,
    ⟨.slot 10, 60, none, .mov (.s 9)⟩,
    ⟨.slot 11, 61, (some ((.s 10), false)), .mov (.v 5)⟩,
    ⟨.slot 12, 62, (some ((.s 10), false)), .call 40 [(.s 11)]⟩,
    ⟨.slot 13, 63, (some ((.s 10), false)), .b2s (.s 12)⟩,
    ⟨.slot 14, 64, (some ((.s 10), false)), .mov (.v 0)⟩,
    ⟨.slot 15, 65, (some ((.s 10), false)), .b2s (.s 14)⟩,
    ⟨.slot 16, 66, (some ((.s 10), false)), .bin false .neq (.s 13) (.s 15)⟩,
    ⟨.slot 17, 67, none, .pick (.s 10) (.c (.bool true)) (.s 16)⟩] [] (.cond (.s 17)
  (.seq (.region false [
      ⟨.var 1, 2, none, .newnil 2⟩,
      ⟨.var 2, 3, none, .mov (.c (.int .i64 (8)))⟩])
   (.ret))
  (.skip)))
 (.seq (.region false [
    ⟨.push, 68, none, .mov (.v 5)⟩,
    ⟨.var 1, 2, none, .mov (.s 0)⟩,
    ⟨.var 2, 3, none, .mov (.c (.int .i64 (0)))⟩])
 (.ret)))))))))), [.t 1, .t 2]⟩
noncomputable def t_spec_UnpackCurve : List (Nat × Ctr) := [(36, c_spec_l25Open), (37, c_spec_l25R_number), (38, c_spec_l25Unfold), (39, c_spec_l08Ok), (40, c_spec_l25Curve)]
theorem lk_spec_UnpackCurve_36 : look t_spec_UnpackCurve 36 = some c_spec_l25Open := rfl
theorem lk_spec_UnpackCurve_37 : look t_spec_UnpackCurve 37 = some c_spec_l25R_number := rfl
theorem lk_spec_UnpackCurve_38 : look t_spec_UnpackCurve 38 = some c_spec_l25Unfold := rfl
theorem lk_spec_UnpackCurve_39 : look t_spec_UnpackCurve 39 = some c_spec_l08Ok := rfl
theorem lk_spec_UnpackCurve_40 : look t_spec_UnpackCurve 40 = some c_spec_l25Curve := rfl
noncomputable def c_spec_UnpackCurve : Ctr := mkF t_spec_UnpackCurve ir14 [.bor]
theorem s_spec_UnpackCurve : Sound Try.prog 14 c_spec_UnpackCurve := mkF_sound _ rfl (snd_cons s_spec_l25Open (snd_cons s_spec_l25R_number (snd_cons s_spec_l25Unfold (snd_cons s_spec_l08Ok (snd_cons s_spec_l25Curve snd_nil))))) (by kernel_rfl : chkFn Try.prog 14 ir14 ir14_v = true)
theorem M_spec_UnpackCurve : c_spec_UnpackCurve.modes = [.bor] := rfl
theorem Fl_spec_UnpackCurve : c_spec_UnpackCurve.flat = true := rfl
attribute [go_sem] M_spec_UnpackCurve Fl_spec_UnpackCurve
attribute [go_sem] lk_spec_UnpackCurve_36 lk_spec_UnpackCurve_37 lk_spec_UnpackCurve_38 lk_spec_UnpackCurve_39 lk_spec_UnpackCurve_40
def E_spec_UnpackCurve_l1 (b : List UInt8) : (L25R × (List Point) × Int × Int × Int) → St
  | (r, out, time, mag, n) => ⟨[.sl 1 (List.map byteAV b), .any, .any, .any, .ref 3200000 0 0, .own 3200032, .int .i64 time, .int .i64 mag, .int .i64 n], [], [(3200000, ⟨3, [L25R_av r]⟩), (3200032, ⟨2, List.map Point_av out⟩)], true⟩
def R_spec_UnpackCurve_l1 (b : List UInt8) (y : L25R × (List Point)) : Res := (.exit 0, ⟨[.sl 1 (List.map byteAV b), .any, .any, .any, .ref 3200000 0 0, .own 3200032, .any, .any, .any], [], [(3200000, ⟨3, [L25R_av y.1]⟩), (3200032, ⟨2, List.map Point_av y.2⟩)], true⟩)
theorem spec_UnpackCurve_l1_ex {b : List UInt8} {sgm_ : L25R × (List Point) × Int × Int × Int} {rho_ : L25R × (List Point)} (h : whileE (spec_UnpackCurve_l1 b) sgm_ = some rho_) : ∃ L0, ∀ L, L0 ≤ L → iter (exec (look t_spec_UnpackCurve) L ir14_b0) ir14_k0 ir14_o0 ir14_r0 L (E_spec_UnpackCurve_l1 b sgm_) = R_spec_UnpackCurve_l1 b rho_ := by
  refine loop_ex (E := E_spec_UnpackCurve_l1 b) (R := R_spec_UnpackCurve_l1 b) (fun y => by first | (intro c; cases c) | (rcases y with y | y <;> (intro c; cases c)) | (rcases y with y | y | y <;> (intro c; cases c))) ?_ h
  clear h
  rintro ⟨r, out, time, mag, n⟩ o_ h
  dsimp only [spec_UnpackCurve_l1] at h
  rcases it_some h with ⟨hk5, h⟩ | ⟨hk5, h⟩
  · try simp only [go_sem, n1, n2, n3, n4] at hk5
    all_goals
    obtain ⟨y_6, hk6, h⟩ := bd_some h
    have fhk6 := Fs_spec_l25R_number hk6
    try simp only [go_sem, hk5] at fhk6
    obtain ⟨y_7, hk7, h⟩ := bd_some h
    have fhk7 := Fs_spec_l25R_number hk7
    try simp only [go_sem, hk5] at fhk7
    obtain ⟨y_8, hk8, h⟩ := bd_some h
    have fhk8 := Fs_spec_l25Unfold hk8
    try simp only [go_sem, hk5] at fhk8
    obtain ⟨hk9, h⟩ := ck_some h
    try simp only [go_sem, n1, n2, n3, n4, hk5] at hk9
    all_goals
    obtain rfl := so_some h
    refine ⟨0, fun L hL => ?_⟩
    simp only [go_sem, ir14, E_spec_UnpackCurve_l1, R_spec_UnpackCurve_l1, ir14_b0, ir14_k0, ir14_o0, ir14_r0, hk5, fhk6, fhk7, fhk8, hk9]
  · try simp only [go_sem, n1, n2, n3, n4] at hk5
    all_goals
    obtain rfl := so_some h
    refine ⟨0, fun L hL => ?_⟩
    simp only [go_sem, ir14, E_spec_UnpackCurve_l1, R_spec_UnpackCurve_l1, ir14_b0, ir14_k0, ir14_o0, ir14_r0, hk5]

theorem Fs_spec_UnpackCurve {b : List UInt8} {y_ : (List Point) × Int} (h : spec_UnpackCurve b = some y_) : c_spec_UnpackCurve.F [.sl 1 (List.map byteAV b)] = ⟨true, .tup [.fresh 2 (List.map Point_av y_.1), .int .i64 y_.2], [.any]⟩ := by
  refine mkF_E (by simp only [flatA, flatB, flat1, List.all_cons, List.all_nil, Bool.and_self, flatE_map (f := Point_av) (fun _ => rfl)]) ?_
  dsimp only [spec_UnpackCurve] at h
  obtain ⟨y_1, hk1, h⟩ := bd_some h
  have fhk1 := Fs_spec_l25Open hk1
  try simp only [go_sem] at fhk1
  rcases it_some h with ⟨hk2, h⟩ | ⟨hk2, h⟩
  · try simp only [go_sem, n1, n2, n3, n4] at hk2
    all_goals
    obtain rfl := so_some h
    refine ⟨0, fun L hL => ?_⟩
    simp only [go_sem, ir14, E_spec_UnpackCurve_l1, R_spec_UnpackCurve_l1, ir14_k0, ir14_o0, ir14_r0, fhk1, hk2]
  · try simp only [go_sem, n1, n2, n3, n4] at hk2
    all_goals
    obtain ⟨hk3, h⟩ := ck_some h
    try simp only [go_sem, n1, n2, n3, n4, hk2] at hk3
    all_goals
    obtain ⟨y_4, hk4, h⟩ := bd_some h
    have fhk4 := Fs_spec_l25R_number hk4
    try simp only [go_sem, hk2, hk3] at fhk4
    obtain ⟨y_10, hk10, h⟩ := bd_some h
    obtain ⟨Lhk10, ehk10⟩ := spec_UnpackCurve_l1_ex hk10
    obtain ⟨hk11, h⟩ := ck_some h
    rcases or_split hk11 with ⟨ghk11, hk11⟩ | ghk11
    · try simp only [go_sem, n1, n2, n3, n4, hk2, hk3] at ghk11
      all_goals
      obtain ⟨y_11, hhk11⟩ := Option.isSome_iff_exists.1 hk11
      have fhk11 := Fs_spec_l08Ok hhk11
      try simp only [go_sem, hk2, hk3, ghk11] at fhk11
      obtain ⟨hk12, h⟩ := ck_some h
      rcases or_split hk12 with ⟨ghk12, hk12⟩ | ghk12
      · try simp only [go_sem, n1, n2, n3, n4, hk2, hk3, ghk11, hhk11] at ghk12
        all_goals
        obtain ⟨y_12, hhk12⟩ := Option.isSome_iff_exists.1 hk12
        have fhk12 := Fs_spec_l25Curve hhk12
        try simp only [go_sem, hk2, hk3, ghk11, hhk11, ghk12] at fhk12
        rcases it_some h with ⟨hk13, h⟩ | ⟨hk13, h⟩
        · try simp only [go_sem, n1, n2, n3, n4, hk2, hk3, ghk11, hhk11, ghk12, hhk12] at hk13
          all_goals
          obtain rfl := so_some h
          refine ⟨Lhk10, fun L hL => ?_⟩
          have ehk10 := ehk10 L (by omega)
          try simp only [go_sem, E_spec_UnpackCurve_l1, R_spec_UnpackCurve_l1, ir14_k0, ir14_o0, ir14_r0, hk2, hk3, ghk11, hhk11, ghk12, hhk12, hk13] at ehk10
          simp only [go_sem, ir14, E_spec_UnpackCurve_l1, R_spec_UnpackCurve_l1, ir14_k0, ir14_o0, ir14_r0, fhk1, hk2, hk3, fhk4, ghk11, hhk11, fhk11, ghk12, hhk12, fhk12, hk13, ehk10]
        · try simp only [go_sem, n1, n2, n3, n4, hk2, hk3, ghk11, hhk11, ghk12, hhk12] at hk13
          all_goals
          obtain rfl := so_some h
          refine ⟨Lhk10, fun L hL => ?_⟩
          have ehk10 := ehk10 L (by omega)
          try simp only [go_sem, E_spec_UnpackCurve_l1, R_spec_UnpackCurve_l1, ir14_k0, ir14_o0, ir14_r0, hk2, hk3, ghk11, hhk11, ghk12, hhk12, hk13] at ehk10
          simp only [go_sem, ir14, E_spec_UnpackCurve_l1, R_spec_UnpackCurve_l1, ir14_k0, ir14_o0, ir14_r0, fhk1, hk2, hk3, fhk4, ghk11, hhk11, fhk11, ghk12, hhk12, fhk12, hk13, ehk10]
      · have ghk12n := no_f ghk12
        rcases or_t ghk12n with ghk12na | ⟨ghk12na, ghk12nb⟩
        · have ghk12nan := no_t ghk12na
          try simp only [go_sem, n1, n2, n3, n4, hk2, hk3, ghk11, hhk11] at ghk12nan
          all_goals
          rcases it_some h with ⟨hk13, h⟩ | ⟨hk13, h⟩
          · try simp only [go_sem, n1, n2, n3, n4, hk2, hk3, ghk11, hhk11, ghk12nan] at hk13
            all_goals
            obtain rfl := so_some h
            refine ⟨Lhk10, fun L hL => ?_⟩
            have ehk10 := ehk10 L (by omega)
            try simp only [go_sem, E_spec_UnpackCurve_l1, R_spec_UnpackCurve_l1, ir14_k0, ir14_o0, ir14_r0, hk2, hk3, ghk11, hhk11, ghk12nan, hk13] at ehk10
            simp only [go_sem, ir14, E_spec_UnpackCurve_l1, R_spec_UnpackCurve_l1, ir14_k0, ir14_o0, ir14_r0, fhk1, hk2, hk3, fhk4, ghk11, hhk11, fhk11, ghk12nan, hk13, ehk10]
          · try simp only [go_sem, n1, n2, n3, n4, hk2, hk3, ghk11, hhk11, ghk12nan] at hk13
            all_goals
            obtain rfl := so_some h
            refine ⟨Lhk10, fun L hL => ?_⟩
            have ehk10 := ehk10 L (by omega)
            try simp only [go_sem, E_spec_UnpackCurve_l1, R_spec_UnpackCurve_l1, ir14_k0, ir14_o0, ir14_r0, hk2, hk3, ghk11, hhk11, ghk12nan, hk13] at ehk10
            simp only [go_sem, ir14, E_spec_UnpackCurve_l1, R_spec_UnpackCurve_l1, ir14_k0, ir14_o0, ir14_r0, fhk1, hk2, hk3, fhk4, ghk11, hhk11, fhk11, ghk12nan, hk13, ehk10]
        · have ghk12nan := no_f ghk12na
          have ghk12nbn := no_t ghk12nb
          try simp only [go_sem, n1, n2, n3, n4, hk2, hk3, ghk11, hhk11] at ghk12nan
          all_goals
          try simp only [go_sem, n1, n2, n3, n4, hk2, hk3, ghk11, hhk11, ghk12nan] at ghk12nbn
          all_goals
          rcases it_some h with ⟨hk13, h⟩ | ⟨hk13, h⟩
          · try simp only [go_sem, n1, n2, n3, n4, hk2, hk3, ghk11, hhk11, ghk12nan, ghk12nbn] at hk13
            all_goals
            obtain rfl := so_some h
            refine ⟨Lhk10, fun L hL => ?_⟩
            have ehk10 := ehk10 L (by omega)
            try simp only [go_sem, E_spec_UnpackCurve_l1, R_spec_UnpackCurve_l1, ir14_k0, ir14_o0, ir14_r0, hk2, hk3, ghk11, hhk11, ghk12nan, ghk12nbn, hk13] at ehk10
            simp only [go_sem, ir14, E_spec_UnpackCurve_l1, R_spec_UnpackCurve_l1, ir14_k0, ir14_o0, ir14_r0, fhk1, hk2, hk3, fhk4, ghk11, hhk11, fhk11, ghk12nan, ghk12nbn, hk13, ehk10]
          · try simp only [go_sem, n1, n2, n3, n4, hk2, hk3, ghk11, hhk11, ghk12nan, ghk12nbn] at hk13
            all_goals
            obtain rfl := so_some h
            refine ⟨Lhk10, fun L hL => ?_⟩
            have ehk10 := ehk10 L (by omega)
            try simp only [go_sem, E_spec_UnpackCurve_l1, R_spec_UnpackCurve_l1, ir14_k0, ir14_o0, ir14_r0, hk2, hk3, ghk11, hhk11, ghk12nan, ghk12nbn, hk13] at ehk10
            simp only [go_sem, ir14, E_spec_UnpackCurve_l1, R_spec_UnpackCurve_l1, ir14_k0, ir14_o0, ir14_r0, fhk1, hk2, hk3, fhk4, ghk11, hhk11, fhk11, ghk12nan, ghk12nbn, hk13, ehk10]
    · have ghk11n := no_f ghk11
      have ghk11nn := no_t ghk11n
      try simp only [go_sem, n1, n2, n3, n4, hk2, hk3] at ghk11nn
      all_goals
      obtain ⟨hk12, h⟩ := ck_some h
      rcases or_split hk12 with ⟨ghk12, hk12⟩ | ghk12
      · try simp only [go_sem, n1, n2, n3, n4, hk2, hk3, ghk11nn] at ghk12
        all_goals
        obtain ⟨y_12, hhk12⟩ := Option.isSome_iff_exists.1 hk12
        have fhk12 := Fs_spec_l25Curve hhk12
        try simp only [go_sem, hk2, hk3, ghk11nn, ghk12] at fhk12
        rcases it_some h with ⟨hk13, h⟩ | ⟨hk13, h⟩
        · try simp only [go_sem, n1, n2, n3, n4, hk2, hk3, ghk11nn, ghk12, hhk12] at hk13
          all_goals
          obtain rfl := so_some h
          refine ⟨Lhk10, fun L hL => ?_⟩
          have ehk10 := ehk10 L (by omega)
          try simp only [go_sem, E_spec_UnpackCurve_l1, R_spec_UnpackCurve_l1, ir14_k0, ir14_o0, ir14_r0, hk2, hk3, ghk11nn, ghk12, hhk12, hk13] at ehk10
          simp only [go_sem, ir14, E_spec_UnpackCurve_l1, R_spec_UnpackCurve_l1, ir14_k0, ir14_o0, ir14_r0, fhk1, hk2, hk3, fhk4, ghk11nn, ghk12, hhk12, fhk12, hk13, ehk10]
        · try simp only [go_sem, n1, n2, n3, n4, hk2, hk3, ghk11nn, ghk12, hhk12] at hk13
          all_goals
          obtain rfl := so_some h
          refine ⟨Lhk10, fun L hL => ?_⟩
          have ehk10 := ehk10 L (by omega)
          try simp only [go_sem, E_spec_UnpackCurve_l1, R_spec_UnpackCurve_l1, ir14_k0, ir14_o0, ir14_r0, hk2, hk3, ghk11nn, ghk12, hhk12, hk13] at ehk10
          simp only [go_sem, ir14, E_spec_UnpackCurve_l1, R_spec_UnpackCurve_l1, ir14_k0, ir14_o0, ir14_r0, fhk1, hk2, hk3, fhk4, ghk11nn, ghk12, hhk12, fhk12, hk13, ehk10]
      · have ghk12n := no_f ghk12
        rcases or_t ghk12n with ghk12na | ⟨ghk12na, ghk12nb⟩
        · have ghk12nan := no_t ghk12na
          try simp only [go_sem, n1, n2, n3, n4, hk2, hk3, ghk11nn] at ghk12nan
          all_goals
          rcases it_some h with ⟨hk13, h⟩ | ⟨hk13, h⟩
          · try simp only [go_sem, n1, n2, n3, n4, hk2, hk3, ghk11nn, ghk12nan] at hk13
            all_goals
            obtain rfl := so_some h
            refine ⟨Lhk10, fun L hL => ?_⟩
            have ehk10 := ehk10 L (by omega)
            try simp only [go_sem, E_spec_UnpackCurve_l1, R_spec_UnpackCurve_l1, ir14_k0, ir14_o0, ir14_r0, hk2, hk3, ghk11nn, ghk12nan, hk13] at ehk10
            simp only [go_sem, ir14, E_spec_UnpackCurve_l1, R_spec_UnpackCurve_l1, ir14_k0, ir14_o0, ir14_r0, fhk1, hk2, hk3, fhk4, ghk11nn, ghk12nan, hk13, ehk10]
          · try simp only [go_sem, n1, n2, n3, n4, hk2, hk3, ghk11nn, ghk12nan] at hk13
            all_goals
            obtain rfl := so_some h
            refine ⟨Lhk10, fun L hL => ?_⟩
            have ehk10 := ehk10 L (by omega)
            try simp only [go_sem, E_spec_UnpackCurve_l1, R_spec_UnpackCurve_l1, ir14_k0, ir14_o0, ir14_r0, hk2, hk3, ghk11nn, ghk12nan, hk13] at ehk10
            simp only [go_sem, ir14, E_spec_UnpackCurve_l1, R_spec_UnpackCurve_l1, ir14_k0, ir14_o0, ir14_r0, fhk1, hk2, hk3, fhk4, ghk11nn, ghk12nan, hk13, ehk10]
        · have ghk12nan := no_f ghk12na
          have ghk12nbn := no_t ghk12nb
          try simp only [go_sem, n1, n2, n3, n4, hk2, hk3, ghk11nn] at ghk12nan
          all_goals
          try simp only [go_sem, n1, n2, n3, n4, hk2, hk3, ghk11nn, ghk12nan] at ghk12nbn
          all_goals
          rcases it_some h with ⟨hk13, h⟩ | ⟨hk13, h⟩
          · try simp only [go_sem, n1, n2, n3, n4, hk2, hk3, ghk11nn, ghk12nan, ghk12nbn] at hk13
            all_goals
            obtain rfl := so_some h
            refine ⟨Lhk10, fun L hL => ?_⟩
            have ehk10 := ehk10 L (by omega)
            try simp only [go_sem, E_spec_UnpackCurve_l1, R_spec_UnpackCurve_l1, ir14_k0, ir14_o0, ir14_r0, hk2, hk3, ghk11nn, ghk12nan, ghk12nbn, hk13] at ehk10
            simp only [go_sem, ir14, E_spec_UnpackCurve_l1, R_spec_UnpackCurve_l1, ir14_k0, ir14_o0, ir14_r0, fhk1, hk2, hk3, fhk4, ghk11nn, ghk12nan, ghk12nbn, hk13, ehk10]
          · try simp only [go_sem, n1, n2, n3, n4, hk2, hk3, ghk11nn, ghk12nan, ghk12nbn] at hk13
            all_goals
            obtain rfl := so_some h
            refine ⟨Lhk10, fun L hL => ?_⟩
            have ehk10 := ehk10 L (by omega)
            try simp only [go_sem, E_spec_UnpackCurve_l1, R_spec_UnpackCurve_l1, ir14_k0, ir14_o0, ir14_r0, hk2, hk3, ghk11nn, ghk12nan, ghk12nbn, hk13] at ehk10
            simp only [go_sem, ir14, E_spec_UnpackCurve_l1, R_spec_UnpackCurve_l1, ir14_k0, ir14_o0, ir14_r0, fhk1, hk2, hk3, fhk4, ghk11nn, ghk12nan, ghk12nbn, hk13, ehk10]


def ir65_b0 : IR := .seq (.region false [
    ⟨.var 8, 10, none, .bin false .lss (.v 7) (.v 6)⟩])
 (.seq (.cond (.v 8) (.skip)
  (.exit 0))
 (.seq (.block 1 (.seq (.region false [
      ⟨.push, 11, none, .ixAddr 1 (.v 5) (.v 7)⟩,
      ⟨.push, 12, none, .load false 1 (.s 0)⟩,
      ⟨.var 4, 6, none, .mov (.s 0)⟩])
   (.seq (.region false [
      ⟨.push, 13, none, .mov (.v 2)⟩,
      ⟨.push, 14, none, .mov (.v 4)⟩,
      ⟨.push, 15, none, .conv .i64 (.s 0)⟩,
      ⟨.push, 16, none, .bin false .add (.s 2) (.s 0)⟩,
      ⟨.push, 17, none, .bin false .rem (.s 0) (.c (.int .i64 (251)))⟩,
      ⟨.var 2, 3, none, .mov (.s 0)⟩])
   (.region false [
     ⟨.push, 18, none, .mov (.v 3)⟩,
     ⟨.push, 19, none, .mov (.v 2)⟩,
     ⟨.push, 20, none, .bin false .add (.s 1) (.s 0)⟩,
     ⟨.push, 21, none, .bin false .rem (.s 0) (.c (.int .i64 (251)))⟩,
     ⟨.var 3, 4, none, .mov (.s 0)⟩]))))
 (.region false [
   ⟨.push, 22, none, .bin false .add (.v 7) (.c (.int .i64 (1)))⟩,
   ⟨.var 7, 9, none, .mov (.s 0)⟩])))
def ir65_k0 : List Bool := [false, false, true, true, false, true, true, true, false]
def ir65_o0 : List Bool := [false, false, true, true, false, false, false, false, false]
def ir65_r0 : List Bool := [false, true, false, false, false, false, false, false, false]
def ir65_v : List Nat := [0, 2, 3, 4, 6, 7, 8, 9, 10]
def ir65 : AFn := ⟨1, 9, .seq (.region false [
    ⟨.var 1, 2, none, .mov (.c (.int .i64 (0)))⟩])
 (.seq (.region false [
    ⟨.var 2, 3, none, .mov (.c (.int .i64 (1)))⟩,
    ⟨.var 3, 4, none, .mov (.c (.int .i64 (0)))⟩])
 (.seq (.seq (.region false [
     ⟨.var 5, 7, none, .mov (.v 0)⟩,
     ⟨.var 6, 8, none, .len false (.v 5)⟩,
     ⟨.var 7, 9, none, .mov (.c (.int .i64 (0)))⟩])
  (.block 0 (.loop ir65_k0 ir65_o0 ir65_r0 ir65_b0)))
 (.seq (.region false [
    ⟨.push, 23, none, .mov (.v 3)⟩,
    ⟨.push, 24, none, .bin false .mul (.c (.int .i64 (251))) (.s 0)⟩,
    ⟨.push, 25, none, .mov (.v 2)⟩,
    ⟨.push, 26, none, .bin false .add (.s 1) (.s 0)⟩,
    ⟨.var 1, 2, none, .mov (.s 0)⟩])
 (.ret)))), [.t 1]⟩
noncomputable def t_impl_SumOfBytes : List (Nat × Ctr) := []
noncomputable def c_impl_SumOfBytes : Ctr := mkF t_impl_SumOfBytes ir65 [.bor]
theorem s_impl_SumOfBytes : Sound Try.prog 65 c_impl_SumOfBytes := mkF_sound _ rfl snd_nil (by kernel_rfl : chkFn Try.prog 65 ir65 ir65_v = true)
theorem M_impl_SumOfBytes : c_impl_SumOfBytes.modes = [.bor] := rfl
theorem Fl_impl_SumOfBytes : c_impl_SumOfBytes.flat = true := rfl
attribute [go_sem] M_impl_SumOfBytes Fl_impl_SumOfBytes
def E_impl_SumOfBytes_l1 (t7 : List UInt8) (t8 : Int) : (Int × Int × Int) → St
  | (s_, t, t9) => ⟨[.any, .any, .int .i64 s_, .int .i64 t, .any, .sl 1 (List.map byteAV t7), .int .i64 t8, .int .i64 t9, .any], [], [], true⟩
def R_impl_SumOfBytes_l1 (t7 : List UInt8) (t8 : Int) (y : Int × Int) : Res := (.exit 0, ⟨[.any, .any, .int .i64 y.1, .int .i64 y.2, .any, .any, .any, .any, .any], [], [], true⟩)
theorem impl_SumOfBytes_l1_ex {t7 : List UInt8} {t8 : Int} {sgm_ : Int × Int × Int} {rho_ : Int × Int} (h : whileE (impl_SumOfBytes_l1 t7 t8) sgm_ = some rho_) : ∃ L0, ∀ L, L0 ≤ L → iter (exec (look t_impl_SumOfBytes) L ir65_b0) ir65_k0 ir65_o0 ir65_r0 L (E_impl_SumOfBytes_l1 t7 t8 sgm_) = R_impl_SumOfBytes_l1 t7 t8 rho_ := by
  refine loop_ex (E := E_impl_SumOfBytes_l1 t7 t8) (R := R_impl_SumOfBytes_l1 t7 t8) (fun y => by first | (intro c; cases c) | (rcases y with y | y <;> (intro c; cases c)) | (rcases y with y | y | y <;> (intro c; cases c))) ?_ h
  clear h
  rintro ⟨s_, t, t9⟩ o_ h
  dsimp only [impl_SumOfBytes_l1] at h
  rcases it_some h with ⟨hk1, h⟩ | ⟨hk1, h⟩
  · try simp only [go_sem, n1, n2, n3, n4] at hk1
    all_goals
    obtain ⟨hk2, h⟩ := ck_some h
    have lhk2 := ix_lt hk2
    have xhk2 := getD_mapD byteAV t7 lhk2
    try simp only [go_sem] at lhk2
    try simp only [go_sem] at xhk2
    try simp only [go_sem, n1, n2, n3, n4, hk1] at hk2
    all_goals
    obtain ⟨hk3, h⟩ := ck_some h
    try simp only [go_sem, n1, n2, n3, n4, hk1, hk2] at hk3
    all_goals
    obtain rfl := so_some h
    refine ⟨0, fun L hL => ?_⟩
    simp only [go_sem, ir65, E_impl_SumOfBytes_l1, R_impl_SumOfBytes_l1, ir65_b0, ir65_k0, ir65_o0, ir65_r0, hk1, hk2, lhk2, xhk2, hk3]
  · try simp only [go_sem, n1, n2, n3, n4] at hk1
    all_goals
    obtain rfl := so_some h
    refine ⟨0, fun L hL => ?_⟩
    simp only [go_sem, ir65, E_impl_SumOfBytes_l1, R_impl_SumOfBytes_l1, ir65_b0, ir65_k0, ir65_o0, ir65_r0, hk1]

theorem Fs_impl_SumOfBytes {b : List UInt8} {y_ : Int} (h : impl_SumOfBytes b = some y_) : c_impl_SumOfBytes.F [.sl 1 (List.map byteAV b)] = ⟨true, .int .i64 y_, [.any]⟩ := by
  refine mkF_E rfl ?_
  dsimp only [impl_SumOfBytes] at h
  obtain ⟨y_4, hk4, h⟩ := bd_some h
  obtain ⟨Lhk4, ehk4⟩ := impl_SumOfBytes_l1_ex hk4
  obtain rfl := so_some h
  refine ⟨Lhk4, fun L hL => ?_⟩
  have ehk4 := ehk4 L (by omega)
  try simp only [go_sem, E_impl_SumOfBytes_l1, R_impl_SumOfBytes_l1, ir65_k0, ir65_o0, ir65_r0] at ehk4
  simp only [go_sem, ir65, E_impl_SumOfBytes_l1, R_impl_SumOfBytes_l1, ir65_k0, ir65_o0, ir65_r0, ehk4]


def ir42_v : List Nat := [0, 2]
def ir42 : AFn := ⟨1, 2, .seq (.region false [
    ⟨.var 1, 2, none, .mov (.c (.bool false))⟩])
 (.seq (.region false [
    ⟨.push, 3, none, .mov (.v 0)⟩,
    ⟨.push, 4, none, .bin false .eql (.s 0) (.c (.int .u8 (67)))⟩,
    ⟨.var 1, 2, none, .mov (.s 0)⟩])
 (.ret)), [.t 1]⟩
noncomputable def t_impl_UnpackCurve_c1 : List (Nat × Ctr) := []
noncomputable def c_impl_UnpackCurve_c1 : Ctr := mkF t_impl_UnpackCurve_c1 ir42 [.bor]
theorem s_impl_UnpackCurve_c1 : Sound Try.prog 42 c_impl_UnpackCurve_c1 := mkF_sound _ rfl snd_nil (by kernel_rfl : chkFn Try.prog 42 ir42 ir42_v = true)
theorem M_impl_UnpackCurve_c1 : c_impl_UnpackCurve_c1.modes = [.bor] := rfl
theorem Fl_impl_UnpackCurve_c1 : c_impl_UnpackCurve_c1.flat = true := rfl
attribute [go_sem] M_impl_UnpackCurve_c1 Fl_impl_UnpackCurve_c1
theorem Fs_impl_UnpackCurve_c1 {kind : UInt8} {y_ : Bool} (h : impl_UnpackCurve_c1 kind = some y_) : c_impl_UnpackCurve_c1.F [.int .u8 (kind.toNat : Int)] = ⟨true, .bool y_, [.any]⟩ := by
  refine mkF_E rfl ?_
  dsimp only [impl_UnpackCurve_c1] at h
  obtain rfl := so_some h
  refine ⟨0, fun L hL => ?_⟩
  simp only [go_sem, ir42]


def ir41_v : List Nat := [0, 1, 4, 5]
def ir41 : AFn := ⟨2, 4, .seq (.region false [
    ⟨.var 2, 4, none, .mov (.c (.int .i64 (0)))⟩])
 (.seq (.test false [
    ⟨.push, 6, none, .mov (.v 0)⟩,
    ⟨.push, 7, none, .len false (.s 0)⟩,
    ⟨.push, 8, none, .bin false .lss (.s 0) (.c (.int .i64 (3)))⟩,
    ⟨.push, 9, none, .mov (.s 0)⟩,
    ⟨.push, 10, (some ((.s 0), false)), .mov (.v 0)⟩,
    ⟨.push, 11, (some ((.s 1), false)), .len false (.s 0)⟩,
    ⟨.push, 12, (some ((.s 2), false)), .bin false .gtr (.s 0) (.c (.int .i64 (8000)))⟩,
    ⟨.push, 13, none, .pick (.s 3) (.c (.bool true)) (.s 0)⟩,
    ⟨.push, 14, none, .mov (.s 0)⟩,
    ⟨.push, 15, (some ((.s 0), false)), .mov (.v 1)⟩,
    ⟨.push, 16, (some ((.s 1), false)), .mov (.v 0)⟩,
    ⟨.push, 17, (some ((.s 2), false)), .ixAddr 1 (.s 0) (.c (.int .i64 (0)))⟩,
    ⟨.push, 18, (some ((.s 3), false)), .load false 1 (.s 0)⟩,
    ⟨.push, 19, (some ((.s 4), false)), .callv (.s 3) [(.s 0)]⟩,
    ⟨.push, 20, (some ((.s 5), false)), .un .not (.s 0)⟩,
    ⟨.push, 21, none, .pick (.s 6) (.c (.bool true)) (.s 0)⟩] (.s 0)
  (.seq (.region false [
      ⟨.var 2, 4, none, .mov (.c (.int .i64 (8)))⟩])
   (.ret))
  (.skip))
 (.seq (.seq (.region false [
     ⟨.push, 22, none, .mov (.v 0)⟩,
     ⟨.push, 23, none, .len false (.s 0)⟩,
     ⟨.push, 24, none, .bin false .sub (.s 0) (.c (.int .i64 (2)))⟩,
     ⟨.var 3, 5, none, .mov (.s 0)⟩])
  (.anyo 18 [
    ⟨.slot 0, 25, none, .mov (.v 0)⟩,
    ⟨.slot 1, 26, none, .mov (.v 3)⟩,
    ⟨.slot 2, 27, none, .pur (.slice 1 (.s 0) none (some (.s 1)))⟩,
    ⟨.slot 3, 28, none, .callp 65 [(.s 2)]⟩,
    ⟨.slot 4, 29, none, .mov (.v 0)⟩,
    ⟨.slot 5, 30, none, .mov (.v 3)⟩,
    ⟨.slot 6, 31, none, .ixAddr 1 (.s 4) (.s 5)⟩,
    ⟨.slot 7, 32, none, .load false 1 (.s 6)⟩,
    ⟨.slot 8, 33, none, .conv .i64 (.s 7)⟩,
    ⟨.slot 9, 34, none, .bin false .mul (.s 8) (.c (.int .i64 (256)))⟩,
    ⟨.slot 10, 35, none, .mov (.v 0)⟩,
    ⟨.slot 11, 36, none, .mov (.v 3)⟩,
    ⟨.slot 12, 37, none, .bin false .add (.s 11) (.c (.int .i64 (1)))⟩,
    ⟨.slot 13, 38, none, .ixAddr 1 (.s 10) (.s 12)⟩,
    ⟨.slot 14, 39, none, .load false 1 (.s 13)⟩,
    ⟨.slot 15, 40, none, .conv .i64 (.s 14)⟩,
    ⟨.slot 16, 41, none, .bin false .add (.s 9) (.s 15)⟩,
    ⟨.slot 17, 42, none, .bin false .neq (.s 3) (.s 16)⟩] [] (.cond (.s 17)
  (.seq (.region false [
      ⟨.var 2, 4, none, .mov (.c (.int .i64 (9)))⟩])
   (.ret))
  (.skip))))
 (.seq (.region false [
    ⟨.var 2, 4, none, .mov (.c (.int .i64 (0)))⟩])
 (.ret)))), [.t 2]⟩
noncomputable def t_impl_checkPacked__impl_UnpackCurve_c1 : List (Nat × Ctr) := [(42, c_impl_UnpackCurve_c1), (65, c_impl_SumOfBytes)]
theorem lk_impl_checkPacked__impl_UnpackCurve_c1_42 : look t_impl_checkPacked__impl_UnpackCurve_c1 42 = some c_impl_UnpackCurve_c1 := rfl
theorem lk_impl_checkPacked__impl_UnpackCurve_c1_65 : look t_impl_checkPacked__impl_UnpackCurve_c1 65 = some c_impl_SumOfBytes := rfl
noncomputable def c_impl_checkPacked__impl_UnpackCurve_c1 : Ctr := mkF t_impl_checkPacked__impl_UnpackCurve_c1 ir41 [.bor, .bor]
theorem s_impl_checkPacked__impl_UnpackCurve_c1 : Sound Try.prog 41 c_impl_checkPacked__impl_UnpackCurve_c1 := mkF_sound _ rfl (snd_cons s_impl_UnpackCurve_c1 (snd_cons s_impl_SumOfBytes snd_nil)) (by kernel_rfl : chkFn Try.prog 41 ir41 ir41_v = true)
theorem M_impl_checkPacked__impl_UnpackCurve_c1 : c_impl_checkPacked__impl_UnpackCurve_c1.modes = [.bor, .bor] := rfl
theorem Fl_impl_checkPacked__impl_UnpackCurve_c1 : c_impl_checkPacked__impl_UnpackCurve_c1.flat = true := rfl
attribute [go_sem] M_impl_checkPacked__impl_UnpackCurve_c1 Fl_impl_checkPacked__impl_UnpackCurve_c1
attribute [go_sem] lk_impl_checkPacked__impl_UnpackCurve_c1_42 lk_impl_checkPacked__impl_UnpackCurve_c1_65
theorem Fs_impl_checkPacked__impl_UnpackCurve_c1 {b : List UInt8} {y_ : Int} (h : impl_checkPacked__impl_UnpackCurve_c1 b = some y_) : c_impl_checkPacked__impl_UnpackCurve_c1.F [.sl 1 (List.map byteAV b), .fn (.func 42) [] []] = ⟨true, .int .i64 y_, [.any, .any]⟩ := by
  refine mkF_E rfl ?_
  dsimp only [impl_checkPacked__impl_UnpackCurve_c1] at h
  obtain ⟨hk1, h⟩ := ck_some h
  rcases or_split hk1 with ⟨ghk1, hk1⟩ | ghk1
  · try simp only [go_sem, n1, n2, n3, n4] at ghk1
    all_goals
    have lhk1 := ix_lt hk1
    have xhk1 := getD_mapD byteAV b lhk1
    try simp only [go_sem] at lhk1
    try simp only [go_sem] at xhk1
    try simp only [go_sem, n1, n2, n3, n4, ghk1] at hk1
    all_goals
    obtain ⟨hk2, h⟩ := ck_some h
    rcases or_split hk2 with ⟨ghk2, hk2⟩ | ghk2
    · try simp only [go_sem, n1, n2, n3, n4, ghk1, hk1] at ghk2
      all_goals
      obtain ⟨y_2, hhk2⟩ := Option.isSome_iff_exists.1 hk2
      have fhk2 := Fs_impl_UnpackCurve_c1 hhk2
      try simp only [go_sem, ghk1, hk1, ghk2] at fhk2
      rcases it_some h with ⟨hk3, h⟩ | ⟨hk3, h⟩
      · try simp only [go_sem, n1, n2, n3, n4, ghk1, hk1, ghk2, hhk2] at hk3
        all_goals
        obtain rfl := so_some h
        refine ⟨0, fun L hL => ?_⟩
        simp only [go_sem, ir41, ghk1, hk1, lhk1, xhk1, ghk2, hhk2, fhk2, hk3]
      · try simp only [go_sem, n1, n2, n3, n4, ghk1, hk1, ghk2, hhk2] at hk3
        all_goals
        obtain ⟨hk4, h⟩ := ck_some h
        try simp only [go_sem, n1, n2, n3, n4, ghk1, hk1, ghk2, hhk2, hk3] at hk4
        all_goals
        obtain ⟨y_5, hk5, h⟩ := bd_some h
        have fhk5 := Fs_impl_SumOfBytes hk5
        try simp only [go_sem, ghk1, hk1, ghk2, hhk2, hk3, hk4] at fhk5
        obtain ⟨hk6, h⟩ := ck_some h
        have lhk6 := ix_lt hk6
        have xhk6 := getD_mapD byteAV b lhk6
        try simp only [go_sem] at lhk6
        try simp only [go_sem] at xhk6
        try simp only [go_sem, n1, n2, n3, n4, ghk1, hk1, ghk2, hhk2, hk3, hk4] at hk6
        all_goals
        obtain ⟨hk7, h⟩ := ck_some h
        have lhk7 := ix_lt hk7
        have xhk7 := getD_mapD byteAV b lhk7
        try simp only [go_sem] at lhk7
        try simp only [go_sem] at xhk7
        try simp only [go_sem, n1, n2, n3, n4, ghk1, hk1, ghk2, hhk2, hk3, hk4, hk6] at hk7
        all_goals
        rcases it_some h with ⟨hk8, h⟩ | ⟨hk8, h⟩
        · try simp only [go_sem, n1, n2, n3, n4, ghk1, hk1, ghk2, hhk2, hk3, hk4, hk6, hk7] at hk8
          all_goals
          obtain rfl := so_some h
          refine ⟨0, fun L hL => ?_⟩
          simp only [go_sem, ir41, ghk1, hk1, lhk1, xhk1, ghk2, hhk2, fhk2, hk3, hk4, fhk5, hk6, lhk6, xhk6, hk7, lhk7, xhk7, hk8]
        · try simp only [go_sem, n1, n2, n3, n4, ghk1, hk1, ghk2, hhk2, hk3, hk4, hk6, hk7] at hk8
          all_goals
          obtain rfl := so_some h
          refine ⟨0, fun L hL => ?_⟩
          simp only [go_sem, ir41, ghk1, hk1, lhk1, xhk1, ghk2, hhk2, fhk2, hk3, hk4, fhk5, hk6, lhk6, xhk6, hk7, lhk7, xhk7, hk8]
    · have ghk2n := no_f ghk2
      rcases or_t ghk2n with ghk2na | ⟨ghk2na, ghk2nb⟩
      · try simp only [go_sem, n1, n2, n3, n4, ghk1, hk1] at ghk2na
        all_goals
        rcases it_some h with ⟨hk3, h⟩ | ⟨hk3, h⟩
        · try simp only [go_sem, n1, n2, n3, n4, ghk1, hk1, ghk2na] at hk3
          all_goals
          obtain rfl := so_some h
          refine ⟨0, fun L hL => ?_⟩
          simp only [go_sem, ir41, ghk1, hk1, lhk1, xhk1, ghk2na, hk3]
        · try simp only [go_sem, n1, n2, n3, n4, ghk1, hk1, ghk2na] at hk3
          all_goals
          obtain ⟨hk4, h⟩ := ck_some h
          try simp only [go_sem, n1, n2, n3, n4, ghk1, hk1, ghk2na, hk3] at hk4
          all_goals
          obtain ⟨y_5, hk5, h⟩ := bd_some h
          have fhk5 := Fs_impl_SumOfBytes hk5
          try simp only [go_sem, ghk1, hk1, ghk2na, hk3, hk4] at fhk5
          obtain ⟨hk6, h⟩ := ck_some h
          have lhk6 := ix_lt hk6
          have xhk6 := getD_mapD byteAV b lhk6
          try simp only [go_sem] at lhk6
          try simp only [go_sem] at xhk6
          try simp only [go_sem, n1, n2, n3, n4, ghk1, hk1, ghk2na, hk3, hk4] at hk6
          all_goals
          obtain ⟨hk7, h⟩ := ck_some h
          have lhk7 := ix_lt hk7
          have xhk7 := getD_mapD byteAV b lhk7
          try simp only [go_sem] at lhk7
          try simp only [go_sem] at xhk7
          try simp only [go_sem, n1, n2, n3, n4, ghk1, hk1, ghk2na, hk3, hk4, hk6] at hk7
          all_goals
          rcases it_some h with ⟨hk8, h⟩ | ⟨hk8, h⟩
          · try simp only [go_sem, n1, n2, n3, n4, ghk1, hk1, ghk2na, hk3, hk4, hk6, hk7] at hk8
            all_goals
            obtain rfl := so_some h
            refine ⟨0, fun L hL => ?_⟩
            simp only [go_sem, ir41, ghk1, hk1, lhk1, xhk1, ghk2na, hk3, hk4, fhk5, hk6, lhk6, xhk6, hk7, lhk7, xhk7, hk8]
          · try simp only [go_sem, n1, n2, n3, n4, ghk1, hk1, ghk2na, hk3, hk4, hk6, hk7] at hk8
            all_goals
            obtain rfl := so_some h
            refine ⟨0, fun L hL => ?_⟩
            simp only [go_sem, ir41, ghk1, hk1, lhk1, xhk1, ghk2na, hk3, hk4, fhk5, hk6, lhk6, xhk6, hk7, lhk7, xhk7, hk8]
      · try simp only [go_sem, n1, n2, n3, n4, ghk1, hk1] at ghk2na
        all_goals
        try simp only [go_sem, n1, n2, n3, n4, ghk1, hk1, ghk2na] at ghk2nb
        all_goals
        rcases it_some h with ⟨hk3, h⟩ | ⟨hk3, h⟩
        · try simp only [go_sem, n1, n2, n3, n4, ghk1, hk1, ghk2na, ghk2nb] at hk3
          all_goals
          obtain rfl := so_some h
          refine ⟨0, fun L hL => ?_⟩
          simp only [go_sem, ir41, ghk1, hk1, lhk1, xhk1, ghk2na, ghk2nb, hk3]
        · try simp only [go_sem, n1, n2, n3, n4, ghk1, hk1, ghk2na, ghk2nb] at hk3
          all_goals
          obtain ⟨hk4, h⟩ := ck_some h
          try simp only [go_sem, n1, n2, n3, n4, ghk1, hk1, ghk2na, ghk2nb, hk3] at hk4
          all_goals
          obtain ⟨y_5, hk5, h⟩ := bd_some h
          have fhk5 := Fs_impl_SumOfBytes hk5
          try simp only [go_sem, ghk1, hk1, ghk2na, ghk2nb, hk3, hk4] at fhk5
          obtain ⟨hk6, h⟩ := ck_some h
          have lhk6 := ix_lt hk6
          have xhk6 := getD_mapD byteAV b lhk6
          try simp only [go_sem] at lhk6
          try simp only [go_sem] at xhk6
          try simp only [go_sem, n1, n2, n3, n4, ghk1, hk1, ghk2na, ghk2nb, hk3, hk4] at hk6
          all_goals
          obtain ⟨hk7, h⟩ := ck_some h
          have lhk7 := ix_lt hk7
          have xhk7 := getD_mapD byteAV b lhk7
          try simp only [go_sem] at lhk7
          try simp only [go_sem] at xhk7
          try simp only [go_sem, n1, n2, n3, n4, ghk1, hk1, ghk2na, ghk2nb, hk3, hk4, hk6] at hk7
          all_goals
          rcases it_some h with ⟨hk8, h⟩ | ⟨hk8, h⟩
          · try simp only [go_sem, n1, n2, n3, n4, ghk1, hk1, ghk2na, ghk2nb, hk3, hk4, hk6, hk7] at hk8
            all_goals
            obtain rfl := so_some h
            refine ⟨0, fun L hL => ?_⟩
            simp only [go_sem, ir41, ghk1, hk1, lhk1, xhk1, ghk2na, ghk2nb, hk3, hk4, fhk5, hk6, lhk6, xhk6, hk7, lhk7, xhk7, hk8]
          · try simp only [go_sem, n1, n2, n3, n4, ghk1, hk1, ghk2na, ghk2nb, hk3, hk4, hk6, hk7] at hk8
            all_goals
            obtain rfl := so_some h
            refine ⟨0, fun L hL => ?_⟩
            simp only [go_sem, ir41, ghk1, hk1, lhk1, xhk1, ghk2na, ghk2nb, hk3, hk4, fhk5, hk6, lhk6, xhk6, hk7, lhk7, xhk7, hk8]
  · have ghk1n := no_f ghk1
    rcases or_t ghk1n with ghk1na | ⟨ghk1na, ghk1nb⟩
    · try simp only [go_sem, n1, n2, n3, n4] at ghk1na
      all_goals
      obtain ⟨hk2, h⟩ := ck_some h
      rcases or_split hk2 with ⟨ghk2, hk2⟩ | ghk2
      · try simp only [go_sem, n1, n2, n3, n4, ghk1na] at ghk2
        all_goals
        obtain ⟨y_2, hhk2⟩ := Option.isSome_iff_exists.1 hk2
        have fhk2 := Fs_impl_UnpackCurve_c1 hhk2
        try simp only [go_sem, ghk1na, ghk2] at fhk2
        rcases it_some h with ⟨hk3, h⟩ | ⟨hk3, h⟩
        · try simp only [go_sem, n1, n2, n3, n4, ghk1na, ghk2, hhk2] at hk3
          all_goals
          obtain rfl := so_some h
          refine ⟨0, fun L hL => ?_⟩
          simp only [go_sem, ir41, ghk1na, ghk2, hhk2, fhk2, hk3]
        · try simp only [go_sem, n1, n2, n3, n4, ghk1na, ghk2, hhk2] at hk3
          all_goals
          obtain ⟨hk4, h⟩ := ck_some h
          try simp only [go_sem, n1, n2, n3, n4, ghk1na, ghk2, hhk2, hk3] at hk4
          all_goals
          obtain ⟨y_5, hk5, h⟩ := bd_some h
          have fhk5 := Fs_impl_SumOfBytes hk5
          try simp only [go_sem, ghk1na, ghk2, hhk2, hk3, hk4] at fhk5
          obtain ⟨hk6, h⟩ := ck_some h
          have lhk6 := ix_lt hk6
          have xhk6 := getD_mapD byteAV b lhk6
          try simp only [go_sem] at lhk6
          try simp only [go_sem] at xhk6
          try simp only [go_sem, n1, n2, n3, n4, ghk1na, ghk2, hhk2, hk3, hk4] at hk6
          all_goals
          obtain ⟨hk7, h⟩ := ck_some h
          have lhk7 := ix_lt hk7
          have xhk7 := getD_mapD byteAV b lhk7
          try simp only [go_sem] at lhk7
          try simp only [go_sem] at xhk7
          try simp only [go_sem, n1, n2, n3, n4, ghk1na, ghk2, hhk2, hk3, hk4, hk6] at hk7
          all_goals
          rcases it_some h with ⟨hk8, h⟩ | ⟨hk8, h⟩
          · try simp only [go_sem, n1, n2, n3, n4, ghk1na, ghk2, hhk2, hk3, hk4, hk6, hk7] at hk8
            all_goals
            obtain rfl := so_some h
            refine ⟨0, fun L hL => ?_⟩
            simp only [go_sem, ir41, ghk1na, ghk2, hhk2, fhk2, hk3, hk4, fhk5, hk6, lhk6, xhk6, hk7, lhk7, xhk7, hk8]
          · try simp only [go_sem, n1, n2, n3, n4, ghk1na, ghk2, hhk2, hk3, hk4, hk6, hk7] at hk8
            all_goals
            obtain rfl := so_some h
            refine ⟨0, fun L hL => ?_⟩
            simp only [go_sem, ir41, ghk1na, ghk2, hhk2, fhk2, hk3, hk4, fhk5, hk6, lhk6, xhk6, hk7, lhk7, xhk7, hk8]
      · have ghk2n := no_f ghk2
        rcases or_t ghk2n with ghk2na | ⟨ghk2na, ghk2nb⟩
        · try simp only [go_sem, n1, n2, n3, n4, ghk1na] at ghk2na
          all_goals
          rcases it_some h with ⟨hk3, h⟩ | ⟨hk3, h⟩
          · try simp only [go_sem, n1, n2, n3, n4, ghk1na, ghk2na] at hk3
            all_goals
            obtain rfl := so_some h
            refine ⟨0, fun L hL => ?_⟩
            simp only [go_sem, ir41, ghk1na, ghk2na, hk3]
          · try simp only [go_sem, n1, n2, n3, n4, ghk1na, ghk2na] at hk3
            all_goals
            obtain ⟨hk4, h⟩ := ck_some h
            try simp only [go_sem, n1, n2, n3, n4, ghk1na, ghk2na, hk3] at hk4
            all_goals
            obtain ⟨y_5, hk5, h⟩ := bd_some h
            have fhk5 := Fs_impl_SumOfBytes hk5
            try simp only [go_sem, ghk1na, ghk2na, hk3, hk4] at fhk5
            obtain ⟨hk6, h⟩ := ck_some h
            have lhk6 := ix_lt hk6
            have xhk6 := getD_mapD byteAV b lhk6
            try simp only [go_sem] at lhk6
            try simp only [go_sem] at xhk6
            try simp only [go_sem, n1, n2, n3, n4, ghk1na, ghk2na, hk3, hk4] at hk6
            all_goals
            obtain ⟨hk7, h⟩ := ck_some h
            have lhk7 := ix_lt hk7
            have xhk7 := getD_mapD byteAV b lhk7
            try simp only [go_sem] at lhk7
            try simp only [go_sem] at xhk7
            try simp only [go_sem, n1, n2, n3, n4, ghk1na, ghk2na, hk3, hk4, hk6] at hk7
            all_goals
            rcases it_some h with ⟨hk8, h⟩ | ⟨hk8, h⟩
            · try simp only [go_sem, n1, n2, n3, n4, ghk1na, ghk2na, hk3, hk4, hk6, hk7] at hk8
              all_goals
              obtain rfl := so_some h
              refine ⟨0, fun L hL => ?_⟩
              simp only [go_sem, ir41, ghk1na, ghk2na, hk3, hk4, fhk5, hk6, lhk6, xhk6, hk7, lhk7, xhk7, hk8]
            · try simp only [go_sem, n1, n2, n3, n4, ghk1na, ghk2na, hk3, hk4, hk6, hk7] at hk8
              all_goals
              obtain rfl := so_some h
              refine ⟨0, fun L hL => ?_⟩
              simp only [go_sem, ir41, ghk1na, ghk2na, hk3, hk4, fhk5, hk6, lhk6, xhk6, hk7, lhk7, xhk7, hk8]
        · try simp only [go_sem, n1, n2, n3, n4, ghk1na] at ghk2na
          all_goals
          try simp only [go_sem, n1, n2, n3, n4, ghk1na, ghk2na] at ghk2nb
          all_goals
          rcases it_some h with ⟨hk3, h⟩ | ⟨hk3, h⟩
          · try simp only [go_sem, n1, n2, n3, n4, ghk1na, ghk2na, ghk2nb] at hk3
            all_goals
            obtain rfl := so_some h
            refine ⟨0, fun L hL => ?_⟩
            simp only [go_sem, ir41, ghk1na, ghk2na, ghk2nb, hk3]
          · try simp only [go_sem, n1, n2, n3, n4, ghk1na, ghk2na, ghk2nb] at hk3
            all_goals
            obtain ⟨hk4, h⟩ := ck_some h
            try simp only [go_sem, n1, n2, n3, n4, ghk1na, ghk2na, ghk2nb, hk3] at hk4
            all_goals
            obtain ⟨y_5, hk5, h⟩ := bd_some h
            have fhk5 := Fs_impl_SumOfBytes hk5
            try simp only [go_sem, ghk1na, ghk2na, ghk2nb, hk3, hk4] at fhk5
            obtain ⟨hk6, h⟩ := ck_some h
            have lhk6 := ix_lt hk6
            have xhk6 := getD_mapD byteAV b lhk6
            try simp only [go_sem] at lhk6
            try simp only [go_sem] at xhk6
            try simp only [go_sem, n1, n2, n3, n4, ghk1na, ghk2na, ghk2nb, hk3, hk4] at hk6
            all_goals
            obtain ⟨hk7, h⟩ := ck_some h
            have lhk7 := ix_lt hk7
            have xhk7 := getD_mapD byteAV b lhk7
            try simp only [go_sem] at lhk7
            try simp only [go_sem] at xhk7
            try simp only [go_sem, n1, n2, n3, n4, ghk1na, ghk2na, ghk2nb, hk3, hk4, hk6] at hk7
            all_goals
            rcases it_some h with ⟨hk8, h⟩ | ⟨hk8, h⟩
            · try simp only [go_sem, n1, n2, n3, n4, ghk1na, ghk2na, ghk2nb, hk3, hk4, hk6, hk7] at hk8
              all_goals
              obtain rfl := so_some h
              refine ⟨0, fun L hL => ?_⟩
              simp only [go_sem, ir41, ghk1na, ghk2na, ghk2nb, hk3, hk4, fhk5, hk6, lhk6, xhk6, hk7, lhk7, xhk7, hk8]
            · try simp only [go_sem, n1, n2, n3, n4, ghk1na, ghk2na, ghk2nb, hk3, hk4, hk6, hk7] at hk8
              all_goals
              obtain rfl := so_some h
              refine ⟨0, fun L hL => ?_⟩
              simp only [go_sem, ir41, ghk1na, ghk2na, ghk2nb, hk3, hk4, fhk5, hk6, lhk6, xhk6, hk7, lhk7, xhk7, hk8]
    · try simp only [go_sem, n1, n2, n3, n4] at ghk1na
      all_goals
      try simp only [go_sem, n1, n2, n3, n4, ghk1na] at ghk1nb
      all_goals
      obtain ⟨hk2, h⟩ := ck_some h
      rcases or_split hk2 with ⟨ghk2, hk2⟩ | ghk2
      · try simp only [go_sem, n1, n2, n3, n4, ghk1na, ghk1nb] at ghk2
        all_goals
        obtain ⟨y_2, hhk2⟩ := Option.isSome_iff_exists.1 hk2
        have fhk2 := Fs_impl_UnpackCurve_c1 hhk2
        try simp only [go_sem, ghk1na, ghk1nb, ghk2] at fhk2
        rcases it_some h with ⟨hk3, h⟩ | ⟨hk3, h⟩
        · try simp only [go_sem, n1, n2, n3, n4, ghk1na, ghk1nb, ghk2, hhk2] at hk3
          all_goals
          obtain rfl := so_some h
          refine ⟨0, fun L hL => ?_⟩
          simp only [go_sem, ir41, ghk1na, ghk1nb, ghk2, hhk2, fhk2, hk3]
        · try simp only [go_sem, n1, n2, n3, n4, ghk1na, ghk1nb, ghk2, hhk2] at hk3
          all_goals
          obtain ⟨hk4, h⟩ := ck_some h
          try simp only [go_sem, n1, n2, n3, n4, ghk1na, ghk1nb, ghk2, hhk2, hk3] at hk4
          all_goals
          obtain ⟨y_5, hk5, h⟩ := bd_some h
          have fhk5 := Fs_impl_SumOfBytes hk5
          try simp only [go_sem, ghk1na, ghk1nb, ghk2, hhk2, hk3, hk4] at fhk5
          obtain ⟨hk6, h⟩ := ck_some h
          have lhk6 := ix_lt hk6
          have xhk6 := getD_mapD byteAV b lhk6
          try simp only [go_sem] at lhk6
          try simp only [go_sem] at xhk6
          try simp only [go_sem, n1, n2, n3, n4, ghk1na, ghk1nb, ghk2, hhk2, hk3, hk4] at hk6
          all_goals
          obtain ⟨hk7, h⟩ := ck_some h
          have lhk7 := ix_lt hk7
          have xhk7 := getD_mapD byteAV b lhk7
          try simp only [go_sem] at lhk7
          try simp only [go_sem] at xhk7
          try simp only [go_sem, n1, n2, n3, n4, ghk1na, ghk1nb, ghk2, hhk2, hk3, hk4, hk6] at hk7
          all_goals
          rcases it_some h with ⟨hk8, h⟩ | ⟨hk8, h⟩
          · try simp only [go_sem, n1, n2, n3, n4, ghk1na, ghk1nb, ghk2, hhk2, hk3, hk4, hk6, hk7] at hk8
            all_goals
            obtain rfl := so_some h
            refine ⟨0, fun L hL => ?_⟩
            simp only [go_sem, ir41, ghk1na, ghk1nb, ghk2, hhk2, fhk2, hk3, hk4, fhk5, hk6, lhk6, xhk6, hk7, lhk7, xhk7, hk8]
          · try simp only [go_sem, n1, n2, n3, n4, ghk1na, ghk1nb, ghk2, hhk2, hk3, hk4, hk6, hk7] at hk8
            all_goals
            obtain rfl := so_some h
            refine ⟨0, fun L hL => ?_⟩
            simp only [go_sem, ir41, ghk1na, ghk1nb, ghk2, hhk2, fhk2, hk3, hk4, fhk5, hk6, lhk6, xhk6, hk7, lhk7, xhk7, hk8]
      · have ghk2n := no_f ghk2
        rcases or_t ghk2n with ghk2na | ⟨ghk2na, ghk2nb⟩
        · try simp only [go_sem, n1, n2, n3, n4, ghk1na, ghk1nb] at ghk2na
          all_goals
          rcases it_some h with ⟨hk3, h⟩ | ⟨hk3, h⟩
          · try simp only [go_sem, n1, n2, n3, n4, ghk1na, ghk1nb, ghk2na] at hk3
            all_goals
            obtain rfl := so_some h
            refine ⟨0, fun L hL => ?_⟩
            simp only [go_sem, ir41, ghk1na, ghk1nb, ghk2na, hk3]
          · try simp only [go_sem, n1, n2, n3, n4, ghk1na, ghk1nb, ghk2na] at hk3
            all_goals
            obtain ⟨hk4, h⟩ := ck_some h
            try simp only [go_sem, n1, n2, n3, n4, ghk1na, ghk1nb, ghk2na, hk3] at hk4
            all_goals
            obtain ⟨y_5, hk5, h⟩ := bd_some h
            have fhk5 := Fs_impl_SumOfBytes hk5
            try simp only [go_sem, ghk1na, ghk1nb, ghk2na, hk3, hk4] at fhk5
            obtain ⟨hk6, h⟩ := ck_some h
            have lhk6 := ix_lt hk6
            have xhk6 := getD_mapD byteAV b lhk6
            try simp only [go_sem] at lhk6
            try simp only [go_sem] at xhk6
            try simp only [go_sem, n1, n2, n3, n4, ghk1na, ghk1nb, ghk2na, hk3, hk4] at hk6
            all_goals
            obtain ⟨hk7, h⟩ := ck_some h
            have lhk7 := ix_lt hk7
            have xhk7 := getD_mapD byteAV b lhk7
            try simp only [go_sem] at lhk7
            try simp only [go_sem] at xhk7
            try simp only [go_sem, n1, n2, n3, n4, ghk1na, ghk1nb, ghk2na, hk3, hk4, hk6] at hk7
            all_goals
            rcases it_some h with ⟨hk8, h⟩ | ⟨hk8, h⟩
            · try simp only [go_sem, n1, n2, n3, n4, ghk1na, ghk1nb, ghk2na, hk3, hk4, hk6, hk7] at hk8
              all_goals
              obtain rfl := so_some h
              refine ⟨0, fun L hL => ?_⟩
              simp only [go_sem, ir41, ghk1na, ghk1nb, ghk2na, hk3, hk4, fhk5, hk6, lhk6, xhk6, hk7, lhk7, xhk7, hk8]
            · try simp only [go_sem, n1, n2, n3, n4, ghk1na, ghk1nb, ghk2na, hk3, hk4, hk6, hk7] at hk8
              all_goals
              obtain rfl := so_some h
              refine ⟨0, fun L hL => ?_⟩
              simp only [go_sem, ir41, ghk1na, ghk1nb, ghk2na, hk3, hk4, fhk5, hk6, lhk6, xhk6, hk7, lhk7, xhk7, hk8]
        · try simp only [go_sem, n1, n2, n3, n4, ghk1na, ghk1nb] at ghk2na
          all_goals
          try simp only [go_sem, n1, n2, n3, n4, ghk1na, ghk1nb, ghk2na] at ghk2nb
          all_goals
          rcases it_some h with ⟨hk3, h⟩ | ⟨hk3, h⟩
          · try simp only [go_sem, n1, n2, n3, n4, ghk1na, ghk1nb, ghk2na, ghk2nb] at hk3
            all_goals
            obtain rfl := so_some h
            refine ⟨0, fun L hL => ?_⟩
            simp only [go_sem, ir41, ghk1na, ghk1nb, ghk2na, ghk2nb, hk3]
          · try simp only [go_sem, n1, n2, n3, n4, ghk1na, ghk1nb, ghk2na, ghk2nb] at hk3
            all_goals
            obtain ⟨hk4, h⟩ := ck_some h
            try simp only [go_sem, n1, n2, n3, n4, ghk1na, ghk1nb, ghk2na, ghk2nb, hk3] at hk4
            all_goals
            obtain ⟨y_5, hk5, h⟩ := bd_some h
            have fhk5 := Fs_impl_SumOfBytes hk5
            try simp only [go_sem, ghk1na, ghk1nb, ghk2na, ghk2nb, hk3, hk4] at fhk5
            obtain ⟨hk6, h⟩ := ck_some h
            have lhk6 := ix_lt hk6
            have xhk6 := getD_mapD byteAV b lhk6
            try simp only [go_sem] at lhk6
            try simp only [go_sem] at xhk6
            try simp only [go_sem, n1, n2, n3, n4, ghk1na, ghk1nb, ghk2na, ghk2nb, hk3, hk4] at hk6
            all_goals
            obtain ⟨hk7, h⟩ := ck_some h
            have lhk7 := ix_lt hk7
            have xhk7 := getD_mapD byteAV b lhk7
            try simp only [go_sem] at lhk7
            try simp only [go_sem] at xhk7
            try simp only [go_sem, n1, n2, n3, n4, ghk1na, ghk1nb, ghk2na, ghk2nb, hk3, hk4, hk6] at hk7
            all_goals
            rcases it_some h with ⟨hk8, h⟩ | ⟨hk8, h⟩
            · try simp only [go_sem, n1, n2, n3, n4, ghk1na, ghk1nb, ghk2na, ghk2nb, hk3, hk4, hk6, hk7] at hk8
              all_goals
              obtain rfl := so_some h
              refine ⟨0, fun L hL => ?_⟩
              simp only [go_sem, ir41, ghk1na, ghk1nb, ghk2na, ghk2nb, hk3, hk4, fhk5, hk6, lhk6, xhk6, hk7, lhk7, xhk7, hk8]
            · try simp only [go_sem, n1, n2, n3, n4, ghk1na, ghk1nb, ghk2na, ghk2nb, hk3, hk4, hk6, hk7] at hk8
              all_goals
              obtain rfl := so_some h
              refine ⟨0, fun L hL => ?_⟩
              simp only [go_sem, ir41, ghk1na, ghk1nb, ghk2na, ghk2nb, hk3, hk4, fhk5, hk6, lhk6, xhk6, hk7, lhk7, xhk7, hk8]


def ir66_b0 : IR := .seq (.test false [
    ⟨.push, 7, none, .mov (.v 5)⟩,
    ⟨.push, 8, none, .mov (.v 0)⟩,
    ⟨.push, 9, none, .len false (.s 0)⟩,
    ⟨.push, 10, none, .bin false .lss (.s 2) (.s 0)⟩,
    ⟨.push, 11, none, .mov (.s 0)⟩,
    ⟨.push, 12, (some ((.s 0), true)), .mov (.v 5)⟩,
    ⟨.push, 13, (some ((.s 1), true)), .bin false .lss (.s 0) (.c (.int .i64 (9)))⟩,
    ⟨.push, 14, none, .pick (.s 2) (.s 0) (.c (.bool false))⟩] (.s 0)
  (.skip)
  (.exit 0))
 (.seq (.block 1 (.seq (.region false [
      ⟨.push, 17, none, .mov (.v 4)⟩,
      ⟨.push, 18, none, .mov (.v 0)⟩,
      ⟨.push, 19, none, .mov (.v 5)⟩,
      ⟨.push, 20, none, .ixAddr 1 (.s 1) (.s 0)⟩,
      ⟨.push, 21, none, .load false 1 (.s 0)⟩,
      ⟨.push, 22, none, .bin false .and (.s 0) (.c (.int .u8 (127)))⟩,
      ⟨.push, 23, none, .conv .i64 (.s 0)⟩,
      ⟨.push, 24, none, .mov (.v 5)⟩,
      ⟨.push, 25, none, .bin false .mul (.c (.int .i64 (7))) (.s 0)⟩,
      ⟨.push, 26, none, .bin false .shl (.s 2) (.s 0)⟩,
      ⟨.push, 27, none, .bin false .or (.s 9) (.s 0)⟩,
      ⟨.var 4, 5, none, .mov (.s 0)⟩])
   (.test false [
     ⟨.push, 28, none, .mov (.v 0)⟩,
     ⟨.push, 29, none, .mov (.v 5)⟩,
     ⟨.push, 30, none, .ixAddr 1 (.s 1) (.s 0)⟩,
     ⟨.push, 31, none, .load false 1 (.s 0)⟩,
     ⟨.push, 32, none, .bin false .lss (.s 0) (.c (.int .u8 (128)))⟩] (.s 0)
   (.seq (.test false [
       ⟨.push, 33, none, .mov (.v 0)⟩,
       ⟨.push, 34, none, .mov (.v 5)⟩,
       ⟨.push, 35, none, .ixAddr 1 (.s 1) (.s 0)⟩,
       ⟨.push, 36, none, .load false 1 (.s 0)⟩,
       ⟨.push, 37, none, .bin false .eql (.s 0) (.c (.int .u8 (0)))⟩,
       ⟨.push, 38, none, .mov (.s 0)⟩,
       ⟨.push, 39, (some ((.s 0), true)), .mov (.v 5)⟩,
       ⟨.push, 40, (some ((.s 1), true)), .bin false .gtr (.s 0) (.c (.int .i64 (0)))⟩,
       ⟨.push, 41, none, .pick (.s 2) (.s 0) (.c (.bool false))⟩] (.s 0)
     (.seq (.region false [
         ⟨.var 1, 2, none, .mov (.c (.int .i64 (0)))⟩,
         ⟨.var 2, 3, none, .mov (.c (.int .i64 (0)))⟩,
         ⟨.var 3, 4, none, .mov (.c (.bool false))⟩])
      (.ret))
     (.skip))
    (.seq (.region false [
       ⟨.push, 42, none, .mov (.v 4)⟩,
       ⟨.push, 43, none, .mov (.v 5)⟩,
       ⟨.push, 44, none, .bin false .add (.s 0) (.c (.int .i64 (1)))⟩,
       ⟨.var 1, 2, none, .mov (.s 2)⟩,
       ⟨.var 2, 3, none, .mov (.s 0)⟩,
       ⟨.var 3, 4, none, .mov (.c (.bool true))⟩])
    (.ret)))
   (.skip))))
 (.region false [
   ⟨.push, 15, none, .mov (.v 5)⟩,
   ⟨.push, 16, none, .bin false .add (.s 0) (.c (.int .i64 (1)))⟩,
   ⟨.var 5, 6, none, .mov (.s 0)⟩]))
def ir66_k0 : List Bool := [true, false, false, false, true, true]
def ir66_o0 : List Bool := [false, false, false, false, false, false]
def ir66_r0 : List Bool := [false, true, true, true, false, false]
def ir66_v : List Nat := [0, 2, 3, 4, 5, 6]
def ir66 : AFn := ⟨1, 6, .seq (.region false [
    ⟨.var 1, 2, none, .mov (.c (.int .i64 (0)))⟩,
    ⟨.var 2, 3, none, .mov (.c (.int .i64 (0)))⟩,
    ⟨.var 3, 4, none, .mov (.c (.bool false))⟩])
 (.seq (.region false [
    ⟨.var 4, 5, none, .mov (.c (.int .i64 (0)))⟩])
 (.seq (.seq (.region false [
     ⟨.var 5, 6, none, .mov (.c (.int .i64 (0)))⟩])
  (.block 0 (.loop ir66_k0 ir66_o0 ir66_r0 ir66_b0)))
 (.seq (.region false [
    ⟨.var 1, 2, none, .mov (.c (.int .i64 (0)))⟩,
    ⟨.var 2, 3, none, .mov (.c (.int .i64 (0)))⟩,
    ⟨.var 3, 4, none, .mov (.c (.bool false))⟩])
 (.ret)))), [.t 1, .t 2, .t 3]⟩
noncomputable def t_impl_ReadNumber : List (Nat × Ctr) := []
noncomputable def c_impl_ReadNumber : Ctr := mkF t_impl_ReadNumber ir66 [.bor]
theorem s_impl_ReadNumber : Sound Try.prog 66 c_impl_ReadNumber := mkF_sound _ rfl snd_nil (by kernel_rfl : chkFn Try.prog 66 ir66 ir66_v = true)
theorem M_impl_ReadNumber : c_impl_ReadNumber.modes = [.bor] := rfl
theorem Fl_impl_ReadNumber : c_impl_ReadNumber.flat = true := rfl
attribute [go_sem] M_impl_ReadNumber Fl_impl_ReadNumber
def E_impl_ReadNumber_l1 (b : List UInt8) : (Int × Int) → St
  | (n, i) => ⟨[.sl 1 (List.map byteAV b), .any, .any, .any, .int .i64 n, .int .i64 i], [], [], true⟩
def R_impl_ReadNumber_l1 (b : List UInt8) : (Unit ⊕ (Int × Int × Bool)) → Res
  | .inl y => (.exit 0, ⟨[.any, .any, .any, .any, .any, .any], [], [], true⟩)
  | .inr y => (.ret, ⟨[.any, .int .i64 y.1, .int .i64 y.2.1, .bool y.2.2, .any, .any], [], [], true⟩)
theorem impl_ReadNumber_l1_ex {b : List UInt8} {sgm_ : Int × Int} {rho_ : Unit ⊕ (Int × Int × Bool)} (h : whileE (impl_ReadNumber_l1 b) sgm_ = some rho_) : ∃ L0, ∀ L, L0 ≤ L → iter (exec (look t_impl_ReadNumber) L ir66_b0) ir66_k0 ir66_o0 ir66_r0 L (E_impl_ReadNumber_l1 b sgm_) = R_impl_ReadNumber_l1 b rho_ := by
  refine loop_ex (E := E_impl_ReadNumber_l1 b) (R := R_impl_ReadNumber_l1 b) (fun y => by first | (intro c; cases c) | (rcases y with y | y <;> (intro c; cases c)) | (rcases y with y | y | y <;> (intro c; cases c))) ?_ h
  clear h
  rintro ⟨n, i⟩ o_ h
  dsimp only [impl_ReadNumber_l1] at h
  rcases it_some h with ⟨hk1, h⟩ | ⟨hk1, h⟩
  · try simp only [go_sem, n1, n2, n3, n4] at hk1
    all_goals
    obtain ⟨hk2, h⟩ := ck_some h
    have lhk2 := ix_lt hk2
    have xhk2 := getD_mapD byteAV b lhk2
    try simp only [go_sem] at lhk2
    try simp only [go_sem] at xhk2
    try simp only [go_sem, n1, n2, n3, n4, hk1] at hk2
    all_goals
    obtain ⟨hk3, h⟩ := ck_some h
    try simp only [go_sem, n1, n2, n3, n4, hk1, hk2] at hk3
    all_goals
    rcases it_some h with ⟨hk4, h⟩ | ⟨hk4, h⟩
    · try simp only [go_sem, n1, n2, n3, n4, hk1, hk2, hk3] at hk4
      all_goals
      rcases it_some h with ⟨hk5, h⟩ | ⟨hk5, h⟩
      · try simp only [go_sem, n1, n2, n3, n4, hk1, hk2, hk3, hk4] at hk5
        all_goals
        obtain rfl := so_some h
        refine ⟨0, fun L hL => ?_⟩
        simp only [go_sem, ir66, E_impl_ReadNumber_l1, R_impl_ReadNumber_l1, ir66_b0, ir66_k0, ir66_o0, ir66_r0, hk1, hk2, lhk2, xhk2, hk3, hk4, hk5]
      · try simp only [go_sem, n1, n2, n3, n4, hk1, hk2, hk3, hk4] at hk5
        all_goals
        obtain rfl := so_some h
        refine ⟨0, fun L hL => ?_⟩
        simp only [go_sem, ir66, E_impl_ReadNumber_l1, R_impl_ReadNumber_l1, ir66_b0, ir66_k0, ir66_o0, ir66_r0, hk1, hk2, lhk2, xhk2, hk3, hk4, hk5]
    · try simp only [go_sem, n1, n2, n3, n4, hk1, hk2, hk3] at hk4
      all_goals
      obtain rfl := so_some h
      refine ⟨0, fun L hL => ?_⟩
      simp only [go_sem, ir66, E_impl_ReadNumber_l1, R_impl_ReadNumber_l1, ir66_b0, ir66_k0, ir66_o0, ir66_r0, hk1, hk2, lhk2, xhk2, hk3, hk4]
  · try simp only [go_sem, n1, n2, n3, n4] at hk1
    all_goals
    obtain rfl := so_some h
    refine ⟨0, fun L hL => ?_⟩
    simp only [go_sem, ir66, E_impl_ReadNumber_l1, R_impl_ReadNumber_l1, ir66_b0, ir66_k0, ir66_o0, ir66_r0, hk1]

theorem Fs_impl_ReadNumber {b : List UInt8} {y_ : Int × Int × Bool} (h : impl_ReadNumber b = some y_) : c_impl_ReadNumber.F [.sl 1 (List.map byteAV b)] = ⟨true, .tup [.int .i64 y_.1, .int .i64 y_.2.1, .bool y_.2.2], [.any]⟩ := by
  refine mkF_E rfl ?_
  dsimp only [impl_ReadNumber] at h
  obtain ⟨y_6, hk6, h⟩ := bd_some h
  obtain ⟨Lhk6, ehk6⟩ := impl_ReadNumber_l1_ex hk6
  rcases y_6 with y_6a | y_6b
  · dsimp only at h
    obtain rfl := so_some h
    refine ⟨Lhk6, fun L hL => ?_⟩
    have ehk6 := ehk6 L (by omega)
    try simp only [go_sem, E_impl_ReadNumber_l1, R_impl_ReadNumber_l1, ir66_k0, ir66_o0, ir66_r0] at ehk6
    simp only [go_sem, ir66, E_impl_ReadNumber_l1, R_impl_ReadNumber_l1, ir66_k0, ir66_o0, ir66_r0, ehk6]
  · dsimp only at h
    obtain rfl := so_some h
    refine ⟨Lhk6, fun L hL => ?_⟩
    have ehk6 := ehk6 L (by omega)
    try simp only [go_sem, E_impl_ReadNumber_l1, R_impl_ReadNumber_l1, ir66_k0, ir66_o0, ir66_r0] at ehk6
    simp only [go_sem, ir66, E_impl_ReadNumber_l1, R_impl_ReadNumber_l1, ir66_k0, ir66_o0, ir66_r0, ehk6]


def ir43_v : List Nat := [0, 1, 4, 5, 6, 7]
def ir43 : AFn := ⟨2, 6, .seq (.region false [
    ⟨.var 2, 4, none, .mov (.c (.int .i64 (0)))⟩])
 (.seq (.region false [
    ⟨.push, 9, none, .mov (.v 0)⟩,
    ⟨.push, 10, none, .nilck (.s 0)⟩,
    ⟨.push, 11, none, .fldAddr 0 (.s 0)⟩,
    ⟨.push, 12, none, .load false 1 (.s 0)⟩,
    ⟨.push, 13, none, .call 66 [(.s 0)]⟩,
    ⟨.push, 8, none, .mov (.s 0)⟩,
    ⟨.push, 14, none, .ext (.s 0) 0⟩,
    ⟨.push, 15, none, .ext (.s 1) 1⟩,
    ⟨.push, 16, none, .ext (.s 2) 2⟩,
    ⟨.var 3, 5, none, .mov (.s 2)⟩,
    ⟨.var 4, 6, none, .mov (.s 1)⟩,
    ⟨.var 5, 7, none, .mov (.s 0)⟩])
 (.seq (.test false [
    ⟨.push, 17, none, .mov (.v 0)⟩,
    ⟨.push, 18, none, .nilck (.s 0)⟩,
    ⟨.push, 19, none, .fldAddr 1 (.s 0)⟩,
    ⟨.push, 20, none, .load false 1 (.s 0)⟩,
    ⟨.push, 21, none, .mov (.s 0)⟩,
    ⟨.push, 22, (some ((.s 0), false)), .mov (.v 5)⟩,
    ⟨.push, 23, (some ((.s 1), false)), .un .not (.s 0)⟩,
    ⟨.push, 24, none, .pick (.s 2) (.c (.bool true)) (.s 0)⟩,
    ⟨.push, 25, none, .mov (.s 0)⟩,
    ⟨.push, 26, (some ((.s 0), false)), .mov (.v 3)⟩,
    ⟨.push, 27, (some ((.s 1), false)), .mov (.v 1)⟩,
    ⟨.push, 28, (some ((.s 2), false)), .bin false .gtr (.s 1) (.s 0)⟩,
    ⟨.push, 29, none, .pick (.s 3) (.c (.bool true)) (.s 0)⟩] (.s 0)
  (.seq (.region false [
      ⟨.push, 30, none, .mov (.v 0)⟩,
      ⟨.push, 31, none, .nilck (.s 0)⟩,
      ⟨.push, 32, none, .fldAddr 1 (.s 0)⟩,
      ⟨.no, 0, none, .store 1 (.s 0) (.c (.bool true))⟩])
   (.seq (.region false [
      ⟨.var 2, 4, none, .mov (.c (.int .i64 (0)))⟩])
   (.ret)))
  (.skip))
 (.seq (.region false [
    ⟨.push, 33, none, .mov (.v 0)⟩,
    ⟨.push, 34, none, .mov (.v 0)⟩,
    ⟨.push, 35, none, .nilck (.s 0)⟩,
    ⟨.push, 36, none, .fldAddr 0 (.s 0)⟩,
    ⟨.push, 37, none, .load false 1 (.s 0)⟩,
    ⟨.push, 38, none, .mov (.v 4)⟩,
    ⟨.push, 39, none, .slice 1 (.s 1) (some (.s 0)) none⟩,
    ⟨.push, 40, none, .nilck (.s 6)⟩,
    ⟨.push, 41, none, .fldAddr 0 (.s 0)⟩,
    ⟨.no, 0, none, .store 1 (.s 0) (.s 2)⟩])
 (.seq (.region false [
    ⟨.push, 42, none, .mov (.v 3)⟩,
    ⟨.var 2, 4, none, .mov (.s 0)⟩])
 (.ret))))), [.t 2]⟩
noncomputable def t_impl_unpacker_number : List (Nat × Ctr) := [(66, c_impl_ReadNumber)]
theorem lk_impl_unpacker_number_66 : look t_impl_unpacker_number 66 = some c_impl_ReadNumber := rfl
noncomputable def c_impl_unpacker_number : Ctr := mkN t_impl_unpacker_number ir43 [.io, .bor]
theorem s_impl_unpacker_number : Sound Try.prog 43 c_impl_unpacker_number := mkN_sound _ (snd_cons s_impl_ReadNumber snd_nil) (by kernel_rfl : chkFn Try.prog 43 ir43 ir43_v = true)
theorem M_impl_unpacker_number : c_impl_unpacker_number.modes = [.io, .bor] := rfl
theorem Fl_impl_unpacker_number : c_impl_unpacker_number.flat = false := rfl
attribute [go_sem] M_impl_unpacker_number Fl_impl_unpacker_number
attribute [go_sem] lk_impl_unpacker_number_66
theorem Fs_impl_unpacker_number {u : Unpacker} {most : Int} {y_ : Int × Unpacker} (h : impl_unpacker_number u most = some y_) : c_impl_unpacker_number.F [.mem 2 [Unpacker_av u], .int .i64 most] = ⟨true, .int .i64 y_.1, [.mem 2 [Unpacker_av y_.2], .any]⟩ := by
  refine mkN_E ?_
  dsimp only [impl_unpacker_number] at h
  obtain ⟨y_1, hk1, h⟩ := bd_some h
  have fhk1 := Fs_impl_ReadNumber hk1
  try simp only [go_sem] at fhk1
  rcases it_some h with ⟨hk2, h⟩ | ⟨hk2, h⟩
  · try simp only [go_sem, n1, n2, n3, n4] at hk2
    all_goals
    obtain rfl := so_some h
    refine ⟨0, fun L hL => ?_⟩
    simp only [go_sem, ir43, fhk1, hk2]
  · try simp only [go_sem, n1, n2, n3, n4] at hk2
    all_goals
    obtain ⟨hk3, h⟩ := ck_some h
    try simp only [go_sem, n1, n2, n3, n4, hk2] at hk3
    all_goals
    obtain rfl := so_some h
    refine ⟨0, fun L hL => ?_⟩
    simp only [go_sem, ir43, fhk1, hk2, hk3]


def ir44_v : List Nat := [0, 2]
def ir44 : AFn := ⟨1, 2, .seq (.region false [
    ⟨.var 1, 2, none, .mov (.c (.int .i64 (0)))⟩])
 (.seq (.test false [
    ⟨.push, 3, none, .mov (.v 0)⟩,
    ⟨.push, 4, none, .bin false .rem (.s 0) (.c (.int .i64 (2)))⟩,
    ⟨.push, 5, none, .bin false .eql (.s 0) (.c (.int .i64 (1)))⟩] (.s 0)
  (.seq (.region false [
      ⟨.push, 6, none, .mov (.v 0)⟩,
      ⟨.push, 7, none, .bin false .add (.s 0) (.c (.int .i64 (1)))⟩,
      ⟨.push, 8, none, .un .neg (.s 0)⟩,
      ⟨.push, 9, none, .bin false .quo (.s 0) (.c (.int .i64 (2)))⟩,
      ⟨.var 1, 2, none, .mov (.s 0)⟩])
   (.ret))
  (.skip))
 (.seq (.region false [
    ⟨.push, 10, none, .mov (.v 0)⟩,
    ⟨.push, 11, none, .bin false .quo (.s 0) (.c (.int .i64 (2)))⟩,
    ⟨.var 1, 2, none, .mov (.s 0)⟩])
 (.ret))), [.t 1]⟩
noncomputable def t_impl_unfold : List (Nat × Ctr) := []
noncomputable def c_impl_unfold : Ctr := mkF t_impl_unfold ir44 [.bor]
theorem s_impl_unfold : Sound Try.prog 44 c_impl_unfold := mkF_sound _ rfl snd_nil (by kernel_rfl : chkFn Try.prog 44 ir44 ir44_v = true)
theorem M_impl_unfold : c_impl_unfold.modes = [.bor] := rfl
theorem Fl_impl_unfold : c_impl_unfold.flat = true := rfl
attribute [go_sem] M_impl_unfold Fl_impl_unfold
theorem Fs_impl_unfold {n : Int} {y_ : Int} (h : impl_unfold n = some y_) : c_impl_unfold.F [.int .i64 n] = ⟨true, .int .i64 y_, [.any]⟩ := by
  refine mkF_E rfl ?_
  dsimp only [impl_unfold] at h
  obtain ⟨hk1, h⟩ := ck_some h
  try simp only [go_sem, n1, n2, n3, n4] at hk1
  all_goals
  rcases it_some h with ⟨hk2, h⟩ | ⟨hk2, h⟩
  · try simp only [go_sem, n1, n2, n3, n4, hk1] at hk2
    all_goals
    obtain rfl := so_some h
    refine ⟨0, fun L hL => ?_⟩
    simp only [go_sem, ir44, hk1, hk2]
  · try simp only [go_sem, n1, n2, n3, n4, hk1] at hk2
    all_goals
    obtain rfl := so_some h
    refine ⟨0, fun L hL => ?_⟩
    simp only [go_sem, ir44, hk1, hk2]


def ir68_b0 : IR := .seq (.test false [
    ⟨.push, 5, none, .mov (.v 1)⟩,
    ⟨.push, 6, none, .bin false .geq (.s 0) (.c (.int .i64 (128)))⟩] (.s 0)
  (.skip)
  (.exit 0))
 (.seq (.block 1 (.region false [
     ⟨.push, 9, none, .mov (.v 0)⟩,
     ⟨.push, 10, none, .mov (.v 1)⟩,
     ⟨.push, 11, none, .bin false .rem (.s 0) (.c (.int .i64 (128)))⟩,
     ⟨.push, 12, none, .bin false .add (.s 0) (.c (.int .i64 (128)))⟩,
     ⟨.push, 13, none, .conv .u8 (.s 0)⟩,
     ⟨.push, 14, none, .mkSl 1 (.int .u8 (0)) 1 [(0, (.s 0))]⟩,
     ⟨.push, 15, none, .app 1 1 (.int .u8 (0)) (.s 5) (.s 0)⟩,
     ⟨.var 0, 0, none, .mov (.s 0)⟩]))
 (.region false [
   ⟨.push, 7, none, .mov (.v 1)⟩,
   ⟨.push, 8, none, .bin false .quo (.s 0) (.c (.int .i64 (128)))⟩,
   ⟨.var 1, 1, none, .mov (.s 0)⟩]))
def ir68_k0 : List Bool := [true, true, false]
def ir68_o0 : List Bool := [true, true, false]
def ir68_r0 : List Bool := [false, false, true]
def ir68_v : List Nat := [0, 1, 4]
def ir68 : AFn := ⟨2, 3, .seq (.region false [
    ⟨.var 2, 4, none, .newnil 1⟩])
 (.seq (.block 0 (.loop ir68_k0 ir68_o0 ir68_r0 ir68_b0))
 (.seq (.region false [
    ⟨.push, 16, none, .mov (.v 0)⟩,
    ⟨.push, 17, none, .mov (.v 1)⟩,
    ⟨.push, 18, none, .conv .u8 (.s 0)⟩,
    ⟨.push, 19, none, .mkSl 1 (.int .u8 (0)) 1 [(0, (.s 0))]⟩,
    ⟨.push, 20, none, .app 1 1 (.int .u8 (0)) (.s 3) (.s 0)⟩,
    ⟨.var 2, 4, none, .mov (.s 0)⟩])
 (.ret))), [.t 2]⟩
noncomputable def t_impl_appendNumber : List (Nat × Ctr) := []
noncomputable def c_impl_appendNumber : Ctr := mkF t_impl_appendNumber ir68 [.mov, .bor]
theorem s_impl_appendNumber : Sound Try.prog 68 c_impl_appendNumber := mkF_sound _ rfl snd_nil (by kernel_rfl : chkFn Try.prog 68 ir68 ir68_v = true)
theorem M_impl_appendNumber : c_impl_appendNumber.modes = [.mov, .bor] := rfl
theorem Fl_impl_appendNumber : c_impl_appendNumber.flat = true := rfl
attribute [go_sem] M_impl_appendNumber Fl_impl_appendNumber
def E_impl_appendNumber_l1  : ((List UInt8) × Int) → St
  | (b, n) => ⟨[.own 31, .int .i64 n, .any], [], [(31, ⟨1, List.map byteAV b⟩)], true⟩
def R_impl_appendNumber_l1  (y : (List UInt8) × Int) : Res := (.exit 0, ⟨[.own 31, .int .i64 y.2, .any], [], [(31, ⟨1, List.map byteAV y.1⟩)], true⟩)
theorem impl_appendNumber_l1_ex  {sgm_ : (List UInt8) × Int} {rho_ : (List UInt8) × Int} (h : whileE (impl_appendNumber_l1) sgm_ = some rho_) : ∃ L0, ∀ L, L0 ≤ L → iter (exec (look t_impl_appendNumber) L ir68_b0) ir68_k0 ir68_o0 ir68_r0 L (E_impl_appendNumber_l1 sgm_) = R_impl_appendNumber_l1 rho_ := by
  refine loop_ex (E := E_impl_appendNumber_l1) (R := R_impl_appendNumber_l1) (fun y => by first | (intro c; cases c) | (rcases y with y | y <;> (intro c; cases c)) | (rcases y with y | y | y <;> (intro c; cases c))) ?_ h
  clear h
  rintro ⟨b, n⟩ o_ h
  dsimp only [impl_appendNumber_l1] at h
  rcases it_some h with ⟨hk1, h⟩ | ⟨hk1, h⟩
  · try simp only [go_sem, n1, n2, n3, n4] at hk1
    all_goals
    obtain ⟨hk2, h⟩ := ck_some h
    try simp only [go_sem, n1, n2, n3, n4, hk1] at hk2
    all_goals
    obtain ⟨hk3, h⟩ := ck_some h
    try simp only [go_sem, n1, n2, n3, n4, hk1, hk2] at hk3
    all_goals
    obtain rfl := so_some h
    refine ⟨0, fun L hL => ?_⟩
    simp only [go_sem, ir68, E_impl_appendNumber_l1, R_impl_appendNumber_l1, ir68_b0, ir68_k0, ir68_o0, ir68_r0, hk1, hk2, hk3]
  · try simp only [go_sem, n1, n2, n3, n4] at hk1
    all_goals
    obtain rfl := so_some h
    refine ⟨0, fun L hL => ?_⟩
    simp only [go_sem, ir68, E_impl_appendNumber_l1, R_impl_appendNumber_l1, ir68_b0, ir68_k0, ir68_o0, ir68_r0, hk1]

theorem Fs_impl_appendNumber {b : List UInt8} {n : Int} {y_ : (List UInt8)} (h : impl_appendNumber b n = some y_) : c_impl_appendNumber.F [.fresh 1 (List.map byteAV b), .int .i64 n] = ⟨true, .fresh 1 (List.map byteAV y_), [.any, .any]⟩ := by
  refine mkF_E (by simp only [flatA, flatB, flat1, List.all_cons, List.all_nil, Bool.and_self, flatE_map (f := byteAV) (fun _ => rfl)]) ?_
  dsimp only [impl_appendNumber] at h
  obtain ⟨y_4, hk4, h⟩ := bd_some h
  obtain ⟨Lhk4, ehk4⟩ := impl_appendNumber_l1_ex hk4
  obtain ⟨hk5, h⟩ := ck_some h
  try simp only [go_sem, n1, n2, n3, n4] at hk5
  all_goals
  obtain rfl := so_some h
  refine ⟨Lhk4, fun L hL => ?_⟩
  have ehk4 := ehk4 L (by omega)
  try simp only [go_sem, E_impl_appendNumber_l1, R_impl_appendNumber_l1, ir68_k0, ir68_o0, ir68_r0, hk5] at ehk4
  simp only [go_sem, ir68, E_impl_appendNumber_l1, R_impl_appendNumber_l1, ir68_k0, ir68_o0, ir68_r0, hk5, ehk4]


def ir70_v : List Nat := [0, 2]
def ir70 : AFn := ⟨1, 2, .seq (.region false [
    ⟨.var 1, 2, none, .mov (.c (.int .i64 (0)))⟩])
 (.seq (.test false [
    ⟨.push, 3, none, .mov (.v 0)⟩,
    ⟨.push, 4, none, .bin false .lss (.s 0) (.c (.int .i64 (0)))⟩] (.s 0)
  (.seq (.region false [
      ⟨.push, 5, none, .mov (.v 0)⟩,
      ⟨.push, 6, none, .bin false .mul (.c (.int .i64 (-2))) (.s 0)⟩,
      ⟨.push, 7, none, .bin false .sub (.s 0) (.c (.int .i64 (1)))⟩,
      ⟨.var 1, 2, none, .mov (.s 0)⟩])
   (.ret))
  (.skip))
 (.seq (.region false [
    ⟨.push, 8, none, .mov (.v 0)⟩,
    ⟨.push, 9, none, .bin false .mul (.c (.int .i64 (2))) (.s 0)⟩,
    ⟨.var 1, 2, none, .mov (.s 0)⟩])
 (.ret))), [.t 1]⟩
noncomputable def t_impl_fold : List (Nat × Ctr) := []
noncomputable def c_impl_fold : Ctr := mkF t_impl_fold ir70 [.bor]
theorem s_impl_fold : Sound Try.prog 70 c_impl_fold := mkF_sound _ rfl snd_nil (by kernel_rfl : chkFn Try.prog 70 ir70 ir70_v = true)
theorem M_impl_fold : c_impl_fold.modes = [.bor] := rfl
theorem Fl_impl_fold : c_impl_fold.flat = true := rfl
attribute [go_sem] M_impl_fold Fl_impl_fold
theorem Fs_impl_fold {n : Int} {y_ : Int} (h : impl_fold n = some y_) : c_impl_fold.F [.int .i64 n] = ⟨true, .int .i64 y_, [.any]⟩ := by
  refine mkF_E rfl ?_
  dsimp only [impl_fold] at h
  rcases it_some h with ⟨hk1, h⟩ | ⟨hk1, h⟩
  · try simp only [go_sem, n1, n2, n3, n4] at hk1
    all_goals
    obtain rfl := so_some h
    refine ⟨0, fun L hL => ?_⟩
    simp only [go_sem, ir70, hk1]
  · try simp only [go_sem, n1, n2, n3, n4] at hk1
    all_goals
    obtain rfl := so_some h
    refine ⟨0, fun L hL => ?_⟩
    simp only [go_sem, ir70, hk1]


def ir28_v : List Nat := [0, 1, 2, 6]
def ir28 : AFn := ⟨3, 4, .seq (.region false [
    ⟨.var 3, 6, none, .mov (.c (.bool false))⟩])
 (.seq (.region false [
    ⟨.push, 7, none, .mov (.v 0)⟩,
    ⟨.push, 8, none, .mov (.v 1)⟩,
    ⟨.push, 9, none, .bin false .geq (.s 1) (.s 0)⟩,
    ⟨.push, 10, none, .mov (.s 0)⟩,
    ⟨.push, 11, (some ((.s 0), true)), .mov (.v 0)⟩,
    ⟨.push, 12, (some ((.s 1), true)), .mov (.v 2)⟩,
    ⟨.push, 13, (some ((.s 2), true)), .bin false .leq (.s 1) (.s 0)⟩,
    ⟨.push, 14, none, .pick (.s 3) (.s 0) (.c (.bool false))⟩,
    ⟨.var 3, 6, none, .mov (.s 0)⟩])
 (.ret)), [.t 3]⟩
noncomputable def t_impl_in : List (Nat × Ctr) := []
noncomputable def c_impl_in : Ctr := mkF t_impl_in ir28 [.bor, .bor, .bor]
theorem s_impl_in : Sound Try.prog 28 c_impl_in := mkF_sound _ rfl snd_nil (by kernel_rfl : chkFn Try.prog 28 ir28 ir28_v = true)
theorem M_impl_in : c_impl_in.modes = [.bor, .bor, .bor] := rfl
theorem Fl_impl_in : c_impl_in.flat = true := rfl
attribute [go_sem] M_impl_in Fl_impl_in
theorem Fs_impl_in {n : Int} {low : Int} {high : Int} {y_ : Bool} (h : impl_in n low high = some y_) : c_impl_in.F [.int .i64 n, .int .i64 low, .int .i64 high] = ⟨true, .bool y_, [.any, .any, .any]⟩ := by
  refine mkF_E rfl ?_
  dsimp only [impl_in] at h
  obtain rfl := so_some h
  refine ⟨0, fun L hL => ?_⟩
  simp only [go_sem, ir28]


def ir74_v : List Nat := [0, 2]
def ir74 : AFn := ⟨1, 2, .seq (.region false [
    ⟨.var 1, 2, none, .mov (.c (.bool false))⟩])
 (.seq (.region false [
    ⟨.push, 3, none, .mov (.v 0)⟩,
    ⟨.push, 4, none, .call 28 [(.s 0), (.c (.int .i64 (0))), (.c (.int .i64 (10000000)))]⟩,
    ⟨.var 1, 2, none, .mov (.s 0)⟩])
 (.ret)), [.t 1]⟩
noncomputable def t_impl_ValidTime : List (Nat × Ctr) := [(28, c_impl_in)]
theorem lk_impl_ValidTime_28 : look t_impl_ValidTime 28 = some c_impl_in := rfl
noncomputable def c_impl_ValidTime : Ctr := mkF t_impl_ValidTime ir74 [.bor]
theorem s_impl_ValidTime : Sound Try.prog 74 c_impl_ValidTime := mkF_sound _ rfl (snd_cons s_impl_in snd_nil) (by kernel_rfl : chkFn Try.prog 74 ir74 ir74_v = true)
theorem M_impl_ValidTime : c_impl_ValidTime.modes = [.bor] := rfl
theorem Fl_impl_ValidTime : c_impl_ValidTime.flat = true := rfl
attribute [go_sem] M_impl_ValidTime Fl_impl_ValidTime
attribute [go_sem] lk_impl_ValidTime_28
theorem Fs_impl_ValidTime {t : Int} {y_ : Bool} (h : impl_ValidTime t = some y_) : c_impl_ValidTime.F [.int .i64 t] = ⟨true, .bool y_, [.any]⟩ := by
  refine mkF_E rfl ?_
  dsimp only [impl_ValidTime] at h
  obtain ⟨y_1, hk1, h⟩ := bd_some h
  have fhk1 := Fs_impl_in hk1
  try simp only [go_sem] at fhk1
  obtain rfl := so_some h
  refine ⟨0, fun L hL => ?_⟩
  simp only [go_sem, ir74, fhk1]


def ir54_v : List Nat := [0, 2]
def ir54 : AFn := ⟨1, 2, .seq (.region false [
    ⟨.var 1, 2, none, .mov (.c (.bool false))⟩])
 (.seq (.region false [
    ⟨.push, 3, none, .mov (.v 0)⟩,
    ⟨.push, 4, none, .call 28 [(.s 0), (.c (.int .i64 (-2000))), (.c (.int .i64 (20000)))]⟩,
    ⟨.var 1, 2, none, .mov (.s 0)⟩])
 (.ret)), [.t 1]⟩
noncomputable def t_impl_ValidMag : List (Nat × Ctr) := [(28, c_impl_in)]
theorem lk_impl_ValidMag_28 : look t_impl_ValidMag 28 = some c_impl_in := rfl
noncomputable def c_impl_ValidMag : Ctr := mkF t_impl_ValidMag ir54 [.bor]
theorem s_impl_ValidMag : Sound Try.prog 54 c_impl_ValidMag := mkF_sound _ rfl (snd_cons s_impl_in snd_nil) (by kernel_rfl : chkFn Try.prog 54 ir54 ir54_v = true)
theorem M_impl_ValidMag : c_impl_ValidMag.modes = [.bor] := rfl
theorem Fl_impl_ValidMag : c_impl_ValidMag.flat = true := rfl
attribute [go_sem] M_impl_ValidMag Fl_impl_ValidMag
attribute [go_sem] lk_impl_ValidMag_28
theorem Fs_impl_ValidMag {m : Int} {y_ : Bool} (h : impl_ValidMag m = some y_) : c_impl_ValidMag.F [.int .i64 m] = ⟨true, .bool y_, [.any]⟩ := by
  refine mkF_E rfl ?_
  dsimp only [impl_ValidMag] at h
  obtain ⟨y_1, hk1, h⟩ := bd_some h
  have fhk1 := Fs_impl_in hk1
  try simp only [go_sem] at fhk1
  obtain rfl := so_some h
  refine ⟨0, fun L hL => ?_⟩
  simp only [go_sem, ir54, fhk1]


def ir67_b0 : IR := .seq (.region false [
    ⟨.var 7, 11, none, .bin false .lss (.v 6) (.v 5)⟩])
 (.seq (.cond (.v 7) (.skip)
  (.exit 0))
 (.seq (.block 1 (.seq (.region false [
      ⟨.push, 12, none, .mov (.v 6)⟩,
      ⟨.push, 13, none, .ixAddr 2 (.v 4) (.v 6)⟩,
      ⟨.push, 14, none, .load true 2 (.s 0)⟩,
      ⟨.var 3, 4, none, .alloc (.agg [.int .i64 (0), .int .i64 (0)])⟩,
      ⟨.var 2, 3, none, .mov (.s 2)⟩,
      ⟨.no, 0, none, .store 2 (.v 3) (.s 0)⟩])
   (.anyo 25 [
     ⟨.slot 0, 15, none, .fldAddr 0 (.v 3)⟩,
     ⟨.slot 1, 16, none, .load false 1 (.s 0)⟩,
     ⟨.slot 2, 17, none, .callp 74 [(.s 1)]⟩,
     ⟨.slot 3, 18, none, .un .not (.s 2)⟩,
     ⟨.slot 4, 19, none, .mov (.s 3)⟩,
     ⟨.slot 5, 20, (some ((.s 4), false)), .fldAddr 1 (.v 3)⟩,
     ⟨.slot 6, 21, (some ((.s 4), false)), .load false 1 (.s 5)⟩,
     ⟨.slot 7, 22, (some ((.s 4), false)), .call 54 [(.s 6)]⟩,
     ⟨.slot 8, 23, (some ((.s 4), false)), .un .not (.s 7)⟩,
     ⟨.slot 9, 24, none, .pick (.s 4) (.c (.bool true)) (.s 8)⟩,
     ⟨.slot 10, 25, none, .mov (.s 9)⟩,
     ⟨.slot 11, 26, (some ((.s 10), false)), .mov (.v 2)⟩,
     ⟨.slot 12, 27, (some ((.s 10), false)), .bin false .gtr (.s 11) (.c (.int .i64 (0)))⟩,
     ⟨.slot 13, 28, (some ((.s 10), false)), .mov (.s 12)⟩,
     ⟨.slot 14, 29, (some ((.s 13), true)), .mov (.v 0)⟩,
     ⟨.slot 15, 30, (some ((.s 13), true)), .mov (.v 2)⟩,
     ⟨.slot 16, 31, (some ((.s 13), true)), .bin false .sub (.s 15) (.c (.int .i64 (1)))⟩,
     ⟨.slot 17, 32, (some ((.s 13), true)), .ixAddr 2 (.s 14) (.s 16)⟩,
     ⟨.slot 18, 33, (some ((.s 13), true)), .fldAddr 0 (.s 17)⟩,
     ⟨.slot 19, 34, (some ((.s 13), true)), .load false 1 (.s 18)⟩,
     ⟨.slot 20, 35, (some ((.s 13), true)), .fldAddr 0 (.v 3)⟩,
     ⟨.slot 21, 36, (some ((.s 13), true)), .load false 1 (.s 20)⟩,
     ⟨.slot 22, 37, (some ((.s 13), true)), .bin false .geq (.s 19) (.s 21)⟩,
     ⟨.slot 23, 38, (some ((.s 10), false)), .pick (.s 13) (.s 22) (.c (.bool false))⟩,
     ⟨.slot 24, 39, none, .pick (.s 10) (.c (.bool true)) (.s 23)⟩] [] (.cond (.s 24)
   (.seq (.region false [
       ⟨.var 1, 2, none, .mov (.c (.bool false))⟩])
    (.ret))
   (.skip)))))
 (.region false [
   ⟨.push, 40, none, .bin false .add (.v 6) (.c (.int .i64 (1)))⟩,
   ⟨.var 6, 10, none, .mov (.s 0)⟩])))
def ir67_k0 : List Bool := [true, false, false, false, true, true, true, false]
def ir67_o0 : List Bool := [false, false, false, false, false, false, false, false]
def ir67_r0 : List Bool := [false, true, false, false, false, false, false, false]
def ir67_v : List Nat := [0, 2, 3, 4, 8, 9, 10, 11]
def ir67 : AFn := ⟨1, 8, .seq (.region false [
    ⟨.var 1, 2, none, .mov (.c (.bool false))⟩])
 (.seq (.test false [
    ⟨.push, 5, none, .mov (.v 0)⟩,
    ⟨.push, 6, none, .len false (.s 0)⟩,
    ⟨.push, 7, none, .bin false .gtr (.s 0) (.c (.int .i64 (100)))⟩] (.s 0)
  (.seq (.region false [
      ⟨.var 1, 2, none, .mov (.c (.bool false))⟩])
   (.ret))
  (.skip))
 (.seq (.seq (.region false [
     ⟨.var 4, 8, none, .mov (.v 0)⟩,
     ⟨.var 5, 9, none, .len false (.v 4)⟩,
     ⟨.var 6, 10, none, .mov (.c (.int .i64 (0)))⟩])
  (.block 0 (.loop ir67_k0 ir67_o0 ir67_r0 ir67_b0)))
 (.seq (.region false [
    ⟨.var 1, 2, none, .mov (.c (.bool true))⟩])
 (.ret)))), [.t 1]⟩
noncomputable def t_impl_ValidCurve : List (Nat × Ctr) := [(74, c_impl_ValidTime), (54, c_impl_ValidMag)]
theorem lk_impl_ValidCurve_74 : look t_impl_ValidCurve 74 = some c_impl_ValidTime := rfl
theorem lk_impl_ValidCurve_54 : look t_impl_ValidCurve 54 = some c_impl_ValidMag := rfl
noncomputable def c_impl_ValidCurve : Ctr := mkF t_impl_ValidCurve ir67 [.bor]
theorem s_impl_ValidCurve : Sound Try.prog 67 c_impl_ValidCurve := mkF_sound _ rfl (snd_cons s_impl_ValidTime (snd_cons s_impl_ValidMag snd_nil)) (by kernel_rfl : chkFn Try.prog 67 ir67 ir67_v = true)
theorem M_impl_ValidCurve : c_impl_ValidCurve.modes = [.bor] := rfl
theorem Fl_impl_ValidCurve : c_impl_ValidCurve.flat = true := rfl
attribute [go_sem] M_impl_ValidCurve Fl_impl_ValidCurve
attribute [go_sem] lk_impl_ValidCurve_74 lk_impl_ValidCurve_54
def E_impl_ValidCurve_l1 (curve : List Point) (t8 : List Point) (t9 : Int) : Int → St
  | t10 => ⟨[.sl 2 (List.map Point_av curve), .any, .any, .any, .sl 2 (List.map Point_av t8), .int .i64 t9, .int .i64 t10, .any], [], [], true⟩
def R_impl_ValidCurve_l1 (curve : List Point) (t8 : List Point) (t9 : Int) : (Unit ⊕ Bool) → Res
  | .inl y => (.exit 0, ⟨[.any, .any, .any, .any, .any, .any, .any, .any], [], [], true⟩)
  | .inr y => (.ret, ⟨[.any, .bool y, .any, .any, .any, .any, .any, .any], [], [], true⟩)
theorem impl_ValidCurve_l1_ex {curve : List Point} {t8 : List Point} {t9 : Int} {sgm_ : Int} {rho_ : Unit ⊕ Bool} (h : whileE (impl_ValidCurve_l1 curve t8 t9) sgm_ = some rho_) : ∃ L0, ∀ L, L0 ≤ L → iter (exec (look t_impl_ValidCurve) L ir67_b0) ir67_k0 ir67_o0 ir67_r0 L (E_impl_ValidCurve_l1 curve t8 t9 sgm_) = R_impl_ValidCurve_l1 curve t8 t9 rho_ := by
  refine loop_ex (E := E_impl_ValidCurve_l1 curve t8 t9) (R := R_impl_ValidCurve_l1 curve t8 t9) (fun y => by first | (intro c; cases c) | (rcases y with y | y <;> (intro c; cases c)) | (rcases y with y | y | y <;> (intro c; cases c))) ?_ h
  clear h
  intro t10 o_ h
  dsimp only [impl_ValidCurve_l1] at h
  rcases it_some h with ⟨hk2, h⟩ | ⟨hk2, h⟩
  · try simp only [go_sem, n1, n2, n3, n4] at hk2
    all_goals
    obtain ⟨hk3, h⟩ := ck_some h
    have lhk3 := ix_lt hk3
    have xhk3 := getD_mapD Point_av t8 lhk3
    try simp only [go_sem] at lhk3
    try simp only [go_sem] at xhk3
    try simp only [go_sem, n1, n2, n3, n4, hk2] at hk3
    all_goals
    obtain ⟨y_4, hk4, h⟩ := bd_some h
    have fhk4 := Fs_impl_ValidTime hk4
    try simp only [go_sem, hk2, hk3] at fhk4
    obtain ⟨hk5, h⟩ := ck_some h
    rcases or_split hk5 with ⟨ghk5, hk5⟩ | ghk5
    · try simp only [go_sem, n1, n2, n3, n4, hk2, hk3] at ghk5
      all_goals
      obtain ⟨y_5, hhk5⟩ := Option.isSome_iff_exists.1 hk5
      have fhk5 := Fs_impl_ValidMag hhk5
      try simp only [go_sem, hk2, hk3, ghk5] at fhk5
      obtain ⟨hk6, h⟩ := ck_some h
      rcases or_split hk6 with ⟨ghk6, hk6⟩ | ghk6
      · try simp only [go_sem, n1, n2, n3, n4, hk2, hk3, ghk5, hhk5] at ghk6
        all_goals
        have lhk6 := ix_lt hk6
        have xhk6 := getD_mapD Point_av curve lhk6
        try simp only [go_sem] at lhk6
        try simp only [go_sem] at xhk6
        try simp only [go_sem, n1, n2, n3, n4, hk2, hk3, ghk5, hhk5, ghk6] at hk6
        all_goals
        rcases it_some h with ⟨hk7, h⟩ | ⟨hk7, h⟩
        · try simp only [go_sem, n1, n2, n3, n4, hk2, hk3, ghk5, hhk5, ghk6, hk6] at hk7
          all_goals
          obtain rfl := so_some h
          refine ⟨0, fun L hL => ?_⟩
          simp only [go_sem, ir67, E_impl_ValidCurve_l1, R_impl_ValidCurve_l1, ir67_b0, ir67_k0, ir67_o0, ir67_r0, hk2, hk3, lhk3, xhk3, fhk4, ghk5, hhk5, fhk5, ghk6, hk6, lhk6, xhk6, hk7]
        · try simp only [go_sem, n1, n2, n3, n4, hk2, hk3, ghk5, hhk5, ghk6, hk6] at hk7
          all_goals
          obtain rfl := so_some h
          refine ⟨0, fun L hL => ?_⟩
          simp only [go_sem, ir67, E_impl_ValidCurve_l1, R_impl_ValidCurve_l1, ir67_b0, ir67_k0, ir67_o0, ir67_r0, hk2, hk3, lhk3, xhk3, fhk4, ghk5, hhk5, fhk5, ghk6, hk6, lhk6, xhk6, hk7]
      · rcases and_f ghk6 with ghk6a | ⟨ghk6a, ghk6b⟩
        · have ghk6an := no_f ghk6a
          rcases or_t ghk6an with ghk6ana | ⟨ghk6ana, ghk6anb⟩
          · have ghk6anan := no_t ghk6ana
            try simp only [go_sem, n1, n2, n3, n4, hk2, hk3, ghk5, hhk5] at ghk6anan
            all_goals
            rcases it_some h with ⟨hk7, h⟩ | ⟨hk7, h⟩
            · try simp only [go_sem, n1, n2, n3, n4, hk2, hk3, ghk5, hhk5, ghk6anan] at hk7
              all_goals
              obtain rfl := so_some h
              refine ⟨0, fun L hL => ?_⟩
              simp only [go_sem, ir67, E_impl_ValidCurve_l1, R_impl_ValidCurve_l1, ir67_b0, ir67_k0, ir67_o0, ir67_r0, hk2, hk3, lhk3, xhk3, fhk4, ghk5, hhk5, fhk5, ghk6anan, hk7]
            · try simp only [go_sem, n1, n2, n3, n4, hk2, hk3, ghk5, hhk5, ghk6anan] at hk7
              all_goals
              obtain rfl := so_some h
              refine ⟨0, fun L hL => ?_⟩
              simp only [go_sem, ir67, E_impl_ValidCurve_l1, R_impl_ValidCurve_l1, ir67_b0, ir67_k0, ir67_o0, ir67_r0, hk2, hk3, lhk3, xhk3, fhk4, ghk5, hhk5, fhk5, ghk6anan, hk7]
          · have ghk6anan := no_f ghk6ana
            have ghk6anbn := no_t ghk6anb
            try simp only [go_sem, n1, n2, n3, n4, hk2, hk3, ghk5, hhk5] at ghk6anan
            all_goals
            try simp only [go_sem, n1, n2, n3, n4, hk2, hk3, ghk5, hhk5, ghk6anan] at ghk6anbn
            all_goals
            rcases it_some h with ⟨hk7, h⟩ | ⟨hk7, h⟩
            · try simp only [go_sem, n1, n2, n3, n4, hk2, hk3, ghk5, hhk5, ghk6anan, ghk6anbn] at hk7
              all_goals
              obtain rfl := so_some h
              refine ⟨0, fun L hL => ?_⟩
              simp only [go_sem, ir67, E_impl_ValidCurve_l1, R_impl_ValidCurve_l1, ir67_b0, ir67_k0, ir67_o0, ir67_r0, hk2, hk3, lhk3, xhk3, fhk4, ghk5, hhk5, fhk5, ghk6anan, ghk6anbn, hk7]
            · try simp only [go_sem, n1, n2, n3, n4, hk2, hk3, ghk5, hhk5, ghk6anan, ghk6anbn] at hk7
              all_goals
              obtain rfl := so_some h
              refine ⟨0, fun L hL => ?_⟩
              simp only [go_sem, ir67, E_impl_ValidCurve_l1, R_impl_ValidCurve_l1, ir67_b0, ir67_k0, ir67_o0, ir67_r0, hk2, hk3, lhk3, xhk3, fhk4, ghk5, hhk5, fhk5, ghk6anan, ghk6anbn, hk7]
        · have ghk6an := no_t ghk6a
          obtain ⟨ghk6ana, ghk6anb⟩ := or_f ghk6an
          have ghk6anan := no_f ghk6ana
          have ghk6anbn := no_f ghk6anb
          try simp only [go_sem, n1, n2, n3, n4, hk2, hk3, ghk5, hhk5] at ghk6anan
          all_goals
          try simp only [go_sem, n1, n2, n3, n4, hk2, hk3, ghk5, hhk5, ghk6anan] at ghk6anbn
          all_goals
          try simp only [go_sem, n1, n2, n3, n4, hk2, hk3, ghk5, hhk5, ghk6anan, ghk6anbn] at ghk6b
          all_goals
          rcases it_some h with ⟨hk7, h⟩ | ⟨hk7, h⟩
          · try simp only [go_sem, n1, n2, n3, n4, hk2, hk3, ghk5, hhk5, ghk6anan, ghk6anbn, ghk6b] at hk7
            all_goals
            obtain rfl := so_some h
            refine ⟨0, fun L hL => ?_⟩
            simp only [go_sem, ir67, E_impl_ValidCurve_l1, R_impl_ValidCurve_l1, ir67_b0, ir67_k0, ir67_o0, ir67_r0, hk2, hk3, lhk3, xhk3, fhk4, ghk5, hhk5, fhk5, ghk6anan, ghk6anbn, ghk6b, hk7]
          · try simp only [go_sem, n1, n2, n3, n4, hk2, hk3, ghk5, hhk5, ghk6anan, ghk6anbn, ghk6b] at hk7
            all_goals
            obtain rfl := so_some h
            refine ⟨0, fun L hL => ?_⟩
            simp only [go_sem, ir67, E_impl_ValidCurve_l1, R_impl_ValidCurve_l1, ir67_b0, ir67_k0, ir67_o0, ir67_r0, hk2, hk3, lhk3, xhk3, fhk4, ghk5, hhk5, fhk5, ghk6anan, ghk6anbn, ghk6b, hk7]
    · have ghk5n := no_f ghk5
      have ghk5nn := no_t ghk5n
      try simp only [go_sem, n1, n2, n3, n4, hk2, hk3] at ghk5nn
      all_goals
      obtain ⟨hk6, h⟩ := ck_some h
      rcases or_split hk6 with ⟨ghk6, hk6⟩ | ghk6
      · try simp only [go_sem, n1, n2, n3, n4, hk2, hk3, ghk5nn] at ghk6
        all_goals
        have lhk6 := ix_lt hk6
        have xhk6 := getD_mapD Point_av curve lhk6
        try simp only [go_sem] at lhk6
        try simp only [go_sem] at xhk6
        try simp only [go_sem, n1, n2, n3, n4, hk2, hk3, ghk5nn, ghk6] at hk6
        all_goals
        rcases it_some h with ⟨hk7, h⟩ | ⟨hk7, h⟩
        · try simp only [go_sem, n1, n2, n3, n4, hk2, hk3, ghk5nn, ghk6, hk6] at hk7
          all_goals
          obtain rfl := so_some h
          refine ⟨0, fun L hL => ?_⟩
          simp only [go_sem, ir67, E_impl_ValidCurve_l1, R_impl_ValidCurve_l1, ir67_b0, ir67_k0, ir67_o0, ir67_r0, hk2, hk3, lhk3, xhk3, fhk4, ghk5nn, ghk6, hk6, lhk6, xhk6, hk7]
        · try simp only [go_sem, n1, n2, n3, n4, hk2, hk3, ghk5nn, ghk6, hk6] at hk7
          all_goals
          obtain rfl := so_some h
          refine ⟨0, fun L hL => ?_⟩
          simp only [go_sem, ir67, E_impl_ValidCurve_l1, R_impl_ValidCurve_l1, ir67_b0, ir67_k0, ir67_o0, ir67_r0, hk2, hk3, lhk3, xhk3, fhk4, ghk5nn, ghk6, hk6, lhk6, xhk6, hk7]
      · rcases and_f ghk6 with ghk6a | ⟨ghk6a, ghk6b⟩
        · have ghk6an := no_f ghk6a
          rcases or_t ghk6an with ghk6ana | ⟨ghk6ana, ghk6anb⟩
          · have ghk6anan := no_t ghk6ana
            try simp only [go_sem, n1, n2, n3, n4, hk2, hk3, ghk5nn] at ghk6anan
            all_goals
            rcases it_some h with ⟨hk7, h⟩ | ⟨hk7, h⟩
            · try simp only [go_sem, n1, n2, n3, n4, hk2, hk3, ghk5nn, ghk6anan] at hk7
              all_goals
              obtain rfl := so_some h
              refine ⟨0, fun L hL => ?_⟩
              simp only [go_sem, ir67, E_impl_ValidCurve_l1, R_impl_ValidCurve_l1, ir67_b0, ir67_k0, ir67_o0, ir67_r0, hk2, hk3, lhk3, xhk3, fhk4, ghk5nn, ghk6anan, hk7]
            · try simp only [go_sem, n1, n2, n3, n4, hk2, hk3, ghk5nn, ghk6anan] at hk7
              all_goals
              obtain rfl := so_some h
              refine ⟨0, fun L hL => ?_⟩
              simp only [go_sem, ir67, E_impl_ValidCurve_l1, R_impl_ValidCurve_l1, ir67_b0, ir67_k0, ir67_o0, ir67_r0, hk2, hk3, lhk3, xhk3, fhk4, ghk5nn, ghk6anan, hk7]
          · have ghk6anan := no_f ghk6ana
            have ghk6anbn := no_t ghk6anb
            try simp only [go_sem, n1, n2, n3, n4, hk2, hk3, ghk5nn] at ghk6anan
            all_goals
            try simp only [go_sem, n1, n2, n3, n4, hk2, hk3, ghk5nn, ghk6anan] at ghk6anbn
            all_goals
            rcases it_some h with ⟨hk7, h⟩ | ⟨hk7, h⟩
            · try simp only [go_sem, n1, n2, n3, n4, hk2, hk3, ghk5nn, ghk6anan, ghk6anbn] at hk7
              all_goals
              obtain rfl := so_some h
              refine ⟨0, fun L hL => ?_⟩
              simp only [go_sem, ir67, E_impl_ValidCurve_l1, R_impl_ValidCurve_l1, ir67_b0, ir67_k0, ir67_o0, ir67_r0, hk2, hk3, lhk3, xhk3, fhk4, ghk5nn, ghk6anan, ghk6anbn, hk7]
            · try simp only [go_sem, n1, n2, n3, n4, hk2, hk3, ghk5nn, ghk6anan, ghk6anbn] at hk7
              all_goals
              obtain rfl := so_some h
              refine ⟨0, fun L hL => ?_⟩
              simp only [go_sem, ir67, E_impl_ValidCurve_l1, R_impl_ValidCurve_l1, ir67_b0, ir67_k0, ir67_o0, ir67_r0, hk2, hk3, lhk3, xhk3, fhk4, ghk5nn, ghk6anan, ghk6anbn, hk7]
        · have ghk6an := no_t ghk6a
          obtain ⟨ghk6ana, ghk6anb⟩ := or_f ghk6an
          have ghk6anan := no_f ghk6ana
          have ghk6anbn := no_f ghk6anb
          try simp only [go_sem, n1, n2, n3, n4, hk2, hk3, ghk5nn] at ghk6anan
          all_goals
          try simp only [go_sem, n1, n2, n3, n4, hk2, hk3, ghk5nn, ghk6anan] at ghk6anbn
          all_goals
          try simp only [go_sem, n1, n2, n3, n4, hk2, hk3, ghk5nn, ghk6anan, ghk6anbn] at ghk6b
          all_goals
          rcases it_some h with ⟨hk7, h⟩ | ⟨hk7, h⟩
          · try simp only [go_sem, n1, n2, n3, n4, hk2, hk3, ghk5nn, ghk6anan, ghk6anbn, ghk6b] at hk7
            all_goals
            obtain rfl := so_some h
            refine ⟨0, fun L hL => ?_⟩
            simp only [go_sem, ir67, E_impl_ValidCurve_l1, R_impl_ValidCurve_l1, ir67_b0, ir67_k0, ir67_o0, ir67_r0, hk2, hk3, lhk3, xhk3, fhk4, ghk5nn, ghk6anan, ghk6anbn, ghk6b, hk7]
          · try simp only [go_sem, n1, n2, n3, n4, hk2, hk3, ghk5nn, ghk6anan, ghk6anbn, ghk6b] at hk7
            all_goals
            obtain rfl := so_some h
            refine ⟨0, fun L hL => ?_⟩
            simp only [go_sem, ir67, E_impl_ValidCurve_l1, R_impl_ValidCurve_l1, ir67_b0, ir67_k0, ir67_o0, ir67_r0, hk2, hk3, lhk3, xhk3, fhk4, ghk5nn, ghk6anan, ghk6anbn, ghk6b, hk7]
  · try simp only [go_sem, n1, n2, n3, n4] at hk2
    all_goals
    obtain rfl := so_some h
    refine ⟨0, fun L hL => ?_⟩
    simp only [go_sem, ir67, E_impl_ValidCurve_l1, R_impl_ValidCurve_l1, ir67_b0, ir67_k0, ir67_o0, ir67_r0, hk2]

theorem Fs_impl_ValidCurve {curve : List Point} {y_ : Bool} (h : impl_ValidCurve curve = some y_) : c_impl_ValidCurve.F [.sl 2 (List.map Point_av curve)] = ⟨true, .bool y_, [.any]⟩ := by
  refine mkF_E rfl ?_
  dsimp only [impl_ValidCurve] at h
  rcases it_some h with ⟨hk1, h⟩ | ⟨hk1, h⟩
  · try simp only [go_sem, n1, n2, n3, n4] at hk1
    all_goals
    obtain rfl := so_some h
    refine ⟨0, fun L hL => ?_⟩
    simp only [go_sem, ir67, E_impl_ValidCurve_l1, R_impl_ValidCurve_l1, ir67_k0, ir67_o0, ir67_r0, hk1]
  · try simp only [go_sem, n1, n2, n3, n4] at hk1
    all_goals
    obtain ⟨y_8, hk8, h⟩ := bd_some h
    obtain ⟨Lhk8, ehk8⟩ := impl_ValidCurve_l1_ex hk8
    rcases y_8 with y_8a | y_8b
    · dsimp only at h
      obtain rfl := so_some h
      refine ⟨Lhk8, fun L hL => ?_⟩
      have ehk8 := ehk8 L (by omega)
      try simp only [go_sem, E_impl_ValidCurve_l1, R_impl_ValidCurve_l1, ir67_k0, ir67_o0, ir67_r0, hk1] at ehk8
      simp only [go_sem, ir67, E_impl_ValidCurve_l1, R_impl_ValidCurve_l1, ir67_k0, ir67_o0, ir67_r0, hk1, ehk8]
    · dsimp only at h
      obtain rfl := so_some h
      refine ⟨Lhk8, fun L hL => ?_⟩
      have ehk8 := ehk8 L (by omega)
      try simp only [go_sem, E_impl_ValidCurve_l1, R_impl_ValidCurve_l1, ir67_k0, ir67_o0, ir67_r0, hk1] at ehk8
      simp only [go_sem, ir67, E_impl_ValidCurve_l1, R_impl_ValidCurve_l1, ir67_k0, ir67_o0, ir67_r0, hk1, ehk8]


def ir69_v : List Nat := [0, 2]
def ir69 : AFn := ⟨1, 2, .seq (.region false [
    ⟨.var 1, 2, none, .mov (.c (.int .i64 (0)))⟩])
 (.seq (.region false [
    ⟨.push, 3, none, .mov (.v 0)⟩,
    ⟨.push, 4, none, .len false (.s 0)⟩,
    ⟨.var 1, 2, none, .mov (.s 0)⟩])
 (.ret)), [.t 1]⟩
noncomputable def t_impl_count_impl_Point : List (Nat × Ctr) := []
noncomputable def c_impl_count_impl_Point : Ctr := mkF t_impl_count_impl_Point ir69 [.bor]
theorem s_impl_count_impl_Point : Sound Try.prog 69 c_impl_count_impl_Point := mkF_sound _ rfl snd_nil (by kernel_rfl : chkFn Try.prog 69 ir69 ir69_v = true)
theorem M_impl_count_impl_Point : c_impl_count_impl_Point.modes = [.bor] := rfl
theorem Fl_impl_count_impl_Point : c_impl_count_impl_Point.flat = true := rfl
attribute [go_sem] M_impl_count_impl_Point Fl_impl_count_impl_Point
theorem Fs_impl_count_impl_Point {list : List Point} {y_ : Int} (h : impl_count_impl_Point list = some y_) : c_impl_count_impl_Point.F [.sl 2 (List.map Point_av list)] = ⟨true, .int .i64 y_, [.any]⟩ := by
  refine mkF_E rfl ?_
  dsimp only [impl_count_impl_Point] at h
  obtain rfl := so_some h
  refine ⟨0, fun L hL => ?_⟩
  simp only [go_sem, ir69]


def ir71_v : List Nat := [0, 2, 3]
def ir71 : AFn := ⟨1, 3, .seq (.region false [
    ⟨.var 1, 2, none, .newnil 1⟩])
 (.seq (.region false [
    ⟨.push, 4, none, .mov (.v 0)⟩,
    ⟨.push, 5, none, .call 65 [(.s 0)]⟩,
    ⟨.var 2, 3, none, .mov (.s 0)⟩])
 (.seq (.region false [
    ⟨.push, 6, none, .mov (.v 0)⟩,
    ⟨.push, 7, none, .mov (.v 2)⟩,
    ⟨.push, 8, none, .bin false .quo (.s 0) (.c (.int .i64 (256)))⟩,
    ⟨.push, 9, none, .conv .u8 (.s 0)⟩,
    ⟨.push, 10, none, .mov (.v 2)⟩,
    ⟨.push, 11, none, .bin false .rem (.s 0) (.c (.int .i64 (256)))⟩,
    ⟨.push, 12, none, .conv .u8 (.s 0)⟩,
    ⟨.push, 13, none, .mkSl 1 (.int .u8 (0)) 2 [(0, (.s 3)), (1, (.s 0))]⟩,
    ⟨.push, 14, none, .app 1 1 (.int .u8 (0)) (.s 7) (.s 0)⟩,
    ⟨.var 1, 2, none, .mov (.s 0)⟩])
 (.ret))), [.t 1]⟩
noncomputable def t_impl_sealed : List (Nat × Ctr) := [(65, c_impl_SumOfBytes)]
theorem lk_impl_sealed_65 : look t_impl_sealed 65 = some c_impl_SumOfBytes := rfl
noncomputable def c_impl_sealed : Ctr := mkF t_impl_sealed ir71 [.mov]
theorem s_impl_sealed : Sound Try.prog 71 c_impl_sealed := mkF_sound _ rfl (snd_cons s_impl_SumOfBytes snd_nil) (by kernel_rfl : chkFn Try.prog 71 ir71 ir71_v = true)
theorem M_impl_sealed : c_impl_sealed.modes = [.mov] := rfl
theorem Fl_impl_sealed : c_impl_sealed.flat = true := rfl
attribute [go_sem] M_impl_sealed Fl_impl_sealed
attribute [go_sem] lk_impl_sealed_65
theorem Fs_impl_sealed {b : List UInt8} {y_ : (List UInt8)} (h : impl_sealed b = some y_) : c_impl_sealed.F [.fresh 1 (List.map byteAV b)] = ⟨true, .fresh 1 (List.map byteAV y_), [.any]⟩ := by
  refine mkF_E (by simp only [flatA, flatB, flat1, List.all_cons, List.all_nil, Bool.and_self, flatE_map (f := byteAV) (fun _ => rfl)]) ?_
  dsimp only [impl_sealed] at h
  obtain ⟨y_1, hk1, h⟩ := bd_some h
  have fhk1 := Fs_impl_SumOfBytes hk1
  try simp only [go_sem] at fhk1
  obtain ⟨hk2, h⟩ := ck_some h
  try simp only [go_sem, n1, n2, n3, n4] at hk2
  all_goals
  obtain ⟨hk3, h⟩ := ck_some h
  try simp only [go_sem, n1, n2, n3, n4, hk2] at hk3
  all_goals
  obtain rfl := so_some h
  refine ⟨0, fun L hL => ?_⟩
  simp only [go_sem, ir71, fhk1, hk2, hk3]


def ir45_b0 : IR := .seq (.region false [
    ⟨.var 10, 19, none, .bin false .lss (.v 9) (.v 8)⟩])
 (.seq (.cond (.v 10) (.skip)
  (.exit 0))
 (.seq (.block 1 (.seq (.region false [
      ⟨.push, 20, none, .ixAddr 2 (.v 7) (.v 9)⟩,
      ⟨.push, 21, none, .load true 2 (.s 0)⟩,
      ⟨.var 6, 8, none, .alloc (.agg [.int .i64 (0), .int .i64 (0)])⟩,
      ⟨.no, 0, none, .store 2 (.v 6) (.s 0)⟩])
   (.seq (.anyo 12 [
      ⟨.slot 0, 22, none, .mov (.v 3)⟩,
      ⟨.slot 1, 23, none, .fldAddr 0 (.v 6)⟩,
      ⟨.slot 2, 24, none, .load false 1 (.s 1)⟩,
      ⟨.slot 3, 25, none, .mov (.v 4)⟩,
      ⟨.slot 4, 26, none, .bin false .sub (.s 2) (.s 3)⟩,
      ⟨.slot 5, 27, none, .call 68 [(.s 0), (.s 4)]⟩,
      ⟨.slot 6, 28, none, .fldAddr 1 (.v 6)⟩,
      ⟨.slot 7, 29, none, .load false 1 (.s 6)⟩,
      ⟨.slot 8, 30, none, .mov (.v 5)⟩,
      ⟨.slot 9, 31, none, .bin false .sub (.s 7) (.s 8)⟩,
      ⟨.slot 10, 32, none, .callp 70 [(.s 9)]⟩,
      ⟨.slot 11, 33, none, .call 68 [(.s 5), (.s 10)]⟩,
      ⟨.var 3, 4, none, .mov (.s 11)⟩] [[0, 1, 2, 3, 4, 6, 5, 7, 8, 9, 10, 11, 12], [0, 1, 2, 3, 4, 6, 7, 5, 8, 9, 10, 11, 12], [0, 1, 2, 3, 4, 6, 7, 8, 5, 9, 10, 11, 12], [0, 1, 2, 3, 4, 6, 7, 8, 9, 5, 10, 11, 12], [0, 1, 2, 3, 4, 6, 8, 5, 7, 9, 10, 11, 12], [0, 1, 2, 3, 4, 6, 8, 7, 5, 9, 10, 11, 12], [0, 1, 2, 3, 4, 6, 8, 7, 9, 5, 10, 11, 12], [0, 1, 2, 3, 4, 8, 5, 6, 7, 9, 10, 11, 12], [0, 1, 2, 3, 4, 8, 6, 5, 7, 9, 10, 11, 12], [0, 1, 2, 3, 4, 8, 6, 7, 5, 9, 10, 11, 12], [0, 1, 2, 3, 4, 8, 6, 7, 9, 5, 10, 11, 12]] .skip)
   (.anyo 4 [
     ⟨.slot 0, 34, none, .fldAddr 0 (.v 6)⟩,
     ⟨.slot 1, 35, none, .load false 1 (.s 0)⟩,
     ⟨.slot 2, 36, none, .fldAddr 1 (.v 6)⟩,
     ⟨.slot 3, 37, none, .load false 1 (.s 2)⟩,
     ⟨.var 4, 5, none, .mov (.s 1)⟩,
     ⟨.var 5, 6, none, .mov (.s 3)⟩] [] .skip))))
 (.region false [
   ⟨.push, 38, none, .bin false .add (.v 9) (.c (.int .i64 (1)))⟩,
   ⟨.var 9, 18, none, .mov (.s 0)⟩])))
def ir45_k0 : List Bool := [false, false, false, true, true, true, false, true, true, true, false]
def ir45_o0 : List Bool := [false, false, false, true, false, false, false, false, false, false, false]
def ir45_r0 : List Bool := [false, true, true, false, false, false, false, false, false, false, false]
def ir45_v : List Nat := [0, 2, 3, 4, 5, 6, 8, 16, 17, 18, 19]
def ir45 : AFn := ⟨1, 11, .seq (.region false [
    ⟨.var 1, 2, none, .newnil 1⟩,
    ⟨.var 2, 3, none, .mov (.c (.int .i64 (0)))⟩])
 (.seq (.test false [
    ⟨.push, 9, none, .mov (.v 0)⟩,
    ⟨.push, 10, none, .call 67 [(.s 0)]⟩,
    ⟨.push, 11, none, .un .not (.s 0)⟩] (.s 0)
  (.seq (.region false [
      ⟨.var 1, 2, none, .newnil 1⟩,
      ⟨.var 2, 3, none, .mov (.c (.int .i64 (1)))⟩])
   (.ret))
  (.skip))
 (.seq (.region false [
    ⟨.push, 12, none, .mkSl 1 (.int .u8 (0)) 1 [(0, (.c (.int .u8 (67))))]⟩,
    ⟨.push, 13, none, .mov (.v 0)⟩,
    ⟨.push, 14, none, .call 69 [(.s 0)]⟩,
    ⟨.push, 15, none, .call 68 [(.s 2), (.s 0)]⟩,
    ⟨.var 3, 4, none, .mov (.s 0)⟩])
 (.seq (.region false [
    ⟨.var 4, 5, none, .mov (.c (.int .i64 (0)))⟩,
    ⟨.var 5, 6, none, .mov (.c (.int .i64 (0)))⟩])
 (.seq (.seq (.region false [
     ⟨.var 7, 16, none, .mov (.v 0)⟩,
     ⟨.var 8, 17, none, .len false (.v 7)⟩,
     ⟨.var 9, 18, none, .mov (.c (.int .i64 (0)))⟩])
  (.block 0 (.loop ir45_k0 ir45_o0 ir45_r0 ir45_b0)))
 (.seq (.region false [
    ⟨.push, 39, none, .mov (.v 3)⟩,
    ⟨.push, 40, none, .call 71 [(.s 0)]⟩,
    ⟨.var 1, 2, none, .mov (.s 0)⟩,
    ⟨.var 2, 3, none, .mov (.c (.int .i64 (0)))⟩])
 (.ret)))))), [.t 1, .t 2]⟩
noncomputable def t_impl_PackCurve : List (Nat × Ctr) := [(67, c_impl_ValidCurve), (69, c_impl_count_impl_Point), (68, c_impl_appendNumber), (70, c_impl_fold), (71, c_impl_sealed)]
theorem lk_impl_PackCurve_67 : look t_impl_PackCurve 67 = some c_impl_ValidCurve := rfl
theorem lk_impl_PackCurve_69 : look t_impl_PackCurve 69 = some c_impl_count_impl_Point := rfl
theorem lk_impl_PackCurve_68 : look t_impl_PackCurve 68 = some c_impl_appendNumber := rfl
theorem lk_impl_PackCurve_70 : look t_impl_PackCurve 70 = some c_impl_fold := rfl
theorem lk_impl_PackCurve_71 : look t_impl_PackCurve 71 = some c_impl_sealed := rfl
noncomputable def c_impl_PackCurve : Ctr := mkF t_impl_PackCurve ir45 [.bor]
theorem s_impl_PackCurve : Sound Try.prog 45 c_impl_PackCurve := mkF_sound _ rfl (snd_cons s_impl_ValidCurve (snd_cons s_impl_count_impl_Point (snd_cons s_impl_appendNumber (snd_cons s_impl_fold (snd_cons s_impl_sealed snd_nil))))) (by kernel_rfl : chkFn Try.prog 45 ir45 ir45_v = true)
theorem M_impl_PackCurve : c_impl_PackCurve.modes = [.bor] := rfl
theorem Fl_impl_PackCurve : c_impl_PackCurve.flat = true := rfl
attribute [go_sem] M_impl_PackCurve Fl_impl_PackCurve
attribute [go_sem] lk_impl_PackCurve_67 lk_impl_PackCurve_69 lk_impl_PackCurve_68 lk_impl_PackCurve_70 lk_impl_PackCurve_71
def E_impl_PackCurve_l1 (t16 : List Point) (t17 : Int) : ((List UInt8) × Int × Int × Int) → St
  | (b, time, mag, t18) => ⟨[.any, .any, .any, .own 3200000, .int .i64 time, .int .i64 mag, .any, .sl 2 (List.map Point_av t16), .int .i64 t17, .int .i64 t18, .any], [], [(3200000, ⟨1, List.map byteAV b⟩)], true⟩
def R_impl_PackCurve_l1 (t16 : List Point) (t17 : Int) (y : (List UInt8)) : Res := (.exit 0, ⟨[.any, .any, .any, .own 3200000, .any, .any, .any, .any, .any, .any, .any], [], [(3200000, ⟨1, List.map byteAV y⟩)], true⟩)
theorem impl_PackCurve_l1_ex {t16 : List Point} {t17 : Int} {sgm_ : (List UInt8) × Int × Int × Int} {rho_ : (List UInt8)} (h : whileE (impl_PackCurve_l1 t16 t17) sgm_ = some rho_) : ∃ L0, ∀ L, L0 ≤ L → iter (exec (look t_impl_PackCurve) L ir45_b0) ir45_k0 ir45_o0 ir45_r0 L (E_impl_PackCurve_l1 t16 t17 sgm_) = R_impl_PackCurve_l1 t16 t17 rho_ := by
  refine loop_ex (E := E_impl_PackCurve_l1 t16 t17) (R := R_impl_PackCurve_l1 t16 t17) (fun y => by first | (intro c; cases c) | (rcases y with y | y <;> (intro c; cases c)) | (rcases y with y | y | y <;> (intro c; cases c))) ?_ h
  clear h
  rintro ⟨b, time, mag, t18⟩ o_ h
  dsimp only [impl_PackCurve_l1] at h
  rcases it_some h with ⟨hk5, h⟩ | ⟨hk5, h⟩
  · try simp only [go_sem, n1, n2, n3, n4] at hk5
    all_goals
    obtain ⟨hk6, h⟩ := ck_some h
    have lhk6 := ix_lt hk6
    have xhk6 := getD_mapD Point_av t16 lhk6
    try simp only [go_sem] at lhk6
    try simp only [go_sem] at xhk6
    try simp only [go_sem, n1, n2, n3, n4, hk5] at hk6
    all_goals
    obtain ⟨y_7, hk7, h⟩ := bd_some h
    have fhk7 := Fs_impl_appendNumber hk7
    try simp only [go_sem, hk5, hk6] at fhk7
    obtain ⟨y_8, hk8, h⟩ := bd_some h
    have fhk8 := Fs_impl_fold hk8
    try simp only [go_sem, hk5, hk6] at fhk8
    obtain ⟨y_9, hk9, h⟩ := bd_some h
    have fhk9 := Fs_impl_appendNumber hk9
    try simp only [go_sem, hk5, hk6] at fhk9
    obtain rfl := so_some h
    refine ⟨0, fun L hL => ?_⟩
    simp only [go_sem, ir45, E_impl_PackCurve_l1, R_impl_PackCurve_l1, ir45_b0, ir45_k0, ir45_o0, ir45_r0, hk5, hk6, lhk6, xhk6, fhk7, fhk8, fhk9]
  · try simp only [go_sem, n1, n2, n3, n4] at hk5
    all_goals
    obtain rfl := so_some h
    refine ⟨0, fun L hL => ?_⟩
    simp only [go_sem, ir45, E_impl_PackCurve_l1, R_impl_PackCurve_l1, ir45_b0, ir45_k0, ir45_o0, ir45_r0, hk5]

theorem Fs_impl_PackCurve {curve : List Point} {y_ : (List UInt8) × Int} (h : impl_PackCurve curve = some y_) : c_impl_PackCurve.F [.sl 2 (List.map Point_av curve)] = ⟨true, .tup [.fresh 1 (List.map byteAV y_.1), .int .i64 y_.2], [.any]⟩ := by
  refine mkF_E (by simp only [flatA, flatB, flat1, List.all_cons, List.all_nil, Bool.and_self, flatE_map (f := byteAV) (fun _ => rfl)]) ?_
  dsimp only [impl_PackCurve] at h
  obtain ⟨y_1, hk1, h⟩ := bd_some h
  have fhk1 := Fs_impl_ValidCurve hk1
  try simp only [go_sem] at fhk1
  rcases it_some h with ⟨hk2, h⟩ | ⟨hk2, h⟩
  · try simp only [go_sem, n1, n2, n3, n4] at hk2
    all_goals
    obtain rfl := so_some h
    refine ⟨0, fun L hL => ?_⟩
    simp only [go_sem, ir45, E_impl_PackCurve_l1, R_impl_PackCurve_l1, ir45_k0, ir45_o0, ir45_r0, fhk1, hk2]
  · try simp only [go_sem, n1, n2, n3, n4] at hk2
    all_goals
    obtain ⟨y_3, hk3, h⟩ := bd_some h
    have fhk3 := Fs_impl_count_impl_Point hk3
    try simp only [go_sem, hk2] at fhk3
    obtain ⟨y_4, hk4, h⟩ := bd_some h
    have fhk4 := Fs_impl_appendNumber hk4
    try simp only [go_sem, hk2] at fhk4
    obtain ⟨y_10, hk10, h⟩ := bd_some h
    obtain ⟨Lhk10, ehk10⟩ := impl_PackCurve_l1_ex hk10
    obtain ⟨y_11, hk11, h⟩ := bd_some h
    have fhk11 := Fs_impl_sealed hk11
    try simp only [go_sem, hk2] at fhk11
    obtain rfl := so_some h
    refine ⟨Lhk10, fun L hL => ?_⟩
    have ehk10 := ehk10 L (by omega)
    try simp only [go_sem, E_impl_PackCurve_l1, R_impl_PackCurve_l1, ir45_k0, ir45_o0, ir45_r0, hk2] at ehk10
    simp only [go_sem, ir45, E_impl_PackCurve_l1, R_impl_PackCurve_l1, ir45_k0, ir45_o0, ir45_r0, fhk1, hk2, fhk3, fhk4, fhk11, ehk10]


def ir46_v : List Nat := [0, 1, 4]
def ir46 : AFn := ⟨2, 3, .seq (.region false [
    ⟨.var 2, 4, none, .mov (.c (.bool false))⟩])
 (.seq (.region false [
    ⟨.push, 5, none, .mov (.v 0)⟩,
    ⟨.push, 6, none, .b2s (.s 0)⟩,
    ⟨.push, 7, none, .mov (.v 1)⟩,
    ⟨.push, 8, none, .b2s (.s 0)⟩,
    ⟨.push, 9, none, .bin false .eql (.s 2) (.s 0)⟩,
    ⟨.var 2, 4, none, .mov (.s 0)⟩])
 (.ret)), [.t 2]⟩
noncomputable def t_bytes_Equal : List (Nat × Ctr) := []
noncomputable def c_bytes_Equal : Ctr := mkF t_bytes_Equal ir46 [.bor, .bor]
theorem s_bytes_Equal : Sound Try.prog 46 c_bytes_Equal := mkF_sound _ rfl snd_nil (by kernel_rfl : chkFn Try.prog 46 ir46 ir46_v = true)
theorem M_bytes_Equal : c_bytes_Equal.modes = [.bor, .bor] := rfl
theorem Fl_bytes_Equal : c_bytes_Equal.flat = true := rfl
attribute [go_sem] M_bytes_Equal Fl_bytes_Equal
theorem Fs_bytes_Equal {a : List UInt8} {b : List UInt8} {y_ : Bool} (h : bytes_Equal a b = some y_) : c_bytes_Equal.F [.sl 1 (List.map byteAV a), .sl 1 (List.map byteAV b)] = ⟨true, .bool y_, [.any, .any]⟩ := by
  refine mkF_E rfl ?_
  dsimp only [bytes_Equal] at h
  obtain rfl := so_some h
  refine ⟨0, fun L hL => ?_⟩
  simp only [go_sem, ir46]


def ir16_b0 : IR := .seq (.region false [
    ⟨.var 12, 27, none, .bin false .lss (.v 11) (.v 10)⟩])
 (.seq (.cond (.v 12) (.skip)
  (.exit 0))
 (.seq (.block 1 (.seq (.region false [
      ⟨.push, 28, none, .mov (.v 6)⟩,
      ⟨.push, 29, none, .mov (.v 4)⟩,
      ⟨.push, 30, none, .call 43 [(.s 0), (.c (.int .i64 (10000000)))]⟩,
      ⟨.push, 31, none, .bin false .add (.s 2) (.s 0)⟩,
      ⟨.var 6, 7, none, .mov (.s 0)⟩])
   (.seq (.region false [
      ⟨.push, 32, none, .mov (.v 7)⟩,
      ⟨.push, 33, none, .mov (.v 4)⟩,
      ⟨.push, 34, none, .call 43 [(.s 0), (.c (.int .i64 (44000)))]⟩,
      ⟨.push, 35, none, .call 44 [(.s 0)]⟩,
      ⟨.push, 36, none, .bin false .add (.s 3) (.s 0)⟩,
      ⟨.var 7, 8, none, .mov (.s 0)⟩])
   (.region false [
     ⟨.push, 37, none, .mov (.v 5)⟩,
     ⟨.push, 38, none, .mov (.v 6)⟩,
     ⟨.push, 39, none, .mov (.v 7)⟩,
     ⟨.push, 40, none, .build [.int .i64 (0), .int .i64 (0)] [(0, 1, (.s 1)), (1, 1, (.s 0))]⟩,
     ⟨.push, 41, none, .mkSl 2 (.agg [.int .i64 (0), .int .i64 (0)]) 1 [(0, (.s 0))]⟩,
     ⟨.push, 42, none, .app 2 16 (.agg [.int .i64 (0), .int .i64 (0)]) (.s 4) (.s 0)⟩,
     ⟨.var 5, 6, none, .mov (.s 0)⟩]))))
 (.region false [
   ⟨.push, 43, none, .bin false .add (.v 11) (.c (.int .i64 (1)))⟩,
   ⟨.var 11, 26, none, .mov (.s 0)⟩])))
def ir16_k0 : List Bool := [true, false, false, false, true, true, true, true, false, false, true, true, false]
def ir16_o0 : List Bool := [true, false, false, false, true, true, false, false, false, false, false, false, false]
def ir16_r0 : List Bool := [false, true, true, false, false, false, false, false, false, false, false, false, false]
def ir16_v : List Nat := [0, 2, 3, 4, 5, 6, 7, 8, 9, 10, 25, 26, 27]
def ir16 : AFn := ⟨1, 13, .seq (.region false [
    ⟨.var 1, 2, none, .newnil 2⟩,
    ⟨.var 2, 3, none, .mov (.c (.int .i64 (0)))⟩])
 (.seq (.seq (.region false [
     ⟨.push, 11, none, .mov (.v 0)⟩,
     ⟨.push, 12, none, .call 41 [(.s 0), (.c (.fn (.func 42) [] []))]⟩,
     ⟨.var 3, 4, none, .mov (.s 0)⟩])
  (.test false [
    ⟨.push, 13, none, .mov (.v 3)⟩,
    ⟨.push, 14, none, .bin false .neq (.s 0) (.c (.int .i64 (0)))⟩] (.s 0)
  (.seq (.region false [
      ⟨.push, 15, none, .mov (.v 3)⟩,
      ⟨.var 1, 2, none, .newnil 2⟩,
      ⟨.var 2, 3, none, .mov (.s 0)⟩])
   (.ret))
  (.skip)))
 (.seq (.region false [
    ⟨.push, 16, none, .mov (.v 0)⟩,
    ⟨.push, 17, none, .mov (.v 0)⟩,
    ⟨.push, 18, none, .len false (.s 0)⟩,
    ⟨.push, 19, none, .bin false .sub (.s 0) (.c (.int .i64 (2)))⟩,
    ⟨.push, 20, none, .slice 1 (.s 3) (some (.c (.int .i64 (1)))) (some (.s 0))⟩,
    ⟨.push, 21, none, .build [.sl 1 [], .bool false] [(0, 1, (.s 0))]⟩,
    ⟨.push, 22, none, .box (.s 0)⟩,
    ⟨.var 4, 5, none, .mov (.s 0)⟩])
 (.seq (.region false [
    ⟨.push, 23, none, .mkSl 2 (.agg [.int .i64 (0), .int .i64 (0)]) 0 []⟩,
    ⟨.var 5, 6, none, .mov (.s 0)⟩,
    ⟨.var 6, 7, none, .mov (.c (.int .i64 (0)))⟩,
    ⟨.var 7, 8, none, .mov (.c (.int .i64 (0)))⟩])
 (.seq (.seq (.region false [
     ⟨.push, 24, none, .mov (.v 4)⟩,
     ⟨.var 10, 25, none, .call 43 [(.s 0), (.c (.int .i64 (100)))]⟩,
     ⟨.var 11, 26, none, .mov (.c (.int .i64 (0)))⟩])
  (.block 0 (.loop ir16_k0 ir16_o0 ir16_r0 ir16_b0)))
 (.seq (.region false [
    ⟨.push, 45, none, .mov (.v 5)⟩,
    ⟨.push, 46, none, .call 45 [(.s 0)]⟩,
    ⟨.push, 44, none, .mov (.s 0)⟩,
    ⟨.push, 47, none, .ext (.s 0) 0⟩,
    ⟨.push, 48, none, .ext (.s 1) 1⟩,
    ⟨.var 8, 9, none, .mov (.s 1)⟩,
    ⟨.var 9, 10, none, .mov (.s 0)⟩])
 (.seq (.test false [
    ⟨.push, 49, none, .mov (.v 4)⟩,
    ⟨.push, 50, none, .nilck (.s 0)⟩,
    ⟨.push, 51, none, .fldAddr 1 (.s 0)⟩,
    ⟨.push, 52, none, .load false 1 (.s 0)⟩,
    ⟨.push, 53, none, .mov (.s 0)⟩,
    ⟨.push, 54, (some ((.s 0), false)), .mov (.v 9)⟩,
    ⟨.push, 55, (some ((.s 1), false)), .bin false .neq (.s 0) (.c (.int .i64 (0)))⟩,
    ⟨.push, 56, none, .pick (.s 2) (.c (.bool true)) (.s 0)⟩,
    ⟨.push, 57, none, .mov (.s 0)⟩,
    ⟨.push, 58, (some ((.s 0), false)), .mov (.v 8)⟩,
    ⟨.push, 59, (some ((.s 1), false)), .mov (.v 0)⟩,
    ⟨.push, 60, (some ((.s 2), false)), .call 46 [(.s 1), (.s 0)]⟩,
    ⟨.push, 61, (some ((.s 3), false)), .un .not (.s 0)⟩,
    ⟨.push, 62, none, .pick (.s 4) (.c (.bool true)) (.s 0)⟩] (.s 0)
  (.seq (.region false [
      ⟨.var 1, 2, none, .newnil 2⟩,
      ⟨.var 2, 3, none, .mov (.c (.int .i64 (8)))⟩])
   (.ret))
  (.skip))
 (.seq (.region false [
    ⟨.push, 63, none, .mov (.v 5)⟩,
    ⟨.var 1, 2, none, .mov (.s 0)⟩,
    ⟨.var 2, 3, none, .mov (.c (.int .i64 (0)))⟩])
 (.ret)))))))), [.t 1, .t 2]⟩
noncomputable def t_impl_UnpackCurve : List (Nat × Ctr) := [(41, c_impl_checkPacked__impl_UnpackCurve_c1), (43, c_impl_unpacker_number), (44, c_impl_unfold), (45, c_impl_PackCurve), (46, c_bytes_Equal)]
theorem lk_impl_UnpackCurve_41 : look t_impl_UnpackCurve 41 = some c_impl_checkPacked__impl_UnpackCurve_c1 := rfl
theorem lk_impl_UnpackCurve_43 : look t_impl_UnpackCurve 43 = some c_impl_unpacker_number := rfl
theorem lk_impl_UnpackCurve_44 : look t_impl_UnpackCurve 44 = some c_impl_unfold := rfl
theorem lk_impl_UnpackCurve_45 : look t_impl_UnpackCurve 45 = some c_impl_PackCurve := rfl
theorem lk_impl_UnpackCurve_46 : look t_impl_UnpackCurve 46 = some c_bytes_Equal := rfl
noncomputable def c_impl_UnpackCurve : Ctr := mkF t_impl_UnpackCurve ir16 [.bor]
theorem s_impl_UnpackCurve : Sound Try.prog 16 c_impl_UnpackCurve := mkF_sound _ rfl (snd_cons s_impl_checkPacked__impl_UnpackCurve_c1 (snd_cons s_impl_unpacker_number (snd_cons s_impl_unfold (snd_cons s_impl_PackCurve (snd_cons s_bytes_Equal snd_nil))))) (by kernel_rfl : chkFn Try.prog 16 ir16 ir16_v = true)
theorem M_impl_UnpackCurve : c_impl_UnpackCurve.modes = [.bor] := rfl
theorem Fl_impl_UnpackCurve : c_impl_UnpackCurve.flat = true := rfl
attribute [go_sem] M_impl_UnpackCurve Fl_impl_UnpackCurve
attribute [go_sem] lk_impl_UnpackCurve_41 lk_impl_UnpackCurve_43 lk_impl_UnpackCurve_44 lk_impl_UnpackCurve_45 lk_impl_UnpackCurve_46
def E_impl_UnpackCurve_l1 (b : List UInt8) (t25 : Int) : (Unpacker × (List Point) × Int × Int × Int) → St
  | (u, curve, time, mag, t26) => ⟨[.sl 1 (List.map byteAV b), .any, .any, .any, .ref 3200000 0 0, .own 3200032, .int .i64 time, .int .i64 mag, .any, .any, .int .i64 t25, .int .i64 t26, .any], [], [(3200000, ⟨2, [Unpacker_av u]⟩), (3200032, ⟨2, List.map Point_av curve⟩)], true⟩
def R_impl_UnpackCurve_l1 (b : List UInt8) (t25 : Int) (y : Unpacker × (List Point)) : Res := (.exit 0, ⟨[.sl 1 (List.map byteAV b), .any, .any, .any, .ref 3200000 0 0, .own 3200032, .any, .any, .any, .any, .any, .any, .any], [], [(3200000, ⟨2, [Unpacker_av y.1]⟩), (3200032, ⟨2, List.map Point_av y.2⟩)], true⟩)
theorem impl_UnpackCurve_l1_ex {b : List UInt8} {t25 : Int} {sgm_ : Unpacker × (List Point) × Int × Int × Int} {rho_ : Unpacker × (List Point)} (h : whileE (impl_UnpackCurve_l1 b t25) sgm_ = some rho_) : ∃ L0, ∀ L, L0 ≤ L → iter (exec (look t_impl_UnpackCurve) L ir16_b0) ir16_k0 ir16_o0 ir16_r0 L (E_impl_UnpackCurve_l1 b t25 sgm_) = R_impl_UnpackCurve_l1 b t25 rho_ := by
  refine loop_ex (E := E_impl_UnpackCurve_l1 b t25) (R := R_impl_UnpackCurve_l1 b t25) (fun y => by first | (intro c; cases c) | (rcases y with y | y <;> (intro c; cases c)) | (rcases y with y | y | y <;> (intro c; cases c))) ?_ h
  clear h
  rintro ⟨u, curve, time, mag, t26⟩ o_ h
  dsimp only [impl_UnpackCurve_l1] at h
  rcases it_some h with ⟨hk5, h⟩ | ⟨hk5, h⟩
  · try simp only [go_sem, n1, n2, n3, n4] at hk5
    all_goals
    obtain ⟨y_6, hk6, h⟩ := bd_some h
    have fhk6 := Fs_impl_unpacker_number hk6
    try simp only [go_sem, hk5] at fhk6
    obtain ⟨y_7, hk7, h⟩ := bd_some h
    have fhk7 := Fs_impl_unpacker_number hk7
    try simp only [go_sem, hk5] at fhk7
    obtain ⟨y_8, hk8, h⟩ := bd_some h
    have fhk8 := Fs_impl_unfold hk8
    try simp only [go_sem, hk5] at fhk8
    obtain ⟨hk9, h⟩ := ck_some h
    try simp only [go_sem, n1, n2, n3, n4, hk5] at hk9
    all_goals
    obtain rfl := so_some h
    refine ⟨0, fun L hL => ?_⟩
    simp only [go_sem, ir16, E_impl_UnpackCurve_l1, R_impl_UnpackCurve_l1, ir16_b0, ir16_k0, ir16_o0, ir16_r0, hk5, fhk6, fhk7, fhk8, hk9]
  · try simp only [go_sem, n1, n2, n3, n4] at hk5
    all_goals
    obtain rfl := so_some h
    refine ⟨0, fun L hL => ?_⟩
    simp only [go_sem, ir16, E_impl_UnpackCurve_l1, R_impl_UnpackCurve_l1, ir16_b0, ir16_k0, ir16_o0, ir16_r0, hk5]

theorem Fs_impl_UnpackCurve {b : List UInt8} {y_ : (List Point) × Int} (h : impl_UnpackCurve b = some y_) : c_impl_UnpackCurve.F [.sl 1 (List.map byteAV b)] = ⟨true, .tup [.fresh 2 (List.map Point_av y_.1), .int .i64 y_.2], [.any]⟩ := by
  refine mkF_E (by simp only [flatA, flatB, flat1, List.all_cons, List.all_nil, Bool.and_self, flatE_map (f := Point_av) (fun _ => rfl)]) ?_
  dsimp only [impl_UnpackCurve] at h
  obtain ⟨y_1, hk1, h⟩ := bd_some h
  have fhk1 := Fs_impl_checkPacked__impl_UnpackCurve_c1 hk1
  try simp only [go_sem] at fhk1
  rcases it_some h with ⟨hk2, h⟩ | ⟨hk2, h⟩
  · try simp only [go_sem, n1, n2, n3, n4] at hk2
    all_goals
    obtain rfl := so_some h
    refine ⟨0, fun L hL => ?_⟩
    simp only [go_sem, ir16, E_impl_UnpackCurve_l1, R_impl_UnpackCurve_l1, ir16_k0, ir16_o0, ir16_r0, fhk1, hk2]
  · try simp only [go_sem, n1, n2, n3, n4] at hk2
    all_goals
    obtain ⟨hk3, h⟩ := ck_some h
    try simp only [go_sem, n1, n2, n3, n4, hk2] at hk3
    all_goals
    obtain ⟨y_4, hk4, h⟩ := bd_some h
    have fhk4 := Fs_impl_unpacker_number hk4
    try simp only [go_sem, hk2, hk3] at fhk4
    obtain ⟨y_10, hk10, h⟩ := bd_some h
    obtain ⟨Lhk10, ehk10⟩ := impl_UnpackCurve_l1_ex hk10
    obtain ⟨y_11, hk11, h⟩ := bd_some h
    have fhk11 := Fs_impl_PackCurve hk11
    try simp only [go_sem, hk2, hk3] at fhk11
    obtain ⟨hk12, h⟩ := ck_some h
    rcases or_split hk12 with ⟨ghk12, hk12⟩ | ghk12
    · try simp only [go_sem, n1, n2, n3, n4, hk2, hk3] at ghk12
      all_goals
      obtain ⟨y_12, hhk12⟩ := Option.isSome_iff_exists.1 hk12
      have fhk12 := Fs_bytes_Equal hhk12
      try simp only [go_sem, hk2, hk3, ghk12] at fhk12
      rcases it_some h with ⟨hk13, h⟩ | ⟨hk13, h⟩
      · try simp only [go_sem, n1, n2, n3, n4, hk2, hk3, ghk12, hhk12] at hk13
        all_goals
        obtain rfl := so_some h
        refine ⟨Lhk10, fun L hL => ?_⟩
        have ehk10 := ehk10 L (by omega)
        try simp only [go_sem, E_impl_UnpackCurve_l1, R_impl_UnpackCurve_l1, ir16_k0, ir16_o0, ir16_r0, hk2, hk3, ghk12, hhk12, hk13] at ehk10
        simp only [go_sem, ir16, E_impl_UnpackCurve_l1, R_impl_UnpackCurve_l1, ir16_k0, ir16_o0, ir16_r0, fhk1, hk2, hk3, fhk4, fhk11, ghk12, hhk12, fhk12, hk13, ehk10]
      · try simp only [go_sem, n1, n2, n3, n4, hk2, hk3, ghk12, hhk12] at hk13
        all_goals
        obtain rfl := so_some h
        refine ⟨Lhk10, fun L hL => ?_⟩
        have ehk10 := ehk10 L (by omega)
        try simp only [go_sem, E_impl_UnpackCurve_l1, R_impl_UnpackCurve_l1, ir16_k0, ir16_o0, ir16_r0, hk2, hk3, ghk12, hhk12, hk13] at ehk10
        simp only [go_sem, ir16, E_impl_UnpackCurve_l1, R_impl_UnpackCurve_l1, ir16_k0, ir16_o0, ir16_r0, fhk1, hk2, hk3, fhk4, fhk11, ghk12, hhk12, fhk12, hk13, ehk10]
    · have ghk12n := no_f ghk12
      rcases or_t ghk12n with ghk12na | ⟨ghk12na, ghk12nb⟩
      · try simp only [go_sem, n1, n2, n3, n4, hk2, hk3] at ghk12na
        all_goals
        rcases it_some h with ⟨hk13, h⟩ | ⟨hk13, h⟩
        · try simp only [go_sem, n1, n2, n3, n4, hk2, hk3, ghk12na] at hk13
          all_goals
          obtain rfl := so_some h
          refine ⟨Lhk10, fun L hL => ?_⟩
          have ehk10 := ehk10 L (by omega)
          try simp only [go_sem, E_impl_UnpackCurve_l1, R_impl_UnpackCurve_l1, ir16_k0, ir16_o0, ir16_r0, hk2, hk3, ghk12na, hk13] at ehk10
          simp only [go_sem, ir16, E_impl_UnpackCurve_l1, R_impl_UnpackCurve_l1, ir16_k0, ir16_o0, ir16_r0, fhk1, hk2, hk3, fhk4, fhk11, ghk12na, hk13, ehk10]
        · try simp only [go_sem, n1, n2, n3, n4, hk2, hk3, ghk12na] at hk13
          all_goals
          obtain rfl := so_some h
          refine ⟨Lhk10, fun L hL => ?_⟩
          have ehk10 := ehk10 L (by omega)
          try simp only [go_sem, E_impl_UnpackCurve_l1, R_impl_UnpackCurve_l1, ir16_k0, ir16_o0, ir16_r0, hk2, hk3, ghk12na, hk13] at ehk10
          simp only [go_sem, ir16, E_impl_UnpackCurve_l1, R_impl_UnpackCurve_l1, ir16_k0, ir16_o0, ir16_r0, fhk1, hk2, hk3, fhk4, fhk11, ghk12na, hk13, ehk10]
      · have ghk12nbn := no_t ghk12nb
        try simp only [go_sem, n1, n2, n3, n4, hk2, hk3] at ghk12na
        all_goals
        try simp only [go_sem, n1, n2, n3, n4, hk2, hk3, ghk12na] at ghk12nbn
        all_goals
        rcases it_some h with ⟨hk13, h⟩ | ⟨hk13, h⟩
        · try simp only [go_sem, n1, n2, n3, n4, hk2, hk3, ghk12na, ghk12nbn] at hk13
          all_goals
          obtain rfl := so_some h
          refine ⟨Lhk10, fun L hL => ?_⟩
          have ehk10 := ehk10 L (by omega)
          try simp only [go_sem, E_impl_UnpackCurve_l1, R_impl_UnpackCurve_l1, ir16_k0, ir16_o0, ir16_r0, hk2, hk3, ghk12na, ghk12nbn, hk13] at ehk10
          simp only [go_sem, ir16, E_impl_UnpackCurve_l1, R_impl_UnpackCurve_l1, ir16_k0, ir16_o0, ir16_r0, fhk1, hk2, hk3, fhk4, fhk11, ghk12na, ghk12nbn, hk13, ehk10]
        · try simp only [go_sem, n1, n2, n3, n4, hk2, hk3, ghk12na, ghk12nbn] at hk13
          all_goals
          obtain rfl := so_some h
          refine ⟨Lhk10, fun L hL => ?_⟩
          have ehk10 := ehk10 L (by omega)
          try simp only [go_sem, E_impl_UnpackCurve_l1, R_impl_UnpackCurve_l1, ir16_k0, ir16_o0, ir16_r0, hk2, hk3, ghk12na, ghk12nbn, hk13] at ehk10
          simp only [go_sem, ir16, E_impl_UnpackCurve_l1, R_impl_UnpackCurve_l1, ir16_k0, ir16_o0, ir16_r0, fhk1, hk2, hk3, fhk4, fhk11, ghk12na, ghk12nbn, hk13, ehk10]


def ir47_v : List Nat := [0, 1, 2, 3, 4]
def ir47 : AFn := ⟨2, 5, .seq (.region false [
    ⟨.var 2, 2, none, .box (.v 0)⟩,
    ⟨.var 3, 3, none, .box (.v 1)⟩,
    ⟨.var 4, 4, none, .mov (.c (.bool false))⟩])
 (.seq (.test false [
    ⟨.push, 5, none, .fldAddr 0 (.v 2)⟩,
    ⟨.push, 6, none, .load false 1 (.s 0)⟩,
    ⟨.push, 7, none, .fldAddr 0 (.v 3)⟩,
    ⟨.push, 8, none, .load false 1 (.s 0)⟩,
    ⟨.push, 9, none, .bin false .neq (.s 2) (.s 0)⟩] (.s 0)
  (.seq (.region false [
      ⟨.var 4, 4, none, .mov (.c (.bool false))⟩])
   (.ret))
  (.skip))
 (.seq (.test false [
    ⟨.push, 10, none, .fldAddr 1 (.v 2)⟩,
    ⟨.push, 11, none, .load false 1 (.s 0)⟩,
    ⟨.push, 12, none, .fldAddr 1 (.v 3)⟩,
    ⟨.push, 13, none, .load false 1 (.s 0)⟩,
    ⟨.push, 14, none, .bin false .neq (.s 2) (.s 0)⟩] (.s 0)
  (.seq (.region false [
      ⟨.var 4, 4, none, .mov (.c (.bool false))⟩])
   (.ret))
  (.skip))
 (.seq (.region false [
    ⟨.var 4, 4, none, .mov (.c (.bool true))⟩])
 (.ret)))), [.t 4]⟩
noncomputable def t_laws_eqPoint : List (Nat × Ctr) := []
noncomputable def c_laws_eqPoint : Ctr := mkF t_laws_eqPoint ir47 [.bor, .bor]
theorem s_laws_eqPoint : Sound Try.prog 47 c_laws_eqPoint := mkF_sound _ rfl snd_nil (by kernel_rfl : chkFn Try.prog 47 ir47 ir47_v = true)
theorem M_laws_eqPoint : c_laws_eqPoint.modes = [.bor, .bor] := rfl
theorem Fl_laws_eqPoint : c_laws_eqPoint.flat = true := rfl
attribute [go_sem] M_laws_eqPoint Fl_laws_eqPoint
theorem Fs_laws_eqPoint {a : Point} {b : Point} {y_ : Bool} (h : laws_eqPoint a b = some y_) : c_laws_eqPoint.F [Point_av a, Point_av b] = ⟨true, .bool y_, [.any, .any]⟩ := by
  refine mkF_E rfl ?_
  dsimp only [laws_eqPoint] at h
  rcases it_some h with ⟨hk1, h⟩ | ⟨hk1, h⟩
  · try simp only [go_sem, n1, n2, n3, n4] at hk1
    all_goals
    obtain rfl := so_some h
    refine ⟨0, fun L hL => ?_⟩
    simp only [go_sem, ir47, hk1]
  · try simp only [go_sem, n1, n2, n3, n4] at hk1
    all_goals
    rcases it_some h with ⟨hk2, h⟩ | ⟨hk2, h⟩
    · try simp only [go_sem, n1, n2, n3, n4, hk1] at hk2
      all_goals
      obtain rfl := so_some h
      refine ⟨0, fun L hL => ?_⟩
      simp only [go_sem, ir47, hk1, hk2]
    · try simp only [go_sem, n1, n2, n3, n4, hk1] at hk2
      all_goals
      obtain rfl := so_some h
      refine ⟨0, fun L hL => ?_⟩
      simp only [go_sem, ir47, hk1, hk2]


def ir17_b0 : IR := .seq (.test false [
    ⟨.push, 11, none, .mov (.v 3)⟩,
    ⟨.push, 12, none, .mov (.v 0)⟩,
    ⟨.push, 13, none, .len false (.s 0)⟩,
    ⟨.push, 14, none, .bin false .lss (.s 2) (.s 0)⟩] (.s 0)
  (.skip)
  (.exit 0))
 (.seq (.block 1 (.anyo 10 [
     ⟨.slot 0, 17, none, .mov (.v 0)⟩,
     ⟨.slot 1, 18, none, .mov (.v 3)⟩,
     ⟨.slot 2, 19, none, .ixAddr 2 (.s 0) (.s 1)⟩,
     ⟨.slot 3, 20, none, .load true 2 (.s 2)⟩,
     ⟨.slot 4, 21, none, .mov (.v 1)⟩,
     ⟨.slot 5, 22, none, .mov (.v 3)⟩,
     ⟨.slot 6, 23, none, .ixAddr 2 (.s 4) (.s 5)⟩,
     ⟨.slot 7, 24, none, .load true 2 (.s 6)⟩,
     ⟨.slot 8, 25, none, .callp 47 [(.s 3), (.s 7)]⟩,
     ⟨.slot 9, 26, none, .un .not (.s 8)⟩] [] (.cond (.s 9)
   (.seq (.region false [
       ⟨.var 2, 4, none, .mov (.c (.bool false))⟩])
    (.ret))
   (.skip))))
 (.region false [
   ⟨.push, 15, none, .mov (.v 3)⟩,
   ⟨.push, 16, none, .bin false .add (.s 0) (.c (.int .i64 (1)))⟩,
   ⟨.var 3, 5, none, .mov (.s 0)⟩]))
def ir17_k0 : List Bool := [true, true, false, true]
def ir17_o0 : List Bool := [false, false, false, false]
def ir17_r0 : List Bool := [false, false, true, false]
def ir17_v : List Nat := [0, 1, 4, 5]
def ir17 : AFn := ⟨2, 4, .seq (.region false [
    ⟨.var 2, 4, none, .mov (.c (.bool false))⟩])
 (.seq (.test false [
    ⟨.push, 6, none, .mov (.v 0)⟩,
    ⟨.push, 7, none, .len false (.s 0)⟩,
    ⟨.push, 8, none, .mov (.v 1)⟩,
    ⟨.push, 9, none, .len false (.s 0)⟩,
    ⟨.push, 10, none, .bin false .neq (.s 2) (.s 0)⟩] (.s 0)
  (.seq (.region false [
      ⟨.var 2, 4, none, .mov (.c (.bool false))⟩])
   (.ret))
  (.skip))
 (.seq (.seq (.region false [
     ⟨.var 3, 5, none, .mov (.c (.int .i64 (0)))⟩])
  (.block 0 (.loop ir17_k0 ir17_o0 ir17_r0 ir17_b0)))
 (.seq (.region false [
    ⟨.var 2, 4, none, .mov (.c (.bool true))⟩])
 (.ret)))), [.t 2]⟩
noncomputable def t_laws_eqPointS : List (Nat × Ctr) := [(47, c_laws_eqPoint)]
theorem lk_laws_eqPointS_47 : look t_laws_eqPointS 47 = some c_laws_eqPoint := rfl
noncomputable def c_laws_eqPointS : Ctr := mkF t_laws_eqPointS ir17 [.bor, .bor]
theorem s_laws_eqPointS : Sound Try.prog 17 c_laws_eqPointS := mkF_sound _ rfl (snd_cons s_laws_eqPoint snd_nil) (by kernel_rfl : chkFn Try.prog 17 ir17 ir17_v = true)
theorem M_laws_eqPointS : c_laws_eqPointS.modes = [.bor, .bor] := rfl
theorem Fl_laws_eqPointS : c_laws_eqPointS.flat = true := rfl
attribute [go_sem] M_laws_eqPointS Fl_laws_eqPointS
attribute [go_sem] lk_laws_eqPointS_47
def E_laws_eqPointS_l1 (a : List Point) (b : List Point) : Int → St
  | i => ⟨[.sl 2 (List.map Point_av a), .sl 2 (List.map Point_av b), .any, .int .i64 i], [], [], true⟩
def R_laws_eqPointS_l1 (a : List Point) (b : List Point) : (Unit ⊕ Bool) → Res
  | .inl y => (.exit 0, ⟨[.any, .any, .any, .any], [], [], true⟩)
  | .inr y => (.ret, ⟨[.any, .any, .bool y, .any], [], [], true⟩)
theorem laws_eqPointS_l1_ex {a : List Point} {b : List Point} {sgm_ : Int} {rho_ : Unit ⊕ Bool} (h : whileE (laws_eqPointS_l1 a b) sgm_ = some rho_) : ∃ L0, ∀ L, L0 ≤ L → iter (exec (look t_laws_eqPointS) L ir17_b0) ir17_k0 ir17_o0 ir17_r0 L (E_laws_eqPointS_l1 a b sgm_) = R_laws_eqPointS_l1 a b rho_ := by
  refine loop_ex (E := E_laws_eqPointS_l1 a b) (R := R_laws_eqPointS_l1 a b) (fun y => by first | (intro c; cases c) | (rcases y with y | y <;> (intro c; cases c)) | (rcases y with y | y | y <;> (intro c; cases c))) ?_ h
  clear h
  intro i o_ h
  dsimp only [laws_eqPointS_l1] at h
  rcases it_some h with ⟨hk2, h⟩ | ⟨hk2, h⟩
  · try simp only [go_sem, n1, n2, n3, n4] at hk2
    all_goals
    obtain ⟨hk3, h⟩ := ck_some h
    have lhk3 := ix_lt hk3
    have xhk3 := getD_mapD Point_av a lhk3
    try simp only [go_sem] at lhk3
    try simp only [go_sem] at xhk3
    try simp only [go_sem, n1, n2, n3, n4, hk2] at hk3
    all_goals
    obtain ⟨hk4, h⟩ := ck_some h
    have lhk4 := ix_lt hk4
    have xhk4 := getD_mapD Point_av b lhk4
    try simp only [go_sem] at lhk4
    try simp only [go_sem] at xhk4
    try simp only [go_sem, n1, n2, n3, n4, hk2, hk3] at hk4
    all_goals
    obtain ⟨y_5, hk5, h⟩ := bd_some h
    have fhk5 := Fs_laws_eqPoint hk5
    try simp only [go_sem, hk2, hk3, hk4] at fhk5
    rcases it_some h with ⟨hk6, h⟩ | ⟨hk6, h⟩
    · try simp only [go_sem, n1, n2, n3, n4, hk2, hk3, hk4] at hk6
      all_goals
      obtain rfl := so_some h
      refine ⟨0, fun L hL => ?_⟩
      simp only [go_sem, ir17, E_laws_eqPointS_l1, R_laws_eqPointS_l1, ir17_b0, ir17_k0, ir17_o0, ir17_r0, hk2, hk3, lhk3, xhk3, hk4, lhk4, xhk4, fhk5, hk6]
    · try simp only [go_sem, n1, n2, n3, n4, hk2, hk3, hk4] at hk6
      all_goals
      obtain rfl := so_some h
      refine ⟨0, fun L hL => ?_⟩
      simp only [go_sem, ir17, E_laws_eqPointS_l1, R_laws_eqPointS_l1, ir17_b0, ir17_k0, ir17_o0, ir17_r0, hk2, hk3, lhk3, xhk3, hk4, lhk4, xhk4, fhk5, hk6]
  · try simp only [go_sem, n1, n2, n3, n4] at hk2
    all_goals
    obtain rfl := so_some h
    refine ⟨0, fun L hL => ?_⟩
    simp only [go_sem, ir17, E_laws_eqPointS_l1, R_laws_eqPointS_l1, ir17_b0, ir17_k0, ir17_o0, ir17_r0, hk2]

theorem Fs_laws_eqPointS {a : List Point} {b : List Point} {y_ : Bool} (h : laws_eqPointS a b = some y_) : c_laws_eqPointS.F [.sl 2 (List.map Point_av a), .sl 2 (List.map Point_av b)] = ⟨true, .bool y_, [.any, .any]⟩ := by
  refine mkF_E rfl ?_
  dsimp only [laws_eqPointS] at h
  rcases it_some h with ⟨hk1, h⟩ | ⟨hk1, h⟩
  · try simp only [go_sem, n1, n2, n3, n4] at hk1
    all_goals
    obtain rfl := so_some h
    refine ⟨0, fun L hL => ?_⟩
    simp only [go_sem, ir17, E_laws_eqPointS_l1, R_laws_eqPointS_l1, ir17_k0, ir17_o0, ir17_r0, hk1]
  · try simp only [go_sem, n1, n2, n3, n4] at hk1
    all_goals
    obtain ⟨y_7, hk7, h⟩ := bd_some h
    obtain ⟨Lhk7, ehk7⟩ := laws_eqPointS_l1_ex hk7
    rcases y_7 with y_7a | y_7b
    · dsimp only at h
      obtain rfl := so_some h
      refine ⟨Lhk7, fun L hL => ?_⟩
      have ehk7 := ehk7 L (by omega)
      try simp only [go_sem, E_laws_eqPointS_l1, R_laws_eqPointS_l1, ir17_k0, ir17_o0, ir17_r0, hk1] at ehk7
      simp only [go_sem, ir17, E_laws_eqPointS_l1, R_laws_eqPointS_l1, ir17_k0, ir17_o0, ir17_r0, hk1, ehk7]
    · dsimp only at h
      obtain rfl := so_some h
      refine ⟨Lhk7, fun L hL => ?_⟩
      have ehk7 := ehk7 L (by omega)
      try simp only [go_sem, E_laws_eqPointS_l1, R_laws_eqPointS_l1, ir17_k0, ir17_o0, ir17_r0, hk1] at ehk7
      simp only [go_sem, ir17, E_laws_eqPointS_l1, R_laws_eqPointS_l1, ir17_k0, ir17_o0, ir17_r0, hk1, ehk7]


def ir18_b0 : IR := .seq (.test false [
    ⟨.push, 11, none, .mov (.v 3)⟩,
    ⟨.push, 12, none, .mov (.v 0)⟩,
    ⟨.push, 13, none, .len false (.s 0)⟩,
    ⟨.push, 14, none, .bin false .lss (.s 2) (.s 0)⟩] (.s 0)
  (.skip)
  (.exit 0))
 (.seq (.block 1 (.anyo 9 [
     ⟨.slot 0, 17, none, .mov (.v 0)⟩,
     ⟨.slot 1, 18, none, .mov (.v 3)⟩,
     ⟨.slot 2, 19, none, .ixAddr 1 (.s 0) (.s 1)⟩,
     ⟨.slot 3, 20, none, .load false 1 (.s 2)⟩,
     ⟨.slot 4, 21, none, .mov (.v 1)⟩,
     ⟨.slot 5, 22, none, .mov (.v 3)⟩,
     ⟨.slot 6, 23, none, .ixAddr 1 (.s 4) (.s 5)⟩,
     ⟨.slot 7, 24, none, .load false 1 (.s 6)⟩,
     ⟨.slot 8, 25, none, .bin false .neq (.s 3) (.s 7)⟩] [] (.cond (.s 8)
   (.seq (.region false [
       ⟨.var 2, 4, none, .mov (.c (.bool false))⟩])
    (.ret))
   (.skip))))
 (.region false [
   ⟨.push, 15, none, .mov (.v 3)⟩,
   ⟨.push, 16, none, .bin false .add (.s 0) (.c (.int .i64 (1)))⟩,
   ⟨.var 3, 5, none, .mov (.s 0)⟩]))
def ir18_k0 : List Bool := [true, true, false, true]
def ir18_o0 : List Bool := [false, false, false, false]
def ir18_r0 : List Bool := [false, false, true, false]
def ir18_v : List Nat := [0, 1, 4, 5]
def ir18 : AFn := ⟨2, 4, .seq (.region false [
    ⟨.var 2, 4, none, .mov (.c (.bool false))⟩])
 (.seq (.test false [
    ⟨.push, 6, none, .mov (.v 0)⟩,
    ⟨.push, 7, none, .len false (.s 0)⟩,
    ⟨.push, 8, none, .mov (.v 1)⟩,
    ⟨.push, 9, none, .len false (.s 0)⟩,
    ⟨.push, 10, none, .bin false .neq (.s 2) (.s 0)⟩] (.s 0)
  (.seq (.region false [
      ⟨.var 2, 4, none, .mov (.c (.bool false))⟩])
   (.ret))
  (.skip))
 (.seq (.seq (.region false [
     ⟨.var 3, 5, none, .mov (.c (.int .i64 (0)))⟩])
  (.block 0 (.loop ir18_k0 ir18_o0 ir18_r0 ir18_b0)))
 (.seq (.region false [
    ⟨.var 2, 4, none, .mov (.c (.bool true))⟩])
 (.ret)))), [.t 2]⟩
noncomputable def t_laws_eqByteS : List (Nat × Ctr) := []
noncomputable def c_laws_eqByteS : Ctr := mkF t_laws_eqByteS ir18 [.bor, .bor]
theorem s_laws_eqByteS : Sound Try.prog 18 c_laws_eqByteS := mkF_sound _ rfl snd_nil (by kernel_rfl : chkFn Try.prog 18 ir18 ir18_v = true)
theorem M_laws_eqByteS : c_laws_eqByteS.modes = [.bor, .bor] := rfl
theorem Fl_laws_eqByteS : c_laws_eqByteS.flat = true := rfl
attribute [go_sem] M_laws_eqByteS Fl_laws_eqByteS
def E_laws_eqByteS_l1 (a : List UInt8) (b : List UInt8) : Int → St
  | i => ⟨[.sl 1 (List.map byteAV a), .sl 1 (List.map byteAV b), .any, .int .i64 i], [], [], true⟩
def R_laws_eqByteS_l1 (a : List UInt8) (b : List UInt8) : (Unit ⊕ Bool) → Res
  | .inl y => (.exit 0, ⟨[.any, .any, .any, .any], [], [], true⟩)
  | .inr y => (.ret, ⟨[.any, .any, .bool y, .any], [], [], true⟩)
theorem laws_eqByteS_l1_ex {a : List UInt8} {b : List UInt8} {sgm_ : Int} {rho_ : Unit ⊕ Bool} (h : whileE (laws_eqByteS_l1 a b) sgm_ = some rho_) : ∃ L0, ∀ L, L0 ≤ L → iter (exec (look t_laws_eqByteS) L ir18_b0) ir18_k0 ir18_o0 ir18_r0 L (E_laws_eqByteS_l1 a b sgm_) = R_laws_eqByteS_l1 a b rho_ := by
  refine loop_ex (E := E_laws_eqByteS_l1 a b) (R := R_laws_eqByteS_l1 a b) (fun y => by first | (intro c; cases c) | (rcases y with y | y <;> (intro c; cases c)) | (rcases y with y | y | y <;> (intro c; cases c))) ?_ h
  clear h
  intro i o_ h
  dsimp only [laws_eqByteS_l1] at h
  rcases it_some h with ⟨hk2, h⟩ | ⟨hk2, h⟩
  · try simp only [go_sem, n1, n2, n3, n4] at hk2
    all_goals
    obtain ⟨hk3, h⟩ := ck_some h
    have lhk3 := ix_lt hk3
    have xhk3 := getD_mapD byteAV a lhk3
    try simp only [go_sem] at lhk3
    try simp only [go_sem] at xhk3
    try simp only [go_sem, n1, n2, n3, n4, hk2] at hk3
    all_goals
    obtain ⟨hk4, h⟩ := ck_some h
    have lhk4 := ix_lt hk4
    have xhk4 := getD_mapD byteAV b lhk4
    try simp only [go_sem] at lhk4
    try simp only [go_sem] at xhk4
    try simp only [go_sem, n1, n2, n3, n4, hk2, hk3] at hk4
    all_goals
    rcases it_some h with ⟨hk5, h⟩ | ⟨hk5, h⟩
    · try simp only [go_sem, n1, n2, n3, n4, hk2, hk3, hk4] at hk5
      all_goals
      obtain rfl := so_some h
      refine ⟨0, fun L hL => ?_⟩
      simp only [go_sem, ir18, E_laws_eqByteS_l1, R_laws_eqByteS_l1, ir18_b0, ir18_k0, ir18_o0, ir18_r0, hk2, hk3, lhk3, xhk3, hk4, lhk4, xhk4, hk5]
    · try simp only [go_sem, n1, n2, n3, n4, hk2, hk3, hk4] at hk5
      all_goals
      obtain rfl := so_some h
      refine ⟨0, fun L hL => ?_⟩
      simp only [go_sem, ir18, E_laws_eqByteS_l1, R_laws_eqByteS_l1, ir18_b0, ir18_k0, ir18_o0, ir18_r0, hk2, hk3, lhk3, xhk3, hk4, lhk4, xhk4, hk5]
  · try simp only [go_sem, n1, n2, n3, n4] at hk2
    all_goals
    obtain rfl := so_some h
    refine ⟨0, fun L hL => ?_⟩
    simp only [go_sem, ir18, E_laws_eqByteS_l1, R_laws_eqByteS_l1, ir18_b0, ir18_k0, ir18_o0, ir18_r0, hk2]

theorem Fs_laws_eqByteS {a : List UInt8} {b : List UInt8} {y_ : Bool} (h : laws_eqByteS a b = some y_) : c_laws_eqByteS.F [.sl 1 (List.map byteAV a), .sl 1 (List.map byteAV b)] = ⟨true, .bool y_, [.any, .any]⟩ := by
  refine mkF_E rfl ?_
  dsimp only [laws_eqByteS] at h
  rcases it_some h with ⟨hk1, h⟩ | ⟨hk1, h⟩
  · try simp only [go_sem, n1, n2, n3, n4] at hk1
    all_goals
    obtain rfl := so_some h
    refine ⟨0, fun L hL => ?_⟩
    simp only [go_sem, ir18, E_laws_eqByteS_l1, R_laws_eqByteS_l1, ir18_k0, ir18_o0, ir18_r0, hk1]
  · try simp only [go_sem, n1, n2, n3, n4] at hk1
    all_goals
    obtain ⟨y_6, hk6, h⟩ := bd_some h
    obtain ⟨Lhk6, ehk6⟩ := laws_eqByteS_l1_ex hk6
    rcases y_6 with y_6a | y_6b
    · dsimp only at h
      obtain rfl := so_some h
      refine ⟨Lhk6, fun L hL => ?_⟩
      have ehk6 := ehk6 L (by omega)
      try simp only [go_sem, E_laws_eqByteS_l1, R_laws_eqByteS_l1, ir18_k0, ir18_o0, ir18_r0, hk1] at ehk6
      simp only [go_sem, ir18, E_laws_eqByteS_l1, R_laws_eqByteS_l1, ir18_k0, ir18_o0, ir18_r0, hk1, ehk6]
    · dsimp only at h
      obtain rfl := so_some h
      refine ⟨Lhk6, fun L hL => ?_⟩
      have ehk6 := ehk6 L (by omega)
      try simp only [go_sem, E_laws_eqByteS_l1, R_laws_eqByteS_l1, ir18_k0, ir18_o0, ir18_r0, hk1] at ehk6
      simp only [go_sem, ir18, E_laws_eqByteS_l1, R_laws_eqByteS_l1, ir18_k0, ir18_o0, ir18_r0, hk1, ehk6]


def ir19_b0 : IR := .seq (.test false [
    ⟨.push, 6, none, .mov (.v 3)⟩,
    ⟨.push, 7, none, .mov (.v 0)⟩,
    ⟨.push, 8, none, .len false (.s 0)⟩,
    ⟨.push, 9, none, .bin false .lss (.s 2) (.s 0)⟩] (.s 0)
  (.skip)
  (.exit 0))
 (.seq (.block 1 (.seq (.region false [
      ⟨.push, 12, none, .mov (.v 0)⟩,
      ⟨.push, 13, none, .mov (.v 3)⟩,
      ⟨.push, 14, none, .mov (.v 1)⟩,
      ⟨.push, 15, none, .conv .u8 (.s 0)⟩,
      ⟨.push, 16, none, .ixAddr 1 (.s 3) (.s 2)⟩,
      ⟨.no, 0, none, .store 1 (.s 0) (.s 1)⟩])
   (.region false [
     ⟨.push, 17, none, .mov (.v 1)⟩,
     ⟨.push, 18, none, .bin false .add (.s 0) (.c (.int .i64 (1)))⟩,
     ⟨.var 1, 1, none, .mov (.s 0)⟩])))
 (.region false [
   ⟨.push, 10, none, .mov (.v 3)⟩,
   ⟨.push, 11, none, .bin false .add (.s 0) (.c (.int .i64 (1)))⟩,
   ⟨.var 3, 5, none, .mov (.s 0)⟩]))
def ir19_k0 : List Bool := [true, true, false, true]
def ir19_o0 : List Bool := [true, true, false, false]
def ir19_r0 : List Bool := [true, false, true, false]
def ir19_v : List Nat := [0, 1, 4, 5]
def ir19 : AFn := ⟨2, 4, .seq (.region false [
    ⟨.var 2, 4, none, .mov (.c (.int .i64 (0)))⟩])
 (.seq (.seq (.region false [
     ⟨.var 3, 5, none, .mov (.c (.int .i64 (0)))⟩])
  (.block 0 (.loop ir19_k0 ir19_o0 ir19_r0 ir19_b0)))
 (.seq (.region false [
    ⟨.push, 19, none, .mov (.v 1)⟩,
    ⟨.var 2, 4, none, .mov (.s 0)⟩])
 (.ret))), [.t 2]⟩
noncomputable def t_laws_markByteS : List (Nat × Ctr) := []
noncomputable def c_laws_markByteS : Ctr := mkN t_laws_markByteS ir19 [.io, .bor]
theorem s_laws_markByteS : Sound Try.prog 19 c_laws_markByteS := mkN_sound _ snd_nil (by kernel_rfl : chkFn Try.prog 19 ir19 ir19_v = true)
theorem M_laws_markByteS : c_laws_markByteS.modes = [.io, .bor] := rfl
theorem Fl_laws_markByteS : c_laws_markByteS.flat = false := rfl
attribute [go_sem] M_laws_markByteS Fl_laws_markByteS
def E_laws_markByteS_l1  : ((List UInt8) × Int × Int) → St
  | (a, k, i) => ⟨[.own 31, .int .i64 k, .any, .int .i64 i], [], [(31, ⟨1, List.map byteAV a⟩)], true⟩
def R_laws_markByteS_l1  (y : (List UInt8) × Int) : Res := (.exit 0, ⟨[.own 31, .int .i64 y.2, .any, .any], [], [(31, ⟨1, List.map byteAV y.1⟩)], true⟩)
theorem laws_markByteS_l1_ex  {sgm_ : (List UInt8) × Int × Int} {rho_ : (List UInt8) × Int} (h : whileE (laws_markByteS_l1) sgm_ = some rho_) : ∃ L0, ∀ L, L0 ≤ L → iter (exec (look t_laws_markByteS) L ir19_b0) ir19_k0 ir19_o0 ir19_r0 L (E_laws_markByteS_l1 sgm_) = R_laws_markByteS_l1 rho_ := by
  refine loop_ex (E := E_laws_markByteS_l1) (R := R_laws_markByteS_l1) (fun y => by first | (intro c; cases c) | (rcases y with y | y <;> (intro c; cases c)) | (rcases y with y | y | y <;> (intro c; cases c))) ?_ h
  clear h
  rintro ⟨a, k, i⟩ o_ h
  dsimp only [laws_markByteS_l1] at h
  rcases it_some h with ⟨hk1, h⟩ | ⟨hk1, h⟩
  · try simp only [go_sem, n1, n2, n3, n4] at hk1
    all_goals
    obtain ⟨hk2, h⟩ := ck_some h
    have lhk2 := ix_lt hk2
    have xhk2 := getD_mapD byteAV a lhk2
    try simp only [go_sem] at lhk2
    try simp only [go_sem] at xhk2
    try simp only [go_sem, n1, n2, n3, n4, hk1] at hk2
    all_goals
    obtain rfl := so_some h
    refine ⟨0, fun L hL => ?_⟩
    simp only [go_sem, ir19, E_laws_markByteS_l1, R_laws_markByteS_l1, ir19_b0, ir19_k0, ir19_o0, ir19_r0, hk1, hk2, lhk2, xhk2]
  · try simp only [go_sem, n1, n2, n3, n4] at hk1
    all_goals
    obtain rfl := so_some h
    refine ⟨0, fun L hL => ?_⟩
    simp only [go_sem, ir19, E_laws_markByteS_l1, R_laws_markByteS_l1, ir19_b0, ir19_k0, ir19_o0, ir19_r0, hk1]

theorem Fs_laws_markByteS {a : List UInt8} {k : Int} {y_ : Int × (List UInt8)} (h : laws_markByteS a k = some y_) : c_laws_markByteS.F [.fresh 1 (List.map byteAV a), .int .i64 k] = ⟨true, .int .i64 y_.1, [.fresh 1 (List.map byteAV y_.2), .any]⟩ := by
  refine mkN_E ?_
  dsimp only [laws_markByteS] at h
  obtain ⟨y_3, hk3, h⟩ := bd_some h
  obtain ⟨Lhk3, ehk3⟩ := laws_markByteS_l1_ex hk3
  obtain ⟨hk4, h⟩ := ck_some h
  try simp only [go_sem, n1, n2, n3, n4] at hk4
  all_goals
  obtain rfl := so_some h
  refine ⟨Lhk3, fun L hL => ?_⟩
  have ehk3 := ehk3 L (by omega)
  try simp only [go_sem, E_laws_markByteS_l1, R_laws_markByteS_l1, ir19_k0, ir19_o0, ir19_r0, hk4] at ehk3
  simp only [go_sem, ir19, E_laws_markByteS_l1, R_laws_markByteS_l1, ir19_k0, ir19_o0, ir19_r0, hk4, ehk3]


def ir20_b0 : IR := .seq (.test false [
    ⟨.push, 6, none, .mov (.v 3)⟩,
    ⟨.push, 7, none, .mov (.v 0)⟩,
    ⟨.push, 8, none, .len false (.s 0)⟩,
    ⟨.push, 9, none, .bin false .lss (.s 2) (.s 0)⟩] (.s 0)
  (.skip)
  (.exit 0))
 (.seq (.block 1 (.seq (.region false [
      ⟨.push, 12, none, .mov (.v 0)⟩,
      ⟨.push, 13, none, .mov (.v 3)⟩,
      ⟨.push, 14, none, .mov (.v 1)⟩,
      ⟨.push, 15, none, .ixAddr 2 (.s 2) (.s 1)⟩,
      ⟨.push, 16, none, .fldAddr 0 (.s 0)⟩,
      ⟨.no, 0, none, .store 1 (.s 0) (.s 2)⟩])
   (.seq (.region false [
      ⟨.push, 17, none, .mov (.v 1)⟩,
      ⟨.push, 18, none, .bin false .add (.s 0) (.c (.int .i64 (1)))⟩,
      ⟨.var 1, 1, none, .mov (.s 0)⟩])
   (.seq (.region false [
      ⟨.push, 19, none, .mov (.v 0)⟩,
      ⟨.push, 20, none, .mov (.v 3)⟩,
      ⟨.push, 21, none, .mov (.v 1)⟩,
      ⟨.push, 22, none, .ixAddr 2 (.s 2) (.s 1)⟩,
      ⟨.push, 23, none, .fldAddr 1 (.s 0)⟩,
      ⟨.no, 0, none, .store 1 (.s 0) (.s 2)⟩])
   (.region false [
     ⟨.push, 24, none, .mov (.v 1)⟩,
     ⟨.push, 25, none, .bin false .add (.s 0) (.c (.int .i64 (1)))⟩,
     ⟨.var 1, 1, none, .mov (.s 0)⟩])))))
 (.region false [
   ⟨.push, 10, none, .mov (.v 3)⟩,
   ⟨.push, 11, none, .bin false .add (.s 0) (.c (.int .i64 (1)))⟩,
   ⟨.var 3, 5, none, .mov (.s 0)⟩]))
def ir20_k0 : List Bool := [true, true, false, true]
def ir20_o0 : List Bool := [true, true, false, false]
def ir20_r0 : List Bool := [true, false, true, false]
def ir20_v : List Nat := [0, 1, 4, 5]
def ir20 : AFn := ⟨2, 4, .seq (.region false [
    ⟨.var 2, 4, none, .mov (.c (.int .i64 (0)))⟩])
 (.seq (.seq (.region false [
     ⟨.var 3, 5, none, .mov (.c (.int .i64 (0)))⟩])
  (.block 0 (.loop ir20_k0 ir20_o0 ir20_r0 ir20_b0)))
 (.seq (.region false [
    ⟨.push, 26, none, .mov (.v 1)⟩,
    ⟨.var 2, 4, none, .mov (.s 0)⟩])
 (.ret))), [.t 2]⟩
noncomputable def t_laws_markPointS : List (Nat × Ctr) := []
noncomputable def c_laws_markPointS : Ctr := mkN t_laws_markPointS ir20 [.io, .bor]
theorem s_laws_markPointS : Sound Try.prog 20 c_laws_markPointS := mkN_sound _ snd_nil (by kernel_rfl : chkFn Try.prog 20 ir20 ir20_v = true)
theorem M_laws_markPointS : c_laws_markPointS.modes = [.io, .bor] := rfl
theorem Fl_laws_markPointS : c_laws_markPointS.flat = false := rfl
attribute [go_sem] M_laws_markPointS Fl_laws_markPointS
def E_laws_markPointS_l1  : ((List Point) × Int × Int) → St
  | (a, k, i) => ⟨[.own 31, .int .i64 k, .any, .int .i64 i], [], [(31, ⟨2, List.map Point_av a⟩)], true⟩
def R_laws_markPointS_l1  (y : (List Point) × Int) : Res := (.exit 0, ⟨[.own 31, .int .i64 y.2, .any, .any], [], [(31, ⟨2, List.map Point_av y.1⟩)], true⟩)
theorem laws_markPointS_l1_ex  {sgm_ : (List Point) × Int × Int} {rho_ : (List Point) × Int} (h : whileE (laws_markPointS_l1) sgm_ = some rho_) : ∃ L0, ∀ L, L0 ≤ L → iter (exec (look t_laws_markPointS) L ir20_b0) ir20_k0 ir20_o0 ir20_r0 L (E_laws_markPointS_l1 sgm_) = R_laws_markPointS_l1 rho_ := by
  refine loop_ex (E := E_laws_markPointS_l1) (R := R_laws_markPointS_l1) (fun y => by first | (intro c; cases c) | (rcases y with y | y <;> (intro c; cases c)) | (rcases y with y | y | y <;> (intro c; cases c))) ?_ h
  clear h
  rintro ⟨a, k, i⟩ o_ h
  dsimp only [laws_markPointS_l1] at h
  rcases it_some h with ⟨hk1, h⟩ | ⟨hk1, h⟩
  · try simp only [go_sem, n1, n2, n3, n4] at hk1
    all_goals
    obtain ⟨hk2, h⟩ := ck_some h
    have lhk2 := ix_lt hk2
    have xhk2 := getD_mapD Point_av a lhk2
    try simp only [go_sem] at lhk2
    try simp only [go_sem] at xhk2
    try simp only [go_sem, n1, n2, n3, n4, hk1] at hk2
    all_goals
    obtain rfl := so_some h
    refine ⟨0, fun L hL => ?_⟩
    simp only [go_sem, ir20, E_laws_markPointS_l1, R_laws_markPointS_l1, ir20_b0, ir20_k0, ir20_o0, ir20_r0, hk1, hk2, lhk2, xhk2]
  · try simp only [go_sem, n1, n2, n3, n4] at hk1
    all_goals
    obtain rfl := so_some h
    refine ⟨0, fun L hL => ?_⟩
    simp only [go_sem, ir20, E_laws_markPointS_l1, R_laws_markPointS_l1, ir20_b0, ir20_k0, ir20_o0, ir20_r0, hk1]

theorem Fs_laws_markPointS {a : List Point} {k : Int} {y_ : Int × (List Point)} (h : laws_markPointS a k = some y_) : c_laws_markPointS.F [.fresh 2 (List.map Point_av a), .int .i64 k] = ⟨true, .int .i64 y_.1, [.fresh 2 (List.map Point_av y_.2), .any]⟩ := by
  refine mkN_E ?_
  dsimp only [laws_markPointS] at h
  obtain ⟨y_3, hk3, h⟩ := bd_some h
  obtain ⟨Lhk3, ehk3⟩ := laws_markPointS_l1_ex hk3
  obtain ⟨hk4, h⟩ := ck_some h
  try simp only [go_sem, n1, n2, n3, n4] at hk4
  all_goals
  obtain rfl := so_some h
  refine ⟨Lhk3, fun L hL => ?_⟩
  have ehk3 := ehk3 L (by omega)
  try simp only [go_sem, E_laws_markPointS_l1, R_laws_markPointS_l1, ir20_k0, ir20_o0, ir20_r0, hk4] at ehk3
  simp only [go_sem, ir20, E_laws_markPointS_l1, R_laws_markPointS_l1, ir20_k0, ir20_o0, ir20_r0, hk4, ehk3]


def ir21_b0 : IR := .seq (.test false [
    ⟨.push, 6, none, .mov (.v 3)⟩,
    ⟨.push, 7, none, .mov (.v 0)⟩,
    ⟨.push, 8, none, .len false (.s 0)⟩,
    ⟨.push, 9, none, .bin false .lss (.s 2) (.s 0)⟩] (.s 0)
  (.skip)
  (.exit 0))
 (.seq (.block 1 (.seq (.test false [
      ⟨.push, 12, none, .mov (.v 0)⟩,
      ⟨.push, 13, none, .mov (.v 3)⟩,
      ⟨.push, 14, none, .ixAddr 2 (.s 1) (.s 0)⟩,
      ⟨.push, 15, none, .fldAddr 0 (.s 0)⟩,
      ⟨.push, 16, none, .load false 1 (.s 0)⟩,
      ⟨.push, 17, none, .mov (.v 1)⟩,
      ⟨.push, 18, none, .bin false .neq (.s 1) (.s 0)⟩] (.s 0)
    (.seq (.region false [
        ⟨.var 2, 4, none, .mov (.c (.int .i64 (-1)))⟩])
     (.ret))
    (.skip))
   (.seq (.region false [
      ⟨.push, 19, none, .mov (.v 1)⟩,
      ⟨.push, 20, none, .bin false .add (.s 0) (.c (.int .i64 (1)))⟩,
      ⟨.var 1, 1, none, .mov (.s 0)⟩])
   (.seq (.test false [
      ⟨.push, 21, none, .mov (.v 0)⟩,
      ⟨.push, 22, none, .mov (.v 3)⟩,
      ⟨.push, 23, none, .ixAddr 2 (.s 1) (.s 0)⟩,
      ⟨.push, 24, none, .fldAddr 1 (.s 0)⟩,
      ⟨.push, 25, none, .load false 1 (.s 0)⟩,
      ⟨.push, 26, none, .mov (.v 1)⟩,
      ⟨.push, 27, none, .bin false .neq (.s 1) (.s 0)⟩] (.s 0)
    (.seq (.region false [
        ⟨.var 2, 4, none, .mov (.c (.int .i64 (-1)))⟩])
     (.ret))
    (.skip))
   (.region false [
     ⟨.push, 28, none, .mov (.v 1)⟩,
     ⟨.push, 29, none, .bin false .add (.s 0) (.c (.int .i64 (1)))⟩,
     ⟨.var 1, 1, none, .mov (.s 0)⟩])))))
 (.region false [
   ⟨.push, 10, none, .mov (.v 3)⟩,
   ⟨.push, 11, none, .bin false .add (.s 0) (.c (.int .i64 (1)))⟩,
   ⟨.var 3, 5, none, .mov (.s 0)⟩]))
def ir21_k0 : List Bool := [true, true, false, true]
def ir21_o0 : List Bool := [false, true, false, false]
def ir21_r0 : List Bool := [false, false, true, false]
def ir21_v : List Nat := [0, 1, 4, 5]
def ir21 : AFn := ⟨2, 4, .seq (.region false [
    ⟨.var 2, 4, none, .mov (.c (.int .i64 (0)))⟩])
 (.seq (.seq (.region false [
     ⟨.var 3, 5, none, .mov (.c (.int .i64 (0)))⟩])
  (.block 0 (.loop ir21_k0 ir21_o0 ir21_r0 ir21_b0)))
 (.seq (.region false [
    ⟨.push, 30, none, .mov (.v 1)⟩,
    ⟨.var 2, 4, none, .mov (.s 0)⟩])
 (.ret))), [.t 2]⟩
noncomputable def t_laws_heldPointS : List (Nat × Ctr) := []
noncomputable def c_laws_heldPointS : Ctr := mkF t_laws_heldPointS ir21 [.bor, .bor]
theorem s_laws_heldPointS : Sound Try.prog 21 c_laws_heldPointS := mkF_sound _ rfl snd_nil (by kernel_rfl : chkFn Try.prog 21 ir21 ir21_v = true)
theorem M_laws_heldPointS : c_laws_heldPointS.modes = [.bor, .bor] := rfl
theorem Fl_laws_heldPointS : c_laws_heldPointS.flat = true := rfl
attribute [go_sem] M_laws_heldPointS Fl_laws_heldPointS
def E_laws_heldPointS_l1 (a : List Point) : (Int × Int) → St
  | (k, i) => ⟨[.sl 2 (List.map Point_av a), .int .i64 k, .any, .int .i64 i], [], [], true⟩
def R_laws_heldPointS_l1 (a : List Point) : (Int ⊕ Int) → Res
  | .inl y => (.exit 0, ⟨[.any, .int .i64 y, .any, .any], [], [], true⟩)
  | .inr y => (.ret, ⟨[.any, .any, .int .i64 y, .any], [], [], true⟩)
theorem laws_heldPointS_l1_ex {a : List Point} {sgm_ : Int × Int} {rho_ : Int ⊕ Int} (h : whileE (laws_heldPointS_l1 a) sgm_ = some rho_) : ∃ L0, ∀ L, L0 ≤ L → iter (exec (look t_laws_heldPointS) L ir21_b0) ir21_k0 ir21_o0 ir21_r0 L (E_laws_heldPointS_l1 a sgm_) = R_laws_heldPointS_l1 a rho_ := by
  refine loop_ex (E := E_laws_heldPointS_l1 a) (R := R_laws_heldPointS_l1 a) (fun y => by first | (intro c; cases c) | (rcases y with y | y <;> (intro c; cases c)) | (rcases y with y | y | y <;> (intro c; cases c))) ?_ h
  clear h
  rintro ⟨k, i⟩ o_ h
  dsimp only [laws_heldPointS_l1] at h
  rcases it_some h with ⟨hk1, h⟩ | ⟨hk1, h⟩
  · try simp only [go_sem, n1, n2, n3, n4] at hk1
    all_goals
    obtain ⟨hk2, h⟩ := ck_some h
    have lhk2 := ix_lt hk2
    have xhk2 := getD_mapD Point_av a lhk2
    try simp only [go_sem] at lhk2
    try simp only [go_sem] at xhk2
    try simp only [go_sem, n1, n2, n3, n4, hk1] at hk2
    all_goals
    rcases it_some h with ⟨hk3, h⟩ | ⟨hk3, h⟩
    · try simp only [go_sem, n1, n2, n3, n4, hk1, hk2] at hk3
      all_goals
      obtain rfl := so_some h
      refine ⟨0, fun L hL => ?_⟩
      simp only [go_sem, ir21, E_laws_heldPointS_l1, R_laws_heldPointS_l1, ir21_b0, ir21_k0, ir21_o0, ir21_r0, hk1, hk2, lhk2, xhk2, hk3]
    · try simp only [go_sem, n1, n2, n3, n4, hk1, hk2] at hk3
      all_goals
      rcases it_some h with ⟨hk4, h⟩ | ⟨hk4, h⟩
      · try simp only [go_sem, n1, n2, n3, n4, hk1, hk2, hk3] at hk4
        all_goals
        obtain rfl := so_some h
        refine ⟨0, fun L hL => ?_⟩
        simp only [go_sem, ir21, E_laws_heldPointS_l1, R_laws_heldPointS_l1, ir21_b0, ir21_k0, ir21_o0, ir21_r0, hk1, hk2, lhk2, xhk2, hk3, hk4]
      · try simp only [go_sem, n1, n2, n3, n4, hk1, hk2, hk3] at hk4
        all_goals
        obtain rfl := so_some h
        refine ⟨0, fun L hL => ?_⟩
        simp only [go_sem, ir21, E_laws_heldPointS_l1, R_laws_heldPointS_l1, ir21_b0, ir21_k0, ir21_o0, ir21_r0, hk1, hk2, lhk2, xhk2, hk3, hk4]
  · try simp only [go_sem, n1, n2, n3, n4] at hk1
    all_goals
    obtain rfl := so_some h
    refine ⟨0, fun L hL => ?_⟩
    simp only [go_sem, ir21, E_laws_heldPointS_l1, R_laws_heldPointS_l1, ir21_b0, ir21_k0, ir21_o0, ir21_r0, hk1]

theorem Fs_laws_heldPointS {a : List Point} {k : Int} {y_ : Int} (h : laws_heldPointS a k = some y_) : c_laws_heldPointS.F [.sl 2 (List.map Point_av a), .int .i64 k] = ⟨true, .int .i64 y_, [.any, .any]⟩ := by
  refine mkF_E rfl ?_
  dsimp only [laws_heldPointS] at h
  obtain ⟨y_5, hk5, h⟩ := bd_some h
  obtain ⟨Lhk5, ehk5⟩ := laws_heldPointS_l1_ex hk5
  rcases y_5 with y_5a | y_5b
  · dsimp only at h
    obtain rfl := so_some h
    refine ⟨Lhk5, fun L hL => ?_⟩
    have ehk5 := ehk5 L (by omega)
    try simp only [go_sem, E_laws_heldPointS_l1, R_laws_heldPointS_l1, ir21_k0, ir21_o0, ir21_r0] at ehk5
    simp only [go_sem, ir21, E_laws_heldPointS_l1, R_laws_heldPointS_l1, ir21_k0, ir21_o0, ir21_r0, ehk5]
  · dsimp only at h
    obtain rfl := so_some h
    refine ⟨Lhk5, fun L hL => ?_⟩
    have ehk5 := ehk5 L (by omega)
    try simp only [go_sem, E_laws_heldPointS_l1, R_laws_heldPointS_l1, ir21_k0, ir21_o0, ir21_r0] at ehk5
    simp only [go_sem, ir21, E_laws_heldPointS_l1, R_laws_heldPointS_l1, ir21_k0, ir21_o0, ir21_r0, ehk5]


def ir4_v : List Nat := [0, 2, 3, 4, 5, 6, 7, 8, 9, 10, 11, 12]
def ir4 : AFn := ⟨1, 12, .seq (.region false [
    ⟨.var 1, 2, none, .mov (.c (.bool false))⟩])
 (.seq (.test false [
    ⟨.push, 13, none, .mov (.v 0)⟩,
    ⟨.push, 14, none, .len false (.s 0)⟩,
    ⟨.push, 15, none, .bin false .gtr (.s 0) (.c (.int .i64 (1048576)))⟩] (.s 0)
  (.seq (.region false [
      ⟨.var 1, 2, none, .mov (.c (.bool true))⟩])
   (.ret))
  (.skip))
 (.seq (.region false [
    ⟨.push, 17, none, .mov (.v 0)⟩,
    ⟨.push, 18, none, .call 15 [(.s 0)]⟩,
    ⟨.push, 19, none, .call 14 [(.s 0)]⟩,
    ⟨.push, 16, none, .mov (.s 0)⟩,
    ⟨.push, 20, none, .ext (.s 0) 0⟩,
    ⟨.push, 21, none, .ext (.s 1) 1⟩,
    ⟨.var 2, 3, none, .mov (.s 1)⟩,
    ⟨.var 3, 4, none, .mov (.s 0)⟩])
 (.seq (.region false [
    ⟨.push, 22, none, .mov (.v 0)⟩,
    ⟨.push, 23, none, .call 15 [(.s 0)]⟩,
    ⟨.var 4, 5, none, .mov (.s 0)⟩])
 (.seq (.region false [
    ⟨.push, 25, none, .mov (.v 4)⟩,
    ⟨.push, 26, none, .call 16 [(.s 0)]⟩,
    ⟨.push, 24, none, .mov (.s 0)⟩,
    ⟨.push, 27, none, .ext (.s 0) 0⟩,
    ⟨.push, 28, none, .ext (.s 1) 1⟩,
    ⟨.var 5, 6, none, .mov (.s 1)⟩,
    ⟨.var 6, 7, none, .mov (.s 0)⟩])
 (.seq (.test false [
    ⟨.push, 29, none, .mov (.v 5)⟩,
    ⟨.push, 30, none, .mov (.v 2)⟩,
    ⟨.push, 31, none, .call 17 [(.s 1), (.s 0)]⟩,
    ⟨.push, 32, none, .un .not (.s 0)⟩,
    ⟨.push, 33, none, .mov (.s 0)⟩,
    ⟨.push, 34, (some ((.s 0), false)), .mov (.v 6)⟩,
    ⟨.push, 35, (some ((.s 1), false)), .mov (.v 3)⟩,
    ⟨.push, 36, (some ((.s 2), false)), .bin false .neq (.s 1) (.s 0)⟩,
    ⟨.push, 37, none, .pick (.s 3) (.c (.bool true)) (.s 0)⟩] (.s 0)
  (.seq (.region false [
      ⟨.var 1, 2, none, .mov (.c (.bool false))⟩])
   (.ret))
  (.skip))
 (.seq (.test false [
    ⟨.push, 38, none, .mov (.v 4)⟩,
    ⟨.push, 39, none, .mov (.v 0)⟩,
    ⟨.push, 40, none, .call 15 [(.s 0)]⟩,
    ⟨.push, 41, none, .call 18 [(.s 2), (.s 0)]⟩,
    ⟨.push, 42, none, .un .not (.s 0)⟩] (.s 0)
  (.seq (.region false [
      ⟨.var 1, 2, none, .mov (.c (.bool false))⟩])
   (.ret))
  (.skip))
 (.seq (.region false [
    ⟨.var 7, 8, none, .mov (.c (.int .i64 (1)))⟩])
 (.seq (.region false [
    ⟨.push, 43, none, .mov (.v 4)⟩,
    ⟨.push, 44, none, .mov (.v 7)⟩,
    ⟨.push, 45, none, .call 19 [(.s 1), (.s 0)]⟩,
    ⟨.var 7, 8, none, .mov (.s 0)⟩])
 (.seq (.test false [
    ⟨.push, 46, none, .mov (.v 7)⟩,
    ⟨.push, 47, none, .bin false .lss (.s 0) (.c (.int .i64 (0)))⟩,
    ⟨.push, 48, none, .mov (.s 0)⟩,
    ⟨.push, 49, (some ((.s 0), false)), .mov (.v 5)⟩,
    ⟨.push, 50, (some ((.s 1), false)), .mov (.v 2)⟩,
    ⟨.push, 51, (some ((.s 2), false)), .call 17 [(.s 1), (.s 0)]⟩,
    ⟨.push, 52, (some ((.s 3), false)), .un .not (.s 0)⟩,
    ⟨.push, 53, none, .pick (.s 4) (.c (.bool true)) (.s 0)⟩,
    ⟨.push, 54, none, .mov (.s 0)⟩,
    ⟨.push, 55, (some ((.s 0), false)), .mov (.v 6)⟩,
    ⟨.push, 56, (some ((.s 1), false)), .mov (.v 3)⟩,
    ⟨.push, 57, (some ((.s 2), false)), .bin false .neq (.s 1) (.s 0)⟩,
    ⟨.push, 58, none, .pick (.s 3) (.c (.bool true)) (.s 0)⟩] (.s 0)
  (.seq (.region false [
      ⟨.var 1, 2, none, .mov (.c (.bool false))⟩])
   (.ret))
  (.skip))
 (.seq (.region false [
    ⟨.var 8, 9, none, .mov (.c (.int .i64 (1)))⟩])
 (.seq (.region false [
    ⟨.push, 59, none, .mov (.v 5)⟩,
    ⟨.push, 60, none, .mov (.v 8)⟩,
    ⟨.push, 61, none, .call 20 [(.s 1), (.s 0)]⟩,
    ⟨.var 8, 9, none, .mov (.s 0)⟩])
 (.seq (.region false [
    ⟨.var 9, 10, none, .mov (.c (.int .i64 (1)))⟩])
 (.seq (.region false [
    ⟨.push, 62, none, .mov (.v 5)⟩,
    ⟨.push, 63, none, .mov (.v 9)⟩,
    ⟨.push, 64, none, .call 21 [(.s 1), (.s 0)]⟩,
    ⟨.var 9, 10, none, .mov (.s 0)⟩])
 (.seq (.test false [
    ⟨.push, 65, none, .mov (.v 9)⟩,
    ⟨.push, 66, none, .bin false .lss (.s 0) (.c (.int .i64 (0)))⟩] (.s 0)
  (.seq (.region false [
      ⟨.var 1, 2, none, .mov (.c (.bool false))⟩])
   (.ret))
  (.skip))
 (.seq (.test false [
    ⟨.push, 67, none, .mov (.v 9)⟩,
    ⟨.push, 68, none, .mov (.v 8)⟩,
    ⟨.push, 69, none, .bin false .neq (.s 1) (.s 0)⟩] (.s 0)
  (.seq (.region false [
      ⟨.var 1, 2, none, .mov (.c (.bool false))⟩])
   (.ret))
  (.skip))
 (.seq (.region false [
    ⟨.push, 71, none, .mov (.v 0)⟩,
    ⟨.push, 72, none, .call 15 [(.s 0)]⟩,
    ⟨.push, 73, none, .call 16 [(.s 0)]⟩,
    ⟨.push, 70, none, .mov (.s 0)⟩,
    ⟨.push, 74, none, .ext (.s 0) 0⟩,
    ⟨.push, 75, none, .ext (.s 1) 1⟩,
    ⟨.var 10, 11, none, .mov (.s 1)⟩,
    ⟨.var 11, 12, none, .mov (.s 0)⟩])
 (.seq (.test false [
    ⟨.push, 76, none, .mov (.v 10)⟩,
    ⟨.push, 77, none, .mov (.v 2)⟩,
    ⟨.push, 78, none, .call 17 [(.s 1), (.s 0)]⟩,
    ⟨.push, 79, none, .un .not (.s 0)⟩,
    ⟨.push, 80, none, .mov (.s 0)⟩,
    ⟨.push, 81, (some ((.s 0), false)), .mov (.v 11)⟩,
    ⟨.push, 82, (some ((.s 1), false)), .mov (.v 3)⟩,
    ⟨.push, 83, (some ((.s 2), false)), .bin false .neq (.s 1) (.s 0)⟩,
    ⟨.push, 84, none, .pick (.s 3) (.c (.bool true)) (.s 0)⟩] (.s 0)
  (.seq (.region false [
      ⟨.var 1, 2, none, .mov (.c (.bool false))⟩])
   (.ret))
  (.skip))
 (.seq (.region false [
    ⟨.var 9, 10, none, .mov (.c (.int .i64 (1)))⟩])
 (.seq (.region false [
    ⟨.push, 85, none, .mov (.v 5)⟩,
    ⟨.push, 86, none, .mov (.v 9)⟩,
    ⟨.push, 87, none, .call 21 [(.s 1), (.s 0)]⟩,
    ⟨.var 9, 10, none, .mov (.s 0)⟩])
 (.seq (.test false [
    ⟨.push, 88, none, .mov (.v 9)⟩,
    ⟨.push, 89, none, .bin false .lss (.s 0) (.c (.int .i64 (0)))⟩] (.s 0)
  (.seq (.region false [
      ⟨.var 1, 2, none, .mov (.c (.bool false))⟩])
   (.ret))
  (.skip))
 (.seq (.test false [
    ⟨.push, 90, none, .mov (.v 9)⟩,
    ⟨.push, 91, none, .mov (.v 8)⟩,
    ⟨.push, 92, none, .bin false .neq (.s 1) (.s 0)⟩] (.s 0)
  (.seq (.region false [
      ⟨.var 1, 2, none, .mov (.c (.bool false))⟩])
   (.ret))
  (.skip))
 (.seq (.region false [
    ⟨.var 1, 2, none, .mov (.c (.bool true))⟩])
 (.ret))))))))))))))))))))))), [.t 1]⟩
noncomputable def t_laws_FnExactUnpackCurve : List (Nat × Ctr) := [(15, c_laws_toByteS), (14, c_spec_UnpackCurve), (16, c_impl_UnpackCurve), (17, c_laws_eqPointS), (18, c_laws_eqByteS), (19, c_laws_markByteS), (20, c_laws_markPointS), (21, c_laws_heldPointS)]
theorem lk_laws_FnExactUnpackCurve_15 : look t_laws_FnExactUnpackCurve 15 = some c_laws_toByteS := rfl
theorem lk_laws_FnExactUnpackCurve_14 : look t_laws_FnExactUnpackCurve 14 = some c_spec_UnpackCurve := rfl
theorem lk_laws_FnExactUnpackCurve_16 : look t_laws_FnExactUnpackCurve 16 = some c_impl_UnpackCurve := rfl
theorem lk_laws_FnExactUnpackCurve_17 : look t_laws_FnExactUnpackCurve 17 = some c_laws_eqPointS := rfl
theorem lk_laws_FnExactUnpackCurve_18 : look t_laws_FnExactUnpackCurve 18 = some c_laws_eqByteS := rfl
theorem lk_laws_FnExactUnpackCurve_19 : look t_laws_FnExactUnpackCurve 19 = some c_laws_markByteS := rfl
theorem lk_laws_FnExactUnpackCurve_20 : look t_laws_FnExactUnpackCurve 20 = some c_laws_markPointS := rfl
theorem lk_laws_FnExactUnpackCurve_21 : look t_laws_FnExactUnpackCurve 21 = some c_laws_heldPointS := rfl
noncomputable def c_laws_FnExactUnpackCurve : Ctr := mkF t_laws_FnExactUnpackCurve ir4 [.bor]
theorem s_laws_FnExactUnpackCurve : Sound Try.prog 4 c_laws_FnExactUnpackCurve := mkF_sound _ rfl (snd_cons s_laws_toByteS (snd_cons s_spec_UnpackCurve (snd_cons s_impl_UnpackCurve (snd_cons s_laws_eqPointS (snd_cons s_laws_eqByteS (snd_cons s_laws_markByteS (snd_cons s_laws_markPointS (snd_cons s_laws_heldPointS snd_nil)))))))) (by kernel_rfl : chkFn Try.prog 4 ir4 ir4_v = true)
theorem M_laws_FnExactUnpackCurve : c_laws_FnExactUnpackCurve.modes = [.bor] := rfl
theorem Fl_laws_FnExactUnpackCurve : c_laws_FnExactUnpackCurve.flat = true := rfl
attribute [go_sem] M_laws_FnExactUnpackCurve Fl_laws_FnExactUnpackCurve
attribute [go_sem] lk_laws_FnExactUnpackCurve_15 lk_laws_FnExactUnpackCurve_14 lk_laws_FnExactUnpackCurve_16 lk_laws_FnExactUnpackCurve_17 lk_laws_FnExactUnpackCurve_18 lk_laws_FnExactUnpackCurve_19 lk_laws_FnExactUnpackCurve_20 lk_laws_FnExactUnpackCurve_21
theorem Fs_laws_FnExactUnpackCurve {aB : List UInt8} {y_ : Bool} (h : laws_FnExactUnpackCurve aB = some y_) : c_laws_FnExactUnpackCurve.F [.sl 1 (List.map byteAV aB)] = ⟨true, .bool y_, [.any]⟩ := by
  refine mkF_E rfl ?_
  dsimp only [laws_FnExactUnpackCurve] at h
  rcases it_some h with ⟨hk1, h⟩ | ⟨hk1, h⟩
  · try simp only [go_sem, n1, n2, n3, n4] at hk1
    all_goals
    obtain rfl := so_some h
    refine ⟨0, fun L hL => ?_⟩
    simp only [go_sem, ir4, hk1]
  · try simp only [go_sem, n1, n2, n3, n4] at hk1
    all_goals
    obtain ⟨y_2, hk2, h⟩ := bd_some h
    have fhk2 := Fs_laws_toByteS hk2
    try simp only [go_sem, hk1] at fhk2
    obtain ⟨y_3, hk3, h⟩ := bd_some h
    have fhk3 := Fs_spec_UnpackCurve hk3
    try simp only [go_sem, hk1] at fhk3
    obtain ⟨y_4, hk4, h⟩ := bd_some h
    have fhk4 := Fs_impl_UnpackCurve hk4
    try simp only [go_sem, hk1] at fhk4
    obtain ⟨y_5, hk5, h⟩ := bd_some h
    have fhk5 := Fs_laws_eqPointS hk5
    try simp only [go_sem, hk1] at fhk5
    rcases it_some h with ⟨hk6, h⟩ | ⟨hk6, h⟩
    · try simp only [go_sem, n1, n2, n3, n4, hk1] at hk6
      all_goals
      obtain rfl := so_some h
      refine ⟨0, fun L hL => ?_⟩
      simp only [go_sem, ir4, hk1, fhk2, fhk3, fhk4, fhk5, hk6]
    · try simp only [go_sem, n1, n2, n3, n4, hk1] at hk6
      all_goals
      obtain ⟨y_7, hk7, h⟩ := bd_some h
      have fhk7 := Fs_laws_eqByteS hk7
      try simp only [go_sem, hk1, hk6] at fhk7
      rcases it_some h with ⟨hk8, h⟩ | ⟨hk8, h⟩
      · try simp only [go_sem, n1, n2, n3, n4, hk1, hk6] at hk8
        all_goals
        obtain rfl := so_some h
        refine ⟨0, fun L hL => ?_⟩
        simp only [go_sem, ir4, hk1, fhk2, fhk3, fhk4, fhk5, hk6, fhk7, hk8]
      · try simp only [go_sem, n1, n2, n3, n4, hk1, hk6] at hk8
        all_goals
        obtain ⟨y_9, hk9, h⟩ := bd_some h
        have fhk9 := Fs_laws_markByteS hk9
        try simp only [go_sem, hk1, hk6, hk8] at fhk9
        rcases it_some h with ⟨hk11, h⟩ | ⟨hk11, h⟩
        · try simp only [go_sem, n1, n2, n3, n4, hk1, hk6, hk8] at hk11
          all_goals
          obtain rfl := so_some h
          refine ⟨0, fun L hL => ?_⟩
          simp only [go_sem, ir4, hk1, fhk2, fhk3, fhk4, fhk5, hk6, fhk7, hk8, fhk9, hk11]
        · try simp only [go_sem, n1, n2, n3, n4, hk1, hk6, hk8] at hk11
          all_goals
          obtain ⟨y_12, hk12, h⟩ := bd_some h
          have fhk12 := Fs_laws_markPointS hk12
          try simp only [go_sem, hk1, hk6, hk8, hk11] at fhk12
          obtain ⟨y_13, hk13, h⟩ := bd_some h
          have fhk13 := Fs_laws_heldPointS hk13
          try simp only [go_sem, hk1, hk6, hk8, hk11] at fhk13
          rcases it_some h with ⟨hk14, h⟩ | ⟨hk14, h⟩
          · try simp only [go_sem, n1, n2, n3, n4, hk1, hk6, hk8, hk11] at hk14
            all_goals
            obtain rfl := so_some h
            refine ⟨0, fun L hL => ?_⟩
            simp only [go_sem, ir4, hk1, fhk2, fhk3, fhk4, fhk5, hk6, fhk7, hk8, fhk9, hk11, fhk12, fhk13, hk14]
          · try simp only [go_sem, n1, n2, n3, n4, hk1, hk6, hk8, hk11] at hk14
            all_goals
            rcases it_some h with ⟨hk15, h⟩ | ⟨hk15, h⟩
            · try simp only [go_sem, n1, n2, n3, n4, hk1, hk6, hk8, hk11, hk14] at hk15
              all_goals
              obtain rfl := so_some h
              refine ⟨0, fun L hL => ?_⟩
              simp only [go_sem, ir4, hk1, fhk2, fhk3, fhk4, fhk5, hk6, fhk7, hk8, fhk9, hk11, fhk12, fhk13, hk14, hk15]
            · try simp only [go_sem, n1, n2, n3, n4, hk1, hk6, hk8, hk11, hk14] at hk15
              all_goals
              obtain rfl := so_some h
              refine ⟨0, fun L hL => ?_⟩
              simp only [go_sem, ir4, hk1, fhk2, fhk3, fhk4, fhk5, hk6, fhk7, hk8, fhk9, hk11, fhk12, fhk13, hk14, hk15]


end Go.Proofs.Ytgbibhhblimfiaa
