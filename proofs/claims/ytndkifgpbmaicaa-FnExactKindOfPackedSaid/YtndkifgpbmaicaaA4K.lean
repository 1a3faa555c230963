/- Codes and contracts of the functions that A4 reaches, and that their typed forms say what they do. No condition. -/
import Derived.Test.YtndkifgpbmaicaaR4T
import Derived.Test.YtndkifgpbmaicaaRows
import Derived.WalkKit
namespace Go.Proofs.Ytndkifgpbmaicaa
open Go Go.RowKit
set_option linter.unusedVariables false
set_option linter.unusedSimpArgs false
set_option maxRecDepth 10000

def ir8_b0 : IR := .seq (.test false [
    ⟨.push, 8, none, .mov (.v 3)⟩,
    ⟨.push, 9, none, .mov (.v 0)⟩,
    ⟨.push, 10, none, .len false (.s 0)⟩,
    ⟨.push, 11, none, .bin false .lss (.s 2) (.s 0)⟩] (.s 0)
  (.skip)
  (.exit 0))
 (.seq (.block 1 (.region false [
     ⟨.push, 14, none, .mov (.v 2)⟩,
     ⟨.push, 15, none, .mov (.v 3)⟩,
     ⟨.push, 16, none, .mov (.v 0)⟩,
     ⟨.push, 17, none, .mov (.v 3)⟩,
     ⟨.push, 18, none, .ixAddr 1 (.s 1) (.s 0)⟩,
     ⟨.push, 19, none, .load false 1 (.s 0)⟩,
     ⟨.push, 20, none, .ixAddr 1 (.s 5) (.s 4)⟩,
     ⟨.no, 0, none, .store 1 (.s 0) (.s 1)⟩]))
 (.region false [
   ⟨.push, 12, none, .mov (.v 3)⟩,
   ⟨.push, 13, none, .bin false .add (.s 0) (.c (.int .i64 (1)))⟩,
   ⟨.var 3, 4, none, .mov (.s 0)⟩]))
def ir8_k0 : List Bool := [true, false, true, true]
def ir8_o0 : List Bool := [false, false, true, false]
def ir8_r0 : List Bool := [false, true, false, false]
def ir8_v : List Nat := [0, 2, 3, 4]
def ir8 : AFn := ⟨1, 4, .seq (.region false [
    ⟨.var 1, 2, none, .newnil 1⟩])
 (.seq (.region false [
    ⟨.push, 5, none, .mov (.v 0)⟩,
    ⟨.push, 6, none, .len false (.s 0)⟩,
    ⟨.push, 7, none, .make 1 1 (.int .u8 (0)) (.s 0) (.s 0)⟩,
    ⟨.var 2, 3, none, .mov (.s 0)⟩])
 (.seq (.seq (.region false [
     ⟨.var 3, 4, none, .mov (.c (.int .i64 (0)))⟩])
  (.block 0 (.loop ir8_k0 ir8_o0 ir8_r0 ir8_b0)))
 (.seq (.region false [
    ⟨.push, 21, none, .mov (.v 2)⟩,
    ⟨.var 1, 2, none, .mov (.s 0)⟩])
 (.ret)))), [.t 1]⟩
noncomputable def t_laws_toByteS : List (Nat × Ctr) := []
noncomputable def c_laws_toByteS : Ctr := mkF t_laws_toByteS ir8 [.bor]
theorem s_laws_toByteS : Sound Try.prog 8 c_laws_toByteS := mkF_sound _ rfl snd_nil (by kernel_rfl : chkFn Try.prog 8 ir8 ir8_v = true)
theorem M_laws_toByteS : c_laws_toByteS.modes = [.bor] := rfl
theorem Fl_laws_toByteS : c_laws_toByteS.flat = true := rfl
attribute [go_sem] M_laws_toByteS Fl_laws_toByteS
def E_laws_toByteS_l1 (a : List UInt8) : ((List UInt8) × Int) → St
  | (out, i) => ⟨[.sl 1 (List.map byteAV a), .any, .own 3200000, .int .i64 i], [], [(3200000, ⟨1, List.map byteAV out⟩)], true⟩
def R_laws_toByteS_l1 (a : List UInt8) (y : (List UInt8)) : Res := (.exit 0, ⟨[.any, .any, .own 3200000, .any], [], [(3200000, ⟨1, List.map byteAV y⟩)], true⟩)
theorem laws_toByteS_l1_ex {a : List UInt8} {sgm_ : (List UInt8) × Int} {rho_ : (List UInt8)} (h : whileE (laws_toByteS_l1 a) sgm_ = some rho_) : ∃ L0, ∀ L, L0 ≤ L → iter (exec (look t_laws_toByteS) L ir8_b0) ir8_k0 ir8_o0 ir8_r0 L (E_laws_toByteS_l1 a sgm_) = R_laws_toByteS_l1 a rho_ := by
  refine loop_ex (E := E_laws_toByteS_l1 a) (R := R_laws_toByteS_l1 a) (fun y => by first | (intro c; cases c) | (rcases y with y | y <;> (intro c; cases c)) | (rcases y with y | y | y <;> (intro c; cases c))) ?_ h
  clear h
  rintro ⟨out, i⟩ o_ h
  dsimp only [laws_toByteS_l1] at h
  rcases it_some h with ⟨hk2, h⟩ | ⟨hk2, h⟩
  · try simp only [go_sem, n1, n2, n3, n4] at hk2
    all_goals
    obtain ⟨hk3, h⟩ := ck_some h
    have lhk3 := ix_lt hk3
    have xhk3 := getD_mapD byteAV a lhk3
    try simp only [go_sem] at lhk3
    try simp only [go_sem] at xhk3
    try simp only [go_sem, n1, n2, n3, n4, hk2] at hk3
    all_goals
    obtain ⟨hk4, h⟩ := ck_some h
    have lhk4 := ix_lt hk4
    have xhk4 := getD_mapD byteAV out lhk4
    try simp only [go_sem] at lhk4
    try simp only [go_sem] at xhk4
    try simp only [go_sem, n1, n2, n3, n4, hk2, hk3] at hk4
    all_goals
    obtain rfl := so_some h
    refine ⟨0, fun L hL => ?_⟩
    simp only [go_sem, ir8, E_laws_toByteS_l1, R_laws_toByteS_l1, ir8_b0, ir8_k0, ir8_o0, ir8_r0, hk2, hk3, lhk3, xhk3, hk4, lhk4, xhk4]
  · try simp only [go_sem, n1, n2, n3, n4] at hk2
    all_goals
    obtain rfl := so_some h
    refine ⟨0, fun L hL => ?_⟩
    simp only [go_sem, ir8, E_laws_toByteS_l1, R_laws_toByteS_l1, ir8_b0, ir8_k0, ir8_o0, ir8_r0, hk2]

theorem Fs_laws_toByteS {a : List UInt8} {y_ : (List UInt8)} (h : laws_toByteS a = some y_) : c_laws_toByteS.F [.sl 1 (List.map byteAV a)] = ⟨true, .fresh 1 (List.map byteAV y_), [.any]⟩ := by
  refine mkF_E (by simp only [flatA, flatB, flat1, List.all_cons, List.all_nil, Bool.and_self, flatE_map (f := byteAV) (fun _ => rfl)]) ?_
  dsimp only [laws_toByteS] at h
  obtain ⟨hk1, h⟩ := ck_some h
  try simp only [go_sem, n1, n2, n3, n4] at hk1
  all_goals
  obtain ⟨y_5, hk5, h⟩ := bd_some h
  obtain ⟨Lhk5, ehk5⟩ := laws_toByteS_l1_ex hk5
  obtain rfl := so_some h
  refine ⟨Lhk5, fun L hL => ?_⟩
  have ehk5 := ehk5 L (by omega)
  try simp only [go_sem, E_laws_toByteS_l1, R_laws_toByteS_l1, ir8_k0, ir8_o0, ir8_r0] at ehk5
  simp only [go_sem, ir8, E_laws_toByteS_l1, R_laws_toByteS_l1, ir8_k0, ir8_o0, ir8_r0, hk1, ehk5]


def ir50_b0 : IR := .seq (.test false [
    ⟨.push, 6, none, .mov (.v 4)⟩,
    ⟨.push, 7, none, .mov (.v 0)⟩,
    ⟨.push, 8, none, .len false (.s 0)⟩,
    ⟨.push, 9, none, .bin false .lss (.s 2) (.s 0)⟩] (.s 0)
  (.skip)
  (.exit 0))
 (.seq (.block 1 (.seq (.region false [
      ⟨.push, 12, none, .mov (.v 2)⟩,
      ⟨.push, 13, none, .mov (.v 0)⟩,
      ⟨.push, 14, none, .mov (.v 4)⟩,
      ⟨.push, 15, none, .ixAddr 1 (.s 1) (.s 0)⟩,
      ⟨.push, 16, none, .load false 1 (.s 0)⟩,
      ⟨.push, 17, none, .conv .i64 (.s 0)⟩,
      ⟨.push, 18, none, .bin false .add (.s 5) (.s 0)⟩,
      ⟨.push, 19, none, .bin false .rem (.s 0) (.c (.int .i64 (251)))⟩,
      ⟨.var 2, 3, none, .mov (.s 0)⟩])
   (.region false [
     ⟨.push, 20, none, .mov (.v 3)⟩,
     ⟨.push, 21, none, .mov (.v 2)⟩,
     ⟨.push, 22, none, .bin false .add (.s 1) (.s 0)⟩,
     ⟨.push, 23, none, .bin false .rem (.s 0) (.c (.int .i64 (251)))⟩,
     ⟨.var 3, 4, none, .mov (.s 0)⟩])))
 (.region false [
   ⟨.push, 10, none, .mov (.v 4)⟩,
   ⟨.push, 11, none, .bin false .add (.s 0) (.c (.int .i64 (1)))⟩,
   ⟨.var 4, 5, none, .mov (.s 0)⟩]))
def ir50_k0 : List Bool := [true, false, true, true, true]
def ir50_o0 : List Bool := [false, false, true, true, false]
def ir50_r0 : List Bool := [false, true, false, false, false]
def ir50_v : List Nat := [0, 2, 3, 4, 5]
def ir50 : AFn := ⟨1, 5, .seq (.region false [
    ⟨.var 1, 2, none, .mov (.c (.int .i64 (0)))⟩])
 (.seq (.region false [
    ⟨.var 2, 3, none, .mov (.c (.int .i64 (1)))⟩])
 (.seq (.region false [
    ⟨.var 3, 4, none, .mov (.c (.int .i64 (0)))⟩])
 (.seq (.seq (.region false [
     ⟨.var 4, 5, none, .mov (.c (.int .i64 (0)))⟩])
  (.block 0 (.loop ir50_k0 ir50_o0 ir50_r0 ir50_b0)))
 (.seq (.region false [
    ⟨.push, 24, none, .mov (.v 3)⟩,
    ⟨.push, 25, none, .bin false .mul (.c (.int .i64 (251))) (.s 0)⟩,
    ⟨.push, 26, none, .mov (.v 2)⟩,
    ⟨.push, 27, none, .bin false .add (.s 1) (.s 0)⟩,
    ⟨.var 1, 2, none, .mov (.s 0)⟩])
 (.ret))))), [.t 1]⟩
noncomputable def t_spec_l25Sum : List (Nat × Ctr) := []
noncomputable def c_spec_l25Sum : Ctr := mkF t_spec_l25Sum ir50 [.bor]
theorem s_spec_l25Sum : Sound Try.prog 50 c_spec_l25Sum := mkF_sound _ rfl snd_nil (by kernel_rfl : chkFn Try.prog 50 ir50 ir50_v = true)
theorem M_spec_l25Sum : c_spec_l25Sum.modes = [.bor] := rfl
theorem Fl_spec_l25Sum : c_spec_l25Sum.flat = true := rfl
attribute [go_sem] M_spec_l25Sum Fl_spec_l25Sum
def E_spec_l25Sum_l1 (b : List UInt8) : (Int × Int × Int) → St
  | (sum, all, i) => ⟨[.sl 1 (List.map byteAV b), .any, .int .i64 sum, .int .i64 all, .int .i64 i], [], [], true⟩
def R_spec_l25Sum_l1 (b : List UInt8) (y : Int × Int) : Res := (.exit 0, ⟨[.any, .any, .int .i64 y.1, .int .i64 y.2, .any], [], [], true⟩)
theorem spec_l25Sum_l1_ex {b : List UInt8} {sgm_ : Int × Int × Int} {rho_ : Int × Int} (h : whileE (spec_l25Sum_l1 b) sgm_ = some rho_) : ∃ L0, ∀ L, L0 ≤ L → iter (exec (look t_spec_l25Sum) L ir50_b0) ir50_k0 ir50_o0 ir50_r0 L (E_spec_l25Sum_l1 b sgm_) = R_spec_l25Sum_l1 b rho_ := by
  refine loop_ex (E := E_spec_l25Sum_l1 b) (R := R_spec_l25Sum_l1 b) (fun y => by first | (intro c; cases c) | (rcases y with y | y <;> (intro c; cases c)) | (rcases y with y | y | y <;> (intro c; cases c))) ?_ h
  clear h
  rintro ⟨sum, all, i⟩ o_ h
  dsimp only [spec_l25Sum_l1] at h
  rcases it_some h with ⟨hk1, h⟩ | ⟨hk1, h⟩
  · try simp only [go_sem, n1, n2, n3, n4] at hk1
    all_goals
    obtain ⟨hk2, h⟩ := ck_some h
    have lhk2 := ix_lt hk2
    have xhk2 := getD_mapD byteAV b lhk2
    try simp only [go_sem] at lhk2
    try simp only [go_sem] at xhk2
    try simp only [go_sem, n1, n2, n3, n4, hk1] at hk2
    all_goals
    obtain ⟨hk3, h⟩ := ck_some h
    try simp only [go_sem, n1, n2, n3, n4, hk1, hk2] at hk3
    all_goals
    obtain rfl := so_some h
    refine ⟨0, fun L hL => ?_⟩
    simp only [go_sem, ir50, E_spec_l25Sum_l1, R_spec_l25Sum_l1, ir50_b0, ir50_k0, ir50_o0, ir50_r0, hk1, hk2, lhk2, xhk2, hk3]
  · try simp only [go_sem, n1, n2, n3, n4] at hk1
    all_goals
    obtain rfl := so_some h
    refine ⟨0, fun L hL => ?_⟩
    simp only [go_sem, ir50, E_spec_l25Sum_l1, R_spec_l25Sum_l1, ir50_b0, ir50_k0, ir50_o0, ir50_r0, hk1]

theorem Fs_spec_l25Sum {b : List UInt8} {y_ : Int} (h : spec_l25Sum b = some y_) : c_spec_l25Sum.F [.sl 1 (List.map byteAV b)] = ⟨true, .int .i64 y_, [.any]⟩ := by
  refine mkF_E rfl ?_
  dsimp only [spec_l25Sum] at h
  obtain ⟨y_4, hk4, h⟩ := bd_some h
  obtain ⟨Lhk4, ehk4⟩ := spec_l25Sum_l1_ex hk4
  obtain rfl := so_some h
  refine ⟨Lhk4, fun L hL => ?_⟩
  have ehk4 := ehk4 L (by omega)
  try simp only [go_sem, E_spec_l25Sum_l1, R_spec_l25Sum_l1, ir50_k0, ir50_o0, ir50_r0] at ehk4
  simp only [go_sem, ir50, E_spec_l25Sum_l1, R_spec_l25Sum_l1, ir50_k0, ir50_o0, ir50_r0, ehk4]


def ir26_v : List Nat := [0, 1, 4, 5, 6]
def ir26 : AFn := ⟨2, 5, .seq (.region false [
    ⟨.var 2, 4, none, .mov (.c (.int .i64 (0)))⟩])
 (.seq (.region false [
    ⟨.push, 7, none, .mov (.v 0)⟩,
    ⟨.push, 8, none, .len false (.s 0)⟩,
    ⟨.var 3, 5, none, .mov (.s 0)⟩])
 (.seq (.test false [
    ⟨.push, 9, none, .mov (.v 3)⟩,
    ⟨.push, 10, none, .bin false .lss (.s 0) (.c (.int .i64 (3)))⟩,
    ⟨.push, 11, none, .mov (.s 0)⟩,
    ⟨.push, 12, (some ((.s 0), false)), .mov (.v 3)⟩,
    ⟨.push, 13, (some ((.s 1), false)), .bin false .gtr (.s 0) (.c (.int .i64 (8000)))⟩,
    ⟨.push, 14, none, .pick (.s 2) (.c (.bool true)) (.s 0)⟩,
    ⟨.push, 15, none, .mov (.s 0)⟩,
    ⟨.push, 16, (some ((.s 0), false)), .mov (.v 0)⟩,
    ⟨.push, 17, (some ((.s 1), false)), .ixAddr 1 (.s 0) (.c (.int .i64 (0)))⟩,
    ⟨.push, 18, (some ((.s 2), false)), .load false 1 (.s 0)⟩,
    ⟨.push, 19, (some ((.s 3), false)), .conv .i64 (.s 0)⟩,
    ⟨.push, 20, (some ((.s 4), false)), .mov (.v 1)⟩,
    ⟨.push, 21, (some ((.s 5), false)), .bin false .neq (.s 1) (.s 0)⟩,
    ⟨.push, 22, none, .pick (.s 6) (.c (.bool true)) (.s 0)⟩] (.s 0)
  (.seq (.region false [
      ⟨.var 2, 4, none, .mov (.c (.int .i64 (8)))⟩])
   (.ret))
  (.skip))
 (.seq (.anyo 14 [
    ⟨.slot 0, 23, none, .mov (.v 0)⟩,
    ⟨.slot 1, 24, none, .mov (.v 3)⟩,
    ⟨.slot 2, 25, none, .bin false .sub (.s 1) (.c (.int .i64 (2)))⟩,
    ⟨.slot 3, 26, none, .ixAddr 1 (.s 0) (.s 2)⟩,
    ⟨.slot 4, 27, none, .load false 1 (.s 3)⟩,
    ⟨.slot 5, 28, none, .conv .i64 (.s 4)⟩,
    ⟨.slot 6, 29, none, .bin false .mul (.c (.int .i64 (256))) (.s 5)⟩,
    ⟨.slot 7, 30, none, .mov (.v 0)⟩,
    ⟨.slot 8, 31, none, .mov (.v 3)⟩,
    ⟨.slot 9, 32, none, .bin false .sub (.s 8) (.c (.int .i64 (1)))⟩,
    ⟨.slot 10, 33, none, .ixAddr 1 (.s 7) (.s 9)⟩,
    ⟨.slot 11, 34, none, .load false 1 (.s 10)⟩,
    ⟨.slot 12, 35, none, .conv .i64 (.s 11)⟩,
    ⟨.slot 13, 36, none, .bin false .add (.s 6) (.s 12)⟩,
    ⟨.var 4, 6, none, .mov (.s 13)⟩] [] .skip)
 (.seq (.test false [
    ⟨.push, 37, none, .mov (.v 4)⟩,
    ⟨.push, 38, none, .mov (.v 0)⟩,
    ⟨.push, 39, none, .mov (.v 3)⟩,
    ⟨.push, 40, none, .bin false .sub (.s 0) (.c (.int .i64 (2)))⟩,
    ⟨.push, 41, none, .slice 1 (.s 2) none (some (.s 0))⟩,
    ⟨.push, 42, none, .call 50 [(.s 0)]⟩,
    ⟨.push, 43, none, .bin false .neq (.s 5) (.s 0)⟩] (.s 0)
  (.seq (.region false [
      ⟨.var 2, 4, none, .mov (.c (.int .i64 (9)))⟩])
   (.ret))
  (.skip))
 (.seq (.region false [
    ⟨.var 2, 4, none, .mov (.c (.int .i64 (0)))⟩])
 (.ret)))))), [.t 2]⟩
noncomputable def t_spec_l25Open : List (Nat × Ctr) := [(50, c_spec_l25Sum)]
theorem lk_spec_l25Open_50 : look t_spec_l25Open 50 = some c_spec_l25Sum := rfl
noncomputable def c_spec_l25Open : Ctr := mkF t_spec_l25Open ir26 [.bor, .bor]
theorem s_spec_l25Open : Sound Try.prog 26 c_spec_l25Open := mkF_sound _ rfl (snd_cons s_spec_l25Sum snd_nil) (by kernel_rfl : chkFn Try.prog 26 ir26 ir26_v = true)
theorem M_spec_l25Open : c_spec_l25Open.modes = [.bor, .bor] := rfl
theorem Fl_spec_l25Open : c_spec_l25Open.flat = true := rfl
attribute [go_sem] M_spec_l25Open Fl_spec_l25Open
attribute [go_sem] lk_spec_l25Open_50
theorem Fs_spec_l25Open {b : List UInt8} {kind : Int} {y_ : Int} (h : spec_l25Open b kind = some y_) : c_spec_l25Open.F [.sl 1 (List.map byteAV b), .int .i64 kind] = ⟨true, .int .i64 y_, [.any, .any]⟩ := by
  refine mkF_E rfl ?_
  dsimp only [spec_l25Open] at h
  obtain ⟨hk1, h⟩ := ck_some h
  rcases or_split hk1 with ⟨ghk1, hk1⟩ | ghk1
  · try simp only [go_sem, n1, n2, n3, n4] at ghk1
    all_goals
    have lhk1 := ix_lt hk1
    have xhk1 := getD_mapD byteAV b lhk1
    try simp only [go_sem] at lhk1
    try simp only [go_sem] at xhk1
    try simp only [go_sem, n1, n2, n3, n4, ghk1] at hk1
    all_goals
    rcases it_some h with ⟨hk2, h⟩ | ⟨hk2, h⟩
    · try simp only [go_sem, n1, n2, n3, n4, ghk1, hk1] at hk2
      all_goals
      obtain rfl := so_some h
      refine ⟨0, fun L hL => ?_⟩
      simp only [go_sem, ir26, ghk1, hk1, lhk1, xhk1, hk2]
    · try simp only [go_sem, n1, n2, n3, n4, ghk1, hk1] at hk2
      all_goals
      obtain ⟨hk3, h⟩ := ck_some h
      have lhk3 := ix_lt hk3
      have xhk3 := getD_mapD byteAV b lhk3
      try simp only [go_sem] at lhk3
      try simp only [go_sem] at xhk3
      try simp only [go_sem, n1, n2, n3, n4, ghk1, hk1, hk2] at hk3
      all_goals
      obtain ⟨hk4, h⟩ := ck_some h
      have lhk4 := ix_lt hk4
      have xhk4 := getD_mapD byteAV b lhk4
      try simp only [go_sem] at lhk4
      try simp only [go_sem] at xhk4
      try simp only [go_sem, n1, n2, n3, n4, ghk1, hk1, hk2, hk3] at hk4
      all_goals
      obtain ⟨hk5, h⟩ := ck_some h
      try simp only [go_sem, n1, n2, n3, n4, ghk1, hk1, hk2, hk3, hk4] at hk5
      all_goals
      obtain ⟨y_6, hk6, h⟩ := bd_some h
      have fhk6 := Fs_spec_l25Sum hk6
      try simp only [go_sem] at fhk6
      rcases it_some h with ⟨hk7, h⟩ | ⟨hk7, h⟩
      · try simp only [go_sem, n1, n2, n3, n4, ghk1, hk1, hk2, hk3, hk4, hk5] at hk7
        all_goals
        obtain rfl := so_some h
        refine ⟨0, fun L hL => ?_⟩
        simp only [go_sem, ir26, ghk1, hk1, lhk1, xhk1, hk2, hk3, lhk3, xhk3, hk4, lhk4, xhk4, hk5, fhk6, hk7]
      · try simp only [go_sem, n1, n2, n3, n4, ghk1, hk1, hk2, hk3, hk4, hk5] at hk7
        all_goals
        obtain rfl := so_some h
        refine ⟨0, fun L hL => ?_⟩
        simp only [go_sem, ir26, ghk1, hk1, lhk1, xhk1, hk2, hk3, lhk3, xhk3, hk4, lhk4, xhk4, hk5, fhk6, hk7]
  · have ghk1n := no_f ghk1
    rcases or_t ghk1n with ghk1na | ⟨ghk1na, ghk1nb⟩
    · try simp only [go_sem, n1, n2, n3, n4] at ghk1na
      all_goals
      rcases it_some h with ⟨hk2, h⟩ | ⟨hk2, h⟩
      · try simp only [go_sem, n1, n2, n3, n4, ghk1na] at hk2
        all_goals
        obtain rfl := so_some h
        refine ⟨0, fun L hL => ?_⟩
        simp only [go_sem, ir26, ghk1na, hk2]
      · try simp only [go_sem, n1, n2, n3, n4, ghk1na] at hk2
        all_goals
        obtain ⟨hk3, h⟩ := ck_some h
        have lhk3 := ix_lt hk3
        have xhk3 := getD_mapD byteAV b lhk3
        try simp only [go_sem] at lhk3
        try simp only [go_sem] at xhk3
        try simp only [go_sem, n1, n2, n3, n4, ghk1na, hk2] at hk3
        all_goals
        obtain ⟨hk4, h⟩ := ck_some h
        have lhk4 := ix_lt hk4
        have xhk4 := getD_mapD byteAV b lhk4
        try simp only [go_sem] at lhk4
        try simp only [go_sem] at xhk4
        try simp only [go_sem, n1, n2, n3, n4, ghk1na, hk2, hk3] at hk4
        all_goals
        obtain ⟨hk5, h⟩ := ck_some h
        try simp only [go_sem, n1, n2, n3, n4, ghk1na, hk2, hk3, hk4] at hk5
        all_goals
        obtain ⟨y_6, hk6, h⟩ := bd_some h
        have fhk6 := Fs_spec_l25Sum hk6
        try simp only [go_sem] at fhk6
        rcases it_some h with ⟨hk7, h⟩ | ⟨hk7, h⟩
        · try simp only [go_sem, n1, n2, n3, n4, ghk1na, hk2, hk3, hk4, hk5] at hk7
          all_goals
          obtain rfl := so_some h
          refine ⟨0, fun L hL => ?_⟩
          simp only [go_sem, ir26, ghk1na, hk2, hk3, lhk3, xhk3, hk4, lhk4, xhk4, hk5, fhk6, hk7]
        · try simp only [go_sem, n1, n2, n3, n4, ghk1na, hk2, hk3, hk4, hk5] at hk7
          all_goals
          obtain rfl := so_some h
          refine ⟨0, fun L hL => ?_⟩
          simp only [go_sem, ir26, ghk1na, hk2, hk3, lhk3, xhk3, hk4, lhk4, xhk4, hk5, fhk6, hk7]
    · try simp only [go_sem, n1, n2, n3, n4] at ghk1na
      all_goals
      try simp only [go_sem, n1, n2, n3, n4, ghk1na] at ghk1nb
      all_goals
      rcases it_some h with ⟨hk2, h⟩ | ⟨hk2, h⟩
      · try simp only [go_sem, n1, n2, n3, n4, ghk1na, ghk1nb] at hk2
        all_goals
        obtain rfl := so_some h
        refine ⟨0, fun L hL => ?_⟩
        simp only [go_sem, ir26, ghk1na, ghk1nb, hk2]
      · try simp only [go_sem, n1, n2, n3, n4, ghk1na, ghk1nb] at hk2
        all_goals
        obtain ⟨hk3, h⟩ := ck_some h
        have lhk3 := ix_lt hk3
        have xhk3 := getD_mapD byteAV b lhk3
        try simp only [go_sem] at lhk3
        try simp only [go_sem] at xhk3
        try simp only [go_sem, n1, n2, n3, n4, ghk1na, ghk1nb, hk2] at hk3
        all_goals
        obtain ⟨hk4, h⟩ := ck_some h
        have lhk4 := ix_lt hk4
        have xhk4 := getD_mapD byteAV b lhk4
        try simp only [go_sem] at lhk4
        try simp only [go_sem] at xhk4
        try simp only [go_sem, n1, n2, n3, n4, ghk1na, ghk1nb, hk2, hk3] at hk4
        all_goals
        obtain ⟨hk5, h⟩ := ck_some h
        try simp only [go_sem, n1, n2, n3, n4, ghk1na, ghk1nb, hk2, hk3, hk4] at hk5
        all_goals
        obtain ⟨y_6, hk6, h⟩ := bd_some h
        have fhk6 := Fs_spec_l25Sum hk6
        try simp only [go_sem] at fhk6
        rcases it_some h with ⟨hk7, h⟩ | ⟨hk7, h⟩
        · try simp only [go_sem, n1, n2, n3, n4, ghk1na, ghk1nb, hk2, hk3, hk4, hk5] at hk7
          all_goals
          obtain rfl := so_some h
          refine ⟨0, fun L hL => ?_⟩
          simp only [go_sem, ir26, ghk1na, ghk1nb, hk2, hk3, lhk3, xhk3, hk4, lhk4, xhk4, hk5, fhk6, hk7]
        · try simp only [go_sem, n1, n2, n3, n4, ghk1na, ghk1nb, hk2, hk3, hk4, hk5] at hk7
          all_goals
          obtain rfl := so_some h
          refine ⟨0, fun L hL => ?_⟩
          simp only [go_sem, ir26, ghk1na, ghk1nb, hk2, hk3, lhk3, xhk3, hk4, lhk4, xhk4, hk5, fhk6, hk7]


def ir7_v : List Nat := [0, 2, 3, 4]
def ir7 : AFn := ⟨1, 4, .seq (.region false [
    ⟨.var 1, 2, none, .mov (.c (.int .i64 (0)))⟩,
    ⟨.var 2, 3, none, .mov (.c (.int .i64 (0)))⟩])
 (.seq (.test false [
    ⟨.push, 5, none, .mov (.v 0)⟩,
    ⟨.push, 6, none, .len false (.s 0)⟩,
    ⟨.push, 7, none, .bin false .eql (.s 0) (.c (.int .i64 (0)))⟩,
    ⟨.push, 8, none, .mov (.s 0)⟩,
    ⟨.push, 9, (some ((.s 0), false)), .mov (.v 0)⟩,
    ⟨.push, 10, (some ((.s 1), false)), .ixAddr 1 (.s 0) (.c (.int .i64 (0)))⟩,
    ⟨.push, 11, (some ((.s 2), false)), .load false 1 (.s 0)⟩,
    ⟨.push, 12, (some ((.s 3), false)), .bin false .neq (.s 0) (.c (.int .u8 (69)))⟩,
    ⟨.push, 13, (some ((.s 4), false)), .mov (.s 0)⟩,
    ⟨.push, 14, (some ((.s 0), true)), .mov (.v 0)⟩,
    ⟨.push, 15, (some ((.s 1), true)), .ixAddr 1 (.s 0) (.c (.int .i64 (0)))⟩,
    ⟨.push, 16, (some ((.s 2), true)), .load false 1 (.s 0)⟩,
    ⟨.push, 17, (some ((.s 3), true)), .bin false .neq (.s 0) (.c (.int .u8 (67)))⟩,
    ⟨.push, 18, (some ((.s 9), false)), .pick (.s 4) (.s 0) (.c (.bool false))⟩,
    ⟨.push, 19, none, .pick (.s 10) (.c (.bool true)) (.s 0)⟩] (.s 0)
  (.seq (.region false [
      ⟨.var 1, 2, none, .mov (.c (.int .i64 (0)))⟩,
      ⟨.var 2, 3, none, .mov (.c (.int .i64 (8)))⟩])
   (.ret))
  (.skip))
 (.seq (.region false [
    ⟨.push, 20, none, .mov (.v 0)⟩,
    ⟨.push, 21, none, .mov (.v 0)⟩,
    ⟨.push, 22, none, .ixAddr 1 (.s 0) (.c (.int .i64 (0)))⟩,
    ⟨.push, 23, none, .load false 1 (.s 0)⟩,
    ⟨.push, 24, none, .conv .i64 (.s 0)⟩,
    ⟨.push, 25, none, .call 26 [(.s 4), (.s 0)]⟩,
    ⟨.var 3, 4, none, .mov (.s 0)⟩])
 (.seq (.test false [
    ⟨.push, 26, none, .mov (.v 3)⟩,
    ⟨.push, 27, none, .bin false .neq (.s 0) (.c (.int .i64 (0)))⟩] (.s 0)
  (.seq (.region false [
      ⟨.push, 28, none, .mov (.v 3)⟩,
      ⟨.var 1, 2, none, .mov (.c (.int .i64 (0)))⟩,
      ⟨.var 2, 3, none, .mov (.s 0)⟩])
   (.ret))
  (.skip))
 (.seq (.region false [
    ⟨.push, 29, none, .mov (.v 0)⟩,
    ⟨.push, 30, none, .ixAddr 1 (.s 0) (.c (.int .i64 (0)))⟩,
    ⟨.push, 31, none, .load false 1 (.s 0)⟩,
    ⟨.push, 32, none, .conv .i64 (.s 0)⟩,
    ⟨.var 1, 2, none, .mov (.s 0)⟩,
    ⟨.var 2, 3, none, .mov (.c (.int .i64 (0)))⟩])
 (.ret))))), [.t 1, .t 2]⟩
noncomputable def t_spec_KindOfPacked : List (Nat × Ctr) := [(26, c_spec_l25Open)]
theorem lk_spec_KindOfPacked_26 : look t_spec_KindOfPacked 26 = some c_spec_l25Open := rfl
noncomputable def c_spec_KindOfPacked : Ctr := mkF t_spec_KindOfPacked ir7 [.bor]
theorem s_spec_KindOfPacked : Sound Try.prog 7 c_spec_KindOfPacked := mkF_sound _ rfl (snd_cons s_spec_l25Open snd_nil) (by kernel_rfl : chkFn Try.prog 7 ir7 ir7_v = true)
theorem M_spec_KindOfPacked : c_spec_KindOfPacked.modes = [.bor] := rfl
theorem Fl_spec_KindOfPacked : c_spec_KindOfPacked.flat = true := rfl
attribute [go_sem] M_spec_KindOfPacked Fl_spec_KindOfPacked
attribute [go_sem] lk_spec_KindOfPacked_26
theorem Fs_spec_KindOfPacked {b : List UInt8} {y_ : Int × Int} (h : spec_KindOfPacked b = some y_) : c_spec_KindOfPacked.F [.sl 1 (List.map byteAV b)] = ⟨true, .tup [.int .i64 y_.1, .int .i64 y_.2], [.any]⟩ := by
  refine mkF_E rfl ?_
  dsimp only [spec_KindOfPacked] at h
  obtain ⟨hk1, h⟩ := ck_some h
  rcases or_split hk1 with ⟨ghk1, hk1⟩ | ghk1
  · try simp only [go_sem, n1, n2, n3, n4] at ghk1
    all_goals
    have lhk1 := ix_lt hk1
    have xhk1 := getD_mapD byteAV b lhk1
    try simp only [go_sem] at lhk1
    try simp only [go_sem] at xhk1
    try simp only [go_sem, n1, n2, n3, n4, ghk1] at hk1
    all_goals
    obtain ⟨hk2, h⟩ := ck_some h
    rcases or_split hk2 with ⟨ghk2, hk2⟩ | ghk2
    · try simp only [go_sem, n1, n2, n3, n4, ghk1, hk1] at ghk2
      all_goals
      have lhk2 := ix_lt hk2
      have xhk2 := getD_mapD byteAV b lhk2
      try simp only [go_sem] at lhk2
      try simp only [go_sem] at xhk2
      try simp only [go_sem, n1, n2, n3, n4, ghk1, hk1, ghk2] at hk2
      all_goals
      rcases it_some h with ⟨hk3, h⟩ | ⟨hk3, h⟩
      · try simp only [go_sem, n1, n2, n3, n4, ghk1, hk1, ghk2, hk2] at hk3
        all_goals
        obtain rfl := so_some h
        refine ⟨0, fun L hL => ?_⟩
        simp only [go_sem, ir7, ghk1, hk1, lhk1, xhk1, ghk2, hk2, lhk2, xhk2, hk3]
      · try simp only [go_sem, n1, n2, n3, n4, ghk1, hk1, ghk2, hk2] at hk3
        all_goals
        obtain ⟨hk4, h⟩ := ck_some h
        have lhk4 := ix_lt hk4
        have xhk4 := getD_mapD byteAV b lhk4
        try simp only [go_sem] at lhk4
        try simp only [go_sem] at xhk4
        try simp only [go_sem, n1, n2, n3, n4, ghk1, hk1, ghk2, hk2, hk3] at hk4
        all_goals
        obtain ⟨y_5, hk5, h⟩ := bd_some h
        have fhk5 := Fs_spec_l25Open hk5
        try simp only [go_sem] at fhk5
        rcases it_some h with ⟨hk6, h⟩ | ⟨hk6, h⟩
        · try simp only [go_sem, n1, n2, n3, n4, ghk1, hk1, ghk2, hk2, hk3, hk4] at hk6
          all_goals
          obtain rfl := so_some h
          refine ⟨0, fun L hL => ?_⟩
          simp only [go_sem, ir7, ghk1, hk1, lhk1, xhk1, ghk2, hk2, lhk2, xhk2, hk3, hk4, lhk4, xhk4, fhk5, hk6]
        · try simp only [go_sem, n1, n2, n3, n4, ghk1, hk1, ghk2, hk2, hk3, hk4] at hk6
          all_goals
          obtain rfl := so_some h
          refine ⟨0, fun L hL => ?_⟩
          simp only [go_sem, ir7, ghk1, hk1, lhk1, xhk1, ghk2, hk2, lhk2, xhk2, hk3, hk4, lhk4, xhk4, fhk5, hk6]
    · rcases and_f ghk2 with ghk2a | ⟨ghk2a, ghk2b⟩
      · have ghk2an := no_f ghk2a
        try simp only [go_sem, n1, n2, n3, n4, ghk1, hk1] at ghk2an
        all_goals
        rcases it_some h with ⟨hk3, h⟩ | ⟨hk3, h⟩
        · try simp only [go_sem, n1, n2, n3, n4, ghk1, hk1, ghk2an] at hk3
          all_goals
          obtain rfl := so_some h
          refine ⟨0, fun L hL => ?_⟩
          simp only [go_sem, ir7, ghk1, hk1, lhk1, xhk1, ghk2an, hk3]
        · try simp only [go_sem, n1, n2, n3, n4, ghk1, hk1, ghk2an] at hk3
          all_goals
          obtain ⟨hk4, h⟩ := ck_some h
          have lhk4 := ix_lt hk4
          have xhk4 := getD_mapD byteAV b lhk4
          try simp only [go_sem] at lhk4
          try simp only [go_sem] at xhk4
          try simp only [go_sem, n1, n2, n3, n4, ghk1, hk1, ghk2an, hk3] at hk4
          all_goals
          obtain ⟨y_5, hk5, h⟩ := bd_some h
          have fhk5 := Fs_spec_l25Open hk5
          try simp only [go_sem] at fhk5
          rcases it_some h with ⟨hk6, h⟩ | ⟨hk6, h⟩
          · try simp only [go_sem, n1, n2, n3, n4, ghk1, hk1, ghk2an, hk3, hk4] at hk6
            all_goals
            obtain rfl := so_some h
            refine ⟨0, fun L hL => ?_⟩
            simp only [go_sem, ir7, ghk1, hk1, lhk1, xhk1, ghk2an, hk3, hk4, lhk4, xhk4, fhk5, hk6]
          · try simp only [go_sem, n1, n2, n3, n4, ghk1, hk1, ghk2an, hk3, hk4] at hk6
            all_goals
            obtain rfl := so_some h
            refine ⟨0, fun L hL => ?_⟩
            simp only [go_sem, ir7, ghk1, hk1, lhk1, xhk1, ghk2an, hk3, hk4, lhk4, xhk4, fhk5, hk6]
      · have ghk2an := no_t ghk2a
        have ghk2bn := no_f ghk2b
        try simp only [go_sem, n1, n2, n3, n4, ghk1, hk1] at ghk2an
        all_goals
        try simp only [go_sem, n1, n2, n3, n4, ghk1, hk1, ghk2an] at ghk2bn
        all_goals
        rcases it_some h with ⟨hk3, h⟩ | ⟨hk3, h⟩
        · try simp only [go_sem, n1, n2, n3, n4, ghk1, hk1, ghk2an, ghk2bn] at hk3
          all_goals
          obtain rfl := so_some h
          refine ⟨0, fun L hL => ?_⟩
          simp only [go_sem, ir7, ghk1, hk1, lhk1, xhk1, ghk2an, ghk2bn, hk3]
        · try simp only [go_sem, n1, n2, n3, n4, ghk1, hk1, ghk2an, ghk2bn] at hk3
          all_goals
          obtain ⟨hk4, h⟩ := ck_some h
          have lhk4 := ix_lt hk4
          have xhk4 := getD_mapD byteAV b lhk4
          try simp only [go_sem] at lhk4
          try simp only [go_sem] at xhk4
          try simp only [go_sem, n1, n2, n3, n4, ghk1, hk1, ghk2an, ghk2bn, hk3] at hk4
          all_goals
          obtain ⟨y_5, hk5, h⟩ := bd_some h
          have fhk5 := Fs_spec_l25Open hk5
          try simp only [go_sem] at fhk5
          rcases it_some h with ⟨hk6, h⟩ | ⟨hk6, h⟩
          · try simp only [go_sem, n1, n2, n3, n4, ghk1, hk1, ghk2an, ghk2bn, hk3, hk4] at hk6
            all_goals
            obtain rfl := so_some h
            refine ⟨0, fun L hL => ?_⟩
            simp only [go_sem, ir7, ghk1, hk1, lhk1, xhk1, ghk2an, ghk2bn, hk3, hk4, lhk4, xhk4, fhk5, hk6]
          · try simp only [go_sem, n1, n2, n3, n4, ghk1, hk1, ghk2an, ghk2bn, hk3, hk4] at hk6
            all_goals
            obtain rfl := so_some h
            refine ⟨0, fun L hL => ?_⟩
            simp only [go_sem, ir7, ghk1, hk1, lhk1, xhk1, ghk2an, ghk2bn, hk3, hk4, lhk4, xhk4, fhk5, hk6]
  · have ghk1n := no_f ghk1
    try simp only [go_sem, n1, n2, n3, n4] at ghk1n
    all_goals
    obtain ⟨hk2, h⟩ := ck_some h
    rcases or_split hk2 with ⟨ghk2, hk2⟩ | ghk2
    · try simp only [go_sem, n1, n2, n3, n4, ghk1n] at ghk2
      all_goals
      have lhk2 := ix_lt hk2
      have xhk2 := getD_mapD byteAV b lhk2
      try simp only [go_sem] at lhk2
      try simp only [go_sem] at xhk2
      try simp only [go_sem, n1, n2, n3, n4, ghk1n, ghk2] at hk2
      all_goals
      rcases it_some h with ⟨hk3, h⟩ | ⟨hk3, h⟩
      · try simp only [go_sem, n1, n2, n3, n4, ghk1n, ghk2, hk2] at hk3
        all_goals
        obtain rfl := so_some h
        refine ⟨0, fun L hL => ?_⟩
        simp only [go_sem, ir7, ghk1n, ghk2, hk2, lhk2, xhk2, hk3]
      · try simp only [go_sem, n1, n2, n3, n4, ghk1n, ghk2, hk2] at hk3
        all_goals
        obtain ⟨hk4, h⟩ := ck_some h
        have lhk4 := ix_lt hk4
        have xhk4 := getD_mapD byteAV b lhk4
        try simp only [go_sem] at lhk4
        try simp only [go_sem] at xhk4
        try simp only [go_sem, n1, n2, n3, n4, ghk1n, ghk2, hk2, hk3] at hk4
        all_goals
        obtain ⟨y_5, hk5, h⟩ := bd_some h
        have fhk5 := Fs_spec_l25Open hk5
        try simp only [go_sem] at fhk5
        rcases it_some h with ⟨hk6, h⟩ | ⟨hk6, h⟩
        · try simp only [go_sem, n1, n2, n3, n4, ghk1n, ghk2, hk2, hk3, hk4] at hk6
          all_goals
          obtain rfl := so_some h
          refine ⟨0, fun L hL => ?_⟩
          simp only [go_sem, ir7, ghk1n, ghk2, hk2, lhk2, xhk2, hk3, hk4, lhk4, xhk4, fhk5, hk6]
        · try simp only [go_sem, n1, n2, n3, n4, ghk1n, ghk2, hk2, hk3, hk4] at hk6
          all_goals
          obtain rfl := so_some h
          refine ⟨0, fun L hL => ?_⟩
          simp only [go_sem, ir7, ghk1n, ghk2, hk2, lhk2, xhk2, hk3, hk4, lhk4, xhk4, fhk5, hk6]
    · rcases and_f ghk2 with ghk2a | ⟨ghk2a, ghk2b⟩
      · have ghk2an := no_f ghk2a
        try simp only [go_sem, n1, n2, n3, n4, ghk1n] at ghk2an
        all_goals
        rcases it_some h with ⟨hk3, h⟩ | ⟨hk3, h⟩
        · try simp only [go_sem, n1, n2, n3, n4, ghk1n, ghk2an] at hk3
          all_goals
          obtain rfl := so_some h
          refine ⟨0, fun L hL => ?_⟩
          simp only [go_sem, ir7, ghk1n, ghk2an, hk3]
        · try simp only [go_sem, n1, n2, n3, n4, ghk1n, ghk2an] at hk3
          all_goals
          obtain ⟨hk4, h⟩ := ck_some h
          have lhk4 := ix_lt hk4
          have xhk4 := getD_mapD byteAV b lhk4
          try simp only [go_sem] at lhk4
          try simp only [go_sem] at xhk4
          try simp only [go_sem, n1, n2, n3, n4, ghk1n, ghk2an, hk3] at hk4
          all_goals
          obtain ⟨y_5, hk5, h⟩ := bd_some h
          have fhk5 := Fs_spec_l25Open hk5
          try simp only [go_sem] at fhk5
          rcases it_some h with ⟨hk6, h⟩ | ⟨hk6, h⟩
          · try simp only [go_sem, n1, n2, n3, n4, ghk1n, ghk2an, hk3, hk4] at hk6
            all_goals
            obtain rfl := so_some h
            refine ⟨0, fun L hL => ?_⟩
            simp only [go_sem, ir7, ghk1n, ghk2an, hk3, hk4, lhk4, xhk4, fhk5, hk6]
          · try simp only [go_sem, n1, n2, n3, n4, ghk1n, ghk2an, hk3, hk4] at hk6
            all_goals
            obtain rfl := so_some h
            refine ⟨0, fun L hL => ?_⟩
            simp only [go_sem, ir7, ghk1n, ghk2an, hk3, hk4, lhk4, xhk4, fhk5, hk6]
      · have ghk2an := no_t ghk2a
        have ghk2bn := no_f ghk2b
        try simp only [go_sem, n1, n2, n3, n4, ghk1n] at ghk2an
        all_goals
        try simp only [go_sem, n1, n2, n3, n4, ghk1n, ghk2an] at ghk2bn
        all_goals
        rcases it_some h with ⟨hk3, h⟩ | ⟨hk3, h⟩
        · try simp only [go_sem, n1, n2, n3, n4, ghk1n, ghk2an, ghk2bn] at hk3
          all_goals
          obtain rfl := so_some h
          refine ⟨0, fun L hL => ?_⟩
          simp only [go_sem, ir7, ghk1n, ghk2an, ghk2bn, hk3]
        · try simp only [go_sem, n1, n2, n3, n4, ghk1n, ghk2an, ghk2bn] at hk3
          all_goals
          obtain ⟨hk4, h⟩ := ck_some h
          have lhk4 := ix_lt hk4
          have xhk4 := getD_mapD byteAV b lhk4
          try simp only [go_sem] at lhk4
          try simp only [go_sem] at xhk4
          try simp only [go_sem, n1, n2, n3, n4, ghk1n, ghk2an, ghk2bn, hk3] at hk4
          all_goals
          obtain ⟨y_5, hk5, h⟩ := bd_some h
          have fhk5 := Fs_spec_l25Open hk5
          try simp only [go_sem] at fhk5
          rcases it_some h with ⟨hk6, h⟩ | ⟨hk6, h⟩
          · try simp only [go_sem, n1, n2, n3, n4, ghk1n, ghk2an, ghk2bn, hk3, hk4] at hk6
            all_goals
            obtain rfl := so_some h
            refine ⟨0, fun L hL => ?_⟩
            simp only [go_sem, ir7, ghk1n, ghk2an, ghk2bn, hk3, hk4, lhk4, xhk4, fhk5, hk6]
          · try simp only [go_sem, n1, n2, n3, n4, ghk1n, ghk2an, ghk2bn, hk3, hk4] at hk6
            all_goals
            obtain rfl := so_some h
            refine ⟨0, fun L hL => ?_⟩
            simp only [go_sem, ir7, ghk1n, ghk2an, ghk2bn, hk3, hk4, lhk4, xhk4, fhk5, hk6]


def ir51_b0 : IR := .seq (.region false [
    ⟨.var 8, 10, none, .bin false .lss (.v 7) (.v 6)⟩])
 (.seq (.cond (.v 8) (.skip)
  (.exit 0))
 (.seq (.block 1 (.seq (.region false [
      ⟨.push, 11, none, .ixAddr 1 (.v 5) (.v 7)⟩,
      ⟨.push, 12, none, .load false 1 (.s 0)⟩,
      ⟨.var 4, 6, none, .mov (.s 0)⟩])
   (.seq (.region false [
      ⟨.push, 13, none, .mov (.v 2)⟩,
      ⟨.push, 14, none, .mov (.v 4)⟩,
      ⟨.push, 15, none, .conv .i64 (.s 0)⟩,
      ⟨.push, 16, none, .bin false .add (.s 2) (.s 0)⟩,
      ⟨.push, 17, none, .bin false .rem (.s 0) (.c (.int .i64 (251)))⟩,
      ⟨.var 2, 3, none, .mov (.s 0)⟩])
   (.region false [
     ⟨.push, 18, none, .mov (.v 3)⟩,
     ⟨.push, 19, none, .mov (.v 2)⟩,
     ⟨.push, 20, none, .bin false .add (.s 1) (.s 0)⟩,
     ⟨.push, 21, none, .bin false .rem (.s 0) (.c (.int .i64 (251)))⟩,
     ⟨.var 3, 4, none, .mov (.s 0)⟩]))))
 (.region false [
   ⟨.push, 22, none, .bin false .add (.v 7) (.c (.int .i64 (1)))⟩,
   ⟨.var 7, 9, none, .mov (.s 0)⟩])))
def ir51_k0 : List Bool := [false, false, true, true, false, true, true, true, false]
def ir51_o0 : List Bool := [false, false, true, true, false, false, false, false, false]
def ir51_r0 : List Bool := [false, true, false, false, false, false, false, false, false]
def ir51_v : List Nat := [0, 2, 3, 4, 6, 7, 8, 9, 10]
def ir51 : AFn := ⟨1, 9, .seq (.region false [
    ⟨.var 1, 2, none, .mov (.c (.int .i64 (0)))⟩])
 (.seq (.region false [
    ⟨.var 2, 3, none, .mov (.c (.int .i64 (1)))⟩,
    ⟨.var 3, 4, none, .mov (.c (.int .i64 (0)))⟩])
 (.seq (.seq (.region false [
     ⟨.var 5, 7, none, .mov (.v 0)⟩,
     ⟨.var 6, 8, none, .len false (.v 5)⟩,
     ⟨.var 7, 9, none, .mov (.c (.int .i64 (0)))⟩])
  (.block 0 (.loop ir51_k0 ir51_o0 ir51_r0 ir51_b0)))
 (.seq (.region false [
    ⟨.push, 23, none, .mov (.v 3)⟩,
    ⟨.push, 24, none, .bin false .mul (.c (.int .i64 (251))) (.s 0)⟩,
    ⟨.push, 25, none, .mov (.v 2)⟩,
    ⟨.push, 26, none, .bin false .add (.s 1) (.s 0)⟩,
    ⟨.var 1, 2, none, .mov (.s 0)⟩])
 (.ret)))), [.t 1]⟩
noncomputable def t_impl_SumOfBytes : List (Nat × Ctr) := []
noncomputable def c_impl_SumOfBytes : Ctr := mkF t_impl_SumOfBytes ir51 [.bor]
theorem s_impl_SumOfBytes : Sound Try.prog 51 c_impl_SumOfBytes := mkF_sound _ rfl snd_nil (by kernel_rfl : chkFn Try.prog 51 ir51 ir51_v = true)
theorem M_impl_SumOfBytes : c_impl_SumOfBytes.modes = [.bor] := rfl
theorem Fl_impl_SumOfBytes : c_impl_SumOfBytes.flat = true := rfl
attribute [go_sem] M_impl_SumOfBytes Fl_impl_SumOfBytes
def E_impl_SumOfBytes_l1 (t7 : List UInt8) (t8 : Int) : (Int × Int × Int) → St
  | (s_, t, t9) => ⟨[.any, .any, .int .i64 s_, .int .i64 t, .any, .sl 1 (List.map byteAV t7), .int .i64 t8, .int .i64 t9, .any], [], [], true⟩
def R_impl_SumOfBytes_l1 (t7 : List UInt8) (t8 : Int) (y : Int × Int) : Res := (.exit 0, ⟨[.any, .any, .int .i64 y.1, .int .i64 y.2, .any, .any, .any, .any, .any], [], [], true⟩)
theorem impl_SumOfBytes_l1_ex {t7 : List UInt8} {t8 : Int} {sgm_ : Int × Int × Int} {rho_ : Int × Int} (h : whileE (impl_SumOfBytes_l1 t7 t8) sgm_ = some rho_) : ∃ L0, ∀ L, L0 ≤ L → iter (exec (look t_impl_SumOfBytes) L ir51_b0) ir51_k0 ir51_o0 ir51_r0 L (E_impl_SumOfBytes_l1 t7 t8 sgm_) = R_impl_SumOfBytes_l1 t7 t8 rho_ := by
  refine loop_ex (E := E_impl_SumOfBytes_l1 t7 t8) (R := R_impl_SumOfBytes_l1 t7 t8) (fun y => by first | (intro c; cases c) | (rcases y with y | y <;> (intro c; cases c)) | (rcases y with y | y | y <;> (intro c; cases c))) ?_ h
  clear h
  rintro ⟨s_, t, t9⟩ o_ h
  dsimp only [impl_SumOfBytes_l1] at h
  rcases it_some h with ⟨hk1, h⟩ | ⟨hk1, h⟩
  · try simp only [go_sem, n1, n2, n3, n4] at hk1
    all_goals
    obtain ⟨hk2, h⟩ := ck_some h
    have lhk2 := ix_lt hk2
    have xhk2 := getD_mapD byteAV t7 lhk2
    try simp only [go_sem] at lhk2
    try simp only [go_sem] at xhk2
    try simp only [go_sem, n1, n2, n3, n4, hk1] at hk2
    all_goals
    obtain ⟨hk3, h⟩ := ck_some h
    try simp only [go_sem, n1, n2, n3, n4, hk1, hk2] at hk3
    all_goals
    obtain rfl := so_some h
    refine ⟨0, fun L hL => ?_⟩
    simp only [go_sem, ir51, E_impl_SumOfBytes_l1, R_impl_SumOfBytes_l1, ir51_b0, ir51_k0, ir51_o0, ir51_r0, hk1, hk2, lhk2, xhk2, hk3]
  · try simp only [go_sem, n1, n2, n3, n4] at hk1
    all_goals
    obtain rfl := so_some h
    refine ⟨0, fun L hL => ?_⟩
    simp only [go_sem, ir51, E_impl_SumOfBytes_l1, R_impl_SumOfBytes_l1, ir51_b0, ir51_k0, ir51_o0, ir51_r0, hk1]

theorem Fs_impl_SumOfBytes {b : List UInt8} {y_ : Int} (h : impl_SumOfBytes b = some y_) : c_impl_SumOfBytes.F [.sl 1 (List.map byteAV b)] = ⟨true, .int .i64 y_, [.any]⟩ := by
  refine mkF_E rfl ?_
  dsimp only [impl_SumOfBytes] at h
  obtain ⟨y_4, hk4, h⟩ := bd_some h
  obtain ⟨Lhk4, ehk4⟩ := impl_SumOfBytes_l1_ex hk4
  obtain rfl := so_some h
  refine ⟨Lhk4, fun L hL => ?_⟩
  have ehk4 := ehk4 L (by omega)
  try simp only [go_sem, E_impl_SumOfBytes_l1, R_impl_SumOfBytes_l1, ir51_k0, ir51_o0, ir51_r0] at ehk4
  simp only [go_sem, ir51, E_impl_SumOfBytes_l1, R_impl_SumOfBytes_l1, ir51_k0, ir51_o0, ir51_r0, ehk4]


def ir28_v : List Nat := [0, 2]
def ir28 : AFn := ⟨1, 2, .seq (.region false [
    ⟨.var 1, 2, none, .mov (.c (.bool false))⟩])
 (.seq (.region false [
    ⟨.push, 3, none, .mov (.v 0)⟩,
    ⟨.push, 4, none, .bin false .eql (.s 0) (.c (.int .u8 (69)))⟩,
    ⟨.push, 5, none, .mov (.s 0)⟩,
    ⟨.push, 6, (some ((.s 0), false)), .mov (.v 0)⟩,
    ⟨.push, 7, (some ((.s 1), false)), .bin false .eql (.s 0) (.c (.int .u8 (67)))⟩,
    ⟨.push, 8, none, .pick (.s 2) (.c (.bool true)) (.s 0)⟩,
    ⟨.var 1, 2, none, .mov (.s 0)⟩])
 (.ret)), [.t 1]⟩
noncomputable def t_impl_KindOfPacked_c1 : List (Nat × Ctr) := []
noncomputable def c_impl_KindOfPacked_c1 : Ctr := mkF t_impl_KindOfPacked_c1 ir28 [.bor]
theorem s_impl_KindOfPacked_c1 : Sound Try.prog 28 c_impl_KindOfPacked_c1 := mkF_sound _ rfl snd_nil (by kernel_rfl : chkFn Try.prog 28 ir28 ir28_v = true)
theorem M_impl_KindOfPacked_c1 : c_impl_KindOfPacked_c1.modes = [.bor] := rfl
theorem Fl_impl_KindOfPacked_c1 : c_impl_KindOfPacked_c1.flat = true := rfl
attribute [go_sem] M_impl_KindOfPacked_c1 Fl_impl_KindOfPacked_c1
theorem Fs_impl_KindOfPacked_c1 {kind : UInt8} {y_ : Bool} (h : impl_KindOfPacked_c1 kind = some y_) : c_impl_KindOfPacked_c1.F [.int .u8 (kind.toNat : Int)] = ⟨true, .bool y_, [.any]⟩ := by
  refine mkF_E rfl ?_
  dsimp only [impl_KindOfPacked_c1] at h
  obtain rfl := so_some h
  refine ⟨0, fun L hL => ?_⟩
  simp only [go_sem, ir28]


def ir27_v : List Nat := [0, 1, 4, 5]
def ir27 : AFn := ⟨2, 4, .seq (.region false [
    ⟨.var 2, 4, none, .mov (.c (.int .i64 (0)))⟩])
 (.seq (.test false [
    ⟨.push, 6, none, .mov (.v 0)⟩,
    ⟨.push, 7, none, .len false (.s 0)⟩,
    ⟨.push, 8, none, .bin false .lss (.s 0) (.c (.int .i64 (3)))⟩,
    ⟨.push, 9, none, .mov (.s 0)⟩,
    ⟨.push, 10, (some ((.s 0), false)), .mov (.v 0)⟩,
    ⟨.push, 11, (some ((.s 1), false)), .len false (.s 0)⟩,
    ⟨.push, 12, (some ((.s 2), false)), .bin false .gtr (.s 0) (.c (.int .i64 (8000)))⟩,
    ⟨.push, 13, none, .pick (.s 3) (.c (.bool true)) (.s 0)⟩,
    ⟨.push, 14, none, .mov (.s 0)⟩,
    ⟨.push, 15, (some ((.s 0), false)), .mov (.v 1)⟩,
    ⟨.push, 16, (some ((.s 1), false)), .mov (.v 0)⟩,
    ⟨.push, 17, (some ((.s 2), false)), .ixAddr 1 (.s 0) (.c (.int .i64 (0)))⟩,
    ⟨.push, 18, (some ((.s 3), false)), .load false 1 (.s 0)⟩,
    ⟨.push, 19, (some ((.s 4), false)), .callv (.s 3) [(.s 0)]⟩,
    ⟨.push, 20, (some ((.s 5), false)), .un .not (.s 0)⟩,
    ⟨.push, 21, none, .pick (.s 6) (.c (.bool true)) (.s 0)⟩] (.s 0)
  (.seq (.region false [
      ⟨.var 2, 4, none, .mov (.c (.int .i64 (8)))⟩])
   (.ret))
  (.skip))
 (.seq (.seq (.region false [
     ⟨.push, 22, none, .mov (.v 0)⟩,
     ⟨.push, 23, none, .len false (.s 0)⟩,
     ⟨.push, 24, none, .bin false .sub (.s 0) (.c (.int .i64 (2)))⟩,
     ⟨.var 3, 5, none, .mov (.s 0)⟩])
  (.anyo 18 [
    ⟨.slot 0, 25, none, .mov (.v 0)⟩,
    ⟨.slot 1, 26, none, .mov (.v 3)⟩,
    ⟨.slot 2, 27, none, .pur (.slice 1 (.s 0) none (some (.s 1)))⟩,
    ⟨.slot 3, 28, none, .callp 51 [(.s 2)]⟩,
    ⟨.slot 4, 29, none, .mov (.v 0)⟩,
    ⟨.slot 5, 30, none, .mov (.v 3)⟩,
    ⟨.slot 6, 31, none, .ixAddr 1 (.s 4) (.s 5)⟩,
    ⟨.slot 7, 32, none, .load false 1 (.s 6)⟩,
    ⟨.slot 8, 33, none, .conv .i64 (.s 7)⟩,
    ⟨.slot 9, 34, none, .bin false .mul (.s 8) (.c (.int .i64 (256)))⟩,
    ⟨.slot 10, 35, none, .mov (.v 0)⟩,
    ⟨.slot 11, 36, none, .mov (.v 3)⟩,
    ⟨.slot 12, 37, none, .bin false .add (.s 11) (.c (.int .i64 (1)))⟩,
    ⟨.slot 13, 38, none, .ixAddr 1 (.s 10) (.s 12)⟩,
    ⟨.slot 14, 39, none, .load false 1 (.s 13)⟩,
    ⟨.slot 15, 40, none, .conv .i64 (.s 14)⟩,
    ⟨.slot 16, 41, none, .bin false .add (.s 9) (.s 15)⟩,
    ⟨.slot 17, 42, none, .bin false .neq (.s 3) (.s 16)⟩] [] (.cond (.s 17)
  (.seq (.region false [
      ⟨.var 2, 4, none, .mov (.c (.int .i64 (9)))⟩])
   (.ret))
  (.skip))))
 (.seq (.region false [
    ⟨.var 2, 4, none, .mov (.c (.int .i64 (0)))⟩])
 (.ret)))), [.t 2]⟩
noncomputable def t_impl_checkPacked__impl_KindOfPacked_c1 : List (Nat × Ctr) := [(28, c_impl_KindOfPacked_c1), (51, c_impl_SumOfBytes)]
theorem lk_impl_checkPacked__impl_KindOfPacked_c1_28 : look t_impl_checkPacked__impl_KindOfPacked_c1 28 = some c_impl_KindOfPacked_c1 := rfl
theorem lk_impl_checkPacked__impl_KindOfPacked_c1_51 : look t_impl_checkPacked__impl_KindOfPacked_c1 51 = some c_impl_SumOfBytes := rfl
noncomputable def c_impl_checkPacked__impl_KindOfPacked_c1 : Ctr := mkF t_impl_checkPacked__impl_KindOfPacked_c1 ir27 [.bor, .bor]
theorem s_impl_checkPacked__impl_KindOfPacked_c1 : Sound Try.prog 27 c_impl_checkPacked__impl_KindOfPacked_c1 := mkF_sound _ rfl (snd_cons s_impl_KindOfPacked_c1 (snd_cons s_impl_SumOfBytes snd_nil)) (by kernel_rfl : chkFn Try.prog 27 ir27 ir27_v = true)
theorem M_impl_checkPacked__impl_KindOfPacked_c1 : c_impl_checkPacked__impl_KindOfPacked_c1.modes = [.bor, .bor] := rfl
theorem Fl_impl_checkPacked__impl_KindOfPacked_c1 : c_impl_checkPacked__impl_KindOfPacked_c1.flat = true := rfl
attribute [go_sem] M_impl_checkPacked__impl_KindOfPacked_c1 Fl_impl_checkPacked__impl_KindOfPacked_c1
attribute [go_sem] lk_impl_checkPacked__impl_KindOfPacked_c1_28 lk_impl_checkPacked__impl_KindOfPacked_c1_51
theorem Fs_impl_checkPacked__impl_KindOfPacked_c1 {b : List UInt8} {y_ : Int} (h : impl_checkPacked__impl_KindOfPacked_c1 b = some y_) : c_impl_checkPacked__impl_KindOfPacked_c1.F [.sl 1 (List.map byteAV b), .fn (.func 28) [] []] = ⟨true, .int .i64 y_, [.any, .any]⟩ := by
  refine mkF_E rfl ?_
  dsimp only [impl_checkPacked__impl_KindOfPacked_c1] at h
  obtain ⟨hk1, h⟩ := ck_some h
  rcases or_split hk1 with ⟨ghk1, hk1⟩ | ghk1
  · try simp only [go_sem, n1, n2, n3, n4] at ghk1
    all_goals
    have lhk1 := ix_lt hk1
    have xhk1 := getD_mapD byteAV b lhk1
    try simp only [go_sem] at lhk1
    try simp only [go_sem] at xhk1
    try simp only [go_sem, n1, n2, n3, n4, ghk1] at hk1
    all_goals
    obtain ⟨hk2, h⟩ := ck_some h
    rcases or_split hk2 with ⟨ghk2, hk2⟩ | ghk2
    · try simp only [go_sem, n1, n2, n3, n4, ghk1, hk1] at ghk2
      all_goals
      obtain ⟨y_2, hhk2⟩ := Option.isSome_iff_exists.1 hk2
      have fhk2 := Fs_impl_KindOfPacked_c1 hhk2
      try simp only [go_sem] at fhk2
      rcases it_some h with ⟨hk3, h⟩ | ⟨hk3, h⟩
      · try simp only [go_sem, n1, n2, n3, n4, ghk1, hk1, ghk2, hhk2] at hk3
        all_goals
        obtain rfl := so_some h
        refine ⟨0, fun L hL => ?_⟩
        simp only [go_sem, ir27, ghk1, hk1, lhk1, xhk1, ghk2, hhk2, fhk2, hk3]
      · try simp only [go_sem, n1, n2, n3, n4, ghk1, hk1, ghk2, hhk2] at hk3
        all_goals
        obtain ⟨hk4, h⟩ := ck_some h
        try simp only [go_sem, n1, n2, n3, n4, ghk1, hk1, ghk2, hhk2, hk3] at hk4
        all_goals
        obtain ⟨y_5, hk5, h⟩ := bd_some h
        have fhk5 := Fs_impl_SumOfBytes hk5
        try simp only [go_sem] at fhk5
        obtain ⟨hk6, h⟩ := ck_some h
        have lhk6 := ix_lt hk6
        have xhk6 := getD_mapD byteAV b lhk6
        try simp only [go_sem] at lhk6
        try simp only [go_sem] at xhk6
        try simp only [go_sem, n1, n2, n3, n4, ghk1, hk1, ghk2, hhk2, hk3, hk4] at hk6
        all_goals
        obtain ⟨hk7, h⟩ := ck_some h
        have lhk7 := ix_lt hk7
        have xhk7 := getD_mapD byteAV b lhk7
        try simp only [go_sem] at lhk7
        try simp only [go_sem] at xhk7
        try simp only [go_sem, n1, n2, n3, n4, ghk1, hk1, ghk2, hhk2, hk3, hk4, hk6] at hk7
        all_goals
        rcases it_some h with ⟨hk8, h⟩ | ⟨hk8, h⟩
        · try simp only [go_sem, n1, n2, n3, n4, ghk1, hk1, ghk2, hhk2, hk3, hk4, hk6, hk7] at hk8
          all_goals
          obtain rfl := so_some h
          refine ⟨0, fun L hL => ?_⟩
          simp only [go_sem, ir27, ghk1, hk1, lhk1, xhk1, ghk2, hhk2, fhk2, hk3, hk4, fhk5, hk6, lhk6, xhk6, hk7, lhk7, xhk7, hk8]
        · try simp only [go_sem, n1, n2, n3, n4, ghk1, hk1, ghk2, hhk2, hk3, hk4, hk6, hk7] at hk8
          all_goals
          obtain rfl := so_some h
          refine ⟨0, fun L hL => ?_⟩
          simp only [go_sem, ir27, ghk1, hk1, lhk1, xhk1, ghk2, hhk2, fhk2, hk3, hk4, fhk5, hk6, lhk6, xhk6, hk7, lhk7, xhk7, hk8]
    · have ghk2n := no_f ghk2
      rcases or_t ghk2n with ghk2na | ⟨ghk2na, ghk2nb⟩
      · try simp only [go_sem, n1, n2, n3, n4, ghk1, hk1] at ghk2na
        all_goals
        rcases it_some h with ⟨hk3, h⟩ | ⟨hk3, h⟩
        · try simp only [go_sem, n1, n2, n3, n4, ghk1, hk1, ghk2na] at hk3
          all_goals
          obtain rfl := so_some h
          refine ⟨0, fun L hL => ?_⟩
          simp only [go_sem, ir27, ghk1, hk1, lhk1, xhk1, ghk2na, hk3]
        · try simp only [go_sem, n1, n2, n3, n4, ghk1, hk1, ghk2na] at hk3
          all_goals
          obtain ⟨hk4, h⟩ := ck_some h
          try simp only [go_sem, n1, n2, n3, n4, ghk1, hk1, ghk2na, hk3] at hk4
          all_goals
          obtain ⟨y_5, hk5, h⟩ := bd_some h
          have fhk5 := Fs_impl_SumOfBytes hk5
          try simp only [go_sem] at fhk5
          obtain ⟨hk6, h⟩ := ck_some h
          have lhk6 := ix_lt hk6
          have xhk6 := getD_mapD byteAV b lhk6
          try simp only [go_sem] at lhk6
          try simp only [go_sem] at xhk6
          try simp only [go_sem, n1, n2, n3, n4, ghk1, hk1, ghk2na, hk3, hk4] at hk6
          all_goals
          obtain ⟨hk7, h⟩ := ck_some h
          have lhk7 := ix_lt hk7
          have xhk7 := getD_mapD byteAV b lhk7
          try simp only [go_sem] at lhk7
          try simp only [go_sem] at xhk7
          try simp only [go_sem, n1, n2, n3, n4, ghk1, hk1, ghk2na, hk3, hk4, hk6] at hk7
          all_goals
          rcases it_some h with ⟨hk8, h⟩ | ⟨hk8, h⟩
          · try simp only [go_sem, n1, n2, n3, n4, ghk1, hk1, ghk2na, hk3, hk4, hk6, hk7] at hk8
            all_goals
            obtain rfl := so_some h
            refine ⟨0, fun L hL => ?_⟩
            simp only [go_sem, ir27, ghk1, hk1, lhk1, xhk1, ghk2na, hk3, hk4, fhk5, hk6, lhk6, xhk6, hk7, lhk7, xhk7, hk8]
          · try simp only [go_sem, n1, n2, n3, n4, ghk1, hk1, ghk2na, hk3, hk4, hk6, hk7] at hk8
            all_goals
            obtain rfl := so_some h
            refine ⟨0, fun L hL => ?_⟩
            simp only [go_sem, ir27, ghk1, hk1, lhk1, xhk1, ghk2na, hk3, hk4, fhk5, hk6, lhk6, xhk6, hk7, lhk7, xhk7, hk8]
      · try simp only [go_sem, n1, n2, n3, n4, ghk1, hk1] at ghk2na
        all_goals
        try simp only [go_sem, n1, n2, n3, n4, ghk1, hk1, ghk2na] at ghk2nb
        all_goals
        rcases it_some h with ⟨hk3, h⟩ | ⟨hk3, h⟩
        · try simp only [go_sem, n1, n2, n3, n4, ghk1, hk1, ghk2na, ghk2nb] at hk3
          all_goals
          obtain rfl := so_some h
          refine ⟨0, fun L hL => ?_⟩
          simp only [go_sem, ir27, ghk1, hk1, lhk1, xhk1, ghk2na, ghk2nb, hk3]
        · try simp only [go_sem, n1, n2, n3, n4, ghk1, hk1, ghk2na, ghk2nb] at hk3
          all_goals
          obtain ⟨hk4, h⟩ := ck_some h
          try simp only [go_sem, n1, n2, n3, n4, ghk1, hk1, ghk2na, ghk2nb, hk3] at hk4
          all_goals
          obtain ⟨y_5, hk5, h⟩ := bd_some h
          have fhk5 := Fs_impl_SumOfBytes hk5
          try simp only [go_sem] at fhk5
          obtain ⟨hk6, h⟩ := ck_some h
          have lhk6 := ix_lt hk6
          have xhk6 := getD_mapD byteAV b lhk6
          try simp only [go_sem] at lhk6
          try simp only [go_sem] at xhk6
          try simp only [go_sem, n1, n2, n3, n4, ghk1, hk1, ghk2na, ghk2nb, hk3, hk4] at hk6
          all_goals
          obtain ⟨hk7, h⟩ := ck_some h
          have lhk7 := ix_lt hk7
          have xhk7 := getD_mapD byteAV b lhk7
          try simp only [go_sem] at lhk7
          try simp only [go_sem] at xhk7
          try simp only [go_sem, n1, n2, n3, n4, ghk1, hk1, ghk2na, ghk2nb, hk3, hk4, hk6] at hk7
          all_goals
          rcases it_some h with ⟨hk8, h⟩ | ⟨hk8, h⟩
          · try simp only [go_sem, n1, n2, n3, n4, ghk1, hk1, ghk2na, ghk2nb, hk3, hk4, hk6, hk7] at hk8
            all_goals
            obtain rfl := so_some h
            refine ⟨0, fun L hL => ?_⟩
            simp only [go_sem, ir27, ghk1, hk1, lhk1, xhk1, ghk2na, ghk2nb, hk3, hk4, fhk5, hk6, lhk6, xhk6, hk7, lhk7, xhk7, hk8]
          · try simp only [go_sem, n1, n2, n3, n4, ghk1, hk1, ghk2na, ghk2nb, hk3, hk4, hk6, hk7] at hk8
            all_goals
            obtain rfl := so_some h
            refine ⟨0, fun L hL => ?_⟩
            simp only [go_sem, ir27, ghk1, hk1, lhk1, xhk1, ghk2na, ghk2nb, hk3, hk4, fhk5, hk6, lhk6, xhk6, hk7, lhk7, xhk7, hk8]
  · have ghk1n := no_f ghk1
    rcases or_t ghk1n with ghk1na | ⟨ghk1na, ghk1nb⟩
    · try simp only [go_sem, n1, n2, n3, n4] at ghk1na
      all_goals
      obtain ⟨hk2, h⟩ := ck_some h
      rcases or_split hk2 with ⟨ghk2, hk2⟩ | ghk2
      · try simp only [go_sem, n1, n2, n3, n4, ghk1na] at ghk2
        all_goals
        obtain ⟨y_2, hhk2⟩ := Option.isSome_iff_exists.1 hk2
        have fhk2 := Fs_impl_KindOfPacked_c1 hhk2
        try simp only [go_sem] at fhk2
        rcases it_some h with ⟨hk3, h⟩ | ⟨hk3, h⟩
        · try simp only [go_sem, n1, n2, n3, n4, ghk1na, ghk2, hhk2] at hk3
          all_goals
          obtain rfl := so_some h
          refine ⟨0, fun L hL => ?_⟩
          simp only [go_sem, ir27, ghk1na, ghk2, hhk2, fhk2, hk3]
        · try simp only [go_sem, n1, n2, n3, n4, ghk1na, ghk2, hhk2] at hk3
          all_goals
          obtain ⟨hk4, h⟩ := ck_some h
          try simp only [go_sem, n1, n2, n3, n4, ghk1na, ghk2, hhk2, hk3] at hk4
          all_goals
          obtain ⟨y_5, hk5, h⟩ := bd_some h
          have fhk5 := Fs_impl_SumOfBytes hk5
          try simp only [go_sem] at fhk5
          obtain ⟨hk6, h⟩ := ck_some h
          have lhk6 := ix_lt hk6
          have xhk6 := getD_mapD byteAV b lhk6
          try simp only [go_sem] at lhk6
          try simp only [go_sem] at xhk6
          try simp only [go_sem, n1, n2, n3, n4, ghk1na, ghk2, hhk2, hk3, hk4] at hk6
          all_goals
          obtain ⟨hk7, h⟩ := ck_some h
          have lhk7 := ix_lt hk7
          have xhk7 := getD_mapD byteAV b lhk7
          try simp only [go_sem] at lhk7
          try simp only [go_sem] at xhk7
          try simp only [go_sem, n1, n2, n3, n4, ghk1na, ghk2, hhk2, hk3, hk4, hk6] at hk7
          all_goals
          rcases it_some h with ⟨hk8, h⟩ | ⟨hk8, h⟩
          · try simp only [go_sem, n1, n2, n3, n4, ghk1na, ghk2, hhk2, hk3, hk4, hk6, hk7] at hk8
            all_goals
            obtain rfl := so_some h
            refine ⟨0, fun L hL => ?_⟩
            simp only [go_sem, ir27, ghk1na, ghk2, hhk2, fhk2, hk3, hk4, fhk5, hk6, lhk6, xhk6, hk7, lhk7, xhk7, hk8]
          · try simp only [go_sem, n1, n2, n3, n4, ghk1na, ghk2, hhk2, hk3, hk4, hk6, hk7] at hk8
            all_goals
            obtain rfl := so_some h
            refine ⟨0, fun L hL => ?_⟩
            simp only [go_sem, ir27, ghk1na, ghk2, hhk2, fhk2, hk3, hk4, fhk5, hk6, lhk6, xhk6, hk7, lhk7, xhk7, hk8]
      · have ghk2n := no_f ghk2
        rcases or_t ghk2n with ghk2na | ⟨ghk2na, ghk2nb⟩
        · try simp only [go_sem, n1, n2, n3, n4, ghk1na] at ghk2na
          all_goals
          rcases it_some h with ⟨hk3, h⟩ | ⟨hk3, h⟩
          · try simp only [go_sem, n1, n2, n3, n4, ghk1na, ghk2na] at hk3
            all_goals
            obtain rfl := so_some h
            refine ⟨0, fun L hL => ?_⟩
            simp only [go_sem, ir27, ghk1na, ghk2na, hk3]
          · try simp only [go_sem, n1, n2, n3, n4, ghk1na, ghk2na] at hk3
            all_goals
            obtain ⟨hk4, h⟩ := ck_some h
            try simp only [go_sem, n1, n2, n3, n4, ghk1na, ghk2na, hk3] at hk4
            all_goals
            obtain ⟨y_5, hk5, h⟩ := bd_some h
            have fhk5 := Fs_impl_SumOfBytes hk5
            try simp only [go_sem] at fhk5
            obtain ⟨hk6, h⟩ := ck_some h
            have lhk6 := ix_lt hk6
            have xhk6 := getD_mapD byteAV b lhk6
            try simp only [go_sem] at lhk6
            try simp only [go_sem] at xhk6
            try simp only [go_sem, n1, n2, n3, n4, ghk1na, ghk2na, hk3, hk4] at hk6
            all_goals
            obtain ⟨hk7, h⟩ := ck_some h
            have lhk7 := ix_lt hk7
            have xhk7 := getD_mapD byteAV b lhk7
            try simp only [go_sem] at lhk7
            try simp only [go_sem] at xhk7
            try simp only [go_sem, n1, n2, n3, n4, ghk1na, ghk2na, hk3, hk4, hk6] at hk7
            all_goals
            rcases it_some h with ⟨hk8, h⟩ | ⟨hk8, h⟩
            · try simp only [go_sem, n1, n2, n3, n4, ghk1na, ghk2na, hk3, hk4, hk6, hk7] at hk8
              all_goals
              obtain rfl := so_some h
              refine ⟨0, fun L hL => ?_⟩
              simp only [go_sem, ir27, ghk1na, ghk2na, hk3, hk4, fhk5, hk6, lhk6, xhk6, hk7, lhk7, xhk7, hk8]
            · try simp only [go_sem, n1, n2, n3, n4, ghk1na, ghk2na, hk3, hk4, hk6, hk7] at hk8
              all_goals
              obtain rfl := so_some h
              refine ⟨0, fun L hL => ?_⟩
              simp only [go_sem, ir27, ghk1na, ghk2na, hk3, hk4, fhk5, hk6, lhk6, xhk6, hk7, lhk7, xhk7, hk8]
        · try simp only [go_sem, n1, n2, n3, n4, ghk1na] at ghk2na
          all_goals
          try simp only [go_sem, n1, n2, n3, n4, ghk1na, ghk2na] at ghk2nb
          all_goals
          rcases it_some h with ⟨hk3, h⟩ | ⟨hk3, h⟩
          · try simp only [go_sem, n1, n2, n3, n4, ghk1na, ghk2na, ghk2nb] at hk3
            all_goals
            obtain rfl := so_some h
            refine ⟨0, fun L hL => ?_⟩
            simp only [go_sem, ir27, ghk1na, ghk2na, ghk2nb, hk3]
          · try simp only [go_sem, n1, n2, n3, n4, ghk1na, ghk2na, ghk2nb] at hk3
            all_goals
            obtain ⟨hk4, h⟩ := ck_some h
            try simp only [go_sem, n1, n2, n3, n4, ghk1na, ghk2na, ghk2nb, hk3] at hk4
            all_goals
            obtain ⟨y_5, hk5, h⟩ := bd_some h
            have fhk5 := Fs_impl_SumOfBytes hk5
            try simp only [go_sem] at fhk5
            obtain ⟨hk6, h⟩ := ck_some h
            have lhk6 := ix_lt hk6
            have xhk6 := getD_mapD byteAV b lhk6
            try simp only [go_sem] at lhk6
            try simp only [go_sem] at xhk6
            try simp only [go_sem, n1, n2, n3, n4, ghk1na, ghk2na, ghk2nb, hk3, hk4] at hk6
            all_goals
            obtain ⟨hk7, h⟩ := ck_some h
            have lhk7 := ix_lt hk7
            have xhk7 := getD_mapD byteAV b lhk7
            try simp only [go_sem] at lhk7
            try simp only [go_sem] at xhk7
            try simp only [go_sem, n1, n2, n3, n4, ghk1na, ghk2na, ghk2nb, hk3, hk4, hk6] at hk7
            all_goals
            rcases it_some h with ⟨hk8, h⟩ | ⟨hk8, h⟩
            · try simp only [go_sem, n1, n2, n3, n4, ghk1na, ghk2na, ghk2nb, hk3, hk4, hk6, hk7] at hk8
              all_goals
              obtain rfl := so_some h
              refine ⟨0, fun L hL => ?_⟩
              simp only [go_sem, ir27, ghk1na, ghk2na, ghk2nb, hk3, hk4, fhk5, hk6, lhk6, xhk6, hk7, lhk7, xhk7, hk8]
            · try simp only [go_sem, n1, n2, n3, n4, ghk1na, ghk2na, ghk2nb, hk3, hk4, hk6, hk7] at hk8
              all_goals
              obtain rfl := so_some h
              refine ⟨0, fun L hL => ?_⟩
              simp only [go_sem, ir27, ghk1na, ghk2na, ghk2nb, hk3, hk4, fhk5, hk6, lhk6, xhk6, hk7, lhk7, xhk7, hk8]
    · try simp only [go_sem, n1, n2, n3, n4] at ghk1na
      all_goals
      try simp only [go_sem, n1, n2, n3, n4, ghk1na] at ghk1nb
      all_goals
      obtain ⟨hk2, h⟩ := ck_some h
      rcases or_split hk2 with ⟨ghk2, hk2⟩ | ghk2
      · try simp only [go_sem, n1, n2, n3, n4, ghk1na, ghk1nb] at ghk2
        all_goals
        obtain ⟨y_2, hhk2⟩ := Option.isSome_iff_exists.1 hk2
        have fhk2 := Fs_impl_KindOfPacked_c1 hhk2
        try simp only [go_sem] at fhk2
        rcases it_some h with ⟨hk3, h⟩ | ⟨hk3, h⟩
        · try simp only [go_sem, n1, n2, n3, n4, ghk1na, ghk1nb, ghk2, hhk2] at hk3
          all_goals
          obtain rfl := so_some h
          refine ⟨0, fun L hL => ?_⟩
          simp only [go_sem, ir27, ghk1na, ghk1nb, ghk2, hhk2, fhk2, hk3]
        · try simp only [go_sem, n1, n2, n3, n4, ghk1na, ghk1nb, ghk2, hhk2] at hk3
          all_goals
          obtain ⟨hk4, h⟩ := ck_some h
          try simp only [go_sem, n1, n2, n3, n4, ghk1na, ghk1nb, ghk2, hhk2, hk3] at hk4
          all_goals
          obtain ⟨y_5, hk5, h⟩ := bd_some h
          have fhk5 := Fs_impl_SumOfBytes hk5
          try simp only [go_sem] at fhk5
          obtain ⟨hk6, h⟩ := ck_some h
          have lhk6 := ix_lt hk6
          have xhk6 := getD_mapD byteAV b lhk6
          try simp only [go_sem] at lhk6
          try simp only [go_sem] at xhk6
          try simp only [go_sem, n1, n2, n3, n4, ghk1na, ghk1nb, ghk2, hhk2, hk3, hk4] at hk6
          all_goals
          obtain ⟨hk7, h⟩ := ck_some h
          have lhk7 := ix_lt hk7
          have xhk7 := getD_mapD byteAV b lhk7
          try simp only [go_sem] at lhk7
          try simp only [go_sem] at xhk7
          try simp only [go_sem, n1, n2, n3, n4, ghk1na, ghk1nb, ghk2, hhk2, hk3, hk4, hk6] at hk7
          all_goals
          rcases it_some h with ⟨hk8, h⟩ | ⟨hk8, h⟩
          · try simp only [go_sem, n1, n2, n3, n4, ghk1na, ghk1nb, ghk2, hhk2, hk3, hk4, hk6, hk7] at hk8
            all_goals
            obtain rfl := so_some h
            refine ⟨0, fun L hL => ?_⟩
            simp only [go_sem, ir27, ghk1na, ghk1nb, ghk2, hhk2, fhk2, hk3, hk4, fhk5, hk6, lhk6, xhk6, hk7, lhk7, xhk7, hk8]
          · try simp only [go_sem, n1, n2, n3, n4, ghk1na, ghk1nb, ghk2, hhk2, hk3, hk4, hk6, hk7] at hk8
            all_goals
            obtain rfl := so_some h
            refine ⟨0, fun L hL => ?_⟩
            simp only [go_sem, ir27, ghk1na, ghk1nb, ghk2, hhk2, fhk2, hk3, hk4, fhk5, hk6, lhk6, xhk6, hk7, lhk7, xhk7, hk8]
      · have ghk2n := no_f ghk2
        rcases or_t ghk2n with ghk2na | ⟨ghk2na, ghk2nb⟩
        · try simp only [go_sem, n1, n2, n3, n4, ghk1na, ghk1nb] at ghk2na
          all_goals
          rcases it_some h with ⟨hk3, h⟩ | ⟨hk3, h⟩
          · try simp only [go_sem, n1, n2, n3, n4, ghk1na, ghk1nb, ghk2na] at hk3
            all_goals
            obtain rfl := so_some h
            refine ⟨0, fun L hL => ?_⟩
            simp only [go_sem, ir27, ghk1na, ghk1nb, ghk2na, hk3]
          · try simp only [go_sem, n1, n2, n3, n4, ghk1na, ghk1nb, ghk2na] at hk3
            all_goals
            obtain ⟨hk4, h⟩ := ck_some h
            try simp only [go_sem, n1, n2, n3, n4, ghk1na, ghk1nb, ghk2na, hk3] at hk4
            all_goals
            obtain ⟨y_5, hk5, h⟩ := bd_some h
            have fhk5 := Fs_impl_SumOfBytes hk5
            try simp only [go_sem] at fhk5
            obtain ⟨hk6, h⟩ := ck_some h
            have lhk6 := ix_lt hk6
            have xhk6 := getD_mapD byteAV b lhk6
            try simp only [go_sem] at lhk6
            try simp only [go_sem] at xhk6
            try simp only [go_sem, n1, n2, n3, n4, ghk1na, ghk1nb, ghk2na, hk3, hk4] at hk6
            all_goals
            obtain ⟨hk7, h⟩ := ck_some h
            have lhk7 := ix_lt hk7
            have xhk7 := getD_mapD byteAV b lhk7
            try simp only [go_sem] at lhk7
            try simp only [go_sem] at xhk7
            try simp only [go_sem, n1, n2, n3, n4, ghk1na, ghk1nb, ghk2na, hk3, hk4, hk6] at hk7
            all_goals
            rcases it_some h with ⟨hk8, h⟩ | ⟨hk8, h⟩
            · try simp only [go_sem, n1, n2, n3, n4, ghk1na, ghk1nb, ghk2na, hk3, hk4, hk6, hk7] at hk8
              all_goals
              obtain rfl := so_some h
              refine ⟨0, fun L hL => ?_⟩
              simp only [go_sem, ir27, ghk1na, ghk1nb, ghk2na, hk3, hk4, fhk5, hk6, lhk6, xhk6, hk7, lhk7, xhk7, hk8]
            · try simp only [go_sem, n1, n2, n3, n4, ghk1na, ghk1nb, ghk2na, hk3, hk4, hk6, hk7] at hk8
              all_goals
              obtain rfl := so_some h
              refine ⟨0, fun L hL => ?_⟩
              simp only [go_sem, ir27, ghk1na, ghk1nb, ghk2na, hk3, hk4, fhk5, hk6, lhk6, xhk6, hk7, lhk7, xhk7, hk8]
        · try simp only [go_sem, n1, n2, n3, n4, ghk1na, ghk1nb] at ghk2na
          all_goals
          try simp only [go_sem, n1, n2, n3, n4, ghk1na, ghk1nb, ghk2na] at ghk2nb
          all_goals
          rcases it_some h with ⟨hk3, h⟩ | ⟨hk3, h⟩
          · try simp only [go_sem, n1, n2, n3, n4, ghk1na, ghk1nb, ghk2na, ghk2nb] at hk3
            all_goals
            obtain rfl := so_some h
            refine ⟨0, fun L hL => ?_⟩
            simp only [go_sem, ir27, ghk1na, ghk1nb, ghk2na, ghk2nb, hk3]
          · try simp only [go_sem, n1, n2, n3, n4, ghk1na, ghk1nb, ghk2na, ghk2nb] at hk3
            all_goals
            obtain ⟨hk4, h⟩ := ck_some h
            try simp only [go_sem, n1, n2, n3, n4, ghk1na, ghk1nb, ghk2na, ghk2nb, hk3] at hk4
            all_goals
            obtain ⟨y_5, hk5, h⟩ := bd_some h
            have fhk5 := Fs_impl_SumOfBytes hk5
            try simp only [go_sem] at fhk5
            obtain ⟨hk6, h⟩ := ck_some h
            have lhk6 := ix_lt hk6
            have xhk6 := getD_mapD byteAV b lhk6
            try simp only [go_sem] at lhk6
            try simp only [go_sem] at xhk6
            try simp only [go_sem, n1, n2, n3, n4, ghk1na, ghk1nb, ghk2na, ghk2nb, hk3, hk4] at hk6
            all_goals
            obtain ⟨hk7, h⟩ := ck_some h
            have lhk7 := ix_lt hk7
            have xhk7 := getD_mapD byteAV b lhk7
            try simp only [go_sem] at lhk7
            try simp only [go_sem] at xhk7
            try simp only [go_sem, n1, n2, n3, n4, ghk1na, ghk1nb, ghk2na, ghk2nb, hk3, hk4, hk6] at hk7
            all_goals
            rcases it_some h with ⟨hk8, h⟩ | ⟨hk8, h⟩
            · try simp only [go_sem, n1, n2, n3, n4, ghk1na, ghk1nb, ghk2na, ghk2nb, hk3, hk4, hk6, hk7] at hk8
              all_goals
              obtain rfl := so_some h
              refine ⟨0, fun L hL => ?_⟩
              simp only [go_sem, ir27, ghk1na, ghk1nb, ghk2na, ghk2nb, hk3, hk4, fhk5, hk6, lhk6, xhk6, hk7, lhk7, xhk7, hk8]
            · try simp only [go_sem, n1, n2, n3, n4, ghk1na, ghk1nb, ghk2na, ghk2nb, hk3, hk4, hk6, hk7] at hk8
              all_goals
              obtain rfl := so_some h
              refine ⟨0, fun L hL => ?_⟩
              simp only [go_sem, ir27, ghk1na, ghk1nb, ghk2na, ghk2nb, hk3, hk4, fhk5, hk6, lhk6, xhk6, hk7, lhk7, xhk7, hk8]


def ir9_v : List Nat := [0, 2, 3, 4]
def ir9 : AFn := ⟨1, 4, .seq (.region false [
    ⟨.var 1, 2, none, .mov (.c (.int .i64 (0)))⟩,
    ⟨.var 2, 3, none, .mov (.c (.int .i64 (0)))⟩])
 (.seq (.region false [
    ⟨.push, 5, none, .mov (.v 0)⟩,
    ⟨.push, 6, none, .call 27 [(.s 0), (.c (.fn (.func 28) [] []))]⟩,
    ⟨.var 3, 4, none, .mov (.s 0)⟩])
 (.seq (.test false [
    ⟨.push, 7, none, .mov (.v 3)⟩,
    ⟨.push, 8, none, .bin false .neq (.s 0) (.c (.int .i64 (0)))⟩] (.s 0)
  (.seq (.region false [
      ⟨.push, 9, none, .mov (.v 3)⟩,
      ⟨.var 1, 2, none, .mov (.c (.int .i64 (0)))⟩,
      ⟨.var 2, 3, none, .mov (.s 0)⟩])
   (.ret))
  (.skip))
 (.seq (.region false [
    ⟨.push, 10, none, .mov (.v 0)⟩,
    ⟨.push, 11, none, .ixAddr 1 (.s 0) (.c (.int .i64 (0)))⟩,
    ⟨.push, 12, none, .load false 1 (.s 0)⟩,
    ⟨.push, 13, none, .conv .i64 (.s 0)⟩,
    ⟨.var 1, 2, none, .mov (.s 0)⟩,
    ⟨.var 2, 3, none, .mov (.c (.int .i64 (0)))⟩])
 (.ret)))), [.t 1, .t 2]⟩
noncomputable def t_impl_KindOfPacked : List (Nat × Ctr) := [(27, c_impl_checkPacked__impl_KindOfPacked_c1)]
theorem lk_impl_KindOfPacked_27 : look t_impl_KindOfPacked 27 = some c_impl_checkPacked__impl_KindOfPacked_c1 := rfl
noncomputable def c_impl_KindOfPacked : Ctr := mkF t_impl_KindOfPacked ir9 [.bor]
theorem s_impl_KindOfPacked : Sound Try.prog 9 c_impl_KindOfPacked := mkF_sound _ rfl (snd_cons s_impl_checkPacked__impl_KindOfPacked_c1 snd_nil) (by kernel_rfl : chkFn Try.prog 9 ir9 ir9_v = true)
theorem M_impl_KindOfPacked : c_impl_KindOfPacked.modes = [.bor] := rfl
theorem Fl_impl_KindOfPacked : c_impl_KindOfPacked.flat = true := rfl
attribute [go_sem] M_impl_KindOfPacked Fl_impl_KindOfPacked
attribute [go_sem] lk_impl_KindOfPacked_27
theorem Fs_impl_KindOfPacked {b : List UInt8} {y_ : Int × Int} (h : impl_KindOfPacked b = some y_) : c_impl_KindOfPacked.F [.sl 1 (List.map byteAV b)] = ⟨true, .tup [.int .i64 y_.1, .int .i64 y_.2], [.any]⟩ := by
  refine mkF_E rfl ?_
  dsimp only [impl_KindOfPacked] at h
  obtain ⟨y_1, hk1, h⟩ := bd_some h
  have fhk1 := Fs_impl_checkPacked__impl_KindOfPacked_c1 hk1
  try simp only [go_sem] at fhk1
  rcases it_some h with ⟨hk2, h⟩ | ⟨hk2, h⟩
  · try simp only [go_sem, n1, n2, n3, n4] at hk2
    all_goals
    obtain rfl := so_some h
    refine ⟨0, fun L hL => ?_⟩
    simp only [go_sem, ir9, fhk1, hk2]
  · try simp only [go_sem, n1, n2, n3, n4] at hk2
    all_goals
    obtain ⟨hk3, h⟩ := ck_some h
    have lhk3 := ix_lt hk3
    have xhk3 := getD_mapD byteAV b lhk3
    try simp only [go_sem] at lhk3
    try simp only [go_sem] at xhk3
    try simp only [go_sem, n1, n2, n3, n4, hk2] at hk3
    all_goals
    obtain rfl := so_some h
    refine ⟨0, fun L hL => ?_⟩
    simp only [go_sem, ir9, fhk1, hk2, hk3, lhk3, xhk3]


def ir10_b0 : IR := .seq (.test false [
    ⟨.push, 11, none, .mov (.v 3)⟩,
    ⟨.push, 12, none, .mov (.v 0)⟩,
    ⟨.push, 13, none, .len false (.s 0)⟩,
    ⟨.push, 14, none, .bin false .lss (.s 2) (.s 0)⟩] (.s 0)
  (.skip)
  (.exit 0))
 (.seq (.block 1 (.anyo 9 [
     ⟨.slot 0, 17, none, .mov (.v 0)⟩,
     ⟨.slot 1, 18, none, .mov (.v 3)⟩,
     ⟨.slot 2, 19, none, .ixAddr 1 (.s 0) (.s 1)⟩,
     ⟨.slot 3, 20, none, .load false 1 (.s 2)⟩,
     ⟨.slot 4, 21, none, .mov (.v 1)⟩,
     ⟨.slot 5, 22, none, .mov (.v 3)⟩,
     ⟨.slot 6, 23, none, .ixAddr 1 (.s 4) (.s 5)⟩,
     ⟨.slot 7, 24, none, .load false 1 (.s 6)⟩,
     ⟨.slot 8, 25, none, .bin false .neq (.s 3) (.s 7)⟩] [] (.cond (.s 8)
   (.seq (.region false [
       ⟨.var 2, 4, none, .mov (.c (.bool false))⟩])
    (.ret))
   (.skip))))
 (.region false [
   ⟨.push, 15, none, .mov (.v 3)⟩,
   ⟨.push, 16, none, .bin false .add (.s 0) (.c (.int .i64 (1)))⟩,
   ⟨.var 3, 5, none, .mov (.s 0)⟩]))
def ir10_k0 : List Bool := [true, true, false, true]
def ir10_o0 : List Bool := [false, false, false, false]
def ir10_r0 : List Bool := [false, false, true, false]
def ir10_v : List Nat := [0, 1, 4, 5]
def ir10 : AFn := ⟨2, 4, .seq (.region false [
    ⟨.var 2, 4, none, .mov (.c (.bool false))⟩])
 (.seq (.test false [
    ⟨.push, 6, none, .mov (.v 0)⟩,
    ⟨.push, 7, none, .len false (.s 0)⟩,
    ⟨.push, 8, none, .mov (.v 1)⟩,
    ⟨.push, 9, none, .len false (.s 0)⟩,
    ⟨.push, 10, none, .bin false .neq (.s 2) (.s 0)⟩] (.s 0)
  (.seq (.region false [
      ⟨.var 2, 4, none, .mov (.c (.bool false))⟩])
   (.ret))
  (.skip))
 (.seq (.seq (.region false [
     ⟨.var 3, 5, none, .mov (.c (.int .i64 (0)))⟩])
  (.block 0 (.loop ir10_k0 ir10_o0 ir10_r0 ir10_b0)))
 (.seq (.region false [
    ⟨.var 2, 4, none, .mov (.c (.bool true))⟩])
 (.ret)))), [.t 2]⟩
noncomputable def t_laws_eqByteS : List (Nat × Ctr) := []
noncomputable def c_laws_eqByteS : Ctr := mkF t_laws_eqByteS ir10 [.bor, .bor]
theorem s_laws_eqByteS : Sound Try.prog 10 c_laws_eqByteS := mkF_sound _ rfl snd_nil (by kernel_rfl : chkFn Try.prog 10 ir10 ir10_v = true)
theorem M_laws_eqByteS : c_laws_eqByteS.modes = [.bor, .bor] := rfl
theorem Fl_laws_eqByteS : c_laws_eqByteS.flat = true := rfl
attribute [go_sem] M_laws_eqByteS Fl_laws_eqByteS
def E_laws_eqByteS_l1 (a : List UInt8) (b : List UInt8) : Int → St
  | i => ⟨[.sl 1 (List.map byteAV a), .sl 1 (List.map byteAV b), .any, .int .i64 i], [], [], true⟩
def R_laws_eqByteS_l1 (a : List UInt8) (b : List UInt8) : (Unit ⊕ Bool) → Res
  | .inl y => (.exit 0, ⟨[.any, .any, .any, .any], [], [], true⟩)
  | .inr y => (.ret, ⟨[.any, .any, .bool y, .any], [], [], true⟩)
theorem laws_eqByteS_l1_ex {a : List UInt8} {b : List UInt8} {sgm_ : Int} {rho_ : Unit ⊕ Bool} (h : whileE (laws_eqByteS_l1 a b) sgm_ = some rho_) : ∃ L0, ∀ L, L0 ≤ L → iter (exec (look t_laws_eqByteS) L ir10_b0) ir10_k0 ir10_o0 ir10_r0 L (E_laws_eqByteS_l1 a b sgm_) = R_laws_eqByteS_l1 a b rho_ := by
  refine loop_ex (E := E_laws_eqByteS_l1 a b) (R := R_laws_eqByteS_l1 a b) (fun y => by first | (intro c; cases c) | (rcases y with y | y <;> (intro c; cases c)) | (rcases y with y | y | y <;> (intro c; cases c))) ?_ h
  clear h
  intro i o_ h
  dsimp only [laws_eqByteS_l1] at h
  rcases it_some h with ⟨hk2, h⟩ | ⟨hk2, h⟩
  · try simp only [go_sem, n1, n2, n3, n4] at hk2
    all_goals
    obtain ⟨hk3, h⟩ := ck_some h
    have lhk3 := ix_lt hk3
    have xhk3 := getD_mapD byteAV a lhk3
    try simp only [go_sem] at lhk3
    try simp only [go_sem] at xhk3
    try simp only [go_sem, n1, n2, n3, n4, hk2] at hk3
    all_goals
    obtain ⟨hk4, h⟩ := ck_some h
    have lhk4 := ix_lt hk4
    have xhk4 := getD_mapD byteAV b lhk4
    try simp only [go_sem] at lhk4
    try simp only [go_sem] at xhk4
    try simp only [go_sem, n1, n2, n3, n4, hk2, hk3] at hk4
    all_goals
    rcases it_some h with ⟨hk5, h⟩ | ⟨hk5, h⟩
    · try simp only [go_sem, n1, n2, n3, n4, hk2, hk3, hk4] at hk5
      all_goals
      obtain rfl := so_some h
      refine ⟨0, fun L hL => ?_⟩
      simp only [go_sem, ir10, E_laws_eqByteS_l1, R_laws_eqByteS_l1, ir10_b0, ir10_k0, ir10_o0, ir10_r0, hk2, hk3, lhk3, xhk3, hk4, lhk4, xhk4, hk5]
    · try simp only [go_sem, n1, n2, n3, n4, hk2, hk3, hk4] at hk5
      all_goals
      obtain rfl := so_some h
      refine ⟨0, fun L hL => ?_⟩
      simp only [go_sem, ir10, E_laws_eqByteS_l1, R_laws_eqByteS_l1, ir10_b0, ir10_k0, ir10_o0, ir10_r0, hk2, hk3, lhk3, xhk3, hk4, lhk4, xhk4, hk5]
  · try simp only [go_sem, n1, n2, n3, n4] at hk2
    all_goals
    obtain rfl := so_some h
    refine ⟨0, fun L hL => ?_⟩
    simp only [go_sem, ir10, E_laws_eqByteS_l1, R_laws_eqByteS_l1, ir10_b0, ir10_k0, ir10_o0, ir10_r0, hk2]

theorem Fs_laws_eqByteS {a : List UInt8} {b : List UInt8} {y_ : Bool} (h : laws_eqByteS a b = some y_) : c_laws_eqByteS.F [.sl 1 (List.map byteAV a), .sl 1 (List.map byteAV b)] = ⟨true, .bool y_, [.any, .any]⟩ := by
  refine mkF_E rfl ?_
  dsimp only [laws_eqByteS] at h
  rcases it_some h with ⟨hk1, h⟩ | ⟨hk1, h⟩
  · try simp only [go_sem, n1, n2, n3, n4] at hk1
    all_goals
    obtain rfl := so_some h
    refine ⟨0, fun L hL => ?_⟩
    simp only [go_sem, ir10, E_laws_eqByteS_l1, R_laws_eqByteS_l1, ir10_k0, ir10_o0, ir10_r0, hk1]
  · try simp only [go_sem, n1, n2, n3, n4] at hk1
    all_goals
    obtain ⟨y_6, hk6, h⟩ := bd_some h
    obtain ⟨Lhk6, ehk6⟩ := laws_eqByteS_l1_ex hk6
    rcases y_6 with y_6a | y_6b
    · dsimp only at h
      obtain rfl := so_some h
      refine ⟨Lhk6, fun L hL => ?_⟩
      have ehk6 := ehk6 L (by omega)
      try simp only [go_sem, E_laws_eqByteS_l1, R_laws_eqByteS_l1, ir10_k0, ir10_o0, ir10_r0] at ehk6
      simp only [go_sem, ir10, E_laws_eqByteS_l1, R_laws_eqByteS_l1, ir10_k0, ir10_o0, ir10_r0, hk1, ehk6]
    · dsimp only at h
      obtain rfl := so_some h
      refine ⟨Lhk6, fun L hL => ?_⟩
      have ehk6 := ehk6 L (by omega)
      try simp only [go_sem, E_laws_eqByteS_l1, R_laws_eqByteS_l1, ir10_k0, ir10_o0, ir10_r0] at ehk6
      simp only [go_sem, ir10, E_laws_eqByteS_l1, R_laws_eqByteS_l1, ir10_k0, ir10_o0, ir10_r0, hk1, ehk6]


def ir3_v : List Nat := [0, 2, 3, 4, 5, 6, 7]
def ir3 : AFn := ⟨1, 7, .seq (.region false [
    ⟨.var 1, 2, none, .mov (.c (.bool false))⟩])
 (.seq (.test false [
    ⟨.push, 8, none, .mov (.v 0)⟩,
    ⟨.push, 9, none, .len false (.s 0)⟩,
    ⟨.push, 10, none, .bin false .gtr (.s 0) (.c (.int .i64 (1048576)))⟩] (.s 0)
  (.seq (.region false [
      ⟨.var 1, 2, none, .mov (.c (.bool true))⟩])
   (.ret))
  (.skip))
 (.seq (.region false [
    ⟨.push, 12, none, .mov (.v 0)⟩,
    ⟨.push, 13, none, .call 8 [(.s 0)]⟩,
    ⟨.push, 14, none, .call 7 [(.s 0)]⟩,
    ⟨.push, 11, none, .mov (.s 0)⟩,
    ⟨.push, 15, none, .ext (.s 0) 0⟩,
    ⟨.push, 16, none, .ext (.s 1) 1⟩,
    ⟨.var 2, 3, none, .mov (.s 1)⟩,
    ⟨.var 3, 4, none, .mov (.s 0)⟩])
 (.seq (.region false [
    ⟨.push, 17, none, .mov (.v 0)⟩,
    ⟨.push, 18, none, .call 8 [(.s 0)]⟩,
    ⟨.var 4, 5, none, .mov (.s 0)⟩])
 (.seq (.region false [
    ⟨.push, 20, none, .mov (.v 4)⟩,
    ⟨.push, 21, none, .call 9 [(.s 0)]⟩,
    ⟨.push, 19, none, .mov (.s 0)⟩,
    ⟨.push, 22, none, .ext (.s 0) 0⟩,
    ⟨.push, 23, none, .ext (.s 1) 1⟩,
    ⟨.var 5, 6, none, .mov (.s 1)⟩,
    ⟨.var 6, 7, none, .mov (.s 0)⟩])
 (.seq (.test false [
    ⟨.push, 24, none, .mov (.v 5)⟩,
    ⟨.push, 25, none, .mov (.v 2)⟩,
    ⟨.push, 26, none, .bin false .neq (.s 1) (.s 0)⟩,
    ⟨.push, 27, none, .mov (.s 0)⟩,
    ⟨.push, 28, (some ((.s 0), false)), .mov (.v 6)⟩,
    ⟨.push, 29, (some ((.s 1), false)), .mov (.v 3)⟩,
    ⟨.push, 30, (some ((.s 2), false)), .bin false .neq (.s 1) (.s 0)⟩,
    ⟨.push, 31, none, .pick (.s 3) (.c (.bool true)) (.s 0)⟩] (.s 0)
  (.seq (.region false [
      ⟨.var 1, 2, none, .mov (.c (.bool false))⟩])
   (.ret))
  (.skip))
 (.seq (.test false [
    ⟨.push, 32, none, .mov (.v 4)⟩,
    ⟨.push, 33, none, .mov (.v 0)⟩,
    ⟨.push, 34, none, .call 8 [(.s 0)]⟩,
    ⟨.push, 35, none, .call 10 [(.s 2), (.s 0)]⟩,
    ⟨.push, 36, none, .un .not (.s 0)⟩] (.s 0)
  (.seq (.region false [
      ⟨.var 1, 2, none, .mov (.c (.bool false))⟩])
   (.ret))
  (.skip))
 (.seq (.region false [
    ⟨.var 1, 2, none, .mov (.c (.bool true))⟩])
 (.ret)))))))), [.t 1]⟩
noncomputable def t_laws_FnExactKindOfPacked : List (Nat × Ctr) := [(8, c_laws_toByteS), (7, c_spec_KindOfPacked), (9, c_impl_KindOfPacked), (10, c_laws_eqByteS)]
theorem lk_laws_FnExactKindOfPacked_8 : look t_laws_FnExactKindOfPacked 8 = some c_laws_toByteS := rfl
theorem lk_laws_FnExactKindOfPacked_7 : look t_laws_FnExactKindOfPacked 7 = some c_spec_KindOfPacked := rfl
theorem lk_laws_FnExactKindOfPacked_9 : look t_laws_FnExactKindOfPacked 9 = some c_impl_KindOfPacked := rfl
theorem lk_laws_FnExactKindOfPacked_10 : look t_laws_FnExactKindOfPacked 10 = some c_laws_eqByteS := rfl
noncomputable def c_laws_FnExactKindOfPacked : Ctr := mkF t_laws_FnExactKindOfPacked ir3 [.bor]
theorem s_laws_FnExactKindOfPacked : Sound Try.prog 3 c_laws_FnExactKindOfPacked := mkF_sound _ rfl (snd_cons s_laws_toByteS (snd_cons s_spec_KindOfPacked (snd_cons s_impl_KindOfPacked (snd_cons s_laws_eqByteS snd_nil)))) (by kernel_rfl : chkFn Try.prog 3 ir3 ir3_v = true)
theorem M_laws_FnExactKindOfPacked : c_laws_FnExactKindOfPacked.modes = [.bor] := rfl
theorem Fl_laws_FnExactKindOfPacked : c_laws_FnExactKindOfPacked.flat = true := rfl
attribute [go_sem] M_laws_FnExactKindOfPacked Fl_laws_FnExactKindOfPacked
attribute [go_sem] lk_laws_FnExactKindOfPacked_8 lk_laws_FnExactKindOfPacked_7 lk_laws_FnExactKindOfPacked_9 lk_laws_FnExactKindOfPacked_10
theorem Fs_laws_FnExactKindOfPacked {aB : List UInt8} {y_ : Bool} (h : laws_FnExactKindOfPacked aB = some y_) : c_laws_FnExactKindOfPacked.F [.sl 1 (List.map byteAV aB)] = ⟨true, .bool y_, [.any]⟩ := by
  refine mkF_E rfl ?_
  dsimp only [laws_FnExactKindOfPacked] at h
  rcases it_some h with ⟨hk1, h⟩ | ⟨hk1, h⟩
  · try simp only [go_sem, n1, n2, n3, n4] at hk1
    all_goals
    obtain rfl := so_some h
    refine ⟨0, fun L hL => ?_⟩
    simp only [go_sem, ir3, hk1]
  · try simp only [go_sem, n1, n2, n3, n4] at hk1
    all_goals
    obtain ⟨y_2, hk2, h⟩ := bd_some h
    have fhk2 := Fs_laws_toByteS hk2
    try simp only [go_sem] at fhk2
    obtain ⟨y_3, hk3, h⟩ := bd_some h
    have fhk3 := Fs_spec_KindOfPacked hk3
    try simp only [go_sem] at fhk3
    obtain ⟨y_4, hk4, h⟩ := bd_some h
    have fhk4 := Fs_impl_KindOfPacked hk4
    try simp only [go_sem] at fhk4
    rcases it_some h with ⟨hk5, h⟩ | ⟨hk5, h⟩
    · try simp only [go_sem, n1, n2, n3, n4, hk1] at hk5
      all_goals
      obtain rfl := so_some h
      refine ⟨0, fun L hL => ?_⟩
      simp only [go_sem, ir3, hk1, fhk2, fhk3, fhk4, hk5]
    · try simp only [go_sem, n1, n2, n3, n4, hk1] at hk5
      all_goals
      obtain ⟨y_6, hk6, h⟩ := bd_some h
      have fhk6 := Fs_laws_eqByteS hk6
      try simp only [go_sem] at fhk6
      rcases it_some h with ⟨hk7, h⟩ | ⟨hk7, h⟩
      · try simp only [go_sem, n1, n2, n3, n4, hk1, hk5] at hk7
        all_goals
        obtain rfl := so_some h
        refine ⟨0, fun L hL => ?_⟩
        simp only [go_sem, ir3, hk1, fhk2, fhk3, fhk4, hk5, fhk6, hk7]
      · try simp only [go_sem, n1, n2, n3, n4, hk1, hk5] at hk7
        all_goals
        obtain rfl := so_some h
        refine ⟨0, fun L hL => ?_⟩
        simp only [go_sem, ir3, hk1, fhk2, fhk3, fhk4, hk5, fhk6, hk7]


end Go.Proofs.Ytndkifgpbmaicaa
