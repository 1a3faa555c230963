/- Codes and contracts of the functions that RF reaches, and that their typed forms say what they do. No condition. -/
import Derived.Test.YtkdojfpjnnceiaaDoorRFT
import Derived.Test.YtkdojfpjnnceiaaDoorEngSCut
import Derived.Test.YtkdojfpjnnceiaaDoorEngSF
import Derived.Test.YtkdojfpjnnceiaaDoorEngSRd
import Derived.Test.YtkdojfpjnnceiaaDoorRows
import Derived.WalkKit
namespace Go.Proofs.YtkdojfpjnnceiaaDoor
open Go Go.RowKit
set_option linter.unusedVariables false
set_option linter.unusedSimpArgs false
set_option maxRecDepth 10000

def ir23_v : List Nat := [0]
def ir23 : AFn := ⟨0, 1, .seq (.region false [
    ⟨.var 0, 0, none, .newnil 1⟩])
 (.seq (.region false [
    ⟨.push, 1, none, .mkSl 1 (.str []) 5 [(0, (.c (.str [115, 116, 97, 114]))), (1, (.c (.str [111, 98, 115, 101, 114, 118, 101, 114]))), (2, (.c (.str [98, 114, 105, 103, 104, 116]))), (3, (.c (.str [102, 97, 105, 110, 116]))), (4, (.c (.str [116, 119, 105, 110])))]⟩,
    ⟨.var 0, 0, none, .mov (.s 0)⟩])
 (.ret)), [.t 0]⟩
noncomputable def t_spec_l26Names : List (Nat × Ctr) := []
noncomputable def c_spec_l26Names : Ctr := mkF t_spec_l26Names ir23 []
theorem s_spec_l26Names : Sound Tryd.prog 23 c_spec_l26Names := mkF_sound _ rfl snd_nil (by kernel_rfl : chkFn Tryd.prog 23 ir23 ir23_v = true)
theorem M_spec_l26Names : c_spec_l26Names.modes = [] := rfl
theorem Fl_spec_l26Names : c_spec_l26Names.flat = true := rfl
attribute [go_sem] M_spec_l26Names Fl_spec_l26Names
theorem Fs_spec_l26Names  {y_ : (List (List UInt8))} (h : spec_l26Names = some y_) : c_spec_l26Names.F [] = ⟨true, .fresh 1 (List.map AV.str y_), []⟩ := by
  refine mkF_E (by simp only [flatA, flatB, flat1, List.all_cons, List.all_nil, Bool.and_self, flatE_map (f := AV.str) (fun _ => rfl)]) ?_
  dsimp only [spec_l26Names] at h
  obtain rfl := so_some h
  refine ⟨0, fun L hL => ?_⟩
  simp only [go_sem, ir23]


def ir22_b0 : IR := .seq (.test false [
    ⟨.push, 6, none, .mov (.v 3)⟩,
    ⟨.push, 7, none, .mov (.v 0)⟩,
    ⟨.push, 8, none, .len false (.s 0)⟩,
    ⟨.push, 9, none, .bin false .lss (.s 2) (.s 0)⟩] (.s 0)
  (.skip)
  (.exit 0))
 (.seq (.block 1 (.test false [
     ⟨.push, 12, none, .mov (.v 0)⟩,
     ⟨.push, 13, none, .mov (.v 3)⟩,
     ⟨.push, 14, none, .ixAddr 1 (.s 1) (.s 0)⟩,
     ⟨.push, 15, none, .load false 1 (.s 0)⟩,
     ⟨.push, 16, none, .mov (.v 1)⟩,
     ⟨.push, 17, none, .bin false .eql (.s 1) (.s 0)⟩] (.s 0)
   (.seq (.region false [
       ⟨.push, 18, none, .mov (.v 3)⟩,
       ⟨.var 2, 4, none, .mov (.s 0)⟩])
    (.ret))
   (.skip)))
 (.region false [
   ⟨.push, 10, none, .mov (.v 3)⟩,
   ⟨.push, 11, none, .bin false .add (.s 0) (.c (.int .i64 (1)))⟩,
   ⟨.var 3, 5, none, .mov (.s 0)⟩]))
def ir22_k0 : List Bool := [true, true, false, true]
def ir22_o0 : List Bool := [false, false, false, false]
def ir22_r0 : List Bool := [false, false, true, false]
def ir22_v : List Nat := [0, 1, 4, 5]
def ir22 : AFn := ⟨2, 4, .seq (.region false [
    ⟨.var 2, 4, none, .mov (.c (.int .i64 (0)))⟩])
 (.seq (.seq (.region false [
     ⟨.var 3, 5, none, .mov (.c (.int .i64 (0)))⟩])
  (.block 0 (.loop ir22_k0 ir22_o0 ir22_r0 ir22_b0)))
 (.seq (.region false [
    ⟨.var 2, 4, none, .mov (.c (.int .i64 (-1)))⟩])
 (.ret))), [.t 2]⟩
noncomputable def t_spec_l25Find : List (Nat × Ctr) := []
noncomputable def c_spec_l25Find : Ctr := mkF t_spec_l25Find ir22 [.bor, .bor]
theorem s_spec_l25Find : Sound Tryd.prog 22 c_spec_l25Find := mkF_sound _ rfl snd_nil (by kernel_rfl : chkFn Tryd.prog 22 ir22 ir22_v = true)
theorem M_spec_l25Find : c_spec_l25Find.modes = [.bor, .bor] := rfl
theorem Fl_spec_l25Find : c_spec_l25Find.flat = true := rfl
attribute [go_sem] M_spec_l25Find Fl_spec_l25Find
def E_spec_l25Find_l1 (list : List (List UInt8)) (name : List UInt8) : Int → St
  | i => ⟨[.sl 1 (List.map AV.str list), .str name, .any, .int .i64 i], [], [], true⟩
def R_spec_l25Find_l1 (list : List (List UInt8)) (name : List UInt8) : (Unit ⊕ Int) → Res
  | .inl y => (.exit 0, ⟨[.any, .any, .any, .any], [], [], true⟩)
  | .inr y => (.ret, ⟨[.any, .any, .int .i64 y, .any], [], [], true⟩)
theorem spec_l25Find_l1_ex {list : List (List UInt8)} {name : List UInt8} {sgm_ : Int} {rho_ : Unit ⊕ Int} (h : whileE (spec_l25Find_l1 list name) sgm_ = some rho_) : ∃ L0, ∀ L, L0 ≤ L → iter (exec (look t_spec_l25Find) L ir22_b0) ir22_k0 ir22_o0 ir22_r0 L (E_spec_l25Find_l1 list name sgm_) = R_spec_l25Find_l1 list name rho_ := by
  refine loop_ex (E := E_spec_l25Find_l1 list name) (R := R_spec_l25Find_l1 list name) (fun y => by first | (intro c; cases c) | (rcases y with y | y <;> (intro c; cases c)) | (rcases y with y | y | y <;> (intro c; cases c))) ?_ h
  clear h
  intro i o_ h
  dsimp only [spec_l25Find_l1] at h
  rcases it_some h with ⟨hk1, h⟩ | ⟨hk1, h⟩
  · try simp only [go_sem, n1, n2, n3, n4] at hk1
    all_goals
    obtain ⟨hk2, h⟩ := ck_some h
    have lhk2 := ix_lt hk2
    have xhk2 := getD_mapD AV.str list lhk2
    try simp only [go_sem] at lhk2
    try simp only [go_sem] at xhk2
    try simp only [go_sem, n1, n2, n3, n4, hk1] at hk2
    all_goals
    rcases it_some h with ⟨hk3, h⟩ | ⟨hk3, h⟩
    · try simp only [go_sem, n1, n2, n3, n4, hk1, hk2] at hk3
      all_goals
      obtain rfl := so_some h
      refine ⟨0, fun L hL => ?_⟩
      simp only [go_sem, ir22, E_spec_l25Find_l1, R_spec_l25Find_l1, ir22_b0, ir22_k0, ir22_o0, ir22_r0, hk1, hk2, lhk2, xhk2, hk3]
    · try simp only [go_sem, n1, n2, n3, n4, hk1, hk2] at hk3
      all_goals
      obtain rfl := so_some h
      refine ⟨0, fun L hL => ?_⟩
      simp only [go_sem, ir22, E_spec_l25Find_l1, R_spec_l25Find_l1, ir22_b0, ir22_k0, ir22_o0, ir22_r0, hk1, hk2, lhk2, xhk2, hk3]
  · try simp only [go_sem, n1, n2, n3, n4] at hk1
    all_goals
    obtain rfl := so_some h
    refine ⟨0, fun L hL => ?_⟩
    simp only [go_sem, ir22, E_spec_l25Find_l1, R_spec_l25Find_l1, ir22_b0, ir22_k0, ir22_o0, ir22_r0, hk1]

theorem Fs_spec_l25Find {list : List (List UInt8)} {name : List UInt8} {y_ : Int} (h : spec_l25Find list name = some y_) : c_spec_l25Find.F [.sl 1 (List.map AV.str list), .str name] = ⟨true, .int .i64 y_, [.any, .any]⟩ := by
  refine mkF_E rfl ?_
  dsimp only [spec_l25Find] at h
  obtain ⟨y_4, hk4, h⟩ := bd_some h
  obtain ⟨Lhk4, ehk4⟩ := spec_l25Find_l1_ex hk4
  rcases y_4 with y_4a | y_4b
  · dsimp only at h
    obtain rfl := so_some h
    refine ⟨Lhk4, fun L hL => ?_⟩
    have ehk4 := ehk4 L (by omega)
    try simp only [go_sem, E_spec_l25Find_l1, R_spec_l25Find_l1, ir22_k0, ir22_o0, ir22_r0] at ehk4
    simp only [go_sem, ir22, E_spec_l25Find_l1, R_spec_l25Find_l1, ir22_k0, ir22_o0, ir22_r0, ehk4]
  · dsimp only at h
    obtain rfl := so_some h
    refine ⟨Lhk4, fun L hL => ?_⟩
    have ehk4 := ehk4 L (by omega)
    try simp only [go_sem, E_spec_l25Find_l1, R_spec_l25Find_l1, ir22_k0, ir22_o0, ir22_r0] at ehk4
    simp only [go_sem, ir22, E_spec_l25Find_l1, R_spec_l25Find_l1, ir22_k0, ir22_o0, ir22_r0, ehk4]


def ir20_b0 : IR := .seq (.test false [
    ⟨.push, 9, none, .mov (.v 5)⟩,
    ⟨.push, 10, none, .mov (.v 0)⟩,
    ⟨.push, 11, none, .len true (.s 0)⟩,
    ⟨.push, 12, none, .bin false .lss (.s 2) (.s 0)⟩] (.s 0)
  (.skip)
  (.exit 0))
 (.seq (.block 1 (.test false [
     ⟨.push, 15, none, .mov (.v 0)⟩,
     ⟨.push, 16, none, .mov (.v 5)⟩,
     ⟨.push, 17, none, .ixStr (.s 1) (.s 0)⟩,
     ⟨.push, 18, none, .mov (.v 1)⟩,
     ⟨.push, 19, none, .bin false .eql (.s 1) (.s 0)⟩] (.s 0)
   (.seq (.region false [
       ⟨.push, 20, none, .mov (.v 3)⟩,
       ⟨.push, 21, none, .mov (.v 0)⟩,
       ⟨.push, 22, none, .mov (.v 4)⟩,
       ⟨.push, 23, none, .mov (.v 5)⟩,
       ⟨.push, 24, none, .slice 0 (.s 2) (some (.s 1)) (some (.s 0))⟩,
       ⟨.push, 25, none, .mkSl 1 (.str []) 1 [(0, (.s 0))]⟩,
       ⟨.push, 26, none, .app 1 16 (.str []) (.s 5) (.s 0)⟩,
       ⟨.var 3, 5, none, .mov (.s 0)⟩])
    (.region false [
      ⟨.push, 27, none, .mov (.v 5)⟩,
      ⟨.push, 28, none, .bin false .add (.s 0) (.c (.int .i64 (1)))⟩,
      ⟨.var 4, 6, none, .mov (.s 0)⟩]))
   (.skip)))
 (.region false [
   ⟨.push, 13, none, .mov (.v 5)⟩,
   ⟨.push, 14, none, .bin false .add (.s 0) (.c (.int .i64 (1)))⟩,
   ⟨.var 5, 7, none, .mov (.s 0)⟩]))
def ir20_k0 : List Bool := [true, true, false, true, true, true]
def ir20_o0 : List Bool := [true, false, false, true, true, false]
def ir20_r0 : List Bool := [false, false, true, false, false, false]
def ir20_v : List Nat := [0, 1, 4, 5, 6, 7]
def ir20 : AFn := ⟨2, 6, .seq (.region false [
    ⟨.var 2, 4, none, .newnil 1⟩])
 (.seq (.region false [
    ⟨.push, 8, none, .mkSl 1 (.str []) 0 []⟩,
    ⟨.var 3, 5, none, .mov (.s 0)⟩])
 (.seq (.region false [
    ⟨.var 4, 6, none, .mov (.c (.int .i64 (0)))⟩])
 (.seq (.seq (.region false [
     ⟨.var 5, 7, none, .mov (.c (.int .i64 (0)))⟩])
  (.block 0 (.loop ir20_k0 ir20_o0 ir20_r0 ir20_b0)))
 (.seq (.region false [
    ⟨.push, 29, none, .mov (.v 3)⟩,
    ⟨.push, 30, none, .mov (.v 0)⟩,
    ⟨.push, 31, none, .mov (.v 4)⟩,
    ⟨.push, 32, none, .slice 0 (.s 1) (some (.s 0)) none⟩,
    ⟨.push, 33, none, .mkSl 1 (.str []) 1 [(0, (.s 0))]⟩,
    ⟨.push, 34, none, .app 1 16 (.str []) (.s 4) (.s 0)⟩,
    ⟨.var 2, 4, none, .mov (.s 0)⟩])
 (.ret))))), [.t 2]⟩
noncomputable def t_spec_l01Split : List (Nat × Ctr) := []
noncomputable def c_spec_l01Split : Ctr := mkF t_spec_l01Split ir20 [.bor, .bor]
theorem s_spec_l01Split : Sound Tryd.prog 20 c_spec_l01Split := mkF_sound _ rfl snd_nil (by kernel_rfl : chkFn Tryd.prog 20 ir20 ir20_v = true)
theorem M_spec_l01Split : c_spec_l01Split.modes = [.bor, .bor] := rfl
theorem Fl_spec_l01Split : c_spec_l01Split.flat = true := rfl
attribute [go_sem] M_spec_l01Split Fl_spec_l01Split
def E_spec_l01Split_l1 (s_ : List UInt8) (by_ : UInt8) : ((List (List UInt8)) × Int × Int) → St
  | (out, from_, i) => ⟨[.str s_, .int .u8 (by_.toNat : Int), .any, .own 3200000, .int .i64 from_, .int .i64 i], [], [(3200000, ⟨1, List.map AV.str out⟩)], true⟩
def R_spec_l01Split_l1 (s_ : List UInt8) (by_ : UInt8) (y : (List (List UInt8)) × Int) : Res := (.exit 0, ⟨[.str s_, .any, .any, .own 3200000, .int .i64 y.2, .any], [], [(3200000, ⟨1, List.map AV.str y.1⟩)], true⟩)
theorem spec_l01Split_l1_ex {s_ : List UInt8} {by_ : UInt8} {sgm_ : (List (List UInt8)) × Int × Int} {rho_ : (List (List UInt8)) × Int} (h : whileE (spec_l01Split_l1 s_ by_) sgm_ = some rho_) : ∃ L0, ∀ L, L0 ≤ L → iter (exec (look t_spec_l01Split) L ir20_b0) ir20_k0 ir20_o0 ir20_r0 L (E_spec_l01Split_l1 s_ by_ sgm_) = R_spec_l01Split_l1 s_ by_ rho_ := by
  refine loop_ex (E := E_spec_l01Split_l1 s_ by_) (R := R_spec_l01Split_l1 s_ by_) (fun y => by first | (intro c; cases c) | (rcases y with y | y <;> (intro c; cases c)) | (rcases y with y | y | y <;> (intro c; cases c))) ?_ h
  clear h
  rintro ⟨out, from_, i⟩ o_ h
  dsimp only [spec_l01Split_l1] at h
  rcases it_some h with ⟨hk1, h⟩ | ⟨hk1, h⟩
  · try simp only [go_sem, n1, n2, n3, n4] at hk1
    all_goals
    obtain ⟨hk2, h⟩ := ck_some h
    try simp only [go_sem, n1, n2, n3, n4, hk1] at hk2
    all_goals
    rcases it_some h with ⟨hk3, h⟩ | ⟨hk3, h⟩
    · try simp only [go_sem, n1, n2, n3, n4, hk1, hk2] at hk3
      all_goals
      obtain ⟨hk4, h⟩ := ck_some h
      try simp only [go_sem, n1, n2, n3, n4, hk1, hk2, hk3] at hk4
      all_goals
      obtain ⟨hk5, h⟩ := ck_some h
      try simp only [go_sem, n1, n2, n3, n4, hk1, hk2, hk3, hk4] at hk5
      all_goals
      obtain rfl := so_some h
      refine ⟨0, fun L hL => ?_⟩
      simp only [go_sem, ir20, E_spec_l01Split_l1, R_spec_l01Split_l1, ir20_b0, ir20_k0, ir20_o0, ir20_r0, hk1, hk2, hk3, hk4, hk5]
    · try simp only [go_sem, n1, n2, n3, n4, hk1, hk2] at hk3
      all_goals
      obtain rfl := so_some h
      refine ⟨0, fun L hL => ?_⟩
      simp only [go_sem, ir20, E_spec_l01Split_l1, R_spec_l01Split_l1, ir20_b0, ir20_k0, ir20_o0, ir20_r0, hk1, hk2, hk3]
  · try simp only [go_sem, n1, n2, n3, n4] at hk1
    all_goals
    obtain rfl := so_some h
    refine ⟨0, fun L hL => ?_⟩
    simp only [go_sem, ir20, E_spec_l01Split_l1, R_spec_l01Split_l1, ir20_b0, ir20_k0, ir20_o0, ir20_r0, hk1]

theorem Fs_spec_l01Split {s_ : List UInt8} {by_ : UInt8} {y_ : (List (List UInt8))} (h : spec_l01Split s_ by_ = some y_) : c_spec_l01Split.F [.str s_, .int .u8 (by_.toNat : Int)] = ⟨true, .fresh 1 (List.map AV.str y_), [.any, .any]⟩ := by
  refine mkF_E (by simp only [flatA, flatB, flat1, List.all_cons, List.all_nil, Bool.and_self, flatE_map (f := AV.str) (fun _ => rfl)]) ?_
  dsimp only [spec_l01Split] at h
  obtain ⟨y_6, hk6, h⟩ := bd_some h
  obtain ⟨Lhk6, ehk6⟩ := spec_l01Split_l1_ex hk6
  obtain ⟨hk7, h⟩ := ck_some h
  try simp only [go_sem, n1, n2, n3, n4] at hk7
  all_goals
  obtain ⟨hk8, h⟩ := ck_some h
  try simp only [go_sem, n1, n2, n3, n4, hk7] at hk8
  all_goals
  obtain rfl := so_some h
  refine ⟨Lhk6, fun L hL => ?_⟩
  have ehk6 := ehk6 L (by omega)
  try simp only [go_sem, E_spec_l01Split_l1, R_spec_l01Split_l1, ir20_k0, ir20_o0, ir20_r0, hk7, hk8] at ehk6
  simp only [go_sem, ir20, E_spec_l01Split_l1, R_spec_l01Split_l1, ir20_k0, ir20_o0, ir20_r0, hk7, hk8, ehk6]


def ir44_v : List Nat := [0, 2]
def ir44 : AFn := ⟨1, 2, .seq (.region false [
    ⟨.var 1, 2, none, .mov (.c (.bool false))⟩])
 (.seq (.region false [
    ⟨.push, 3, none, .mov (.v 0)⟩,
    ⟨.push, 4, none, .bin false .geq (.s 0) (.c (.int .u8 (48)))⟩,
    ⟨.push, 5, none, .mov (.s 0)⟩,
    ⟨.push, 6, (some ((.s 0), true)), .mov (.v 0)⟩,
    ⟨.push, 7, (some ((.s 1), true)), .bin false .leq (.s 0) (.c (.int .u8 (57)))⟩,
    ⟨.push, 8, none, .pick (.s 2) (.s 0) (.c (.bool false))⟩,
    ⟨.var 1, 2, none, .mov (.s 0)⟩])
 (.ret)), [.t 1]⟩
noncomputable def t_spec_l01Digit : List (Nat × Ctr) := []
noncomputable def c_spec_l01Digit : Ctr := mkF t_spec_l01Digit ir44 [.bor]
theorem s_spec_l01Digit : Sound Tryd.prog 44 c_spec_l01Digit := mkF_sound _ rfl snd_nil (by kernel_rfl : chkFn Tryd.prog 44 ir44 ir44_v = true)
theorem M_spec_l01Digit : c_spec_l01Digit.modes = [.bor] := rfl
theorem Fl_spec_l01Digit : c_spec_l01Digit.flat = true := rfl
attribute [go_sem] M_spec_l01Digit Fl_spec_l01Digit
theorem Fs_spec_l01Digit {c : UInt8} {y_ : Bool} (h : spec_l01Digit c = some y_) : c_spec_l01Digit.F [.int .u8 (c.toNat : Int)] = ⟨true, .bool y_, [.any]⟩ := by
  refine mkF_E rfl ?_
  dsimp only [spec_l01Digit] at h
  obtain rfl := so_some h
  refine ⟨0, fun L hL => ?_⟩
  simp only [go_sem, ir44]


def ir45_b0 : IR := .seq (.test false [
    ⟨.push, 8, none, .mov (.v 3)⟩,
    ⟨.push, 9, none, .bin false .neq (.s 0) (.c (.int .i64 (0)))⟩] (.s 0)
  (.skip)
  (.exit 0))
 (.seq (.block 1 (.seq (.region false [
      ⟨.push, 12, none, .mov (.v 3)⟩,
      ⟨.push, 13, none, .bin false .rem (.s 0) (.c (.int .i64 (10)))⟩,
      ⟨.var 4, 5, none, .mov (.s 0)⟩])
   (.seq (.test false [
      ⟨.push, 14, none, .mov (.v 4)⟩,
      ⟨.push, 15, none, .bin false .lss (.s 0) (.c (.int .i64 (0)))⟩] (.s 0)
    (.region false [
       ⟨.push, 16, none, .mov (.v 4)⟩,
       ⟨.push, 17, none, .un .neg (.s 0)⟩,
       ⟨.var 4, 5, none, .mov (.s 0)⟩])
    (.skip))
   (.region false [
     ⟨.push, 18, none, .mov (.v 4)⟩,
     ⟨.push, 19, none, .bin false .add (.c (.int .i64 (48))) (.s 0)⟩,
     ⟨.push, 20, none, .conv .u8 (.s 0)⟩,
     ⟨.push, 21, none, .mkSl 1 (.int .u8 (0)) 1 [(0, (.s 0))]⟩,
     ⟨.push, 22, none, .mov (.v 2)⟩,
     ⟨.push, 23, none, .app 1 1 (.int .u8 (0)) (.s 1) (.s 0)⟩,
     ⟨.var 2, 3, none, .mov (.s 0)⟩]))))
 (.region false [
   ⟨.push, 10, none, .mov (.v 3)⟩,
   ⟨.push, 11, none, .bin false .quo (.s 0) (.c (.int .i64 (10)))⟩,
   ⟨.var 3, 4, none, .mov (.s 0)⟩]))
def ir45_k0 : List Bool := [true, false, true, true, false]
def ir45_o0 : List Bool := [true, false, true, false, false]
def ir45_r0 : List Bool := [false, true, false, false, false]
def ir45_v : List Nat := [0, 2, 3, 4, 5]
def ir45 : AFn := ⟨1, 5, .seq (.region false [
    ⟨.var 1, 2, none, .mov (.c (.str []))⟩])
 (.seq (.region false [
    ⟨.push, 6, none, .mkSl 1 (.int .u8 (0)) 0 []⟩,
    ⟨.var 2, 3, none, .mov (.s 0)⟩])
 (.seq (.seq (.region false [
     ⟨.push, 7, none, .mov (.v 0)⟩,
     ⟨.var 3, 4, none, .mov (.s 0)⟩])
  (.block 0 (.loop ir45_k0 ir45_o0 ir45_r0 ir45_b0)))
 (.seq (.test false [
    ⟨.push, 24, none, .mov (.v 2)⟩,
    ⟨.push, 25, none, .len false (.s 0)⟩,
    ⟨.push, 26, none, .bin false .eql (.s 0) (.c (.int .i64 (0)))⟩] (.s 0)
  (.seq (.region false [
      ⟨.var 1, 2, none, .mov (.c (.str [48]))⟩])
   (.ret))
  (.skip))
 (.seq (.test false [
    ⟨.push, 27, none, .mov (.v 0)⟩,
    ⟨.push, 28, none, .bin false .lss (.s 0) (.c (.int .i64 (0)))⟩] (.s 0)
  (.seq (.region false [
      ⟨.push, 29, none, .mov (.v 2)⟩,
      ⟨.push, 30, none, .b2s (.s 0)⟩,
      ⟨.push, 31, none, .bin false .add (.c (.str [45])) (.s 0)⟩,
      ⟨.var 1, 2, none, .mov (.s 0)⟩])
   (.ret))
  (.skip))
 (.seq (.region false [
    ⟨.push, 32, none, .mov (.v 2)⟩,
    ⟨.push, 33, none, .b2s (.s 0)⟩,
    ⟨.var 1, 2, none, .mov (.s 0)⟩])
 (.ret)))))), [.t 1]⟩
noncomputable def t_spec_l01Dec : List (Nat × Ctr) := []
noncomputable def c_spec_l01Dec : Ctr := mkF t_spec_l01Dec ir45 [.bor]
theorem s_spec_l01Dec : Sound Tryd.prog 45 c_spec_l01Dec := mkF_sound _ rfl snd_nil (by kernel_rfl : chkFn Tryd.prog 45 ir45 ir45_v = true)
theorem M_spec_l01Dec : c_spec_l01Dec.modes = [.bor] := rfl
theorem Fl_spec_l01Dec : c_spec_l01Dec.flat = true := rfl
attribute [go_sem] M_spec_l01Dec Fl_spec_l01Dec
def E_spec_l01Dec_l1 (n : Int) : ((List UInt8) × Int) → St
  | (out, k) => ⟨[.int .i64 n, .any, .own 3200000, .int .i64 k, .any], [], [(3200000, ⟨1, List.map byteAV out⟩)], true⟩
def R_spec_l01Dec_l1 (n : Int) (y : (List UInt8)) : Res := (.exit 0, ⟨[.int .i64 n, .any, .own 3200000, .any, .any], [], [(3200000, ⟨1, List.map byteAV y⟩)], true⟩)
theorem spec_l01Dec_l1_ex {n : Int} {sgm_ : (List UInt8) × Int} {rho_ : (List UInt8)} (h : whileE (spec_l01Dec_l1 n) sgm_ = some rho_) : ∃ L0, ∀ L, L0 ≤ L → iter (exec (look t_spec_l01Dec) L ir45_b0) ir45_k0 ir45_o0 ir45_r0 L (E_spec_l01Dec_l1 n sgm_) = R_spec_l01Dec_l1 n rho_ := by
  refine loop_ex (E := E_spec_l01Dec_l1 n) (R := R_spec_l01Dec_l1 n) (fun y => by first | (intro c; cases c) | (rcases y with y | y <;> (intro c; cases c)) | (rcases y with y | y | y <;> (intro c; cases c))) ?_ h
  clear h
  rintro ⟨out, k⟩ o_ h
  dsimp only [spec_l01Dec_l1] at h
  rcases it_some h with ⟨hk1, h⟩ | ⟨hk1, h⟩
  · try simp only [go_sem, n1, n2, n3, n4] at hk1
    all_goals
    obtain ⟨hk2, h⟩ := ck_some h
    try simp only [go_sem, n1, n2, n3, n4, hk1] at hk2
    all_goals
    rcases it_some h with ⟨hk3, h⟩ | ⟨hk3, h⟩
    · try simp only [go_sem, n1, n2, n3, n4, hk1, hk2] at hk3
      all_goals
      obtain ⟨hk4, h⟩ := ck_some h
      try simp only [go_sem, n1, n2, n3, n4, hk1, hk2, hk3] at hk4
      all_goals
      obtain rfl := so_some h
      refine ⟨0, fun L hL => ?_⟩
      simp only [go_sem, ir45, E_spec_l01Dec_l1, R_spec_l01Dec_l1, ir45_b0, ir45_k0, ir45_o0, ir45_r0, hk1, hk2, hk3, hk4]
    · try simp only [go_sem, n1, n2, n3, n4, hk1, hk2] at hk3
      all_goals
      obtain ⟨hk5, h⟩ := ck_some h
      try simp only [go_sem, n1, n2, n3, n4, hk1, hk2, hk3] at hk5
      all_goals
      obtain rfl := so_some h
      refine ⟨0, fun L hL => ?_⟩
      simp only [go_sem, ir45, E_spec_l01Dec_l1, R_spec_l01Dec_l1, ir45_b0, ir45_k0, ir45_o0, ir45_r0, hk1, hk2, hk3, hk5]
  · try simp only [go_sem, n1, n2, n3, n4] at hk1
    all_goals
    obtain rfl := so_some h
    refine ⟨0, fun L hL => ?_⟩
    simp only [go_sem, ir45, E_spec_l01Dec_l1, R_spec_l01Dec_l1, ir45_b0, ir45_k0, ir45_o0, ir45_r0, hk1]

theorem Fs_spec_l01Dec {n : Int} {y_ : (List UInt8)} (h : spec_l01Dec n = some y_) : c_spec_l01Dec.F [.int .i64 n] = ⟨true, .str y_, [.any]⟩ := by
  refine mkF_E rfl ?_
  dsimp only [spec_l01Dec] at h
  obtain ⟨y_6, hk6, h⟩ := bd_some h
  obtain ⟨Lhk6, ehk6⟩ := spec_l01Dec_l1_ex hk6
  rcases it_some h with ⟨hk7, h⟩ | ⟨hk7, h⟩
  · try simp only [go_sem, n1, n2, n3, n4] at hk7
    all_goals
    obtain rfl := so_some h
    refine ⟨Lhk6, fun L hL => ?_⟩
    have ehk6 := ehk6 L (by omega)
    try simp only [go_sem, E_spec_l01Dec_l1, R_spec_l01Dec_l1, ir45_k0, ir45_o0, ir45_r0, hk7] at ehk6
    simp only [go_sem, ir45, E_spec_l01Dec_l1, R_spec_l01Dec_l1, ir45_k0, ir45_o0, ir45_r0, hk7, ehk6]
  · try simp only [go_sem, n1, n2, n3, n4] at hk7
    all_goals
    rcases it_some h with ⟨hk8, h⟩ | ⟨hk8, h⟩
    · try simp only [go_sem, n1, n2, n3, n4, hk7] at hk8
      all_goals
      obtain ⟨hk9, h⟩ := ck_some h
      try simp only [go_sem, n1, n2, n3, n4, hk7, hk8] at hk9
      all_goals
      obtain rfl := so_some h
      refine ⟨Lhk6, fun L hL => ?_⟩
      have ehk6 := ehk6 L (by omega)
      try simp only [go_sem, E_spec_l01Dec_l1, R_spec_l01Dec_l1, ir45_k0, ir45_o0, ir45_r0, hk7, hk8, hk9] at ehk6
      simp only [go_sem, ir45, E_spec_l01Dec_l1, R_spec_l01Dec_l1, ir45_k0, ir45_o0, ir45_r0, hk7, hk8, hk9, ehk6]
    · try simp only [go_sem, n1, n2, n3, n4, hk7] at hk8
      all_goals
      obtain rfl := so_some h
      refine ⟨Lhk6, fun L hL => ?_⟩
      have ehk6 := ehk6 L (by omega)
      try simp only [go_sem, E_spec_l01Dec_l1, R_spec_l01Dec_l1, ir45_k0, ir45_o0, ir45_r0, hk7, hk8] at ehk6
      simp only [go_sem, ir45, E_spec_l01Dec_l1, R_spec_l01Dec_l1, ir45_k0, ir45_o0, ir45_r0, hk7, hk8, ehk6]


def ir21_b0 : IR := .seq (.test false [
    ⟨.push, 25, none, .mov (.v 5)⟩,
    ⟨.push, 26, none, .mov (.v 3)⟩,
    ⟨.push, 27, none, .len true (.s 0)⟩,
    ⟨.push, 28, none, .bin false .lss (.s 2) (.s 0)⟩] (.s 0)
  (.skip)
  (.exit 0))
 (.seq (.block 1 (.seq (.test false [
      ⟨.push, 31, none, .mov (.v 3)⟩,
      ⟨.push, 32, none, .mov (.v 5)⟩,
      ⟨.push, 33, none, .ixStr (.s 1) (.s 0)⟩,
      ⟨.push, 34, none, .call 44 [(.s 0)]⟩,
      ⟨.push, 35, none, .un .not (.s 0)⟩] (.s 0)
    (.seq (.region false [
        ⟨.var 1, 2, none, .mov (.c (.int .i64 (0)))⟩,
        ⟨.var 2, 3, none, .mov (.c (.bool false))⟩])
     (.ret))
    (.skip))
   (.region false [
     ⟨.push, 36, none, .mov (.v 4)⟩,
     ⟨.push, 37, none, .bin false .mul (.c (.int .i64 (10))) (.s 0)⟩,
     ⟨.push, 38, none, .mov (.v 3)⟩,
     ⟨.push, 39, none, .mov (.v 5)⟩,
     ⟨.push, 40, none, .ixStr (.s 1) (.s 0)⟩,
     ⟨.push, 41, none, .bin false .sub (.s 0) (.c (.int .u8 (48)))⟩,
     ⟨.push, 42, none, .conv .i64 (.s 0)⟩,
     ⟨.push, 43, none, .bin false .add (.s 5) (.s 0)⟩,
     ⟨.var 4, 5, none, .mov (.s 0)⟩])))
 (.region false [
   ⟨.push, 29, none, .mov (.v 5)⟩,
   ⟨.push, 30, none, .bin false .add (.s 0) (.c (.int .i64 (1)))⟩,
   ⟨.var 5, 6, none, .mov (.s 0)⟩]))
def ir21_k0 : List Bool := [true, false, false, true, true, true]
def ir21_o0 : List Bool := [true, false, false, true, true, false]
def ir21_r0 : List Bool := [false, true, true, false, false, false]
def ir21_v : List Nat := [0, 2, 3, 4, 5, 6]
def ir21 : AFn := ⟨1, 6, .seq (.region false [
    ⟨.var 1, 2, none, .mov (.c (.int .i64 (0)))⟩,
    ⟨.var 2, 3, none, .mov (.c (.bool false))⟩])
 (.seq (.region false [
    ⟨.push, 7, none, .mov (.v 0)⟩,
    ⟨.var 3, 4, none, .mov (.s 0)⟩])
 (.seq (.test false [
    ⟨.push, 8, none, .mov (.v 3)⟩,
    ⟨.push, 9, none, .bin false .neq (.s 0) (.c (.str []))⟩,
    ⟨.push, 10, none, .mov (.s 0)⟩,
    ⟨.push, 11, (some ((.s 0), true)), .mov (.v 3)⟩,
    ⟨.push, 12, (some ((.s 1), true)), .ixStr (.s 0) (.c (.int .i64 (0)))⟩,
    ⟨.push, 13, (some ((.s 2), true)), .bin false .eql (.s 0) (.c (.int .u8 (45)))⟩,
    ⟨.push, 14, none, .pick (.s 3) (.s 0) (.c (.bool false))⟩] (.s 0)
  (.region false [
     ⟨.push, 15, none, .mov (.v 3)⟩,
     ⟨.push, 16, none, .slice 0 (.s 0) (some (.c (.int .i64 (1)))) none⟩,
     ⟨.var 3, 4, none, .mov (.s 0)⟩])
  (.skip))
 (.seq (.test false [
    ⟨.push, 17, none, .mov (.v 3)⟩,
    ⟨.push, 18, none, .len true (.s 0)⟩,
    ⟨.push, 19, none, .bin false .lss (.s 0) (.c (.int .i64 (1)))⟩,
    ⟨.push, 20, none, .mov (.s 0)⟩,
    ⟨.push, 21, (some ((.s 0), false)), .mov (.v 3)⟩,
    ⟨.push, 22, (some ((.s 1), false)), .len true (.s 0)⟩,
    ⟨.push, 23, (some ((.s 2), false)), .bin false .gtr (.s 0) (.c (.int .i64 (18)))⟩,
    ⟨.push, 24, none, .pick (.s 3) (.c (.bool true)) (.s 0)⟩] (.s 0)
  (.seq (.region false [
      ⟨.var 1, 2, none, .mov (.c (.int .i64 (0)))⟩,
      ⟨.var 2, 3, none, .mov (.c (.bool false))⟩])
   (.ret))
  (.skip))
 (.seq (.region false [
    ⟨.var 4, 5, none, .mov (.c (.int .i64 (0)))⟩])
 (.seq (.seq (.region false [
     ⟨.var 5, 6, none, .mov (.c (.int .i64 (0)))⟩])
  (.block 0 (.loop ir21_k0 ir21_o0 ir21_r0 ir21_b0)))
 (.seq (.test false [
    ⟨.push, 44, none, .mov (.v 3)⟩,
    ⟨.push, 45, none, .len true (.s 0)⟩,
    ⟨.push, 46, none, .mov (.v 0)⟩,
    ⟨.push, 47, none, .len true (.s 0)⟩,
    ⟨.push, 48, none, .bin false .lss (.s 2) (.s 0)⟩] (.s 0)
  (.region false [
     ⟨.push, 49, none, .mov (.v 4)⟩,
     ⟨.push, 50, none, .un .neg (.s 0)⟩,
     ⟨.var 4, 5, none, .mov (.s 0)⟩])
  (.skip))
 (.seq (.test false [
    ⟨.push, 51, none, .mov (.v 4)⟩,
    ⟨.push, 52, none, .call 45 [(.s 0)]⟩,
    ⟨.push, 53, none, .mov (.v 0)⟩,
    ⟨.push, 54, none, .bin false .neq (.s 1) (.s 0)⟩] (.s 0)
  (.seq (.region false [
      ⟨.var 1, 2, none, .mov (.c (.int .i64 (0)))⟩,
      ⟨.var 2, 3, none, .mov (.c (.bool false))⟩])
   (.ret))
  (.skip))
 (.seq (.region false [
    ⟨.push, 55, none, .mov (.v 4)⟩,
    ⟨.var 1, 2, none, .mov (.s 0)⟩,
    ⟨.var 2, 3, none, .mov (.c (.bool true))⟩])
 (.ret))))))))), [.t 1, .t 2]⟩
noncomputable def t_spec_l01Number : List (Nat × Ctr) := [(44, c_spec_l01Digit), (45, c_spec_l01Dec)]
theorem lk_spec_l01Number_44 : look t_spec_l01Number 44 = some c_spec_l01Digit := rfl
theorem lk_spec_l01Number_45 : look t_spec_l01Number 45 = some c_spec_l01Dec := rfl
noncomputable def c_spec_l01Number : Ctr := mkF t_spec_l01Number ir21 [.bor]
theorem s_spec_l01Number : Sound Tryd.prog 21 c_spec_l01Number := mkF_sound _ rfl (snd_cons s_spec_l01Digit (snd_cons s_spec_l01Dec snd_nil)) (by kernel_rfl : chkFn Tryd.prog 21 ir21 ir21_v = true)
theorem M_spec_l01Number : c_spec_l01Number.modes = [.bor] := rfl
theorem Fl_spec_l01Number : c_spec_l01Number.flat = true := rfl
attribute [go_sem] M_spec_l01Number Fl_spec_l01Number
attribute [go_sem] lk_spec_l01Number_44 lk_spec_l01Number_45
def E_spec_l01Number_l1 (s_ : List UInt8) (t : List UInt8) : (Int × Int) → St
  | (n, i) => ⟨[.str s_, .any, .any, .str t, .int .i64 n, .int .i64 i], [], [], true⟩
def R_spec_l01Number_l1 (s_ : List UInt8) (t : List UInt8) : (Int ⊕ (Int × Bool)) → Res
  | .inl y => (.exit 0, ⟨[.str s_, .any, .any, .str t, .int .i64 y, .any], [], [], true⟩)
  | .inr y => (.ret, ⟨[.any, .int .i64 y.1, .bool y.2, .any, .any, .any], [], [], true⟩)
theorem spec_l01Number_l1_ex {s_ : List UInt8} {t : List UInt8} {sgm_ : Int × Int} {rho_ : Int ⊕ (Int × Bool)} (h : whileE (spec_l01Number_l1 s_ t) sgm_ = some rho_) : ∃ L0, ∀ L, L0 ≤ L → iter (exec (look t_spec_l01Number) L ir21_b0) ir21_k0 ir21_o0 ir21_r0 L (E_spec_l01Number_l1 s_ t sgm_) = R_spec_l01Number_l1 s_ t rho_ := by
  refine loop_ex (E := E_spec_l01Number_l1 s_ t) (R := R_spec_l01Number_l1 s_ t) (fun y => by first | (intro c; cases c) | (rcases y with y | y <;> (intro c; cases c)) | (rcases y with y | y | y <;> (intro c; cases c))) ?_ h
  clear h
  rintro ⟨n, i⟩ o_ h
  dsimp only [spec_l01Number_l1] at h
  rcases it_some h with ⟨hk5, h⟩ | ⟨hk5, h⟩
  · try simp only [go_sem, n1, n2, n3, n4] at hk5
    all_goals
    obtain ⟨hk6, h⟩ := ck_some h
    try simp only [go_sem, n1, n2, n3, n4, hk5] at hk6
    all_goals
    obtain ⟨y_7, hk7, h⟩ := bd_some h
    have fhk7 := Fs_spec_l01Digit hk7
    try simp only [go_sem, hk5, hk6] at fhk7
    rcases it_some h with ⟨hk8, h⟩ | ⟨hk8, h⟩
    · try simp only [go_sem, n1, n2, n3, n4, hk5, hk6] at hk8
      all_goals
      obtain rfl := so_some h
      refine ⟨0, fun L hL => ?_⟩
      simp only [go_sem, ir21, E_spec_l01Number_l1, R_spec_l01Number_l1, ir21_b0, ir21_k0, ir21_o0, ir21_r0, hk5, hk6, fhk7, hk8]
    · try simp only [go_sem, n1, n2, n3, n4, hk5, hk6] at hk8
      all_goals
      obtain rfl := so_some h
      refine ⟨0, fun L hL => ?_⟩
      simp only [go_sem, ir21, E_spec_l01Number_l1, R_spec_l01Number_l1, ir21_b0, ir21_k0, ir21_o0, ir21_r0, hk5, hk6, fhk7, hk8]
  · try simp only [go_sem, n1, n2, n3, n4] at hk5
    all_goals
    obtain rfl := so_some h
    refine ⟨0, fun L hL => ?_⟩
    simp only [go_sem, ir21, E_spec_l01Number_l1, R_spec_l01Number_l1, ir21_b0, ir21_k0, ir21_o0, ir21_r0, hk5]

def E_spec_l01Number_l2 (s_ : List UInt8) (t : List UInt8) : (Int × Int) → St
  | (n, i) => ⟨[.str s_, .any, .any, .str t, .int .i64 n, .int .i64 i], [], [], true⟩
def R_spec_l01Number_l2 (s_ : List UInt8) (t : List UInt8) : (Int ⊕ (Int × Bool)) → Res
  | .inl y => (.exit 0, ⟨[.str s_, .any, .any, .str t, .int .i64 y, .any], [], [], true⟩)
  | .inr y => (.ret, ⟨[.any, .int .i64 y.1, .bool y.2, .any, .any, .any], [], [], true⟩)
theorem spec_l01Number_l2_ex {s_ : List UInt8} {t : List UInt8} {sgm_ : Int × Int} {rho_ : Int ⊕ (Int × Bool)} (h : whileE (spec_l01Number_l2 s_ t) sgm_ = some rho_) : ∃ L0, ∀ L, L0 ≤ L → iter (exec (look t_spec_l01Number) L ir21_b0) ir21_k0 ir21_o0 ir21_r0 L (E_spec_l01Number_l2 s_ t sgm_) = R_spec_l01Number_l2 s_ t rho_ := by
  refine loop_ex (E := E_spec_l01Number_l2 s_ t) (R := R_spec_l01Number_l2 s_ t) (fun y => by first | (intro c; cases c) | (rcases y with y | y <;> (intro c; cases c)) | (rcases y with y | y | y <;> (intro c; cases c))) ?_ h
  clear h
  rintro ⟨n, i⟩ o_ h
  dsimp only [spec_l01Number_l2] at h
  rcases it_some h with ⟨hk16, h⟩ | ⟨hk16, h⟩
  · try simp only [go_sem, n1, n2, n3, n4] at hk16
    all_goals
    obtain ⟨hk17, h⟩ := ck_some h
    try simp only [go_sem, n1, n2, n3, n4, hk16] at hk17
    all_goals
    obtain ⟨y_18, hk18, h⟩ := bd_some h
    have fhk18 := Fs_spec_l01Digit hk18
    try simp only [go_sem, hk16, hk17] at fhk18
    rcases it_some h with ⟨hk19, h⟩ | ⟨hk19, h⟩
    · try simp only [go_sem, n1, n2, n3, n4, hk16, hk17] at hk19
      all_goals
      obtain rfl := so_some h
      refine ⟨0, fun L hL => ?_⟩
      simp only [go_sem, ir21, E_spec_l01Number_l2, R_spec_l01Number_l2, ir21_b0, ir21_k0, ir21_o0, ir21_r0, E_spec_l01Number_l1, R_spec_l01Number_l1, ir21_k0, ir21_o0, ir21_r0, hk16, hk17, fhk18, hk19]
    · try simp only [go_sem, n1, n2, n3, n4, hk16, hk17] at hk19
      all_goals
      obtain rfl := so_some h
      refine ⟨0, fun L hL => ?_⟩
      simp only [go_sem, ir21, E_spec_l01Number_l2, R_spec_l01Number_l2, ir21_b0, ir21_k0, ir21_o0, ir21_r0, E_spec_l01Number_l1, R_spec_l01Number_l1, ir21_k0, ir21_o0, ir21_r0, hk16, hk17, fhk18, hk19]
  · try simp only [go_sem, n1, n2, n3, n4] at hk16
    all_goals
    obtain rfl := so_some h
    refine ⟨0, fun L hL => ?_⟩
    simp only [go_sem, ir21, E_spec_l01Number_l2, R_spec_l01Number_l2, ir21_b0, ir21_k0, ir21_o0, ir21_r0, E_spec_l01Number_l1, R_spec_l01Number_l1, ir21_k0, ir21_o0, ir21_r0, hk16]

theorem Fs_spec_l01Number {s_ : List UInt8} {y_ : Int × Bool} (h : spec_l01Number s_ = some y_) : c_spec_l01Number.F [.str s_] = ⟨true, .tup [.int .i64 y_.1, .bool y_.2], [.any]⟩ := by
  refine mkF_E rfl ?_
  dsimp only [spec_l01Number] at h
  obtain ⟨hk1, h⟩ := ck_some h
  rcases or_split hk1 with ⟨ghk1, hk1⟩ | ghk1
  · try simp only [go_sem, n1, n2, n3, n4] at ghk1
    all_goals
    try simp only [go_sem, n1, n2, n3, n4, ghk1] at hk1
    all_goals
    rcases it_some h with ⟨hk2, h⟩ | ⟨hk2, h⟩
    · try simp only [go_sem, n1, n2, n3, n4, ghk1, hk1] at hk2
      all_goals
      obtain ⟨hk3, h⟩ := ck_some h
      try simp only [go_sem, n1, n2, n3, n4, ghk1, hk1, hk2] at hk3
      all_goals
      rcases it_some h with ⟨hk4, h⟩ | ⟨hk4, h⟩
      · try simp only [go_sem, n1, n2, n3, n4, ghk1, hk1, hk2, hk3] at hk4
        all_goals
        obtain rfl := so_some h
        refine ⟨0, fun L hL => ?_⟩
        simp only [go_sem, ir21, E_spec_l01Number_l1, R_spec_l01Number_l1, ir21_k0, ir21_o0, ir21_r0, E_spec_l01Number_l2, R_spec_l01Number_l2, ir21_k0, ir21_o0, ir21_r0, ghk1, hk1, hk2, hk3, hk4]
      · try simp only [go_sem, n1, n2, n3, n4, ghk1, hk1, hk2, hk3] at hk4
        all_goals
        obtain ⟨y_9, hk9, h⟩ := bd_some h
        obtain ⟨Lhk9, ehk9⟩ := spec_l01Number_l1_ex hk9
        rcases y_9 with y_9a | y_9b
        · dsimp only at h
          rcases it_some h with ⟨hk10, h⟩ | ⟨hk10, h⟩
          · try simp only [go_sem, n1, n2, n3, n4, ghk1, hk1, hk2, hk3, hk4] at hk10
            all_goals
            obtain ⟨y_11, hk11, h⟩ := bd_some h
            have fhk11 := Fs_spec_l01Dec hk11
            try simp only [go_sem, ghk1, hk1, hk2, hk3, hk4, hk10] at fhk11
            rcases it_some h with ⟨hk12, h⟩ | ⟨hk12, h⟩
            · try simp only [go_sem, n1, n2, n3, n4, ghk1, hk1, hk2, hk3, hk4, hk10] at hk12
              all_goals
              obtain rfl := so_some h
              refine ⟨Lhk9, fun L hL => ?_⟩
              have ehk9 := ehk9 L (by omega)
              try simp only [go_sem, E_spec_l01Number_l1, R_spec_l01Number_l1, ir21_k0, ir21_o0, ir21_r0, E_spec_l01Number_l2, R_spec_l01Number_l2, ir21_k0, ir21_o0, ir21_r0, ghk1, hk1, hk2, hk3, hk4, hk10, hk12] at ehk9
              simp only [go_sem, ir21, E_spec_l01Number_l1, R_spec_l01Number_l1, ir21_k0, ir21_o0, ir21_r0, E_spec_l01Number_l2, R_spec_l01Number_l2, ir21_k0, ir21_o0, ir21_r0, ghk1, hk1, hk2, hk3, hk4, hk10, fhk11, hk12, ehk9]
            · try simp only [go_sem, n1, n2, n3, n4, ghk1, hk1, hk2, hk3, hk4, hk10] at hk12
              all_goals
              obtain rfl := so_some h
              refine ⟨Lhk9, fun L hL => ?_⟩
              have ehk9 := ehk9 L (by omega)
              try simp only [go_sem, E_spec_l01Number_l1, R_spec_l01Number_l1, ir21_k0, ir21_o0, ir21_r0, E_spec_l01Number_l2, R_spec_l01Number_l2, ir21_k0, ir21_o0, ir21_r0, ghk1, hk1, hk2, hk3, hk4, hk10, hk12] at ehk9
              simp only [go_sem, ir21, E_spec_l01Number_l1, R_spec_l01Number_l1, ir21_k0, ir21_o0, ir21_r0, E_spec_l01Number_l2, R_spec_l01Number_l2, ir21_k0, ir21_o0, ir21_r0, ghk1, hk1, hk2, hk3, hk4, hk10, fhk11, hk12, ehk9]
          · try simp only [go_sem, n1, n2, n3, n4, ghk1, hk1, hk2, hk3, hk4] at hk10
            all_goals
            obtain ⟨y_13, hk13, h⟩ := bd_some h
            have fhk13 := Fs_spec_l01Dec hk13
            try simp only [go_sem, ghk1, hk1, hk2, hk3, hk4, hk10] at fhk13
            rcases it_some h with ⟨hk14, h⟩ | ⟨hk14, h⟩
            · try simp only [go_sem, n1, n2, n3, n4, ghk1, hk1, hk2, hk3, hk4, hk10] at hk14
              all_goals
              obtain rfl := so_some h
              refine ⟨Lhk9, fun L hL => ?_⟩
              have ehk9 := ehk9 L (by omega)
              try simp only [go_sem, E_spec_l01Number_l1, R_spec_l01Number_l1, ir21_k0, ir21_o0, ir21_r0, E_spec_l01Number_l2, R_spec_l01Number_l2, ir21_k0, ir21_o0, ir21_r0, ghk1, hk1, hk2, hk3, hk4, hk10, hk14] at ehk9
              simp only [go_sem, ir21, E_spec_l01Number_l1, R_spec_l01Number_l1, ir21_k0, ir21_o0, ir21_r0, E_spec_l01Number_l2, R_spec_l01Number_l2, ir21_k0, ir21_o0, ir21_r0, ghk1, hk1, hk2, hk3, hk4, hk10, fhk13, hk14, ehk9]
            · try simp only [go_sem, n1, n2, n3, n4, ghk1, hk1, hk2, hk3, hk4, hk10] at hk14
              all_goals
              obtain rfl := so_some h
              refine ⟨Lhk9, fun L hL => ?_⟩
              have ehk9 := ehk9 L (by omega)
              try simp only [go_sem, E_spec_l01Number_l1, R_spec_l01Number_l1, ir21_k0, ir21_o0, ir21_r0, E_spec_l01Number_l2, R_spec_l01Number_l2, ir21_k0, ir21_o0, ir21_r0, ghk1, hk1, hk2, hk3, hk4, hk10, hk14] at ehk9
              simp only [go_sem, ir21, E_spec_l01Number_l1, R_spec_l01Number_l1, ir21_k0, ir21_o0, ir21_r0, E_spec_l01Number_l2, R_spec_l01Number_l2, ir21_k0, ir21_o0, ir21_r0, ghk1, hk1, hk2, hk3, hk4, hk10, fhk13, hk14, ehk9]
        · dsimp only at h
          obtain rfl := so_some h
          refine ⟨Lhk9, fun L hL => ?_⟩
          have ehk9 := ehk9 L (by omega)
          try simp only [go_sem, E_spec_l01Number_l1, R_spec_l01Number_l1, ir21_k0, ir21_o0, ir21_r0, E_spec_l01Number_l2, R_spec_l01Number_l2, ir21_k0, ir21_o0, ir21_r0, ghk1, hk1, hk2, hk3, hk4] at ehk9
          simp only [go_sem, ir21, E_spec_l01Number_l1, R_spec_l01Number_l1, ir21_k0, ir21_o0, ir21_r0, E_spec_l01Number_l2, R_spec_l01Number_l2, ir21_k0, ir21_o0, ir21_r0, ghk1, hk1, hk2, hk3, hk4, ehk9]
    · try simp only [go_sem, n1, n2, n3, n4, ghk1, hk1] at hk2
      all_goals
      rcases it_some h with ⟨hk15, h⟩ | ⟨hk15, h⟩
      · try simp only [go_sem, n1, n2, n3, n4, ghk1, hk1, hk2] at hk15
        all_goals
        obtain rfl := so_some h
        refine ⟨0, fun L hL => ?_⟩
        simp only [go_sem, ir21, E_spec_l01Number_l1, R_spec_l01Number_l1, ir21_k0, ir21_o0, ir21_r0, E_spec_l01Number_l2, R_spec_l01Number_l2, ir21_k0, ir21_o0, ir21_r0, ghk1, hk1, hk2, hk15]
      · try simp only [go_sem, n1, n2, n3, n4, ghk1, hk1, hk2] at hk15
        all_goals
        obtain ⟨y_20, hk20, h⟩ := bd_some h
        obtain ⟨Lhk20, ehk20⟩ := spec_l01Number_l2_ex hk20
        rcases y_20 with y_20a | y_20b
        · dsimp only at h
          rcases it_some h with ⟨hk21, h⟩ | ⟨hk21, h⟩
          · try simp only [go_sem, n1, n2, n3, n4, ghk1, hk1, hk2, hk15] at hk21
            all_goals
            obtain ⟨y_22, hk22, h⟩ := bd_some h
            have fhk22 := Fs_spec_l01Dec hk22
            try simp only [go_sem, ghk1, hk1, hk2, hk15, hk21] at fhk22
            rcases it_some h with ⟨hk23, h⟩ | ⟨hk23, h⟩
            · try simp only [go_sem, n1, n2, n3, n4, ghk1, hk1, hk2, hk15, hk21] at hk23
              all_goals
              obtain rfl := so_some h
              refine ⟨Lhk20, fun L hL => ?_⟩
              have ehk20 := ehk20 L (by omega)
              try simp only [go_sem, E_spec_l01Number_l1, R_spec_l01Number_l1, ir21_k0, ir21_o0, ir21_r0, E_spec_l01Number_l2, R_spec_l01Number_l2, ir21_k0, ir21_o0, ir21_r0, ghk1, hk1, hk2, hk15, hk21, hk23] at ehk20
              simp only [go_sem, ir21, E_spec_l01Number_l1, R_spec_l01Number_l1, ir21_k0, ir21_o0, ir21_r0, E_spec_l01Number_l2, R_spec_l01Number_l2, ir21_k0, ir21_o0, ir21_r0, ghk1, hk1, hk2, hk15, hk21, fhk22, hk23, ehk20]
            · try simp only [go_sem, n1, n2, n3, n4, ghk1, hk1, hk2, hk15, hk21] at hk23
              all_goals
              obtain rfl := so_some h
              refine ⟨Lhk20, fun L hL => ?_⟩
              have ehk20 := ehk20 L (by omega)
              try simp only [go_sem, E_spec_l01Number_l1, R_spec_l01Number_l1, ir21_k0, ir21_o0, ir21_r0, E_spec_l01Number_l2, R_spec_l01Number_l2, ir21_k0, ir21_o0, ir21_r0, ghk1, hk1, hk2, hk15, hk21, hk23] at ehk20
              simp only [go_sem, ir21, E_spec_l01Number_l1, R_spec_l01Number_l1, ir21_k0, ir21_o0, ir21_r0, E_spec_l01Number_l2, R_spec_l01Number_l2, ir21_k0, ir21_o0, ir21_r0, ghk1, hk1, hk2, hk15, hk21, fhk22, hk23, ehk20]
          · try simp only [go_sem, n1, n2, n3, n4, ghk1, hk1, hk2, hk15] at hk21
            all_goals
            obtain ⟨y_24, hk24, h⟩ := bd_some h
            have fhk24 := Fs_spec_l01Dec hk24
            try simp only [go_sem, ghk1, hk1, hk2, hk15, hk21] at fhk24
            rcases it_some h with ⟨hk25, h⟩ | ⟨hk25, h⟩
            · try simp only [go_sem, n1, n2, n3, n4, ghk1, hk1, hk2, hk15, hk21] at hk25
              all_goals
              obtain rfl := so_some h
              refine ⟨Lhk20, fun L hL => ?_⟩
              have ehk20 := ehk20 L (by omega)
              try simp only [go_sem, E_spec_l01Number_l1, R_spec_l01Number_l1, ir21_k0, ir21_o0, ir21_r0, E_spec_l01Number_l2, R_spec_l01Number_l2, ir21_k0, ir21_o0, ir21_r0, ghk1, hk1, hk2, hk15, hk21, hk25] at ehk20
              simp only [go_sem, ir21, E_spec_l01Number_l1, R_spec_l01Number_l1, ir21_k0, ir21_o0, ir21_r0, E_spec_l01Number_l2, R_spec_l01Number_l2, ir21_k0, ir21_o0, ir21_r0, ghk1, hk1, hk2, hk15, hk21, fhk24, hk25, ehk20]
            · try simp only [go_sem, n1, n2, n3, n4, ghk1, hk1, hk2, hk15, hk21] at hk25
              all_goals
              obtain rfl := so_some h
              refine ⟨Lhk20, fun L hL => ?_⟩
              have ehk20 := ehk20 L (by omega)
              try simp only [go_sem, E_spec_l01Number_l1, R_spec_l01Number_l1, ir21_k0, ir21_o0, ir21_r0, E_spec_l01Number_l2, R_spec_l01Number_l2, ir21_k0, ir21_o0, ir21_r0, ghk1, hk1, hk2, hk15, hk21, hk25] at ehk20
              simp only [go_sem, ir21, E_spec_l01Number_l1, R_spec_l01Number_l1, ir21_k0, ir21_o0, ir21_r0, E_spec_l01Number_l2, R_spec_l01Number_l2, ir21_k0, ir21_o0, ir21_r0, ghk1, hk1, hk2, hk15, hk21, fhk24, hk25, ehk20]
        · dsimp only at h
          obtain rfl := so_some h
          refine ⟨Lhk20, fun L hL => ?_⟩
          have ehk20 := ehk20 L (by omega)
          try simp only [go_sem, E_spec_l01Number_l1, R_spec_l01Number_l1, ir21_k0, ir21_o0, ir21_r0, E_spec_l01Number_l2, R_spec_l01Number_l2, ir21_k0, ir21_o0, ir21_r0, ghk1, hk1, hk2, hk15] at ehk20
          simp only [go_sem, ir21, E_spec_l01Number_l1, R_spec_l01Number_l1, ir21_k0, ir21_o0, ir21_r0, E_spec_l01Number_l2, R_spec_l01Number_l2, ir21_k0, ir21_o0, ir21_r0, ghk1, hk1, hk2, hk15, ehk20]
  · have ghk1n := no_f ghk1
    try simp only [go_sem, n1, n2, n3, n4] at ghk1n
    all_goals
    rcases it_some h with ⟨hk2, h⟩ | ⟨hk2, h⟩
    · try simp only [go_sem, n1, n2, n3, n4, ghk1n] at hk2
      all_goals
      obtain ⟨hk3, h⟩ := ck_some h
      try simp only [go_sem, n1, n2, n3, n4, ghk1n, hk2] at hk3
      all_goals
      rcases it_some h with ⟨hk4, h⟩ | ⟨hk4, h⟩
      · try simp only [go_sem, n1, n2, n3, n4, ghk1n, hk2, hk3] at hk4
        all_goals
        obtain rfl := so_some h
        refine ⟨0, fun L hL => ?_⟩
        simp only [go_sem, ir21, E_spec_l01Number_l1, R_spec_l01Number_l1, ir21_k0, ir21_o0, ir21_r0, E_spec_l01Number_l2, R_spec_l01Number_l2, ir21_k0, ir21_o0, ir21_r0, ghk1n, hk2, hk3, hk4]
      · try simp only [go_sem, n1, n2, n3, n4, ghk1n, hk2, hk3] at hk4
        all_goals
        obtain ⟨y_9, hk9, h⟩ := bd_some h
        obtain ⟨Lhk9, ehk9⟩ := spec_l01Number_l1_ex hk9
        rcases y_9 with y_9a | y_9b
        · dsimp only at h
          rcases it_some h with ⟨hk10, h⟩ | ⟨hk10, h⟩
          · try simp only [go_sem, n1, n2, n3, n4, ghk1n, hk2, hk3, hk4] at hk10
            all_goals
            obtain ⟨y_11, hk11, h⟩ := bd_some h
            have fhk11 := Fs_spec_l01Dec hk11
            try simp only [go_sem, ghk1n, hk2, hk3, hk4, hk10] at fhk11
            rcases it_some h with ⟨hk12, h⟩ | ⟨hk12, h⟩
            · try simp only [go_sem, n1, n2, n3, n4, ghk1n, hk2, hk3, hk4, hk10] at hk12
              all_goals
              obtain rfl := so_some h
              refine ⟨Lhk9, fun L hL => ?_⟩
              have ehk9 := ehk9 L (by omega)
              try simp only [go_sem, E_spec_l01Number_l1, R_spec_l01Number_l1, ir21_k0, ir21_o0, ir21_r0, E_spec_l01Number_l2, R_spec_l01Number_l2, ir21_k0, ir21_o0, ir21_r0, ghk1n, hk2, hk3, hk4, hk10, hk12] at ehk9
              simp only [go_sem, ir21, E_spec_l01Number_l1, R_spec_l01Number_l1, ir21_k0, ir21_o0, ir21_r0, E_spec_l01Number_l2, R_spec_l01Number_l2, ir21_k0, ir21_o0, ir21_r0, ghk1n, hk2, hk3, hk4, hk10, fhk11, hk12, ehk9]
            · try simp only [go_sem, n1, n2, n3, n4, ghk1n, hk2, hk3, hk4, hk10] at hk12
              all_goals
              obtain rfl := so_some h
              refine ⟨Lhk9, fun L hL => ?_⟩
              have ehk9 := ehk9 L (by omega)
              try simp only [go_sem, E_spec_l01Number_l1, R_spec_l01Number_l1, ir21_k0, ir21_o0, ir21_r0, E_spec_l01Number_l2, R_spec_l01Number_l2, ir21_k0, ir21_o0, ir21_r0, ghk1n, hk2, hk3, hk4, hk10, hk12] at ehk9
              simp only [go_sem, ir21, E_spec_l01Number_l1, R_spec_l01Number_l1, ir21_k0, ir21_o0, ir21_r0, E_spec_l01Number_l2, R_spec_l01Number_l2, ir21_k0, ir21_o0, ir21_r0, ghk1n, hk2, hk3, hk4, hk10, fhk11, hk12, ehk9]
          · try simp only [go_sem, n1, n2, n3, n4, ghk1n, hk2, hk3, hk4] at hk10
            all_goals
            obtain ⟨y_13, hk13, h⟩ := bd_some h
            have fhk13 := Fs_spec_l01Dec hk13
            try simp only [go_sem, ghk1n, hk2, hk3, hk4, hk10] at fhk13
            rcases it_some h with ⟨hk14, h⟩ | ⟨hk14, h⟩
            · try simp only [go_sem, n1, n2, n3, n4, ghk1n, hk2, hk3, hk4, hk10] at hk14
              all_goals
              obtain rfl := so_some h
              refine ⟨Lhk9, fun L hL => ?_⟩
              have ehk9 := ehk9 L (by omega)
              try simp only [go_sem, E_spec_l01Number_l1, R_spec_l01Number_l1, ir21_k0, ir21_o0, ir21_r0, E_spec_l01Number_l2, R_spec_l01Number_l2, ir21_k0, ir21_o0, ir21_r0, ghk1n, hk2, hk3, hk4, hk10, hk14] at ehk9
              simp only [go_sem, ir21, E_spec_l01Number_l1, R_spec_l01Number_l1, ir21_k0, ir21_o0, ir21_r0, E_spec_l01Number_l2, R_spec_l01Number_l2, ir21_k0, ir21_o0, ir21_r0, ghk1n, hk2, hk3, hk4, hk10, fhk13, hk14, ehk9]
            · try simp only [go_sem, n1, n2, n3, n4, ghk1n, hk2, hk3, hk4, hk10] at hk14
              all_goals
              obtain rfl := so_some h
              refine ⟨Lhk9, fun L hL => ?_⟩
              have ehk9 := ehk9 L (by omega)
              try simp only [go_sem, E_spec_l01Number_l1, R_spec_l01Number_l1, ir21_k0, ir21_o0, ir21_r0, E_spec_l01Number_l2, R_spec_l01Number_l2, ir21_k0, ir21_o0, ir21_r0, ghk1n, hk2, hk3, hk4, hk10, hk14] at ehk9
              simp only [go_sem, ir21, E_spec_l01Number_l1, R_spec_l01Number_l1, ir21_k0, ir21_o0, ir21_r0, E_spec_l01Number_l2, R_spec_l01Number_l2, ir21_k0, ir21_o0, ir21_r0, ghk1n, hk2, hk3, hk4, hk10, fhk13, hk14, ehk9]
        · dsimp only at h
          obtain rfl := so_some h
          refine ⟨Lhk9, fun L hL => ?_⟩
          have ehk9 := ehk9 L (by omega)
          try simp only [go_sem, E_spec_l01Number_l1, R_spec_l01Number_l1, ir21_k0, ir21_o0, ir21_r0, E_spec_l01Number_l2, R_spec_l01Number_l2, ir21_k0, ir21_o0, ir21_r0, ghk1n, hk2, hk3, hk4] at ehk9
          simp only [go_sem, ir21, E_spec_l01Number_l1, R_spec_l01Number_l1, ir21_k0, ir21_o0, ir21_r0, E_spec_l01Number_l2, R_spec_l01Number_l2, ir21_k0, ir21_o0, ir21_r0, ghk1n, hk2, hk3, hk4, ehk9]
    · try simp only [go_sem, n1, n2, n3, n4, ghk1n] at hk2
      all_goals
      rcases it_some h with ⟨hk15, h⟩ | ⟨hk15, h⟩
      · try simp only [go_sem, n1, n2, n3, n4, ghk1n, hk2] at hk15
        all_goals
        obtain rfl := so_some h
        refine ⟨0, fun L hL => ?_⟩
        simp only [go_sem, ir21, E_spec_l01Number_l1, R_spec_l01Number_l1, ir21_k0, ir21_o0, ir21_r0, E_spec_l01Number_l2, R_spec_l01Number_l2, ir21_k0, ir21_o0, ir21_r0, ghk1n, hk2, hk15]
      · try simp only [go_sem, n1, n2, n3, n4, ghk1n, hk2] at hk15
        all_goals
        obtain ⟨y_20, hk20, h⟩ := bd_some h
        obtain ⟨Lhk20, ehk20⟩ := spec_l01Number_l2_ex hk20
        rcases y_20 with y_20a | y_20b
        · dsimp only at h
          rcases it_some h with ⟨hk21, h⟩ | ⟨hk21, h⟩
          · try simp only [go_sem, n1, n2, n3, n4, ghk1n, hk2, hk15] at hk21
            all_goals
            obtain ⟨y_22, hk22, h⟩ := bd_some h
            have fhk22 := Fs_spec_l01Dec hk22
            try simp only [go_sem, ghk1n, hk2, hk15, hk21] at fhk22
            rcases it_some h with ⟨hk23, h⟩ | ⟨hk23, h⟩
            · try simp only [go_sem, n1, n2, n3, n4, ghk1n, hk2, hk15, hk21] at hk23
              all_goals
              obtain rfl := so_some h
              refine ⟨Lhk20, fun L hL => ?_⟩
              have ehk20 := ehk20 L (by omega)
              try simp only [go_sem, E_spec_l01Number_l1, R_spec_l01Number_l1, ir21_k0, ir21_o0, ir21_r0, E_spec_l01Number_l2, R_spec_l01Number_l2, ir21_k0, ir21_o0, ir21_r0, ghk1n, hk2, hk15, hk21, hk23] at ehk20
              simp only [go_sem, ir21, E_spec_l01Number_l1, R_spec_l01Number_l1, ir21_k0, ir21_o0, ir21_r0, E_spec_l01Number_l2, R_spec_l01Number_l2, ir21_k0, ir21_o0, ir21_r0, ghk1n, hk2, hk15, hk21, fhk22, hk23, ehk20]
            · try simp only [go_sem, n1, n2, n3, n4, ghk1n, hk2, hk15, hk21] at hk23
              all_goals
              obtain rfl := so_some h
              refine ⟨Lhk20, fun L hL => ?_⟩
              have ehk20 := ehk20 L (by omega)
              try simp only [go_sem, E_spec_l01Number_l1, R_spec_l01Number_l1, ir21_k0, ir21_o0, ir21_r0, E_spec_l01Number_l2, R_spec_l01Number_l2, ir21_k0, ir21_o0, ir21_r0, ghk1n, hk2, hk15, hk21, hk23] at ehk20
              simp only [go_sem, ir21, E_spec_l01Number_l1, R_spec_l01Number_l1, ir21_k0, ir21_o0, ir21_r0, E_spec_l01Number_l2, R_spec_l01Number_l2, ir21_k0, ir21_o0, ir21_r0, ghk1n, hk2, hk15, hk21, fhk22, hk23, ehk20]
          · try simp only [go_sem, n1, n2, n3, n4, ghk1n, hk2, hk15] at hk21
            all_goals
            obtain ⟨y_24, hk24, h⟩ := bd_some h
            have fhk24 := Fs_spec_l01Dec hk24
            try simp only [go_sem, ghk1n, hk2, hk15, hk21] at fhk24
            rcases it_some h with ⟨hk25, h⟩ | ⟨hk25, h⟩
            · try simp only [go_sem, n1, n2, n3, n4, ghk1n, hk2, hk15, hk21] at hk25
              all_goals
              obtain rfl := so_some h
              refine ⟨Lhk20, fun L hL => ?_⟩
              have ehk20 := ehk20 L (by omega)
              try simp only [go_sem, E_spec_l01Number_l1, R_spec_l01Number_l1, ir21_k0, ir21_o0, ir21_r0, E_spec_l01Number_l2, R_spec_l01Number_l2, ir21_k0, ir21_o0, ir21_r0, ghk1n, hk2, hk15, hk21, hk25] at ehk20
              simp only [go_sem, ir21, E_spec_l01Number_l1, R_spec_l01Number_l1, ir21_k0, ir21_o0, ir21_r0, E_spec_l01Number_l2, R_spec_l01Number_l2, ir21_k0, ir21_o0, ir21_r0, ghk1n, hk2, hk15, hk21, fhk24, hk25, ehk20]
            · try simp only [go_sem, n1, n2, n3, n4, ghk1n, hk2, hk15, hk21] at hk25
              all_goals
              obtain rfl := so_some h
              refine ⟨Lhk20, fun L hL => ?_⟩
              have ehk20 := ehk20 L (by omega)
              try simp only [go_sem, E_spec_l01Number_l1, R_spec_l01Number_l1, ir21_k0, ir21_o0, ir21_r0, E_spec_l01Number_l2, R_spec_l01Number_l2, ir21_k0, ir21_o0, ir21_r0, ghk1n, hk2, hk15, hk21, hk25] at ehk20
              simp only [go_sem, ir21, E_spec_l01Number_l1, R_spec_l01Number_l1, ir21_k0, ir21_o0, ir21_r0, E_spec_l01Number_l2, R_spec_l01Number_l2, ir21_k0, ir21_o0, ir21_r0, ghk1n, hk2, hk15, hk21, fhk24, hk25, ehk20]
        · dsimp only at h
          obtain rfl := so_some h
          refine ⟨Lhk20, fun L hL => ?_⟩
          have ehk20 := ehk20 L (by omega)
          try simp only [go_sem, E_spec_l01Number_l1, R_spec_l01Number_l1, ir21_k0, ir21_o0, ir21_r0, E_spec_l01Number_l2, R_spec_l01Number_l2, ir21_k0, ir21_o0, ir21_r0, ghk1n, hk2, hk15] at ehk20
          simp only [go_sem, ir21, E_spec_l01Number_l1, R_spec_l01Number_l1, ir21_k0, ir21_o0, ir21_r0, E_spec_l01Number_l2, R_spec_l01Number_l2, ir21_k0, ir21_o0, ir21_r0, ghk1n, hk2, hk15, ehk20]


def ir46_v : List Nat := [0, 1, 2, 6]
def ir46 : AFn := ⟨3, 4, .seq (.region false [
    ⟨.var 3, 6, none, .mov (.c (.bool false))⟩])
 (.seq (.region false [
    ⟨.push, 7, none, .mov (.v 0)⟩,
    ⟨.push, 8, none, .mov (.v 1)⟩,
    ⟨.push, 9, none, .bin false .geq (.s 1) (.s 0)⟩,
    ⟨.push, 10, none, .mov (.s 0)⟩,
    ⟨.push, 11, (some ((.s 0), true)), .mov (.v 0)⟩,
    ⟨.push, 12, (some ((.s 1), true)), .mov (.v 2)⟩,
    ⟨.push, 13, (some ((.s 2), true)), .bin false .leq (.s 1) (.s 0)⟩,
    ⟨.push, 14, none, .pick (.s 3) (.s 0) (.c (.bool false))⟩,
    ⟨.var 3, 6, none, .mov (.s 0)⟩])
 (.ret)), [.t 3]⟩
noncomputable def t_spec_l00In : List (Nat × Ctr) := []
noncomputable def c_spec_l00In : Ctr := mkF t_spec_l00In ir46 [.bor, .bor, .bor]
theorem s_spec_l00In : Sound Tryd.prog 46 c_spec_l00In := mkF_sound _ rfl snd_nil (by kernel_rfl : chkFn Tryd.prog 46 ir46 ir46_v = true)
theorem M_spec_l00In : c_spec_l00In.modes = [.bor, .bor, .bor] := rfl
theorem Fl_spec_l00In : c_spec_l00In.flat = true := rfl
attribute [go_sem] M_spec_l00In Fl_spec_l00In
theorem Fs_spec_l00In {n : Int} {low : Int} {high : Int} {y_ : Bool} (h : spec_l00In n low high = some y_) : c_spec_l00In.F [.int .i64 n, .int .i64 low, .int .i64 high] = ⟨true, .bool y_, [.any, .any, .any]⟩ := by
  refine mkF_E rfl ?_
  dsimp only [spec_l00In] at h
  obtain rfl := so_some h
  refine ⟨0, fun L hL => ?_⟩
  simp only [go_sem, ir46]


def ir47_v : List Nat := [0, 2]
def ir47 : AFn := ⟨1, 2, .seq (.region false [
    ⟨.var 1, 2, none, .mov (.c (.bool false))⟩])
 (.seq (.region false [
    ⟨.push, 3, none, .mov (.v 0)⟩,
    ⟨.push, 4, none, .call 46 [(.s 0), (.c (.int .i64 (1))), (.c (.int .i64 (5)))]⟩,
    ⟨.var 1, 2, none, .mov (.s 0)⟩])
 (.ret)), [.t 1]⟩
noncomputable def t_spec_l26Kind : List (Nat × Ctr) := [(46, c_spec_l00In)]
theorem lk_spec_l26Kind_46 : look t_spec_l26Kind 46 = some c_spec_l00In := rfl
noncomputable def c_spec_l26Kind : Ctr := mkF t_spec_l26Kind ir47 [.bor]
theorem s_spec_l26Kind : Sound Tryd.prog 47 c_spec_l26Kind := mkF_sound _ rfl (snd_cons s_spec_l00In snd_nil) (by kernel_rfl : chkFn Tryd.prog 47 ir47 ir47_v = true)
theorem M_spec_l26Kind : c_spec_l26Kind.modes = [.bor] := rfl
theorem Fl_spec_l26Kind : c_spec_l26Kind.flat = true := rfl
attribute [go_sem] M_spec_l26Kind Fl_spec_l26Kind
attribute [go_sem] lk_spec_l26Kind_46
theorem Fs_spec_l26Kind {n : Int} {y_ : Bool} (h : spec_l26Kind n = some y_) : c_spec_l26Kind.F [.int .i64 n] = ⟨true, .bool y_, [.any]⟩ := by
  refine mkF_E rfl ?_
  dsimp only [spec_l26Kind] at h
  obtain ⟨y_1, hk1, h⟩ := bd_some h
  have fhk1 := Fs_spec_l00In hk1
  try simp only [go_sem] at fhk1
  obtain rfl := so_some h
  refine ⟨0, fun L hL => ?_⟩
  simp only [go_sem, ir47, fhk1]


def ir24_b0 : IR := .seq (.test false [
    ⟨.push, 7, none, .mov (.v 3)⟩,
    ⟨.push, 8, none, .mov (.v 0)⟩,
    ⟨.push, 9, none, .len false (.s 0)⟩,
    ⟨.push, 10, none, .bin false .lss (.s 2) (.s 0)⟩] (.s 0)
  (.skip)
  (.exit 0))
 (.seq (.block 1 (.seq (.region false [
      ⟨.push, 13, none, .mov (.v 0)⟩,
      ⟨.push, 14, none, .mov (.v 3)⟩,
      ⟨.push, 15, none, .ixAddr 2 (.s 1) (.s 0)⟩,
      ⟨.var 4, 6, none, .mov (.s 0)⟩])
   (.seq (.test false [
      ⟨.push, 16, none, .mov (.v 4)⟩,
      ⟨.push, 17, none, .nilck (.s 0)⟩,
      ⟨.push, 18, none, .fldAddr 0 (.s 0)⟩,
      ⟨.push, 19, none, .load false 1 (.s 0)⟩,
      ⟨.push, 20, none, .mov (.v 1)⟩,
      ⟨.push, 21, none, .bin false .sub (.s 0) (.c (.int .i64 (1)))⟩,
      ⟨.push, 22, none, .call 46 [(.s 2), (.c (.int .i64 (0))), (.s 0)]⟩,
      ⟨.push, 23, none, .un .not (.s 0)⟩,
      ⟨.push, 24, none, .mov (.s 0)⟩,
      ⟨.push, 25, (some ((.s 0), false)), .mov (.v 4)⟩,
      ⟨.push, 26, (some ((.s 1), false)), .nilck (.s 0)⟩,
      ⟨.push, 27, (some ((.s 2), false)), .fldAddr 1 (.s 0)⟩,
      ⟨.push, 28, (some ((.s 3), false)), .load false 1 (.s 0)⟩,
      ⟨.push, 29, (some ((.s 4), false)), .call 47 [(.s 0)]⟩,
      ⟨.push, 30, (some ((.s 5), false)), .un .not (.s 0)⟩,
      ⟨.push, 31, none, .pick (.s 6) (.c (.bool true)) (.s 0)⟩] (.s 0)
    (.seq (.region false [
        ⟨.var 2, 4, none, .mov (.c (.bool false))⟩])
     (.ret))
    (.skip))
   (.anyo 41 [
     ⟨.slot 0, 32, none, .mov (.v 3)⟩,
     ⟨.slot 1, 33, none, .bin false .gtr (.s 0) (.c (.int .i64 (0)))⟩,
     ⟨.slot 2, 34, none, .mov (.s 1)⟩,
     ⟨.slot 3, 35, (some ((.s 2), true)), .mov (.v 0)⟩,
     ⟨.slot 4, 36, (some ((.s 2), true)), .mov (.v 3)⟩,
     ⟨.slot 5, 37, (some ((.s 2), true)), .bin false .sub (.s 4) (.c (.int .i64 (1)))⟩,
     ⟨.slot 6, 38, (some ((.s 2), true)), .ixAddr 2 (.s 3) (.s 5)⟩,
     ⟨.slot 7, 39, (some ((.s 2), true)), .fldAddr 0 (.s 6)⟩,
     ⟨.slot 8, 40, (some ((.s 2), true)), .load false 1 (.s 7)⟩,
     ⟨.slot 9, 41, (some ((.s 2), true)), .mov (.v 4)⟩,
     ⟨.slot 10, 42, (some ((.s 2), true)), .nilck (.s 9)⟩,
     ⟨.slot 11, 43, (some ((.s 2), true)), .fldAddr 0 (.s 10)⟩,
     ⟨.slot 12, 44, (some ((.s 2), true)), .load false 1 (.s 11)⟩,
     ⟨.slot 13, 45, (some ((.s 2), true)), .bin false .gtr (.s 8) (.s 12)⟩,
     ⟨.slot 14, 46, (some ((.s 2), true)), .mov (.s 13)⟩,
     ⟨.slot 15, 47, (some ((.s 14), false)), .mov (.v 0)⟩,
     ⟨.slot 16, 48, (some ((.s 14), false)), .mov (.v 3)⟩,
     ⟨.slot 17, 49, (some ((.s 14), false)), .bin false .sub (.s 16) (.c (.int .i64 (1)))⟩,
     ⟨.slot 18, 50, (some ((.s 14), false)), .ixAddr 2 (.s 15) (.s 17)⟩,
     ⟨.slot 19, 51, (some ((.s 14), false)), .fldAddr 0 (.s 18)⟩,
     ⟨.slot 20, 52, (some ((.s 14), false)), .load false 1 (.s 19)⟩,
     ⟨.slot 21, 53, (some ((.s 14), false)), .mov (.v 4)⟩,
     ⟨.slot 22, 54, (some ((.s 14), false)), .nilck (.s 21)⟩,
     ⟨.slot 23, 55, (some ((.s 14), false)), .fldAddr 0 (.s 22)⟩,
     ⟨.slot 24, 56, (some ((.s 14), false)), .load false 1 (.s 23)⟩,
     ⟨.slot 25, 57, (some ((.s 14), false)), .bin false .eql (.s 20) (.s 24)⟩,
     ⟨.slot 26, 58, (some ((.s 14), false)), .mov (.s 25)⟩,
     ⟨.slot 27, 59, (some ((.s 26), true)), .mov (.v 0)⟩,
     ⟨.slot 28, 60, (some ((.s 26), true)), .mov (.v 3)⟩,
     ⟨.slot 29, 61, (some ((.s 26), true)), .bin false .sub (.s 28) (.c (.int .i64 (1)))⟩,
     ⟨.slot 30, 62, (some ((.s 26), true)), .ixAddr 2 (.s 27) (.s 29)⟩,
     ⟨.slot 31, 63, (some ((.s 26), true)), .fldAddr 1 (.s 30)⟩,
     ⟨.slot 32, 64, (some ((.s 26), true)), .load false 1 (.s 31)⟩,
     ⟨.slot 33, 65, (some ((.s 26), true)), .mov (.v 4)⟩,
     ⟨.slot 34, 66, (some ((.s 26), true)), .nilck (.s 33)⟩,
     ⟨.slot 35, 67, (some ((.s 26), true)), .fldAddr 1 (.s 34)⟩,
     ⟨.slot 36, 68, (some ((.s 26), true)), .load false 1 (.s 35)⟩,
     ⟨.slot 37, 69, (some ((.s 26), true)), .bin false .geq (.s 32) (.s 36)⟩,
     ⟨.slot 38, 70, (some ((.s 14), false)), .pick (.s 26) (.s 37) (.c (.bool false))⟩,
     ⟨.slot 39, 71, (some ((.s 2), true)), .pick (.s 14) (.c (.bool true)) (.s 38)⟩,
     ⟨.slot 40, 72, none, .pick (.s 2) (.s 39) (.c (.bool false))⟩] [] (.cond (.s 40)
   (.seq (.region false [
       ⟨.var 2, 4, none, .mov (.c (.bool false))⟩])
    (.ret))
   (.skip))))))
 (.region false [
   ⟨.push, 11, none, .mov (.v 3)⟩,
   ⟨.push, 12, none, .bin false .add (.s 0) (.c (.int .i64 (1)))⟩,
   ⟨.var 3, 5, none, .mov (.s 0)⟩]))
def ir24_k0 : List Bool := [true, true, false, true, false]
def ir24_o0 : List Bool := [false, false, false, false, false]
def ir24_r0 : List Bool := [false, false, true, false, false]
def ir24_v : List Nat := [0, 1, 4, 5, 6]
def ir24 : AFn := ⟨2, 5, .seq (.region false [
    ⟨.var 2, 4, none, .mov (.c (.bool false))⟩])
 (.seq (.seq (.region false [
     ⟨.var 3, 5, none, .mov (.c (.int .i64 (0)))⟩])
  (.block 0 (.loop ir24_k0 ir24_o0 ir24_r0 ir24_b0)))
 (.seq (.region false [
    ⟨.var 2, 4, none, .mov (.c (.bool true))⟩])
 (.ret))), [.t 2]⟩
noncomputable def t_spec_l26Faults : List (Nat × Ctr) := [(46, c_spec_l00In), (47, c_spec_l26Kind)]
theorem lk_spec_l26Faults_46 : look t_spec_l26Faults 46 = some c_spec_l00In := rfl
theorem lk_spec_l26Faults_47 : look t_spec_l26Faults 47 = some c_spec_l26Kind := rfl
noncomputable def c_spec_l26Faults : Ctr := mkF t_spec_l26Faults ir24 [.bor, .bor]
theorem s_spec_l26Faults : Sound Tryd.prog 24 c_spec_l26Faults := mkF_sound _ rfl (snd_cons s_spec_l00In (snd_cons s_spec_l26Kind snd_nil)) (by kernel_rfl : chkFn Tryd.prog 24 ir24 ir24_v = true)
theorem M_spec_l26Faults : c_spec_l26Faults.modes = [.bor, .bor] := rfl
theorem Fl_spec_l26Faults : c_spec_l26Faults.flat = true := rfl
attribute [go_sem] M_spec_l26Faults Fl_spec_l26Faults
attribute [go_sem] lk_spec_l26Faults_46 lk_spec_l26Faults_47
def E_spec_l26Faults_l1 (faults : List Fault) (count : Int) : Int → St
  | i => ⟨[.sl 2 (List.map Fault_av faults), .int .i64 count, .any, .int .i64 i, .any], [], [], true⟩
def R_spec_l26Faults_l1 (faults : List Fault) (count : Int) : (Unit ⊕ Bool) → Res
  | .inl y => (.exit 0, ⟨[.any, .any, .any, .any, .any], [], [], true⟩)
  | .inr y => (.ret, ⟨[.any, .any, .bool y, .any, .any], [], [], true⟩)
theorem spec_l26Faults_l1_ex {faults : List Fault} {count : Int} {sgm_ : Int} {rho_ : Unit ⊕ Bool} (h : whileE (spec_l26Faults_l1 faults count) sgm_ = some rho_) : ∃ L0, ∀ L, L0 ≤ L → iter (exec (look t_spec_l26Faults) L ir24_b0) ir24_k0 ir24_o0 ir24_r0 L (E_spec_l26Faults_l1 faults count sgm_) = R_spec_l26Faults_l1 faults count rho_ := by
  refine loop_ex (E := E_spec_l26Faults_l1 faults count) (R := R_spec_l26Faults_l1 faults count) (fun y => by first | (intro c; cases c) | (rcases y with y | y <;> (intro c; cases c)) | (rcases y with y | y | y <;> (intro c; cases c))) ?_ h
  clear h
  intro i o_ h
  dsimp only [spec_l26Faults_l1] at h
  rcases it_some h with ⟨hk1, h⟩ | ⟨hk1, h⟩
  · try simp only [go_sem, n1, n2, n3, n4] at hk1
    all_goals
    obtain ⟨hk2, h⟩ := ck_some h
    have lhk2 := ix_lt hk2
    have xhk2 := getD_mapD Fault_av faults lhk2
    try simp only [go_sem] at lhk2
    try simp only [go_sem] at xhk2
    try simp only [go_sem, n1, n2, n3, n4, hk1] at hk2
    all_goals
    obtain ⟨y_3, hk3, h⟩ := bd_some h
    have fhk3 := Fs_spec_l00In hk3
    try simp only [go_sem, hk1, hk2] at fhk3
    obtain ⟨hk4, h⟩ := ck_some h
    rcases or_split hk4 with ⟨ghk4, hk4⟩ | ghk4
    · try simp only [go_sem, n1, n2, n3, n4, hk1, hk2] at ghk4
      all_goals
      obtain ⟨y_4, hhk4⟩ := Option.isSome_iff_exists.1 hk4
      have fhk4 := Fs_spec_l26Kind hhk4
      try simp only [go_sem, hk1, hk2, ghk4] at fhk4
      rcases it_some h with ⟨hk5, h⟩ | ⟨hk5, h⟩
      · try simp only [go_sem, n1, n2, n3, n4, hk1, hk2, ghk4, hhk4] at hk5
        all_goals
        obtain rfl := so_some h
        refine ⟨0, fun L hL => ?_⟩
        simp only [go_sem, ir24, E_spec_l26Faults_l1, R_spec_l26Faults_l1, ir24_b0, ir24_k0, ir24_o0, ir24_r0, hk1, hk2, lhk2, xhk2, fhk3, ghk4, hhk4, fhk4, hk5]
      · try simp only [go_sem, n1, n2, n3, n4, hk1, hk2, ghk4, hhk4] at hk5
        all_goals
        obtain ⟨hk6, h⟩ := ck_some h
        rcases or_split hk6 with ⟨ghk6, hk6⟩ | ghk6
        · try simp only [go_sem, n1, n2, n3, n4, hk1, hk2, ghk4, hhk4, hk5] at ghk6
          all_goals
          have lhk6 := ix_lt hk6
          have xhk6 := getD_mapD Fault_av faults lhk6
          try simp only [go_sem] at lhk6
          try simp only [go_sem] at xhk6
          try simp only [go_sem, n1, n2, n3, n4, hk1, hk2, ghk4, hhk4, hk5, ghk6] at hk6
          all_goals
          obtain ⟨hk7, h⟩ := ck_some h
          rcases or_split hk7 with ⟨ghk7, hk7⟩ | ghk7
          · try simp only [go_sem, n1, n2, n3, n4, hk1, hk2, ghk4, hhk4, hk5, ghk6, hk6] at ghk7
            all_goals
            have lhk7 := ix_lt hk7
            have xhk7 := getD_mapD Fault_av faults lhk7
            try simp only [go_sem] at lhk7
            try simp only [go_sem] at xhk7
            try simp only [go_sem, n1, n2, n3, n4, hk1, hk2, ghk4, hhk4, hk5, ghk6, hk6, ghk7] at hk7
            all_goals
            obtain ⟨hk8, h⟩ := ck_some h
            rcases or_split hk8 with ⟨ghk8, hk8⟩ | ghk8
            · try simp only [go_sem, n1, n2, n3, n4, hk1, hk2, ghk4, hhk4, hk5, ghk6, hk6, ghk7, hk7] at ghk8
              all_goals
              have lhk8 := ix_lt hk8
              have xhk8 := getD_mapD Fault_av faults lhk8
              try simp only [go_sem] at lhk8
              try simp only [go_sem] at xhk8
              try simp only [go_sem, n1, n2, n3, n4, hk1, hk2, ghk4, hhk4, hk5, ghk6, hk6, ghk7, hk7, ghk8] at hk8
              all_goals
              rcases it_some h with ⟨hk9, h⟩ | ⟨hk9, h⟩
              · try simp only [go_sem, n1, n2, n3, n4, hk1, hk2, ghk4, hhk4, hk5, ghk6, hk6, ghk7, hk7, ghk8, hk8] at hk9
                all_goals
                obtain rfl := so_some h
                refine ⟨0, fun L hL => ?_⟩
                simp only [go_sem, ir24, E_spec_l26Faults_l1, R_spec_l26Faults_l1, ir24_b0, ir24_k0, ir24_o0, ir24_r0, hk1, hk2, lhk2, xhk2, fhk3, ghk4, hhk4, fhk4, hk5, ghk6, hk6, lhk6, xhk6, ghk7, hk7, lhk7, xhk7, ghk8, hk8, lhk8, xhk8, hk9]
              · try simp only [go_sem, n1, n2, n3, n4, hk1, hk2, ghk4, hhk4, hk5, ghk6, hk6, ghk7, hk7, ghk8, hk8] at hk9
                all_goals
                obtain rfl := so_some h
                refine ⟨0, fun L hL => ?_⟩
                simp only [go_sem, ir24, E_spec_l26Faults_l1, R_spec_l26Faults_l1, ir24_b0, ir24_k0, ir24_o0, ir24_r0, hk1, hk2, lhk2, xhk2, fhk3, ghk4, hhk4, fhk4, hk5, ghk6, hk6, lhk6, xhk6, ghk7, hk7, lhk7, xhk7, ghk8, hk8, lhk8, xhk8, hk9]
            · rcases and_f ghk8 with ghk8a | ⟨ghk8a, ghk8b⟩
              · rcases and_f ghk8a with ghk8aa | ⟨ghk8aa, ghk8ab⟩
                · try simp only [go_sem, n1, n2, n3, n4, hk1, hk2, ghk4, hhk4, hk5, ghk6, hk6, ghk7, hk7] at ghk8aa
                  all_goals
                  rcases it_some h with ⟨hk9, h⟩ | ⟨hk9, h⟩
                  · try simp only [go_sem, n1, n2, n3, n4, hk1, hk2, ghk4, hhk4, hk5, ghk6, hk6, ghk7, hk7, ghk8aa] at hk9
                    all_goals
                    obtain rfl := so_some h
                    refine ⟨0, fun L hL => ?_⟩
                    simp only [go_sem, ir24, E_spec_l26Faults_l1, R_spec_l26Faults_l1, ir24_b0, ir24_k0, ir24_o0, ir24_r0, hk1, hk2, lhk2, xhk2, fhk3, ghk4, hhk4, fhk4, hk5, ghk6, hk6, lhk6, xhk6, ghk7, hk7, lhk7, xhk7, ghk8aa, hk9]
                  · try simp only [go_sem, n1, n2, n3, n4, hk1, hk2, ghk4, hhk4, hk5, ghk6, hk6, ghk7, hk7, ghk8aa] at hk9
                    all_goals
                    obtain rfl := so_some h
                    refine ⟨0, fun L hL => ?_⟩
                    simp only [go_sem, ir24, E_spec_l26Faults_l1, R_spec_l26Faults_l1, ir24_b0, ir24_k0, ir24_o0, ir24_r0, hk1, hk2, lhk2, xhk2, fhk3, ghk4, hhk4, fhk4, hk5, ghk6, hk6, lhk6, xhk6, ghk7, hk7, lhk7, xhk7, ghk8aa, hk9]
                · have ghk8abn := no_f ghk8ab
                  try simp only [go_sem, n1, n2, n3, n4, hk1, hk2, ghk4, hhk4, hk5, ghk6, hk6, ghk7, hk7] at ghk8aa
                  all_goals
                  try simp only [go_sem, n1, n2, n3, n4, hk1, hk2, ghk4, hhk4, hk5, ghk6, hk6, ghk7, hk7, ghk8aa] at ghk8abn
                  all_goals
                  rcases it_some h with ⟨hk9, h⟩ | ⟨hk9, h⟩
                  · try simp only [go_sem, n1, n2, n3, n4, hk1, hk2, ghk4, hhk4, hk5, ghk6, hk6, ghk7, hk7, ghk8aa, ghk8abn] at hk9
                    all_goals
                    obtain rfl := so_some h
                    refine ⟨0, fun L hL => ?_⟩
                    simp only [go_sem, ir24, E_spec_l26Faults_l1, R_spec_l26Faults_l1, ir24_b0, ir24_k0, ir24_o0, ir24_r0, hk1, hk2, lhk2, xhk2, fhk3, ghk4, hhk4, fhk4, hk5, ghk6, hk6, lhk6, xhk6, ghk7, hk7, lhk7, xhk7, ghk8aa, ghk8abn, hk9]
                  · try simp only [go_sem, n1, n2, n3, n4, hk1, hk2, ghk4, hhk4, hk5, ghk6, hk6, ghk7, hk7, ghk8aa, ghk8abn] at hk9
                    all_goals
                    obtain rfl := so_some h
                    refine ⟨0, fun L hL => ?_⟩
                    simp only [go_sem, ir24, E_spec_l26Faults_l1, R_spec_l26Faults_l1, ir24_b0, ir24_k0, ir24_o0, ir24_r0, hk1, hk2, lhk2, xhk2, fhk3, ghk4, hhk4, fhk4, hk5, ghk6, hk6, lhk6, xhk6, ghk7, hk7, lhk7, xhk7, ghk8aa, ghk8abn, hk9]
              · obtain ⟨ghk8aa, ghk8ab⟩ := and_t ghk8a
                have ghk8abn := no_t ghk8ab
                try simp only [go_sem, n1, n2, n3, n4, hk1, hk2, ghk4, hhk4, hk5, ghk6, hk6, ghk7, hk7] at ghk8aa
                all_goals
                try simp only [go_sem, n1, n2, n3, n4, hk1, hk2, ghk4, hhk4, hk5, ghk6, hk6, ghk7, hk7, ghk8aa] at ghk8abn
                all_goals
                try simp only [go_sem, n1, n2, n3, n4, hk1, hk2, ghk4, hhk4, hk5, ghk6, hk6, ghk7, hk7, ghk8aa, ghk8abn] at ghk8b
                all_goals
                rcases it_some h with ⟨hk9, h⟩ | ⟨hk9, h⟩
                · try simp only [go_sem, n1, n2, n3, n4, hk1, hk2, ghk4, hhk4, hk5, ghk6, hk6, ghk7, hk7, ghk8aa, ghk8abn, ghk8b] at hk9
                  all_goals
                  obtain rfl := so_some h
                  refine ⟨0, fun L hL => ?_⟩
                  simp only [go_sem, ir24, E_spec_l26Faults_l1, R_spec_l26Faults_l1, ir24_b0, ir24_k0, ir24_o0, ir24_r0, hk1, hk2, lhk2, xhk2, fhk3, ghk4, hhk4, fhk4, hk5, ghk6, hk6, lhk6, xhk6, ghk7, hk7, lhk7, xhk7, ghk8aa, ghk8abn, ghk8b, hk9]
                · try simp only [go_sem, n1, n2, n3, n4, hk1, hk2, ghk4, hhk4, hk5, ghk6, hk6, ghk7, hk7, ghk8aa, ghk8abn, ghk8b] at hk9
                  all_goals
                  obtain rfl := so_some h
                  refine ⟨0, fun L hL => ?_⟩
                  simp only [go_sem, ir24, E_spec_l26Faults_l1, R_spec_l26Faults_l1, ir24_b0, ir24_k0, ir24_o0, ir24_r0, hk1, hk2, lhk2, xhk2, fhk3, ghk4, hhk4, fhk4, hk5, ghk6, hk6, lhk6, xhk6, ghk7, hk7, lhk7, xhk7, ghk8aa, ghk8abn, ghk8b, hk9]
          · rcases and_f ghk7 with ghk7a | ⟨ghk7a, ghk7b⟩
            · try simp only [go_sem, n1, n2, n3, n4, hk1, hk2, ghk4, hhk4, hk5, ghk6, hk6] at ghk7a
              all_goals
              obtain ⟨hk8, h⟩ := ck_some h
              rcases or_split hk8 with ⟨ghk8, hk8⟩ | ghk8
              · try simp only [go_sem, n1, n2, n3, n4, hk1, hk2, ghk4, hhk4, hk5, ghk6, hk6, ghk7a] at ghk8
                all_goals
                have lhk8 := ix_lt hk8
                have xhk8 := getD_mapD Fault_av faults lhk8
                try simp only [go_sem] at lhk8
                try simp only [go_sem] at xhk8
                try simp only [go_sem, n1, n2, n3, n4, hk1, hk2, ghk4, hhk4, hk5, ghk6, hk6, ghk7a, ghk8] at hk8
                all_goals
                rcases it_some h with ⟨hk9, h⟩ | ⟨hk9, h⟩
                · try simp only [go_sem, n1, n2, n3, n4, hk1, hk2, ghk4, hhk4, hk5, ghk6, hk6, ghk7a, ghk8, hk8] at hk9
                  all_goals
                  obtain rfl := so_some h
                  refine ⟨0, fun L hL => ?_⟩
                  simp only [go_sem, ir24, E_spec_l26Faults_l1, R_spec_l26Faults_l1, ir24_b0, ir24_k0, ir24_o0, ir24_r0, hk1, hk2, lhk2, xhk2, fhk3, ghk4, hhk4, fhk4, hk5, ghk6, hk6, lhk6, xhk6, ghk7a, ghk8, hk8, lhk8, xhk8, hk9]
                · try simp only [go_sem, n1, n2, n3, n4, hk1, hk2, ghk4, hhk4, hk5, ghk6, hk6, ghk7a, ghk8, hk8] at hk9
                  all_goals
                  obtain rfl := so_some h
                  refine ⟨0, fun L hL => ?_⟩
                  simp only [go_sem, ir24, E_spec_l26Faults_l1, R_spec_l26Faults_l1, ir24_b0, ir24_k0, ir24_o0, ir24_r0, hk1, hk2, lhk2, xhk2, fhk3, ghk4, hhk4, fhk4, hk5, ghk6, hk6, lhk6, xhk6, ghk7a, ghk8, hk8, lhk8, xhk8, hk9]
              · rcases and_f ghk8 with ghk8a | ⟨ghk8a, ghk8b⟩
                · rcases and_f ghk8a with ghk8aa | ⟨ghk8aa, ghk8ab⟩
                  · try simp only [go_sem, n1, n2, n3, n4, hk1, hk2, ghk4, hhk4, hk5, ghk6, hk6, ghk7a] at ghk8aa
                    all_goals
                    rcases it_some h with ⟨hk9, h⟩ | ⟨hk9, h⟩
                    · try simp only [go_sem, n1, n2, n3, n4, hk1, hk2, ghk4, hhk4, hk5, ghk6, hk6, ghk7a, ghk8aa] at hk9
                      all_goals
                      obtain rfl := so_some h
                      refine ⟨0, fun L hL => ?_⟩
                      simp only [go_sem, ir24, E_spec_l26Faults_l1, R_spec_l26Faults_l1, ir24_b0, ir24_k0, ir24_o0, ir24_r0, hk1, hk2, lhk2, xhk2, fhk3, ghk4, hhk4, fhk4, hk5, ghk6, hk6, lhk6, xhk6, ghk7a, ghk8aa, hk9]
                    · try simp only [go_sem, n1, n2, n3, n4, hk1, hk2, ghk4, hhk4, hk5, ghk6, hk6, ghk7a, ghk8aa] at hk9
                      all_goals
                      obtain rfl := so_some h
                      refine ⟨0, fun L hL => ?_⟩
                      simp only [go_sem, ir24, E_spec_l26Faults_l1, R_spec_l26Faults_l1, ir24_b0, ir24_k0, ir24_o0, ir24_r0, hk1, hk2, lhk2, xhk2, fhk3, ghk4, hhk4, fhk4, hk5, ghk6, hk6, lhk6, xhk6, ghk7a, ghk8aa, hk9]
                  · have ghk8abn := no_f ghk8ab
                    try simp only [go_sem, n1, n2, n3, n4, hk1, hk2, ghk4, hhk4, hk5, ghk6, hk6, ghk7a] at ghk8aa
                    all_goals
                    try simp only [go_sem, n1, n2, n3, n4, hk1, hk2, ghk4, hhk4, hk5, ghk6, hk6, ghk7a, ghk8aa] at ghk8abn
                    all_goals
                    rcases it_some h with ⟨hk9, h⟩ | ⟨hk9, h⟩
                    · try simp only [go_sem, n1, n2, n3, n4, hk1, hk2, ghk4, hhk4, hk5, ghk6, hk6, ghk7a, ghk8aa, ghk8abn] at hk9
                      all_goals
                      obtain rfl := so_some h
                      refine ⟨0, fun L hL => ?_⟩
                      simp only [go_sem, ir24, E_spec_l26Faults_l1, R_spec_l26Faults_l1, ir24_b0, ir24_k0, ir24_o0, ir24_r0, hk1, hk2, lhk2, xhk2, fhk3, ghk4, hhk4, fhk4, hk5, ghk6, hk6, lhk6, xhk6, ghk7a, ghk8aa, ghk8abn, hk9]
                    · try simp only [go_sem, n1, n2, n3, n4, hk1, hk2, ghk4, hhk4, hk5, ghk6, hk6, ghk7a, ghk8aa, ghk8abn] at hk9
                      all_goals
                      obtain rfl := so_some h
                      refine ⟨0, fun L hL => ?_⟩
                      simp only [go_sem, ir24, E_spec_l26Faults_l1, R_spec_l26Faults_l1, ir24_b0, ir24_k0, ir24_o0, ir24_r0, hk1, hk2, lhk2, xhk2, fhk3, ghk4, hhk4, fhk4, hk5, ghk6, hk6, lhk6, xhk6, ghk7a, ghk8aa, ghk8abn, hk9]
                · obtain ⟨ghk8aa, ghk8ab⟩ := and_t ghk8a
                  have ghk8abn := no_t ghk8ab
                  try simp only [go_sem, n1, n2, n3, n4, hk1, hk2, ghk4, hhk4, hk5, ghk6, hk6, ghk7a] at ghk8aa
                  all_goals
                  try simp only [go_sem, n1, n2, n3, n4, hk1, hk2, ghk4, hhk4, hk5, ghk6, hk6, ghk7a, ghk8aa] at ghk8abn
                  all_goals
                  try simp only [go_sem, n1, n2, n3, n4, hk1, hk2, ghk4, hhk4, hk5, ghk6, hk6, ghk7a, ghk8aa, ghk8abn] at ghk8b
                  all_goals
                  rcases it_some h with ⟨hk9, h⟩ | ⟨hk9, h⟩
                  · try simp only [go_sem, n1, n2, n3, n4, hk1, hk2, ghk4, hhk4, hk5, ghk6, hk6, ghk7a, ghk8aa, ghk8abn, ghk8b] at hk9
                    all_goals
                    obtain rfl := so_some h
                    refine ⟨0, fun L hL => ?_⟩
                    simp only [go_sem, ir24, E_spec_l26Faults_l1, R_spec_l26Faults_l1, ir24_b0, ir24_k0, ir24_o0, ir24_r0, hk1, hk2, lhk2, xhk2, fhk3, ghk4, hhk4, fhk4, hk5, ghk6, hk6, lhk6, xhk6, ghk7a, ghk8aa, ghk8abn, ghk8b, hk9]
                  · try simp only [go_sem, n1, n2, n3, n4, hk1, hk2, ghk4, hhk4, hk5, ghk6, hk6, ghk7a, ghk8aa, ghk8abn, ghk8b] at hk9
                    all_goals
                    obtain rfl := so_some h
                    refine ⟨0, fun L hL => ?_⟩
                    simp only [go_sem, ir24, E_spec_l26Faults_l1, R_spec_l26Faults_l1, ir24_b0, ir24_k0, ir24_o0, ir24_r0, hk1, hk2, lhk2, xhk2, fhk3, ghk4, hhk4, fhk4, hk5, ghk6, hk6, lhk6, xhk6, ghk7a, ghk8aa, ghk8abn, ghk8b, hk9]
            · have ghk7bn := no_f ghk7b
              try simp only [go_sem, n1, n2, n3, n4, hk1, hk2, ghk4, hhk4, hk5, ghk6, hk6] at ghk7a
              all_goals
              try simp only [go_sem, n1, n2, n3, n4, hk1, hk2, ghk4, hhk4, hk5, ghk6, hk6, ghk7a] at ghk7bn
              all_goals
              obtain ⟨hk8, h⟩ := ck_some h
              rcases or_split hk8 with ⟨ghk8, hk8⟩ | ghk8
              · try simp only [go_sem, n1, n2, n3, n4, hk1, hk2, ghk4, hhk4, hk5, ghk6, hk6, ghk7a, ghk7bn] at ghk8
                all_goals
                have lhk8 := ix_lt hk8
                have xhk8 := getD_mapD Fault_av faults lhk8
                try simp only [go_sem] at lhk8
                try simp only [go_sem] at xhk8
                try simp only [go_sem, n1, n2, n3, n4, hk1, hk2, ghk4, hhk4, hk5, ghk6, hk6, ghk7a, ghk7bn, ghk8] at hk8
                all_goals
                rcases it_some h with ⟨hk9, h⟩ | ⟨hk9, h⟩
                · try simp only [go_sem, n1, n2, n3, n4, hk1, hk2, ghk4, hhk4, hk5, ghk6, hk6, ghk7a, ghk7bn, ghk8, hk8] at hk9
                  all_goals
                  obtain rfl := so_some h
                  refine ⟨0, fun L hL => ?_⟩
                  simp only [go_sem, ir24, E_spec_l26Faults_l1, R_spec_l26Faults_l1, ir24_b0, ir24_k0, ir24_o0, ir24_r0, hk1, hk2, lhk2, xhk2, fhk3, ghk4, hhk4, fhk4, hk5, ghk6, hk6, lhk6, xhk6, ghk7a, ghk7bn, ghk8, hk8, lhk8, xhk8, hk9]
                · try simp only [go_sem, n1, n2, n3, n4, hk1, hk2, ghk4, hhk4, hk5, ghk6, hk6, ghk7a, ghk7bn, ghk8, hk8] at hk9
                  all_goals
                  obtain rfl := so_some h
                  refine ⟨0, fun L hL => ?_⟩
                  simp only [go_sem, ir24, E_spec_l26Faults_l1, R_spec_l26Faults_l1, ir24_b0, ir24_k0, ir24_o0, ir24_r0, hk1, hk2, lhk2, xhk2, fhk3, ghk4, hhk4, fhk4, hk5, ghk6, hk6, lhk6, xhk6, ghk7a, ghk7bn, ghk8, hk8, lhk8, xhk8, hk9]
              · rcases and_f ghk8 with ghk8a | ⟨ghk8a, ghk8b⟩
                · rcases and_f ghk8a with ghk8aa | ⟨ghk8aa, ghk8ab⟩
                  · try simp only [go_sem, n1, n2, n3, n4, hk1, hk2, ghk4, hhk4, hk5, ghk6, hk6, ghk7a, ghk7bn] at ghk8aa
                    all_goals
                    rcases it_some h with ⟨hk9, h⟩ | ⟨hk9, h⟩
                    · try simp only [go_sem, n1, n2, n3, n4, hk1, hk2, ghk4, hhk4, hk5, ghk6, hk6, ghk7a, ghk7bn, ghk8aa] at hk9
                      all_goals
                      obtain rfl := so_some h
                      refine ⟨0, fun L hL => ?_⟩
                      simp only [go_sem, ir24, E_spec_l26Faults_l1, R_spec_l26Faults_l1, ir24_b0, ir24_k0, ir24_o0, ir24_r0, hk1, hk2, lhk2, xhk2, fhk3, ghk4, hhk4, fhk4, hk5, ghk6, hk6, lhk6, xhk6, ghk7a, ghk7bn, ghk8aa, hk9]
                    · try simp only [go_sem, n1, n2, n3, n4, hk1, hk2, ghk4, hhk4, hk5, ghk6, hk6, ghk7a, ghk7bn, ghk8aa] at hk9
                      all_goals
                      obtain rfl := so_some h
                      refine ⟨0, fun L hL => ?_⟩
                      simp only [go_sem, ir24, E_spec_l26Faults_l1, R_spec_l26Faults_l1, ir24_b0, ir24_k0, ir24_o0, ir24_r0, hk1, hk2, lhk2, xhk2, fhk3, ghk4, hhk4, fhk4, hk5, ghk6, hk6, lhk6, xhk6, ghk7a, ghk7bn, ghk8aa, hk9]
                  · have ghk8abn := no_f ghk8ab
                    try simp only [go_sem, n1, n2, n3, n4, hk1, hk2, ghk4, hhk4, hk5, ghk6, hk6, ghk7a, ghk7bn] at ghk8aa
                    all_goals
                    try simp only [go_sem, n1, n2, n3, n4, hk1, hk2, ghk4, hhk4, hk5, ghk6, hk6, ghk7a, ghk7bn, ghk8aa] at ghk8abn
                    all_goals
                    rcases it_some h with ⟨hk9, h⟩ | ⟨hk9, h⟩
                    · try simp only [go_sem, n1, n2, n3, n4, hk1, hk2, ghk4, hhk4, hk5, ghk6, hk6, ghk7a, ghk7bn, ghk8aa, ghk8abn] at hk9
                      all_goals
                      obtain rfl := so_some h
                      refine ⟨0, fun L hL => ?_⟩
                      simp only [go_sem, ir24, E_spec_l26Faults_l1, R_spec_l26Faults_l1, ir24_b0, ir24_k0, ir24_o0, ir24_r0, hk1, hk2, lhk2, xhk2, fhk3, ghk4, hhk4, fhk4, hk5, ghk6, hk6, lhk6, xhk6, ghk7a, ghk7bn, ghk8aa, ghk8abn, hk9]
                    · try simp only [go_sem, n1, n2, n3, n4, hk1, hk2, ghk4, hhk4, hk5, ghk6, hk6, ghk7a, ghk7bn, ghk8aa, ghk8abn] at hk9
                      all_goals
                      obtain rfl := so_some h
                      refine ⟨0, fun L hL => ?_⟩
                      simp only [go_sem, ir24, E_spec_l26Faults_l1, R_spec_l26Faults_l1, ir24_b0, ir24_k0, ir24_o0, ir24_r0, hk1, hk2, lhk2, xhk2, fhk3, ghk4, hhk4, fhk4, hk5, ghk6, hk6, lhk6, xhk6, ghk7a, ghk7bn, ghk8aa, ghk8abn, hk9]
                · obtain ⟨ghk8aa, ghk8ab⟩ := and_t ghk8a
                  have ghk8abn := no_t ghk8ab
                  try simp only [go_sem, n1, n2, n3, n4, hk1, hk2, ghk4, hhk4, hk5, ghk6, hk6, ghk7a, ghk7bn] at ghk8aa
                  all_goals
                  try simp only [go_sem, n1, n2, n3, n4, hk1, hk2, ghk4, hhk4, hk5, ghk6, hk6, ghk7a, ghk7bn, ghk8aa] at ghk8abn
                  all_goals
                  try simp only [go_sem, n1, n2, n3, n4, hk1, hk2, ghk4, hhk4, hk5, ghk6, hk6, ghk7a, ghk7bn, ghk8aa, ghk8abn] at ghk8b
                  all_goals
                  rcases it_some h with ⟨hk9, h⟩ | ⟨hk9, h⟩
                  · try simp only [go_sem, n1, n2, n3, n4, hk1, hk2, ghk4, hhk4, hk5, ghk6, hk6, ghk7a, ghk7bn, ghk8aa, ghk8abn, ghk8b] at hk9
                    all_goals
                    obtain rfl := so_some h
                    refine ⟨0, fun L hL => ?_⟩
                    simp only [go_sem, ir24, E_spec_l26Faults_l1, R_spec_l26Faults_l1, ir24_b0, ir24_k0, ir24_o0, ir24_r0, hk1, hk2, lhk2, xhk2, fhk3, ghk4, hhk4, fhk4, hk5, ghk6, hk6, lhk6, xhk6, ghk7a, ghk7bn, ghk8aa, ghk8abn, ghk8b, hk9]
                  · try simp only [go_sem, n1, n2, n3, n4, hk1, hk2, ghk4, hhk4, hk5, ghk6, hk6, ghk7a, ghk7bn, ghk8aa, ghk8abn, ghk8b] at hk9
                    all_goals
                    obtain rfl := so_some h
                    refine ⟨0, fun L hL => ?_⟩
                    simp only [go_sem, ir24, E_spec_l26Faults_l1, R_spec_l26Faults_l1, ir24_b0, ir24_k0, ir24_o0, ir24_r0, hk1, hk2, lhk2, xhk2, fhk3, ghk4, hhk4, fhk4, hk5, ghk6, hk6, lhk6, xhk6, ghk7a, ghk7bn, ghk8aa, ghk8abn, ghk8b, hk9]
        · try simp only [go_sem, n1, n2, n3, n4, hk1, hk2, ghk4, hhk4, hk5] at ghk6
          all_goals
          obtain ⟨hk7, h⟩ := ck_some h
          rcases or_split hk7 with ⟨ghk7, hk7⟩ | ghk7
          · try simp only [go_sem, n1, n2, n3, n4, hk1, hk2, ghk4, hhk4, hk5, ghk6] at ghk7
            all_goals
            have lhk7 := ix_lt hk7
            have xhk7 := getD_mapD Fault_av faults lhk7
            try simp only [go_sem] at lhk7
            try simp only [go_sem] at xhk7
            try simp only [go_sem, n1, n2, n3, n4, hk1, hk2, ghk4, hhk4, hk5, ghk6, ghk7] at hk7
            all_goals
            obtain ⟨hk8, h⟩ := ck_some h
            rcases or_split hk8 with ⟨ghk8, hk8⟩ | ghk8
            · try simp only [go_sem, n1, n2, n3, n4, hk1, hk2, ghk4, hhk4, hk5, ghk6, ghk7, hk7] at ghk8
              all_goals
              have lhk8 := ix_lt hk8
              have xhk8 := getD_mapD Fault_av faults lhk8
              try simp only [go_sem] at lhk8
              try simp only [go_sem] at xhk8
              try simp only [go_sem, n1, n2, n3, n4, hk1, hk2, ghk4, hhk4, hk5, ghk6, ghk7, hk7, ghk8] at hk8
              all_goals
              rcases it_some h with ⟨hk9, h⟩ | ⟨hk9, h⟩
              · try simp only [go_sem, n1, n2, n3, n4, hk1, hk2, ghk4, hhk4, hk5, ghk6, ghk7, hk7, ghk8, hk8] at hk9
                all_goals
                obtain rfl := so_some h
                refine ⟨0, fun L hL => ?_⟩
                simp only [go_sem, ir24, E_spec_l26Faults_l1, R_spec_l26Faults_l1, ir24_b0, ir24_k0, ir24_o0, ir24_r0, hk1, hk2, lhk2, xhk2, fhk3, ghk4, hhk4, fhk4, hk5, ghk6, ghk7, hk7, lhk7, xhk7, ghk8, hk8, lhk8, xhk8, hk9]
              · try simp only [go_sem, n1, n2, n3, n4, hk1, hk2, ghk4, hhk4, hk5, ghk6, ghk7, hk7, ghk8, hk8] at hk9
                all_goals
                obtain rfl := so_some h
                refine ⟨0, fun L hL => ?_⟩
                simp only [go_sem, ir24, E_spec_l26Faults_l1, R_spec_l26Faults_l1, ir24_b0, ir24_k0, ir24_o0, ir24_r0, hk1, hk2, lhk2, xhk2, fhk3, ghk4, hhk4, fhk4, hk5, ghk6, ghk7, hk7, lhk7, xhk7, ghk8, hk8, lhk8, xhk8, hk9]
            · rcases and_f ghk8 with ghk8a | ⟨ghk8a, ghk8b⟩
              · rcases and_f ghk8a with ghk8aa | ⟨ghk8aa, ghk8ab⟩
                · try simp only [go_sem, n1, n2, n3, n4, hk1, hk2, ghk4, hhk4, hk5, ghk6, ghk7, hk7] at ghk8aa
                  all_goals
                  rcases it_some h with ⟨hk9, h⟩ | ⟨hk9, h⟩
                  · try simp only [go_sem, n1, n2, n3, n4, hk1, hk2, ghk4, hhk4, hk5, ghk6, ghk7, hk7, ghk8aa] at hk9
                    all_goals
                    obtain rfl := so_some h
                    refine ⟨0, fun L hL => ?_⟩
                    simp only [go_sem, ir24, E_spec_l26Faults_l1, R_spec_l26Faults_l1, ir24_b0, ir24_k0, ir24_o0, ir24_r0, hk1, hk2, lhk2, xhk2, fhk3, ghk4, hhk4, fhk4, hk5, ghk6, ghk7, hk7, lhk7, xhk7, ghk8aa, hk9]
                  · try simp only [go_sem, n1, n2, n3, n4, hk1, hk2, ghk4, hhk4, hk5, ghk6, ghk7, hk7, ghk8aa] at hk9
                    all_goals
                    obtain rfl := so_some h
                    refine ⟨0, fun L hL => ?_⟩
                    simp only [go_sem, ir24, E_spec_l26Faults_l1, R_spec_l26Faults_l1, ir24_b0, ir24_k0, ir24_o0, ir24_r0, hk1, hk2, lhk2, xhk2, fhk3, ghk4, hhk4, fhk4, hk5, ghk6, ghk7, hk7, lhk7, xhk7, ghk8aa, hk9]
                · have ghk8abn := no_f ghk8ab
                  try simp only [go_sem, n1, n2, n3, n4, hk1, hk2, ghk4, hhk4, hk5, ghk6, ghk7, hk7] at ghk8aa
                  all_goals
                  try simp only [go_sem, n1, n2, n3, n4, hk1, hk2, ghk4, hhk4, hk5, ghk6, ghk7, hk7, ghk8aa] at ghk8abn
                  all_goals
                  rcases it_some h with ⟨hk9, h⟩ | ⟨hk9, h⟩
                  · try simp only [go_sem, n1, n2, n3, n4, hk1, hk2, ghk4, hhk4, hk5, ghk6, ghk7, hk7, ghk8aa, ghk8abn] at hk9
                    all_goals
                    obtain rfl := so_some h
                    refine ⟨0, fun L hL => ?_⟩
                    simp only [go_sem, ir24, E_spec_l26Faults_l1, R_spec_l26Faults_l1, ir24_b0, ir24_k0, ir24_o0, ir24_r0, hk1, hk2, lhk2, xhk2, fhk3, ghk4, hhk4, fhk4, hk5, ghk6, ghk7, hk7, lhk7, xhk7, ghk8aa, ghk8abn, hk9]
                  · try simp only [go_sem, n1, n2, n3, n4, hk1, hk2, ghk4, hhk4, hk5, ghk6, ghk7, hk7, ghk8aa, ghk8abn] at hk9
                    all_goals
                    obtain rfl := so_some h
                    refine ⟨0, fun L hL => ?_⟩
                    simp only [go_sem, ir24, E_spec_l26Faults_l1, R_spec_l26Faults_l1, ir24_b0, ir24_k0, ir24_o0, ir24_r0, hk1, hk2, lhk2, xhk2, fhk3, ghk4, hhk4, fhk4, hk5, ghk6, ghk7, hk7, lhk7, xhk7, ghk8aa, ghk8abn, hk9]
              · obtain ⟨ghk8aa, ghk8ab⟩ := and_t ghk8a
                have ghk8abn := no_t ghk8ab
                try simp only [go_sem, n1, n2, n3, n4, hk1, hk2, ghk4, hhk4, hk5, ghk6, ghk7, hk7] at ghk8aa
                all_goals
                try simp only [go_sem, n1, n2, n3, n4, hk1, hk2, ghk4, hhk4, hk5, ghk6, ghk7, hk7, ghk8aa] at ghk8abn
                all_goals
                try simp only [go_sem, n1, n2, n3, n4, hk1, hk2, ghk4, hhk4, hk5, ghk6, ghk7, hk7, ghk8aa, ghk8abn] at ghk8b
                all_goals
                rcases it_some h with ⟨hk9, h⟩ | ⟨hk9, h⟩
                · try simp only [go_sem, n1, n2, n3, n4, hk1, hk2, ghk4, hhk4, hk5, ghk6, ghk7, hk7, ghk8aa, ghk8abn, ghk8b] at hk9
                  all_goals
                  obtain rfl := so_some h
                  refine ⟨0, fun L hL => ?_⟩
                  simp only [go_sem, ir24, E_spec_l26Faults_l1, R_spec_l26Faults_l1, ir24_b0, ir24_k0, ir24_o0, ir24_r0, hk1, hk2, lhk2, xhk2, fhk3, ghk4, hhk4, fhk4, hk5, ghk6, ghk7, hk7, lhk7, xhk7, ghk8aa, ghk8abn, ghk8b, hk9]
                · try simp only [go_sem, n1, n2, n3, n4, hk1, hk2, ghk4, hhk4, hk5, ghk6, ghk7, hk7, ghk8aa, ghk8abn, ghk8b] at hk9
                  all_goals
                  obtain rfl := so_some h
                  refine ⟨0, fun L hL => ?_⟩
                  simp only [go_sem, ir24, E_spec_l26Faults_l1, R_spec_l26Faults_l1, ir24_b0, ir24_k0, ir24_o0, ir24_r0, hk1, hk2, lhk2, xhk2, fhk3, ghk4, hhk4, fhk4, hk5, ghk6, ghk7, hk7, lhk7, xhk7, ghk8aa, ghk8abn, ghk8b, hk9]
          · rcases and_f ghk7 with ghk7a | ⟨ghk7a, ghk7b⟩
            · try simp only [go_sem, n1, n2, n3, n4, hk1, hk2, ghk4, hhk4, hk5, ghk6] at ghk7a
              all_goals
              obtain ⟨hk8, h⟩ := ck_some h
              rcases or_split hk8 with ⟨ghk8, hk8⟩ | ghk8
              · try simp only [go_sem, n1, n2, n3, n4, hk1, hk2, ghk4, hhk4, hk5, ghk6, ghk7a] at ghk8
                all_goals
                have lhk8 := ix_lt hk8
                have xhk8 := getD_mapD Fault_av faults lhk8
                try simp only [go_sem] at lhk8
                try simp only [go_sem] at xhk8
                try simp only [go_sem, n1, n2, n3, n4, hk1, hk2, ghk4, hhk4, hk5, ghk6, ghk7a, ghk8] at hk8
                all_goals
                rcases it_some h with ⟨hk9, h⟩ | ⟨hk9, h⟩
                · try simp only [go_sem, n1, n2, n3, n4, hk1, hk2, ghk4, hhk4, hk5, ghk6, ghk7a, ghk8, hk8] at hk9
                  all_goals
                  obtain rfl := so_some h
                  refine ⟨0, fun L hL => ?_⟩
                  simp only [go_sem, ir24, E_spec_l26Faults_l1, R_spec_l26Faults_l1, ir24_b0, ir24_k0, ir24_o0, ir24_r0, hk1, hk2, lhk2, xhk2, fhk3, ghk4, hhk4, fhk4, hk5, ghk6, ghk7a, ghk8, hk8, lhk8, xhk8, hk9]
                · try simp only [go_sem, n1, n2, n3, n4, hk1, hk2, ghk4, hhk4, hk5, ghk6, ghk7a, ghk8, hk8] at hk9
                  all_goals
                  obtain rfl := so_some h
                  refine ⟨0, fun L hL => ?_⟩
                  simp only [go_sem, ir24, E_spec_l26Faults_l1, R_spec_l26Faults_l1, ir24_b0, ir24_k0, ir24_o0, ir24_r0, hk1, hk2, lhk2, xhk2, fhk3, ghk4, hhk4, fhk4, hk5, ghk6, ghk7a, ghk8, hk8, lhk8, xhk8, hk9]
              · rcases and_f ghk8 with ghk8a | ⟨ghk8a, ghk8b⟩
                · rcases and_f ghk8a with ghk8aa | ⟨ghk8aa, ghk8ab⟩
                  · try simp only [go_sem, n1, n2, n3, n4, hk1, hk2, ghk4, hhk4, hk5, ghk6, ghk7a] at ghk8aa
                    all_goals
                    rcases it_some h with ⟨hk9, h⟩ | ⟨hk9, h⟩
                    · try simp only [go_sem, n1, n2, n3, n4, hk1, hk2, ghk4, hhk4, hk5, ghk6, ghk7a, ghk8aa] at hk9
                      all_goals
                      obtain rfl := so_some h
                      refine ⟨0, fun L hL => ?_⟩
                      simp only [go_sem, ir24, E_spec_l26Faults_l1, R_spec_l26Faults_l1, ir24_b0, ir24_k0, ir24_o0, ir24_r0, hk1, hk2, lhk2, xhk2, fhk3, ghk4, hhk4, fhk4, hk5, ghk6, ghk7a, ghk8aa, hk9]
                    · try simp only [go_sem, n1, n2, n3, n4, hk1, hk2, ghk4, hhk4, hk5, ghk6, ghk7a, ghk8aa] at hk9
                      all_goals
                      obtain rfl := so_some h
                      refine ⟨0, fun L hL => ?_⟩
                      simp only [go_sem, ir24, E_spec_l26Faults_l1, R_spec_l26Faults_l1, ir24_b0, ir24_k0, ir24_o0, ir24_r0, hk1, hk2, lhk2, xhk2, fhk3, ghk4, hhk4, fhk4, hk5, ghk6, ghk7a, ghk8aa, hk9]
                  · have ghk8abn := no_f ghk8ab
                    try simp only [go_sem, n1, n2, n3, n4, hk1, hk2, ghk4, hhk4, hk5, ghk6, ghk7a] at ghk8aa
                    all_goals
                    try simp only [go_sem, n1, n2, n3, n4, hk1, hk2, ghk4, hhk4, hk5, ghk6, ghk7a, ghk8aa] at ghk8abn
                    all_goals
                    rcases it_some h with ⟨hk9, h⟩ | ⟨hk9, h⟩
                    · try simp only [go_sem, n1, n2, n3, n4, hk1, hk2, ghk4, hhk4, hk5, ghk6, ghk7a, ghk8aa, ghk8abn] at hk9
                      all_goals
                      obtain rfl := so_some h
                      refine ⟨0, fun L hL => ?_⟩
                      simp only [go_sem, ir24, E_spec_l26Faults_l1, R_spec_l26Faults_l1, ir24_b0, ir24_k0, ir24_o0, ir24_r0, hk1, hk2, lhk2, xhk2, fhk3, ghk4, hhk4, fhk4, hk5, ghk6, ghk7a, ghk8aa, ghk8abn, hk9]
                    · try simp only [go_sem, n1, n2, n3, n4, hk1, hk2, ghk4, hhk4, hk5, ghk6, ghk7a, ghk8aa, ghk8abn] at hk9
                      all_goals
                      obtain rfl := so_some h
                      refine ⟨0, fun L hL => ?_⟩
                      simp only [go_sem, ir24, E_spec_l26Faults_l1, R_spec_l26Faults_l1, ir24_b0, ir24_k0, ir24_o0, ir24_r0, hk1, hk2, lhk2, xhk2, fhk3, ghk4, hhk4, fhk4, hk5, ghk6, ghk7a, ghk8aa, ghk8abn, hk9]
                · obtain ⟨ghk8aa, ghk8ab⟩ := and_t ghk8a
                  have ghk8abn := no_t ghk8ab
                  try simp only [go_sem, n1, n2, n3, n4, hk1, hk2, ghk4, hhk4, hk5, ghk6, ghk7a] at ghk8aa
                  all_goals
                  try simp only [go_sem, n1, n2, n3, n4, hk1, hk2, ghk4, hhk4, hk5, ghk6, ghk7a, ghk8aa] at ghk8abn
                  all_goals
                  try simp only [go_sem, n1, n2, n3, n4, hk1, hk2, ghk4, hhk4, hk5, ghk6, ghk7a, ghk8aa, ghk8abn] at ghk8b
                  all_goals
                  rcases it_some h with ⟨hk9, h⟩ | ⟨hk9, h⟩
                  · try simp only [go_sem, n1, n2, n3, n4, hk1, hk2, ghk4, hhk4, hk5, ghk6, ghk7a, ghk8aa, ghk8abn, ghk8b] at hk9
                    all_goals
                    obtain rfl := so_some h
                    refine ⟨0, fun L hL => ?_⟩
                    simp only [go_sem, ir24, E_spec_l26Faults_l1, R_spec_l26Faults_l1, ir24_b0, ir24_k0, ir24_o0, ir24_r0, hk1, hk2, lhk2, xhk2, fhk3, ghk4, hhk4, fhk4, hk5, ghk6, ghk7a, ghk8aa, ghk8abn, ghk8b, hk9]
                  · try simp only [go_sem, n1, n2, n3, n4, hk1, hk2, ghk4, hhk4, hk5, ghk6, ghk7a, ghk8aa, ghk8abn, ghk8b] at hk9
                    all_goals
                    obtain rfl := so_some h
                    refine ⟨0, fun L hL => ?_⟩
                    simp only [go_sem, ir24, E_spec_l26Faults_l1, R_spec_l26Faults_l1, ir24_b0, ir24_k0, ir24_o0, ir24_r0, hk1, hk2, lhk2, xhk2, fhk3, ghk4, hhk4, fhk4, hk5, ghk6, ghk7a, ghk8aa, ghk8abn, ghk8b, hk9]
            · have ghk7bn := no_f ghk7b
              try simp only [go_sem, n1, n2, n3, n4, hk1, hk2, ghk4, hhk4, hk5, ghk6] at ghk7a
              all_goals
              try simp only [go_sem, n1, n2, n3, n4, hk1, hk2, ghk4, hhk4, hk5, ghk6, ghk7a] at ghk7bn
              all_goals
              obtain ⟨hk8, h⟩ := ck_some h
              rcases or_split hk8 with ⟨ghk8, hk8⟩ | ghk8
              · try simp only [go_sem, n1, n2, n3, n4, hk1, hk2, ghk4, hhk4, hk5, ghk6, ghk7a, ghk7bn] at ghk8
                all_goals
                have lhk8 := ix_lt hk8
                have xhk8 := getD_mapD Fault_av faults lhk8
                try simp only [go_sem] at lhk8
                try simp only [go_sem] at xhk8
                try simp only [go_sem, n1, n2, n3, n4, hk1, hk2, ghk4, hhk4, hk5, ghk6, ghk7a, ghk7bn, ghk8] at hk8
                all_goals
                rcases it_some h with ⟨hk9, h⟩ | ⟨hk9, h⟩
                · try simp only [go_sem, n1, n2, n3, n4, hk1, hk2, ghk4, hhk4, hk5, ghk6, ghk7a, ghk7bn, ghk8, hk8] at hk9
                  all_goals
                  obtain rfl := so_some h
                  refine ⟨0, fun L hL => ?_⟩
                  simp only [go_sem, ir24, E_spec_l26Faults_l1, R_spec_l26Faults_l1, ir24_b0, ir24_k0, ir24_o0, ir24_r0, hk1, hk2, lhk2, xhk2, fhk3, ghk4, hhk4, fhk4, hk5, ghk6, ghk7a, ghk7bn, ghk8, hk8, lhk8, xhk8, hk9]
                · try simp only [go_sem, n1, n2, n3, n4, hk1, hk2, ghk4, hhk4, hk5, ghk6, ghk7a, ghk7bn, ghk8, hk8] at hk9
                  all_goals
                  obtain rfl := so_some h
                  refine ⟨0, fun L hL => ?_⟩
                  simp only [go_sem, ir24, E_spec_l26Faults_l1, R_spec_l26Faults_l1, ir24_b0, ir24_k0, ir24_o0, ir24_r0, hk1, hk2, lhk2, xhk2, fhk3, ghk4, hhk4, fhk4, hk5, ghk6, ghk7a, ghk7bn, ghk8, hk8, lhk8, xhk8, hk9]
              · rcases and_f ghk8 with ghk8a | ⟨ghk8a, ghk8b⟩
                · rcases and_f ghk8a with ghk8aa | ⟨ghk8aa, ghk8ab⟩
                  · try simp only [go_sem, n1, n2, n3, n4, hk1, hk2, ghk4, hhk4, hk5, ghk6, ghk7a, ghk7bn] at ghk8aa
                    all_goals
                    rcases it_some h with ⟨hk9, h⟩ | ⟨hk9, h⟩
                    · try simp only [go_sem, n1, n2, n3, n4, hk1, hk2, ghk4, hhk4, hk5, ghk6, ghk7a, ghk7bn, ghk8aa] at hk9
                      all_goals
                      obtain rfl := so_some h
                      refine ⟨0, fun L hL => ?_⟩
                      simp only [go_sem, ir24, E_spec_l26Faults_l1, R_spec_l26Faults_l1, ir24_b0, ir24_k0, ir24_o0, ir24_r0, hk1, hk2, lhk2, xhk2, fhk3, ghk4, hhk4, fhk4, hk5, ghk6, ghk7a, ghk7bn, ghk8aa, hk9]
                    · try simp only [go_sem, n1, n2, n3, n4, hk1, hk2, ghk4, hhk4, hk5, ghk6, ghk7a, ghk7bn, ghk8aa] at hk9
                      all_goals
                      obtain rfl := so_some h
                      refine ⟨0, fun L hL => ?_⟩
                      simp only [go_sem, ir24, E_spec_l26Faults_l1, R_spec_l26Faults_l1, ir24_b0, ir24_k0, ir24_o0, ir24_r0, hk1, hk2, lhk2, xhk2, fhk3, ghk4, hhk4, fhk4, hk5, ghk6, ghk7a, ghk7bn, ghk8aa, hk9]
                  · have ghk8abn := no_f ghk8ab
                    try simp only [go_sem, n1, n2, n3, n4, hk1, hk2, ghk4, hhk4, hk5, ghk6, ghk7a, ghk7bn] at ghk8aa
                    all_goals
                    try simp only [go_sem, n1, n2, n3, n4, hk1, hk2, ghk4, hhk4, hk5, ghk6, ghk7a, ghk7bn, ghk8aa] at ghk8abn
                    all_goals
                    rcases it_some h with ⟨hk9, h⟩ | ⟨hk9, h⟩
                    · try simp only [go_sem, n1, n2, n3, n4, hk1, hk2, ghk4, hhk4, hk5, ghk6, ghk7a, ghk7bn, ghk8aa, ghk8abn] at hk9
                      all_goals
                      obtain rfl := so_some h
                      refine ⟨0, fun L hL => ?_⟩
                      simp only [go_sem, ir24, E_spec_l26Faults_l1, R_spec_l26Faults_l1, ir24_b0, ir24_k0, ir24_o0, ir24_r0, hk1, hk2, lhk2, xhk2, fhk3, ghk4, hhk4, fhk4, hk5, ghk6, ghk7a, ghk7bn, ghk8aa, ghk8abn, hk9]
                    · try simp only [go_sem, n1, n2, n3, n4, hk1, hk2, ghk4, hhk4, hk5, ghk6, ghk7a, ghk7bn, ghk8aa, ghk8abn] at hk9
                      all_goals
                      obtain rfl := so_some h
                      refine ⟨0, fun L hL => ?_⟩
                      simp only [go_sem, ir24, E_spec_l26Faults_l1, R_spec_l26Faults_l1, ir24_b0, ir24_k0, ir24_o0, ir24_r0, hk1, hk2, lhk2, xhk2, fhk3, ghk4, hhk4, fhk4, hk5, ghk6, ghk7a, ghk7bn, ghk8aa, ghk8abn, hk9]
                · obtain ⟨ghk8aa, ghk8ab⟩ := and_t ghk8a
                  have ghk8abn := no_t ghk8ab
                  try simp only [go_sem, n1, n2, n3, n4, hk1, hk2, ghk4, hhk4, hk5, ghk6, ghk7a, ghk7bn] at ghk8aa
                  all_goals
                  try simp only [go_sem, n1, n2, n3, n4, hk1, hk2, ghk4, hhk4, hk5, ghk6, ghk7a, ghk7bn, ghk8aa] at ghk8abn
                  all_goals
                  try simp only [go_sem, n1, n2, n3, n4, hk1, hk2, ghk4, hhk4, hk5, ghk6, ghk7a, ghk7bn, ghk8aa, ghk8abn] at ghk8b
                  all_goals
                  rcases it_some h with ⟨hk9, h⟩ | ⟨hk9, h⟩
                  · try simp only [go_sem, n1, n2, n3, n4, hk1, hk2, ghk4, hhk4, hk5, ghk6, ghk7a, ghk7bn, ghk8aa, ghk8abn, ghk8b] at hk9
                    all_goals
                    obtain rfl := so_some h
                    refine ⟨0, fun L hL => ?_⟩
                    simp only [go_sem, ir24, E_spec_l26Faults_l1, R_spec_l26Faults_l1, ir24_b0, ir24_k0, ir24_o0, ir24_r0, hk1, hk2, lhk2, xhk2, fhk3, ghk4, hhk4, fhk4, hk5, ghk6, ghk7a, ghk7bn, ghk8aa, ghk8abn, ghk8b, hk9]
                  · try simp only [go_sem, n1, n2, n3, n4, hk1, hk2, ghk4, hhk4, hk5, ghk6, ghk7a, ghk7bn, ghk8aa, ghk8abn, ghk8b] at hk9
                    all_goals
                    obtain rfl := so_some h
                    refine ⟨0, fun L hL => ?_⟩
                    simp only [go_sem, ir24, E_spec_l26Faults_l1, R_spec_l26Faults_l1, ir24_b0, ir24_k0, ir24_o0, ir24_r0, hk1, hk2, lhk2, xhk2, fhk3, ghk4, hhk4, fhk4, hk5, ghk6, ghk7a, ghk7bn, ghk8aa, ghk8abn, ghk8b, hk9]
    · have ghk4n := no_f ghk4
      have ghk4nn := no_t ghk4n
      try simp only [go_sem, n1, n2, n3, n4, hk1, hk2] at ghk4nn
      all_goals
      rcases it_some h with ⟨hk5, h⟩ | ⟨hk5, h⟩
      · try simp only [go_sem, n1, n2, n3, n4, hk1, hk2, ghk4nn] at hk5
        all_goals
        obtain rfl := so_some h
        refine ⟨0, fun L hL => ?_⟩
        simp only [go_sem, ir24, E_spec_l26Faults_l1, R_spec_l26Faults_l1, ir24_b0, ir24_k0, ir24_o0, ir24_r0, hk1, hk2, lhk2, xhk2, fhk3, ghk4nn, hk5]
      · try simp only [go_sem, n1, n2, n3, n4, hk1, hk2, ghk4nn] at hk5
        all_goals
        obtain ⟨hk6, h⟩ := ck_some h
        rcases or_split hk6 with ⟨ghk6, hk6⟩ | ghk6
        · try simp only [go_sem, n1, n2, n3, n4, hk1, hk2, ghk4nn, hk5] at ghk6
          all_goals
          have lhk6 := ix_lt hk6
          have xhk6 := getD_mapD Fault_av faults lhk6
          try simp only [go_sem] at lhk6
          try simp only [go_sem] at xhk6
          try simp only [go_sem, n1, n2, n3, n4, hk1, hk2, ghk4nn, hk5, ghk6] at hk6
          all_goals
          obtain ⟨hk7, h⟩ := ck_some h
          rcases or_split hk7 with ⟨ghk7, hk7⟩ | ghk7
          · try simp only [go_sem, n1, n2, n3, n4, hk1, hk2, ghk4nn, hk5, ghk6, hk6] at ghk7
            all_goals
            have lhk7 := ix_lt hk7
            have xhk7 := getD_mapD Fault_av faults lhk7
            try simp only [go_sem] at lhk7
            try simp only [go_sem] at xhk7
            try simp only [go_sem, n1, n2, n3, n4, hk1, hk2, ghk4nn, hk5, ghk6, hk6, ghk7] at hk7
            all_goals
            obtain ⟨hk8, h⟩ := ck_some h
            rcases or_split hk8 with ⟨ghk8, hk8⟩ | ghk8
            · try simp only [go_sem, n1, n2, n3, n4, hk1, hk2, ghk4nn, hk5, ghk6, hk6, ghk7, hk7] at ghk8
              all_goals
              have lhk8 := ix_lt hk8
              have xhk8 := getD_mapD Fault_av faults lhk8
              try simp only [go_sem] at lhk8
              try simp only [go_sem] at xhk8
              try simp only [go_sem, n1, n2, n3, n4, hk1, hk2, ghk4nn, hk5, ghk6, hk6, ghk7, hk7, ghk8] at hk8
              all_goals
              rcases it_some h with ⟨hk9, h⟩ | ⟨hk9, h⟩
              · try simp only [go_sem, n1, n2, n3, n4, hk1, hk2, ghk4nn, hk5, ghk6, hk6, ghk7, hk7, ghk8, hk8] at hk9
                all_goals
                obtain rfl := so_some h
                refine ⟨0, fun L hL => ?_⟩
                simp only [go_sem, ir24, E_spec_l26Faults_l1, R_spec_l26Faults_l1, ir24_b0, ir24_k0, ir24_o0, ir24_r0, hk1, hk2, lhk2, xhk2, fhk3, ghk4nn, hk5, ghk6, hk6, lhk6, xhk6, ghk7, hk7, lhk7, xhk7, ghk8, hk8, lhk8, xhk8, hk9]
              · try simp only [go_sem, n1, n2, n3, n4, hk1, hk2, ghk4nn, hk5, ghk6, hk6, ghk7, hk7, ghk8, hk8] at hk9
                all_goals
                obtain rfl := so_some h
                refine ⟨0, fun L hL => ?_⟩
                simp only [go_sem, ir24, E_spec_l26Faults_l1, R_spec_l26Faults_l1, ir24_b0, ir24_k0, ir24_o0, ir24_r0, hk1, hk2, lhk2, xhk2, fhk3, ghk4nn, hk5, ghk6, hk6, lhk6, xhk6, ghk7, hk7, lhk7, xhk7, ghk8, hk8, lhk8, xhk8, hk9]
            · rcases and_f ghk8 with ghk8a | ⟨ghk8a, ghk8b⟩
              · rcases and_f ghk8a with ghk8aa | ⟨ghk8aa, ghk8ab⟩
                · try simp only [go_sem, n1, n2, n3, n4, hk1, hk2, ghk4nn, hk5, ghk6, hk6, ghk7, hk7] at ghk8aa
                  all_goals
                  rcases it_some h with ⟨hk9, h⟩ | ⟨hk9, h⟩
                  · try simp only [go_sem, n1, n2, n3, n4, hk1, hk2, ghk4nn, hk5, ghk6, hk6, ghk7, hk7, ghk8aa] at hk9
                    all_goals
                    obtain rfl := so_some h
                    refine ⟨0, fun L hL => ?_⟩
                    simp only [go_sem, ir24, E_spec_l26Faults_l1, R_spec_l26Faults_l1, ir24_b0, ir24_k0, ir24_o0, ir24_r0, hk1, hk2, lhk2, xhk2, fhk3, ghk4nn, hk5, ghk6, hk6, lhk6, xhk6, ghk7, hk7, lhk7, xhk7, ghk8aa, hk9]
                  · try simp only [go_sem, n1, n2, n3, n4, hk1, hk2, ghk4nn, hk5, ghk6, hk6, ghk7, hk7, ghk8aa] at hk9
                    all_goals
                    obtain rfl := so_some h
                    refine ⟨0, fun L hL => ?_⟩
                    simp only [go_sem, ir24, E_spec_l26Faults_l1, R_spec_l26Faults_l1, ir24_b0, ir24_k0, ir24_o0, ir24_r0, hk1, hk2, lhk2, xhk2, fhk3, ghk4nn, hk5, ghk6, hk6, lhk6, xhk6, ghk7, hk7, lhk7, xhk7, ghk8aa, hk9]
                · have ghk8abn := no_f ghk8ab
                  try simp only [go_sem, n1, n2, n3, n4, hk1, hk2, ghk4nn, hk5, ghk6, hk6, ghk7, hk7] at ghk8aa
                  all_goals
                  try simp only [go_sem, n1, n2, n3, n4, hk1, hk2, ghk4nn, hk5, ghk6, hk6, ghk7, hk7, ghk8aa] at ghk8abn
                  all_goals
                  rcases it_some h with ⟨hk9, h⟩ | ⟨hk9, h⟩
                  · try simp only [go_sem, n1, n2, n3, n4, hk1, hk2, ghk4nn, hk5, ghk6, hk6, ghk7, hk7, ghk8aa, ghk8abn] at hk9
                    all_goals
                    obtain rfl := so_some h
                    refine ⟨0, fun L hL => ?_⟩
                    simp only [go_sem, ir24, E_spec_l26Faults_l1, R_spec_l26Faults_l1, ir24_b0, ir24_k0, ir24_o0, ir24_r0, hk1, hk2, lhk2, xhk2, fhk3, ghk4nn, hk5, ghk6, hk6, lhk6, xhk6, ghk7, hk7, lhk7, xhk7, ghk8aa, ghk8abn, hk9]
                  · try simp only [go_sem, n1, n2, n3, n4, hk1, hk2, ghk4nn, hk5, ghk6, hk6, ghk7, hk7, ghk8aa, ghk8abn] at hk9
                    all_goals
                    obtain rfl := so_some h
                    refine ⟨0, fun L hL => ?_⟩
                    simp only [go_sem, ir24, E_spec_l26Faults_l1, R_spec_l26Faults_l1, ir24_b0, ir24_k0, ir24_o0, ir24_r0, hk1, hk2, lhk2, xhk2, fhk3, ghk4nn, hk5, ghk6, hk6, lhk6, xhk6, ghk7, hk7, lhk7, xhk7, ghk8aa, ghk8abn, hk9]
              · obtain ⟨ghk8aa, ghk8ab⟩ := and_t ghk8a
                have ghk8abn := no_t ghk8ab
                try simp only [go_sem, n1, n2, n3, n4, hk1, hk2, ghk4nn, hk5, ghk6, hk6, ghk7, hk7] at ghk8aa
                all_goals
                try simp only [go_sem, n1, n2, n3, n4, hk1, hk2, ghk4nn, hk5, ghk6, hk6, ghk7, hk7, ghk8aa] at ghk8abn
                all_goals
                try simp only [go_sem, n1, n2, n3, n4, hk1, hk2, ghk4nn, hk5, ghk6, hk6, ghk7, hk7, ghk8aa, ghk8abn] at ghk8b
                all_goals
                rcases it_some h with ⟨hk9, h⟩ | ⟨hk9, h⟩
                · try simp only [go_sem, n1, n2, n3, n4, hk1, hk2, ghk4nn, hk5, ghk6, hk6, ghk7, hk7, ghk8aa, ghk8abn, ghk8b] at hk9
                  all_goals
                  obtain rfl := so_some h
                  refine ⟨0, fun L hL => ?_⟩
                  simp only [go_sem, ir24, E_spec_l26Faults_l1, R_spec_l26Faults_l1, ir24_b0, ir24_k0, ir24_o0, ir24_r0, hk1, hk2, lhk2, xhk2, fhk3, ghk4nn, hk5, ghk6, hk6, lhk6, xhk6, ghk7, hk7, lhk7, xhk7, ghk8aa, ghk8abn, ghk8b, hk9]
                · try simp only [go_sem, n1, n2, n3, n4, hk1, hk2, ghk4nn, hk5, ghk6, hk6, ghk7, hk7, ghk8aa, ghk8abn, ghk8b] at hk9
                  all_goals
                  obtain rfl := so_some h
                  refine ⟨0, fun L hL => ?_⟩
                  simp only [go_sem, ir24, E_spec_l26Faults_l1, R_spec_l26Faults_l1, ir24_b0, ir24_k0, ir24_o0, ir24_r0, hk1, hk2, lhk2, xhk2, fhk3, ghk4nn, hk5, ghk6, hk6, lhk6, xhk6, ghk7, hk7, lhk7, xhk7, ghk8aa, ghk8abn, ghk8b, hk9]
          · rcases and_f ghk7 with ghk7a | ⟨ghk7a, ghk7b⟩
            · try simp only [go_sem, n1, n2, n3, n4, hk1, hk2, ghk4nn, hk5, ghk6, hk6] at ghk7a
              all_goals
              obtain ⟨hk8, h⟩ := ck_some h
              rcases or_split hk8 with ⟨ghk8, hk8⟩ | ghk8
              · try simp only [go_sem, n1, n2, n3, n4, hk1, hk2, ghk4nn, hk5, ghk6, hk6, ghk7a] at ghk8
                all_goals
                have lhk8 := ix_lt hk8
                have xhk8 := getD_mapD Fault_av faults lhk8
                try simp only [go_sem] at lhk8
                try simp only [go_sem] at xhk8
                try simp only [go_sem, n1, n2, n3, n4, hk1, hk2, ghk4nn, hk5, ghk6, hk6, ghk7a, ghk8] at hk8
                all_goals
                rcases it_some h with ⟨hk9, h⟩ | ⟨hk9, h⟩
                · try simp only [go_sem, n1, n2, n3, n4, hk1, hk2, ghk4nn, hk5, ghk6, hk6, ghk7a, ghk8, hk8] at hk9
                  all_goals
                  obtain rfl := so_some h
                  refine ⟨0, fun L hL => ?_⟩
                  simp only [go_sem, ir24, E_spec_l26Faults_l1, R_spec_l26Faults_l1, ir24_b0, ir24_k0, ir24_o0, ir24_r0, hk1, hk2, lhk2, xhk2, fhk3, ghk4nn, hk5, ghk6, hk6, lhk6, xhk6, ghk7a, ghk8, hk8, lhk8, xhk8, hk9]
                · try simp only [go_sem, n1, n2, n3, n4, hk1, hk2, ghk4nn, hk5, ghk6, hk6, ghk7a, ghk8, hk8] at hk9
                  all_goals
                  obtain rfl := so_some h
                  refine ⟨0, fun L hL => ?_⟩
                  simp only [go_sem, ir24, E_spec_l26Faults_l1, R_spec_l26Faults_l1, ir24_b0, ir24_k0, ir24_o0, ir24_r0, hk1, hk2, lhk2, xhk2, fhk3, ghk4nn, hk5, ghk6, hk6, lhk6, xhk6, ghk7a, ghk8, hk8, lhk8, xhk8, hk9]
              · rcases and_f ghk8 with ghk8a | ⟨ghk8a, ghk8b⟩
                · rcases and_f ghk8a with ghk8aa | ⟨ghk8aa, ghk8ab⟩
                  · try simp only [go_sem, n1, n2, n3, n4, hk1, hk2, ghk4nn, hk5, ghk6, hk6, ghk7a] at ghk8aa
                    all_goals
                    rcases it_some h with ⟨hk9, h⟩ | ⟨hk9, h⟩
                    · try simp only [go_sem, n1, n2, n3, n4, hk1, hk2, ghk4nn, hk5, ghk6, hk6, ghk7a, ghk8aa] at hk9
                      all_goals
                      obtain rfl := so_some h
                      refine ⟨0, fun L hL => ?_⟩
                      simp only [go_sem, ir24, E_spec_l26Faults_l1, R_spec_l26Faults_l1, ir24_b0, ir24_k0, ir24_o0, ir24_r0, hk1, hk2, lhk2, xhk2, fhk3, ghk4nn, hk5, ghk6, hk6, lhk6, xhk6, ghk7a, ghk8aa, hk9]
                    · try simp only [go_sem, n1, n2, n3, n4, hk1, hk2, ghk4nn, hk5, ghk6, hk6, ghk7a, ghk8aa] at hk9
                      all_goals
                      obtain rfl := so_some h
                      refine ⟨0, fun L hL => ?_⟩
                      simp only [go_sem, ir24, E_spec_l26Faults_l1, R_spec_l26Faults_l1, ir24_b0, ir24_k0, ir24_o0, ir24_r0, hk1, hk2, lhk2, xhk2, fhk3, ghk4nn, hk5, ghk6, hk6, lhk6, xhk6, ghk7a, ghk8aa, hk9]
                  · have ghk8abn := no_f ghk8ab
                    try simp only [go_sem, n1, n2, n3, n4, hk1, hk2, ghk4nn, hk5, ghk6, hk6, ghk7a] at ghk8aa
                    all_goals
                    try simp only [go_sem, n1, n2, n3, n4, hk1, hk2, ghk4nn, hk5, ghk6, hk6, ghk7a, ghk8aa] at ghk8abn
                    all_goals
                    rcases it_some h with ⟨hk9, h⟩ | ⟨hk9, h⟩
                    · try simp only [go_sem, n1, n2, n3, n4, hk1, hk2, ghk4nn, hk5, ghk6, hk6, ghk7a, ghk8aa, ghk8abn] at hk9
                      all_goals
                      obtain rfl := so_some h
                      refine ⟨0, fun L hL => ?_⟩
                      simp only [go_sem, ir24, E_spec_l26Faults_l1, R_spec_l26Faults_l1, ir24_b0, ir24_k0, ir24_o0, ir24_r0, hk1, hk2, lhk2, xhk2, fhk3, ghk4nn, hk5, ghk6, hk6, lhk6, xhk6, ghk7a, ghk8aa, ghk8abn, hk9]
                    · try simp only [go_sem, n1, n2, n3, n4, hk1, hk2, ghk4nn, hk5, ghk6, hk6, ghk7a, ghk8aa, ghk8abn] at hk9
                      all_goals
                      obtain rfl := so_some h
                      refine ⟨0, fun L hL => ?_⟩
                      simp only [go_sem, ir24, E_spec_l26Faults_l1, R_spec_l26Faults_l1, ir24_b0, ir24_k0, ir24_o0, ir24_r0, hk1, hk2, lhk2, xhk2, fhk3, ghk4nn, hk5, ghk6, hk6, lhk6, xhk6, ghk7a, ghk8aa, ghk8abn, hk9]
                · obtain ⟨ghk8aa, ghk8ab⟩ := and_t ghk8a
                  have ghk8abn := no_t ghk8ab
                  try simp only [go_sem, n1, n2, n3, n4, hk1, hk2, ghk4nn, hk5, ghk6, hk6, ghk7a] at ghk8aa
                  all_goals
                  try simp only [go_sem, n1, n2, n3, n4, hk1, hk2, ghk4nn, hk5, ghk6, hk6, ghk7a, ghk8aa] at ghk8abn
                  all_goals
                  try simp only [go_sem, n1, n2, n3, n4, hk1, hk2, ghk4nn, hk5, ghk6, hk6, ghk7a, ghk8aa, ghk8abn] at ghk8b
                  all_goals
                  rcases it_some h with ⟨hk9, h⟩ | ⟨hk9, h⟩
                  · try simp only [go_sem, n1, n2, n3, n4, hk1, hk2, ghk4nn, hk5, ghk6, hk6, ghk7a, ghk8aa, ghk8abn, ghk8b] at hk9
                    all_goals
                    obtain rfl := so_some h
                    refine ⟨0, fun L hL => ?_⟩
                    simp only [go_sem, ir24, E_spec_l26Faults_l1, R_spec_l26Faults_l1, ir24_b0, ir24_k0, ir24_o0, ir24_r0, hk1, hk2, lhk2, xhk2, fhk3, ghk4nn, hk5, ghk6, hk6, lhk6, xhk6, ghk7a, ghk8aa, ghk8abn, ghk8b, hk9]
                  · try simp only [go_sem, n1, n2, n3, n4, hk1, hk2, ghk4nn, hk5, ghk6, hk6, ghk7a, ghk8aa, ghk8abn, ghk8b] at hk9
                    all_goals
                    obtain rfl := so_some h
                    refine ⟨0, fun L hL => ?_⟩
                    simp only [go_sem, ir24, E_spec_l26Faults_l1, R_spec_l26Faults_l1, ir24_b0, ir24_k0, ir24_o0, ir24_r0, hk1, hk2, lhk2, xhk2, fhk3, ghk4nn, hk5, ghk6, hk6, lhk6, xhk6, ghk7a, ghk8aa, ghk8abn, ghk8b, hk9]
            · have ghk7bn := no_f ghk7b
              try simp only [go_sem, n1, n2, n3, n4, hk1, hk2, ghk4nn, hk5, ghk6, hk6] at ghk7a
              all_goals
              try simp only [go_sem, n1, n2, n3, n4, hk1, hk2, ghk4nn, hk5, ghk6, hk6, ghk7a] at ghk7bn
              all_goals
              obtain ⟨hk8, h⟩ := ck_some h
              rcases or_split hk8 with ⟨ghk8, hk8⟩ | ghk8
              · try simp only [go_sem, n1, n2, n3, n4, hk1, hk2, ghk4nn, hk5, ghk6, hk6, ghk7a, ghk7bn] at ghk8
                all_goals
                have lhk8 := ix_lt hk8
                have xhk8 := getD_mapD Fault_av faults lhk8
                try simp only [go_sem] at lhk8
                try simp only [go_sem] at xhk8
                try simp only [go_sem, n1, n2, n3, n4, hk1, hk2, ghk4nn, hk5, ghk6, hk6, ghk7a, ghk7bn, ghk8] at hk8
                all_goals
                rcases it_some h with ⟨hk9, h⟩ | ⟨hk9, h⟩
                · try simp only [go_sem, n1, n2, n3, n4, hk1, hk2, ghk4nn, hk5, ghk6, hk6, ghk7a, ghk7bn, ghk8, hk8] at hk9
                  all_goals
                  obtain rfl := so_some h
                  refine ⟨0, fun L hL => ?_⟩
                  simp only [go_sem, ir24, E_spec_l26Faults_l1, R_spec_l26Faults_l1, ir24_b0, ir24_k0, ir24_o0, ir24_r0, hk1, hk2, lhk2, xhk2, fhk3, ghk4nn, hk5, ghk6, hk6, lhk6, xhk6, ghk7a, ghk7bn, ghk8, hk8, lhk8, xhk8, hk9]
                · try simp only [go_sem, n1, n2, n3, n4, hk1, hk2, ghk4nn, hk5, ghk6, hk6, ghk7a, ghk7bn, ghk8, hk8] at hk9
                  all_goals
                  obtain rfl := so_some h
                  refine ⟨0, fun L hL => ?_⟩
                  simp only [go_sem, ir24, E_spec_l26Faults_l1, R_spec_l26Faults_l1, ir24_b0, ir24_k0, ir24_o0, ir24_r0, hk1, hk2, lhk2, xhk2, fhk3, ghk4nn, hk5, ghk6, hk6, lhk6, xhk6, ghk7a, ghk7bn, ghk8, hk8, lhk8, xhk8, hk9]
              · rcases and_f ghk8 with ghk8a | ⟨ghk8a, ghk8b⟩
                · rcases and_f ghk8a with ghk8aa | ⟨ghk8aa, ghk8ab⟩
                  · try simp only [go_sem, n1, n2, n3, n4, hk1, hk2, ghk4nn, hk5, ghk6, hk6, ghk7a, ghk7bn] at ghk8aa
                    all_goals
                    rcases it_some h with ⟨hk9, h⟩ | ⟨hk9, h⟩
                    · try simp only [go_sem, n1, n2, n3, n4, hk1, hk2, ghk4nn, hk5, ghk6, hk6, ghk7a, ghk7bn, ghk8aa] at hk9
                      all_goals
                      obtain rfl := so_some h
                      refine ⟨0, fun L hL => ?_⟩
                      simp only [go_sem, ir24, E_spec_l26Faults_l1, R_spec_l26Faults_l1, ir24_b0, ir24_k0, ir24_o0, ir24_r0, hk1, hk2, lhk2, xhk2, fhk3, ghk4nn, hk5, ghk6, hk6, lhk6, xhk6, ghk7a, ghk7bn, ghk8aa, hk9]
                    · try simp only [go_sem, n1, n2, n3, n4, hk1, hk2, ghk4nn, hk5, ghk6, hk6, ghk7a, ghk7bn, ghk8aa] at hk9
                      all_goals
                      obtain rfl := so_some h
                      refine ⟨0, fun L hL => ?_⟩
                      simp only [go_sem, ir24, E_spec_l26Faults_l1, R_spec_l26Faults_l1, ir24_b0, ir24_k0, ir24_o0, ir24_r0, hk1, hk2, lhk2, xhk2, fhk3, ghk4nn, hk5, ghk6, hk6, lhk6, xhk6, ghk7a, ghk7bn, ghk8aa, hk9]
                  · have ghk8abn := no_f ghk8ab
                    try simp only [go_sem, n1, n2, n3, n4, hk1, hk2, ghk4nn, hk5, ghk6, hk6, ghk7a, ghk7bn] at ghk8aa
                    all_goals
                    try simp only [go_sem, n1, n2, n3, n4, hk1, hk2, ghk4nn, hk5, ghk6, hk6, ghk7a, ghk7bn, ghk8aa] at ghk8abn
                    all_goals
                    rcases it_some h with ⟨hk9, h⟩ | ⟨hk9, h⟩
                    · try simp only [go_sem, n1, n2, n3, n4, hk1, hk2, ghk4nn, hk5, ghk6, hk6, ghk7a, ghk7bn, ghk8aa, ghk8abn] at hk9
                      all_goals
                      obtain rfl := so_some h
                      refine ⟨0, fun L hL => ?_⟩
                      simp only [go_sem, ir24, E_spec_l26Faults_l1, R_spec_l26Faults_l1, ir24_b0, ir24_k0, ir24_o0, ir24_r0, hk1, hk2, lhk2, xhk2, fhk3, ghk4nn, hk5, ghk6, hk6, lhk6, xhk6, ghk7a, ghk7bn, ghk8aa, ghk8abn, hk9]
                    · try simp only [go_sem, n1, n2, n3, n4, hk1, hk2, ghk4nn, hk5, ghk6, hk6, ghk7a, ghk7bn, ghk8aa, ghk8abn] at hk9
                      all_goals
                      obtain rfl := so_some h
                      refine ⟨0, fun L hL => ?_⟩
                      simp only [go_sem, ir24, E_spec_l26Faults_l1, R_spec_l26Faults_l1, ir24_b0, ir24_k0, ir24_o0, ir24_r0, hk1, hk2, lhk2, xhk2, fhk3, ghk4nn, hk5, ghk6, hk6, lhk6, xhk6, ghk7a, ghk7bn, ghk8aa, ghk8abn, hk9]
                · obtain ⟨ghk8aa, ghk8ab⟩ := and_t ghk8a
                  have ghk8abn := no_t ghk8ab
                  try simp only [go_sem, n1, n2, n3, n4, hk1, hk2, ghk4nn, hk5, ghk6, hk6, ghk7a, ghk7bn] at ghk8aa
                  all_goals
                  try simp only [go_sem, n1, n2, n3, n4, hk1, hk2, ghk4nn, hk5, ghk6, hk6, ghk7a, ghk7bn, ghk8aa] at ghk8abn
                  all_goals
                  try simp only [go_sem, n1, n2, n3, n4, hk1, hk2, ghk4nn, hk5, ghk6, hk6, ghk7a, ghk7bn, ghk8aa, ghk8abn] at ghk8b
                  all_goals
                  rcases it_some h with ⟨hk9, h⟩ | ⟨hk9, h⟩
                  · try simp only [go_sem, n1, n2, n3, n4, hk1, hk2, ghk4nn, hk5, ghk6, hk6, ghk7a, ghk7bn, ghk8aa, ghk8abn, ghk8b] at hk9
                    all_goals
                    obtain rfl := so_some h
                    refine ⟨0, fun L hL => ?_⟩
                    simp only [go_sem, ir24, E_spec_l26Faults_l1, R_spec_l26Faults_l1, ir24_b0, ir24_k0, ir24_o0, ir24_r0, hk1, hk2, lhk2, xhk2, fhk3, ghk4nn, hk5, ghk6, hk6, lhk6, xhk6, ghk7a, ghk7bn, ghk8aa, ghk8abn, ghk8b, hk9]
                  · try simp only [go_sem, n1, n2, n3, n4, hk1, hk2, ghk4nn, hk5, ghk6, hk6, ghk7a, ghk7bn, ghk8aa, ghk8abn, ghk8b] at hk9
                    all_goals
                    obtain rfl := so_some h
                    refine ⟨0, fun L hL => ?_⟩
                    simp only [go_sem, ir24, E_spec_l26Faults_l1, R_spec_l26Faults_l1, ir24_b0, ir24_k0, ir24_o0, ir24_r0, hk1, hk2, lhk2, xhk2, fhk3, ghk4nn, hk5, ghk6, hk6, lhk6, xhk6, ghk7a, ghk7bn, ghk8aa, ghk8abn, ghk8b, hk9]
        · try simp only [go_sem, n1, n2, n3, n4, hk1, hk2, ghk4nn, hk5] at ghk6
          all_goals
          obtain ⟨hk7, h⟩ := ck_some h
          rcases or_split hk7 with ⟨ghk7, hk7⟩ | ghk7
          · try simp only [go_sem, n1, n2, n3, n4, hk1, hk2, ghk4nn, hk5, ghk6] at ghk7
            all_goals
            have lhk7 := ix_lt hk7
            have xhk7 := getD_mapD Fault_av faults lhk7
            try simp only [go_sem] at lhk7
            try simp only [go_sem] at xhk7
            try simp only [go_sem, n1, n2, n3, n4, hk1, hk2, ghk4nn, hk5, ghk6, ghk7] at hk7
            all_goals
            obtain ⟨hk8, h⟩ := ck_some h
            rcases or_split hk8 with ⟨ghk8, hk8⟩ | ghk8
            · try simp only [go_sem, n1, n2, n3, n4, hk1, hk2, ghk4nn, hk5, ghk6, ghk7, hk7] at ghk8
              all_goals
              have lhk8 := ix_lt hk8
              have xhk8 := getD_mapD Fault_av faults lhk8
              try simp only [go_sem] at lhk8
              try simp only [go_sem] at xhk8
              try simp only [go_sem, n1, n2, n3, n4, hk1, hk2, ghk4nn, hk5, ghk6, ghk7, hk7, ghk8] at hk8
              all_goals
              rcases it_some h with ⟨hk9, h⟩ | ⟨hk9, h⟩
              · try simp only [go_sem, n1, n2, n3, n4, hk1, hk2, ghk4nn, hk5, ghk6, ghk7, hk7, ghk8, hk8] at hk9
                all_goals
                obtain rfl := so_some h
                refine ⟨0, fun L hL => ?_⟩
                simp only [go_sem, ir24, E_spec_l26Faults_l1, R_spec_l26Faults_l1, ir24_b0, ir24_k0, ir24_o0, ir24_r0, hk1, hk2, lhk2, xhk2, fhk3, ghk4nn, hk5, ghk6, ghk7, hk7, lhk7, xhk7, ghk8, hk8, lhk8, xhk8, hk9]
              · try simp only [go_sem, n1, n2, n3, n4, hk1, hk2, ghk4nn, hk5, ghk6, ghk7, hk7, ghk8, hk8] at hk9
                all_goals
                obtain rfl := so_some h
                refine ⟨0, fun L hL => ?_⟩
                simp only [go_sem, ir24, E_spec_l26Faults_l1, R_spec_l26Faults_l1, ir24_b0, ir24_k0, ir24_o0, ir24_r0, hk1, hk2, lhk2, xhk2, fhk3, ghk4nn, hk5, ghk6, ghk7, hk7, lhk7, xhk7, ghk8, hk8, lhk8, xhk8, hk9]
            · rcases and_f ghk8 with ghk8a | ⟨ghk8a, ghk8b⟩
              · rcases and_f ghk8a with ghk8aa | ⟨ghk8aa, ghk8ab⟩
                · try simp only [go_sem, n1, n2, n3, n4, hk1, hk2, ghk4nn, hk5, ghk6, ghk7, hk7] at ghk8aa
                  all_goals
                  rcases it_some h with ⟨hk9, h⟩ | ⟨hk9, h⟩
                  · try simp only [go_sem, n1, n2, n3, n4, hk1, hk2, ghk4nn, hk5, ghk6, ghk7, hk7, ghk8aa] at hk9
                    all_goals
                    obtain rfl := so_some h
                    refine ⟨0, fun L hL => ?_⟩
                    simp only [go_sem, ir24, E_spec_l26Faults_l1, R_spec_l26Faults_l1, ir24_b0, ir24_k0, ir24_o0, ir24_r0, hk1, hk2, lhk2, xhk2, fhk3, ghk4nn, hk5, ghk6, ghk7, hk7, lhk7, xhk7, ghk8aa, hk9]
                  · try simp only [go_sem, n1, n2, n3, n4, hk1, hk2, ghk4nn, hk5, ghk6, ghk7, hk7, ghk8aa] at hk9
                    all_goals
                    obtain rfl := so_some h
                    refine ⟨0, fun L hL => ?_⟩
                    simp only [go_sem, ir24, E_spec_l26Faults_l1, R_spec_l26Faults_l1, ir24_b0, ir24_k0, ir24_o0, ir24_r0, hk1, hk2, lhk2, xhk2, fhk3, ghk4nn, hk5, ghk6, ghk7, hk7, lhk7, xhk7, ghk8aa, hk9]
                · have ghk8abn := no_f ghk8ab
                  try simp only [go_sem, n1, n2, n3, n4, hk1, hk2, ghk4nn, hk5, ghk6, ghk7, hk7] at ghk8aa
                  all_goals
                  try simp only [go_sem, n1, n2, n3, n4, hk1, hk2, ghk4nn, hk5, ghk6, ghk7, hk7, ghk8aa] at ghk8abn
                  all_goals
                  rcases it_some h with ⟨hk9, h⟩ | ⟨hk9, h⟩
                  · try simp only [go_sem, n1, n2, n3, n4, hk1, hk2, ghk4nn, hk5, ghk6, ghk7, hk7, ghk8aa, ghk8abn] at hk9
                    all_goals
                    obtain rfl := so_some h
                    refine ⟨0, fun L hL => ?_⟩
                    simp only [go_sem, ir24, E_spec_l26Faults_l1, R_spec_l26Faults_l1, ir24_b0, ir24_k0, ir24_o0, ir24_r0, hk1, hk2, lhk2, xhk2, fhk3, ghk4nn, hk5, ghk6, ghk7, hk7, lhk7, xhk7, ghk8aa, ghk8abn, hk9]
                  · try simp only [go_sem, n1, n2, n3, n4, hk1, hk2, ghk4nn, hk5, ghk6, ghk7, hk7, ghk8aa, ghk8abn] at hk9
                    all_goals
                    obtain rfl := so_some h
                    refine ⟨0, fun L hL => ?_⟩
                    simp only [go_sem, ir24, E_spec_l26Faults_l1, R_spec_l26Faults_l1, ir24_b0, ir24_k0, ir24_o0, ir24_r0, hk1, hk2, lhk2, xhk2, fhk3, ghk4nn, hk5, ghk6, ghk7, hk7, lhk7, xhk7, ghk8aa, ghk8abn, hk9]
              · obtain ⟨ghk8aa, ghk8ab⟩ := and_t ghk8a
                have ghk8abn := no_t ghk8ab
                try simp only [go_sem, n1, n2, n3, n4, hk1, hk2, ghk4nn, hk5, ghk6, ghk7, hk7] at ghk8aa
                all_goals
                try simp only [go_sem, n1, n2, n3, n4, hk1, hk2, ghk4nn, hk5, ghk6, ghk7, hk7, ghk8aa] at ghk8abn
                all_goals
                try simp only [go_sem, n1, n2, n3, n4, hk1, hk2, ghk4nn, hk5, ghk6, ghk7, hk7, ghk8aa, ghk8abn] at ghk8b
                all_goals
                rcases it_some h with ⟨hk9, h⟩ | ⟨hk9, h⟩
                · try simp only [go_sem, n1, n2, n3, n4, hk1, hk2, ghk4nn, hk5, ghk6, ghk7, hk7, ghk8aa, ghk8abn, ghk8b] at hk9
                  all_goals
                  obtain rfl := so_some h
                  refine ⟨0, fun L hL => ?_⟩
                  simp only [go_sem, ir24, E_spec_l26Faults_l1, R_spec_l26Faults_l1, ir24_b0, ir24_k0, ir24_o0, ir24_r0, hk1, hk2, lhk2, xhk2, fhk3, ghk4nn, hk5, ghk6, ghk7, hk7, lhk7, xhk7, ghk8aa, ghk8abn, ghk8b, hk9]
                · try simp only [go_sem, n1, n2, n3, n4, hk1, hk2, ghk4nn, hk5, ghk6, ghk7, hk7, ghk8aa, ghk8abn, ghk8b] at hk9
                  all_goals
                  obtain rfl := so_some h
                  refine ⟨0, fun L hL => ?_⟩
                  simp only [go_sem, ir24, E_spec_l26Faults_l1, R_spec_l26Faults_l1, ir24_b0, ir24_k0, ir24_o0, ir24_r0, hk1, hk2, lhk2, xhk2, fhk3, ghk4nn, hk5, ghk6, ghk7, hk7, lhk7, xhk7, ghk8aa, ghk8abn, ghk8b, hk9]
          · rcases and_f ghk7 with ghk7a | ⟨ghk7a, ghk7b⟩
            · try simp only [go_sem, n1, n2, n3, n4, hk1, hk2, ghk4nn, hk5, ghk6] at ghk7a
              all_goals
              obtain ⟨hk8, h⟩ := ck_some h
              rcases or_split hk8 with ⟨ghk8, hk8⟩ | ghk8
              · try simp only [go_sem, n1, n2, n3, n4, hk1, hk2, ghk4nn, hk5, ghk6, ghk7a] at ghk8
                all_goals
                have lhk8 := ix_lt hk8
                have xhk8 := getD_mapD Fault_av faults lhk8
                try simp only [go_sem] at lhk8
                try simp only [go_sem] at xhk8
                try simp only [go_sem, n1, n2, n3, n4, hk1, hk2, ghk4nn, hk5, ghk6, ghk7a, ghk8] at hk8
                all_goals
                rcases it_some h with ⟨hk9, h⟩ | ⟨hk9, h⟩
                · try simp only [go_sem, n1, n2, n3, n4, hk1, hk2, ghk4nn, hk5, ghk6, ghk7a, ghk8, hk8] at hk9
                  all_goals
                  obtain rfl := so_some h
                  refine ⟨0, fun L hL => ?_⟩
                  simp only [go_sem, ir24, E_spec_l26Faults_l1, R_spec_l26Faults_l1, ir24_b0, ir24_k0, ir24_o0, ir24_r0, hk1, hk2, lhk2, xhk2, fhk3, ghk4nn, hk5, ghk6, ghk7a, ghk8, hk8, lhk8, xhk8, hk9]
                · try simp only [go_sem, n1, n2, n3, n4, hk1, hk2, ghk4nn, hk5, ghk6, ghk7a, ghk8, hk8] at hk9
                  all_goals
                  obtain rfl := so_some h
                  refine ⟨0, fun L hL => ?_⟩
                  simp only [go_sem, ir24, E_spec_l26Faults_l1, R_spec_l26Faults_l1, ir24_b0, ir24_k0, ir24_o0, ir24_r0, hk1, hk2, lhk2, xhk2, fhk3, ghk4nn, hk5, ghk6, ghk7a, ghk8, hk8, lhk8, xhk8, hk9]
              · rcases and_f ghk8 with ghk8a | ⟨ghk8a, ghk8b⟩
                · rcases and_f ghk8a with ghk8aa | ⟨ghk8aa, ghk8ab⟩
                  · try simp only [go_sem, n1, n2, n3, n4, hk1, hk2, ghk4nn, hk5, ghk6, ghk7a] at ghk8aa
                    all_goals
                    rcases it_some h with ⟨hk9, h⟩ | ⟨hk9, h⟩
                    · try simp only [go_sem, n1, n2, n3, n4, hk1, hk2, ghk4nn, hk5, ghk6, ghk7a, ghk8aa] at hk9
                      all_goals
                      obtain rfl := so_some h
                      refine ⟨0, fun L hL => ?_⟩
                      simp only [go_sem, ir24, E_spec_l26Faults_l1, R_spec_l26Faults_l1, ir24_b0, ir24_k0, ir24_o0, ir24_r0, hk1, hk2, lhk2, xhk2, fhk3, ghk4nn, hk5, ghk6, ghk7a, ghk8aa, hk9]
                    · try simp only [go_sem, n1, n2, n3, n4, hk1, hk2, ghk4nn, hk5, ghk6, ghk7a, ghk8aa] at hk9
                      all_goals
                      obtain rfl := so_some h
                      refine ⟨0, fun L hL => ?_⟩
                      simp only [go_sem, ir24, E_spec_l26Faults_l1, R_spec_l26Faults_l1, ir24_b0, ir24_k0, ir24_o0, ir24_r0, hk1, hk2, lhk2, xhk2, fhk3, ghk4nn, hk5, ghk6, ghk7a, ghk8aa, hk9]
                  · have ghk8abn := no_f ghk8ab
                    try simp only [go_sem, n1, n2, n3, n4, hk1, hk2, ghk4nn, hk5, ghk6, ghk7a] at ghk8aa
                    all_goals
                    try simp only [go_sem, n1, n2, n3, n4, hk1, hk2, ghk4nn, hk5, ghk6, ghk7a, ghk8aa] at ghk8abn
                    all_goals
                    rcases it_some h with ⟨hk9, h⟩ | ⟨hk9, h⟩
                    · try simp only [go_sem, n1, n2, n3, n4, hk1, hk2, ghk4nn, hk5, ghk6, ghk7a, ghk8aa, ghk8abn] at hk9
                      all_goals
                      obtain rfl := so_some h
                      refine ⟨0, fun L hL => ?_⟩
                      simp only [go_sem, ir24, E_spec_l26Faults_l1, R_spec_l26Faults_l1, ir24_b0, ir24_k0, ir24_o0, ir24_r0, hk1, hk2, lhk2, xhk2, fhk3, ghk4nn, hk5, ghk6, ghk7a, ghk8aa, ghk8abn, hk9]
                    · try simp only [go_sem, n1, n2, n3, n4, hk1, hk2, ghk4nn, hk5, ghk6, ghk7a, ghk8aa, ghk8abn] at hk9
                      all_goals
                      obtain rfl := so_some h
                      refine ⟨0, fun L hL => ?_⟩
                      simp only [go_sem, ir24, E_spec_l26Faults_l1, R_spec_l26Faults_l1, ir24_b0, ir24_k0, ir24_o0, ir24_r0, hk1, hk2, lhk2, xhk2, fhk3, ghk4nn, hk5, ghk6, ghk7a, ghk8aa, ghk8abn, hk9]
                · obtain ⟨ghk8aa, ghk8ab⟩ := and_t ghk8a
                  have ghk8abn := no_t ghk8ab
                  try simp only [go_sem, n1, n2, n3, n4, hk1, hk2, ghk4nn, hk5, ghk6, ghk7a] at ghk8aa
                  all_goals
                  try simp only [go_sem, n1, n2, n3, n4, hk1, hk2, ghk4nn, hk5, ghk6, ghk7a, ghk8aa] at ghk8abn
                  all_goals
                  try simp only [go_sem, n1, n2, n3, n4, hk1, hk2, ghk4nn, hk5, ghk6, ghk7a, ghk8aa, ghk8abn] at ghk8b
                  all_goals
                  rcases it_some h with ⟨hk9, h⟩ | ⟨hk9, h⟩
                  · try simp only [go_sem, n1, n2, n3, n4, hk1, hk2, ghk4nn, hk5, ghk6, ghk7a, ghk8aa, ghk8abn, ghk8b] at hk9
                    all_goals
                    obtain rfl := so_some h
                    refine ⟨0, fun L hL => ?_⟩
                    simp only [go_sem, ir24, E_spec_l26Faults_l1, R_spec_l26Faults_l1, ir24_b0, ir24_k0, ir24_o0, ir24_r0, hk1, hk2, lhk2, xhk2, fhk3, ghk4nn, hk5, ghk6, ghk7a, ghk8aa, ghk8abn, ghk8b, hk9]
                  · try simp only [go_sem, n1, n2, n3, n4, hk1, hk2, ghk4nn, hk5, ghk6, ghk7a, ghk8aa, ghk8abn, ghk8b] at hk9
                    all_goals
                    obtain rfl := so_some h
                    refine ⟨0, fun L hL => ?_⟩
                    simp only [go_sem, ir24, E_spec_l26Faults_l1, R_spec_l26Faults_l1, ir24_b0, ir24_k0, ir24_o0, ir24_r0, hk1, hk2, lhk2, xhk2, fhk3, ghk4nn, hk5, ghk6, ghk7a, ghk8aa, ghk8abn, ghk8b, hk9]
            · have ghk7bn := no_f ghk7b
              try simp only [go_sem, n1, n2, n3, n4, hk1, hk2, ghk4nn, hk5, ghk6] at ghk7a
              all_goals
              try simp only [go_sem, n1, n2, n3, n4, hk1, hk2, ghk4nn, hk5, ghk6, ghk7a] at ghk7bn
              all_goals
              obtain ⟨hk8, h⟩ := ck_some h
              rcases or_split hk8 with ⟨ghk8, hk8⟩ | ghk8
              · try simp only [go_sem, n1, n2, n3, n4, hk1, hk2, ghk4nn, hk5, ghk6, ghk7a, ghk7bn] at ghk8
                all_goals
                have lhk8 := ix_lt hk8
                have xhk8 := getD_mapD Fault_av faults lhk8
                try simp only [go_sem] at lhk8
                try simp only [go_sem] at xhk8
                try simp only [go_sem, n1, n2, n3, n4, hk1, hk2, ghk4nn, hk5, ghk6, ghk7a, ghk7bn, ghk8] at hk8
                all_goals
                rcases it_some h with ⟨hk9, h⟩ | ⟨hk9, h⟩
                · try simp only [go_sem, n1, n2, n3, n4, hk1, hk2, ghk4nn, hk5, ghk6, ghk7a, ghk7bn, ghk8, hk8] at hk9
                  all_goals
                  obtain rfl := so_some h
                  refine ⟨0, fun L hL => ?_⟩
                  simp only [go_sem, ir24, E_spec_l26Faults_l1, R_spec_l26Faults_l1, ir24_b0, ir24_k0, ir24_o0, ir24_r0, hk1, hk2, lhk2, xhk2, fhk3, ghk4nn, hk5, ghk6, ghk7a, ghk7bn, ghk8, hk8, lhk8, xhk8, hk9]
                · try simp only [go_sem, n1, n2, n3, n4, hk1, hk2, ghk4nn, hk5, ghk6, ghk7a, ghk7bn, ghk8, hk8] at hk9
                  all_goals
                  obtain rfl := so_some h
                  refine ⟨0, fun L hL => ?_⟩
                  simp only [go_sem, ir24, E_spec_l26Faults_l1, R_spec_l26Faults_l1, ir24_b0, ir24_k0, ir24_o0, ir24_r0, hk1, hk2, lhk2, xhk2, fhk3, ghk4nn, hk5, ghk6, ghk7a, ghk7bn, ghk8, hk8, lhk8, xhk8, hk9]
              · rcases and_f ghk8 with ghk8a | ⟨ghk8a, ghk8b⟩
                · rcases and_f ghk8a with ghk8aa | ⟨ghk8aa, ghk8ab⟩
                  · try simp only [go_sem, n1, n2, n3, n4, hk1, hk2, ghk4nn, hk5, ghk6, ghk7a, ghk7bn] at ghk8aa
                    all_goals
                    rcases it_some h with ⟨hk9, h⟩ | ⟨hk9, h⟩
                    · try simp only [go_sem, n1, n2, n3, n4, hk1, hk2, ghk4nn, hk5, ghk6, ghk7a, ghk7bn, ghk8aa] at hk9
                      all_goals
                      obtain rfl := so_some h
                      refine ⟨0, fun L hL => ?_⟩
                      simp only [go_sem, ir24, E_spec_l26Faults_l1, R_spec_l26Faults_l1, ir24_b0, ir24_k0, ir24_o0, ir24_r0, hk1, hk2, lhk2, xhk2, fhk3, ghk4nn, hk5, ghk6, ghk7a, ghk7bn, ghk8aa, hk9]
                    · try simp only [go_sem, n1, n2, n3, n4, hk1, hk2, ghk4nn, hk5, ghk6, ghk7a, ghk7bn, ghk8aa] at hk9
                      all_goals
                      obtain rfl := so_some h
                      refine ⟨0, fun L hL => ?_⟩
                      simp only [go_sem, ir24, E_spec_l26Faults_l1, R_spec_l26Faults_l1, ir24_b0, ir24_k0, ir24_o0, ir24_r0, hk1, hk2, lhk2, xhk2, fhk3, ghk4nn, hk5, ghk6, ghk7a, ghk7bn, ghk8aa, hk9]
                  · have ghk8abn := no_f ghk8ab
                    try simp only [go_sem, n1, n2, n3, n4, hk1, hk2, ghk4nn, hk5, ghk6, ghk7a, ghk7bn] at ghk8aa
                    all_goals
                    try simp only [go_sem, n1, n2, n3, n4, hk1, hk2, ghk4nn, hk5, ghk6, ghk7a, ghk7bn, ghk8aa] at ghk8abn
                    all_goals
                    rcases it_some h with ⟨hk9, h⟩ | ⟨hk9, h⟩
                    · try simp only [go_sem, n1, n2, n3, n4, hk1, hk2, ghk4nn, hk5, ghk6, ghk7a, ghk7bn, ghk8aa, ghk8abn] at hk9
                      all_goals
                      obtain rfl := so_some h
                      refine ⟨0, fun L hL => ?_⟩
                      simp only [go_sem, ir24, E_spec_l26Faults_l1, R_spec_l26Faults_l1, ir24_b0, ir24_k0, ir24_o0, ir24_r0, hk1, hk2, lhk2, xhk2, fhk3, ghk4nn, hk5, ghk6, ghk7a, ghk7bn, ghk8aa, ghk8abn, hk9]
                    · try simp only [go_sem, n1, n2, n3, n4, hk1, hk2, ghk4nn, hk5, ghk6, ghk7a, ghk7bn, ghk8aa, ghk8abn] at hk9
                      all_goals
                      obtain rfl := so_some h
                      refine ⟨0, fun L hL => ?_⟩
                      simp only [go_sem, ir24, E_spec_l26Faults_l1, R_spec_l26Faults_l1, ir24_b0, ir24_k0, ir24_o0, ir24_r0, hk1, hk2, lhk2, xhk2, fhk3, ghk4nn, hk5, ghk6, ghk7a, ghk7bn, ghk8aa, ghk8abn, hk9]
                · obtain ⟨ghk8aa, ghk8ab⟩ := and_t ghk8a
                  have ghk8abn := no_t ghk8ab
                  try simp only [go_sem, n1, n2, n3, n4, hk1, hk2, ghk4nn, hk5, ghk6, ghk7a, ghk7bn] at ghk8aa
                  all_goals
                  try simp only [go_sem, n1, n2, n3, n4, hk1, hk2, ghk4nn, hk5, ghk6, ghk7a, ghk7bn, ghk8aa] at ghk8abn
                  all_goals
                  try simp only [go_sem, n1, n2, n3, n4, hk1, hk2, ghk4nn, hk5, ghk6, ghk7a, ghk7bn, ghk8aa, ghk8abn] at ghk8b
                  all_goals
                  rcases it_some h with ⟨hk9, h⟩ | ⟨hk9, h⟩
                  · try simp only [go_sem, n1, n2, n3, n4, hk1, hk2, ghk4nn, hk5, ghk6, ghk7a, ghk7bn, ghk8aa, ghk8abn, ghk8b] at hk9
                    all_goals
                    obtain rfl := so_some h
                    refine ⟨0, fun L hL => ?_⟩
                    simp only [go_sem, ir24, E_spec_l26Faults_l1, R_spec_l26Faults_l1, ir24_b0, ir24_k0, ir24_o0, ir24_r0, hk1, hk2, lhk2, xhk2, fhk3, ghk4nn, hk5, ghk6, ghk7a, ghk7bn, ghk8aa, ghk8abn, ghk8b, hk9]
                  · try simp only [go_sem, n1, n2, n3, n4, hk1, hk2, ghk4nn, hk5, ghk6, ghk7a, ghk7bn, ghk8aa, ghk8abn, ghk8b] at hk9
                    all_goals
                    obtain rfl := so_some h
                    refine ⟨0, fun L hL => ?_⟩
                    simp only [go_sem, ir24, E_spec_l26Faults_l1, R_spec_l26Faults_l1, ir24_b0, ir24_k0, ir24_o0, ir24_r0, hk1, hk2, lhk2, xhk2, fhk3, ghk4nn, hk5, ghk6, ghk7a, ghk7bn, ghk8aa, ghk8abn, ghk8b, hk9]
  · try simp only [go_sem, n1, n2, n3, n4] at hk1
    all_goals
    obtain rfl := so_some h
    refine ⟨0, fun L hL => ?_⟩
    simp only [go_sem, ir24, E_spec_l26Faults_l1, R_spec_l26Faults_l1, ir24_b0, ir24_k0, ir24_o0, ir24_r0, hk1]

theorem Fs_spec_l26Faults {faults : List Fault} {count : Int} {y_ : Bool} (h : spec_l26Faults faults count = some y_) : c_spec_l26Faults.F [.sl 2 (List.map Fault_av faults), .int .i64 count] = ⟨true, .bool y_, [.any, .any]⟩ := by
  refine mkF_E rfl ?_
  dsimp only [spec_l26Faults] at h
  obtain ⟨y_10, hk10, h⟩ := bd_some h
  obtain ⟨Lhk10, ehk10⟩ := spec_l26Faults_l1_ex hk10
  rcases y_10 with y_10a | y_10b
  · dsimp only at h
    obtain rfl := so_some h
    refine ⟨Lhk10, fun L hL => ?_⟩
    have ehk10 := ehk10 L (by omega)
    try simp only [go_sem, E_spec_l26Faults_l1, R_spec_l26Faults_l1, ir24_k0, ir24_o0, ir24_r0] at ehk10
    simp only [go_sem, ir24, E_spec_l26Faults_l1, R_spec_l26Faults_l1, ir24_k0, ir24_o0, ir24_r0, ehk10]
  · dsimp only at h
    obtain rfl := so_some h
    refine ⟨Lhk10, fun L hL => ?_⟩
    have ehk10 := ehk10 L (by omega)
    try simp only [go_sem, E_spec_l26Faults_l1, R_spec_l26Faults_l1, ir24_k0, ir24_o0, ir24_r0] at ehk10
    simp only [go_sem, ir24, E_spec_l26Faults_l1, R_spec_l26Faults_l1, ir24_k0, ir24_o0, ir24_r0, ehk10]


def ir6_v : List Nat := [0, 2, 3, 4, 5, 6, 7]
def ir6 : AFn := ⟨1, 7, .seq (.region false [
    ⟨.var 1, 2, none, .alloc (.agg [.int .i64 (0), .int .i64 (0)])⟩,
    ⟨.var 2, 3, none, .mov (.c (.bool false))⟩])
 (.seq (.region false [
    ⟨.push, 8, none, .mov (.v 0)⟩,
    ⟨.push, 9, none, .call 20 [(.s 0), (.c (.int .u8 (32)))]⟩,
    ⟨.var 3, 4, none, .mov (.s 0)⟩])
 (.seq (.test false [
    ⟨.push, 10, none, .mov (.v 3)⟩,
    ⟨.push, 11, none, .len false (.s 0)⟩,
    ⟨.push, 12, none, .bin false .neq (.s 0) (.c (.int .i64 (2)))⟩] (.s 0)
  (.seq (.region false [
      ⟨.push, 13, none, .build [.int .i64 (0), .int .i64 (0)] []⟩,
      ⟨.no, 0, none, .store 2 (.v 1) (.s 0)⟩,
      ⟨.var 2, 3, none, .mov (.c (.bool false))⟩])
   (.ret))
  (.skip))
 (.seq (.region false [
    ⟨.push, 15, none, .mov (.v 3)⟩,
    ⟨.push, 16, none, .ixAddr 1 (.s 0) (.c (.int .i64 (0)))⟩,
    ⟨.push, 17, none, .load false 1 (.s 0)⟩,
    ⟨.push, 18, none, .call 21 [(.s 0)]⟩,
    ⟨.push, 14, none, .mov (.s 0)⟩,
    ⟨.push, 19, none, .ext (.s 0) 0⟩,
    ⟨.push, 20, none, .ext (.s 1) 1⟩,
    ⟨.var 4, 5, none, .mov (.s 1)⟩,
    ⟨.var 5, 6, none, .mov (.s 0)⟩])
 (.seq (.anyo 8 [
    ⟨.slot 0, 21, none, .mov (.v 4)⟩,
    ⟨.slot 1, 22, none, .pur (.call 23 [])⟩,
    ⟨.slot 2, 23, none, .mov (.v 3)⟩,
    ⟨.slot 3, 24, none, .ixAddr 1 (.s 2) (.c (.int .i64 (1)))⟩,
    ⟨.slot 4, 25, none, .load false 1 (.s 3)⟩,
    ⟨.slot 5, 26, none, .callp 22 [(.s 1), (.s 4)]⟩,
    ⟨.slot 6, 27, none, .bin false .add (.s 5) (.c (.int .i64 (1)))⟩,
    ⟨.slot 7, 28, none, .pur (.build [.int .i64 (0), .int .i64 (0)] [(0, 1, (.s 0)), (1, 1, (.s 6))])⟩,
    ⟨.var 6, 7, none, .alloc (.agg [.int .i64 (0), .int .i64 (0)])⟩,
    ⟨.no, 0, none, .store 2 (.v 6) (.s 7)⟩] [[0, 1, 2, 3, 4, 5, 6, 8, 7, 9], [0, 1, 2, 3, 4, 5, 8, 6, 7, 9], [0, 1, 2, 3, 4, 8, 5, 6, 7, 9], [0, 1, 2, 3, 8, 4, 5, 6, 7, 9], [0, 1, 2, 8, 3, 4, 5, 6, 7, 9], [0, 1, 8, 2, 3, 4, 5, 6, 7, 9], [0, 2, 1, 3, 4, 5, 6, 7, 8, 9], [0, 2, 1, 3, 4, 5, 6, 8, 7, 9], [0, 2, 1, 3, 4, 5, 8, 6, 7, 9], [0, 2, 1, 3, 4, 8, 5, 6, 7, 9], [0, 2, 1, 3, 8, 4, 5, 6, 7, 9], [0, 2, 1, 8, 3, 4, 5, 6, 7, 9], [0, 2, 3, 1, 4, 5, 6, 7, 8, 9], [0, 2, 3, 1, 4, 5, 6, 8, 7, 9], [0, 2, 3, 1, 4, 5, 8, 6, 7, 9], [0, 2, 3, 1, 4, 8, 5, 6, 7, 9], [0, 2, 3, 1, 8, 4, 5, 6, 7, 9], [0, 2, 3, 4, 1, 5, 6, 7, 8, 9], [0, 2, 3, 4, 1, 5, 6, 8, 7, 9], [0, 2, 3, 4, 1, 5, 8, 6, 7, 9], [0, 2, 3, 4, 1, 8, 5, 6, 7, 9], [0, 2, 3, 4, 8, 1, 5, 6, 7, 9], [0, 2, 3, 8, 1, 4, 5, 6, 7, 9], [0, 2, 8, 1, 3, 4, 5, 6, 7, 9], [0, 8, 1, 2, 3, 4, 5, 6, 7, 9], [1, 0, 2, 3, 4, 5, 6, 7, 8, 9], [1, 0, 2, 3, 4, 5, 6, 8, 7, 9], [1, 0, 2, 3, 4, 5, 8, 6, 7, 9], [1, 0, 2, 3, 4, 8, 5, 6, 7, 9], [1, 0, 2, 3, 8, 4, 5, 6, 7, 9], [1, 0, 2, 8, 3, 4, 5, 6, 7, 9], [1, 0, 8, 2, 3, 4, 5, 6, 7, 9], [1, 2, 0, 3, 4, 5, 6, 7, 8, 9], [1, 2, 0, 3, 4, 5, 6, 8, 7, 9], [1, 2, 0, 3, 4, 5, 8, 6, 7, 9], [1, 2, 0, 3, 4, 8, 5, 6, 7, 9], [1, 2, 0, 3, 8, 4, 5, 6, 7, 9], [1, 2, 0, 8, 3, 4, 5, 6, 7, 9], [1, 2, 3, 0, 4, 5, 6, 7, 8, 9], [1, 2, 3, 0, 4, 5, 6, 8, 7, 9], [1, 2, 3, 0, 4, 5, 8, 6, 7, 9], [1, 2, 3, 0, 4, 8, 5, 6, 7, 9], [1, 2, 3, 0, 8, 4, 5, 6, 7, 9], [1, 2, 3, 4, 0, 5, 6, 7, 8, 9], [1, 2, 3, 4, 0, 5, 6, 8, 7, 9], [1, 2, 3, 4, 0, 5, 8, 6, 7, 9], [1, 2, 3, 4, 0, 8, 5, 6, 7, 9], [1, 2, 3, 4, 5, 0, 6, 7, 8, 9], [1, 2, 3, 4, 5, 0, 6, 8, 7, 9], [1, 2, 3, 4, 5, 0, 8, 6, 7, 9], [1, 2, 3, 4, 5, 6, 0, 7, 8, 9], [1, 2, 3, 4, 5, 6, 0, 8, 7, 9], [1, 2, 3, 4, 5, 6, 8, 0, 7, 9], [1, 2, 3, 4, 5, 8, 0, 6, 7, 9], [1, 2, 3, 4, 8, 0, 5, 6, 7, 9], [1, 2, 3, 8, 0, 4, 5, 6, 7, 9], [1, 2, 8, 0, 3, 4, 5, 6, 7, 9], [1, 8, 0, 2, 3, 4, 5, 6, 7, 9], [2, 0, 1, 3, 4, 5, 6, 7, 8, 9], [2, 0, 1, 3, 4, 5, 6, 8, 7, 9], [2, 0, 1, 3, 4, 5, 8, 6, 7, 9], [2, 0, 1, 3, 4, 8, 5, 6, 7, 9], [2, 0, 1, 3, 8, 4, 5, 6, 7, 9], [2, 0, 1, 8, 3, 4, 5, 6, 7, 9], [2, 0, 3, 1, 4, 5, 6, 7, 8, 9], [2, 0, 3, 1, 4, 5, 6, 8, 7, 9], [2, 0, 3, 1, 4, 5, 8, 6, 7, 9], [2, 0, 3, 1, 4, 8, 5, 6, 7, 9], [2, 0, 3, 1, 8, 4, 5, 6, 7, 9], [2, 0, 3, 4, 1, 5, 6, 7, 8, 9], [2, 0, 3, 4, 1, 5, 6, 8, 7, 9], [2, 0, 3, 4, 1, 5, 8, 6, 7, 9], [2, 0, 3, 4, 1, 8, 5, 6, 7, 9], [2, 0, 3, 4, 8, 1, 5, 6, 7, 9], [2, 0, 3, 8, 1, 4, 5, 6, 7, 9], [2, 0, 8, 1, 3, 4, 5, 6, 7, 9], [2, 1, 0, 3, 4, 5, 6, 7, 8, 9], [2, 1, 0, 3, 4, 5, 6, 8, 7, 9], [2, 1, 0, 3, 4, 5, 8, 6, 7, 9], [2, 1, 0, 3, 4, 8, 5, 6, 7, 9], [2, 1, 0, 3, 8, 4, 5, 6, 7, 9], [2, 1, 0, 8, 3, 4, 5, 6, 7, 9], [2, 1, 3, 0, 4, 5, 6, 7, 8, 9], [2, 1, 3, 0, 4, 5, 6, 8, 7, 9], [2, 1, 3, 0, 4, 5, 8, 6, 7, 9], [2, 1, 3, 0, 4, 8, 5, 6, 7, 9], [2, 1, 3, 0, 8, 4, 5, 6, 7, 9], [2, 1, 3, 4, 0, 5, 6, 7, 8, 9], [2, 1, 3, 4, 0, 5, 6, 8, 7, 9], [2, 1, 3, 4, 0, 5, 8, 6, 7, 9], [2, 1, 3, 4, 0, 8, 5, 6, 7, 9], [2, 1, 3, 4, 5, 0, 6, 7, 8, 9], [2, 1, 3, 4, 5, 0, 6, 8, 7, 9], [2, 1, 3, 4, 5, 0, 8, 6, 7, 9], [2, 1, 3, 4, 5, 6, 0, 7, 8, 9], [2, 1, 3, 4, 5, 6, 0, 8, 7, 9], [2, 1, 3, 4, 5, 6, 8, 0, 7, 9], [2, 1, 3, 4, 5, 8, 0, 6, 7, 9], [2, 1, 3, 4, 8, 0, 5, 6, 7, 9], [2, 1, 3, 8, 0, 4, 5, 6, 7, 9], [2, 1, 8, 0, 3, 4, 5, 6, 7, 9], [2, 3, 0, 1, 4, 5, 6, 7, 8, 9], [2, 3, 0, 1, 4, 5, 6, 8, 7, 9], [2, 3, 0, 1, 4, 5, 8, 6, 7, 9], [2, 3, 0, 1, 4, 8, 5, 6, 7, 9], [2, 3, 0, 1, 8, 4, 5, 6, 7, 9], [2, 3, 0, 4, 1, 5, 6, 7, 8, 9], [2, 3, 0, 4, 1, 5, 6, 8, 7, 9], [2, 3, 0, 4, 1, 5, 8, 6, 7, 9], [2, 3, 0, 4, 1, 8, 5, 6, 7, 9], [2, 3, 0, 4, 8, 1, 5, 6, 7, 9], [2, 3, 0, 8, 1, 4, 5, 6, 7, 9], [2, 3, 1, 0, 4, 5, 6, 7, 8, 9], [2, 3, 1, 0, 4, 5, 6, 8, 7, 9], [2, 3, 1, 0, 4, 5, 8, 6, 7, 9], [2, 3, 1, 0, 4, 8, 5, 6, 7, 9], [2, 3, 1, 0, 8, 4, 5, 6, 7, 9], [2, 3, 1, 4, 0, 5, 6, 7, 8, 9], [2, 3, 1, 4, 0, 5, 6, 8, 7, 9], [2, 3, 1, 4, 0, 5, 8, 6, 7, 9], [2, 3, 1, 4, 0, 8, 5, 6, 7, 9], [2, 3, 1, 4, 5, 0, 6, 7, 8, 9], [2, 3, 1, 4, 5, 0, 6, 8, 7, 9], [2, 3, 1, 4, 5, 0, 8, 6, 7, 9], [2, 3, 1, 4, 5, 6, 0, 7, 8, 9], [2, 3, 1, 4, 5, 6, 0, 8, 7, 9], [2, 3, 1, 4, 5, 6, 8, 0, 7, 9], [2, 3, 1, 4, 5, 8, 0, 6, 7, 9], [2, 3, 1, 4, 8, 0, 5, 6, 7, 9], [2, 3, 1, 8, 0, 4, 5, 6, 7, 9], [2, 3, 4, 0, 1, 5, 6, 7, 8, 9], [2, 3, 4, 0, 1, 5, 6, 8, 7, 9], [2, 3, 4, 0, 1, 5, 8, 6, 7, 9], [2, 3, 4, 0, 1, 8, 5, 6, 7, 9], [2, 3, 4, 0, 8, 1, 5, 6, 7, 9], [2, 3, 4, 1, 0, 5, 6, 7, 8, 9], [2, 3, 4, 1, 0, 5, 6, 8, 7, 9], [2, 3, 4, 1, 0, 5, 8, 6, 7, 9], [2, 3, 4, 1, 0, 8, 5, 6, 7, 9], [2, 3, 4, 1, 5, 0, 6, 7, 8, 9], [2, 3, 4, 1, 5, 0, 6, 8, 7, 9], [2, 3, 4, 1, 5, 0, 8, 6, 7, 9], [2, 3, 4, 1, 5, 6, 0, 7, 8, 9], [2, 3, 4, 1, 5, 6, 0, 8, 7, 9], [2, 3, 4, 1, 5, 6, 8, 0, 7, 9], [2, 3, 4, 1, 5, 8, 0, 6, 7, 9], [2, 3, 4, 1, 8, 0, 5, 6, 7, 9], [2, 3, 4, 8, 0, 1, 5, 6, 7, 9], [2, 3, 8, 0, 1, 4, 5, 6, 7, 9], [2, 8, 0, 1, 3, 4, 5, 6, 7, 9], [8, 0, 1, 2, 3, 4, 5, 6, 7, 9]] .skip)
 (.seq (.test false [
    ⟨.push, 29, none, .mov (.v 5)⟩,
    ⟨.push, 30, none, .un .not (.s 0)⟩,
    ⟨.push, 31, none, .mov (.s 0)⟩,
    ⟨.push, 32, (some ((.s 0), false)), .load true 2 (.v 6)⟩,
    ⟨.push, 33, (some ((.s 1), false)), .mkSl 2 (.agg [.int .i64 (0), .int .i64 (0)]) 1 [(0, (.s 0))]⟩,
    ⟨.push, 34, (some ((.s 2), false)), .call 24 [(.s 0), (.c (.int .i64 (100)))]⟩,
    ⟨.push, 35, (some ((.s 3), false)), .un .not (.s 0)⟩,
    ⟨.push, 36, none, .pick (.s 4) (.c (.bool true)) (.s 0)⟩] (.s 0)
  (.seq (.region false [
      ⟨.push, 37, none, .build [.int .i64 (0), .int .i64 (0)] []⟩,
      ⟨.no, 0, none, .store 2 (.v 1) (.s 0)⟩,
      ⟨.var 2, 3, none, .mov (.c (.bool false))⟩])
   (.ret))
  (.skip))
 (.seq (.region false [
    ⟨.push, 38, none, .load true 2 (.v 6)⟩,
    ⟨.no, 0, none, .store 2 (.v 1) (.s 0)⟩,
    ⟨.var 2, 3, none, .mov (.c (.bool true))⟩])
 (.ret))))))), [.cell true 2 1, .t 2]⟩
noncomputable def t_spec_ReadFault : List (Nat × Ctr) := [(20, c_spec_l01Split), (21, c_spec_l01Number), (23, c_spec_l26Names), (22, c_spec_l25Find), (24, c_spec_l26Faults)]
theorem lk_spec_ReadFault_20 : look t_spec_ReadFault 20 = some c_spec_l01Split := rfl
theorem lk_spec_ReadFault_21 : look t_spec_ReadFault 21 = some c_spec_l01Number := rfl
theorem lk_spec_ReadFault_23 : look t_spec_ReadFault 23 = some c_spec_l26Names := rfl
theorem lk_spec_ReadFault_22 : look t_spec_ReadFault 22 = some c_spec_l25Find := rfl
theorem lk_spec_ReadFault_24 : look t_spec_ReadFault 24 = some c_spec_l26Faults := rfl
noncomputable def c_spec_ReadFault : Ctr := mkN t_spec_ReadFault ir6 [.bor]
theorem s_spec_ReadFault : Sound Tryd.prog 6 c_spec_ReadFault := mkN_sound _ (snd_cons s_spec_l01Split (snd_cons s_spec_l01Number (snd_cons s_spec_l26Names (snd_cons s_spec_l25Find (snd_cons s_spec_l26Faults snd_nil))))) (by kernel_rfl : chkFn Tryd.prog 6 ir6 ir6_v = true)
theorem M_spec_ReadFault : c_spec_ReadFault.modes = [.bor] := rfl
theorem Fl_spec_ReadFault : c_spec_ReadFault.flat = false := rfl
attribute [go_sem] M_spec_ReadFault Fl_spec_ReadFault
attribute [go_sem] lk_spec_ReadFault_20 lk_spec_ReadFault_21 lk_spec_ReadFault_23 lk_spec_ReadFault_22 lk_spec_ReadFault_24
theorem Fs_spec_ReadFault {s_ : List UInt8} {y_ : Fault × Bool} (h : spec_ReadFault s_ = some y_) : c_spec_ReadFault.F [.str s_] = ⟨true, .tup [Fault_av y_.1, .bool y_.2], [.any]⟩ := by
  refine mkN_E ?_
  dsimp only [spec_ReadFault] at h
  obtain ⟨y_1, hk1, h⟩ := bd_some h
  have fhk1 := Fs_spec_l01Split hk1
  try simp only [go_sem] at fhk1
  rcases it_some h with ⟨hk2, h⟩ | ⟨hk2, h⟩
  · try simp only [go_sem, n1, n2, n3, n4] at hk2
    all_goals
    obtain rfl := so_some h
    refine ⟨0, fun L hL => ?_⟩
    simp only [go_sem, ir6, fhk1, hk2]
  · try simp only [go_sem, n1, n2, n3, n4] at hk2
    all_goals
    obtain ⟨hk3, h⟩ := ck_some h
    have lhk3 := ix_lt hk3
    have xhk3 := getD_mapD AV.str y_1 lhk3
    try simp only [go_sem] at lhk3
    try simp only [go_sem] at xhk3
    try simp only [go_sem, n1, n2, n3, n4, hk2] at hk3
    all_goals
    obtain ⟨y_4, hk4, h⟩ := bd_some h
    have fhk4 := Fs_spec_l01Number hk4
    try simp only [go_sem, hk2, hk3] at fhk4
    obtain ⟨y_5, hk5, h⟩ := bd_some h
    have fhk5 := Fs_spec_l26Names hk5
    try simp only [go_sem, hk2, hk3] at fhk5
    obtain ⟨hk6, h⟩ := ck_some h
    have lhk6 := ix_lt hk6
    have xhk6 := getD_mapD AV.str y_1 lhk6
    try simp only [go_sem] at lhk6
    try simp only [go_sem] at xhk6
    try simp only [go_sem, n1, n2, n3, n4, hk2, hk3] at hk6
    all_goals
    obtain ⟨y_7, hk7, h⟩ := bd_some h
    have fhk7 := Fs_spec_l25Find hk7
    try simp only [go_sem, hk2, hk3, hk6] at fhk7
    obtain ⟨hk8, h⟩ := ck_some h
    rcases or_split hk8 with ⟨ghk8, hk8⟩ | ghk8
    · try simp only [go_sem, n1, n2, n3, n4, hk2, hk3, hk6] at ghk8
      all_goals
      obtain ⟨y_8, hhk8⟩ := Option.isSome_iff_exists.1 hk8
      have fhk8 := Fs_spec_l26Faults hhk8
      try simp only [go_sem, hk2, hk3, hk6, ghk8] at fhk8
      rcases it_some h with ⟨hk9, h⟩ | ⟨hk9, h⟩
      · try simp only [go_sem, n1, n2, n3, n4, hk2, hk3, hk6, ghk8, hhk8] at hk9
        all_goals
        obtain rfl := so_some h
        refine ⟨0, fun L hL => ?_⟩
        simp only [go_sem, ir6, fhk1, hk2, hk3, lhk3, xhk3, fhk4, fhk5, hk6, lhk6, xhk6, fhk7, ghk8, hhk8, fhk8, hk9]
      · try simp only [go_sem, n1, n2, n3, n4, hk2, hk3, hk6, ghk8, hhk8] at hk9
        all_goals
        obtain rfl := so_some h
        refine ⟨0, fun L hL => ?_⟩
        simp only [go_sem, ir6, fhk1, hk2, hk3, lhk3, xhk3, fhk4, fhk5, hk6, lhk6, xhk6, fhk7, ghk8, hhk8, fhk8, hk9]
    · have ghk8n := no_f ghk8
      have ghk8nn := no_t ghk8n
      try simp only [go_sem, n1, n2, n3, n4, hk2, hk3, hk6] at ghk8nn
      all_goals
      rcases it_some h with ⟨hk9, h⟩ | ⟨hk9, h⟩
      · try simp only [go_sem, n1, n2, n3, n4, hk2, hk3, hk6, ghk8nn] at hk9
        all_goals
        obtain rfl := so_some h
        refine ⟨0, fun L hL => ?_⟩
        simp only [go_sem, ir6, fhk1, hk2, hk3, lhk3, xhk3, fhk4, fhk5, hk6, lhk6, xhk6, fhk7, ghk8nn, hk9]
      · try simp only [go_sem, n1, n2, n3, n4, hk2, hk3, hk6, ghk8nn] at hk9
        all_goals
        obtain rfl := so_some h
        refine ⟨0, fun L hL => ?_⟩
        simp only [go_sem, ir6, fhk1, hk2, hk3, lhk3, xhk3, fhk4, fhk5, hk6, lhk6, xhk6, fhk7, ghk8nn, hk9]


theorem s_hCut : Sound Tryd.prog 25 c_hCut := hCut_is

theorem s_hRdDec : Sound Tryd.prog 26 c_hRdDec := hRdDec_is

def ir28_v : List Nat := [0]
def ir28 : AFn := ⟨0, 1, .seq (.region false [
    ⟨.var 0, 0, none, .newnil 1⟩])
 (.seq (.region false [
    ⟨.push, 1, none, .mkSl 1 (.str []) 5 [(0, (.c (.str [115, 116, 97, 114]))), (1, (.c (.str [111, 98, 115, 101, 114, 118, 101, 114]))), (2, (.c (.str [98, 114, 105, 103, 104, 116]))), (3, (.c (.str [102, 97, 105, 110, 116]))), (4, (.c (.str [116, 119, 105, 110])))]⟩,
    ⟨.var 0, 0, none, .mov (.s 0)⟩])
 (.ret)), [.t 0]⟩
noncomputable def t_impl_faultNames : List (Nat × Ctr) := []
noncomputable def c_impl_faultNames : Ctr := mkF t_impl_faultNames ir28 []
theorem s_impl_faultNames : Sound Tryd.prog 28 c_impl_faultNames := mkF_sound _ rfl snd_nil (by kernel_rfl : chkFn Tryd.prog 28 ir28 ir28_v = true)
theorem M_impl_faultNames : c_impl_faultNames.modes = [] := rfl
theorem Fl_impl_faultNames : c_impl_faultNames.flat = true := rfl
attribute [go_sem] M_impl_faultNames Fl_impl_faultNames
theorem Fs_impl_faultNames  {y_ : (List (List UInt8))} (h : impl_faultNames = some y_) : c_impl_faultNames.F [] = ⟨true, .fresh 1 (List.map AV.str y_), []⟩ := by
  refine mkF_E (by simp only [flatA, flatB, flat1, List.all_cons, List.all_nil, Bool.and_self, flatE_map (f := AV.str) (fun _ => rfl)]) ?_
  dsimp only [impl_faultNames] at h
  obtain rfl := so_some h
  refine ⟨0, fun L hL => ?_⟩
  simp only [go_sem, ir28]


def ir27_b0 : IR := .seq (.region false [
    ⟨.var 6, 9, none, .bin false .lss (.v 5) (.v 4)⟩])
 (.seq (.cond (.v 6) (.skip)
  (.exit 0))
 (.seq (.block 1 (.seq (.region false [
      ⟨.push, 10, none, .mov (.v 5)⟩,
      ⟨.var 3, 5, none, .mov (.s 0)⟩])
   (.test false [
     ⟨.push, 11, none, .mov (.v 1)⟩,
     ⟨.push, 12, none, .mov (.v 0)⟩,
     ⟨.push, 13, none, .mov (.v 3)⟩,
     ⟨.push, 14, none, .ixAddr 1 (.s 1) (.s 0)⟩,
     ⟨.push, 15, none, .load false 1 (.s 0)⟩,
     ⟨.push, 16, none, .bin false .eql (.s 4) (.s 0)⟩] (.s 0)
   (.seq (.region false [
       ⟨.push, 17, none, .mov (.v 3)⟩,
       ⟨.var 2, 4, none, .mov (.s 0)⟩])
    (.ret))
   (.skip))))
 (.region false [
   ⟨.push, 18, none, .bin false .add (.v 5) (.c (.int .i64 (1)))⟩,
   ⟨.var 5, 8, none, .mov (.s 0)⟩])))
def ir27_k0 : List Bool := [true, true, false, false, true, true, false]
def ir27_o0 : List Bool := [false, false, false, false, false, false, false]
def ir27_r0 : List Bool := [false, false, true, false, false, false, false]
def ir27_v : List Nat := [0, 1, 4, 5, 7, 8, 9]
def ir27 : AFn := ⟨2, 7, .seq (.region false [
    ⟨.var 2, 4, none, .mov (.c (.int .i64 (0)))⟩])
 (.seq (.seq (.region false [
     ⟨.push, 6, none, .mov (.v 0)⟩,
     ⟨.var 4, 7, none, .len false (.s 0)⟩,
     ⟨.var 5, 8, none, .mov (.c (.int .i64 (0)))⟩])
  (.block 0 (.loop ir27_k0 ir27_o0 ir27_r0 ir27_b0)))
 (.seq (.region false [
    ⟨.var 2, 4, none, .mov (.c (.int .i64 (-1)))⟩])
 (.ret))), [.t 2]⟩
noncomputable def t_slices_Index_string_string : List (Nat × Ctr) := []
noncomputable def c_slices_Index_string_string : Ctr := mkF t_slices_Index_string_string ir27 [.bor, .bor]
theorem s_slices_Index_string_string : Sound Tryd.prog 27 c_slices_Index_string_string := mkF_sound _ rfl snd_nil (by kernel_rfl : chkFn Tryd.prog 27 ir27 ir27_v = true)
theorem M_slices_Index_string_string : c_slices_Index_string_string.modes = [.bor, .bor] := rfl
theorem Fl_slices_Index_string_string : c_slices_Index_string_string.flat = true := rfl
attribute [go_sem] M_slices_Index_string_string Fl_slices_Index_string_string
def E_slices_Index_string_string_l1 (s_ : List (List UInt8)) (v : List UInt8) (t7 : Int) : Int → St
  | t8 => ⟨[.sl 1 (List.map AV.str s_), .str v, .any, .any, .int .i64 t7, .int .i64 t8, .any], [], [], true⟩
def R_slices_Index_string_string_l1 (s_ : List (List UInt8)) (v : List UInt8) (t7 : Int) : (Unit ⊕ Int) → Res
  | .inl y => (.exit 0, ⟨[.any, .any, .any, .any, .any, .any, .any], [], [], true⟩)
  | .inr y => (.ret, ⟨[.any, .any, .int .i64 y, .any, .any, .any, .any], [], [], true⟩)
theorem slices_Index_string_string_l1_ex {s_ : List (List UInt8)} {v : List UInt8} {t7 : Int} {sgm_ : Int} {rho_ : Unit ⊕ Int} (h : whileE (slices_Index_string_string_l1 s_ v t7) sgm_ = some rho_) : ∃ L0, ∀ L, L0 ≤ L → iter (exec (look t_slices_Index_string_string) L ir27_b0) ir27_k0 ir27_o0 ir27_r0 L (E_slices_Index_string_string_l1 s_ v t7 sgm_) = R_slices_Index_string_string_l1 s_ v t7 rho_ := by
  refine loop_ex (E := E_slices_Index_string_string_l1 s_ v t7) (R := R_slices_Index_string_string_l1 s_ v t7) (fun y => by first | (intro c; cases c) | (rcases y with y | y <;> (intro c; cases c)) | (rcases y with y | y | y <;> (intro c; cases c))) ?_ h
  clear h
  intro t8 o_ h
  dsimp only [slices_Index_string_string_l1] at h
  rcases it_some h with ⟨hk1, h⟩ | ⟨hk1, h⟩
  · try simp only [go_sem, n1, n2, n3, n4] at hk1
    all_goals
    obtain ⟨hk2, h⟩ := ck_some h
    have lhk2 := ix_lt hk2
    have xhk2 := getD_mapD AV.str s_ lhk2
    try simp only [go_sem] at lhk2
    try simp only [go_sem] at xhk2
    try simp only [go_sem, n1, n2, n3, n4, hk1] at hk2
    all_goals
    rcases it_some h with ⟨hk3, h⟩ | ⟨hk3, h⟩
    · try simp only [go_sem, n1, n2, n3, n4, hk1, hk2] at hk3
      all_goals
      obtain rfl := so_some h
      refine ⟨0, fun L hL => ?_⟩
      simp only [go_sem, ir27, E_slices_Index_string_string_l1, R_slices_Index_string_string_l1, ir27_b0, ir27_k0, ir27_o0, ir27_r0, hk1, hk2, lhk2, xhk2, hk3]
    · try simp only [go_sem, n1, n2, n3, n4, hk1, hk2] at hk3
      all_goals
      obtain rfl := so_some h
      refine ⟨0, fun L hL => ?_⟩
      simp only [go_sem, ir27, E_slices_Index_string_string_l1, R_slices_Index_string_string_l1, ir27_b0, ir27_k0, ir27_o0, ir27_r0, hk1, hk2, lhk2, xhk2, hk3]
  · try simp only [go_sem, n1, n2, n3, n4] at hk1
    all_goals
    obtain rfl := so_some h
    refine ⟨0, fun L hL => ?_⟩
    simp only [go_sem, ir27, E_slices_Index_string_string_l1, R_slices_Index_string_string_l1, ir27_b0, ir27_k0, ir27_o0, ir27_r0, hk1]

theorem Fs_slices_Index_string_string {s_ : List (List UInt8)} {v : List UInt8} {y_ : Int} (h : slices_Index_string_string s_ v = some y_) : c_slices_Index_string_string.F [.sl 1 (List.map AV.str s_), .str v] = ⟨true, .int .i64 y_, [.any, .any]⟩ := by
  refine mkF_E rfl ?_
  dsimp only [slices_Index_string_string] at h
  obtain ⟨y_4, hk4, h⟩ := bd_some h
  obtain ⟨Lhk4, ehk4⟩ := slices_Index_string_string_l1_ex hk4
  rcases y_4 with y_4a | y_4b
  · dsimp only at h
    obtain rfl := so_some h
    refine ⟨Lhk4, fun L hL => ?_⟩
    have ehk4 := ehk4 L (by omega)
    try simp only [go_sem, E_slices_Index_string_string_l1, R_slices_Index_string_string_l1, ir27_k0, ir27_o0, ir27_r0] at ehk4
    simp only [go_sem, ir27, E_slices_Index_string_string_l1, R_slices_Index_string_string_l1, ir27_k0, ir27_o0, ir27_r0, ehk4]
  · dsimp only at h
    obtain rfl := so_some h
    refine ⟨Lhk4, fun L hL => ?_⟩
    have ehk4 := ehk4 L (by omega)
    try simp only [go_sem, E_slices_Index_string_string_l1, R_slices_Index_string_string_l1, ir27_k0, ir27_o0, ir27_r0] at ehk4
    simp only [go_sem, ir27, E_slices_Index_string_string_l1, R_slices_Index_string_string_l1, ir27_k0, ir27_o0, ir27_r0, ehk4]


theorem s_hFmt : Sound Tryd.prog 84 c_hFmt := hFmt_is

def ir67_v : List Nat := [0, 1, 4]
def ir67 : AFn := ⟨2, 3, .seq (.region false [
    ⟨.var 2, 4, none, .mov (.c (.str []))⟩])
 (.seq (.region false [
    ⟨.push, 5, none, .mov (.v 0)⟩,
    ⟨.push, 6, none, .mov (.v 1)⟩,
    ⟨.push, 7, none, .call 84 [(.s 1), (.s 0)]⟩,
    ⟨.var 2, 4, none, .mov (.s 0)⟩])
 (.ret)), [.t 2]⟩
noncomputable def t_strconv_FormatInt : List (Nat × Ctr) := [(84, c_hFmt)]
theorem lk_strconv_FormatInt_84 : look t_strconv_FormatInt 84 = some c_hFmt := rfl
noncomputable def c_strconv_FormatInt : Ctr := mkF t_strconv_FormatInt ir67 [.bor, .bor]
theorem s_strconv_FormatInt : Sound Tryd.prog 67 c_strconv_FormatInt := mkF_sound _ rfl (snd_cons s_hFmt snd_nil) (by kernel_rfl : chkFn Tryd.prog 67 ir67 ir67_v = true)
theorem M_strconv_FormatInt : c_strconv_FormatInt.modes = [.bor, .bor] := rfl
theorem Fl_strconv_FormatInt : c_strconv_FormatInt.flat = true := rfl
attribute [go_sem] M_strconv_FormatInt Fl_strconv_FormatInt
attribute [go_sem] lk_strconv_FormatInt_84
theorem Fs_strconv_FormatInt {i : Int} {base : Int} {y_ : (List UInt8)} (h : strconv_FormatInt i base = some y_) : c_strconv_FormatInt.F [.int .i64 i, .int .i64 base] = ⟨true, .str y_, [.any, .any]⟩ := by
  refine mkF_E rfl ?_
  dsimp only [strconv_FormatInt] at h
  obtain ⟨y_1, hk1, h⟩ := bd_some h
  have fhk1 := Fs_hFmt hk1
  try simp only [go_sem] at fhk1
  obtain rfl := so_some h
  refine ⟨0, fun L hL => ?_⟩
  simp only [go_sem, ir67, fhk1]


def ir51_v : List Nat := [0, 2]
def ir51 : AFn := ⟨1, 2, .seq (.region false [
    ⟨.var 1, 2, none, .mov (.c (.str []))⟩])
 (.seq (.region false [
    ⟨.push, 3, none, .mov (.v 0)⟩,
    ⟨.push, 4, none, .call 67 [(.s 0), (.c (.int .i64 (10)))]⟩,
    ⟨.var 1, 2, none, .mov (.s 0)⟩])
 (.ret)), [.t 1]⟩
noncomputable def t_impl_Decimal : List (Nat × Ctr) := [(67, c_strconv_FormatInt)]
theorem lk_impl_Decimal_67 : look t_impl_Decimal 67 = some c_strconv_FormatInt := rfl
noncomputable def c_impl_Decimal : Ctr := mkF t_impl_Decimal ir51 [.bor]
theorem s_impl_Decimal : Sound Tryd.prog 51 c_impl_Decimal := mkF_sound _ rfl (snd_cons s_strconv_FormatInt snd_nil) (by kernel_rfl : chkFn Tryd.prog 51 ir51 ir51_v = true)
theorem M_impl_Decimal : c_impl_Decimal.modes = [.bor] := rfl
theorem Fl_impl_Decimal : c_impl_Decimal.flat = true := rfl
attribute [go_sem] M_impl_Decimal Fl_impl_Decimal
attribute [go_sem] lk_impl_Decimal_67
theorem Fs_impl_Decimal {n : Int} {y_ : (List UInt8)} (h : impl_Decimal n = some y_) : c_impl_Decimal.F [.int .i64 n] = ⟨true, .str y_, [.any]⟩ := by
  refine mkF_E rfl ?_
  dsimp only [impl_Decimal] at h
  obtain ⟨y_1, hk1, h⟩ := bd_some h
  have fhk1 := Fs_strconv_FormatInt hk1
  try simp only [go_sem] at fhk1
  obtain rfl := so_some h
  refine ⟨0, fun L hL => ?_⟩
  simp only [go_sem, ir51, fhk1]


def ir37_v : List Nat := [0, 1, 2, 6]
def ir37 : AFn := ⟨3, 4, .seq (.region false [
    ⟨.var 3, 6, none, .mov (.c (.bool false))⟩])
 (.seq (.region false [
    ⟨.push, 7, none, .mov (.v 0)⟩,
    ⟨.push, 8, none, .mov (.v 1)⟩,
    ⟨.push, 9, none, .bin false .geq (.s 1) (.s 0)⟩,
    ⟨.push, 10, none, .mov (.s 0)⟩,
    ⟨.push, 11, (some ((.s 0), true)), .mov (.v 0)⟩,
    ⟨.push, 12, (some ((.s 1), true)), .mov (.v 2)⟩,
    ⟨.push, 13, (some ((.s 2), true)), .bin false .leq (.s 1) (.s 0)⟩,
    ⟨.push, 14, none, .pick (.s 3) (.s 0) (.c (.bool false))⟩,
    ⟨.var 3, 6, none, .mov (.s 0)⟩])
 (.ret)), [.t 3]⟩
noncomputable def t_impl_in : List (Nat × Ctr) := []
noncomputable def c_impl_in : Ctr := mkF t_impl_in ir37 [.bor, .bor, .bor]
theorem s_impl_in : Sound Tryd.prog 37 c_impl_in := mkF_sound _ rfl snd_nil (by kernel_rfl : chkFn Tryd.prog 37 ir37 ir37_v = true)
theorem M_impl_in : c_impl_in.modes = [.bor, .bor, .bor] := rfl
theorem Fl_impl_in : c_impl_in.flat = true := rfl
attribute [go_sem] M_impl_in Fl_impl_in
theorem Fs_impl_in {n : Int} {low : Int} {high : Int} {y_ : Bool} (h : impl_in n low high = some y_) : c_impl_in.F [.int .i64 n, .int .i64 low, .int .i64 high] = ⟨true, .bool y_, [.any, .any, .any]⟩ := by
  refine mkF_E rfl ?_
  dsimp only [impl_in] at h
  obtain rfl := so_some h
  refine ⟨0, fun L hL => ?_⟩
  simp only [go_sem, ir37]


def ir53_v : List Nat := [0, 2]
def ir53 : AFn := ⟨1, 2, .seq (.region false [
    ⟨.var 1, 2, none, .mov (.c (.str []))⟩])
 (.seq (.test false [
    ⟨.push, 3, none, .mov (.v 0)⟩,
    ⟨.push, 4, none, .call 37 [(.s 0), (.c (.int .i64 (1))), (.c (.int .i64 (5)))]⟩,
    ⟨.push, 5, none, .un .not (.s 0)⟩] (.s 0)
  (.seq (.region false [
      ⟨.var 1, 2, none, .mov (.c (.str []))⟩])
   (.ret))
  (.skip))
 (.seq (.region false [
    ⟨.push, 6, none, .call 28 []⟩,
    ⟨.push, 7, none, .mov (.v 0)⟩,
    ⟨.push, 8, none, .bin false .sub (.s 0) (.c (.int .i64 (1)))⟩,
    ⟨.push, 9, none, .ixAddr 1 (.s 2) (.s 0)⟩,
    ⟨.push, 10, none, .load false 1 (.s 0)⟩,
    ⟨.var 1, 2, none, .mov (.s 0)⟩])
 (.ret))), [.t 1]⟩
noncomputable def t_impl_FaultName : List (Nat × Ctr) := [(37, c_impl_in), (28, c_impl_faultNames)]
theorem lk_impl_FaultName_37 : look t_impl_FaultName 37 = some c_impl_in := rfl
theorem lk_impl_FaultName_28 : look t_impl_FaultName 28 = some c_impl_faultNames := rfl
noncomputable def c_impl_FaultName : Ctr := mkF t_impl_FaultName ir53 [.bor]
theorem s_impl_FaultName : Sound Tryd.prog 53 c_impl_FaultName := mkF_sound _ rfl (snd_cons s_impl_in (snd_cons s_impl_faultNames snd_nil)) (by kernel_rfl : chkFn Tryd.prog 53 ir53 ir53_v = true)
theorem M_impl_FaultName : c_impl_FaultName.modes = [.bor] := rfl
theorem Fl_impl_FaultName : c_impl_FaultName.flat = true := rfl
attribute [go_sem] M_impl_FaultName Fl_impl_FaultName
attribute [go_sem] lk_impl_FaultName_37 lk_impl_FaultName_28
theorem Fs_impl_FaultName {kind : Int} {y_ : (List UInt8)} (h : impl_FaultName kind = some y_) : c_impl_FaultName.F [.int .i64 kind] = ⟨true, .str y_, [.any]⟩ := by
  refine mkF_E rfl ?_
  dsimp only [impl_FaultName] at h
  obtain ⟨y_1, hk1, h⟩ := bd_some h
  have fhk1 := Fs_impl_in hk1
  try simp only [go_sem] at fhk1
  rcases it_some h with ⟨hk2, h⟩ | ⟨hk2, h⟩
  · try simp only [go_sem, n1, n2, n3, n4] at hk2
    all_goals
    obtain rfl := so_some h
    refine ⟨0, fun L hL => ?_⟩
    simp only [go_sem, ir53, fhk1, hk2]
  · try simp only [go_sem, n1, n2, n3, n4] at hk2
    all_goals
    obtain ⟨y_3, hk3, h⟩ := bd_some h
    have fhk3 := Fs_impl_faultNames hk3
    try simp only [go_sem, hk2] at fhk3
    obtain ⟨hk4, h⟩ := ck_some h
    have lhk4 := ix_lt hk4
    have xhk4 := getD_mapD AV.str y_3 lhk4
    try simp only [go_sem] at lhk4
    try simp only [go_sem] at xhk4
    try simp only [go_sem, n1, n2, n3, n4, hk2] at hk4
    all_goals
    obtain rfl := so_some h
    refine ⟨0, fun L hL => ?_⟩
    simp only [go_sem, ir53, fhk1, hk2, fhk3, hk4, lhk4, xhk4]


def ir52_b0 : IR := .seq (.region false [
    ⟨.var 8, 10, none, .bin false .lss (.v 7) (.v 6)⟩])
 (.seq (.cond (.v 8) (.skip)
  (.exit 0))
 (.seq (.block 1 (.seq (.region false [
      ⟨.push, 11, none, .mov (.v 7)⟩,
      ⟨.push, 12, none, .ixAddr 2 (.v 5) (.v 7)⟩,
      ⟨.push, 13, none, .load true 2 (.s 0)⟩,
      ⟨.var 4, 6, none, .alloc (.agg [.int .i64 (0), .int .i64 (0)])⟩,
      ⟨.var 3, 5, none, .mov (.s 2)⟩,
      ⟨.no, 0, none, .store 2 (.v 4) (.s 0)⟩])
   (.seq (.test false [
      ⟨.push, 14, none, .fldAddr 0 (.v 4)⟩,
      ⟨.push, 15, none, .load false 1 (.s 0)⟩,
      ⟨.push, 16, none, .mov (.v 1)⟩,
      ⟨.push, 17, none, .bin false .sub (.s 0) (.c (.int .i64 (1)))⟩,
      ⟨.push, 18, none, .call 37 [(.s 2), (.c (.int .i64 (0))), (.s 0)]⟩,
      ⟨.push, 19, none, .un .not (.s 0)⟩,
      ⟨.push, 20, none, .mov (.s 0)⟩,
      ⟨.push, 21, (some ((.s 0), false)), .fldAddr 1 (.v 4)⟩,
      ⟨.push, 22, (some ((.s 1), false)), .load false 1 (.s 0)⟩,
      ⟨.push, 23, (some ((.s 2), false)), .call 37 [(.s 0), (.c (.int .i64 (1))), (.c (.int .i64 (5)))]⟩,
      ⟨.push, 24, (some ((.s 3), false)), .un .not (.s 0)⟩,
      ⟨.push, 25, none, .pick (.s 4) (.c (.bool true)) (.s 0)⟩] (.s 0)
    (.seq (.region false [
        ⟨.var 2, 4, none, .mov (.c (.bool false))⟩])
     (.ret))
    (.skip))
   (.anyo 35 [
     ⟨.slot 0, 26, none, .mov (.v 3)⟩,
     ⟨.slot 1, 27, none, .bin false .gtr (.s 0) (.c (.int .i64 (0)))⟩,
     ⟨.slot 2, 28, none, .mov (.s 1)⟩,
     ⟨.slot 3, 29, (some ((.s 2), true)), .mov (.v 0)⟩,
     ⟨.slot 4, 30, (some ((.s 2), true)), .mov (.v 3)⟩,
     ⟨.slot 5, 31, (some ((.s 2), true)), .bin false .sub (.s 4) (.c (.int .i64 (1)))⟩,
     ⟨.slot 6, 32, (some ((.s 2), true)), .ixAddr 2 (.s 3) (.s 5)⟩,
     ⟨.slot 7, 33, (some ((.s 2), true)), .fldAddr 0 (.s 6)⟩,
     ⟨.slot 8, 34, (some ((.s 2), true)), .load false 1 (.s 7)⟩,
     ⟨.slot 9, 35, (some ((.s 2), true)), .fldAddr 0 (.v 4)⟩,
     ⟨.slot 10, 36, (some ((.s 2), true)), .load false 1 (.s 9)⟩,
     ⟨.slot 11, 37, (some ((.s 2), true)), .bin false .gtr (.s 8) (.s 10)⟩,
     ⟨.slot 12, 38, (some ((.s 2), true)), .mov (.s 11)⟩,
     ⟨.slot 13, 39, (some ((.s 12), false)), .mov (.v 0)⟩,
     ⟨.slot 14, 40, (some ((.s 12), false)), .mov (.v 3)⟩,
     ⟨.slot 15, 41, (some ((.s 12), false)), .bin false .sub (.s 14) (.c (.int .i64 (1)))⟩,
     ⟨.slot 16, 42, (some ((.s 12), false)), .ixAddr 2 (.s 13) (.s 15)⟩,
     ⟨.slot 17, 43, (some ((.s 12), false)), .fldAddr 0 (.s 16)⟩,
     ⟨.slot 18, 44, (some ((.s 12), false)), .load false 1 (.s 17)⟩,
     ⟨.slot 19, 45, (some ((.s 12), false)), .fldAddr 0 (.v 4)⟩,
     ⟨.slot 20, 46, (some ((.s 12), false)), .load false 1 (.s 19)⟩,
     ⟨.slot 21, 47, (some ((.s 12), false)), .bin false .eql (.s 18) (.s 20)⟩,
     ⟨.slot 22, 48, (some ((.s 12), false)), .mov (.s 21)⟩,
     ⟨.slot 23, 49, (some ((.s 22), true)), .mov (.v 0)⟩,
     ⟨.slot 24, 50, (some ((.s 22), true)), .mov (.v 3)⟩,
     ⟨.slot 25, 51, (some ((.s 22), true)), .bin false .sub (.s 24) (.c (.int .i64 (1)))⟩,
     ⟨.slot 26, 52, (some ((.s 22), true)), .ixAddr 2 (.s 23) (.s 25)⟩,
     ⟨.slot 27, 53, (some ((.s 22), true)), .fldAddr 1 (.s 26)⟩,
     ⟨.slot 28, 54, (some ((.s 22), true)), .load false 1 (.s 27)⟩,
     ⟨.slot 29, 55, (some ((.s 22), true)), .fldAddr 1 (.v 4)⟩,
     ⟨.slot 30, 56, (some ((.s 22), true)), .load false 1 (.s 29)⟩,
     ⟨.slot 31, 57, (some ((.s 22), true)), .bin false .geq (.s 28) (.s 30)⟩,
     ⟨.slot 32, 58, (some ((.s 12), false)), .pick (.s 22) (.s 31) (.c (.bool false))⟩,
     ⟨.slot 33, 59, (some ((.s 2), true)), .pick (.s 12) (.c (.bool true)) (.s 32)⟩,
     ⟨.slot 34, 60, none, .pick (.s 2) (.s 33) (.c (.bool false))⟩] [] (.cond (.s 34)
   (.seq (.region false [
       ⟨.var 2, 4, none, .mov (.c (.bool false))⟩])
    (.ret))
   (.skip))))))
 (.region false [
   ⟨.push, 61, none, .bin false .add (.v 7) (.c (.int .i64 (1)))⟩,
   ⟨.var 7, 9, none, .mov (.s 0)⟩])))
def ir52_k0 : List Bool := [true, true, false, false, false, true, true, true, false]
def ir52_o0 : List Bool := [false, false, false, false, false, false, false, false, false]
def ir52_r0 : List Bool := [false, false, true, false, false, false, false, false, false]
def ir52_v : List Nat := [0, 1, 4, 5, 6, 7, 8, 9, 10]
def ir52 : AFn := ⟨2, 9, .seq (.region false [
    ⟨.var 2, 4, none, .mov (.c (.bool false))⟩])
 (.seq (.seq (.region false [
     ⟨.var 5, 7, none, .mov (.v 0)⟩,
     ⟨.var 6, 8, none, .len false (.v 5)⟩,
     ⟨.var 7, 9, none, .mov (.c (.int .i64 (0)))⟩])
  (.block 0 (.loop ir52_k0 ir52_o0 ir52_r0 ir52_b0)))
 (.seq (.region false [
    ⟨.var 2, 4, none, .mov (.c (.bool true))⟩])
 (.ret))), [.t 2]⟩
noncomputable def t_impl_ordered : List (Nat × Ctr) := [(37, c_impl_in)]
theorem lk_impl_ordered_37 : look t_impl_ordered 37 = some c_impl_in := rfl
noncomputable def c_impl_ordered : Ctr := mkF t_impl_ordered ir52 [.bor, .bor]
theorem s_impl_ordered : Sound Tryd.prog 52 c_impl_ordered := mkF_sound _ rfl (snd_cons s_impl_in snd_nil) (by kernel_rfl : chkFn Tryd.prog 52 ir52 ir52_v = true)
theorem M_impl_ordered : c_impl_ordered.modes = [.bor, .bor] := rfl
theorem Fl_impl_ordered : c_impl_ordered.flat = true := rfl
attribute [go_sem] M_impl_ordered Fl_impl_ordered
attribute [go_sem] lk_impl_ordered_37
def E_impl_ordered_l1 (faults : List Fault) (estimates : Int) (t7 : List Fault) (t8 : Int) : Int → St
  | t9 => ⟨[.sl 2 (List.map Fault_av faults), .int .i64 estimates, .any, .any, .any, .sl 2 (List.map Fault_av t7), .int .i64 t8, .int .i64 t9, .any], [], [], true⟩
def R_impl_ordered_l1 (faults : List Fault) (estimates : Int) (t7 : List Fault) (t8 : Int) : (Unit ⊕ Bool) → Res
  | .inl y => (.exit 0, ⟨[.any, .any, .any, .any, .any, .any, .any, .any, .any], [], [], true⟩)
  | .inr y => (.ret, ⟨[.any, .any, .bool y, .any, .any, .any, .any, .any, .any], [], [], true⟩)
theorem impl_ordered_l1_ex {faults : List Fault} {estimates : Int} {t7 : List Fault} {t8 : Int} {sgm_ : Int} {rho_ : Unit ⊕ Bool} (h : whileE (impl_ordered_l1 faults estimates t7 t8) sgm_ = some rho_) : ∃ L0, ∀ L, L0 ≤ L → iter (exec (look t_impl_ordered) L ir52_b0) ir52_k0 ir52_o0 ir52_r0 L (E_impl_ordered_l1 faults estimates t7 t8 sgm_) = R_impl_ordered_l1 faults estimates t7 t8 rho_ := by
  refine loop_ex (E := E_impl_ordered_l1 faults estimates t7 t8) (R := R_impl_ordered_l1 faults estimates t7 t8) (fun y => by first | (intro c; cases c) | (rcases y with y | y <;> (intro c; cases c)) | (rcases y with y | y | y <;> (intro c; cases c))) ?_ h
  clear h
  intro t9 o_ h
  dsimp only [impl_ordered_l1] at h
  rcases it_some h with ⟨hk1, h⟩ | ⟨hk1, h⟩
  · try simp only [go_sem, n1, n2, n3, n4] at hk1
    all_goals
    obtain ⟨hk2, h⟩ := ck_some h
    have lhk2 := ix_lt hk2
    have xhk2 := getD_mapD Fault_av t7 lhk2
    try simp only [go_sem] at lhk2
    try simp only [go_sem] at xhk2
    try simp only [go_sem, n1, n2, n3, n4, hk1] at hk2
    all_goals
    obtain ⟨y_3, hk3, h⟩ := bd_some h
    have fhk3 := Fs_impl_in hk3
    try simp only [go_sem, hk1, hk2] at fhk3
    obtain ⟨hk4, h⟩ := ck_some h
    rcases or_split hk4 with ⟨ghk4, hk4⟩ | ghk4
    · try simp only [go_sem, n1, n2, n3, n4, hk1, hk2] at ghk4
      all_goals
      obtain ⟨y_4, hhk4⟩ := Option.isSome_iff_exists.1 hk4
      have fhk4 := Fs_impl_in hhk4
      try simp only [go_sem, hk1, hk2, ghk4] at fhk4
      rcases it_some h with ⟨hk5, h⟩ | ⟨hk5, h⟩
      · try simp only [go_sem, n1, n2, n3, n4, hk1, hk2, ghk4, hhk4] at hk5
        all_goals
        obtain rfl := so_some h
        refine ⟨0, fun L hL => ?_⟩
        simp only [go_sem, ir52, E_impl_ordered_l1, R_impl_ordered_l1, ir52_b0, ir52_k0, ir52_o0, ir52_r0, hk1, hk2, lhk2, xhk2, fhk3, ghk4, hhk4, fhk4, hk5]
      · try simp only [go_sem, n1, n2, n3, n4, hk1, hk2, ghk4, hhk4] at hk5
        all_goals
        obtain ⟨hk6, h⟩ := ck_some h
        rcases or_split hk6 with ⟨ghk6, hk6⟩ | ghk6
        · try simp only [go_sem, n1, n2, n3, n4, hk1, hk2, ghk4, hhk4, hk5] at ghk6
          all_goals
          have lhk6 := ix_lt hk6
          have xhk6 := getD_mapD Fault_av faults lhk6
          try simp only [go_sem] at lhk6
          try simp only [go_sem] at xhk6
          try simp only [go_sem, n1, n2, n3, n4, hk1, hk2, ghk4, hhk4, hk5, ghk6] at hk6
          all_goals
          obtain ⟨hk7, h⟩ := ck_some h
          rcases or_split hk7 with ⟨ghk7, hk7⟩ | ghk7
          · try simp only [go_sem, n1, n2, n3, n4, hk1, hk2, ghk4, hhk4, hk5, ghk6, hk6] at ghk7
            all_goals
            have lhk7 := ix_lt hk7
            have xhk7 := getD_mapD Fault_av faults lhk7
            try simp only [go_sem] at lhk7
            try simp only [go_sem] at xhk7
            try simp only [go_sem, n1, n2, n3, n4, hk1, hk2, ghk4, hhk4, hk5, ghk6, hk6, ghk7] at hk7
            all_goals
            obtain ⟨hk8, h⟩ := ck_some h
            rcases or_split hk8 with ⟨ghk8, hk8⟩ | ghk8
            · try simp only [go_sem, n1, n2, n3, n4, hk1, hk2, ghk4, hhk4, hk5, ghk6, hk6, ghk7, hk7] at ghk8
              all_goals
              have lhk8 := ix_lt hk8
              have xhk8 := getD_mapD Fault_av faults lhk8
              try simp only [go_sem] at lhk8
              try simp only [go_sem] at xhk8
              try simp only [go_sem, n1, n2, n3, n4, hk1, hk2, ghk4, hhk4, hk5, ghk6, hk6, ghk7, hk7, ghk8] at hk8
              all_goals
              rcases it_some h with ⟨hk9, h⟩ | ⟨hk9, h⟩
              · try simp only [go_sem, n1, n2, n3, n4, hk1, hk2, ghk4, hhk4, hk5, ghk6, hk6, ghk7, hk7, ghk8, hk8] at hk9
                all_goals
                obtain rfl := so_some h
                refine ⟨0, fun L hL => ?_⟩
                simp only [go_sem, ir52, E_impl_ordered_l1, R_impl_ordered_l1, ir52_b0, ir52_k0, ir52_o0, ir52_r0, hk1, hk2, lhk2, xhk2, fhk3, ghk4, hhk4, fhk4, hk5, ghk6, hk6, lhk6, xhk6, ghk7, hk7, lhk7, xhk7, ghk8, hk8, lhk8, xhk8, hk9]
              · try simp only [go_sem, n1, n2, n3, n4, hk1, hk2, ghk4, hhk4, hk5, ghk6, hk6, ghk7, hk7, ghk8, hk8] at hk9
                all_goals
                obtain rfl := so_some h
                refine ⟨0, fun L hL => ?_⟩
                simp only [go_sem, ir52, E_impl_ordered_l1, R_impl_ordered_l1, ir52_b0, ir52_k0, ir52_o0, ir52_r0, hk1, hk2, lhk2, xhk2, fhk3, ghk4, hhk4, fhk4, hk5, ghk6, hk6, lhk6, xhk6, ghk7, hk7, lhk7, xhk7, ghk8, hk8, lhk8, xhk8, hk9]
            · rcases and_f ghk8 with ghk8a | ⟨ghk8a, ghk8b⟩
              · rcases and_f ghk8a with ghk8aa | ⟨ghk8aa, ghk8ab⟩
                · try simp only [go_sem, n1, n2, n3, n4, hk1, hk2, ghk4, hhk4, hk5, ghk6, hk6, ghk7, hk7] at ghk8aa
                  all_goals
                  rcases it_some h with ⟨hk9, h⟩ | ⟨hk9, h⟩
                  · try simp only [go_sem, n1, n2, n3, n4, hk1, hk2, ghk4, hhk4, hk5, ghk6, hk6, ghk7, hk7, ghk8aa] at hk9
                    all_goals
                    obtain rfl := so_some h
                    refine ⟨0, fun L hL => ?_⟩
                    simp only [go_sem, ir52, E_impl_ordered_l1, R_impl_ordered_l1, ir52_b0, ir52_k0, ir52_o0, ir52_r0, hk1, hk2, lhk2, xhk2, fhk3, ghk4, hhk4, fhk4, hk5, ghk6, hk6, lhk6, xhk6, ghk7, hk7, lhk7, xhk7, ghk8aa, hk9]
                  · try simp only [go_sem, n1, n2, n3, n4, hk1, hk2, ghk4, hhk4, hk5, ghk6, hk6, ghk7, hk7, ghk8aa] at hk9
                    all_goals
                    obtain rfl := so_some h
                    refine ⟨0, fun L hL => ?_⟩
                    simp only [go_sem, ir52, E_impl_ordered_l1, R_impl_ordered_l1, ir52_b0, ir52_k0, ir52_o0, ir52_r0, hk1, hk2, lhk2, xhk2, fhk3, ghk4, hhk4, fhk4, hk5, ghk6, hk6, lhk6, xhk6, ghk7, hk7, lhk7, xhk7, ghk8aa, hk9]
                · have ghk8abn := no_f ghk8ab
                  try simp only [go_sem, n1, n2, n3, n4, hk1, hk2, ghk4, hhk4, hk5, ghk6, hk6, ghk7, hk7] at ghk8aa
                  all_goals
                  try simp only [go_sem, n1, n2, n3, n4, hk1, hk2, ghk4, hhk4, hk5, ghk6, hk6, ghk7, hk7, ghk8aa] at ghk8abn
                  all_goals
                  rcases it_some h with ⟨hk9, h⟩ | ⟨hk9, h⟩
                  · try simp only [go_sem, n1, n2, n3, n4, hk1, hk2, ghk4, hhk4, hk5, ghk6, hk6, ghk7, hk7, ghk8aa, ghk8abn] at hk9
                    all_goals
                    obtain rfl := so_some h
                    refine ⟨0, fun L hL => ?_⟩
                    simp only [go_sem, ir52, E_impl_ordered_l1, R_impl_ordered_l1, ir52_b0, ir52_k0, ir52_o0, ir52_r0, hk1, hk2, lhk2, xhk2, fhk3, ghk4, hhk4, fhk4, hk5, ghk6, hk6, lhk6, xhk6, ghk7, hk7, lhk7, xhk7, ghk8aa, ghk8abn, hk9]
                  · try simp only [go_sem, n1, n2, n3, n4, hk1, hk2, ghk4, hhk4, hk5, ghk6, hk6, ghk7, hk7, ghk8aa, ghk8abn] at hk9
                    all_goals
                    obtain rfl := so_some h
                    refine ⟨0, fun L hL => ?_⟩
                    simp only [go_sem, ir52, E_impl_ordered_l1, R_impl_ordered_l1, ir52_b0, ir52_k0, ir52_o0, ir52_r0, hk1, hk2, lhk2, xhk2, fhk3, ghk4, hhk4, fhk4, hk5, ghk6, hk6, lhk6, xhk6, ghk7, hk7, lhk7, xhk7, ghk8aa, ghk8abn, hk9]
              · obtain ⟨ghk8aa, ghk8ab⟩ := and_t ghk8a
                have ghk8abn := no_t ghk8ab
                try simp only [go_sem, n1, n2, n3, n4, hk1, hk2, ghk4, hhk4, hk5, ghk6, hk6, ghk7, hk7] at ghk8aa
                all_goals
                try simp only [go_sem, n1, n2, n3, n4, hk1, hk2, ghk4, hhk4, hk5, ghk6, hk6, ghk7, hk7, ghk8aa] at ghk8abn
                all_goals
                try simp only [go_sem, n1, n2, n3, n4, hk1, hk2, ghk4, hhk4, hk5, ghk6, hk6, ghk7, hk7, ghk8aa, ghk8abn] at ghk8b
                all_goals
                rcases it_some h with ⟨hk9, h⟩ | ⟨hk9, h⟩
                · try simp only [go_sem, n1, n2, n3, n4, hk1, hk2, ghk4, hhk4, hk5, ghk6, hk6, ghk7, hk7, ghk8aa, ghk8abn, ghk8b] at hk9
                  all_goals
                  obtain rfl := so_some h
                  refine ⟨0, fun L hL => ?_⟩
                  simp only [go_sem, ir52, E_impl_ordered_l1, R_impl_ordered_l1, ir52_b0, ir52_k0, ir52_o0, ir52_r0, hk1, hk2, lhk2, xhk2, fhk3, ghk4, hhk4, fhk4, hk5, ghk6, hk6, lhk6, xhk6, ghk7, hk7, lhk7, xhk7, ghk8aa, ghk8abn, ghk8b, hk9]
                · try simp only [go_sem, n1, n2, n3, n4, hk1, hk2, ghk4, hhk4, hk5, ghk6, hk6, ghk7, hk7, ghk8aa, ghk8abn, ghk8b] at hk9
                  all_goals
                  obtain rfl := so_some h
                  refine ⟨0, fun L hL => ?_⟩
                  simp only [go_sem, ir52, E_impl_ordered_l1, R_impl_ordered_l1, ir52_b0, ir52_k0, ir52_o0, ir52_r0, hk1, hk2, lhk2, xhk2, fhk3, ghk4, hhk4, fhk4, hk5, ghk6, hk6, lhk6, xhk6, ghk7, hk7, lhk7, xhk7, ghk8aa, ghk8abn, ghk8b, hk9]
          · rcases and_f ghk7 with ghk7a | ⟨ghk7a, ghk7b⟩
            · try simp only [go_sem, n1, n2, n3, n4, hk1, hk2, ghk4, hhk4, hk5, ghk6, hk6] at ghk7a
              all_goals
              obtain ⟨hk8, h⟩ := ck_some h
              rcases or_split hk8 with ⟨ghk8, hk8⟩ | ghk8
              · try simp only [go_sem, n1, n2, n3, n4, hk1, hk2, ghk4, hhk4, hk5, ghk6, hk6, ghk7a] at ghk8
                all_goals
                have lhk8 := ix_lt hk8
                have xhk8 := getD_mapD Fault_av faults lhk8
                try simp only [go_sem] at lhk8
                try simp only [go_sem] at xhk8
                try simp only [go_sem, n1, n2, n3, n4, hk1, hk2, ghk4, hhk4, hk5, ghk6, hk6, ghk7a, ghk8] at hk8
                all_goals
                rcases it_some h with ⟨hk9, h⟩ | ⟨hk9, h⟩
                · try simp only [go_sem, n1, n2, n3, n4, hk1, hk2, ghk4, hhk4, hk5, ghk6, hk6, ghk7a, ghk8, hk8] at hk9
                  all_goals
                  obtain rfl := so_some h
                  refine ⟨0, fun L hL => ?_⟩
                  simp only [go_sem, ir52, E_impl_ordered_l1, R_impl_ordered_l1, ir52_b0, ir52_k0, ir52_o0, ir52_r0, hk1, hk2, lhk2, xhk2, fhk3, ghk4, hhk4, fhk4, hk5, ghk6, hk6, lhk6, xhk6, ghk7a, ghk8, hk8, lhk8, xhk8, hk9]
                · try simp only [go_sem, n1, n2, n3, n4, hk1, hk2, ghk4, hhk4, hk5, ghk6, hk6, ghk7a, ghk8, hk8] at hk9
                  all_goals
                  obtain rfl := so_some h
                  refine ⟨0, fun L hL => ?_⟩
                  simp only [go_sem, ir52, E_impl_ordered_l1, R_impl_ordered_l1, ir52_b0, ir52_k0, ir52_o0, ir52_r0, hk1, hk2, lhk2, xhk2, fhk3, ghk4, hhk4, fhk4, hk5, ghk6, hk6, lhk6, xhk6, ghk7a, ghk8, hk8, lhk8, xhk8, hk9]
              · rcases and_f ghk8 with ghk8a | ⟨ghk8a, ghk8b⟩
                · rcases and_f ghk8a with ghk8aa | ⟨ghk8aa, ghk8ab⟩
                  · try simp only [go_sem, n1, n2, n3, n4, hk1, hk2, ghk4, hhk4, hk5, ghk6, hk6, ghk7a] at ghk8aa
                    all_goals
                    rcases it_some h with ⟨hk9, h⟩ | ⟨hk9, h⟩
                    · try simp only [go_sem, n1, n2, n3, n4, hk1, hk2, ghk4, hhk4, hk5, ghk6, hk6, ghk7a, ghk8aa] at hk9
                      all_goals
                      obtain rfl := so_some h
                      refine ⟨0, fun L hL => ?_⟩
                      simp only [go_sem, ir52, E_impl_ordered_l1, R_impl_ordered_l1, ir52_b0, ir52_k0, ir52_o0, ir52_r0, hk1, hk2, lhk2, xhk2, fhk3, ghk4, hhk4, fhk4, hk5, ghk6, hk6, lhk6, xhk6, ghk7a, ghk8aa, hk9]
                    · try simp only [go_sem, n1, n2, n3, n4, hk1, hk2, ghk4, hhk4, hk5, ghk6, hk6, ghk7a, ghk8aa] at hk9
                      all_goals
                      obtain rfl := so_some h
                      refine ⟨0, fun L hL => ?_⟩
                      simp only [go_sem, ir52, E_impl_ordered_l1, R_impl_ordered_l1, ir52_b0, ir52_k0, ir52_o0, ir52_r0, hk1, hk2, lhk2, xhk2, fhk3, ghk4, hhk4, fhk4, hk5, ghk6, hk6, lhk6, xhk6, ghk7a, ghk8aa, hk9]
                  · have ghk8abn := no_f ghk8ab
                    try simp only [go_sem, n1, n2, n3, n4, hk1, hk2, ghk4, hhk4, hk5, ghk6, hk6, ghk7a] at ghk8aa
                    all_goals
                    try simp only [go_sem, n1, n2, n3, n4, hk1, hk2, ghk4, hhk4, hk5, ghk6, hk6, ghk7a, ghk8aa] at ghk8abn
                    all_goals
                    rcases it_some h with ⟨hk9, h⟩ | ⟨hk9, h⟩
                    · try simp only [go_sem, n1, n2, n3, n4, hk1, hk2, ghk4, hhk4, hk5, ghk6, hk6, ghk7a, ghk8aa, ghk8abn] at hk9
                      all_goals
                      obtain rfl := so_some h
                      refine ⟨0, fun L hL => ?_⟩
                      simp only [go_sem, ir52, E_impl_ordered_l1, R_impl_ordered_l1, ir52_b0, ir52_k0, ir52_o0, ir52_r0, hk1, hk2, lhk2, xhk2, fhk3, ghk4, hhk4, fhk4, hk5, ghk6, hk6, lhk6, xhk6, ghk7a, ghk8aa, ghk8abn, hk9]
                    · try simp only [go_sem, n1, n2, n3, n4, hk1, hk2, ghk4, hhk4, hk5, ghk6, hk6, ghk7a, ghk8aa, ghk8abn] at hk9
                      all_goals
                      obtain rfl := so_some h
                      refine ⟨0, fun L hL => ?_⟩
                      simp only [go_sem, ir52, E_impl_ordered_l1, R_impl_ordered_l1, ir52_b0, ir52_k0, ir52_o0, ir52_r0, hk1, hk2, lhk2, xhk2, fhk3, ghk4, hhk4, fhk4, hk5, ghk6, hk6, lhk6, xhk6, ghk7a, ghk8aa, ghk8abn, hk9]
                · obtain ⟨ghk8aa, ghk8ab⟩ := and_t ghk8a
                  have ghk8abn := no_t ghk8ab
                  try simp only [go_sem, n1, n2, n3, n4, hk1, hk2, ghk4, hhk4, hk5, ghk6, hk6, ghk7a] at ghk8aa
                  all_goals
                  try simp only [go_sem, n1, n2, n3, n4, hk1, hk2, ghk4, hhk4, hk5, ghk6, hk6, ghk7a, ghk8aa] at ghk8abn
                  all_goals
                  try simp only [go_sem, n1, n2, n3, n4, hk1, hk2, ghk4, hhk4, hk5, ghk6, hk6, ghk7a, ghk8aa, ghk8abn] at ghk8b
                  all_goals
                  rcases it_some h with ⟨hk9, h⟩ | ⟨hk9, h⟩
                  · try simp only [go_sem, n1, n2, n3, n4, hk1, hk2, ghk4, hhk4, hk5, ghk6, hk6, ghk7a, ghk8aa, ghk8abn, ghk8b] at hk9
                    all_goals
                    obtain rfl := so_some h
                    refine ⟨0, fun L hL => ?_⟩
                    simp only [go_sem, ir52, E_impl_ordered_l1, R_impl_ordered_l1, ir52_b0, ir52_k0, ir52_o0, ir52_r0, hk1, hk2, lhk2, xhk2, fhk3, ghk4, hhk4, fhk4, hk5, ghk6, hk6, lhk6, xhk6, ghk7a, ghk8aa, ghk8abn, ghk8b, hk9]
                  · try simp only [go_sem, n1, n2, n3, n4, hk1, hk2, ghk4, hhk4, hk5, ghk6, hk6, ghk7a, ghk8aa, ghk8abn, ghk8b] at hk9
                    all_goals
                    obtain rfl := so_some h
                    refine ⟨0, fun L hL => ?_⟩
                    simp only [go_sem, ir52, E_impl_ordered_l1, R_impl_ordered_l1, ir52_b0, ir52_k0, ir52_o0, ir52_r0, hk1, hk2, lhk2, xhk2, fhk3, ghk4, hhk4, fhk4, hk5, ghk6, hk6, lhk6, xhk6, ghk7a, ghk8aa, ghk8abn, ghk8b, hk9]
            · have ghk7bn := no_f ghk7b
              try simp only [go_sem, n1, n2, n3, n4, hk1, hk2, ghk4, hhk4, hk5, ghk6, hk6] at ghk7a
              all_goals
              try simp only [go_sem, n1, n2, n3, n4, hk1, hk2, ghk4, hhk4, hk5, ghk6, hk6, ghk7a] at ghk7bn
              all_goals
              obtain ⟨hk8, h⟩ := ck_some h
              rcases or_split hk8 with ⟨ghk8, hk8⟩ | ghk8
              · try simp only [go_sem, n1, n2, n3, n4, hk1, hk2, ghk4, hhk4, hk5, ghk6, hk6, ghk7a, ghk7bn] at ghk8
                all_goals
                have lhk8 := ix_lt hk8
                have xhk8 := getD_mapD Fault_av faults lhk8
                try simp only [go_sem] at lhk8
                try simp only [go_sem] at xhk8
                try simp only [go_sem, n1, n2, n3, n4, hk1, hk2, ghk4, hhk4, hk5, ghk6, hk6, ghk7a, ghk7bn, ghk8] at hk8
                all_goals
                rcases it_some h with ⟨hk9, h⟩ | ⟨hk9, h⟩
                · try simp only [go_sem, n1, n2, n3, n4, hk1, hk2, ghk4, hhk4, hk5, ghk6, hk6, ghk7a, ghk7bn, ghk8, hk8] at hk9
                  all_goals
                  obtain rfl := so_some h
                  refine ⟨0, fun L hL => ?_⟩
                  simp only [go_sem, ir52, E_impl_ordered_l1, R_impl_ordered_l1, ir52_b0, ir52_k0, ir52_o0, ir52_r0, hk1, hk2, lhk2, xhk2, fhk3, ghk4, hhk4, fhk4, hk5, ghk6, hk6, lhk6, xhk6, ghk7a, ghk7bn, ghk8, hk8, lhk8, xhk8, hk9]
                · try simp only [go_sem, n1, n2, n3, n4, hk1, hk2, ghk4, hhk4, hk5, ghk6, hk6, ghk7a, ghk7bn, ghk8, hk8] at hk9
                  all_goals
                  obtain rfl := so_some h
                  refine ⟨0, fun L hL => ?_⟩
                  simp only [go_sem, ir52, E_impl_ordered_l1, R_impl_ordered_l1, ir52_b0, ir52_k0, ir52_o0, ir52_r0, hk1, hk2, lhk2, xhk2, fhk3, ghk4, hhk4, fhk4, hk5, ghk6, hk6, lhk6, xhk6, ghk7a, ghk7bn, ghk8, hk8, lhk8, xhk8, hk9]
              · rcases and_f ghk8 with ghk8a | ⟨ghk8a, ghk8b⟩
                · rcases and_f ghk8a with ghk8aa | ⟨ghk8aa, ghk8ab⟩
                  · try simp only [go_sem, n1, n2, n3, n4, hk1, hk2, ghk4, hhk4, hk5, ghk6, hk6, ghk7a, ghk7bn] at ghk8aa
                    all_goals
                    rcases it_some h with ⟨hk9, h⟩ | ⟨hk9, h⟩
                    · try simp only [go_sem, n1, n2, n3, n4, hk1, hk2, ghk4, hhk4, hk5, ghk6, hk6, ghk7a, ghk7bn, ghk8aa] at hk9
                      all_goals
                      obtain rfl := so_some h
                      refine ⟨0, fun L hL => ?_⟩
                      simp only [go_sem, ir52, E_impl_ordered_l1, R_impl_ordered_l1, ir52_b0, ir52_k0, ir52_o0, ir52_r0, hk1, hk2, lhk2, xhk2, fhk3, ghk4, hhk4, fhk4, hk5, ghk6, hk6, lhk6, xhk6, ghk7a, ghk7bn, ghk8aa, hk9]
                    · try simp only [go_sem, n1, n2, n3, n4, hk1, hk2, ghk4, hhk4, hk5, ghk6, hk6, ghk7a, ghk7bn, ghk8aa] at hk9
                      all_goals
                      obtain rfl := so_some h
                      refine ⟨0, fun L hL => ?_⟩
                      simp only [go_sem, ir52, E_impl_ordered_l1, R_impl_ordered_l1, ir52_b0, ir52_k0, ir52_o0, ir52_r0, hk1, hk2, lhk2, xhk2, fhk3, ghk4, hhk4, fhk4, hk5, ghk6, hk6, lhk6, xhk6, ghk7a, ghk7bn, ghk8aa, hk9]
                  · have ghk8abn := no_f ghk8ab
                    try simp only [go_sem, n1, n2, n3, n4, hk1, hk2, ghk4, hhk4, hk5, ghk6, hk6, ghk7a, ghk7bn] at ghk8aa
                    all_goals
                    try simp only [go_sem, n1, n2, n3, n4, hk1, hk2, ghk4, hhk4, hk5, ghk6, hk6, ghk7a, ghk7bn, ghk8aa] at ghk8abn
                    all_goals
                    rcases it_some h with ⟨hk9, h⟩ | ⟨hk9, h⟩
                    · try simp only [go_sem, n1, n2, n3, n4, hk1, hk2, ghk4, hhk4, hk5, ghk6, hk6, ghk7a, ghk7bn, ghk8aa, ghk8abn] at hk9
                      all_goals
                      obtain rfl := so_some h
                      refine ⟨0, fun L hL => ?_⟩
                      simp only [go_sem, ir52, E_impl_ordered_l1, R_impl_ordered_l1, ir52_b0, ir52_k0, ir52_o0, ir52_r0, hk1, hk2, lhk2, xhk2, fhk3, ghk4, hhk4, fhk4, hk5, ghk6, hk6, lhk6, xhk6, ghk7a, ghk7bn, ghk8aa, ghk8abn, hk9]
                    · try simp only [go_sem, n1, n2, n3, n4, hk1, hk2, ghk4, hhk4, hk5, ghk6, hk6, ghk7a, ghk7bn, ghk8aa, ghk8abn] at hk9
                      all_goals
                      obtain rfl := so_some h
                      refine ⟨0, fun L hL => ?_⟩
                      simp only [go_sem, ir52, E_impl_ordered_l1, R_impl_ordered_l1, ir52_b0, ir52_k0, ir52_o0, ir52_r0, hk1, hk2, lhk2, xhk2, fhk3, ghk4, hhk4, fhk4, hk5, ghk6, hk6, lhk6, xhk6, ghk7a, ghk7bn, ghk8aa, ghk8abn, hk9]
                · obtain ⟨ghk8aa, ghk8ab⟩ := and_t ghk8a
                  have ghk8abn := no_t ghk8ab
                  try simp only [go_sem, n1, n2, n3, n4, hk1, hk2, ghk4, hhk4, hk5, ghk6, hk6, ghk7a, ghk7bn] at ghk8aa
                  all_goals
                  try simp only [go_sem, n1, n2, n3, n4, hk1, hk2, ghk4, hhk4, hk5, ghk6, hk6, ghk7a, ghk7bn, ghk8aa] at ghk8abn
                  all_goals
                  try simp only [go_sem, n1, n2, n3, n4, hk1, hk2, ghk4, hhk4, hk5, ghk6, hk6, ghk7a, ghk7bn, ghk8aa, ghk8abn] at ghk8b
                  all_goals
                  rcases it_some h with ⟨hk9, h⟩ | ⟨hk9, h⟩
                  · try simp only [go_sem, n1, n2, n3, n4, hk1, hk2, ghk4, hhk4, hk5, ghk6, hk6, ghk7a, ghk7bn, ghk8aa, ghk8abn, ghk8b] at hk9
                    all_goals
                    obtain rfl := so_some h
                    refine ⟨0, fun L hL => ?_⟩
                    simp only [go_sem, ir52, E_impl_ordered_l1, R_impl_ordered_l1, ir52_b0, ir52_k0, ir52_o0, ir52_r0, hk1, hk2, lhk2, xhk2, fhk3, ghk4, hhk4, fhk4, hk5, ghk6, hk6, lhk6, xhk6, ghk7a, ghk7bn, ghk8aa, ghk8abn, ghk8b, hk9]
                  · try simp only [go_sem, n1, n2, n3, n4, hk1, hk2, ghk4, hhk4, hk5, ghk6, hk6, ghk7a, ghk7bn, ghk8aa, ghk8abn, ghk8b] at hk9
                    all_goals
                    obtain rfl := so_some h
                    refine ⟨0, fun L hL => ?_⟩
                    simp only [go_sem, ir52, E_impl_ordered_l1, R_impl_ordered_l1, ir52_b0, ir52_k0, ir52_o0, ir52_r0, hk1, hk2, lhk2, xhk2, fhk3, ghk4, hhk4, fhk4, hk5, ghk6, hk6, lhk6, xhk6, ghk7a, ghk7bn, ghk8aa, ghk8abn, ghk8b, hk9]
        · try simp only [go_sem, n1, n2, n3, n4, hk1, hk2, ghk4, hhk4, hk5] at ghk6
          all_goals
          obtain ⟨hk7, h⟩ := ck_some h
          rcases or_split hk7 with ⟨ghk7, hk7⟩ | ghk7
          · try simp only [go_sem, n1, n2, n3, n4, hk1, hk2, ghk4, hhk4, hk5, ghk6] at ghk7
            all_goals
            have lhk7 := ix_lt hk7
            have xhk7 := getD_mapD Fault_av faults lhk7
            try simp only [go_sem] at lhk7
            try simp only [go_sem] at xhk7
            try simp only [go_sem, n1, n2, n3, n4, hk1, hk2, ghk4, hhk4, hk5, ghk6, ghk7] at hk7
            all_goals
            obtain ⟨hk8, h⟩ := ck_some h
            rcases or_split hk8 with ⟨ghk8, hk8⟩ | ghk8
            · try simp only [go_sem, n1, n2, n3, n4, hk1, hk2, ghk4, hhk4, hk5, ghk6, ghk7, hk7] at ghk8
              all_goals
              have lhk8 := ix_lt hk8
              have xhk8 := getD_mapD Fault_av faults lhk8
              try simp only [go_sem] at lhk8
              try simp only [go_sem] at xhk8
              try simp only [go_sem, n1, n2, n3, n4, hk1, hk2, ghk4, hhk4, hk5, ghk6, ghk7, hk7, ghk8] at hk8
              all_goals
              rcases it_some h with ⟨hk9, h⟩ | ⟨hk9, h⟩
              · try simp only [go_sem, n1, n2, n3, n4, hk1, hk2, ghk4, hhk4, hk5, ghk6, ghk7, hk7, ghk8, hk8] at hk9
                all_goals
                obtain rfl := so_some h
                refine ⟨0, fun L hL => ?_⟩
                simp only [go_sem, ir52, E_impl_ordered_l1, R_impl_ordered_l1, ir52_b0, ir52_k0, ir52_o0, ir52_r0, hk1, hk2, lhk2, xhk2, fhk3, ghk4, hhk4, fhk4, hk5, ghk6, ghk7, hk7, lhk7, xhk7, ghk8, hk8, lhk8, xhk8, hk9]
              · try simp only [go_sem, n1, n2, n3, n4, hk1, hk2, ghk4, hhk4, hk5, ghk6, ghk7, hk7, ghk8, hk8] at hk9
                all_goals
                obtain rfl := so_some h
                refine ⟨0, fun L hL => ?_⟩
                simp only [go_sem, ir52, E_impl_ordered_l1, R_impl_ordered_l1, ir52_b0, ir52_k0, ir52_o0, ir52_r0, hk1, hk2, lhk2, xhk2, fhk3, ghk4, hhk4, fhk4, hk5, ghk6, ghk7, hk7, lhk7, xhk7, ghk8, hk8, lhk8, xhk8, hk9]
            · rcases and_f ghk8 with ghk8a | ⟨ghk8a, ghk8b⟩
              · rcases and_f ghk8a with ghk8aa | ⟨ghk8aa, ghk8ab⟩
                · try simp only [go_sem, n1, n2, n3, n4, hk1, hk2, ghk4, hhk4, hk5, ghk6, ghk7, hk7] at ghk8aa
                  all_goals
                  rcases it_some h with ⟨hk9, h⟩ | ⟨hk9, h⟩
                  · try simp only [go_sem, n1, n2, n3, n4, hk1, hk2, ghk4, hhk4, hk5, ghk6, ghk7, hk7, ghk8aa] at hk9
                    all_goals
                    obtain rfl := so_some h
                    refine ⟨0, fun L hL => ?_⟩
                    simp only [go_sem, ir52, E_impl_ordered_l1, R_impl_ordered_l1, ir52_b0, ir52_k0, ir52_o0, ir52_r0, hk1, hk2, lhk2, xhk2, fhk3, ghk4, hhk4, fhk4, hk5, ghk6, ghk7, hk7, lhk7, xhk7, ghk8aa, hk9]
                  · try simp only [go_sem, n1, n2, n3, n4, hk1, hk2, ghk4, hhk4, hk5, ghk6, ghk7, hk7, ghk8aa] at hk9
                    all_goals
                    obtain rfl := so_some h
                    refine ⟨0, fun L hL => ?_⟩
                    simp only [go_sem, ir52, E_impl_ordered_l1, R_impl_ordered_l1, ir52_b0, ir52_k0, ir52_o0, ir52_r0, hk1, hk2, lhk2, xhk2, fhk3, ghk4, hhk4, fhk4, hk5, ghk6, ghk7, hk7, lhk7, xhk7, ghk8aa, hk9]
                · have ghk8abn := no_f ghk8ab
                  try simp only [go_sem, n1, n2, n3, n4, hk1, hk2, ghk4, hhk4, hk5, ghk6, ghk7, hk7] at ghk8aa
                  all_goals
                  try simp only [go_sem, n1, n2, n3, n4, hk1, hk2, ghk4, hhk4, hk5, ghk6, ghk7, hk7, ghk8aa] at ghk8abn
                  all_goals
                  rcases it_some h with ⟨hk9, h⟩ | ⟨hk9, h⟩
                  · try simp only [go_sem, n1, n2, n3, n4, hk1, hk2, ghk4, hhk4, hk5, ghk6, ghk7, hk7, ghk8aa, ghk8abn] at hk9
                    all_goals
                    obtain rfl := so_some h
                    refine ⟨0, fun L hL => ?_⟩
                    simp only [go_sem, ir52, E_impl_ordered_l1, R_impl_ordered_l1, ir52_b0, ir52_k0, ir52_o0, ir52_r0, hk1, hk2, lhk2, xhk2, fhk3, ghk4, hhk4, fhk4, hk5, ghk6, ghk7, hk7, lhk7, xhk7, ghk8aa, ghk8abn, hk9]
                  · try simp only [go_sem, n1, n2, n3, n4, hk1, hk2, ghk4, hhk4, hk5, ghk6, ghk7, hk7, ghk8aa, ghk8abn] at hk9
                    all_goals
                    obtain rfl := so_some h
                    refine ⟨0, fun L hL => ?_⟩
                    simp only [go_sem, ir52, E_impl_ordered_l1, R_impl_ordered_l1, ir52_b0, ir52_k0, ir52_o0, ir52_r0, hk1, hk2, lhk2, xhk2, fhk3, ghk4, hhk4, fhk4, hk5, ghk6, ghk7, hk7, lhk7, xhk7, ghk8aa, ghk8abn, hk9]
              · obtain ⟨ghk8aa, ghk8ab⟩ := and_t ghk8a
                have ghk8abn := no_t ghk8ab
                try simp only [go_sem, n1, n2, n3, n4, hk1, hk2, ghk4, hhk4, hk5, ghk6, ghk7, hk7] at ghk8aa
                all_goals
                try simp only [go_sem, n1, n2, n3, n4, hk1, hk2, ghk4, hhk4, hk5, ghk6, ghk7, hk7, ghk8aa] at ghk8abn
                all_goals
                try simp only [go_sem, n1, n2, n3, n4, hk1, hk2, ghk4, hhk4, hk5, ghk6, ghk7, hk7, ghk8aa, ghk8abn] at ghk8b
                all_goals
                rcases it_some h with ⟨hk9, h⟩ | ⟨hk9, h⟩
                · try simp only [go_sem, n1, n2, n3, n4, hk1, hk2, ghk4, hhk4, hk5, ghk6, ghk7, hk7, ghk8aa, ghk8abn, ghk8b] at hk9
                  all_goals
                  obtain rfl := so_some h
                  refine ⟨0, fun L hL => ?_⟩
                  simp only [go_sem, ir52, E_impl_ordered_l1, R_impl_ordered_l1, ir52_b0, ir52_k0, ir52_o0, ir52_r0, hk1, hk2, lhk2, xhk2, fhk3, ghk4, hhk4, fhk4, hk5, ghk6, ghk7, hk7, lhk7, xhk7, ghk8aa, ghk8abn, ghk8b, hk9]
                · try simp only [go_sem, n1, n2, n3, n4, hk1, hk2, ghk4, hhk4, hk5, ghk6, ghk7, hk7, ghk8aa, ghk8abn, ghk8b] at hk9
                  all_goals
                  obtain rfl := so_some h
                  refine ⟨0, fun L hL => ?_⟩
                  simp only [go_sem, ir52, E_impl_ordered_l1, R_impl_ordered_l1, ir52_b0, ir52_k0, ir52_o0, ir52_r0, hk1, hk2, lhk2, xhk2, fhk3, ghk4, hhk4, fhk4, hk5, ghk6, ghk7, hk7, lhk7, xhk7, ghk8aa, ghk8abn, ghk8b, hk9]
          · rcases and_f ghk7 with ghk7a | ⟨ghk7a, ghk7b⟩
            · try simp only [go_sem, n1, n2, n3, n4, hk1, hk2, ghk4, hhk4, hk5, ghk6] at ghk7a
              all_goals
              obtain ⟨hk8, h⟩ := ck_some h
              rcases or_split hk8 with ⟨ghk8, hk8⟩ | ghk8
              · try simp only [go_sem, n1, n2, n3, n4, hk1, hk2, ghk4, hhk4, hk5, ghk6, ghk7a] at ghk8
                all_goals
                have lhk8 := ix_lt hk8
                have xhk8 := getD_mapD Fault_av faults lhk8
                try simp only [go_sem] at lhk8
                try simp only [go_sem] at xhk8
                try simp only [go_sem, n1, n2, n3, n4, hk1, hk2, ghk4, hhk4, hk5, ghk6, ghk7a, ghk8] at hk8
                all_goals
                rcases it_some h with ⟨hk9, h⟩ | ⟨hk9, h⟩
                · try simp only [go_sem, n1, n2, n3, n4, hk1, hk2, ghk4, hhk4, hk5, ghk6, ghk7a, ghk8, hk8] at hk9
                  all_goals
                  obtain rfl := so_some h
                  refine ⟨0, fun L hL => ?_⟩
                  simp only [go_sem, ir52, E_impl_ordered_l1, R_impl_ordered_l1, ir52_b0, ir52_k0, ir52_o0, ir52_r0, hk1, hk2, lhk2, xhk2, fhk3, ghk4, hhk4, fhk4, hk5, ghk6, ghk7a, ghk8, hk8, lhk8, xhk8, hk9]
                · try simp only [go_sem, n1, n2, n3, n4, hk1, hk2, ghk4, hhk4, hk5, ghk6, ghk7a, ghk8, hk8] at hk9
                  all_goals
                  obtain rfl := so_some h
                  refine ⟨0, fun L hL => ?_⟩
                  simp only [go_sem, ir52, E_impl_ordered_l1, R_impl_ordered_l1, ir52_b0, ir52_k0, ir52_o0, ir52_r0, hk1, hk2, lhk2, xhk2, fhk3, ghk4, hhk4, fhk4, hk5, ghk6, ghk7a, ghk8, hk8, lhk8, xhk8, hk9]
              · rcases and_f ghk8 with ghk8a | ⟨ghk8a, ghk8b⟩
                · rcases and_f ghk8a with ghk8aa | ⟨ghk8aa, ghk8ab⟩
                  · try simp only [go_sem, n1, n2, n3, n4, hk1, hk2, ghk4, hhk4, hk5, ghk6, ghk7a] at ghk8aa
                    all_goals
                    rcases it_some h with ⟨hk9, h⟩ | ⟨hk9, h⟩
                    · try simp only [go_sem, n1, n2, n3, n4, hk1, hk2, ghk4, hhk4, hk5, ghk6, ghk7a, ghk8aa] at hk9
                      all_goals
                      obtain rfl := so_some h
                      refine ⟨0, fun L hL => ?_⟩
                      simp only [go_sem, ir52, E_impl_ordered_l1, R_impl_ordered_l1, ir52_b0, ir52_k0, ir52_o0, ir52_r0, hk1, hk2, lhk2, xhk2, fhk3, ghk4, hhk4, fhk4, hk5, ghk6, ghk7a, ghk8aa, hk9]
                    · try simp only [go_sem, n1, n2, n3, n4, hk1, hk2, ghk4, hhk4, hk5, ghk6, ghk7a, ghk8aa] at hk9
                      all_goals
                      obtain rfl := so_some h
                      refine ⟨0, fun L hL => ?_⟩
                      simp only [go_sem, ir52, E_impl_ordered_l1, R_impl_ordered_l1, ir52_b0, ir52_k0, ir52_o0, ir52_r0, hk1, hk2, lhk2, xhk2, fhk3, ghk4, hhk4, fhk4, hk5, ghk6, ghk7a, ghk8aa, hk9]
                  · have ghk8abn := no_f ghk8ab
                    try simp only [go_sem, n1, n2, n3, n4, hk1, hk2, ghk4, hhk4, hk5, ghk6, ghk7a] at ghk8aa
                    all_goals
                    try simp only [go_sem, n1, n2, n3, n4, hk1, hk2, ghk4, hhk4, hk5, ghk6, ghk7a, ghk8aa] at ghk8abn
                    all_goals
                    rcases it_some h with ⟨hk9, h⟩ | ⟨hk9, h⟩
                    · try simp only [go_sem, n1, n2, n3, n4, hk1, hk2, ghk4, hhk4, hk5, ghk6, ghk7a, ghk8aa, ghk8abn] at hk9
                      all_goals
                      obtain rfl := so_some h
                      refine ⟨0, fun L hL => ?_⟩
                      simp only [go_sem, ir52, E_impl_ordered_l1, R_impl_ordered_l1, ir52_b0, ir52_k0, ir52_o0, ir52_r0, hk1, hk2, lhk2, xhk2, fhk3, ghk4, hhk4, fhk4, hk5, ghk6, ghk7a, ghk8aa, ghk8abn, hk9]
                    · try simp only [go_sem, n1, n2, n3, n4, hk1, hk2, ghk4, hhk4, hk5, ghk6, ghk7a, ghk8aa, ghk8abn] at hk9
                      all_goals
                      obtain rfl := so_some h
                      refine ⟨0, fun L hL => ?_⟩
                      simp only [go_sem, ir52, E_impl_ordered_l1, R_impl_ordered_l1, ir52_b0, ir52_k0, ir52_o0, ir52_r0, hk1, hk2, lhk2, xhk2, fhk3, ghk4, hhk4, fhk4, hk5, ghk6, ghk7a, ghk8aa, ghk8abn, hk9]
                · obtain ⟨ghk8aa, ghk8ab⟩ := and_t ghk8a
                  have ghk8abn := no_t ghk8ab
                  try simp only [go_sem, n1, n2, n3, n4, hk1, hk2, ghk4, hhk4, hk5, ghk6, ghk7a] at ghk8aa
                  all_goals
                  try simp only [go_sem, n1, n2, n3, n4, hk1, hk2, ghk4, hhk4, hk5, ghk6, ghk7a, ghk8aa] at ghk8abn
                  all_goals
                  try simp only [go_sem, n1, n2, n3, n4, hk1, hk2, ghk4, hhk4, hk5, ghk6, ghk7a, ghk8aa, ghk8abn] at ghk8b
                  all_goals
                  rcases it_some h with ⟨hk9, h⟩ | ⟨hk9, h⟩
                  · try simp only [go_sem, n1, n2, n3, n4, hk1, hk2, ghk4, hhk4, hk5, ghk6, ghk7a, ghk8aa, ghk8abn, ghk8b] at hk9
                    all_goals
                    obtain rfl := so_some h
                    refine ⟨0, fun L hL => ?_⟩
                    simp only [go_sem, ir52, E_impl_ordered_l1, R_impl_ordered_l1, ir52_b0, ir52_k0, ir52_o0, ir52_r0, hk1, hk2, lhk2, xhk2, fhk3, ghk4, hhk4, fhk4, hk5, ghk6, ghk7a, ghk8aa, ghk8abn, ghk8b, hk9]
                  · try simp only [go_sem, n1, n2, n3, n4, hk1, hk2, ghk4, hhk4, hk5, ghk6, ghk7a, ghk8aa, ghk8abn, ghk8b] at hk9
                    all_goals
                    obtain rfl := so_some h
                    refine ⟨0, fun L hL => ?_⟩
                    simp only [go_sem, ir52, E_impl_ordered_l1, R_impl_ordered_l1, ir52_b0, ir52_k0, ir52_o0, ir52_r0, hk1, hk2, lhk2, xhk2, fhk3, ghk4, hhk4, fhk4, hk5, ghk6, ghk7a, ghk8aa, ghk8abn, ghk8b, hk9]
            · have ghk7bn := no_f ghk7b
              try simp only [go_sem, n1, n2, n3, n4, hk1, hk2, ghk4, hhk4, hk5, ghk6] at ghk7a
              all_goals
              try simp only [go_sem, n1, n2, n3, n4, hk1, hk2, ghk4, hhk4, hk5, ghk6, ghk7a] at ghk7bn
              all_goals
              obtain ⟨hk8, h⟩ := ck_some h
              rcases or_split hk8 with ⟨ghk8, hk8⟩ | ghk8
              · try simp only [go_sem, n1, n2, n3, n4, hk1, hk2, ghk4, hhk4, hk5, ghk6, ghk7a, ghk7bn] at ghk8
                all_goals
                have lhk8 := ix_lt hk8
                have xhk8 := getD_mapD Fault_av faults lhk8
                try simp only [go_sem] at lhk8
                try simp only [go_sem] at xhk8
                try simp only [go_sem, n1, n2, n3, n4, hk1, hk2, ghk4, hhk4, hk5, ghk6, ghk7a, ghk7bn, ghk8] at hk8
                all_goals
                rcases it_some h with ⟨hk9, h⟩ | ⟨hk9, h⟩
                · try simp only [go_sem, n1, n2, n3, n4, hk1, hk2, ghk4, hhk4, hk5, ghk6, ghk7a, ghk7bn, ghk8, hk8] at hk9
                  all_goals
                  obtain rfl := so_some h
                  refine ⟨0, fun L hL => ?_⟩
                  simp only [go_sem, ir52, E_impl_ordered_l1, R_impl_ordered_l1, ir52_b0, ir52_k0, ir52_o0, ir52_r0, hk1, hk2, lhk2, xhk2, fhk3, ghk4, hhk4, fhk4, hk5, ghk6, ghk7a, ghk7bn, ghk8, hk8, lhk8, xhk8, hk9]
                · try simp only [go_sem, n1, n2, n3, n4, hk1, hk2, ghk4, hhk4, hk5, ghk6, ghk7a, ghk7bn, ghk8, hk8] at hk9
                  all_goals
                  obtain rfl := so_some h
                  refine ⟨0, fun L hL => ?_⟩
                  simp only [go_sem, ir52, E_impl_ordered_l1, R_impl_ordered_l1, ir52_b0, ir52_k0, ir52_o0, ir52_r0, hk1, hk2, lhk2, xhk2, fhk3, ghk4, hhk4, fhk4, hk5, ghk6, ghk7a, ghk7bn, ghk8, hk8, lhk8, xhk8, hk9]
              · rcases and_f ghk8 with ghk8a | ⟨ghk8a, ghk8b⟩
                · rcases and_f ghk8a with ghk8aa | ⟨ghk8aa, ghk8ab⟩
                  · try simp only [go_sem, n1, n2, n3, n4, hk1, hk2, ghk4, hhk4, hk5, ghk6, ghk7a, ghk7bn] at ghk8aa
                    all_goals
                    rcases it_some h with ⟨hk9, h⟩ | ⟨hk9, h⟩
                    · try simp only [go_sem, n1, n2, n3, n4, hk1, hk2, ghk4, hhk4, hk5, ghk6, ghk7a, ghk7bn, ghk8aa] at hk9
                      all_goals
                      obtain rfl := so_some h
                      refine ⟨0, fun L hL => ?_⟩
                      simp only [go_sem, ir52, E_impl_ordered_l1, R_impl_ordered_l1, ir52_b0, ir52_k0, ir52_o0, ir52_r0, hk1, hk2, lhk2, xhk2, fhk3, ghk4, hhk4, fhk4, hk5, ghk6, ghk7a, ghk7bn, ghk8aa, hk9]
                    · try simp only [go_sem, n1, n2, n3, n4, hk1, hk2, ghk4, hhk4, hk5, ghk6, ghk7a, ghk7bn, ghk8aa] at hk9
                      all_goals
                      obtain rfl := so_some h
                      refine ⟨0, fun L hL => ?_⟩
                      simp only [go_sem, ir52, E_impl_ordered_l1, R_impl_ordered_l1, ir52_b0, ir52_k0, ir52_o0, ir52_r0, hk1, hk2, lhk2, xhk2, fhk3, ghk4, hhk4, fhk4, hk5, ghk6, ghk7a, ghk7bn, ghk8aa, hk9]
                  · have ghk8abn := no_f ghk8ab
                    try simp only [go_sem, n1, n2, n3, n4, hk1, hk2, ghk4, hhk4, hk5, ghk6, ghk7a, ghk7bn] at ghk8aa
                    all_goals
                    try simp only [go_sem, n1, n2, n3, n4, hk1, hk2, ghk4, hhk4, hk5, ghk6, ghk7a, ghk7bn, ghk8aa] at ghk8abn
                    all_goals
                    rcases it_some h with ⟨hk9, h⟩ | ⟨hk9, h⟩
                    · try simp only [go_sem, n1, n2, n3, n4, hk1, hk2, ghk4, hhk4, hk5, ghk6, ghk7a, ghk7bn, ghk8aa, ghk8abn] at hk9
                      all_goals
                      obtain rfl := so_some h
                      refine ⟨0, fun L hL => ?_⟩
                      simp only [go_sem, ir52, E_impl_ordered_l1, R_impl_ordered_l1, ir52_b0, ir52_k0, ir52_o0, ir52_r0, hk1, hk2, lhk2, xhk2, fhk3, ghk4, hhk4, fhk4, hk5, ghk6, ghk7a, ghk7bn, ghk8aa, ghk8abn, hk9]
                    · try simp only [go_sem, n1, n2, n3, n4, hk1, hk2, ghk4, hhk4, hk5, ghk6, ghk7a, ghk7bn, ghk8aa, ghk8abn] at hk9
                      all_goals
                      obtain rfl := so_some h
                      refine ⟨0, fun L hL => ?_⟩
                      simp only [go_sem, ir52, E_impl_ordered_l1, R_impl_ordered_l1, ir52_b0, ir52_k0, ir52_o0, ir52_r0, hk1, hk2, lhk2, xhk2, fhk3, ghk4, hhk4, fhk4, hk5, ghk6, ghk7a, ghk7bn, ghk8aa, ghk8abn, hk9]
                · obtain ⟨ghk8aa, ghk8ab⟩ := and_t ghk8a
                  have ghk8abn := no_t ghk8ab
                  try simp only [go_sem, n1, n2, n3, n4, hk1, hk2, ghk4, hhk4, hk5, ghk6, ghk7a, ghk7bn] at ghk8aa
                  all_goals
                  try simp only [go_sem, n1, n2, n3, n4, hk1, hk2, ghk4, hhk4, hk5, ghk6, ghk7a, ghk7bn, ghk8aa] at ghk8abn
                  all_goals
                  try simp only [go_sem, n1, n2, n3, n4, hk1, hk2, ghk4, hhk4, hk5, ghk6, ghk7a, ghk7bn, ghk8aa, ghk8abn] at ghk8b
                  all_goals
                  rcases it_some h with ⟨hk9, h⟩ | ⟨hk9, h⟩
                  · try simp only [go_sem, n1, n2, n3, n4, hk1, hk2, ghk4, hhk4, hk5, ghk6, ghk7a, ghk7bn, ghk8aa, ghk8abn, ghk8b] at hk9
                    all_goals
                    obtain rfl := so_some h
                    refine ⟨0, fun L hL => ?_⟩
                    simp only [go_sem, ir52, E_impl_ordered_l1, R_impl_ordered_l1, ir52_b0, ir52_k0, ir52_o0, ir52_r0, hk1, hk2, lhk2, xhk2, fhk3, ghk4, hhk4, fhk4, hk5, ghk6, ghk7a, ghk7bn, ghk8aa, ghk8abn, ghk8b, hk9]
                  · try simp only [go_sem, n1, n2, n3, n4, hk1, hk2, ghk4, hhk4, hk5, ghk6, ghk7a, ghk7bn, ghk8aa, ghk8abn, ghk8b] at hk9
                    all_goals
                    obtain rfl := so_some h
                    refine ⟨0, fun L hL => ?_⟩
                    simp only [go_sem, ir52, E_impl_ordered_l1, R_impl_ordered_l1, ir52_b0, ir52_k0, ir52_o0, ir52_r0, hk1, hk2, lhk2, xhk2, fhk3, ghk4, hhk4, fhk4, hk5, ghk6, ghk7a, ghk7bn, ghk8aa, ghk8abn, ghk8b, hk9]
    · have ghk4n := no_f ghk4
      have ghk4nn := no_t ghk4n
      try simp only [go_sem, n1, n2, n3, n4, hk1, hk2] at ghk4nn
      all_goals
      rcases it_some h with ⟨hk5, h⟩ | ⟨hk5, h⟩
      · try simp only [go_sem, n1, n2, n3, n4, hk1, hk2, ghk4nn] at hk5
        all_goals
        obtain rfl := so_some h
        refine ⟨0, fun L hL => ?_⟩
        simp only [go_sem, ir52, E_impl_ordered_l1, R_impl_ordered_l1, ir52_b0, ir52_k0, ir52_o0, ir52_r0, hk1, hk2, lhk2, xhk2, fhk3, ghk4nn, hk5]
      · try simp only [go_sem, n1, n2, n3, n4, hk1, hk2, ghk4nn] at hk5
        all_goals
        obtain ⟨hk6, h⟩ := ck_some h
        rcases or_split hk6 with ⟨ghk6, hk6⟩ | ghk6
        · try simp only [go_sem, n1, n2, n3, n4, hk1, hk2, ghk4nn, hk5] at ghk6
          all_goals
          have lhk6 := ix_lt hk6
          have xhk6 := getD_mapD Fault_av faults lhk6
          try simp only [go_sem] at lhk6
          try simp only [go_sem] at xhk6
          try simp only [go_sem, n1, n2, n3, n4, hk1, hk2, ghk4nn, hk5, ghk6] at hk6
          all_goals
          obtain ⟨hk7, h⟩ := ck_some h
          rcases or_split hk7 with ⟨ghk7, hk7⟩ | ghk7
          · try simp only [go_sem, n1, n2, n3, n4, hk1, hk2, ghk4nn, hk5, ghk6, hk6] at ghk7
            all_goals
            have lhk7 := ix_lt hk7
            have xhk7 := getD_mapD Fault_av faults lhk7
            try simp only [go_sem] at lhk7
            try simp only [go_sem] at xhk7
            try simp only [go_sem, n1, n2, n3, n4, hk1, hk2, ghk4nn, hk5, ghk6, hk6, ghk7] at hk7
            all_goals
            obtain ⟨hk8, h⟩ := ck_some h
            rcases or_split hk8 with ⟨ghk8, hk8⟩ | ghk8
            · try simp only [go_sem, n1, n2, n3, n4, hk1, hk2, ghk4nn, hk5, ghk6, hk6, ghk7, hk7] at ghk8
              all_goals
              have lhk8 := ix_lt hk8
              have xhk8 := getD_mapD Fault_av faults lhk8
              try simp only [go_sem] at lhk8
              try simp only [go_sem] at xhk8
              try simp only [go_sem, n1, n2, n3, n4, hk1, hk2, ghk4nn, hk5, ghk6, hk6, ghk7, hk7, ghk8] at hk8
              all_goals
              rcases it_some h with ⟨hk9, h⟩ | ⟨hk9, h⟩
              · try simp only [go_sem, n1, n2, n3, n4, hk1, hk2, ghk4nn, hk5, ghk6, hk6, ghk7, hk7, ghk8, hk8] at hk9
                all_goals
                obtain rfl := so_some h
                refine ⟨0, fun L hL => ?_⟩
                simp only [go_sem, ir52, E_impl_ordered_l1, R_impl_ordered_l1, ir52_b0, ir52_k0, ir52_o0, ir52_r0, hk1, hk2, lhk2, xhk2, fhk3, ghk4nn, hk5, ghk6, hk6, lhk6, xhk6, ghk7, hk7, lhk7, xhk7, ghk8, hk8, lhk8, xhk8, hk9]
              · try simp only [go_sem, n1, n2, n3, n4, hk1, hk2, ghk4nn, hk5, ghk6, hk6, ghk7, hk7, ghk8, hk8] at hk9
                all_goals
                obtain rfl := so_some h
                refine ⟨0, fun L hL => ?_⟩
                simp only [go_sem, ir52, E_impl_ordered_l1, R_impl_ordered_l1, ir52_b0, ir52_k0, ir52_o0, ir52_r0, hk1, hk2, lhk2, xhk2, fhk3, ghk4nn, hk5, ghk6, hk6, lhk6, xhk6, ghk7, hk7, lhk7, xhk7, ghk8, hk8, lhk8, xhk8, hk9]
            · rcases and_f ghk8 with ghk8a | ⟨ghk8a, ghk8b⟩
              · rcases and_f ghk8a with ghk8aa | ⟨ghk8aa, ghk8ab⟩
                · try simp only [go_sem, n1, n2, n3, n4, hk1, hk2, ghk4nn, hk5, ghk6, hk6, ghk7, hk7] at ghk8aa
                  all_goals
                  rcases it_some h with ⟨hk9, h⟩ | ⟨hk9, h⟩
                  · try simp only [go_sem, n1, n2, n3, n4, hk1, hk2, ghk4nn, hk5, ghk6, hk6, ghk7, hk7, ghk8aa] at hk9
                    all_goals
                    obtain rfl := so_some h
                    refine ⟨0, fun L hL => ?_⟩
                    simp only [go_sem, ir52, E_impl_ordered_l1, R_impl_ordered_l1, ir52_b0, ir52_k0, ir52_o0, ir52_r0, hk1, hk2, lhk2, xhk2, fhk3, ghk4nn, hk5, ghk6, hk6, lhk6, xhk6, ghk7, hk7, lhk7, xhk7, ghk8aa, hk9]
                  · try simp only [go_sem, n1, n2, n3, n4, hk1, hk2, ghk4nn, hk5, ghk6, hk6, ghk7, hk7, ghk8aa] at hk9
                    all_goals
                    obtain rfl := so_some h
                    refine ⟨0, fun L hL => ?_⟩
                    simp only [go_sem, ir52, E_impl_ordered_l1, R_impl_ordered_l1, ir52_b0, ir52_k0, ir52_o0, ir52_r0, hk1, hk2, lhk2, xhk2, fhk3, ghk4nn, hk5, ghk6, hk6, lhk6, xhk6, ghk7, hk7, lhk7, xhk7, ghk8aa, hk9]
                · have ghk8abn := no_f ghk8ab
                  try simp only [go_sem, n1, n2, n3, n4, hk1, hk2, ghk4nn, hk5, ghk6, hk6, ghk7, hk7] at ghk8aa
                  all_goals
                  try simp only [go_sem, n1, n2, n3, n4, hk1, hk2, ghk4nn, hk5, ghk6, hk6, ghk7, hk7, ghk8aa] at ghk8abn
                  all_goals
                  rcases it_some h with ⟨hk9, h⟩ | ⟨hk9, h⟩
                  · try simp only [go_sem, n1, n2, n3, n4, hk1, hk2, ghk4nn, hk5, ghk6, hk6, ghk7, hk7, ghk8aa, ghk8abn] at hk9
                    all_goals
                    obtain rfl := so_some h
                    refine ⟨0, fun L hL => ?_⟩
                    simp only [go_sem, ir52, E_impl_ordered_l1, R_impl_ordered_l1, ir52_b0, ir52_k0, ir52_o0, ir52_r0, hk1, hk2, lhk2, xhk2, fhk3, ghk4nn, hk5, ghk6, hk6, lhk6, xhk6, ghk7, hk7, lhk7, xhk7, ghk8aa, ghk8abn, hk9]
                  · try simp only [go_sem, n1, n2, n3, n4, hk1, hk2, ghk4nn, hk5, ghk6, hk6, ghk7, hk7, ghk8aa, ghk8abn] at hk9
                    all_goals
                    obtain rfl := so_some h
                    refine ⟨0, fun L hL => ?_⟩
                    simp only [go_sem, ir52, E_impl_ordered_l1, R_impl_ordered_l1, ir52_b0, ir52_k0, ir52_o0, ir52_r0, hk1, hk2, lhk2, xhk2, fhk3, ghk4nn, hk5, ghk6, hk6, lhk6, xhk6, ghk7, hk7, lhk7, xhk7, ghk8aa, ghk8abn, hk9]
              · obtain ⟨ghk8aa, ghk8ab⟩ := and_t ghk8a
                have ghk8abn := no_t ghk8ab
                try simp only [go_sem, n1, n2, n3, n4, hk1, hk2, ghk4nn, hk5, ghk6, hk6, ghk7, hk7] at ghk8aa
                all_goals
                try simp only [go_sem, n1, n2, n3, n4, hk1, hk2, ghk4nn, hk5, ghk6, hk6, ghk7, hk7, ghk8aa] at ghk8abn
                all_goals
                try simp only [go_sem, n1, n2, n3, n4, hk1, hk2, ghk4nn, hk5, ghk6, hk6, ghk7, hk7, ghk8aa, ghk8abn] at ghk8b
                all_goals
                rcases it_some h with ⟨hk9, h⟩ | ⟨hk9, h⟩
                · try simp only [go_sem, n1, n2, n3, n4, hk1, hk2, ghk4nn, hk5, ghk6, hk6, ghk7, hk7, ghk8aa, ghk8abn, ghk8b] at hk9
                  all_goals
                  obtain rfl := so_some h
                  refine ⟨0, fun L hL => ?_⟩
                  simp only [go_sem, ir52, E_impl_ordered_l1, R_impl_ordered_l1, ir52_b0, ir52_k0, ir52_o0, ir52_r0, hk1, hk2, lhk2, xhk2, fhk3, ghk4nn, hk5, ghk6, hk6, lhk6, xhk6, ghk7, hk7, lhk7, xhk7, ghk8aa, ghk8abn, ghk8b, hk9]
                · try simp only [go_sem, n1, n2, n3, n4, hk1, hk2, ghk4nn, hk5, ghk6, hk6, ghk7, hk7, ghk8aa, ghk8abn, ghk8b] at hk9
                  all_goals
                  obtain rfl := so_some h
                  refine ⟨0, fun L hL => ?_⟩
                  simp only [go_sem, ir52, E_impl_ordered_l1, R_impl_ordered_l1, ir52_b0, ir52_k0, ir52_o0, ir52_r0, hk1, hk2, lhk2, xhk2, fhk3, ghk4nn, hk5, ghk6, hk6, lhk6, xhk6, ghk7, hk7, lhk7, xhk7, ghk8aa, ghk8abn, ghk8b, hk9]
          · rcases and_f ghk7 with ghk7a | ⟨ghk7a, ghk7b⟩
            · try simp only [go_sem, n1, n2, n3, n4, hk1, hk2, ghk4nn, hk5, ghk6, hk6] at ghk7a
              all_goals
              obtain ⟨hk8, h⟩ := ck_some h
              rcases or_split hk8 with ⟨ghk8, hk8⟩ | ghk8
              · try simp only [go_sem, n1, n2, n3, n4, hk1, hk2, ghk4nn, hk5, ghk6, hk6, ghk7a] at ghk8
                all_goals
                have lhk8 := ix_lt hk8
                have xhk8 := getD_mapD Fault_av faults lhk8
                try simp only [go_sem] at lhk8
                try simp only [go_sem] at xhk8
                try simp only [go_sem, n1, n2, n3, n4, hk1, hk2, ghk4nn, hk5, ghk6, hk6, ghk7a, ghk8] at hk8
                all_goals
                rcases it_some h with ⟨hk9, h⟩ | ⟨hk9, h⟩
                · try simp only [go_sem, n1, n2, n3, n4, hk1, hk2, ghk4nn, hk5, ghk6, hk6, ghk7a, ghk8, hk8] at hk9
                  all_goals
                  obtain rfl := so_some h
                  refine ⟨0, fun L hL => ?_⟩
                  simp only [go_sem, ir52, E_impl_ordered_l1, R_impl_ordered_l1, ir52_b0, ir52_k0, ir52_o0, ir52_r0, hk1, hk2, lhk2, xhk2, fhk3, ghk4nn, hk5, ghk6, hk6, lhk6, xhk6, ghk7a, ghk8, hk8, lhk8, xhk8, hk9]
                · try simp only [go_sem, n1, n2, n3, n4, hk1, hk2, ghk4nn, hk5, ghk6, hk6, ghk7a, ghk8, hk8] at hk9
                  all_goals
                  obtain rfl := so_some h
                  refine ⟨0, fun L hL => ?_⟩
                  simp only [go_sem, ir52, E_impl_ordered_l1, R_impl_ordered_l1, ir52_b0, ir52_k0, ir52_o0, ir52_r0, hk1, hk2, lhk2, xhk2, fhk3, ghk4nn, hk5, ghk6, hk6, lhk6, xhk6, ghk7a, ghk8, hk8, lhk8, xhk8, hk9]
              · rcases and_f ghk8 with ghk8a | ⟨ghk8a, ghk8b⟩
                · rcases and_f ghk8a with ghk8aa | ⟨ghk8aa, ghk8ab⟩
                  · try simp only [go_sem, n1, n2, n3, n4, hk1, hk2, ghk4nn, hk5, ghk6, hk6, ghk7a] at ghk8aa
                    all_goals
                    rcases it_some h with ⟨hk9, h⟩ | ⟨hk9, h⟩
                    · try simp only [go_sem, n1, n2, n3, n4, hk1, hk2, ghk4nn, hk5, ghk6, hk6, ghk7a, ghk8aa] at hk9
                      all_goals
                      obtain rfl := so_some h
                      refine ⟨0, fun L hL => ?_⟩
                      simp only [go_sem, ir52, E_impl_ordered_l1, R_impl_ordered_l1, ir52_b0, ir52_k0, ir52_o0, ir52_r0, hk1, hk2, lhk2, xhk2, fhk3, ghk4nn, hk5, ghk6, hk6, lhk6, xhk6, ghk7a, ghk8aa, hk9]
                    · try simp only [go_sem, n1, n2, n3, n4, hk1, hk2, ghk4nn, hk5, ghk6, hk6, ghk7a, ghk8aa] at hk9
                      all_goals
                      obtain rfl := so_some h
                      refine ⟨0, fun L hL => ?_⟩
                      simp only [go_sem, ir52, E_impl_ordered_l1, R_impl_ordered_l1, ir52_b0, ir52_k0, ir52_o0, ir52_r0, hk1, hk2, lhk2, xhk2, fhk3, ghk4nn, hk5, ghk6, hk6, lhk6, xhk6, ghk7a, ghk8aa, hk9]
                  · have ghk8abn := no_f ghk8ab
                    try simp only [go_sem, n1, n2, n3, n4, hk1, hk2, ghk4nn, hk5, ghk6, hk6, ghk7a] at ghk8aa
                    all_goals
                    try simp only [go_sem, n1, n2, n3, n4, hk1, hk2, ghk4nn, hk5, ghk6, hk6, ghk7a, ghk8aa] at ghk8abn
                    all_goals
                    rcases it_some h with ⟨hk9, h⟩ | ⟨hk9, h⟩
                    · try simp only [go_sem, n1, n2, n3, n4, hk1, hk2, ghk4nn, hk5, ghk6, hk6, ghk7a, ghk8aa, ghk8abn] at hk9
                      all_goals
                      obtain rfl := so_some h
                      refine ⟨0, fun L hL => ?_⟩
                      simp only [go_sem, ir52, E_impl_ordered_l1, R_impl_ordered_l1, ir52_b0, ir52_k0, ir52_o0, ir52_r0, hk1, hk2, lhk2, xhk2, fhk3, ghk4nn, hk5, ghk6, hk6, lhk6, xhk6, ghk7a, ghk8aa, ghk8abn, hk9]
                    · try simp only [go_sem, n1, n2, n3, n4, hk1, hk2, ghk4nn, hk5, ghk6, hk6, ghk7a, ghk8aa, ghk8abn] at hk9
                      all_goals
                      obtain rfl := so_some h
                      refine ⟨0, fun L hL => ?_⟩
                      simp only [go_sem, ir52, E_impl_ordered_l1, R_impl_ordered_l1, ir52_b0, ir52_k0, ir52_o0, ir52_r0, hk1, hk2, lhk2, xhk2, fhk3, ghk4nn, hk5, ghk6, hk6, lhk6, xhk6, ghk7a, ghk8aa, ghk8abn, hk9]
                · obtain ⟨ghk8aa, ghk8ab⟩ := and_t ghk8a
                  have ghk8abn := no_t ghk8ab
                  try simp only [go_sem, n1, n2, n3, n4, hk1, hk2, ghk4nn, hk5, ghk6, hk6, ghk7a] at ghk8aa
                  all_goals
                  try simp only [go_sem, n1, n2, n3, n4, hk1, hk2, ghk4nn, hk5, ghk6, hk6, ghk7a, ghk8aa] at ghk8abn
                  all_goals
                  try simp only [go_sem, n1, n2, n3, n4, hk1, hk2, ghk4nn, hk5, ghk6, hk6, ghk7a, ghk8aa, ghk8abn] at ghk8b
                  all_goals
                  rcases it_some h with ⟨hk9, h⟩ | ⟨hk9, h⟩
                  · try simp only [go_sem, n1, n2, n3, n4, hk1, hk2, ghk4nn, hk5, ghk6, hk6, ghk7a, ghk8aa, ghk8abn, ghk8b] at hk9
                    all_goals
                    obtain rfl := so_some h
                    refine ⟨0, fun L hL => ?_⟩
                    simp only [go_sem, ir52, E_impl_ordered_l1, R_impl_ordered_l1, ir52_b0, ir52_k0, ir52_o0, ir52_r0, hk1, hk2, lhk2, xhk2, fhk3, ghk4nn, hk5, ghk6, hk6, lhk6, xhk6, ghk7a, ghk8aa, ghk8abn, ghk8b, hk9]
                  · try simp only [go_sem, n1, n2, n3, n4, hk1, hk2, ghk4nn, hk5, ghk6, hk6, ghk7a, ghk8aa, ghk8abn, ghk8b] at hk9
                    all_goals
                    obtain rfl := so_some h
                    refine ⟨0, fun L hL => ?_⟩
                    simp only [go_sem, ir52, E_impl_ordered_l1, R_impl_ordered_l1, ir52_b0, ir52_k0, ir52_o0, ir52_r0, hk1, hk2, lhk2, xhk2, fhk3, ghk4nn, hk5, ghk6, hk6, lhk6, xhk6, ghk7a, ghk8aa, ghk8abn, ghk8b, hk9]
            · have ghk7bn := no_f ghk7b
              try simp only [go_sem, n1, n2, n3, n4, hk1, hk2, ghk4nn, hk5, ghk6, hk6] at ghk7a
              all_goals
              try simp only [go_sem, n1, n2, n3, n4, hk1, hk2, ghk4nn, hk5, ghk6, hk6, ghk7a] at ghk7bn
              all_goals
              obtain ⟨hk8, h⟩ := ck_some h
              rcases or_split hk8 with ⟨ghk8, hk8⟩ | ghk8
              · try simp only [go_sem, n1, n2, n3, n4, hk1, hk2, ghk4nn, hk5, ghk6, hk6, ghk7a, ghk7bn] at ghk8
                all_goals
                have lhk8 := ix_lt hk8
                have xhk8 := getD_mapD Fault_av faults lhk8
                try simp only [go_sem] at lhk8
                try simp only [go_sem] at xhk8
                try simp only [go_sem, n1, n2, n3, n4, hk1, hk2, ghk4nn, hk5, ghk6, hk6, ghk7a, ghk7bn, ghk8] at hk8
                all_goals
                rcases it_some h with ⟨hk9, h⟩ | ⟨hk9, h⟩
                · try simp only [go_sem, n1, n2, n3, n4, hk1, hk2, ghk4nn, hk5, ghk6, hk6, ghk7a, ghk7bn, ghk8, hk8] at hk9
                  all_goals
                  obtain rfl := so_some h
                  refine ⟨0, fun L hL => ?_⟩
                  simp only [go_sem, ir52, E_impl_ordered_l1, R_impl_ordered_l1, ir52_b0, ir52_k0, ir52_o0, ir52_r0, hk1, hk2, lhk2, xhk2, fhk3, ghk4nn, hk5, ghk6, hk6, lhk6, xhk6, ghk7a, ghk7bn, ghk8, hk8, lhk8, xhk8, hk9]
                · try simp only [go_sem, n1, n2, n3, n4, hk1, hk2, ghk4nn, hk5, ghk6, hk6, ghk7a, ghk7bn, ghk8, hk8] at hk9
                  all_goals
                  obtain rfl := so_some h
                  refine ⟨0, fun L hL => ?_⟩
                  simp only [go_sem, ir52, E_impl_ordered_l1, R_impl_ordered_l1, ir52_b0, ir52_k0, ir52_o0, ir52_r0, hk1, hk2, lhk2, xhk2, fhk3, ghk4nn, hk5, ghk6, hk6, lhk6, xhk6, ghk7a, ghk7bn, ghk8, hk8, lhk8, xhk8, hk9]
              · rcases and_f ghk8 with ghk8a | ⟨ghk8a, ghk8b⟩
                · rcases and_f ghk8a with ghk8aa | ⟨ghk8aa, ghk8ab⟩
                  · try simp only [go_sem, n1, n2, n3, n4, hk1, hk2, ghk4nn, hk5, ghk6, hk6, ghk7a, ghk7bn] at ghk8aa
                    all_goals
                    rcases it_some h with ⟨hk9, h⟩ | ⟨hk9, h⟩
                    · try simp only [go_sem, n1, n2, n3, n4, hk1, hk2, ghk4nn, hk5, ghk6, hk6, ghk7a, ghk7bn, ghk8aa] at hk9
                      all_goals
                      obtain rfl := so_some h
                      refine ⟨0, fun L hL => ?_⟩
                      simp only [go_sem, ir52, E_impl_ordered_l1, R_impl_ordered_l1, ir52_b0, ir52_k0, ir52_o0, ir52_r0, hk1, hk2, lhk2, xhk2, fhk3, ghk4nn, hk5, ghk6, hk6, lhk6, xhk6, ghk7a, ghk7bn, ghk8aa, hk9]
                    · try simp only [go_sem, n1, n2, n3, n4, hk1, hk2, ghk4nn, hk5, ghk6, hk6, ghk7a, ghk7bn, ghk8aa] at hk9
                      all_goals
                      obtain rfl := so_some h
                      refine ⟨0, fun L hL => ?_⟩
                      simp only [go_sem, ir52, E_impl_ordered_l1, R_impl_ordered_l1, ir52_b0, ir52_k0, ir52_o0, ir52_r0, hk1, hk2, lhk2, xhk2, fhk3, ghk4nn, hk5, ghk6, hk6, lhk6, xhk6, ghk7a, ghk7bn, ghk8aa, hk9]
                  · have ghk8abn := no_f ghk8ab
                    try simp only [go_sem, n1, n2, n3, n4, hk1, hk2, ghk4nn, hk5, ghk6, hk6, ghk7a, ghk7bn] at ghk8aa
                    all_goals
                    try simp only [go_sem, n1, n2, n3, n4, hk1, hk2, ghk4nn, hk5, ghk6, hk6, ghk7a, ghk7bn, ghk8aa] at ghk8abn
                    all_goals
                    rcases it_some h with ⟨hk9, h⟩ | ⟨hk9, h⟩
                    · try simp only [go_sem, n1, n2, n3, n4, hk1, hk2, ghk4nn, hk5, ghk6, hk6, ghk7a, ghk7bn, ghk8aa, ghk8abn] at hk9
                      all_goals
                      obtain rfl := so_some h
                      refine ⟨0, fun L hL => ?_⟩
                      simp only [go_sem, ir52, E_impl_ordered_l1, R_impl_ordered_l1, ir52_b0, ir52_k0, ir52_o0, ir52_r0, hk1, hk2, lhk2, xhk2, fhk3, ghk4nn, hk5, ghk6, hk6, lhk6, xhk6, ghk7a, ghk7bn, ghk8aa, ghk8abn, hk9]
                    · try simp only [go_sem, n1, n2, n3, n4, hk1, hk2, ghk4nn, hk5, ghk6, hk6, ghk7a, ghk7bn, ghk8aa, ghk8abn] at hk9
                      all_goals
                      obtain rfl := so_some h
                      refine ⟨0, fun L hL => ?_⟩
                      simp only [go_sem, ir52, E_impl_ordered_l1, R_impl_ordered_l1, ir52_b0, ir52_k0, ir52_o0, ir52_r0, hk1, hk2, lhk2, xhk2, fhk3, ghk4nn, hk5, ghk6, hk6, lhk6, xhk6, ghk7a, ghk7bn, ghk8aa, ghk8abn, hk9]
                · obtain ⟨ghk8aa, ghk8ab⟩ := and_t ghk8a
                  have ghk8abn := no_t ghk8ab
                  try simp only [go_sem, n1, n2, n3, n4, hk1, hk2, ghk4nn, hk5, ghk6, hk6, ghk7a, ghk7bn] at ghk8aa
                  all_goals
                  try simp only [go_sem, n1, n2, n3, n4, hk1, hk2, ghk4nn, hk5, ghk6, hk6, ghk7a, ghk7bn, ghk8aa] at ghk8abn
                  all_goals
                  try simp only [go_sem, n1, n2, n3, n4, hk1, hk2, ghk4nn, hk5, ghk6, hk6, ghk7a, ghk7bn, ghk8aa, ghk8abn] at ghk8b
                  all_goals
                  rcases it_some h with ⟨hk9, h⟩ | ⟨hk9, h⟩
                  · try simp only [go_sem, n1, n2, n3, n4, hk1, hk2, ghk4nn, hk5, ghk6, hk6, ghk7a, ghk7bn, ghk8aa, ghk8abn, ghk8b] at hk9
                    all_goals
                    obtain rfl := so_some h
                    refine ⟨0, fun L hL => ?_⟩
                    simp only [go_sem, ir52, E_impl_ordered_l1, R_impl_ordered_l1, ir52_b0, ir52_k0, ir52_o0, ir52_r0, hk1, hk2, lhk2, xhk2, fhk3, ghk4nn, hk5, ghk6, hk6, lhk6, xhk6, ghk7a, ghk7bn, ghk8aa, ghk8abn, ghk8b, hk9]
                  · try simp only [go_sem, n1, n2, n3, n4, hk1, hk2, ghk4nn, hk5, ghk6, hk6, ghk7a, ghk7bn, ghk8aa, ghk8abn, ghk8b] at hk9
                    all_goals
                    obtain rfl := so_some h
                    refine ⟨0, fun L hL => ?_⟩
                    simp only [go_sem, ir52, E_impl_ordered_l1, R_impl_ordered_l1, ir52_b0, ir52_k0, ir52_o0, ir52_r0, hk1, hk2, lhk2, xhk2, fhk3, ghk4nn, hk5, ghk6, hk6, lhk6, xhk6, ghk7a, ghk7bn, ghk8aa, ghk8abn, ghk8b, hk9]
        · try simp only [go_sem, n1, n2, n3, n4, hk1, hk2, ghk4nn, hk5] at ghk6
          all_goals
          obtain ⟨hk7, h⟩ := ck_some h
          rcases or_split hk7 with ⟨ghk7, hk7⟩ | ghk7
          · try simp only [go_sem, n1, n2, n3, n4, hk1, hk2, ghk4nn, hk5, ghk6] at ghk7
            all_goals
            have lhk7 := ix_lt hk7
            have xhk7 := getD_mapD Fault_av faults lhk7
            try simp only [go_sem] at lhk7
            try simp only [go_sem] at xhk7
            try simp only [go_sem, n1, n2, n3, n4, hk1, hk2, ghk4nn, hk5, ghk6, ghk7] at hk7
            all_goals
            obtain ⟨hk8, h⟩ := ck_some h
            rcases or_split hk8 with ⟨ghk8, hk8⟩ | ghk8
            · try simp only [go_sem, n1, n2, n3, n4, hk1, hk2, ghk4nn, hk5, ghk6, ghk7, hk7] at ghk8
              all_goals
              have lhk8 := ix_lt hk8
              have xhk8 := getD_mapD Fault_av faults lhk8
              try simp only [go_sem] at lhk8
              try simp only [go_sem] at xhk8
              try simp only [go_sem, n1, n2, n3, n4, hk1, hk2, ghk4nn, hk5, ghk6, ghk7, hk7, ghk8] at hk8
              all_goals
              rcases it_some h with ⟨hk9, h⟩ | ⟨hk9, h⟩
              · try simp only [go_sem, n1, n2, n3, n4, hk1, hk2, ghk4nn, hk5, ghk6, ghk7, hk7, ghk8, hk8] at hk9
                all_goals
                obtain rfl := so_some h
                refine ⟨0, fun L hL => ?_⟩
                simp only [go_sem, ir52, E_impl_ordered_l1, R_impl_ordered_l1, ir52_b0, ir52_k0, ir52_o0, ir52_r0, hk1, hk2, lhk2, xhk2, fhk3, ghk4nn, hk5, ghk6, ghk7, hk7, lhk7, xhk7, ghk8, hk8, lhk8, xhk8, hk9]
              · try simp only [go_sem, n1, n2, n3, n4, hk1, hk2, ghk4nn, hk5, ghk6, ghk7, hk7, ghk8, hk8] at hk9
                all_goals
                obtain rfl := so_some h
                refine ⟨0, fun L hL => ?_⟩
                simp only [go_sem, ir52, E_impl_ordered_l1, R_impl_ordered_l1, ir52_b0, ir52_k0, ir52_o0, ir52_r0, hk1, hk2, lhk2, xhk2, fhk3, ghk4nn, hk5, ghk6, ghk7, hk7, lhk7, xhk7, ghk8, hk8, lhk8, xhk8, hk9]
            · rcases and_f ghk8 with ghk8a | ⟨ghk8a, ghk8b⟩
              · rcases and_f ghk8a with ghk8aa | ⟨ghk8aa, ghk8ab⟩
                · try simp only [go_sem, n1, n2, n3, n4, hk1, hk2, ghk4nn, hk5, ghk6, ghk7, hk7] at ghk8aa
                  all_goals
                  rcases it_some h with ⟨hk9, h⟩ | ⟨hk9, h⟩
                  · try simp only [go_sem, n1, n2, n3, n4, hk1, hk2, ghk4nn, hk5, ghk6, ghk7, hk7, ghk8aa] at hk9
                    all_goals
                    obtain rfl := so_some h
                    refine ⟨0, fun L hL => ?_⟩
                    simp only [go_sem, ir52, E_impl_ordered_l1, R_impl_ordered_l1, ir52_b0, ir52_k0, ir52_o0, ir52_r0, hk1, hk2, lhk2, xhk2, fhk3, ghk4nn, hk5, ghk6, ghk7, hk7, lhk7, xhk7, ghk8aa, hk9]
                  · try simp only [go_sem, n1, n2, n3, n4, hk1, hk2, ghk4nn, hk5, ghk6, ghk7, hk7, ghk8aa] at hk9
                    all_goals
                    obtain rfl := so_some h
                    refine ⟨0, fun L hL => ?_⟩
                    simp only [go_sem, ir52, E_impl_ordered_l1, R_impl_ordered_l1, ir52_b0, ir52_k0, ir52_o0, ir52_r0, hk1, hk2, lhk2, xhk2, fhk3, ghk4nn, hk5, ghk6, ghk7, hk7, lhk7, xhk7, ghk8aa, hk9]
                · have ghk8abn := no_f ghk8ab
                  try simp only [go_sem, n1, n2, n3, n4, hk1, hk2, ghk4nn, hk5, ghk6, ghk7, hk7] at ghk8aa
                  all_goals
                  try simp only [go_sem, n1, n2, n3, n4, hk1, hk2, ghk4nn, hk5, ghk6, ghk7, hk7, ghk8aa] at ghk8abn
                  all_goals
                  rcases it_some h with ⟨hk9, h⟩ | ⟨hk9, h⟩
                  · try simp only [go_sem, n1, n2, n3, n4, hk1, hk2, ghk4nn, hk5, ghk6, ghk7, hk7, ghk8aa, ghk8abn] at hk9
                    all_goals
                    obtain rfl := so_some h
                    refine ⟨0, fun L hL => ?_⟩
                    simp only [go_sem, ir52, E_impl_ordered_l1, R_impl_ordered_l1, ir52_b0, ir52_k0, ir52_o0, ir52_r0, hk1, hk2, lhk2, xhk2, fhk3, ghk4nn, hk5, ghk6, ghk7, hk7, lhk7, xhk7, ghk8aa, ghk8abn, hk9]
                  · try simp only [go_sem, n1, n2, n3, n4, hk1, hk2, ghk4nn, hk5, ghk6, ghk7, hk7, ghk8aa, ghk8abn] at hk9
                    all_goals
                    obtain rfl := so_some h
                    refine ⟨0, fun L hL => ?_⟩
                    simp only [go_sem, ir52, E_impl_ordered_l1, R_impl_ordered_l1, ir52_b0, ir52_k0, ir52_o0, ir52_r0, hk1, hk2, lhk2, xhk2, fhk3, ghk4nn, hk5, ghk6, ghk7, hk7, lhk7, xhk7, ghk8aa, ghk8abn, hk9]
              · obtain ⟨ghk8aa, ghk8ab⟩ := and_t ghk8a
                have ghk8abn := no_t ghk8ab
                try simp only [go_sem, n1, n2, n3, n4, hk1, hk2, ghk4nn, hk5, ghk6, ghk7, hk7] at ghk8aa
                all_goals
                try simp only [go_sem, n1, n2, n3, n4, hk1, hk2, ghk4nn, hk5, ghk6, ghk7, hk7, ghk8aa] at ghk8abn
                all_goals
                try simp only [go_sem, n1, n2, n3, n4, hk1, hk2, ghk4nn, hk5, ghk6, ghk7, hk7, ghk8aa, ghk8abn] at ghk8b
                all_goals
                rcases it_some h with ⟨hk9, h⟩ | ⟨hk9, h⟩
                · try simp only [go_sem, n1, n2, n3, n4, hk1, hk2, ghk4nn, hk5, ghk6, ghk7, hk7, ghk8aa, ghk8abn, ghk8b] at hk9
                  all_goals
                  obtain rfl := so_some h
                  refine ⟨0, fun L hL => ?_⟩
                  simp only [go_sem, ir52, E_impl_ordered_l1, R_impl_ordered_l1, ir52_b0, ir52_k0, ir52_o0, ir52_r0, hk1, hk2, lhk2, xhk2, fhk3, ghk4nn, hk5, ghk6, ghk7, hk7, lhk7, xhk7, ghk8aa, ghk8abn, ghk8b, hk9]
                · try simp only [go_sem, n1, n2, n3, n4, hk1, hk2, ghk4nn, hk5, ghk6, ghk7, hk7, ghk8aa, ghk8abn, ghk8b] at hk9
                  all_goals
                  obtain rfl := so_some h
                  refine ⟨0, fun L hL => ?_⟩
                  simp only [go_sem, ir52, E_impl_ordered_l1, R_impl_ordered_l1, ir52_b0, ir52_k0, ir52_o0, ir52_r0, hk1, hk2, lhk2, xhk2, fhk3, ghk4nn, hk5, ghk6, ghk7, hk7, lhk7, xhk7, ghk8aa, ghk8abn, ghk8b, hk9]
          · rcases and_f ghk7 with ghk7a | ⟨ghk7a, ghk7b⟩
            · try simp only [go_sem, n1, n2, n3, n4, hk1, hk2, ghk4nn, hk5, ghk6] at ghk7a
              all_goals
              obtain ⟨hk8, h⟩ := ck_some h
              rcases or_split hk8 with ⟨ghk8, hk8⟩ | ghk8
              · try simp only [go_sem, n1, n2, n3, n4, hk1, hk2, ghk4nn, hk5, ghk6, ghk7a] at ghk8
                all_goals
                have lhk8 := ix_lt hk8
                have xhk8 := getD_mapD Fault_av faults lhk8
                try simp only [go_sem] at lhk8
                try simp only [go_sem] at xhk8
                try simp only [go_sem, n1, n2, n3, n4, hk1, hk2, ghk4nn, hk5, ghk6, ghk7a, ghk8] at hk8
                all_goals
                rcases it_some h with ⟨hk9, h⟩ | ⟨hk9, h⟩
                · try simp only [go_sem, n1, n2, n3, n4, hk1, hk2, ghk4nn, hk5, ghk6, ghk7a, ghk8, hk8] at hk9
                  all_goals
                  obtain rfl := so_some h
                  refine ⟨0, fun L hL => ?_⟩
                  simp only [go_sem, ir52, E_impl_ordered_l1, R_impl_ordered_l1, ir52_b0, ir52_k0, ir52_o0, ir52_r0, hk1, hk2, lhk2, xhk2, fhk3, ghk4nn, hk5, ghk6, ghk7a, ghk8, hk8, lhk8, xhk8, hk9]
                · try simp only [go_sem, n1, n2, n3, n4, hk1, hk2, ghk4nn, hk5, ghk6, ghk7a, ghk8, hk8] at hk9
                  all_goals
                  obtain rfl := so_some h
                  refine ⟨0, fun L hL => ?_⟩
                  simp only [go_sem, ir52, E_impl_ordered_l1, R_impl_ordered_l1, ir52_b0, ir52_k0, ir52_o0, ir52_r0, hk1, hk2, lhk2, xhk2, fhk3, ghk4nn, hk5, ghk6, ghk7a, ghk8, hk8, lhk8, xhk8, hk9]
              · rcases and_f ghk8 with ghk8a | ⟨ghk8a, ghk8b⟩
                · rcases and_f ghk8a with ghk8aa | ⟨ghk8aa, ghk8ab⟩
                  · try simp only [go_sem, n1, n2, n3, n4, hk1, hk2, ghk4nn, hk5, ghk6, ghk7a] at ghk8aa
                    all_goals
                    rcases it_some h with ⟨hk9, h⟩ | ⟨hk9, h⟩
                    · try simp only [go_sem, n1, n2, n3, n4, hk1, hk2, ghk4nn, hk5, ghk6, ghk7a, ghk8aa] at hk9
                      all_goals
                      obtain rfl := so_some h
                      refine ⟨0, fun L hL => ?_⟩
                      simp only [go_sem, ir52, E_impl_ordered_l1, R_impl_ordered_l1, ir52_b0, ir52_k0, ir52_o0, ir52_r0, hk1, hk2, lhk2, xhk2, fhk3, ghk4nn, hk5, ghk6, ghk7a, ghk8aa, hk9]
                    · try simp only [go_sem, n1, n2, n3, n4, hk1, hk2, ghk4nn, hk5, ghk6, ghk7a, ghk8aa] at hk9
                      all_goals
                      obtain rfl := so_some h
                      refine ⟨0, fun L hL => ?_⟩
                      simp only [go_sem, ir52, E_impl_ordered_l1, R_impl_ordered_l1, ir52_b0, ir52_k0, ir52_o0, ir52_r0, hk1, hk2, lhk2, xhk2, fhk3, ghk4nn, hk5, ghk6, ghk7a, ghk8aa, hk9]
                  · have ghk8abn := no_f ghk8ab
                    try simp only [go_sem, n1, n2, n3, n4, hk1, hk2, ghk4nn, hk5, ghk6, ghk7a] at ghk8aa
                    all_goals
                    try simp only [go_sem, n1, n2, n3, n4, hk1, hk2, ghk4nn, hk5, ghk6, ghk7a, ghk8aa] at ghk8abn
                    all_goals
                    rcases it_some h with ⟨hk9, h⟩ | ⟨hk9, h⟩
                    · try simp only [go_sem, n1, n2, n3, n4, hk1, hk2, ghk4nn, hk5, ghk6, ghk7a, ghk8aa, ghk8abn] at hk9
                      all_goals
                      obtain rfl := so_some h
                      refine ⟨0, fun L hL => ?_⟩
                      simp only [go_sem, ir52, E_impl_ordered_l1, R_impl_ordered_l1, ir52_b0, ir52_k0, ir52_o0, ir52_r0, hk1, hk2, lhk2, xhk2, fhk3, ghk4nn, hk5, ghk6, ghk7a, ghk8aa, ghk8abn, hk9]
                    · try simp only [go_sem, n1, n2, n3, n4, hk1, hk2, ghk4nn, hk5, ghk6, ghk7a, ghk8aa, ghk8abn] at hk9
                      all_goals
                      obtain rfl := so_some h
                      refine ⟨0, fun L hL => ?_⟩
                      simp only [go_sem, ir52, E_impl_ordered_l1, R_impl_ordered_l1, ir52_b0, ir52_k0, ir52_o0, ir52_r0, hk1, hk2, lhk2, xhk2, fhk3, ghk4nn, hk5, ghk6, ghk7a, ghk8aa, ghk8abn, hk9]
                · obtain ⟨ghk8aa, ghk8ab⟩ := and_t ghk8a
                  have ghk8abn := no_t ghk8ab
                  try simp only [go_sem, n1, n2, n3, n4, hk1, hk2, ghk4nn, hk5, ghk6, ghk7a] at ghk8aa
                  all_goals
                  try simp only [go_sem, n1, n2, n3, n4, hk1, hk2, ghk4nn, hk5, ghk6, ghk7a, ghk8aa] at ghk8abn
                  all_goals
                  try simp only [go_sem, n1, n2, n3, n4, hk1, hk2, ghk4nn, hk5, ghk6, ghk7a, ghk8aa, ghk8abn] at ghk8b
                  all_goals
                  rcases it_some h with ⟨hk9, h⟩ | ⟨hk9, h⟩
                  · try simp only [go_sem, n1, n2, n3, n4, hk1, hk2, ghk4nn, hk5, ghk6, ghk7a, ghk8aa, ghk8abn, ghk8b] at hk9
                    all_goals
                    obtain rfl := so_some h
                    refine ⟨0, fun L hL => ?_⟩
                    simp only [go_sem, ir52, E_impl_ordered_l1, R_impl_ordered_l1, ir52_b0, ir52_k0, ir52_o0, ir52_r0, hk1, hk2, lhk2, xhk2, fhk3, ghk4nn, hk5, ghk6, ghk7a, ghk8aa, ghk8abn, ghk8b, hk9]
                  · try simp only [go_sem, n1, n2, n3, n4, hk1, hk2, ghk4nn, hk5, ghk6, ghk7a, ghk8aa, ghk8abn, ghk8b] at hk9
                    all_goals
                    obtain rfl := so_some h
                    refine ⟨0, fun L hL => ?_⟩
                    simp only [go_sem, ir52, E_impl_ordered_l1, R_impl_ordered_l1, ir52_b0, ir52_k0, ir52_o0, ir52_r0, hk1, hk2, lhk2, xhk2, fhk3, ghk4nn, hk5, ghk6, ghk7a, ghk8aa, ghk8abn, ghk8b, hk9]
            · have ghk7bn := no_f ghk7b
              try simp only [go_sem, n1, n2, n3, n4, hk1, hk2, ghk4nn, hk5, ghk6] at ghk7a
              all_goals
              try simp only [go_sem, n1, n2, n3, n4, hk1, hk2, ghk4nn, hk5, ghk6, ghk7a] at ghk7bn
              all_goals
              obtain ⟨hk8, h⟩ := ck_some h
              rcases or_split hk8 with ⟨ghk8, hk8⟩ | ghk8
              · try simp only [go_sem, n1, n2, n3, n4, hk1, hk2, ghk4nn, hk5, ghk6, ghk7a, ghk7bn] at ghk8
                all_goals
                have lhk8 := ix_lt hk8
                have xhk8 := getD_mapD Fault_av faults lhk8
                try simp only [go_sem] at lhk8
                try simp only [go_sem] at xhk8
                try simp only [go_sem, n1, n2, n3, n4, hk1, hk2, ghk4nn, hk5, ghk6, ghk7a, ghk7bn, ghk8] at hk8
                all_goals
                rcases it_some h with ⟨hk9, h⟩ | ⟨hk9, h⟩
                · try simp only [go_sem, n1, n2, n3, n4, hk1, hk2, ghk4nn, hk5, ghk6, ghk7a, ghk7bn, ghk8, hk8] at hk9
                  all_goals
                  obtain rfl := so_some h
                  refine ⟨0, fun L hL => ?_⟩
                  simp only [go_sem, ir52, E_impl_ordered_l1, R_impl_ordered_l1, ir52_b0, ir52_k0, ir52_o0, ir52_r0, hk1, hk2, lhk2, xhk2, fhk3, ghk4nn, hk5, ghk6, ghk7a, ghk7bn, ghk8, hk8, lhk8, xhk8, hk9]
                · try simp only [go_sem, n1, n2, n3, n4, hk1, hk2, ghk4nn, hk5, ghk6, ghk7a, ghk7bn, ghk8, hk8] at hk9
                  all_goals
                  obtain rfl := so_some h
                  refine ⟨0, fun L hL => ?_⟩
                  simp only [go_sem, ir52, E_impl_ordered_l1, R_impl_ordered_l1, ir52_b0, ir52_k0, ir52_o0, ir52_r0, hk1, hk2, lhk2, xhk2, fhk3, ghk4nn, hk5, ghk6, ghk7a, ghk7bn, ghk8, hk8, lhk8, xhk8, hk9]
              · rcases and_f ghk8 with ghk8a | ⟨ghk8a, ghk8b⟩
                · rcases and_f ghk8a with ghk8aa | ⟨ghk8aa, ghk8ab⟩
                  · try simp only [go_sem, n1, n2, n3, n4, hk1, hk2, ghk4nn, hk5, ghk6, ghk7a, ghk7bn] at ghk8aa
                    all_goals
                    rcases it_some h with ⟨hk9, h⟩ | ⟨hk9, h⟩
                    · try simp only [go_sem, n1, n2, n3, n4, hk1, hk2, ghk4nn, hk5, ghk6, ghk7a, ghk7bn, ghk8aa] at hk9
                      all_goals
                      obtain rfl := so_some h
                      refine ⟨0, fun L hL => ?_⟩
                      simp only [go_sem, ir52, E_impl_ordered_l1, R_impl_ordered_l1, ir52_b0, ir52_k0, ir52_o0, ir52_r0, hk1, hk2, lhk2, xhk2, fhk3, ghk4nn, hk5, ghk6, ghk7a, ghk7bn, ghk8aa, hk9]
                    · try simp only [go_sem, n1, n2, n3, n4, hk1, hk2, ghk4nn, hk5, ghk6, ghk7a, ghk7bn, ghk8aa] at hk9
                      all_goals
                      obtain rfl := so_some h
                      refine ⟨0, fun L hL => ?_⟩
                      simp only [go_sem, ir52, E_impl_ordered_l1, R_impl_ordered_l1, ir52_b0, ir52_k0, ir52_o0, ir52_r0, hk1, hk2, lhk2, xhk2, fhk3, ghk4nn, hk5, ghk6, ghk7a, ghk7bn, ghk8aa, hk9]
                  · have ghk8abn := no_f ghk8ab
                    try simp only [go_sem, n1, n2, n3, n4, hk1, hk2, ghk4nn, hk5, ghk6, ghk7a, ghk7bn] at ghk8aa
                    all_goals
                    try simp only [go_sem, n1, n2, n3, n4, hk1, hk2, ghk4nn, hk5, ghk6, ghk7a, ghk7bn, ghk8aa] at ghk8abn
                    all_goals
                    rcases it_some h with ⟨hk9, h⟩ | ⟨hk9, h⟩
                    · try simp only [go_sem, n1, n2, n3, n4, hk1, hk2, ghk4nn, hk5, ghk6, ghk7a, ghk7bn, ghk8aa, ghk8abn] at hk9
                      all_goals
                      obtain rfl := so_some h
                      refine ⟨0, fun L hL => ?_⟩
                      simp only [go_sem, ir52, E_impl_ordered_l1, R_impl_ordered_l1, ir52_b0, ir52_k0, ir52_o0, ir52_r0, hk1, hk2, lhk2, xhk2, fhk3, ghk4nn, hk5, ghk6, ghk7a, ghk7bn, ghk8aa, ghk8abn, hk9]
                    · try simp only [go_sem, n1, n2, n3, n4, hk1, hk2, ghk4nn, hk5, ghk6, ghk7a, ghk7bn, ghk8aa, ghk8abn] at hk9
                      all_goals
                      obtain rfl := so_some h
                      refine ⟨0, fun L hL => ?_⟩
                      simp only [go_sem, ir52, E_impl_ordered_l1, R_impl_ordered_l1, ir52_b0, ir52_k0, ir52_o0, ir52_r0, hk1, hk2, lhk2, xhk2, fhk3, ghk4nn, hk5, ghk6, ghk7a, ghk7bn, ghk8aa, ghk8abn, hk9]
                · obtain ⟨ghk8aa, ghk8ab⟩ := and_t ghk8a
                  have ghk8abn := no_t ghk8ab
                  try simp only [go_sem, n1, n2, n3, n4, hk1, hk2, ghk4nn, hk5, ghk6, ghk7a, ghk7bn] at ghk8aa
                  all_goals
                  try simp only [go_sem, n1, n2, n3, n4, hk1, hk2, ghk4nn, hk5, ghk6, ghk7a, ghk7bn, ghk8aa] at ghk8abn
                  all_goals
                  try simp only [go_sem, n1, n2, n3, n4, hk1, hk2, ghk4nn, hk5, ghk6, ghk7a, ghk7bn, ghk8aa, ghk8abn] at ghk8b
                  all_goals
                  rcases it_some h with ⟨hk9, h⟩ | ⟨hk9, h⟩
                  · try simp only [go_sem, n1, n2, n3, n4, hk1, hk2, ghk4nn, hk5, ghk6, ghk7a, ghk7bn, ghk8aa, ghk8abn, ghk8b] at hk9
                    all_goals
                    obtain rfl := so_some h
                    refine ⟨0, fun L hL => ?_⟩
                    simp only [go_sem, ir52, E_impl_ordered_l1, R_impl_ordered_l1, ir52_b0, ir52_k0, ir52_o0, ir52_r0, hk1, hk2, lhk2, xhk2, fhk3, ghk4nn, hk5, ghk6, ghk7a, ghk7bn, ghk8aa, ghk8abn, ghk8b, hk9]
                  · try simp only [go_sem, n1, n2, n3, n4, hk1, hk2, ghk4nn, hk5, ghk6, ghk7a, ghk7bn, ghk8aa, ghk8abn, ghk8b] at hk9
                    all_goals
                    obtain rfl := so_some h
                    refine ⟨0, fun L hL => ?_⟩
                    simp only [go_sem, ir52, E_impl_ordered_l1, R_impl_ordered_l1, ir52_b0, ir52_k0, ir52_o0, ir52_r0, hk1, hk2, lhk2, xhk2, fhk3, ghk4nn, hk5, ghk6, ghk7a, ghk7bn, ghk8aa, ghk8abn, ghk8b, hk9]
  · try simp only [go_sem, n1, n2, n3, n4] at hk1
    all_goals
    obtain rfl := so_some h
    refine ⟨0, fun L hL => ?_⟩
    simp only [go_sem, ir52, E_impl_ordered_l1, R_impl_ordered_l1, ir52_b0, ir52_k0, ir52_o0, ir52_r0, hk1]

theorem Fs_impl_ordered {faults : List Fault} {estimates : Int} {y_ : Bool} (h : impl_ordered faults estimates = some y_) : c_impl_ordered.F [.sl 2 (List.map Fault_av faults), .int .i64 estimates] = ⟨true, .bool y_, [.any, .any]⟩ := by
  refine mkF_E rfl ?_
  dsimp only [impl_ordered] at h
  obtain ⟨y_10, hk10, h⟩ := bd_some h
  obtain ⟨Lhk10, ehk10⟩ := impl_ordered_l1_ex hk10
  rcases y_10 with y_10a | y_10b
  · dsimp only at h
    obtain rfl := so_some h
    refine ⟨Lhk10, fun L hL => ?_⟩
    have ehk10 := ehk10 L (by omega)
    try simp only [go_sem, E_impl_ordered_l1, R_impl_ordered_l1, ir52_k0, ir52_o0, ir52_r0] at ehk10
    simp only [go_sem, ir52, E_impl_ordered_l1, R_impl_ordered_l1, ir52_k0, ir52_o0, ir52_r0, ehk10]
  · dsimp only at h
    obtain rfl := so_some h
    refine ⟨Lhk10, fun L hL => ?_⟩
    have ehk10 := ehk10 L (by omega)
    try simp only [go_sem, E_impl_ordered_l1, R_impl_ordered_l1, ir52_k0, ir52_o0, ir52_r0] at ehk10
    simp only [go_sem, ir52, E_impl_ordered_l1, R_impl_ordered_l1, ir52_k0, ir52_o0, ir52_r0, ehk10]


def ir29_v : List Nat := [0, 1, 2]
def ir29 : AFn := ⟨1, 3, .seq (.region false [
    ⟨.var 1, 1, none, .box (.v 0)⟩,
    ⟨.var 2, 2, none, .mov (.c (.str []))⟩])
 (.seq (.test false [
    ⟨.push, 3, none, .load true 2 (.v 1)⟩,
    ⟨.push, 4, none, .mkSl 2 (.agg [.int .i64 (0), .int .i64 (0)]) 1 [(0, (.s 0))]⟩,
    ⟨.push, 5, none, .call 52 [(.s 0), (.c (.int .i64 (100)))]⟩,
    ⟨.push, 6, none, .un .not (.s 0)⟩] (.s 0)
  (.seq (.region false [
      ⟨.var 2, 2, none, .mov (.c (.str []))⟩])
   (.ret))
  (.skip))
 (.seq (.anyo 8 [
    ⟨.slot 0, 7, none, .fldAddr 0 (.v 1)⟩,
    ⟨.slot 1, 8, none, .load false 1 (.s 0)⟩,
    ⟨.slot 2, 9, none, .callp 51 [(.s 1)]⟩,
    ⟨.slot 3, 10, none, .bin false .add (.s 2) (.c (.str [32]))⟩,
    ⟨.slot 4, 11, none, .fldAddr 1 (.v 1)⟩,
    ⟨.slot 5, 12, none, .load false 1 (.s 4)⟩,
    ⟨.slot 6, 13, none, .callp 53 [(.s 5)]⟩,
    ⟨.slot 7, 14, none, .bin false .add (.s 3) (.s 6)⟩,
    ⟨.var 2, 2, none, .mov (.s 7)⟩] [] .skip)
 (.ret))), [.t 2]⟩
noncomputable def t_impl_FaultText : List (Nat × Ctr) := [(52, c_impl_ordered), (51, c_impl_Decimal), (53, c_impl_FaultName)]
theorem lk_impl_FaultText_52 : look t_impl_FaultText 52 = some c_impl_ordered := rfl
theorem lk_impl_FaultText_51 : look t_impl_FaultText 51 = some c_impl_Decimal := rfl
theorem lk_impl_FaultText_53 : look t_impl_FaultText 53 = some c_impl_FaultName := rfl
noncomputable def c_impl_FaultText : Ctr := mkF t_impl_FaultText ir29 [.bor]
theorem s_impl_FaultText : Sound Tryd.prog 29 c_impl_FaultText := mkF_sound _ rfl (snd_cons s_impl_ordered (snd_cons s_impl_Decimal (snd_cons s_impl_FaultName snd_nil))) (by kernel_rfl : chkFn Tryd.prog 29 ir29 ir29_v = true)
theorem M_impl_FaultText : c_impl_FaultText.modes = [.bor] := rfl
theorem Fl_impl_FaultText : c_impl_FaultText.flat = true := rfl
attribute [go_sem] M_impl_FaultText Fl_impl_FaultText
attribute [go_sem] lk_impl_FaultText_52 lk_impl_FaultText_51 lk_impl_FaultText_53
theorem Fs_impl_FaultText {x : Fault} {y_ : (List UInt8)} (h : impl_FaultText x = some y_) : c_impl_FaultText.F [Fault_av x] = ⟨true, .str y_, [.any]⟩ := by
  refine mkF_E rfl ?_
  dsimp only [impl_FaultText] at h
  obtain ⟨y_1, hk1, h⟩ := bd_some h
  have fhk1 := Fs_impl_ordered hk1
  try simp only [go_sem] at fhk1
  rcases it_some h with ⟨hk2, h⟩ | ⟨hk2, h⟩
  · try simp only [go_sem, n1, n2, n3, n4] at hk2
    all_goals
    obtain rfl := so_some h
    refine ⟨0, fun L hL => ?_⟩
    simp only [go_sem, ir29, fhk1, hk2]
  · try simp only [go_sem, n1, n2, n3, n4] at hk2
    all_goals
    obtain ⟨y_3, hk3, h⟩ := bd_some h
    have fhk3 := Fs_impl_Decimal hk3
    try simp only [go_sem, hk2] at fhk3
    obtain ⟨hk4, h⟩ := ck_some h
    try simp only [go_sem, n1, n2, n3, n4, hk2] at hk4
    all_goals
    obtain ⟨y_5, hk5, h⟩ := bd_some h
    have fhk5 := Fs_impl_FaultName hk5
    try simp only [go_sem, hk2, hk4] at fhk5
    obtain ⟨hk6, h⟩ := ck_some h
    try simp only [go_sem, n1, n2, n3, n4, hk2, hk4] at hk6
    all_goals
    obtain rfl := so_some h
    refine ⟨0, fun L hL => ?_⟩
    simp only [go_sem, ir29, fhk1, hk2, fhk3, hk4, fhk5, hk6]


def ir7_v : List Nat := [0, 2, 3, 4, 5, 7, 8, 9]
def ir7 : AFn := ⟨1, 8, .seq (.region false [
    ⟨.var 1, 2, none, .alloc (.agg [.int .i64 (0), .int .i64 (0)])⟩,
    ⟨.var 2, 3, none, .mov (.c (.bool false))⟩])
 (.seq (.region false [
    ⟨.push, 11, none, .mov (.v 0)⟩,
    ⟨.push, 12, none, .call 25 [(.s 0), (.c (.str [32]))]⟩,
    ⟨.push, 10, none, .mov (.s 0)⟩,
    ⟨.push, 13, none, .ext (.s 0) 0⟩,
    ⟨.push, 14, none, .ext (.s 1) 1⟩,
    ⟨.push, 15, none, .ext (.s 2) 2⟩,
    ⟨.var 3, 4, none, .mov (.s 2)⟩,
    ⟨.var 4, 5, none, .mov (.s 1)⟩,
    ⟨.push, 6, none, .mov (.s 0)⟩])
 (.seq (.region false [
    ⟨.push, 17, none, .mov (.v 3)⟩,
    ⟨.push, 18, none, .call 26 [(.s 0)]⟩,
    ⟨.push, 16, none, .mov (.s 0)⟩,
    ⟨.push, 19, none, .ext (.s 0) 0⟩,
    ⟨.push, 20, none, .ext (.s 1) 1⟩,
    ⟨.var 5, 7, none, .mov (.s 1)⟩,
    ⟨.var 6, 8, none, .mov (.s 0)⟩])
 (.seq (.region false [
    ⟨.push, 21, none, .mov (.v 5)⟩,
    ⟨.push, 22, none, .call 28 []⟩,
    ⟨.push, 23, none, .mov (.v 4)⟩,
    ⟨.push, 24, none, .call 27 [(.s 1), (.s 0)]⟩,
    ⟨.push, 25, none, .bin false .add (.s 0) (.c (.int .i64 (1)))⟩,
    ⟨.push, 26, none, .build [.int .i64 (0), .int .i64 (0)] [(0, 1, (.s 4)), (1, 1, (.s 0))]⟩,
    ⟨.var 7, 9, none, .alloc (.agg [.int .i64 (0), .int .i64 (0)])⟩,
    ⟨.no, 0, none, .store 2 (.v 7) (.s 0)⟩])
 (.seq (.test false [
    ⟨.push, 27, none, .mov (.v 6)⟩,
    ⟨.push, 28, none, .un .not (.s 0)⟩,
    ⟨.push, 29, none, .mov (.s 0)⟩,
    ⟨.push, 30, (some ((.s 0), false)), .fldAddr 1 (.v 7)⟩,
    ⟨.push, 31, (some ((.s 1), false)), .load false 1 (.s 0)⟩,
    ⟨.push, 32, (some ((.s 2), false)), .bin false .eql (.s 0) (.c (.int .i64 (0)))⟩,
    ⟨.push, 33, none, .pick (.s 3) (.c (.bool true)) (.s 0)⟩,
    ⟨.push, 34, none, .mov (.s 0)⟩,
    ⟨.push, 35, (some ((.s 0), false)), .load true 2 (.v 7)⟩,
    ⟨.push, 36, (some ((.s 1), false)), .call 29 [(.s 0)]⟩,
    ⟨.push, 37, (some ((.s 2), false)), .mov (.v 0)⟩,
    ⟨.push, 38, (some ((.s 3), false)), .bin false .neq (.s 1) (.s 0)⟩,
    ⟨.push, 39, none, .pick (.s 4) (.c (.bool true)) (.s 0)⟩] (.s 0)
  (.seq (.region false [
      ⟨.push, 40, none, .build [.int .i64 (0), .int .i64 (0)] []⟩,
      ⟨.no, 0, none, .store 2 (.v 1) (.s 0)⟩,
      ⟨.var 2, 3, none, .mov (.c (.bool false))⟩])
   (.ret))
  (.skip))
 (.seq (.region false [
    ⟨.push, 41, none, .load true 2 (.v 7)⟩,
    ⟨.no, 0, none, .store 2 (.v 1) (.s 0)⟩,
    ⟨.var 2, 3, none, .mov (.c (.bool true))⟩])
 (.ret)))))), [.cell true 2 1, .t 2]⟩
noncomputable def t_impl_ReadFault : List (Nat × Ctr) := [(25, c_hCut), (26, c_hRdDec), (28, c_impl_faultNames), (27, c_slices_Index_string_string), (29, c_impl_FaultText)]
theorem lk_impl_ReadFault_25 : look t_impl_ReadFault 25 = some c_hCut := rfl
theorem lk_impl_ReadFault_26 : look t_impl_ReadFault 26 = some c_hRdDec := rfl
theorem lk_impl_ReadFault_28 : look t_impl_ReadFault 28 = some c_impl_faultNames := rfl
theorem lk_impl_ReadFault_27 : look t_impl_ReadFault 27 = some c_slices_Index_string_string := rfl
theorem lk_impl_ReadFault_29 : look t_impl_ReadFault 29 = some c_impl_FaultText := rfl
noncomputable def c_impl_ReadFault : Ctr := mkN t_impl_ReadFault ir7 [.bor]
theorem s_impl_ReadFault : Sound Tryd.prog 7 c_impl_ReadFault := mkN_sound _ (snd_cons s_hCut (snd_cons s_hRdDec (snd_cons s_impl_faultNames (snd_cons s_slices_Index_string_string (snd_cons s_impl_FaultText snd_nil))))) (by kernel_rfl : chkFn Tryd.prog 7 ir7 ir7_v = true)
theorem M_impl_ReadFault : c_impl_ReadFault.modes = [.bor] := rfl
theorem Fl_impl_ReadFault : c_impl_ReadFault.flat = false := rfl
attribute [go_sem] M_impl_ReadFault Fl_impl_ReadFault
attribute [go_sem] lk_impl_ReadFault_25 lk_impl_ReadFault_26 lk_impl_ReadFault_28 lk_impl_ReadFault_27 lk_impl_ReadFault_29
theorem Fs_impl_ReadFault {s_ : List UInt8} {y_ : Fault × Bool} (h : impl_ReadFault s_ = some y_) : c_impl_ReadFault.F [.str s_] = ⟨true, .tup [Fault_av y_.1, .bool y_.2], [.any]⟩ := by
  refine mkN_E ?_
  dsimp only [impl_ReadFault] at h
  obtain ⟨y_1, hk1, h⟩ := bd_some h
  have fhk1 := Fs_hCut hk1
  try simp only [go_sem] at fhk1
  obtain ⟨y_2, hk2, h⟩ := bd_some h
  have fhk2 := Fs_hRdDec hk2
  try simp only [go_sem] at fhk2
  obtain ⟨y_3, hk3, h⟩ := bd_some h
  have fhk3 := Fs_impl_faultNames hk3
  try simp only [go_sem] at fhk3
  obtain ⟨y_4, hk4, h⟩ := bd_some h
  have fhk4 := Fs_slices_Index_string_string hk4
  try simp only [go_sem] at fhk4
  obtain ⟨hk5, h⟩ := ck_some h
  rcases or_split hk5 with ⟨ghk5, hk5⟩ | ghk5
  · try simp only [go_sem, n1, n2, n3, n4] at ghk5
    all_goals
    obtain ⟨y_5, hhk5⟩ := Option.isSome_iff_exists.1 hk5
    have fhk5 := Fs_impl_FaultText hhk5
    try simp only [go_sem, ghk5] at fhk5
    rcases it_some h with ⟨hk6, h⟩ | ⟨hk6, h⟩
    · try simp only [go_sem, n1, n2, n3, n4, ghk5, hhk5] at hk6
      all_goals
      obtain rfl := so_some h
      refine ⟨0, fun L hL => ?_⟩
      simp only [go_sem, ir7, fhk1, fhk2, fhk3, fhk4, ghk5, hhk5, fhk5, hk6]
    · try simp only [go_sem, n1, n2, n3, n4, ghk5, hhk5] at hk6
      all_goals
      obtain rfl := so_some h
      refine ⟨0, fun L hL => ?_⟩
      simp only [go_sem, ir7, fhk1, fhk2, fhk3, fhk4, ghk5, hhk5, fhk5, hk6]
  · have ghk5n := no_f ghk5
    rcases or_t ghk5n with ghk5na | ⟨ghk5na, ghk5nb⟩
    · have ghk5nan := no_t ghk5na
      try simp only [go_sem, n1, n2, n3, n4] at ghk5nan
      all_goals
      rcases it_some h with ⟨hk6, h⟩ | ⟨hk6, h⟩
      · try simp only [go_sem, n1, n2, n3, n4, ghk5nan] at hk6
        all_goals
        obtain rfl := so_some h
        refine ⟨0, fun L hL => ?_⟩
        simp only [go_sem, ir7, fhk1, fhk2, fhk3, fhk4, ghk5nan, hk6]
      · try simp only [go_sem, n1, n2, n3, n4, ghk5nan] at hk6
        all_goals
        obtain rfl := so_some h
        refine ⟨0, fun L hL => ?_⟩
        simp only [go_sem, ir7, fhk1, fhk2, fhk3, fhk4, ghk5nan, hk6]
    · have ghk5nan := no_f ghk5na
      try simp only [go_sem, n1, n2, n3, n4] at ghk5nan
      all_goals
      try simp only [go_sem, n1, n2, n3, n4, ghk5nan] at ghk5nb
      all_goals
      rcases it_some h with ⟨hk6, h⟩ | ⟨hk6, h⟩
      · try simp only [go_sem, n1, n2, n3, n4, ghk5nan, ghk5nb] at hk6
        all_goals
        obtain rfl := so_some h
        refine ⟨0, fun L hL => ?_⟩
        simp only [go_sem, ir7, fhk1, fhk2, fhk3, fhk4, ghk5nan, ghk5nb, hk6]
      · try simp only [go_sem, n1, n2, n3, n4, ghk5nan, ghk5nb] at hk6
        all_goals
        obtain rfl := so_some h
        refine ⟨0, fun L hL => ?_⟩
        simp only [go_sem, ir7, fhk1, fhk2, fhk3, fhk4, ghk5nan, ghk5nb, hk6]


def ir8_v : List Nat := [0, 1, 2, 3, 4]
def ir8 : AFn := ⟨2, 5, .seq (.region false [
    ⟨.var 2, 2, none, .box (.v 0)⟩,
    ⟨.var 3, 3, none, .box (.v 1)⟩,
    ⟨.var 4, 4, none, .mov (.c (.bool false))⟩])
 (.seq (.test false [
    ⟨.push, 5, none, .fldAddr 0 (.v 2)⟩,
    ⟨.push, 6, none, .load false 1 (.s 0)⟩,
    ⟨.push, 7, none, .fldAddr 0 (.v 3)⟩,
    ⟨.push, 8, none, .load false 1 (.s 0)⟩,
    ⟨.push, 9, none, .bin false .neq (.s 2) (.s 0)⟩] (.s 0)
  (.seq (.region false [
      ⟨.var 4, 4, none, .mov (.c (.bool false))⟩])
   (.ret))
  (.skip))
 (.seq (.test false [
    ⟨.push, 10, none, .fldAddr 1 (.v 2)⟩,
    ⟨.push, 11, none, .load false 1 (.s 0)⟩,
    ⟨.push, 12, none, .fldAddr 1 (.v 3)⟩,
    ⟨.push, 13, none, .load false 1 (.s 0)⟩,
    ⟨.push, 14, none, .bin false .neq (.s 2) (.s 0)⟩] (.s 0)
  (.seq (.region false [
      ⟨.var 4, 4, none, .mov (.c (.bool false))⟩])
   (.ret))
  (.skip))
 (.seq (.region false [
    ⟨.var 4, 4, none, .mov (.c (.bool true))⟩])
 (.ret)))), [.t 4]⟩
noncomputable def t_laws_eqFault : List (Nat × Ctr) := []
noncomputable def c_laws_eqFault : Ctr := mkF t_laws_eqFault ir8 [.bor, .bor]
theorem s_laws_eqFault : Sound Tryd.prog 8 c_laws_eqFault := mkF_sound _ rfl snd_nil (by kernel_rfl : chkFn Tryd.prog 8 ir8 ir8_v = true)
theorem M_laws_eqFault : c_laws_eqFault.modes = [.bor, .bor] := rfl
theorem Fl_laws_eqFault : c_laws_eqFault.flat = true := rfl
attribute [go_sem] M_laws_eqFault Fl_laws_eqFault
theorem Fs_laws_eqFault {a : Fault} {b : Fault} {y_ : Bool} (h : laws_eqFault a b = some y_) : c_laws_eqFault.F [Fault_av a, Fault_av b] = ⟨true, .bool y_, [.any, .any]⟩ := by
  refine mkF_E rfl ?_
  dsimp only [laws_eqFault] at h
  rcases it_some h with ⟨hk1, h⟩ | ⟨hk1, h⟩
  · try simp only [go_sem, n1, n2, n3, n4] at hk1
    all_goals
    obtain rfl := so_some h
    refine ⟨0, fun L hL => ?_⟩
    simp only [go_sem, ir8, hk1]
  · try simp only [go_sem, n1, n2, n3, n4] at hk1
    all_goals
    rcases it_some h with ⟨hk2, h⟩ | ⟨hk2, h⟩
    · try simp only [go_sem, n1, n2, n3, n4, hk1] at hk2
      all_goals
      obtain rfl := so_some h
      refine ⟨0, fun L hL => ?_⟩
      simp only [go_sem, ir8, hk1, hk2]
    · try simp only [go_sem, n1, n2, n3, n4, hk1] at hk2
      all_goals
      obtain rfl := so_some h
      refine ⟨0, fun L hL => ?_⟩
      simp only [go_sem, ir8, hk1, hk2]


def ir3_v : List Nat := [0, 2, 3, 4, 5, 6]
def ir3 : AFn := ⟨1, 6, .seq (.region false [
    ⟨.var 1, 2, none, .mov (.c (.bool false))⟩])
 (.seq (.test false [
    ⟨.push, 7, none, .mov (.v 0)⟩,
    ⟨.push, 8, none, .len true (.s 0)⟩,
    ⟨.push, 9, none, .bin false .gtr (.s 0) (.c (.int .i64 (1048576)))⟩] (.s 0)
  (.seq (.region false [
      ⟨.var 1, 2, none, .mov (.c (.bool true))⟩])
   (.ret))
  (.skip))
 (.seq (.region false [
    ⟨.push, 11, none, .mov (.v 0)⟩,
    ⟨.push, 12, none, .call 6 [(.s 0)]⟩,
    ⟨.push, 10, none, .mov (.s 0)⟩,
    ⟨.push, 13, none, .ext (.s 0) 0⟩,
    ⟨.push, 14, none, .ext (.s 1) 1⟩,
    ⟨.var 2, 3, none, .alloc (.agg [.int .i64 (0), .int .i64 (0)])⟩,
    ⟨.no, 0, none, .store 2 (.v 2) (.s 1)⟩,
    ⟨.var 3, 4, none, .mov (.s 0)⟩])
 (.seq (.region false [
    ⟨.push, 16, none, .mov (.v 0)⟩,
    ⟨.push, 17, none, .call 7 [(.s 0)]⟩,
    ⟨.push, 15, none, .mov (.s 0)⟩,
    ⟨.push, 18, none, .ext (.s 0) 0⟩,
    ⟨.push, 19, none, .ext (.s 1) 1⟩,
    ⟨.var 4, 5, none, .alloc (.agg [.int .i64 (0), .int .i64 (0)])⟩,
    ⟨.no, 0, none, .store 2 (.v 4) (.s 1)⟩,
    ⟨.var 5, 6, none, .mov (.s 0)⟩])
 (.seq (.test false [
    ⟨.push, 20, none, .load true 2 (.v 4)⟩,
    ⟨.push, 21, none, .load true 2 (.v 2)⟩,
    ⟨.push, 22, none, .call 8 [(.s 1), (.s 0)]⟩,
    ⟨.push, 23, none, .un .not (.s 0)⟩,
    ⟨.push, 24, none, .mov (.s 0)⟩,
    ⟨.push, 25, (some ((.s 0), false)), .mov (.v 5)⟩,
    ⟨.push, 26, (some ((.s 1), false)), .mov (.v 3)⟩,
    ⟨.push, 27, (some ((.s 2), false)), .bin true .neq (.s 1) (.s 0)⟩,
    ⟨.push, 28, none, .pick (.s 3) (.c (.bool true)) (.s 0)⟩] (.s 0)
  (.seq (.region false [
      ⟨.var 1, 2, none, .mov (.c (.bool false))⟩])
   (.ret))
  (.skip))
 (.seq (.region false [
    ⟨.var 1, 2, none, .mov (.c (.bool true))⟩])
 (.ret)))))), [.t 1]⟩
noncomputable def t_laws_FnExactReadFault : List (Nat × Ctr) := [(6, c_spec_ReadFault), (7, c_impl_ReadFault), (8, c_laws_eqFault)]
theorem lk_laws_FnExactReadFault_6 : look t_laws_FnExactReadFault 6 = some c_spec_ReadFault := rfl
theorem lk_laws_FnExactReadFault_7 : look t_laws_FnExactReadFault 7 = some c_impl_ReadFault := rfl
theorem lk_laws_FnExactReadFault_8 : look t_laws_FnExactReadFault 8 = some c_laws_eqFault := rfl
noncomputable def c_laws_FnExactReadFault : Ctr := mkF t_laws_FnExactReadFault ir3 [.bor]
theorem s_laws_FnExactReadFault : Sound Tryd.prog 3 c_laws_FnExactReadFault := mkF_sound _ rfl (snd_cons s_spec_ReadFault (snd_cons s_impl_ReadFault (snd_cons s_laws_eqFault snd_nil))) (by kernel_rfl : chkFn Tryd.prog 3 ir3 ir3_v = true)
theorem M_laws_FnExactReadFault : c_laws_FnExactReadFault.modes = [.bor] := rfl
theorem Fl_laws_FnExactReadFault : c_laws_FnExactReadFault.flat = true := rfl
attribute [go_sem] M_laws_FnExactReadFault Fl_laws_FnExactReadFault
attribute [go_sem] lk_laws_FnExactReadFault_6 lk_laws_FnExactReadFault_7 lk_laws_FnExactReadFault_8
theorem Fs_laws_FnExactReadFault {aS : List UInt8} {y_ : Bool} (h : laws_FnExactReadFault aS = some y_) : c_laws_FnExactReadFault.F [.str aS] = ⟨true, .bool y_, [.any]⟩ := by
  refine mkF_E rfl ?_
  dsimp only [laws_FnExactReadFault] at h
  rcases it_some h with ⟨hk1, h⟩ | ⟨hk1, h⟩
  · try simp only [go_sem, n1, n2, n3, n4] at hk1
    all_goals
    obtain rfl := so_some h
    refine ⟨0, fun L hL => ?_⟩
    simp only [go_sem, ir3, hk1]
  · try simp only [go_sem, n1, n2, n3, n4] at hk1
    all_goals
    obtain ⟨y_2, hk2, h⟩ := bd_some h
    have fhk2 := Fs_spec_ReadFault hk2
    try simp only [go_sem, hk1] at fhk2
    obtain ⟨y_3, hk3, h⟩ := bd_some h
    have fhk3 := Fs_impl_ReadFault hk3
    try simp only [go_sem, hk1] at fhk3
    obtain ⟨y_4, hk4, h⟩ := bd_some h
    have fhk4 := Fs_laws_eqFault hk4
    try simp only [go_sem, hk1] at fhk4
    rcases it_some h with ⟨hk5, h⟩ | ⟨hk5, h⟩
    · try simp only [go_sem, n1, n2, n3, n4, hk1] at hk5
      all_goals
      obtain rfl := so_some h
      refine ⟨0, fun L hL => ?_⟩
      simp only [go_sem, ir3, hk1, fhk2, fhk3, fhk4, hk5]
    · try simp only [go_sem, n1, n2, n3, n4, hk1] at hk5
      all_goals
      obtain rfl := so_some h
      refine ⟨0, fun L hL => ?_⟩
      simp only [go_sem, ir3, hk1, fhk2, fhk3, fhk4, hk5]


def ir9_v : List Nat := [0, 1, 4]
def ir9 : AFn := ⟨2, 3, .seq (.region false [
    ⟨.var 2, 4, none, .mov (.c (.bool false))⟩])
 (.seq (.region false [
    ⟨.push, 5, none, .mov (.v 0)⟩,
    ⟨.push, 6, none, .len false (.s 0)⟩,
    ⟨.push, 7, none, .bin false .gtr (.s 0) (.c (.int .i64 (3000)))⟩,
    ⟨.push, 8, none, .mov (.s 0)⟩,
    ⟨.push, 9, (some ((.s 0), false)), .mov (.v 1)⟩,
    ⟨.push, 10, (some ((.s 1), false)), .len false (.s 0)⟩,
    ⟨.push, 11, (some ((.s 2), false)), .bin false .gtr (.s 0) (.c (.int .i64 (3000)))⟩,
    ⟨.push, 12, none, .pick (.s 3) (.c (.bool true)) (.s 0)⟩,
    ⟨.var 2, 4, none, .mov (.s 0)⟩])
 (.ret)), [.t 2]⟩
noncomputable def t_laws_a2Long : List (Nat × Ctr) := []
noncomputable def c_laws_a2Long : Ctr := mkF t_laws_a2Long ir9 [.bor, .bor]
theorem s_laws_a2Long : Sound Tryd.prog 9 c_laws_a2Long := mkF_sound _ rfl snd_nil (by kernel_rfl : chkFn Tryd.prog 9 ir9 ir9_v = true)
theorem M_laws_a2Long : c_laws_a2Long.modes = [.bor, .bor] := rfl
theorem Fl_laws_a2Long : c_laws_a2Long.flat = true := rfl
attribute [go_sem] M_laws_a2Long Fl_laws_a2Long
theorem Fs_laws_a2Long {code : List UInt8} {more : List UInt8} {y_ : Bool} (h : laws_a2Long code more = some y_) : c_laws_a2Long.F [.sl 1 (List.map byteAV code), .sl 1 (List.map byteAV more)] = ⟨true, .bool y_, [.any, .any]⟩ := by
  refine mkF_E rfl ?_
  dsimp only [laws_a2Long] at h
  obtain rfl := so_some h
  refine ⟨0, fun L hL => ?_⟩
  simp only [go_sem, ir9]


def ir31_v : List Nat := [0, 2]
def ir31 : AFn := ⟨1, 2, .seq (.region false [
    ⟨.var 1, 2, none, .mov (.c (.cv (.pointer none)))⟩])
 (.seq (.region false [
    ⟨.push, 3, none, .mov (.v 0)⟩,
    ⟨.push, 4, none, .build [.sl 1 [], .int .i64 (0), .int .u64 (0)] [(0, 1, (.s 0))]⟩,
    ⟨.push, 5, none, .box (.s 0)⟩,
    ⟨.var 1, 2, none, .mov (.s 0)⟩])
 (.ret)), [.t 1]⟩
noncomputable def t_spec_l00From : List (Nat × Ctr) := []
noncomputable def c_spec_l00From : Ctr := mkN t_spec_l00From ir31 [.bor]
theorem s_spec_l00From : Sound Tryd.prog 31 c_spec_l00From := mkN_sound _ snd_nil (by kernel_rfl : chkFn Tryd.prog 31 ir31 ir31_v = true)
theorem M_spec_l00From : c_spec_l00From.modes = [.bor] := rfl
theorem Fl_spec_l00From : c_spec_l00From.flat = false := rfl
attribute [go_sem] M_spec_l00From Fl_spec_l00From
theorem Fs_spec_l00From {code : List UInt8} {y_ : L00Src} (h : spec_l00From code = some y_) : c_spec_l00From.F [.sl 1 (List.map byteAV code)] = ⟨true, .mem 3 [L00Src_av y_], [.any]⟩ := by
  refine mkN_E ?_
  dsimp only [spec_l00From] at h
  obtain rfl := so_some h
  refine ⟨0, fun L hL => ?_⟩
  simp only [go_sem, ir31]


end Go.Proofs.YtkdojfpjnnceiaaDoor
