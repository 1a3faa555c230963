/- Codes and contracts of the functions that RF reaches, and that their typed forms say what they do. No condition. -/
import Derived.Test.YtkdojfpjnnceiaaDoorEngLR
import Derived.Test.YtkdojfpjnnceiaaDoorRows
import Derived.WalkKit
namespace Go.Proofs.YtkdojfpjnnceiaaDoor
open Go Go.RowKit
set_option linter.unusedVariables false
set_option linter.unusedSimpArgs false
set_option maxRecDepth 10000

def ir42_v : List Nat := [0, 2, 3, 4]
def ir42 : AFn := ⟨1, 4, .seq (.region false [
    ⟨.var 1, 2, none, .mov (.c (.cv (.pointer none)))⟩,
    ⟨.var 2, 3, none, .mov (.c (.int .i64 (0)))⟩])
 (.seq (.test false [
    ⟨.push, 5, none, .mov (.v 0)⟩,
    ⟨.push, 6, none, .len true (.s 0)⟩,
    ⟨.push, 7, none, .bin false .gtr (.s 0) (.c (.int .i64 (4000)))⟩] (.s 0)
  (.seq (.region false [
      ⟨.push, 8, none, .build [.str [], .int .i64 (0), .int .i64 (0), .sl 3 []] []⟩,
      ⟨.push, 9, none, .box (.s 0)⟩,
      ⟨.var 1, 2, none, .mov (.s 0)⟩,
      ⟨.var 2, 3, none, .mov (.c (.int .i64 (5)))⟩])
   (.ret))
  (.skip))
 (.seq (.region false [
    ⟨.push, 10, none, .mov (.v 0)⟩,
    ⟨.push, 11, none, .call 62 [(.s 0)]⟩,
    ⟨.var 3, 4, none, .mov (.s 0)⟩])
 (.seq (.test false [
    ⟨.push, 12, none, .mov (.v 3)⟩,
    ⟨.push, 13, none, .nilck (.s 0)⟩,
    ⟨.push, 14, none, .fldAddr 1 (.s 0)⟩,
    ⟨.push, 15, none, .load false 1 (.s 0)⟩,
    ⟨.push, 16, none, .mov (.v 0)⟩,
    ⟨.push, 17, none, .len true (.s 0)⟩,
    ⟨.push, 18, none, .bin false .neq (.s 2) (.s 0)⟩] (.s 0)
  (.seq (.region false [
      ⟨.push, 19, none, .mov (.v 3)⟩,
      ⟨.var 1, 2, none, .mov (.s 0)⟩,
      ⟨.var 2, 3, none, .mov (.c (.int .i64 (8)))⟩])
   (.ret))
  (.skip))
 (.seq (.region false [
    ⟨.push, 20, none, .mov (.v 3)⟩,
    ⟨.var 1, 2, none, .mov (.s 0)⟩,
    ⟨.var 2, 3, none, .mov (.c (.int .i64 (0)))⟩])
 (.ret))))), [.t 1, .t 2]⟩
noncomputable def t_spec_l27Code : List (Nat × Ctr) := [(62, c_spec_l27Read)]
theorem lk_spec_l27Code_62 : look t_spec_l27Code 62 = some c_spec_l27Read := rfl
noncomputable def c_spec_l27Code : Ctr := mkN t_spec_l27Code ir42 [.bor]
theorem s_spec_l27Code : Sound Tryd.prog 42 c_spec_l27Code := mkN_sound _ (snd_cons s_spec_l27Read snd_nil) (by kernel_rfl : chkFn Tryd.prog 42 ir42 ir42_v = true)
theorem M_spec_l27Code : c_spec_l27Code.modes = [.bor] := rfl
theorem Fl_spec_l27Code : c_spec_l27Code.flat = false := rfl
attribute [go_sem] M_spec_l27Code Fl_spec_l27Code
attribute [go_sem] lk_spec_l27Code_62
theorem Fs_spec_l27Code {s_ : List UInt8} {y_ : L27R × Int} (h : spec_l27Code s_ = some y_) : c_spec_l27Code.F [.str s_] = ⟨true, .tup [.mem 4 [L27R_av y_.1], .int .i64 y_.2], [.any]⟩ := by
  refine mkN_E ?_
  dsimp only [spec_l27Code] at h
  rcases it_some h with ⟨hk1, h⟩ | ⟨hk1, h⟩
  · try simp only [go_sem, n1, n2, n3, n4] at hk1
    all_goals
    obtain rfl := so_some h
    refine ⟨0, fun L hL => ?_⟩
    simp only [go_sem, ir42, hk1]
  · try simp only [go_sem, n1, n2, n3, n4] at hk1
    all_goals
    obtain ⟨y_2, hk2, h⟩ := bd_some h
    have fhk2 := Fs_spec_l27Read hk2
    try simp only [go_sem, hk1] at fhk2
    rcases it_some h with ⟨hk3, h⟩ | ⟨hk3, h⟩
    · try simp only [go_sem, n1, n2, n3, n4, hk1] at hk3
      all_goals
      obtain rfl := so_some h
      refine ⟨0, fun L hL => ?_⟩
      simp only [go_sem, ir42, hk1, fhk2, hk3]
    · try simp only [go_sem, n1, n2, n3, n4, hk1] at hk3
      all_goals
      obtain rfl := so_some h
      refine ⟨0, fun L hL => ?_⟩
      simp only [go_sem, ir42, hk1, fhk2, hk3]


def ir16_b1 : IR := .seq (.test false [
    ⟨.push, 28, none, .mov (.v 8)⟩,
    ⟨.push, 29, none, .mov (.v 5)⟩,
    ⟨.push, 30, none, .len false (.s 0)⟩,
    ⟨.push, 31, none, .bin false .lss (.s 2) (.s 0)⟩] (.s 0)
  (.skip)
  (.exit 2))
 (.seq (.block 3 (.anyo 16 [
     ⟨.slot 0, 34, none, .mov (.v 7)⟩,
     ⟨.slot 1, 35, none, .mov (.s 0)⟩,
     ⟨.slot 2, 36, (some ((.s 1), false)), .mov (.v 5)⟩,
     ⟨.slot 3, 37, (some ((.s 1), false)), .mov (.v 8)⟩,
     ⟨.slot 4, 38, (some ((.s 1), false)), .ixAddr 1 (.s 2) (.s 3)⟩,
     ⟨.slot 5, 39, (some ((.s 1), false)), .load false 1 (.s 4)⟩,
     ⟨.slot 6, 40, (some ((.s 1), false)), .mov (.v 3)⟩,
     ⟨.slot 7, 41, (some ((.s 1), false)), .nilck (.s 6)⟩,
     ⟨.slot 8, 42, (some ((.s 1), false)), .fldAddr 3 (.s 7)⟩,
     ⟨.slot 9, 43, (some ((.s 1), false)), .load false 1 (.s 8)⟩,
     ⟨.slot 10, 44, (some ((.s 1), false)), .mov (.v 6)⟩,
     ⟨.slot 11, 45, (some ((.s 1), false)), .ixAddr 3 (.s 9) (.s 10)⟩,
     ⟨.slot 12, 46, (some ((.s 1), false)), .fldAddr 1 (.s 11)⟩,
     ⟨.slot 13, 47, (some ((.s 1), false)), .load false 1 (.s 12)⟩,
     ⟨.slot 14, 48, (some ((.s 1), false)), .bin false .eql (.s 5) (.s 13)⟩,
     ⟨.slot 15, 49, none, .pick (.s 1) (.c (.bool true)) (.s 14)⟩,
     ⟨.var 7, 8, none, .mov (.s 15)⟩] [] .skip))
 (.region false [
   ⟨.push, 32, none, .mov (.v 8)⟩,
   ⟨.push, 33, none, .bin false .add (.s 0) (.c (.int .i64 (1)))⟩,
   ⟨.var 8, 9, none, .mov (.s 0)⟩]))
def ir16_k1 : List Bool := [false, false, false, true, false, true, true, true, true]
def ir16_o1 : List Bool := [false, false, false, true, false, true, true, true, false]
def ir16_r1 : List Bool := [false, true, true, false, false, false, false, false, false]
def ir16_b0 : IR := .seq (.test false [
    ⟨.push, 19, none, .mov (.v 6)⟩,
    ⟨.push, 20, none, .mov (.v 3)⟩,
    ⟨.push, 21, none, .nilck (.s 0)⟩,
    ⟨.push, 22, none, .fldAddr 3 (.s 0)⟩,
    ⟨.push, 23, none, .load false 1 (.s 0)⟩,
    ⟨.push, 24, none, .len false (.s 0)⟩,
    ⟨.push, 25, none, .bin false .lss (.s 5) (.s 0)⟩] (.s 0)
  (.skip)
  (.exit 0))
 (.seq (.block 1 (.seq (.region false [
      ⟨.var 7, 8, none, .mov (.c (.bool false))⟩])
   (.seq (.seq (.region false [
       ⟨.var 8, 9, none, .mov (.c (.int .i64 (0)))⟩])
    (.block 2 (.loop ir16_k1 ir16_o1 ir16_r1 ir16_b1)))
   (.test false [
     ⟨.push, 50, none, .mov (.v 7)⟩,
     ⟨.push, 51, none, .un .not (.s 0)⟩] (.s 0)
   (.region false [
      ⟨.push, 52, none, .mov (.v 5)⟩,
      ⟨.push, 53, none, .mov (.v 3)⟩,
      ⟨.push, 54, none, .nilck (.s 0)⟩,
      ⟨.push, 55, none, .fldAddr 3 (.s 0)⟩,
      ⟨.push, 56, none, .load false 1 (.s 0)⟩,
      ⟨.push, 57, none, .mov (.v 6)⟩,
      ⟨.push, 58, none, .ixAddr 3 (.s 1) (.s 0)⟩,
      ⟨.push, 59, none, .fldAddr 1 (.s 0)⟩,
      ⟨.push, 60, none, .load false 1 (.s 0)⟩,
      ⟨.push, 61, none, .mkSl 1 (.str []) 1 [(0, (.s 0))]⟩,
      ⟨.push, 62, none, .app 1 16 (.str []) (.s 9) (.s 0)⟩,
      ⟨.var 5, 6, none, .mov (.s 0)⟩])
   (.skip)))))
 (.region false [
   ⟨.push, 26, none, .mov (.v 6)⟩,
   ⟨.push, 27, none, .bin false .add (.s 0) (.c (.int .i64 (1)))⟩,
   ⟨.var 6, 7, none, .mov (.s 0)⟩]))
def ir16_k0 : List Bool := [false, false, false, true, false, true, true, false, false]
def ir16_o0 : List Bool := [false, false, false, false, false, true, false, false, false]
def ir16_r0 : List Bool := [false, true, true, false, false, false, false, false, false]
def ir16_v : List Nat := [0, 2, 3, 4, 5, 6, 7, 8, 9]
def ir16 : AFn := ⟨1, 9, .seq (.region false [
    ⟨.var 1, 2, none, .newnil 1⟩,
    ⟨.var 2, 3, none, .mov (.c (.int .i64 (0)))⟩])
 (.seq (.region false [
    ⟨.push, 11, none, .mov (.v 0)⟩,
    ⟨.push, 12, none, .call 42 [(.s 0)]⟩,
    ⟨.push, 10, none, .mov (.s 0)⟩,
    ⟨.push, 13, none, .ext (.s 0) 0⟩,
    ⟨.push, 14, none, .ext (.s 1) 1⟩,
    ⟨.var 3, 4, none, .mov (.s 1)⟩,
    ⟨.var 4, 5, none, .mov (.s 0)⟩])
 (.seq (.test false [
    ⟨.push, 15, none, .mov (.v 4)⟩,
    ⟨.push, 16, none, .bin false .neq (.s 0) (.c (.int .i64 (0)))⟩] (.s 0)
  (.seq (.region false [
      ⟨.push, 17, none, .mov (.v 4)⟩,
      ⟨.var 1, 2, none, .newnil 1⟩,
      ⟨.var 2, 3, none, .mov (.s 0)⟩])
   (.ret))
  (.skip))
 (.seq (.region false [
    ⟨.push, 18, none, .mkSl 1 (.str []) 0 []⟩,
    ⟨.var 5, 6, none, .mov (.s 0)⟩])
 (.seq (.seq (.region false [
     ⟨.var 6, 7, none, .mov (.c (.int .i64 (0)))⟩])
  (.block 0 (.loop ir16_k0 ir16_o0 ir16_r0 ir16_b0)))
 (.seq (.region false [
    ⟨.push, 63, none, .mov (.v 5)⟩,
    ⟨.var 1, 2, none, .mov (.s 0)⟩,
    ⟨.var 2, 3, none, .mov (.c (.int .i64 (0)))⟩])
 (.ret)))))), [.t 1, .t 2]⟩
noncomputable def t_spec_NamesIn : List (Nat × Ctr) := [(42, c_spec_l27Code)]
theorem lk_spec_NamesIn_42 : look t_spec_NamesIn 42 = some c_spec_l27Code := rfl
noncomputable def c_spec_NamesIn : Ctr := mkF t_spec_NamesIn ir16 [.bor]
theorem s_spec_NamesIn : Sound Tryd.prog 16 c_spec_NamesIn := mkF_sound _ rfl (snd_cons s_spec_l27Code snd_nil) (by kernel_rfl : chkFn Tryd.prog 16 ir16 ir16_v = true)
theorem M_spec_NamesIn : c_spec_NamesIn.modes = [.bor] := rfl
theorem Fl_spec_NamesIn : c_spec_NamesIn.flat = true := rfl
attribute [go_sem] M_spec_NamesIn Fl_spec_NamesIn
attribute [go_sem] lk_spec_NamesIn_42
def E_spec_NamesIn_l2 (r : L27R) (out : List (List UInt8)) (i : Int) : (Bool × Int) → St
  | (found, k) => ⟨[.any, .any, .any, .ref 3200000 0 0, .any, .own 3200032, .int .i64 i, .bool found, .int .i64 k], [], [(3200000, ⟨4, [L27R_av r]⟩), (3200032, ⟨1, List.map AV.str out⟩)], true⟩
def R_spec_NamesIn_l2 (r : L27R) (out : List (List UInt8)) (i : Int) (y : Bool) : Res := (.exit 2, ⟨[.any, .any, .any, .ref 3200000 0 0, .any, .own 3200032, .int .i64 i, .bool y, .any], [], [(3200000, ⟨4, [L27R_av r]⟩), (3200032, ⟨1, List.map AV.str out⟩)], true⟩)
theorem spec_NamesIn_l2_ex {r : L27R} {out : List (List UInt8)} {i : Int} {sgm_ : Bool × Int} {rho_ : Bool} (h : whileE (spec_NamesIn_l2 r out i) sgm_ = some rho_) : ∃ L0, ∀ L, L0 ≤ L → iter (exec (look t_spec_NamesIn) L ir16_b1) ir16_k1 ir16_o1 ir16_r1 L (E_spec_NamesIn_l2 r out i sgm_) = R_spec_NamesIn_l2 r out i rho_ := by
  refine loop_ex (E := E_spec_NamesIn_l2 r out i) (R := R_spec_NamesIn_l2 r out i) (fun y => by first | (intro c; cases c) | (rcases y with y | y <;> (intro c; cases c)) | (rcases y with y | y | y <;> (intro c; cases c))) ?_ h
  clear h
  rintro ⟨found, k⟩ o_ h
  dsimp only [spec_NamesIn_l2] at h
  rcases it_some h with ⟨hk4, h⟩ | ⟨hk4, h⟩
  · try simp only [go_sem, n1, n2, n3, n4] at hk4
    all_goals
    obtain ⟨hk5, h⟩ := ck_some h
    rcases or_split hk5 with ⟨ghk5, hk5⟩ | ghk5
    · try simp only [go_sem, n1, n2, n3, n4, hk4] at ghk5
      all_goals
      have lhk5 := ix_lt hk5
      have xhk5 := getD_mapD AV.str out lhk5
      try simp only [go_sem] at lhk5
      try simp only [go_sem] at xhk5
      try simp only [go_sem, n1, n2, n3, n4, hk4, ghk5] at hk5
      all_goals
      obtain ⟨hk6, h⟩ := ck_some h
      rcases or_split hk6 with ⟨ghk6, hk6⟩ | ghk6
      · try simp only [go_sem, n1, n2, n3, n4, hk4, ghk5, hk5] at ghk6
        all_goals
        have lhk6 := ix_lt hk6
        have xhk6 := getD_mapD Entry_av r.list_ lhk6
        try simp only [go_sem] at lhk6
        try simp only [go_sem] at xhk6
        try simp only [go_sem, n1, n2, n3, n4, hk4, ghk5, hk5, ghk6] at hk6
        all_goals
        obtain rfl := so_some h
        refine ⟨0, fun L hL => ?_⟩
        simp only [go_sem, ir16, E_spec_NamesIn_l2, R_spec_NamesIn_l2, ir16_b1, ir16_k1, ir16_o1, ir16_r1, hk4, ghk5, hk5, lhk5, xhk5, ghk6, hk6, lhk6, xhk6]
      · have ghk6n := no_f ghk6
        try simp only [go_sem, n1, n2, n3, n4, hk4, ghk5, hk5] at ghk6n
        all_goals
        obtain rfl := so_some h
        refine ⟨0, fun L hL => ?_⟩
        simp only [go_sem, ir16, E_spec_NamesIn_l2, R_spec_NamesIn_l2, ir16_b1, ir16_k1, ir16_o1, ir16_r1, hk4, ghk5, hk5, lhk5, xhk5, ghk6n]
    · have ghk5n := no_f ghk5
      try simp only [go_sem, n1, n2, n3, n4, hk4] at ghk5n
      all_goals
      obtain ⟨hk6, h⟩ := ck_some h
      rcases or_split hk6 with ⟨ghk6, hk6⟩ | ghk6
      · try simp only [go_sem, n1, n2, n3, n4, hk4, ghk5n] at ghk6
        all_goals
        have lhk6 := ix_lt hk6
        have xhk6 := getD_mapD Entry_av r.list_ lhk6
        try simp only [go_sem] at lhk6
        try simp only [go_sem] at xhk6
        try simp only [go_sem, n1, n2, n3, n4, hk4, ghk5n, ghk6] at hk6
        all_goals
        obtain rfl := so_some h
        refine ⟨0, fun L hL => ?_⟩
        simp only [go_sem, ir16, E_spec_NamesIn_l2, R_spec_NamesIn_l2, ir16_b1, ir16_k1, ir16_o1, ir16_r1, hk4, ghk5n, ghk6, hk6, lhk6, xhk6]
      · have ghk6n := no_f ghk6
        try simp only [go_sem, n1, n2, n3, n4, hk4, ghk5n] at ghk6n
        all_goals
        obtain rfl := so_some h
        refine ⟨0, fun L hL => ?_⟩
        simp only [go_sem, ir16, E_spec_NamesIn_l2, R_spec_NamesIn_l2, ir16_b1, ir16_k1, ir16_o1, ir16_r1, hk4, ghk5n, ghk6n]
  · try simp only [go_sem, n1, n2, n3, n4] at hk4
    all_goals
    obtain rfl := so_some h
    refine ⟨0, fun L hL => ?_⟩
    simp only [go_sem, ir16, E_spec_NamesIn_l2, R_spec_NamesIn_l2, ir16_b1, ir16_k1, ir16_o1, ir16_r1, hk4]

def E_spec_NamesIn_l1 (r : L27R) : ((List (List UInt8)) × Int) → St
  | (out, i) => ⟨[.any, .any, .any, .ref 3200000 0 0, .any, .own 3200032, .int .i64 i, .any, .any], [], [(3200000, ⟨4, [L27R_av r]⟩), (3200032, ⟨1, List.map AV.str out⟩)], true⟩
def R_spec_NamesIn_l1 (r : L27R) (y : (List (List UInt8))) : Res := (.exit 0, ⟨[.any, .any, .any, .any, .any, .own 3200000, .any, .any, .any], [], [(3200000, ⟨1, List.map AV.str y⟩)], true⟩)
theorem spec_NamesIn_l1_ex {r : L27R} {sgm_ : (List (List UInt8)) × Int} {rho_ : (List (List UInt8))} (h : whileE (spec_NamesIn_l1 r) sgm_ = some rho_) : ∃ L0, ∀ L, L0 ≤ L → iter (exec (look t_spec_NamesIn) L ir16_b0) ir16_k0 ir16_o0 ir16_r0 L (E_spec_NamesIn_l1 r sgm_) = R_spec_NamesIn_l1 r rho_ := by
  refine loop_ex (E := E_spec_NamesIn_l1 r) (R := R_spec_NamesIn_l1 r) (fun y => by first | (intro c; cases c) | (rcases y with y | y <;> (intro c; cases c)) | (rcases y with y | y | y <;> (intro c; cases c))) ?_ h
  clear h
  rintro ⟨out, i⟩ o_ h
  dsimp only [spec_NamesIn_l1] at h
  rcases it_some h with ⟨hk3, h⟩ | ⟨hk3, h⟩
  · try simp only [go_sem, n1, n2, n3, n4] at hk3
    all_goals
    obtain ⟨y_7, hk7, h⟩ := bd_some h
    obtain ⟨Lhk7, ehk7⟩ := spec_NamesIn_l2_ex hk7
    rcases it_some h with ⟨hk8, h⟩ | ⟨hk8, h⟩
    · try simp only [go_sem, n1, n2, n3, n4, hk3] at hk8
      all_goals
      obtain ⟨hk9, h⟩ := ck_some h
      have lhk9 := ix_lt hk9
      have xhk9 := getD_mapD Entry_av r.list_ lhk9
      try simp only [go_sem] at lhk9
      try simp only [go_sem] at xhk9
      try simp only [go_sem, n1, n2, n3, n4, hk3, hk8] at hk9
      all_goals
      obtain ⟨hk10, h⟩ := ck_some h
      try simp only [go_sem, n1, n2, n3, n4, hk3, hk8, hk9] at hk10
      all_goals
      obtain rfl := so_some h
      refine ⟨Lhk7, fun L hL => ?_⟩
      have ehk7 := ehk7 L (by omega)
      try simp only [go_sem, E_spec_NamesIn_l1, R_spec_NamesIn_l1, ir16_b0, ir16_k0, ir16_o0, ir16_r0, E_spec_NamesIn_l2, R_spec_NamesIn_l2, ir16_k1, ir16_o1, ir16_r1, hk3, hk8, hk9, hk10] at ehk7
      simp only [go_sem, ir16, E_spec_NamesIn_l1, R_spec_NamesIn_l1, ir16_b0, ir16_k0, ir16_o0, ir16_r0, E_spec_NamesIn_l2, R_spec_NamesIn_l2, ir16_k1, ir16_o1, ir16_r1, hk3, hk8, hk9, lhk9, xhk9, hk10, ehk7]
    · try simp only [go_sem, n1, n2, n3, n4, hk3] at hk8
      all_goals
      obtain rfl := so_some h
      refine ⟨Lhk7, fun L hL => ?_⟩
      have ehk7 := ehk7 L (by omega)
      try simp only [go_sem, E_spec_NamesIn_l1, R_spec_NamesIn_l1, ir16_b0, ir16_k0, ir16_o0, ir16_r0, E_spec_NamesIn_l2, R_spec_NamesIn_l2, ir16_k1, ir16_o1, ir16_r1, hk3, hk8] at ehk7
      simp only [go_sem, ir16, E_spec_NamesIn_l1, R_spec_NamesIn_l1, ir16_b0, ir16_k0, ir16_o0, ir16_r0, E_spec_NamesIn_l2, R_spec_NamesIn_l2, ir16_k1, ir16_o1, ir16_r1, hk3, hk8, ehk7]
  · try simp only [go_sem, n1, n2, n3, n4] at hk3
    all_goals
    obtain rfl := so_some h
    refine ⟨0, fun L hL => ?_⟩
    simp only [go_sem, ir16, E_spec_NamesIn_l1, R_spec_NamesIn_l1, ir16_b0, ir16_k0, ir16_o0, ir16_r0, E_spec_NamesIn_l2, R_spec_NamesIn_l2, ir16_k1, ir16_o1, ir16_r1, hk3]

theorem Fs_spec_NamesIn {log : List UInt8} {y_ : (List (List UInt8)) × Int} (h : spec_NamesIn log = some y_) : c_spec_NamesIn.F [.str log] = ⟨true, .tup [.fresh 1 (List.map AV.str y_.1), .int .i64 y_.2], [.any]⟩ := by
  refine mkF_E (by simp only [flatA, flatB, flat1, List.all_cons, List.all_nil, Bool.and_self, flatE_map (f := AV.str) (fun _ => rfl)]) ?_
  dsimp only [spec_NamesIn] at h
  obtain ⟨y_1, hk1, h⟩ := bd_some h
  have fhk1 := Fs_spec_l27Code hk1
  try simp only [go_sem] at fhk1
  rcases it_some h with ⟨hk2, h⟩ | ⟨hk2, h⟩
  · try simp only [go_sem, n1, n2, n3, n4] at hk2
    all_goals
    obtain rfl := so_some h
    refine ⟨0, fun L hL => ?_⟩
    simp only [go_sem, ir16, E_spec_NamesIn_l2, R_spec_NamesIn_l2, ir16_k1, ir16_o1, ir16_r1, E_spec_NamesIn_l1, R_spec_NamesIn_l1, ir16_k0, ir16_o0, ir16_r0, fhk1, hk2]
  · try simp only [go_sem, n1, n2, n3, n4] at hk2
    all_goals
    obtain ⟨y_11, hk11, h⟩ := bd_some h
    obtain ⟨Lhk11, ehk11⟩ := spec_NamesIn_l1_ex hk11
    obtain rfl := so_some h
    refine ⟨Lhk11, fun L hL => ?_⟩
    have ehk11 := ehk11 L (by omega)
    try simp only [go_sem, E_spec_NamesIn_l2, R_spec_NamesIn_l2, ir16_k1, ir16_o1, ir16_r1, E_spec_NamesIn_l1, R_spec_NamesIn_l1, ir16_k0, ir16_o0, ir16_r0, hk2] at ehk11
    simp only [go_sem, ir16, E_spec_NamesIn_l2, R_spec_NamesIn_l2, ir16_k1, ir16_o1, ir16_r1, E_spec_NamesIn_l1, R_spec_NamesIn_l1, ir16_k0, ir16_o0, ir16_r0, fhk1, hk2, ehk11]


def ir17_b0 : IR := .seq (.test false [
    ⟨.push, 11, none, .mov (.v 3)⟩,
    ⟨.push, 12, none, .mov (.v 0)⟩,
    ⟨.push, 13, none, .len false (.s 0)⟩,
    ⟨.push, 14, none, .bin false .lss (.s 2) (.s 0)⟩] (.s 0)
  (.skip)
  (.exit 0))
 (.seq (.block 1 (.anyo 9 [
     ⟨.slot 0, 17, none, .mov (.v 0)⟩,
     ⟨.slot 1, 18, none, .mov (.v 3)⟩,
     ⟨.slot 2, 19, none, .ixAddr 1 (.s 0) (.s 1)⟩,
     ⟨.slot 3, 20, none, .load false 1 (.s 2)⟩,
     ⟨.slot 4, 21, none, .mov (.v 1)⟩,
     ⟨.slot 5, 22, none, .mov (.v 3)⟩,
     ⟨.slot 6, 23, none, .ixAddr 1 (.s 4) (.s 5)⟩,
     ⟨.slot 7, 24, none, .load false 1 (.s 6)⟩,
     ⟨.slot 8, 25, none, .bin false .neq (.s 3) (.s 7)⟩] [] (.cond (.s 8)
   (.seq (.region false [
       ⟨.var 2, 4, none, .mov (.c (.bool false))⟩])
    (.ret))
   (.skip))))
 (.region false [
   ⟨.push, 15, none, .mov (.v 3)⟩,
   ⟨.push, 16, none, .bin false .add (.s 0) (.c (.int .i64 (1)))⟩,
   ⟨.var 3, 5, none, .mov (.s 0)⟩]))
def ir17_k0 : List Bool := [true, true, false, true]
def ir17_o0 : List Bool := [false, false, false, false]
def ir17_r0 : List Bool := [false, false, true, false]
def ir17_v : List Nat := [0, 1, 4, 5]
def ir17 : AFn := ⟨2, 4, .seq (.region false [
    ⟨.var 2, 4, none, .mov (.c (.bool false))⟩])
 (.seq (.test false [
    ⟨.push, 6, none, .mov (.v 0)⟩,
    ⟨.push, 7, none, .len false (.s 0)⟩,
    ⟨.push, 8, none, .mov (.v 1)⟩,
    ⟨.push, 9, none, .len false (.s 0)⟩,
    ⟨.push, 10, none, .bin false .neq (.s 2) (.s 0)⟩] (.s 0)
  (.seq (.region false [
      ⟨.var 2, 4, none, .mov (.c (.bool false))⟩])
   (.ret))
  (.skip))
 (.seq (.seq (.region false [
     ⟨.var 3, 5, none, .mov (.c (.int .i64 (0)))⟩])
  (.block 0 (.loop ir17_k0 ir17_o0 ir17_r0 ir17_b0)))
 (.seq (.region false [
    ⟨.var 2, 4, none, .mov (.c (.bool true))⟩])
 (.ret)))), [.t 2]⟩
noncomputable def t_laws_eqStringS : List (Nat × Ctr) := []
noncomputable def c_laws_eqStringS : Ctr := mkF t_laws_eqStringS ir17 [.bor, .bor]
theorem s_laws_eqStringS : Sound Tryd.prog 17 c_laws_eqStringS := mkF_sound _ rfl snd_nil (by kernel_rfl : chkFn Tryd.prog 17 ir17 ir17_v = true)
theorem M_laws_eqStringS : c_laws_eqStringS.modes = [.bor, .bor] := rfl
theorem Fl_laws_eqStringS : c_laws_eqStringS.flat = true := rfl
attribute [go_sem] M_laws_eqStringS Fl_laws_eqStringS
def E_laws_eqStringS_l1 (a : List (List UInt8)) (b : List (List UInt8)) : Int → St
  | i => ⟨[.sl 1 (List.map AV.str a), .sl 1 (List.map AV.str b), .any, .int .i64 i], [], [], true⟩
def R_laws_eqStringS_l1 (a : List (List UInt8)) (b : List (List UInt8)) : (Unit ⊕ Bool) → Res
  | .inl y => (.exit 0, ⟨[.any, .any, .any, .any], [], [], true⟩)
  | .inr y => (.ret, ⟨[.any, .any, .bool y, .any], [], [], true⟩)
theorem laws_eqStringS_l1_ex {a : List (List UInt8)} {b : List (List UInt8)} {sgm_ : Int} {rho_ : Unit ⊕ Bool} (h : whileE (laws_eqStringS_l1 a b) sgm_ = some rho_) : ∃ L0, ∀ L, L0 ≤ L → iter (exec (look t_laws_eqStringS) L ir17_b0) ir17_k0 ir17_o0 ir17_r0 L (E_laws_eqStringS_l1 a b sgm_) = R_laws_eqStringS_l1 a b rho_ := by
  refine loop_ex (E := E_laws_eqStringS_l1 a b) (R := R_laws_eqStringS_l1 a b) (fun y => by first | (intro c; cases c) | (rcases y with y | y <;> (intro c; cases c)) | (rcases y with y | y | y <;> (intro c; cases c))) ?_ h
  clear h
  intro i o_ h
  dsimp only [laws_eqStringS_l1] at h
  rcases it_some h with ⟨hk2, h⟩ | ⟨hk2, h⟩
  · try simp only [go_sem, n1, n2, n3, n4] at hk2
    all_goals
    obtain ⟨hk3, h⟩ := ck_some h
    have lhk3 := ix_lt hk3
    have xhk3 := getD_mapD AV.str a lhk3
    try simp only [go_sem] at lhk3
    try simp only [go_sem] at xhk3
    try simp only [go_sem, n1, n2, n3, n4, hk2] at hk3
    all_goals
    obtain ⟨hk4, h⟩ := ck_some h
    have lhk4 := ix_lt hk4
    have xhk4 := getD_mapD AV.str b lhk4
    try simp only [go_sem] at lhk4
    try simp only [go_sem] at xhk4
    try simp only [go_sem, n1, n2, n3, n4, hk2, hk3] at hk4
    all_goals
    rcases it_some h with ⟨hk5, h⟩ | ⟨hk5, h⟩
    · try simp only [go_sem, n1, n2, n3, n4, hk2, hk3, hk4] at hk5
      all_goals
      obtain rfl := so_some h
      refine ⟨0, fun L hL => ?_⟩
      simp only [go_sem, ir17, E_laws_eqStringS_l1, R_laws_eqStringS_l1, ir17_b0, ir17_k0, ir17_o0, ir17_r0, hk2, hk3, lhk3, xhk3, hk4, lhk4, xhk4, hk5]
    · try simp only [go_sem, n1, n2, n3, n4, hk2, hk3, hk4] at hk5
      all_goals
      obtain rfl := so_some h
      refine ⟨0, fun L hL => ?_⟩
      simp only [go_sem, ir17, E_laws_eqStringS_l1, R_laws_eqStringS_l1, ir17_b0, ir17_k0, ir17_o0, ir17_r0, hk2, hk3, lhk3, xhk3, hk4, lhk4, xhk4, hk5]
  · try simp only [go_sem, n1, n2, n3, n4] at hk2
    all_goals
    obtain rfl := so_some h
    refine ⟨0, fun L hL => ?_⟩
    simp only [go_sem, ir17, E_laws_eqStringS_l1, R_laws_eqStringS_l1, ir17_b0, ir17_k0, ir17_o0, ir17_r0, hk2]

theorem Fs_laws_eqStringS {a : List (List UInt8)} {b : List (List UInt8)} {y_ : Bool} (h : laws_eqStringS a b = some y_) : c_laws_eqStringS.F [.sl 1 (List.map AV.str a), .sl 1 (List.map AV.str b)] = ⟨true, .bool y_, [.any, .any]⟩ := by
  refine mkF_E rfl ?_
  dsimp only [laws_eqStringS] at h
  rcases it_some h with ⟨hk1, h⟩ | ⟨hk1, h⟩
  · try simp only [go_sem, n1, n2, n3, n4] at hk1
    all_goals
    obtain rfl := so_some h
    refine ⟨0, fun L hL => ?_⟩
    simp only [go_sem, ir17, E_laws_eqStringS_l1, R_laws_eqStringS_l1, ir17_k0, ir17_o0, ir17_r0, hk1]
  · try simp only [go_sem, n1, n2, n3, n4] at hk1
    all_goals
    obtain ⟨y_6, hk6, h⟩ := bd_some h
    obtain ⟨Lhk6, ehk6⟩ := laws_eqStringS_l1_ex hk6
    rcases y_6 with y_6a | y_6b
    · dsimp only at h
      obtain rfl := so_some h
      refine ⟨Lhk6, fun L hL => ?_⟩
      have ehk6 := ehk6 L (by omega)
      try simp only [go_sem, E_laws_eqStringS_l1, R_laws_eqStringS_l1, ir17_k0, ir17_o0, ir17_r0, hk1] at ehk6
      simp only [go_sem, ir17, E_laws_eqStringS_l1, R_laws_eqStringS_l1, ir17_k0, ir17_o0, ir17_r0, hk1, ehk6]
    · dsimp only at h
      obtain rfl := so_some h
      refine ⟨Lhk6, fun L hL => ?_⟩
      have ehk6 := ehk6 L (by omega)
      try simp only [go_sem, E_laws_eqStringS_l1, R_laws_eqStringS_l1, ir17_k0, ir17_o0, ir17_r0, hk1] at ehk6
      simp only [go_sem, ir17, E_laws_eqStringS_l1, R_laws_eqStringS_l1, ir17_k0, ir17_o0, ir17_r0, hk1, ehk6]


def ir43_b0 : IR := .seq (.test false [
    ⟨.push, 6, none, .mov (.v 0)⟩,
    ⟨.push, 7, none, .bin false .gtr (.s 0) (.c (.int .i64 (0)))⟩] (.s 0)
  (.skip)
  (.exit 0))
 (.block 1 (.seq (.region false [
     ⟨.push, 8, none, .mov (.v 0)⟩,
     ⟨.push, 9, none, .bin false .rem (.s 0) (.c (.int .i64 (10)))⟩,
     ⟨.push, 10, none, .bin false .add (.c (.int .i64 (48))) (.s 0)⟩,
     ⟨.push, 11, none, .conv .u8 (.s 0)⟩,
     ⟨.push, 12, none, .mkSl 1 (.int .u8 (0)) 1 [(0, (.s 0))]⟩,
     ⟨.push, 13, none, .b2s (.s 0)⟩,
     ⟨.push, 14, none, .mov (.v 2)⟩,
     ⟨.push, 15, none, .bin false .add (.s 1) (.s 0)⟩,
     ⟨.var 2, 3, none, .mov (.s 0)⟩])
  (.region false [
    ⟨.push, 16, none, .mov (.v 0)⟩,
    ⟨.push, 17, none, .bin false .quo (.s 0) (.c (.int .i64 (10)))⟩,
    ⟨.var 0, 0, none, .mov (.s 0)⟩])))
def ir43_k0 : List Bool := [true, false, true]
def ir43_o0 : List Bool := [false, false, true]
def ir43_r0 : List Bool := [false, true, false]
def ir43_v : List Nat := [0, 2, 3]
def ir43 : AFn := ⟨1, 3, .seq (.region false [
    ⟨.var 1, 2, none, .mov (.c (.str []))⟩])
 (.seq (.test false [
    ⟨.push, 4, none, .mov (.v 0)⟩,
    ⟨.push, 5, none, .bin false .leq (.s 0) (.c (.int .i64 (0)))⟩] (.s 0)
  (.seq (.region false [
      ⟨.var 1, 2, none, .mov (.c (.str [109, 48]))⟩])
   (.ret))
  (.skip))
 (.seq (.region false [
    ⟨.var 2, 3, none, .mov (.c (.str []))⟩])
 (.seq (.block 0 (.loop ir43_k0 ir43_o0 ir43_r0 ir43_b0))
 (.seq (.region false [
    ⟨.push, 18, none, .mov (.v 2)⟩,
    ⟨.push, 19, none, .bin false .add (.c (.str [109])) (.s 0)⟩,
    ⟨.var 1, 2, none, .mov (.s 0)⟩])
 (.ret))))), [.t 1]⟩
noncomputable def t_laws_markText : List (Nat × Ctr) := []
noncomputable def c_laws_markText : Ctr := mkF t_laws_markText ir43 [.bor]
theorem s_laws_markText : Sound Tryd.prog 43 c_laws_markText := mkF_sound _ rfl snd_nil (by kernel_rfl : chkFn Tryd.prog 43 ir43 ir43_v = true)
theorem M_laws_markText : c_laws_markText.modes = [.bor] := rfl
theorem Fl_laws_markText : c_laws_markText.flat = true := rfl
attribute [go_sem] M_laws_markText Fl_laws_markText
def E_laws_markText_l1  : (Int × (List UInt8)) → St
  | (k, out) => ⟨[.int .i64 k, .any, .str out], [], [], true⟩
def R_laws_markText_l1  (y : (List UInt8)) : Res := (.exit 0, ⟨[.any, .any, .str y], [], [], true⟩)
theorem laws_markText_l1_ex  {sgm_ : Int × (List UInt8)} {rho_ : (List UInt8)} (h : whileE (laws_markText_l1) sgm_ = some rho_) : ∃ L0, ∀ L, L0 ≤ L → iter (exec (look t_laws_markText) L ir43_b0) ir43_k0 ir43_o0 ir43_r0 L (E_laws_markText_l1 sgm_) = R_laws_markText_l1 rho_ := by
  refine loop_ex (E := E_laws_markText_l1) (R := R_laws_markText_l1) (fun y => by first | (intro c; cases c) | (rcases y with y | y <;> (intro c; cases c)) | (rcases y with y | y | y <;> (intro c; cases c))) ?_ h
  clear h
  rintro ⟨k, out⟩ o_ h
  dsimp only [laws_markText_l1] at h
  rcases it_some h with ⟨hk2, h⟩ | ⟨hk2, h⟩
  · try simp only [go_sem, n1, n2, n3, n4] at hk2
    all_goals
    obtain ⟨hk3, h⟩ := ck_some h
    try simp only [go_sem, n1, n2, n3, n4, hk2] at hk3
    all_goals
    obtain ⟨hk4, h⟩ := ck_some h
    try simp only [go_sem, n1, n2, n3, n4, hk2, hk3] at hk4
    all_goals
    obtain rfl := so_some h
    refine ⟨0, fun L hL => ?_⟩
    simp only [go_sem, ir43, E_laws_markText_l1, R_laws_markText_l1, ir43_b0, ir43_k0, ir43_o0, ir43_r0, hk2, hk3, hk4]
  · try simp only [go_sem, n1, n2, n3, n4] at hk2
    all_goals
    obtain rfl := so_some h
    refine ⟨0, fun L hL => ?_⟩
    simp only [go_sem, ir43, E_laws_markText_l1, R_laws_markText_l1, ir43_b0, ir43_k0, ir43_o0, ir43_r0, hk2]

theorem Fs_laws_markText {k : Int} {y_ : (List UInt8)} (h : laws_markText k = some y_) : c_laws_markText.F [.int .i64 k] = ⟨true, .str y_, [.any]⟩ := by
  refine mkF_E rfl ?_
  dsimp only [laws_markText] at h
  rcases it_some h with ⟨hk1, h⟩ | ⟨hk1, h⟩
  · try simp only [go_sem, n1, n2, n3, n4] at hk1
    all_goals
    obtain rfl := so_some h
    refine ⟨0, fun L hL => ?_⟩
    simp only [go_sem, ir43, E_laws_markText_l1, R_laws_markText_l1, ir43_k0, ir43_o0, ir43_r0, hk1]
  · try simp only [go_sem, n1, n2, n3, n4] at hk1
    all_goals
    obtain ⟨y_5, hk5, h⟩ := bd_some h
    obtain ⟨Lhk5, ehk5⟩ := laws_markText_l1_ex hk5
    obtain ⟨hk6, h⟩ := ck_some h
    try simp only [go_sem, n1, n2, n3, n4, hk1] at hk6
    all_goals
    obtain rfl := so_some h
    refine ⟨Lhk5, fun L hL => ?_⟩
    have ehk5 := ehk5 L (by omega)
    try simp only [go_sem, E_laws_markText_l1, R_laws_markText_l1, ir43_k0, ir43_o0, ir43_r0, hk1, hk6] at ehk5
    simp only [go_sem, ir43, E_laws_markText_l1, R_laws_markText_l1, ir43_k0, ir43_o0, ir43_r0, hk1, hk6, ehk5]


def ir18_b0 : IR := .seq (.test false [
    ⟨.push, 6, none, .mov (.v 3)⟩,
    ⟨.push, 7, none, .mov (.v 0)⟩,
    ⟨.push, 8, none, .len false (.s 0)⟩,
    ⟨.push, 9, none, .bin false .lss (.s 2) (.s 0)⟩] (.s 0)
  (.skip)
  (.exit 0))
 (.seq (.block 1 (.seq (.region false [
      ⟨.push, 12, none, .mov (.v 0)⟩,
      ⟨.push, 13, none, .mov (.v 3)⟩,
      ⟨.push, 14, none, .mov (.v 1)⟩,
      ⟨.push, 15, none, .call 43 [(.s 0)]⟩,
      ⟨.push, 16, none, .ixAddr 1 (.s 3) (.s 2)⟩,
      ⟨.no, 0, none, .store 1 (.s 0) (.s 1)⟩])
   (.region false [
     ⟨.push, 17, none, .mov (.v 1)⟩,
     ⟨.push, 18, none, .bin false .add (.s 0) (.c (.int .i64 (1)))⟩,
     ⟨.var 1, 1, none, .mov (.s 0)⟩])))
 (.region false [
   ⟨.push, 10, none, .mov (.v 3)⟩,
   ⟨.push, 11, none, .bin false .add (.s 0) (.c (.int .i64 (1)))⟩,
   ⟨.var 3, 5, none, .mov (.s 0)⟩]))
def ir18_k0 : List Bool := [true, true, false, true]
def ir18_o0 : List Bool := [true, true, false, false]
def ir18_r0 : List Bool := [true, false, true, false]
def ir18_v : List Nat := [0, 1, 4, 5]
def ir18 : AFn := ⟨2, 4, .seq (.region false [
    ⟨.var 2, 4, none, .mov (.c (.int .i64 (0)))⟩])
 (.seq (.seq (.region false [
     ⟨.var 3, 5, none, .mov (.c (.int .i64 (0)))⟩])
  (.block 0 (.loop ir18_k0 ir18_o0 ir18_r0 ir18_b0)))
 (.seq (.region false [
    ⟨.push, 19, none, .mov (.v 1)⟩,
    ⟨.var 2, 4, none, .mov (.s 0)⟩])
 (.ret))), [.t 2]⟩
noncomputable def t_laws_markStringS : List (Nat × Ctr) := [(43, c_laws_markText)]
theorem lk_laws_markStringS_43 : look t_laws_markStringS 43 = some c_laws_markText := rfl
noncomputable def c_laws_markStringS : Ctr := mkN t_laws_markStringS ir18 [.io, .bor]
theorem s_laws_markStringS : Sound Tryd.prog 18 c_laws_markStringS := mkN_sound _ (snd_cons s_laws_markText snd_nil) (by kernel_rfl : chkFn Tryd.prog 18 ir18 ir18_v = true)
theorem M_laws_markStringS : c_laws_markStringS.modes = [.io, .bor] := rfl
theorem Fl_laws_markStringS : c_laws_markStringS.flat = false := rfl
attribute [go_sem] M_laws_markStringS Fl_laws_markStringS
attribute [go_sem] lk_laws_markStringS_43
def E_laws_markStringS_l1  : ((List (List UInt8)) × Int × Int) → St
  | (a, k, i) => ⟨[.own 31, .int .i64 k, .any, .int .i64 i], [], [(31, ⟨1, List.map AV.str a⟩)], true⟩
def R_laws_markStringS_l1  (y : (List (List UInt8)) × Int) : Res := (.exit 0, ⟨[.own 31, .int .i64 y.2, .any, .any], [], [(31, ⟨1, List.map AV.str y.1⟩)], true⟩)
theorem laws_markStringS_l1_ex  {sgm_ : (List (List UInt8)) × Int × Int} {rho_ : (List (List UInt8)) × Int} (h : whileE (laws_markStringS_l1) sgm_ = some rho_) : ∃ L0, ∀ L, L0 ≤ L → iter (exec (look t_laws_markStringS) L ir18_b0) ir18_k0 ir18_o0 ir18_r0 L (E_laws_markStringS_l1 sgm_) = R_laws_markStringS_l1 rho_ := by
  refine loop_ex (E := E_laws_markStringS_l1) (R := R_laws_markStringS_l1) (fun y => by first | (intro c; cases c) | (rcases y with y | y <;> (intro c; cases c)) | (rcases y with y | y | y <;> (intro c; cases c))) ?_ h
  clear h
  rintro ⟨a, k, i⟩ o_ h
  dsimp only [laws_markStringS_l1] at h
  rcases it_some h with ⟨hk1, h⟩ | ⟨hk1, h⟩
  · try simp only [go_sem, n1, n2, n3, n4] at hk1
    all_goals
    obtain ⟨y_2, hk2, h⟩ := bd_some h
    have fhk2 := Fs_laws_markText hk2
    try simp only [go_sem, hk1] at fhk2
    obtain ⟨hk3, h⟩ := ck_some h
    have lhk3 := ix_lt hk3
    have xhk3 := getD_mapD AV.str a lhk3
    try simp only [go_sem] at lhk3
    try simp only [go_sem] at xhk3
    try simp only [go_sem, n1, n2, n3, n4, hk1] at hk3
    all_goals
    obtain rfl := so_some h
    refine ⟨0, fun L hL => ?_⟩
    simp only [go_sem, ir18, E_laws_markStringS_l1, R_laws_markStringS_l1, ir18_b0, ir18_k0, ir18_o0, ir18_r0, hk1, fhk2, hk3, lhk3, xhk3]
  · try simp only [go_sem, n1, n2, n3, n4] at hk1
    all_goals
    obtain rfl := so_some h
    refine ⟨0, fun L hL => ?_⟩
    simp only [go_sem, ir18, E_laws_markStringS_l1, R_laws_markStringS_l1, ir18_b0, ir18_k0, ir18_o0, ir18_r0, hk1]

theorem Fs_laws_markStringS {a : List (List UInt8)} {k : Int} {y_ : Int × (List (List UInt8))} (h : laws_markStringS a k = some y_) : c_laws_markStringS.F [.fresh 1 (List.map AV.str a), .int .i64 k] = ⟨true, .int .i64 y_.1, [.fresh 1 (List.map AV.str y_.2), .any]⟩ := by
  refine mkN_E ?_
  dsimp only [laws_markStringS] at h
  obtain ⟨y_4, hk4, h⟩ := bd_some h
  obtain ⟨Lhk4, ehk4⟩ := laws_markStringS_l1_ex hk4
  obtain ⟨hk5, h⟩ := ck_some h
  try simp only [go_sem, n1, n2, n3, n4] at hk5
  all_goals
  obtain rfl := so_some h
  refine ⟨Lhk4, fun L hL => ?_⟩
  have ehk4 := ehk4 L (by omega)
  try simp only [go_sem, E_laws_markStringS_l1, R_laws_markStringS_l1, ir18_k0, ir18_o0, ir18_r0, hk5] at ehk4
  simp only [go_sem, ir18, E_laws_markStringS_l1, R_laws_markStringS_l1, ir18_k0, ir18_o0, ir18_r0, hk5, ehk4]


def ir19_b0 : IR := .seq (.test false [
    ⟨.push, 6, none, .mov (.v 3)⟩,
    ⟨.push, 7, none, .mov (.v 0)⟩,
    ⟨.push, 8, none, .len false (.s 0)⟩,
    ⟨.push, 9, none, .bin false .lss (.s 2) (.s 0)⟩] (.s 0)
  (.skip)
  (.exit 0))
 (.seq (.block 1 (.seq (.anyo 7 [
      ⟨.slot 0, 12, none, .mov (.v 0)⟩,
      ⟨.slot 1, 13, none, .mov (.v 3)⟩,
      ⟨.slot 2, 14, none, .ixAddr 1 (.s 0) (.s 1)⟩,
      ⟨.slot 3, 15, none, .load false 1 (.s 2)⟩,
      ⟨.slot 4, 16, none, .mov (.v 1)⟩,
      ⟨.slot 5, 17, none, .callp 43 [(.s 4)]⟩,
      ⟨.slot 6, 18, none, .bin false .neq (.s 3) (.s 5)⟩] [] (.cond (.s 6)
    (.seq (.region false [
        ⟨.var 2, 4, none, .mov (.c (.int .i64 (-1)))⟩])
     (.ret))
    (.skip)))
   (.region false [
     ⟨.push, 19, none, .mov (.v 1)⟩,
     ⟨.push, 20, none, .bin false .add (.s 0) (.c (.int .i64 (1)))⟩,
     ⟨.var 1, 1, none, .mov (.s 0)⟩])))
 (.region false [
   ⟨.push, 10, none, .mov (.v 3)⟩,
   ⟨.push, 11, none, .bin false .add (.s 0) (.c (.int .i64 (1)))⟩,
   ⟨.var 3, 5, none, .mov (.s 0)⟩]))
def ir19_k0 : List Bool := [true, true, false, true]
def ir19_o0 : List Bool := [false, true, false, false]
def ir19_r0 : List Bool := [false, false, true, false]
def ir19_v : List Nat := [0, 1, 4, 5]
def ir19 : AFn := ⟨2, 4, .seq (.region false [
    ⟨.var 2, 4, none, .mov (.c (.int .i64 (0)))⟩])
 (.seq (.seq (.region false [
     ⟨.var 3, 5, none, .mov (.c (.int .i64 (0)))⟩])
  (.block 0 (.loop ir19_k0 ir19_o0 ir19_r0 ir19_b0)))
 (.seq (.region false [
    ⟨.push, 21, none, .mov (.v 1)⟩,
    ⟨.var 2, 4, none, .mov (.s 0)⟩])
 (.ret))), [.t 2]⟩
noncomputable def t_laws_heldStringS : List (Nat × Ctr) := [(43, c_laws_markText)]
theorem lk_laws_heldStringS_43 : look t_laws_heldStringS 43 = some c_laws_markText := rfl
noncomputable def c_laws_heldStringS : Ctr := mkF t_laws_heldStringS ir19 [.bor, .bor]
theorem s_laws_heldStringS : Sound Tryd.prog 19 c_laws_heldStringS := mkF_sound _ rfl (snd_cons s_laws_markText snd_nil) (by kernel_rfl : chkFn Tryd.prog 19 ir19 ir19_v = true)
theorem M_laws_heldStringS : c_laws_heldStringS.modes = [.bor, .bor] := rfl
theorem Fl_laws_heldStringS : c_laws_heldStringS.flat = true := rfl
attribute [go_sem] M_laws_heldStringS Fl_laws_heldStringS
attribute [go_sem] lk_laws_heldStringS_43
def E_laws_heldStringS_l1 (a : List (List UInt8)) : (Int × Int) → St
  | (k, i) => ⟨[.sl 1 (List.map AV.str a), .int .i64 k, .any, .int .i64 i], [], [], true⟩
def R_laws_heldStringS_l1 (a : List (List UInt8)) : (Int ⊕ Int) → Res
  | .inl y => (.exit 0, ⟨[.any, .int .i64 y, .any, .any], [], [], true⟩)
  | .inr y => (.ret, ⟨[.any, .any, .int .i64 y, .any], [], [], true⟩)
theorem laws_heldStringS_l1_ex {a : List (List UInt8)} {sgm_ : Int × Int} {rho_ : Int ⊕ Int} (h : whileE (laws_heldStringS_l1 a) sgm_ = some rho_) : ∃ L0, ∀ L, L0 ≤ L → iter (exec (look t_laws_heldStringS) L ir19_b0) ir19_k0 ir19_o0 ir19_r0 L (E_laws_heldStringS_l1 a sgm_) = R_laws_heldStringS_l1 a rho_ := by
  refine loop_ex (E := E_laws_heldStringS_l1 a) (R := R_laws_heldStringS_l1 a) (fun y => by first | (intro c; cases c) | (rcases y with y | y <;> (intro c; cases c)) | (rcases y with y | y | y <;> (intro c; cases c))) ?_ h
  clear h
  rintro ⟨k, i⟩ o_ h
  dsimp only [laws_heldStringS_l1] at h
  rcases it_some h with ⟨hk1, h⟩ | ⟨hk1, h⟩
  · try simp only [go_sem, n1, n2, n3, n4] at hk1
    all_goals
    obtain ⟨hk2, h⟩ := ck_some h
    have lhk2 := ix_lt hk2
    have xhk2 := getD_mapD AV.str a lhk2
    try simp only [go_sem] at lhk2
    try simp only [go_sem] at xhk2
    try simp only [go_sem, n1, n2, n3, n4, hk1] at hk2
    all_goals
    obtain ⟨y_3, hk3, h⟩ := bd_some h
    have fhk3 := Fs_laws_markText hk3
    try simp only [go_sem, hk1, hk2] at fhk3
    rcases it_some h with ⟨hk4, h⟩ | ⟨hk4, h⟩
    · try simp only [go_sem, n1, n2, n3, n4, hk1, hk2] at hk4
      all_goals
      obtain rfl := so_some h
      refine ⟨0, fun L hL => ?_⟩
      simp only [go_sem, ir19, E_laws_heldStringS_l1, R_laws_heldStringS_l1, ir19_b0, ir19_k0, ir19_o0, ir19_r0, hk1, hk2, lhk2, xhk2, fhk3, hk4]
    · try simp only [go_sem, n1, n2, n3, n4, hk1, hk2] at hk4
      all_goals
      obtain rfl := so_some h
      refine ⟨0, fun L hL => ?_⟩
      simp only [go_sem, ir19, E_laws_heldStringS_l1, R_laws_heldStringS_l1, ir19_b0, ir19_k0, ir19_o0, ir19_r0, hk1, hk2, lhk2, xhk2, fhk3, hk4]
  · try simp only [go_sem, n1, n2, n3, n4] at hk1
    all_goals
    obtain rfl := so_some h
    refine ⟨0, fun L hL => ?_⟩
    simp only [go_sem, ir19, E_laws_heldStringS_l1, R_laws_heldStringS_l1, ir19_b0, ir19_k0, ir19_o0, ir19_r0, hk1]

theorem Fs_laws_heldStringS {a : List (List UInt8)} {k : Int} {y_ : Int} (h : laws_heldStringS a k = some y_) : c_laws_heldStringS.F [.sl 1 (List.map AV.str a), .int .i64 k] = ⟨true, .int .i64 y_, [.any, .any]⟩ := by
  refine mkF_E rfl ?_
  dsimp only [laws_heldStringS] at h
  obtain ⟨y_5, hk5, h⟩ := bd_some h
  obtain ⟨Lhk5, ehk5⟩ := laws_heldStringS_l1_ex hk5
  rcases y_5 with y_5a | y_5b
  · dsimp only at h
    obtain rfl := so_some h
    refine ⟨Lhk5, fun L hL => ?_⟩
    have ehk5 := ehk5 L (by omega)
    try simp only [go_sem, E_laws_heldStringS_l1, R_laws_heldStringS_l1, ir19_k0, ir19_o0, ir19_r0] at ehk5
    simp only [go_sem, ir19, E_laws_heldStringS_l1, R_laws_heldStringS_l1, ir19_k0, ir19_o0, ir19_r0, ehk5]
  · dsimp only at h
    obtain rfl := so_some h
    refine ⟨Lhk5, fun L hL => ?_⟩
    have ehk5 := ehk5 L (by omega)
    try simp only [go_sem, E_laws_heldStringS_l1, R_laws_heldStringS_l1, ir19_k0, ir19_o0, ir19_r0] at ehk5
    simp only [go_sem, ir19, E_laws_heldStringS_l1, R_laws_heldStringS_l1, ir19_k0, ir19_o0, ir19_r0, ehk5]


def ir5_v : List Nat := [0, 2, 3, 4, 5, 6, 7, 8, 9, 10]
def ir5 : AFn := ⟨1, 10, .seq (.region false [
    ⟨.var 1, 2, none, .mov (.c (.bool false))⟩])
 (.seq (.test false [
    ⟨.push, 11, none, .mov (.v 0)⟩,
    ⟨.push, 12, none, .len true (.s 0)⟩,
    ⟨.push, 13, none, .bin false .gtr (.s 0) (.c (.int .i64 (1048576)))⟩] (.s 0)
  (.seq (.region false [
      ⟨.var 1, 2, none, .mov (.c (.bool true))⟩])
   (.ret))
  (.skip))
 (.seq (.region false [
    ⟨.push, 15, none, .mov (.v 0)⟩,
    ⟨.push, 16, none, .call 16 [(.s 0)]⟩,
    ⟨.push, 14, none, .mov (.s 0)⟩,
    ⟨.push, 17, none, .ext (.s 0) 0⟩,
    ⟨.push, 18, none, .ext (.s 1) 1⟩,
    ⟨.var 2, 3, none, .mov (.s 1)⟩,
    ⟨.var 3, 4, none, .mov (.s 0)⟩])
 (.seq (.region false [
    ⟨.push, 20, none, .mov (.v 0)⟩,
    ⟨.push, 21, none, .call 12 [(.s 0)]⟩,
    ⟨.push, 19, none, .mov (.s 0)⟩,
    ⟨.push, 22, none, .ext (.s 0) 0⟩,
    ⟨.push, 23, none, .ext (.s 1) 1⟩,
    ⟨.var 4, 5, none, .mov (.s 1)⟩,
    ⟨.var 5, 6, none, .mov (.s 0)⟩])
 (.seq (.test false [
    ⟨.push, 24, none, .mov (.v 4)⟩,
    ⟨.push, 25, none, .mov (.v 2)⟩,
    ⟨.push, 26, none, .call 17 [(.s 1), (.s 0)]⟩,
    ⟨.push, 27, none, .un .not (.s 0)⟩,
    ⟨.push, 28, none, .mov (.s 0)⟩,
    ⟨.push, 29, (some ((.s 0), false)), .mov (.v 5)⟩,
    ⟨.push, 30, (some ((.s 1), false)), .mov (.v 3)⟩,
    ⟨.push, 31, (some ((.s 2), false)), .bin false .neq (.s 1) (.s 0)⟩,
    ⟨.push, 32, none, .pick (.s 3) (.c (.bool true)) (.s 0)⟩] (.s 0)
  (.seq (.region false [
      ⟨.var 1, 2, none, .mov (.c (.bool false))⟩])
   (.ret))
  (.skip))
 (.seq (.region false [
    ⟨.var 6, 7, none, .mov (.c (.int .i64 (1)))⟩])
 (.seq (.region false [
    ⟨.push, 33, none, .mov (.v 4)⟩,
    ⟨.push, 34, none, .mov (.v 6)⟩,
    ⟨.push, 35, none, .call 18 [(.s 1), (.s 0)]⟩,
    ⟨.var 6, 7, none, .mov (.s 0)⟩])
 (.seq (.region false [
    ⟨.var 7, 8, none, .mov (.c (.int .i64 (1)))⟩])
 (.seq (.region false [
    ⟨.push, 36, none, .mov (.v 4)⟩,
    ⟨.push, 37, none, .mov (.v 7)⟩,
    ⟨.push, 38, none, .call 19 [(.s 1), (.s 0)]⟩,
    ⟨.var 7, 8, none, .mov (.s 0)⟩])
 (.seq (.test false [
    ⟨.push, 39, none, .mov (.v 7)⟩,
    ⟨.push, 40, none, .bin false .lss (.s 0) (.c (.int .i64 (0)))⟩] (.s 0)
  (.seq (.region false [
      ⟨.var 1, 2, none, .mov (.c (.bool false))⟩])
   (.ret))
  (.skip))
 (.seq (.test false [
    ⟨.push, 41, none, .mov (.v 7)⟩,
    ⟨.push, 42, none, .mov (.v 6)⟩,
    ⟨.push, 43, none, .bin false .neq (.s 1) (.s 0)⟩] (.s 0)
  (.seq (.region false [
      ⟨.var 1, 2, none, .mov (.c (.bool false))⟩])
   (.ret))
  (.skip))
 (.seq (.region false [
    ⟨.push, 45, none, .mov (.v 0)⟩,
    ⟨.push, 46, none, .call 12 [(.s 0)]⟩,
    ⟨.push, 44, none, .mov (.s 0)⟩,
    ⟨.push, 47, none, .ext (.s 0) 0⟩,
    ⟨.push, 48, none, .ext (.s 1) 1⟩,
    ⟨.var 8, 9, none, .mov (.s 1)⟩,
    ⟨.var 9, 10, none, .mov (.s 0)⟩])
 (.seq (.test false [
    ⟨.push, 49, none, .mov (.v 8)⟩,
    ⟨.push, 50, none, .mov (.v 2)⟩,
    ⟨.push, 51, none, .call 17 [(.s 1), (.s 0)]⟩,
    ⟨.push, 52, none, .un .not (.s 0)⟩,
    ⟨.push, 53, none, .mov (.s 0)⟩,
    ⟨.push, 54, (some ((.s 0), false)), .mov (.v 9)⟩,
    ⟨.push, 55, (some ((.s 1), false)), .mov (.v 3)⟩,
    ⟨.push, 56, (some ((.s 2), false)), .bin false .neq (.s 1) (.s 0)⟩,
    ⟨.push, 57, none, .pick (.s 3) (.c (.bool true)) (.s 0)⟩] (.s 0)
  (.seq (.region false [
      ⟨.var 1, 2, none, .mov (.c (.bool false))⟩])
   (.ret))
  (.skip))
 (.seq (.region false [
    ⟨.var 7, 8, none, .mov (.c (.int .i64 (1)))⟩])
 (.seq (.region false [
    ⟨.push, 58, none, .mov (.v 4)⟩,
    ⟨.push, 59, none, .mov (.v 7)⟩,
    ⟨.push, 60, none, .call 19 [(.s 1), (.s 0)]⟩,
    ⟨.var 7, 8, none, .mov (.s 0)⟩])
 (.seq (.test false [
    ⟨.push, 61, none, .mov (.v 7)⟩,
    ⟨.push, 62, none, .bin false .lss (.s 0) (.c (.int .i64 (0)))⟩] (.s 0)
  (.seq (.region false [
      ⟨.var 1, 2, none, .mov (.c (.bool false))⟩])
   (.ret))
  (.skip))
 (.seq (.test false [
    ⟨.push, 63, none, .mov (.v 7)⟩,
    ⟨.push, 64, none, .mov (.v 6)⟩,
    ⟨.push, 65, none, .bin false .neq (.s 1) (.s 0)⟩] (.s 0)
  (.seq (.region false [
      ⟨.var 1, 2, none, .mov (.c (.bool false))⟩])
   (.ret))
  (.skip))
 (.seq (.region false [
    ⟨.var 1, 2, none, .mov (.c (.bool true))⟩])
 (.ret)))))))))))))))))), [.t 1]⟩
noncomputable def t_laws_FnExactNamesIn : List (Nat × Ctr) := [(16, c_spec_NamesIn), (12, c_impl_NamesIn), (17, c_laws_eqStringS), (18, c_laws_markStringS), (19, c_laws_heldStringS)]
theorem lk_laws_FnExactNamesIn_16 : look t_laws_FnExactNamesIn 16 = some c_spec_NamesIn := rfl
theorem lk_laws_FnExactNamesIn_12 : look t_laws_FnExactNamesIn 12 = some c_impl_NamesIn := rfl
theorem lk_laws_FnExactNamesIn_17 : look t_laws_FnExactNamesIn 17 = some c_laws_eqStringS := rfl
theorem lk_laws_FnExactNamesIn_18 : look t_laws_FnExactNamesIn 18 = some c_laws_markStringS := rfl
theorem lk_laws_FnExactNamesIn_19 : look t_laws_FnExactNamesIn 19 = some c_laws_heldStringS := rfl
noncomputable def c_laws_FnExactNamesIn : Ctr := mkF t_laws_FnExactNamesIn ir5 [.bor]
theorem s_laws_FnExactNamesIn : Sound Tryd.prog 5 c_laws_FnExactNamesIn := mkF_sound _ rfl (snd_cons s_spec_NamesIn (snd_cons s_impl_NamesIn (snd_cons s_laws_eqStringS (snd_cons s_laws_markStringS (snd_cons s_laws_heldStringS snd_nil))))) (by kernel_rfl : chkFn Tryd.prog 5 ir5 ir5_v = true)
theorem M_laws_FnExactNamesIn : c_laws_FnExactNamesIn.modes = [.bor] := rfl
theorem Fl_laws_FnExactNamesIn : c_laws_FnExactNamesIn.flat = true := rfl
attribute [go_sem] M_laws_FnExactNamesIn Fl_laws_FnExactNamesIn
attribute [go_sem] lk_laws_FnExactNamesIn_16 lk_laws_FnExactNamesIn_12 lk_laws_FnExactNamesIn_17 lk_laws_FnExactNamesIn_18 lk_laws_FnExactNamesIn_19
theorem Fs_laws_FnExactNamesIn {aLog : List UInt8} {y_ : Bool} (h : laws_FnExactNamesIn aLog = some y_) : c_laws_FnExactNamesIn.F [.str aLog] = ⟨true, .bool y_, [.any]⟩ := by
  refine mkF_E rfl ?_
  dsimp only [laws_FnExactNamesIn] at h
  rcases it_some h with ⟨hk1, h⟩ | ⟨hk1, h⟩
  · try simp only [go_sem, n1, n2, n3, n4] at hk1
    all_goals
    obtain rfl := so_some h
    refine ⟨0, fun L hL => ?_⟩
    simp only [go_sem, ir5, hk1]
  · try simp only [go_sem, n1, n2, n3, n4] at hk1
    all_goals
    obtain ⟨y_2, hk2, h⟩ := bd_some h
    have fhk2 := Fs_spec_NamesIn hk2
    try simp only [go_sem, hk1] at fhk2
    obtain ⟨y_3, hk3, h⟩ := bd_some h
    have fhk3 := Fs_impl_NamesIn hk3
    try simp only [go_sem, hk1] at fhk3
    obtain ⟨y_4, hk4, h⟩ := bd_some h
    have fhk4 := Fs_laws_eqStringS hk4
    try simp only [go_sem, hk1] at fhk4
    rcases it_some h with ⟨hk5, h⟩ | ⟨hk5, h⟩
    · try simp only [go_sem, n1, n2, n3, n4, hk1] at hk5
      all_goals
      obtain rfl := so_some h
      refine ⟨0, fun L hL => ?_⟩
      simp only [go_sem, ir5, hk1, fhk2, fhk3, fhk4, hk5]
    · try simp only [go_sem, n1, n2, n3, n4, hk1] at hk5
      all_goals
      obtain ⟨y_6, hk6, h⟩ := bd_some h
      have fhk6 := Fs_laws_markStringS hk6
      try simp only [go_sem, hk1, hk5] at fhk6
      obtain ⟨y_7, hk7, h⟩ := bd_some h
      have fhk7 := Fs_laws_heldStringS hk7
      try simp only [go_sem, hk1, hk5] at fhk7
      rcases it_some h with ⟨hk8, h⟩ | ⟨hk8, h⟩
      · try simp only [go_sem, n1, n2, n3, n4, hk1, hk5] at hk8
        all_goals
        obtain rfl := so_some h
        refine ⟨0, fun L hL => ?_⟩
        simp only [go_sem, ir5, hk1, fhk2, fhk3, fhk4, hk5, fhk6, fhk7, hk8]
      · try simp only [go_sem, n1, n2, n3, n4, hk1, hk5] at hk8
        all_goals
        rcases it_some h with ⟨hk9, h⟩ | ⟨hk9, h⟩
        · try simp only [go_sem, n1, n2, n3, n4, hk1, hk5, hk8] at hk9
          all_goals
          obtain rfl := so_some h
          refine ⟨0, fun L hL => ?_⟩
          simp only [go_sem, ir5, hk1, fhk2, fhk3, fhk4, hk5, fhk6, fhk7, hk8, hk9]
        · try simp only [go_sem, n1, n2, n3, n4, hk1, hk5, hk8] at hk9
          all_goals
          obtain rfl := so_some h
          refine ⟨0, fun L hL => ?_⟩
          simp only [go_sem, ir5, hk1, fhk2, fhk3, fhk4, hk5, fhk6, fhk7, hk8, hk9]


end Go.Proofs.YtkdojfpjnnceiaaDoor
