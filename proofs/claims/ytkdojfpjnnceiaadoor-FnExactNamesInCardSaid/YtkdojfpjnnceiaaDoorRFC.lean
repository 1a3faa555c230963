/- Codes and contracts of the functions that RF reaches, and that their typed forms say what they do. No condition. -/
import Derived.Test.YtkdojfpjnnceiaaDoorRFCb
import Derived.Test.YtkdojfpjnnceiaaDoorRows
import Derived.WalkKit
namespace Go.Proofs.YtkdojfpjnnceiaaDoor
open Go Go.RowKit
set_option linter.unusedVariables false
set_option linter.unusedSimpArgs false
set_option maxRecDepth 10000

section
variable (PINV : Value)
def ir73_b0 : IR := .seq (.test false [
    ⟨.push, 15, none, .mov (.v 2)⟩,
    ⟨.push, 16, none, .mov (.v 0)⟩,
    ⟨.push, 17, none, .nilck (.s 0)⟩,
    ⟨.push, 18, none, .fldAddr 0 (.s 0)⟩,
    ⟨.push, 19, none, .load false 1 (.s 0)⟩,
    ⟨.push, 20, none, .len true (.s 0)⟩,
    ⟨.push, 21, none, .bin false .lss (.s 5) (.s 0)⟩,
    ⟨.push, 22, none, .mov (.s 0)⟩,
    ⟨.push, 23, (some ((.s 0), true)), .mov (.v 0)⟩,
    ⟨.push, 24, (some ((.s 1), true)), .nilck (.s 0)⟩,
    ⟨.push, 25, (some ((.s 2), true)), .fldAddr 0 (.s 0)⟩,
    ⟨.push, 26, (some ((.s 3), true)), .load false 1 (.s 0)⟩,
    ⟨.push, 27, (some ((.s 4), true)), .mov (.v 2)⟩,
    ⟨.push, 28, (some ((.s 5), true)), .ixStr (.s 1) (.s 0)⟩,
    ⟨.push, 29, (some ((.s 6), true)), .bin false .neq (.s 0) (.c (.int .u8 (10)))⟩,
    ⟨.push, 30, none, .pick (.s 7) (.s 0) (.c (.bool false))⟩] (.s 0)
  (.skip)
  (.exit 0))
 (.block 1 (.region false [
    ⟨.push, 31, none, .mov (.v 2)⟩,
    ⟨.push, 32, none, .bin false .add (.s 0) (.c (.int .i64 (1)))⟩,
    ⟨.var 2, 3, none, .mov (.s 0)⟩]))
def ir73_k0 : List Bool := [true, true, true, false, false, false, false, false, true, true, true]
def ir73_o0 : List Bool := [true, true, true, false, false, false, false, false, true, true, true]
def ir73_r0 : List Bool := [false, true, true, false, false, false, false, false, true, true, true]
def ir73_v : List Nat := [0, 2, 3, 4, 5, 6, 7, 8, 9, 10, 0]
def ir73 : AFn := ⟨1, 11, .seq (.region false [
    ⟨.var 1, 2, none, .mov (.c (.bool false))⟩])
 (.seq (.region false [
    ⟨.push, 11, none, .mov (.v 0)⟩,
    ⟨.push, 12, none, .nilck (.s 0)⟩,
    ⟨.push, 13, none, .fldAddr 1 (.s 0)⟩,
    ⟨.push, 14, none, .load false 1 (.s 0)⟩,
    ⟨.var 2, 3, none, .mov (.s 0)⟩])
 (.seq (.block 0 (.loop ir73_k0 ir73_o0 ir73_r0 ir73_b0))
 (.seq (.test false [
    ⟨.push, 33, none, .mov (.v 2)⟩,
    ⟨.push, 34, none, .mov (.v 0)⟩,
    ⟨.push, 35, none, .nilck (.s 0)⟩,
    ⟨.push, 36, none, .fldAddr 0 (.s 0)⟩,
    ⟨.push, 37, none, .load false 1 (.s 0)⟩,
    ⟨.push, 38, none, .len true (.s 0)⟩,
    ⟨.push, 39, none, .bin false .geq (.s 5) (.s 0)⟩] (.s 0)
  (.seq (.region false [
      ⟨.var 1, 2, none, .mov (.c (.bool false))⟩])
   (.ret))
  (.skip))
 (.seq (.anyo 11 [
    ⟨.slot 0, 40, none, .mov (.v 0)⟩,
    ⟨.slot 1, 41, none, .nilck (.s 0)⟩,
    ⟨.slot 2, 42, none, .fldAddr 0 (.s 1)⟩,
    ⟨.slot 3, 43, none, .load false 1 (.s 2)⟩,
    ⟨.slot 4, 44, none, .mov (.v 0)⟩,
    ⟨.slot 5, 45, none, .nilck (.s 4)⟩,
    ⟨.slot 6, 46, none, .fldAddr 1 (.s 5)⟩,
    ⟨.slot 7, 47, none, .load false 1 (.s 6)⟩,
    ⟨.slot 8, 48, none, .mov (.v 2)⟩,
    ⟨.slot 9, 49, none, .pur (.slice 0 (.s 3) (some (.s 7)) (some (.s 8)))⟩,
    ⟨.slot 10, 50, none, .pur (.call 20 [(.s 9), (.c (.int .u8 (32)))])⟩,
    ⟨.var 3, 4, none, .mov (.s 10)⟩] [] .skip)
 (.seq (.test false [
    ⟨.push, 51, none, .mov (.v 3)⟩,
    ⟨.push, 52, none, .len false (.s 0)⟩,
    ⟨.push, 53, none, .bin false .neq (.s 0) (.c (.int .i64 (4)))⟩] (.s 0)
  (.seq (.region false [
      ⟨.var 1, 2, none, .mov (.c (.bool false))⟩])
   (.ret))
  (.skip))
 (.seq (.region false [
    ⟨.push, 55, none, .mov (.v 3)⟩,
    ⟨.push, 56, none, .ixAddr 1 (.s 0) (.c (.int .i64 (0)))⟩,
    ⟨.push, 57, none, .load false 1 (.s 0)⟩,
    ⟨.push, 58, none, .call 21 [(.s 0)]⟩,
    ⟨.push, 54, none, .mov (.s 0)⟩,
    ⟨.push, 59, none, .ext (.s 0) 0⟩,
    ⟨.push, 60, none, .ext (.s 1) 1⟩,
    ⟨.var 4, 5, none, .mov (.s 1)⟩,
    ⟨.var 5, 6, none, .mov (.s 0)⟩])
 (.seq (.region false [
    ⟨.push, 62, none, .mov (.v 3)⟩,
    ⟨.push, 63, none, .ixAddr 1 (.s 0) (.c (.int .i64 (2)))⟩,
    ⟨.push, 64, none, .load false 1 (.s 0)⟩,
    ⟨.push, 65, none, .call 21 [(.s 0)]⟩,
    ⟨.push, 61, none, .mov (.s 0)⟩,
    ⟨.push, 66, none, .ext (.s 0) 0⟩,
    ⟨.push, 67, none, .ext (.s 1) 1⟩,
    ⟨.var 6, 7, none, .mov (.s 1)⟩,
    ⟨.var 7, 8, none, .mov (.s 0)⟩])
 (.seq (.region false [
    ⟨.push, 68, none, .mov (.v 4)⟩,
    ⟨.push, 69, none, .mov (.v 3)⟩,
    ⟨.push, 70, none, .ixAddr 1 (.s 0) (.c (.int .i64 (1)))⟩,
    ⟨.push, 71, none, .load false 1 (.s 0)⟩,
    ⟨.push, 72, none, .mov (.v 6)⟩,
    ⟨.push, 73, none, .build [.int .i64 (0), .str [], .int .i64 (0)] [(0, 1, (.s 4)), (1, 1, (.s 1)), (2, 1, (.s 0))]⟩,
    ⟨.var 8, 9, none, .alloc (.agg [.int .i64 (0), .str [], .int .i64 (0)])⟩,
    ⟨.no, 0, none, .store 3 (.v 8) (.s 0)⟩])
 (.seq (.anyo 17 [
    ⟨.slot 0, 74, none, .mov (.v 5)⟩,
    ⟨.slot 1, 75, none, .un .not (.s 0)⟩,
    ⟨.slot 2, 76, none, .mov (.s 1)⟩,
    ⟨.slot 3, 77, (some ((.s 2), false)), .mov (.v 7)⟩,
    ⟨.slot 4, 78, (some ((.s 2), false)), .un .not (.s 3)⟩,
    ⟨.slot 5, 79, none, .pick (.s 2) (.c (.bool true)) (.s 4)⟩,
    ⟨.slot 6, 80, none, .mov (.s 5)⟩,
    ⟨.slot 7, 81, (some ((.s 6), false)), .call 32 [(.v 8)]⟩,
    ⟨.slot 8, 82, (some ((.s 6), false)), .un .not (.s 7)⟩,
    ⟨.slot 9, 83, none, .pick (.s 6) (.c (.bool true)) (.s 8)⟩,
    ⟨.slot 10, 84, none, .mov (.s 9)⟩,
    ⟨.slot 11, 85, (some ((.s 10), false)), .fldAddr 0 (.v 8)⟩,
    ⟨.slot 12, 86, (some ((.s 10), false)), .load false 1 (.s 11)⟩,
    ⟨.slot 13, 87, (some ((.s 10), false)), .mov (.v 0)⟩,
    ⟨.slot 14, 88, (some ((.s 10), false)), .call 87 [(.s 13)]⟩,
    ⟨.slot 15, 89, (some ((.s 10), false)), .bin false .lss (.s 12) (.s 14)⟩,
    ⟨.slot 16, 90, none, .pick (.s 10) (.c (.bool true)) (.s 15)⟩] [] (.cond (.s 16)
  (.seq (.region false [
      ⟨.var 1, 2, none, .mov (.c (.bool false))⟩])
   (.ret))
  (.skip)))
 (.seq (.anyo 6 [
    ⟨.slot 0, 91, none, .mov (.v 0)⟩,
    ⟨.slot 1, 92, none, .nilck (.s 0)⟩,
    ⟨.slot 2, 93, none, .fldAddr 2 (.s 1)⟩,
    ⟨.slot 3, 94, none, .load false 1 (.s 2)⟩,
    ⟨.slot 4, 95, none, .callp 59 [(.v 8)]⟩,
    ⟨.slot 5, 96, none, .callp 58 [(.s 3), (.s 4)]⟩,
    ⟨.var 9, 10, none, .mov (.s 5)⟩] [] .skip)
 (.seq (.anyo 14 [
    ⟨.slot 0, 97, none, .mov (.v 9)⟩,
    ⟨.slot 1, 98, none, .callp 60 [(.s 0), (.v 8)]⟩,
    ⟨.slot 2, 99, none, .mov (.v 0)⟩,
    ⟨.slot 3, 100, none, .nilck (.s 2)⟩,
    ⟨.slot 4, 101, none, .fldAddr 0 (.s 3)⟩,
    ⟨.slot 5, 102, none, .load false 1 (.s 4)⟩,
    ⟨.slot 6, 103, none, .mov (.v 0)⟩,
    ⟨.slot 7, 104, none, .nilck (.s 6)⟩,
    ⟨.slot 8, 105, none, .fldAddr 1 (.s 7)⟩,
    ⟨.slot 9, 106, none, .load false 1 (.s 8)⟩,
    ⟨.slot 10, 107, none, .mov (.v 2)⟩,
    ⟨.slot 11, 108, none, .bin false .add (.s 10) (.c (.int .i64 (1)))⟩,
    ⟨.slot 12, 109, none, .pur (.slice 0 (.s 5) (some (.s 9)) (some (.s 11)))⟩,
    ⟨.slot 13, 110, none, .bin false .neq (.s 1) (.s 12)⟩] [] (.cond (.s 13)
  (.seq (.region false [
      ⟨.var 1, 2, none, .mov (.c (.bool false))⟩])
   (.ret))
  (.skip)))
 (.skip)))))))))))), [.t 1, .t 2, .t 8, .t 9]⟩
noncomputable def t_spec_l27R_lineA : List (Nat × Ctr) := [(20, c_spec_l01Split), (21, c_spec_l01Number), (32, c_spec_l27Ok), (87, c_spec_l27R_day), (59, c_spec_l27Words), (58, c_spec_l27Stamp), (60, c_spec_l27Line)]
theorem lk_spec_l27R_lineA_20 : look t_spec_l27R_lineA 20 = some c_spec_l01Split := rfl
theorem lk_spec_l27R_lineA_21 : look t_spec_l27R_lineA 21 = some c_spec_l01Number := rfl
theorem lk_spec_l27R_lineA_32 : look t_spec_l27R_lineA 32 = some c_spec_l27Ok := rfl
theorem lk_spec_l27R_lineA_87 : look t_spec_l27R_lineA 87 = some c_spec_l27R_day := rfl
theorem lk_spec_l27R_lineA_59 : look t_spec_l27R_lineA 59 = some c_spec_l27Words := rfl
theorem lk_spec_l27R_lineA_58 : look t_spec_l27R_lineA 58 = some c_spec_l27Stamp := rfl
theorem lk_spec_l27R_lineA_60 : look t_spec_l27R_lineA 60 = some c_spec_l27Line := rfl
attribute [go_sem] lk_spec_l27R_lineA_20 lk_spec_l27R_lineA_21 lk_spec_l27R_lineA_32 lk_spec_l27R_lineA_87 lk_spec_l27R_lineA_59 lk_spec_l27R_lineA_58 lk_spec_l27R_lineA_60
def E_spec_l27R_lineA_l1 (r : L27R) (t2 : Bool) : Int → St
  | end_ => ⟨[.ptr 4 [L27R_av r] 0 0, .bool t2, .int .i64 end_, .any, .any, .any, .any, .any, .any, .any, .cv PINV], [], [], true⟩
def R_spec_l27R_lineA_l1 (r : L27R) (t2 : Bool) (y : Int) : Res := (.exit 0, ⟨[.ptr 4 [L27R_av r] 0 0, .bool t2, .int .i64 y, .any, .any, .any, .any, .any, .any, .any, .cv PINV], [], [], true⟩)
theorem spec_l27R_lineA_l1_ex {r : L27R} {t2 : Bool} {sgm_ : Int} {rho_ : Int} (h : whileE (spec_l27R_lineA_l1 r t2) sgm_ = some rho_) : ∃ L0, ∀ L, L0 ≤ L → iter (exec (look t_spec_l27R_lineA) L ir73_b0) ir73_k0 ir73_o0 ir73_r0 L (E_spec_l27R_lineA_l1 PINV r t2 sgm_) = R_spec_l27R_lineA_l1 PINV r t2 rho_ := by
  refine loop_ex (E := E_spec_l27R_lineA_l1 PINV r t2) (R := R_spec_l27R_lineA_l1 PINV r t2) (fun y => by first | (intro c; cases c) | (rcases y with y | y <;> (intro c; cases c)) | (rcases y with y | y | y <;> (intro c; cases c))) ?_ h
  clear h
  intro end_ o_ h
  dsimp only [spec_l27R_lineA_l1] at h
  obtain ⟨hk1, h⟩ := ck_some h
  rcases or_split hk1 with ⟨ghk1, hk1⟩ | ghk1
  · try simp only [go_sem, n1, n2, n3, n4] at ghk1
    all_goals
    try simp only [go_sem, n1, n2, n3, n4, ghk1] at hk1
    all_goals
    rcases it_some h with ⟨hk2, h⟩ | ⟨hk2, h⟩
    · try simp only [go_sem, n1, n2, n3, n4, ghk1, hk1] at hk2
      all_goals
      obtain rfl := so_some h
      refine ⟨0, fun L hL => ?_⟩
      simp only [go_sem, ir73, E_spec_l27R_lineA_l1, R_spec_l27R_lineA_l1, ir73_b0, ir73_k0, ir73_o0, ir73_r0, ghk1, hk1, hk2]
    · try simp only [go_sem, n1, n2, n3, n4, ghk1, hk1] at hk2
      all_goals
      obtain rfl := so_some h
      refine ⟨0, fun L hL => ?_⟩
      simp only [go_sem, ir73, E_spec_l27R_lineA_l1, R_spec_l27R_lineA_l1, ir73_b0, ir73_k0, ir73_o0, ir73_r0, ghk1, hk1, hk2]
  · try simp only [go_sem, n1, n2, n3, n4] at ghk1
    all_goals
    rcases it_some h with ⟨hk2, h⟩ | ⟨hk2, h⟩
    · try simp only [go_sem, n1, n2, n3, n4, ghk1] at hk2
      all_goals
      obtain rfl := so_some h
      refine ⟨0, fun L hL => ?_⟩
      simp only [go_sem, ir73, E_spec_l27R_lineA_l1, R_spec_l27R_lineA_l1, ir73_b0, ir73_k0, ir73_o0, ir73_r0, ghk1, hk2]
    · try simp only [go_sem, n1, n2, n3, n4, ghk1] at hk2
      all_goals
      obtain rfl := so_some h
      refine ⟨0, fun L hL => ?_⟩
      simp only [go_sem, ir73, E_spec_l27R_lineA_l1, R_spec_l27R_lineA_l1, ir73_b0, ir73_k0, ir73_o0, ir73_r0, ghk1, hk2]

def CutEnd (q : Res) (y : Option (Int × Int × Entry)) : Prop := match y with
  | none => q.1 = .ret ∧ (q.2.ok = true ∧ q.2.vs.getD 1 .any = .bool false)
  | some p => q.1 = .norm ∧ (q.2.ok = true ∧ (q.2.vs.getD 2 .any = .int .i64 p.1 ∧ (q.2.vs.getD 9 .any = .int .i64 p.2.1 ∧ q.2.vs.getD 10 .any = .cv PINV ∧ ∃ k, q.2.vs.getD 8 .any = .ref k 0 0 ∧ obGet k q.2.ob = some ⟨3, [Entry_av p.2.2]⟩)))
theorem lineA_pre {r : L27R} {y_ : Option (Int × Int × Entry)} (h : spec_l27R_lineA r = some y_) : ∃ L0, ∀ L, L0 ≤ L → CutEnd PINV (exec (look t_spec_l27R_lineA) L ir73.body ⟨[.ptr 4 [L27R_av r] 0 0, .any, .any, .any, .any, .any, .any, .any, .any, .any, .cv PINV], [], [], true⟩) y_ := by
  dsimp only [spec_l27R_lineA] at h
  obtain ⟨y_3, hk3, h⟩ := bd_some h
  obtain ⟨Lhk3, ehk3⟩ := spec_l27R_lineA_l1_ex PINV hk3
  rcases it_some h with ⟨hk4, h⟩ | ⟨hk4, h⟩
  · try simp only [go_sem, n1, n2, n3, n4] at hk4
    all_goals
    obtain rfl := so_some h
    refine ⟨Lhk3, fun L hL => ?_⟩
    have ehk3 := ehk3 L (by omega)
    try simp only [go_sem, E_spec_l27R_lineA_l1, R_spec_l27R_lineA_l1, ir73_k0, ir73_o0, ir73_r0, hk4] at ehk3
    simp only [go_sem, ir73, E_spec_l27R_lineA_l1, R_spec_l27R_lineA_l1, ir73_k0, ir73_o0, ir73_r0, hk4, ehk3]
    exact ⟨rfl, rfl, rfl⟩
  · try simp only [go_sem, n1, n2, n3, n4] at hk4
    all_goals
    obtain ⟨hk5, h⟩ := ck_some h
    try simp only [go_sem, n1, n2, n3, n4, hk4] at hk5
    all_goals
    obtain ⟨y_6, hk6, h⟩ := bd_some h
    have fhk6 := Fs_spec_l01Split hk6
    try simp only [go_sem, hk4, hk5] at fhk6
    rcases it_some h with ⟨hk7, h⟩ | ⟨hk7, h⟩
    · try simp only [go_sem, n1, n2, n3, n4, hk4, hk5] at hk7
      all_goals
      obtain rfl := so_some h
      refine ⟨Lhk3, fun L hL => ?_⟩
      have ehk3 := ehk3 L (by omega)
      try simp only [go_sem, E_spec_l27R_lineA_l1, R_spec_l27R_lineA_l1, ir73_k0, ir73_o0, ir73_r0, hk4, hk5, hk7] at ehk3
      simp only [go_sem, ir73, E_spec_l27R_lineA_l1, R_spec_l27R_lineA_l1, ir73_k0, ir73_o0, ir73_r0, hk4, hk5, fhk6, hk7, ehk3]
      exact ⟨rfl, rfl, rfl⟩
    · try simp only [go_sem, n1, n2, n3, n4, hk4, hk5] at hk7
      all_goals
      obtain ⟨hk8, h⟩ := ck_some h
      have lhk8 := ix_lt hk8
      have xhk8 := getD_mapD AV.str y_6 lhk8
      try simp only [go_sem] at lhk8
      try simp only [go_sem] at xhk8
      try simp only [go_sem, n1, n2, n3, n4, hk4, hk5, hk7] at hk8
      all_goals
      obtain ⟨y_9, hk9, h⟩ := bd_some h
      have fhk9 := Fs_spec_l01Number hk9
      try simp only [go_sem, hk4, hk5, hk7, hk8] at fhk9
      obtain ⟨hk10, h⟩ := ck_some h
      have lhk10 := ix_lt hk10
      have xhk10 := getD_mapD AV.str y_6 lhk10
      try simp only [go_sem] at lhk10
      try simp only [go_sem] at xhk10
      try simp only [go_sem, n1, n2, n3, n4, hk4, hk5, hk7, hk8] at hk10
      all_goals
      obtain ⟨y_11, hk11, h⟩ := bd_some h
      have fhk11 := Fs_spec_l01Number hk11
      try simp only [go_sem, hk4, hk5, hk7, hk8, hk10] at fhk11
      obtain ⟨hk12, h⟩ := ck_some h
      have lhk12 := ix_lt hk12
      have xhk12 := getD_mapD AV.str y_6 lhk12
      try simp only [go_sem] at lhk12
      try simp only [go_sem] at xhk12
      try simp only [go_sem, n1, n2, n3, n4, hk4, hk5, hk7, hk8, hk10] at hk12
      all_goals
      obtain ⟨hk13, h⟩ := ck_some h
      rcases or_split hk13 with ⟨ghk13, hk13⟩ | ghk13
      · try simp only [go_sem, n1, n2, n3, n4, hk4, hk5, hk7, hk8, hk10, hk12] at ghk13
        all_goals
        obtain ⟨y_13, hhk13⟩ := Option.isSome_iff_exists.1 hk13
        have fhk13 := Fs_spec_l27Ok hhk13
        try simp only [go_sem, hk4, hk5, hk7, hk8, hk10, hk12, ghk13] at fhk13
        obtain ⟨hk14, h⟩ := ck_some h
        rcases or_split hk14 with ⟨ghk14, hk14⟩ | ghk14
        · try simp only [go_sem, n1, n2, n3, n4, hk4, hk5, hk7, hk8, hk10, hk12, ghk13, hhk13] at ghk14
          all_goals
          obtain ⟨y_14, hhk14⟩ := Option.isSome_iff_exists.1 hk14
          have fhk14 := Fs_spec_l27R_day hhk14
          try simp only [go_sem, hk4, hk5, hk7, hk8, hk10, hk12, ghk13, hhk13, ghk14] at fhk14
          rcases it_some h with ⟨hk15, h⟩ | ⟨hk15, h⟩
          · try simp only [go_sem, n1, n2, n3, n4, hk4, hk5, hk7, hk8, hk10, hk12, ghk13, hhk13, ghk14, hhk14] at hk15
            all_goals
            obtain rfl := so_some h
            refine ⟨Lhk3, fun L hL => ?_⟩
            have ehk3 := ehk3 L (by omega)
            try simp only [go_sem, E_spec_l27R_lineA_l1, R_spec_l27R_lineA_l1, ir73_k0, ir73_o0, ir73_r0, hk4, hk5, hk7, hk8, hk10, hk12, ghk13, hhk13, ghk14, hhk14, hk15] at ehk3
            simp only [go_sem, ir73, E_spec_l27R_lineA_l1, R_spec_l27R_lineA_l1, ir73_k0, ir73_o0, ir73_r0, hk4, hk5, fhk6, hk7, hk8, lhk8, xhk8, fhk9, hk10, lhk10, xhk10, fhk11, hk12, lhk12, xhk12, ghk13, hhk13, fhk13, ghk14, hhk14, fhk14, hk15, ehk3]
            exact ⟨rfl, rfl, rfl⟩
          · try simp only [go_sem, n1, n2, n3, n4, hk4, hk5, hk7, hk8, hk10, hk12, ghk13, hhk13, ghk14, hhk14] at hk15
            all_goals
            obtain ⟨y_16, hk16, h⟩ := bd_some h
            have fhk16 := Fs_spec_l27Words hk16
            try simp only [go_sem, hk4, hk5, hk7, hk8, hk10, hk12, ghk13, hhk13, ghk14, hhk14, hk15] at fhk16
            obtain ⟨y_17, hk17, h⟩ := bd_some h
            have fhk17 := Fs_spec_l27Stamp hk17
            try simp only [go_sem, hk4, hk5, hk7, hk8, hk10, hk12, ghk13, hhk13, ghk14, hhk14, hk15] at fhk17
            obtain ⟨y_18, hk18, h⟩ := bd_some h
            have fhk18 := Fs_spec_l27Line hk18
            try simp only [go_sem, hk4, hk5, hk7, hk8, hk10, hk12, ghk13, hhk13, ghk14, hhk14, hk15] at fhk18
            obtain ⟨hk19, h⟩ := ck_some h
            try simp only [go_sem, n1, n2, n3, n4, hk4, hk5, hk7, hk8, hk10, hk12, ghk13, hhk13, ghk14, hhk14, hk15] at hk19
            all_goals
            rcases it_some h with ⟨hk20, h⟩ | ⟨hk20, h⟩
            · try simp only [go_sem, n1, n2, n3, n4, hk4, hk5, hk7, hk8, hk10, hk12, ghk13, hhk13, ghk14, hhk14, hk15, hk19] at hk20
              all_goals
              obtain rfl := so_some h
              refine ⟨Lhk3, fun L hL => ?_⟩
              have ehk3 := ehk3 L (by omega)
              try simp only [go_sem, E_spec_l27R_lineA_l1, R_spec_l27R_lineA_l1, ir73_k0, ir73_o0, ir73_r0, hk4, hk5, hk7, hk8, hk10, hk12, ghk13, hhk13, ghk14, hhk14, hk15, hk19, hk20] at ehk3
              simp only [go_sem, ir73, E_spec_l27R_lineA_l1, R_spec_l27R_lineA_l1, ir73_k0, ir73_o0, ir73_r0, hk4, hk5, fhk6, hk7, hk8, lhk8, xhk8, fhk9, hk10, lhk10, xhk10, fhk11, hk12, lhk12, xhk12, ghk13, hhk13, fhk13, ghk14, hhk14, fhk14, hk15, fhk16, fhk17, fhk18, hk19, hk20, ehk3]
              exact ⟨rfl, rfl, rfl⟩
            · try simp only [go_sem, n1, n2, n3, n4, hk4, hk5, hk7, hk8, hk10, hk12, ghk13, hhk13, ghk14, hhk14, hk15, hk19] at hk20
              all_goals
              obtain rfl := so_some h
              refine ⟨Lhk3, fun L hL => ?_⟩
              have ehk3 := ehk3 L (by omega)
              try simp only [go_sem, E_spec_l27R_lineA_l1, R_spec_l27R_lineA_l1, ir73_k0, ir73_o0, ir73_r0, hk4, hk5, hk7, hk8, hk10, hk12, ghk13, hhk13, ghk14, hhk14, hk15, hk19, hk20] at ehk3
              simp only [go_sem, ir73, E_spec_l27R_lineA_l1, R_spec_l27R_lineA_l1, ir73_k0, ir73_o0, ir73_r0, hk4, hk5, fhk6, hk7, hk8, lhk8, xhk8, fhk9, hk10, lhk10, xhk10, fhk11, hk12, lhk12, xhk12, ghk13, hhk13, fhk13, ghk14, hhk14, fhk14, hk15, fhk16, fhk17, fhk18, hk19, hk20, ehk3]
              exact ⟨rfl, rfl, rfl, rfl, rfl, _, rfl, rfl⟩
        · have ghk14n := no_f ghk14
          rcases or_t ghk14n with ghk14na | ⟨ghk14na, ghk14nb⟩
          · rcases or_t ghk14na with ghk14naa | ⟨ghk14naa, ghk14nab⟩
            · have ghk14naan := no_t ghk14naa
              try simp only [go_sem, n1, n2, n3, n4, hk4, hk5, hk7, hk8, hk10, hk12, ghk13, hhk13] at ghk14naan
              all_goals
              rcases it_some h with ⟨hk15, h⟩ | ⟨hk15, h⟩
              · try simp only [go_sem, n1, n2, n3, n4, hk4, hk5, hk7, hk8, hk10, hk12, ghk13, hhk13, ghk14naan] at hk15
                all_goals
                obtain rfl := so_some h
                refine ⟨Lhk3, fun L hL => ?_⟩
                have ehk3 := ehk3 L (by omega)
                try simp only [go_sem, E_spec_l27R_lineA_l1, R_spec_l27R_lineA_l1, ir73_k0, ir73_o0, ir73_r0, hk4, hk5, hk7, hk8, hk10, hk12, ghk13, hhk13, ghk14naan, hk15] at ehk3
                simp only [go_sem, ir73, E_spec_l27R_lineA_l1, R_spec_l27R_lineA_l1, ir73_k0, ir73_o0, ir73_r0, hk4, hk5, fhk6, hk7, hk8, lhk8, xhk8, fhk9, hk10, lhk10, xhk10, fhk11, hk12, lhk12, xhk12, ghk13, hhk13, fhk13, ghk14naan, hk15, ehk3]
                exact ⟨rfl, rfl, rfl⟩
              · try simp only [go_sem, n1, n2, n3, n4, hk4, hk5, hk7, hk8, hk10, hk12, ghk13, hhk13, ghk14naan] at hk15
                all_goals
                obtain ⟨y_16, hk16, h⟩ := bd_some h
                have fhk16 := Fs_spec_l27Words hk16
                try simp only [go_sem, hk4, hk5, hk7, hk8, hk10, hk12, ghk13, hhk13, ghk14naan, hk15] at fhk16
                obtain ⟨y_17, hk17, h⟩ := bd_some h
                have fhk17 := Fs_spec_l27Stamp hk17
                try simp only [go_sem, hk4, hk5, hk7, hk8, hk10, hk12, ghk13, hhk13, ghk14naan, hk15] at fhk17
                obtain ⟨y_18, hk18, h⟩ := bd_some h
                have fhk18 := Fs_spec_l27Line hk18
                try simp only [go_sem, hk4, hk5, hk7, hk8, hk10, hk12, ghk13, hhk13, ghk14naan, hk15] at fhk18
                obtain ⟨hk19, h⟩ := ck_some h
                try simp only [go_sem, n1, n2, n3, n4, hk4, hk5, hk7, hk8, hk10, hk12, ghk13, hhk13, ghk14naan, hk15] at hk19
                all_goals
                rcases it_some h with ⟨hk20, h⟩ | ⟨hk20, h⟩
                · try simp only [go_sem, n1, n2, n3, n4, hk4, hk5, hk7, hk8, hk10, hk12, ghk13, hhk13, ghk14naan, hk15, hk19] at hk20
                  all_goals
                  obtain rfl := so_some h
                  refine ⟨Lhk3, fun L hL => ?_⟩
                  have ehk3 := ehk3 L (by omega)
                  try simp only [go_sem, E_spec_l27R_lineA_l1, R_spec_l27R_lineA_l1, ir73_k0, ir73_o0, ir73_r0, hk4, hk5, hk7, hk8, hk10, hk12, ghk13, hhk13, ghk14naan, hk15, hk19, hk20] at ehk3
                  simp only [go_sem, ir73, E_spec_l27R_lineA_l1, R_spec_l27R_lineA_l1, ir73_k0, ir73_o0, ir73_r0, hk4, hk5, fhk6, hk7, hk8, lhk8, xhk8, fhk9, hk10, lhk10, xhk10, fhk11, hk12, lhk12, xhk12, ghk13, hhk13, fhk13, ghk14naan, hk15, fhk16, fhk17, fhk18, hk19, hk20, ehk3]
                  exact ⟨rfl, rfl, rfl⟩
                · try simp only [go_sem, n1, n2, n3, n4, hk4, hk5, hk7, hk8, hk10, hk12, ghk13, hhk13, ghk14naan, hk15, hk19] at hk20
                  all_goals
                  obtain rfl := so_some h
                  refine ⟨Lhk3, fun L hL => ?_⟩
                  have ehk3 := ehk3 L (by omega)
                  try simp only [go_sem, E_spec_l27R_lineA_l1, R_spec_l27R_lineA_l1, ir73_k0, ir73_o0, ir73_r0, hk4, hk5, hk7, hk8, hk10, hk12, ghk13, hhk13, ghk14naan, hk15, hk19, hk20] at ehk3
                  simp only [go_sem, ir73, E_spec_l27R_lineA_l1, R_spec_l27R_lineA_l1, ir73_k0, ir73_o0, ir73_r0, hk4, hk5, fhk6, hk7, hk8, lhk8, xhk8, fhk9, hk10, lhk10, xhk10, fhk11, hk12, lhk12, xhk12, ghk13, hhk13, fhk13, ghk14naan, hk15, fhk16, fhk17, fhk18, hk19, hk20, ehk3]
                  exact ⟨rfl, rfl, rfl, rfl, rfl, _, rfl, rfl⟩
            · have ghk14naan := no_f ghk14naa
              have ghk14nabn := no_t ghk14nab
              try simp only [go_sem, n1, n2, n3, n4, hk4, hk5, hk7, hk8, hk10, hk12, ghk13, hhk13] at ghk14naan
              all_goals
              try simp only [go_sem, n1, n2, n3, n4, hk4, hk5, hk7, hk8, hk10, hk12, ghk13, hhk13, ghk14naan] at ghk14nabn
              all_goals
              rcases it_some h with ⟨hk15, h⟩ | ⟨hk15, h⟩
              · try simp only [go_sem, n1, n2, n3, n4, hk4, hk5, hk7, hk8, hk10, hk12, ghk13, hhk13, ghk14naan, ghk14nabn] at hk15
                all_goals
                obtain rfl := so_some h
                refine ⟨Lhk3, fun L hL => ?_⟩
                have ehk3 := ehk3 L (by omega)
                try simp only [go_sem, E_spec_l27R_lineA_l1, R_spec_l27R_lineA_l1, ir73_k0, ir73_o0, ir73_r0, hk4, hk5, hk7, hk8, hk10, hk12, ghk13, hhk13, ghk14naan, ghk14nabn, hk15] at ehk3
                simp only [go_sem, ir73, E_spec_l27R_lineA_l1, R_spec_l27R_lineA_l1, ir73_k0, ir73_o0, ir73_r0, hk4, hk5, fhk6, hk7, hk8, lhk8, xhk8, fhk9, hk10, lhk10, xhk10, fhk11, hk12, lhk12, xhk12, ghk13, hhk13, fhk13, ghk14naan, ghk14nabn, hk15, ehk3]
                exact ⟨rfl, rfl, rfl⟩
              · try simp only [go_sem, n1, n2, n3, n4, hk4, hk5, hk7, hk8, hk10, hk12, ghk13, hhk13, ghk14naan, ghk14nabn] at hk15
                all_goals
                obtain ⟨y_16, hk16, h⟩ := bd_some h
                have fhk16 := Fs_spec_l27Words hk16
                try simp only [go_sem, hk4, hk5, hk7, hk8, hk10, hk12, ghk13, hhk13, ghk14naan, ghk14nabn, hk15] at fhk16
                obtain ⟨y_17, hk17, h⟩ := bd_some h
                have fhk17 := Fs_spec_l27Stamp hk17
                try simp only [go_sem, hk4, hk5, hk7, hk8, hk10, hk12, ghk13, hhk13, ghk14naan, ghk14nabn, hk15] at fhk17
                obtain ⟨y_18, hk18, h⟩ := bd_some h
                have fhk18 := Fs_spec_l27Line hk18
                try simp only [go_sem, hk4, hk5, hk7, hk8, hk10, hk12, ghk13, hhk13, ghk14naan, ghk14nabn, hk15] at fhk18
                obtain ⟨hk19, h⟩ := ck_some h
                try simp only [go_sem, n1, n2, n3, n4, hk4, hk5, hk7, hk8, hk10, hk12, ghk13, hhk13, ghk14naan, ghk14nabn, hk15] at hk19
                all_goals
                rcases it_some h with ⟨hk20, h⟩ | ⟨hk20, h⟩
                · try simp only [go_sem, n1, n2, n3, n4, hk4, hk5, hk7, hk8, hk10, hk12, ghk13, hhk13, ghk14naan, ghk14nabn, hk15, hk19] at hk20
                  all_goals
                  obtain rfl := so_some h
                  refine ⟨Lhk3, fun L hL => ?_⟩
                  have ehk3 := ehk3 L (by omega)
                  try simp only [go_sem, E_spec_l27R_lineA_l1, R_spec_l27R_lineA_l1, ir73_k0, ir73_o0, ir73_r0, hk4, hk5, hk7, hk8, hk10, hk12, ghk13, hhk13, ghk14naan, ghk14nabn, hk15, hk19, hk20] at ehk3
                  simp only [go_sem, ir73, E_spec_l27R_lineA_l1, R_spec_l27R_lineA_l1, ir73_k0, ir73_o0, ir73_r0, hk4, hk5, fhk6, hk7, hk8, lhk8, xhk8, fhk9, hk10, lhk10, xhk10, fhk11, hk12, lhk12, xhk12, ghk13, hhk13, fhk13, ghk14naan, ghk14nabn, hk15, fhk16, fhk17, fhk18, hk19, hk20, ehk3]
                  exact ⟨rfl, rfl, rfl⟩
                · try simp only [go_sem, n1, n2, n3, n4, hk4, hk5, hk7, hk8, hk10, hk12, ghk13, hhk13, ghk14naan, ghk14nabn, hk15, hk19] at hk20
                  all_goals
                  obtain rfl := so_some h
                  refine ⟨Lhk3, fun L hL => ?_⟩
                  have ehk3 := ehk3 L (by omega)
                  try simp only [go_sem, E_spec_l27R_lineA_l1, R_spec_l27R_lineA_l1, ir73_k0, ir73_o0, ir73_r0, hk4, hk5, hk7, hk8, hk10, hk12, ghk13, hhk13, ghk14naan, ghk14nabn, hk15, hk19, hk20] at ehk3
                  simp only [go_sem, ir73, E_spec_l27R_lineA_l1, R_spec_l27R_lineA_l1, ir73_k0, ir73_o0, ir73_r0, hk4, hk5, fhk6, hk7, hk8, lhk8, xhk8, fhk9, hk10, lhk10, xhk10, fhk11, hk12, lhk12, xhk12, ghk13, hhk13, fhk13, ghk14naan, ghk14nabn, hk15, fhk16, fhk17, fhk18, hk19, hk20, ehk3]
                  exact ⟨rfl, rfl, rfl, rfl, rfl, _, rfl, rfl⟩
          · obtain ⟨ghk14naa, ghk14nab⟩ := or_f ghk14na
            have ghk14naan := no_f ghk14naa
            have ghk14nabn := no_f ghk14nab
            have ghk14nbn := no_t ghk14nb
            try simp only [go_sem, n1, n2, n3, n4, hk4, hk5, hk7, hk8, hk10, hk12, ghk13, hhk13] at ghk14naan
            all_goals
            try simp only [go_sem, n1, n2, n3, n4, hk4, hk5, hk7, hk8, hk10, hk12, ghk13, hhk13, ghk14naan] at ghk14nabn
            all_goals
            try simp only [go_sem, n1, n2, n3, n4, hk4, hk5, hk7, hk8, hk10, hk12, ghk13, hhk13, ghk14naan, ghk14nabn] at ghk14nbn
            all_goals
            rcases it_some h with ⟨hk15, h⟩ | ⟨hk15, h⟩
            · try simp only [go_sem, n1, n2, n3, n4, hk4, hk5, hk7, hk8, hk10, hk12, ghk13, hhk13, ghk14naan, ghk14nabn, ghk14nbn] at hk15
              all_goals
              obtain rfl := so_some h
              refine ⟨Lhk3, fun L hL => ?_⟩
              have ehk3 := ehk3 L (by omega)
              try simp only [go_sem, E_spec_l27R_lineA_l1, R_spec_l27R_lineA_l1, ir73_k0, ir73_o0, ir73_r0, hk4, hk5, hk7, hk8, hk10, hk12, ghk13, hhk13, ghk14naan, ghk14nabn, ghk14nbn, hk15] at ehk3
              simp only [go_sem, ir73, E_spec_l27R_lineA_l1, R_spec_l27R_lineA_l1, ir73_k0, ir73_o0, ir73_r0, hk4, hk5, fhk6, hk7, hk8, lhk8, xhk8, fhk9, hk10, lhk10, xhk10, fhk11, hk12, lhk12, xhk12, ghk13, hhk13, fhk13, ghk14naan, ghk14nabn, ghk14nbn, hk15, ehk3]
              exact ⟨rfl, rfl, rfl⟩
            · try simp only [go_sem, n1, n2, n3, n4, hk4, hk5, hk7, hk8, hk10, hk12, ghk13, hhk13, ghk14naan, ghk14nabn, ghk14nbn] at hk15
              all_goals
              obtain ⟨y_16, hk16, h⟩ := bd_some h
              have fhk16 := Fs_spec_l27Words hk16
              try simp only [go_sem, hk4, hk5, hk7, hk8, hk10, hk12, ghk13, hhk13, ghk14naan, ghk14nabn, ghk14nbn, hk15] at fhk16
              obtain ⟨y_17, hk17, h⟩ := bd_some h
              have fhk17 := Fs_spec_l27Stamp hk17
              try simp only [go_sem, hk4, hk5, hk7, hk8, hk10, hk12, ghk13, hhk13, ghk14naan, ghk14nabn, ghk14nbn, hk15] at fhk17
              obtain ⟨y_18, hk18, h⟩ := bd_some h
              have fhk18 := Fs_spec_l27Line hk18
              try simp only [go_sem, hk4, hk5, hk7, hk8, hk10, hk12, ghk13, hhk13, ghk14naan, ghk14nabn, ghk14nbn, hk15] at fhk18
              obtain ⟨hk19, h⟩ := ck_some h
              try simp only [go_sem, n1, n2, n3, n4, hk4, hk5, hk7, hk8, hk10, hk12, ghk13, hhk13, ghk14naan, ghk14nabn, ghk14nbn, hk15] at hk19
              all_goals
              rcases it_some h with ⟨hk20, h⟩ | ⟨hk20, h⟩
              · try simp only [go_sem, n1, n2, n3, n4, hk4, hk5, hk7, hk8, hk10, hk12, ghk13, hhk13, ghk14naan, ghk14nabn, ghk14nbn, hk15, hk19] at hk20
                all_goals
                obtain rfl := so_some h
                refine ⟨Lhk3, fun L hL => ?_⟩
                have ehk3 := ehk3 L (by omega)
                try simp only [go_sem, E_spec_l27R_lineA_l1, R_spec_l27R_lineA_l1, ir73_k0, ir73_o0, ir73_r0, hk4, hk5, hk7, hk8, hk10, hk12, ghk13, hhk13, ghk14naan, ghk14nabn, ghk14nbn, hk15, hk19, hk20] at ehk3
                simp only [go_sem, ir73, E_spec_l27R_lineA_l1, R_spec_l27R_lineA_l1, ir73_k0, ir73_o0, ir73_r0, hk4, hk5, fhk6, hk7, hk8, lhk8, xhk8, fhk9, hk10, lhk10, xhk10, fhk11, hk12, lhk12, xhk12, ghk13, hhk13, fhk13, ghk14naan, ghk14nabn, ghk14nbn, hk15, fhk16, fhk17, fhk18, hk19, hk20, ehk3]
                exact ⟨rfl, rfl, rfl⟩
              · try simp only [go_sem, n1, n2, n3, n4, hk4, hk5, hk7, hk8, hk10, hk12, ghk13, hhk13, ghk14naan, ghk14nabn, ghk14nbn, hk15, hk19] at hk20
                all_goals
                obtain rfl := so_some h
                refine ⟨Lhk3, fun L hL => ?_⟩
                have ehk3 := ehk3 L (by omega)
                try simp only [go_sem, E_spec_l27R_lineA_l1, R_spec_l27R_lineA_l1, ir73_k0, ir73_o0, ir73_r0, hk4, hk5, hk7, hk8, hk10, hk12, ghk13, hhk13, ghk14naan, ghk14nabn, ghk14nbn, hk15, hk19, hk20] at ehk3
                simp only [go_sem, ir73, E_spec_l27R_lineA_l1, R_spec_l27R_lineA_l1, ir73_k0, ir73_o0, ir73_r0, hk4, hk5, fhk6, hk7, hk8, lhk8, xhk8, fhk9, hk10, lhk10, xhk10, fhk11, hk12, lhk12, xhk12, ghk13, hhk13, fhk13, ghk14naan, ghk14nabn, ghk14nbn, hk15, fhk16, fhk17, fhk18, hk19, hk20, ehk3]
                exact ⟨rfl, rfl, rfl, rfl, rfl, _, rfl, rfl⟩
      · have ghk13n := no_f ghk13
        rcases or_t ghk13n with ghk13na | ⟨ghk13na, ghk13nb⟩
        · have ghk13nan := no_t ghk13na
          try simp only [go_sem, n1, n2, n3, n4, hk4, hk5, hk7, hk8, hk10, hk12] at ghk13nan
          all_goals
          obtain ⟨hk14, h⟩ := ck_some h
          rcases or_split hk14 with ⟨ghk14, hk14⟩ | ghk14
          · try simp only [go_sem, n1, n2, n3, n4, hk4, hk5, hk7, hk8, hk10, hk12, ghk13nan] at ghk14
            all_goals
            obtain ⟨y_14, hhk14⟩ := Option.isSome_iff_exists.1 hk14
            have fhk14 := Fs_spec_l27R_day hhk14
            try simp only [go_sem, hk4, hk5, hk7, hk8, hk10, hk12, ghk13nan, ghk14] at fhk14
            rcases it_some h with ⟨hk15, h⟩ | ⟨hk15, h⟩
            · try simp only [go_sem, n1, n2, n3, n4, hk4, hk5, hk7, hk8, hk10, hk12, ghk13nan, ghk14, hhk14] at hk15
              all_goals
              obtain rfl := so_some h
              refine ⟨Lhk3, fun L hL => ?_⟩
              have ehk3 := ehk3 L (by omega)
              try simp only [go_sem, E_spec_l27R_lineA_l1, R_spec_l27R_lineA_l1, ir73_k0, ir73_o0, ir73_r0, hk4, hk5, hk7, hk8, hk10, hk12, ghk13nan, ghk14, hhk14, hk15] at ehk3
              simp only [go_sem, ir73, E_spec_l27R_lineA_l1, R_spec_l27R_lineA_l1, ir73_k0, ir73_o0, ir73_r0, hk4, hk5, fhk6, hk7, hk8, lhk8, xhk8, fhk9, hk10, lhk10, xhk10, fhk11, hk12, lhk12, xhk12, ghk13nan, ghk14, hhk14, fhk14, hk15, ehk3]
              exact ⟨rfl, rfl, rfl⟩
            · try simp only [go_sem, n1, n2, n3, n4, hk4, hk5, hk7, hk8, hk10, hk12, ghk13nan, ghk14, hhk14] at hk15
              all_goals
              obtain ⟨y_16, hk16, h⟩ := bd_some h
              have fhk16 := Fs_spec_l27Words hk16
              try simp only [go_sem, hk4, hk5, hk7, hk8, hk10, hk12, ghk13nan, ghk14, hhk14, hk15] at fhk16
              obtain ⟨y_17, hk17, h⟩ := bd_some h
              have fhk17 := Fs_spec_l27Stamp hk17
              try simp only [go_sem, hk4, hk5, hk7, hk8, hk10, hk12, ghk13nan, ghk14, hhk14, hk15] at fhk17
              obtain ⟨y_18, hk18, h⟩ := bd_some h
              have fhk18 := Fs_spec_l27Line hk18
              try simp only [go_sem, hk4, hk5, hk7, hk8, hk10, hk12, ghk13nan, ghk14, hhk14, hk15] at fhk18
              obtain ⟨hk19, h⟩ := ck_some h
              try simp only [go_sem, n1, n2, n3, n4, hk4, hk5, hk7, hk8, hk10, hk12, ghk13nan, ghk14, hhk14, hk15] at hk19
              all_goals
              rcases it_some h with ⟨hk20, h⟩ | ⟨hk20, h⟩
              · try simp only [go_sem, n1, n2, n3, n4, hk4, hk5, hk7, hk8, hk10, hk12, ghk13nan, ghk14, hhk14, hk15, hk19] at hk20
                all_goals
                obtain rfl := so_some h
                refine ⟨Lhk3, fun L hL => ?_⟩
                have ehk3 := ehk3 L (by omega)
                try simp only [go_sem, E_spec_l27R_lineA_l1, R_spec_l27R_lineA_l1, ir73_k0, ir73_o0, ir73_r0, hk4, hk5, hk7, hk8, hk10, hk12, ghk13nan, ghk14, hhk14, hk15, hk19, hk20] at ehk3
                simp only [go_sem, ir73, E_spec_l27R_lineA_l1, R_spec_l27R_lineA_l1, ir73_k0, ir73_o0, ir73_r0, hk4, hk5, fhk6, hk7, hk8, lhk8, xhk8, fhk9, hk10, lhk10, xhk10, fhk11, hk12, lhk12, xhk12, ghk13nan, ghk14, hhk14, fhk14, hk15, fhk16, fhk17, fhk18, hk19, hk20, ehk3]
                exact ⟨rfl, rfl, rfl⟩
              · try simp only [go_sem, n1, n2, n3, n4, hk4, hk5, hk7, hk8, hk10, hk12, ghk13nan, ghk14, hhk14, hk15, hk19] at hk20
                all_goals
                obtain rfl := so_some h
                refine ⟨Lhk3, fun L hL => ?_⟩
                have ehk3 := ehk3 L (by omega)
                try simp only [go_sem, E_spec_l27R_lineA_l1, R_spec_l27R_lineA_l1, ir73_k0, ir73_o0, ir73_r0, hk4, hk5, hk7, hk8, hk10, hk12, ghk13nan, ghk14, hhk14, hk15, hk19, hk20] at ehk3
                simp only [go_sem, ir73, E_spec_l27R_lineA_l1, R_spec_l27R_lineA_l1, ir73_k0, ir73_o0, ir73_r0, hk4, hk5, fhk6, hk7, hk8, lhk8, xhk8, fhk9, hk10, lhk10, xhk10, fhk11, hk12, lhk12, xhk12, ghk13nan, ghk14, hhk14, fhk14, hk15, fhk16, fhk17, fhk18, hk19, hk20, ehk3]
                exact ⟨rfl, rfl, rfl, rfl, rfl, _, rfl, rfl⟩
          · have ghk14n := no_f ghk14
            rcases or_t ghk14n with ghk14na | ⟨ghk14na, ghk14nb⟩
            · rcases or_t ghk14na with ghk14naa | ⟨ghk14naa, ghk14nab⟩
              · have ghk14naan := no_t ghk14naa
                try simp only [go_sem, n1, n2, n3, n4, hk4, hk5, hk7, hk8, hk10, hk12, ghk13nan] at ghk14naan
                all_goals
                rcases it_some h with ⟨hk15, h⟩ | ⟨hk15, h⟩
                · try simp only [go_sem, n1, n2, n3, n4, hk4, hk5, hk7, hk8, hk10, hk12, ghk13nan, ghk14naan] at hk15
                  all_goals
                  obtain rfl := so_some h
                  refine ⟨Lhk3, fun L hL => ?_⟩
                  have ehk3 := ehk3 L (by omega)
                  try simp only [go_sem, E_spec_l27R_lineA_l1, R_spec_l27R_lineA_l1, ir73_k0, ir73_o0, ir73_r0, hk4, hk5, hk7, hk8, hk10, hk12, ghk13nan, ghk14naan, hk15] at ehk3
                  simp only [go_sem, ir73, E_spec_l27R_lineA_l1, R_spec_l27R_lineA_l1, ir73_k0, ir73_o0, ir73_r0, hk4, hk5, fhk6, hk7, hk8, lhk8, xhk8, fhk9, hk10, lhk10, xhk10, fhk11, hk12, lhk12, xhk12, ghk13nan, ghk14naan, hk15, ehk3]
                  exact ⟨rfl, rfl, rfl⟩
                · try simp only [go_sem, n1, n2, n3, n4, hk4, hk5, hk7, hk8, hk10, hk12, ghk13nan, ghk14naan] at hk15
                  all_goals
                  obtain ⟨y_16, hk16, h⟩ := bd_some h
                  have fhk16 := Fs_spec_l27Words hk16
                  try simp only [go_sem, hk4, hk5, hk7, hk8, hk10, hk12, ghk13nan, ghk14naan, hk15] at fhk16
                  obtain ⟨y_17, hk17, h⟩ := bd_some h
                  have fhk17 := Fs_spec_l27Stamp hk17
                  try simp only [go_sem, hk4, hk5, hk7, hk8, hk10, hk12, ghk13nan, ghk14naan, hk15] at fhk17
                  obtain ⟨y_18, hk18, h⟩ := bd_some h
                  have fhk18 := Fs_spec_l27Line hk18
                  try simp only [go_sem, hk4, hk5, hk7, hk8, hk10, hk12, ghk13nan, ghk14naan, hk15] at fhk18
                  obtain ⟨hk19, h⟩ := ck_some h
                  try simp only [go_sem, n1, n2, n3, n4, hk4, hk5, hk7, hk8, hk10, hk12, ghk13nan, ghk14naan, hk15] at hk19
                  all_goals
                  rcases it_some h with ⟨hk20, h⟩ | ⟨hk20, h⟩
                  · try simp only [go_sem, n1, n2, n3, n4, hk4, hk5, hk7, hk8, hk10, hk12, ghk13nan, ghk14naan, hk15, hk19] at hk20
                    all_goals
                    obtain rfl := so_some h
                    refine ⟨Lhk3, fun L hL => ?_⟩
                    have ehk3 := ehk3 L (by omega)
                    try simp only [go_sem, E_spec_l27R_lineA_l1, R_spec_l27R_lineA_l1, ir73_k0, ir73_o0, ir73_r0, hk4, hk5, hk7, hk8, hk10, hk12, ghk13nan, ghk14naan, hk15, hk19, hk20] at ehk3
                    simp only [go_sem, ir73, E_spec_l27R_lineA_l1, R_spec_l27R_lineA_l1, ir73_k0, ir73_o0, ir73_r0, hk4, hk5, fhk6, hk7, hk8, lhk8, xhk8, fhk9, hk10, lhk10, xhk10, fhk11, hk12, lhk12, xhk12, ghk13nan, ghk14naan, hk15, fhk16, fhk17, fhk18, hk19, hk20, ehk3]
                    exact ⟨rfl, rfl, rfl⟩
                  · try simp only [go_sem, n1, n2, n3, n4, hk4, hk5, hk7, hk8, hk10, hk12, ghk13nan, ghk14naan, hk15, hk19] at hk20
                    all_goals
                    obtain rfl := so_some h
                    refine ⟨Lhk3, fun L hL => ?_⟩
                    have ehk3 := ehk3 L (by omega)
                    try simp only [go_sem, E_spec_l27R_lineA_l1, R_spec_l27R_lineA_l1, ir73_k0, ir73_o0, ir73_r0, hk4, hk5, hk7, hk8, hk10, hk12, ghk13nan, ghk14naan, hk15, hk19, hk20] at ehk3
                    simp only [go_sem, ir73, E_spec_l27R_lineA_l1, R_spec_l27R_lineA_l1, ir73_k0, ir73_o0, ir73_r0, hk4, hk5, fhk6, hk7, hk8, lhk8, xhk8, fhk9, hk10, lhk10, xhk10, fhk11, hk12, lhk12, xhk12, ghk13nan, ghk14naan, hk15, fhk16, fhk17, fhk18, hk19, hk20, ehk3]
                    exact ⟨rfl, rfl, rfl, rfl, rfl, _, rfl, rfl⟩
              · have ghk14naan := no_f ghk14naa
                have ghk14nabn := no_t ghk14nab
                try simp only [go_sem, n1, n2, n3, n4, hk4, hk5, hk7, hk8, hk10, hk12, ghk13nan] at ghk14naan
                all_goals
                try simp only [go_sem, n1, n2, n3, n4, hk4, hk5, hk7, hk8, hk10, hk12, ghk13nan, ghk14naan] at ghk14nabn
                all_goals
                rcases it_some h with ⟨hk15, h⟩ | ⟨hk15, h⟩
                · try simp only [go_sem, n1, n2, n3, n4, hk4, hk5, hk7, hk8, hk10, hk12, ghk13nan, ghk14naan, ghk14nabn] at hk15
                  all_goals
                  obtain rfl := so_some h
                  refine ⟨Lhk3, fun L hL => ?_⟩
                  have ehk3 := ehk3 L (by omega)
                  try simp only [go_sem, E_spec_l27R_lineA_l1, R_spec_l27R_lineA_l1, ir73_k0, ir73_o0, ir73_r0, hk4, hk5, hk7, hk8, hk10, hk12, ghk13nan, ghk14naan, ghk14nabn, hk15] at ehk3
                  simp only [go_sem, ir73, E_spec_l27R_lineA_l1, R_spec_l27R_lineA_l1, ir73_k0, ir73_o0, ir73_r0, hk4, hk5, fhk6, hk7, hk8, lhk8, xhk8, fhk9, hk10, lhk10, xhk10, fhk11, hk12, lhk12, xhk12, ghk13nan, ghk14naan, ghk14nabn, hk15, ehk3]
                  exact ⟨rfl, rfl, rfl⟩
                · try simp only [go_sem, n1, n2, n3, n4, hk4, hk5, hk7, hk8, hk10, hk12, ghk13nan, ghk14naan, ghk14nabn] at hk15
                  all_goals
                  obtain ⟨y_16, hk16, h⟩ := bd_some h
                  have fhk16 := Fs_spec_l27Words hk16
                  try simp only [go_sem, hk4, hk5, hk7, hk8, hk10, hk12, ghk13nan, ghk14naan, ghk14nabn, hk15] at fhk16
                  obtain ⟨y_17, hk17, h⟩ := bd_some h
                  have fhk17 := Fs_spec_l27Stamp hk17
                  try simp only [go_sem, hk4, hk5, hk7, hk8, hk10, hk12, ghk13nan, ghk14naan, ghk14nabn, hk15] at fhk17
                  obtain ⟨y_18, hk18, h⟩ := bd_some h
                  have fhk18 := Fs_spec_l27Line hk18
                  try simp only [go_sem, hk4, hk5, hk7, hk8, hk10, hk12, ghk13nan, ghk14naan, ghk14nabn, hk15] at fhk18
                  obtain ⟨hk19, h⟩ := ck_some h
                  try simp only [go_sem, n1, n2, n3, n4, hk4, hk5, hk7, hk8, hk10, hk12, ghk13nan, ghk14naan, ghk14nabn, hk15] at hk19
                  all_goals
                  rcases it_some h with ⟨hk20, h⟩ | ⟨hk20, h⟩
                  · try simp only [go_sem, n1, n2, n3, n4, hk4, hk5, hk7, hk8, hk10, hk12, ghk13nan, ghk14naan, ghk14nabn, hk15, hk19] at hk20
                    all_goals
                    obtain rfl := so_some h
                    refine ⟨Lhk3, fun L hL => ?_⟩
                    have ehk3 := ehk3 L (by omega)
                    try simp only [go_sem, E_spec_l27R_lineA_l1, R_spec_l27R_lineA_l1, ir73_k0, ir73_o0, ir73_r0, hk4, hk5, hk7, hk8, hk10, hk12, ghk13nan, ghk14naan, ghk14nabn, hk15, hk19, hk20] at ehk3
                    simp only [go_sem, ir73, E_spec_l27R_lineA_l1, R_spec_l27R_lineA_l1, ir73_k0, ir73_o0, ir73_r0, hk4, hk5, fhk6, hk7, hk8, lhk8, xhk8, fhk9, hk10, lhk10, xhk10, fhk11, hk12, lhk12, xhk12, ghk13nan, ghk14naan, ghk14nabn, hk15, fhk16, fhk17, fhk18, hk19, hk20, ehk3]
                    exact ⟨rfl, rfl, rfl⟩
                  · try simp only [go_sem, n1, n2, n3, n4, hk4, hk5, hk7, hk8, hk10, hk12, ghk13nan, ghk14naan, ghk14nabn, hk15, hk19] at hk20
                    all_goals
                    obtain rfl := so_some h
                    refine ⟨Lhk3, fun L hL => ?_⟩
                    have ehk3 := ehk3 L (by omega)
                    try simp only [go_sem, E_spec_l27R_lineA_l1, R_spec_l27R_lineA_l1, ir73_k0, ir73_o0, ir73_r0, hk4, hk5, hk7, hk8, hk10, hk12, ghk13nan, ghk14naan, ghk14nabn, hk15, hk19, hk20] at ehk3
                    simp only [go_sem, ir73, E_spec_l27R_lineA_l1, R_spec_l27R_lineA_l1, ir73_k0, ir73_o0, ir73_r0, hk4, hk5, fhk6, hk7, hk8, lhk8, xhk8, fhk9, hk10, lhk10, xhk10, fhk11, hk12, lhk12, xhk12, ghk13nan, ghk14naan, ghk14nabn, hk15, fhk16, fhk17, fhk18, hk19, hk20, ehk3]
                    exact ⟨rfl, rfl, rfl, rfl, rfl, _, rfl, rfl⟩
            · obtain ⟨ghk14naa, ghk14nab⟩ := or_f ghk14na
              have ghk14naan := no_f ghk14naa
              have ghk14nabn := no_f ghk14nab
              have ghk14nbn := no_t ghk14nb
              try simp only [go_sem, n1, n2, n3, n4, hk4, hk5, hk7, hk8, hk10, hk12, ghk13nan] at ghk14naan
              all_goals
              try simp only [go_sem, n1, n2, n3, n4, hk4, hk5, hk7, hk8, hk10, hk12, ghk13nan, ghk14naan] at ghk14nabn
              all_goals
              try simp only [go_sem, n1, n2, n3, n4, hk4, hk5, hk7, hk8, hk10, hk12, ghk13nan, ghk14naan, ghk14nabn] at ghk14nbn
              all_goals
              rcases it_some h with ⟨hk15, h⟩ | ⟨hk15, h⟩
              · try simp only [go_sem, n1, n2, n3, n4, hk4, hk5, hk7, hk8, hk10, hk12, ghk13nan, ghk14naan, ghk14nabn, ghk14nbn] at hk15
                all_goals
                obtain rfl := so_some h
                refine ⟨Lhk3, fun L hL => ?_⟩
                have ehk3 := ehk3 L (by omega)
                try simp only [go_sem, E_spec_l27R_lineA_l1, R_spec_l27R_lineA_l1, ir73_k0, ir73_o0, ir73_r0, hk4, hk5, hk7, hk8, hk10, hk12, ghk13nan, ghk14naan, ghk14nabn, ghk14nbn, hk15] at ehk3
                simp only [go_sem, ir73, E_spec_l27R_lineA_l1, R_spec_l27R_lineA_l1, ir73_k0, ir73_o0, ir73_r0, hk4, hk5, fhk6, hk7, hk8, lhk8, xhk8, fhk9, hk10, lhk10, xhk10, fhk11, hk12, lhk12, xhk12, ghk13nan, ghk14naan, ghk14nabn, ghk14nbn, hk15, ehk3]
                exact ⟨rfl, rfl, rfl⟩
              · try simp only [go_sem, n1, n2, n3, n4, hk4, hk5, hk7, hk8, hk10, hk12, ghk13nan, ghk14naan, ghk14nabn, ghk14nbn] at hk15
                all_goals
                obtain ⟨y_16, hk16, h⟩ := bd_some h
                have fhk16 := Fs_spec_l27Words hk16
                try simp only [go_sem, hk4, hk5, hk7, hk8, hk10, hk12, ghk13nan, ghk14naan, ghk14nabn, ghk14nbn, hk15] at fhk16
                obtain ⟨y_17, hk17, h⟩ := bd_some h
                have fhk17 := Fs_spec_l27Stamp hk17
                try simp only [go_sem, hk4, hk5, hk7, hk8, hk10, hk12, ghk13nan, ghk14naan, ghk14nabn, ghk14nbn, hk15] at fhk17
                obtain ⟨y_18, hk18, h⟩ := bd_some h
                have fhk18 := Fs_spec_l27Line hk18
                try simp only [go_sem, hk4, hk5, hk7, hk8, hk10, hk12, ghk13nan, ghk14naan, ghk14nabn, ghk14nbn, hk15] at fhk18
                obtain ⟨hk19, h⟩ := ck_some h
                try simp only [go_sem, n1, n2, n3, n4, hk4, hk5, hk7, hk8, hk10, hk12, ghk13nan, ghk14naan, ghk14nabn, ghk14nbn, hk15] at hk19
                all_goals
                rcases it_some h with ⟨hk20, h⟩ | ⟨hk20, h⟩
                · try simp only [go_sem, n1, n2, n3, n4, hk4, hk5, hk7, hk8, hk10, hk12, ghk13nan, ghk14naan, ghk14nabn, ghk14nbn, hk15, hk19] at hk20
                  all_goals
                  obtain rfl := so_some h
                  refine ⟨Lhk3, fun L hL => ?_⟩
                  have ehk3 := ehk3 L (by omega)
                  try simp only [go_sem, E_spec_l27R_lineA_l1, R_spec_l27R_lineA_l1, ir73_k0, ir73_o0, ir73_r0, hk4, hk5, hk7, hk8, hk10, hk12, ghk13nan, ghk14naan, ghk14nabn, ghk14nbn, hk15, hk19, hk20] at ehk3
                  simp only [go_sem, ir73, E_spec_l27R_lineA_l1, R_spec_l27R_lineA_l1, ir73_k0, ir73_o0, ir73_r0, hk4, hk5, fhk6, hk7, hk8, lhk8, xhk8, fhk9, hk10, lhk10, xhk10, fhk11, hk12, lhk12, xhk12, ghk13nan, ghk14naan, ghk14nabn, ghk14nbn, hk15, fhk16, fhk17, fhk18, hk19, hk20, ehk3]
                  exact ⟨rfl, rfl, rfl⟩
                · try simp only [go_sem, n1, n2, n3, n4, hk4, hk5, hk7, hk8, hk10, hk12, ghk13nan, ghk14naan, ghk14nabn, ghk14nbn, hk15, hk19] at hk20
                  all_goals
                  obtain rfl := so_some h
                  refine ⟨Lhk3, fun L hL => ?_⟩
                  have ehk3 := ehk3 L (by omega)
                  try simp only [go_sem, E_spec_l27R_lineA_l1, R_spec_l27R_lineA_l1, ir73_k0, ir73_o0, ir73_r0, hk4, hk5, hk7, hk8, hk10, hk12, ghk13nan, ghk14naan, ghk14nabn, ghk14nbn, hk15, hk19, hk20] at ehk3
                  simp only [go_sem, ir73, E_spec_l27R_lineA_l1, R_spec_l27R_lineA_l1, ir73_k0, ir73_o0, ir73_r0, hk4, hk5, fhk6, hk7, hk8, lhk8, xhk8, fhk9, hk10, lhk10, xhk10, fhk11, hk12, lhk12, xhk12, ghk13nan, ghk14naan, ghk14nabn, ghk14nbn, hk15, fhk16, fhk17, fhk18, hk19, hk20, ehk3]
                  exact ⟨rfl, rfl, rfl, rfl, rfl, _, rfl, rfl⟩
        · have ghk13nan := no_f ghk13na
          have ghk13nbn := no_t ghk13nb
          try simp only [go_sem, n1, n2, n3, n4, hk4, hk5, hk7, hk8, hk10, hk12] at ghk13nan
          all_goals
          try simp only [go_sem, n1, n2, n3, n4, hk4, hk5, hk7, hk8, hk10, hk12, ghk13nan] at ghk13nbn
          all_goals
          obtain ⟨hk14, h⟩ := ck_some h
          rcases or_split hk14 with ⟨ghk14, hk14⟩ | ghk14
          · try simp only [go_sem, n1, n2, n3, n4, hk4, hk5, hk7, hk8, hk10, hk12, ghk13nan, ghk13nbn] at ghk14
            all_goals
            obtain ⟨y_14, hhk14⟩ := Option.isSome_iff_exists.1 hk14
            have fhk14 := Fs_spec_l27R_day hhk14
            try simp only [go_sem, hk4, hk5, hk7, hk8, hk10, hk12, ghk13nan, ghk13nbn, ghk14] at fhk14
            rcases it_some h with ⟨hk15, h⟩ | ⟨hk15, h⟩
            · try simp only [go_sem, n1, n2, n3, n4, hk4, hk5, hk7, hk8, hk10, hk12, ghk13nan, ghk13nbn, ghk14, hhk14] at hk15
              all_goals
              obtain rfl := so_some h
              refine ⟨Lhk3, fun L hL => ?_⟩
              have ehk3 := ehk3 L (by omega)
              try simp only [go_sem, E_spec_l27R_lineA_l1, R_spec_l27R_lineA_l1, ir73_k0, ir73_o0, ir73_r0, hk4, hk5, hk7, hk8, hk10, hk12, ghk13nan, ghk13nbn, ghk14, hhk14, hk15] at ehk3
              simp only [go_sem, ir73, E_spec_l27R_lineA_l1, R_spec_l27R_lineA_l1, ir73_k0, ir73_o0, ir73_r0, hk4, hk5, fhk6, hk7, hk8, lhk8, xhk8, fhk9, hk10, lhk10, xhk10, fhk11, hk12, lhk12, xhk12, ghk13nan, ghk13nbn, ghk14, hhk14, fhk14, hk15, ehk3]
              exact ⟨rfl, rfl, rfl⟩
            · try simp only [go_sem, n1, n2, n3, n4, hk4, hk5, hk7, hk8, hk10, hk12, ghk13nan, ghk13nbn, ghk14, hhk14] at hk15
              all_goals
              obtain ⟨y_16, hk16, h⟩ := bd_some h
              have fhk16 := Fs_spec_l27Words hk16
              try simp only [go_sem, hk4, hk5, hk7, hk8, hk10, hk12, ghk13nan, ghk13nbn, ghk14, hhk14, hk15] at fhk16
              obtain ⟨y_17, hk17, h⟩ := bd_some h
              have fhk17 := Fs_spec_l27Stamp hk17
              try simp only [go_sem, hk4, hk5, hk7, hk8, hk10, hk12, ghk13nan, ghk13nbn, ghk14, hhk14, hk15] at fhk17
              obtain ⟨y_18, hk18, h⟩ := bd_some h
              have fhk18 := Fs_spec_l27Line hk18
              try simp only [go_sem, hk4, hk5, hk7, hk8, hk10, hk12, ghk13nan, ghk13nbn, ghk14, hhk14, hk15] at fhk18
              obtain ⟨hk19, h⟩ := ck_some h
              try simp only [go_sem, n1, n2, n3, n4, hk4, hk5, hk7, hk8, hk10, hk12, ghk13nan, ghk13nbn, ghk14, hhk14, hk15] at hk19
              all_goals
              rcases it_some h with ⟨hk20, h⟩ | ⟨hk20, h⟩
              · try simp only [go_sem, n1, n2, n3, n4, hk4, hk5, hk7, hk8, hk10, hk12, ghk13nan, ghk13nbn, ghk14, hhk14, hk15, hk19] at hk20
                all_goals
                obtain rfl := so_some h
                refine ⟨Lhk3, fun L hL => ?_⟩
                have ehk3 := ehk3 L (by omega)
                try simp only [go_sem, E_spec_l27R_lineA_l1, R_spec_l27R_lineA_l1, ir73_k0, ir73_o0, ir73_r0, hk4, hk5, hk7, hk8, hk10, hk12, ghk13nan, ghk13nbn, ghk14, hhk14, hk15, hk19, hk20] at ehk3
                simp only [go_sem, ir73, E_spec_l27R_lineA_l1, R_spec_l27R_lineA_l1, ir73_k0, ir73_o0, ir73_r0, hk4, hk5, fhk6, hk7, hk8, lhk8, xhk8, fhk9, hk10, lhk10, xhk10, fhk11, hk12, lhk12, xhk12, ghk13nan, ghk13nbn, ghk14, hhk14, fhk14, hk15, fhk16, fhk17, fhk18, hk19, hk20, ehk3]
                exact ⟨rfl, rfl, rfl⟩
              · try simp only [go_sem, n1, n2, n3, n4, hk4, hk5, hk7, hk8, hk10, hk12, ghk13nan, ghk13nbn, ghk14, hhk14, hk15, hk19] at hk20
                all_goals
                obtain rfl := so_some h
                refine ⟨Lhk3, fun L hL => ?_⟩
                have ehk3 := ehk3 L (by omega)
                try simp only [go_sem, E_spec_l27R_lineA_l1, R_spec_l27R_lineA_l1, ir73_k0, ir73_o0, ir73_r0, hk4, hk5, hk7, hk8, hk10, hk12, ghk13nan, ghk13nbn, ghk14, hhk14, hk15, hk19, hk20] at ehk3
                simp only [go_sem, ir73, E_spec_l27R_lineA_l1, R_spec_l27R_lineA_l1, ir73_k0, ir73_o0, ir73_r0, hk4, hk5, fhk6, hk7, hk8, lhk8, xhk8, fhk9, hk10, lhk10, xhk10, fhk11, hk12, lhk12, xhk12, ghk13nan, ghk13nbn, ghk14, hhk14, fhk14, hk15, fhk16, fhk17, fhk18, hk19, hk20, ehk3]
                exact ⟨rfl, rfl, rfl, rfl, rfl, _, rfl, rfl⟩
          · have ghk14n := no_f ghk14
            rcases or_t ghk14n with ghk14na | ⟨ghk14na, ghk14nb⟩
            · rcases or_t ghk14na with ghk14naa | ⟨ghk14naa, ghk14nab⟩
              · have ghk14naan := no_t ghk14naa
                try simp only [go_sem, n1, n2, n3, n4, hk4, hk5, hk7, hk8, hk10, hk12, ghk13nan, ghk13nbn] at ghk14naan
                all_goals
                rcases it_some h with ⟨hk15, h⟩ | ⟨hk15, h⟩
                · try simp only [go_sem, n1, n2, n3, n4, hk4, hk5, hk7, hk8, hk10, hk12, ghk13nan, ghk13nbn, ghk14naan] at hk15
                  all_goals
                  obtain rfl := so_some h
                  refine ⟨Lhk3, fun L hL => ?_⟩
                  have ehk3 := ehk3 L (by omega)
                  try simp only [go_sem, E_spec_l27R_lineA_l1, R_spec_l27R_lineA_l1, ir73_k0, ir73_o0, ir73_r0, hk4, hk5, hk7, hk8, hk10, hk12, ghk13nan, ghk13nbn, ghk14naan, hk15] at ehk3
                  simp only [go_sem, ir73, E_spec_l27R_lineA_l1, R_spec_l27R_lineA_l1, ir73_k0, ir73_o0, ir73_r0, hk4, hk5, fhk6, hk7, hk8, lhk8, xhk8, fhk9, hk10, lhk10, xhk10, fhk11, hk12, lhk12, xhk12, ghk13nan, ghk13nbn, ghk14naan, hk15, ehk3]
                  exact ⟨rfl, rfl, rfl⟩
                · try simp only [go_sem, n1, n2, n3, n4, hk4, hk5, hk7, hk8, hk10, hk12, ghk13nan, ghk13nbn, ghk14naan] at hk15
                  all_goals
                  obtain ⟨y_16, hk16, h⟩ := bd_some h
                  have fhk16 := Fs_spec_l27Words hk16
                  try simp only [go_sem, hk4, hk5, hk7, hk8, hk10, hk12, ghk13nan, ghk13nbn, ghk14naan, hk15] at fhk16
                  obtain ⟨y_17, hk17, h⟩ := bd_some h
                  have fhk17 := Fs_spec_l27Stamp hk17
                  try simp only [go_sem, hk4, hk5, hk7, hk8, hk10, hk12, ghk13nan, ghk13nbn, ghk14naan, hk15] at fhk17
                  obtain ⟨y_18, hk18, h⟩ := bd_some h
                  have fhk18 := Fs_spec_l27Line hk18
                  try simp only [go_sem, hk4, hk5, hk7, hk8, hk10, hk12, ghk13nan, ghk13nbn, ghk14naan, hk15] at fhk18
                  obtain ⟨hk19, h⟩ := ck_some h
                  try simp only [go_sem, n1, n2, n3, n4, hk4, hk5, hk7, hk8, hk10, hk12, ghk13nan, ghk13nbn, ghk14naan, hk15] at hk19
                  all_goals
                  rcases it_some h with ⟨hk20, h⟩ | ⟨hk20, h⟩
                  · try simp only [go_sem, n1, n2, n3, n4, hk4, hk5, hk7, hk8, hk10, hk12, ghk13nan, ghk13nbn, ghk14naan, hk15, hk19] at hk20
                    all_goals
                    obtain rfl := so_some h
                    refine ⟨Lhk3, fun L hL => ?_⟩
                    have ehk3 := ehk3 L (by omega)
                    try simp only [go_sem, E_spec_l27R_lineA_l1, R_spec_l27R_lineA_l1, ir73_k0, ir73_o0, ir73_r0, hk4, hk5, hk7, hk8, hk10, hk12, ghk13nan, ghk13nbn, ghk14naan, hk15, hk19, hk20] at ehk3
                    simp only [go_sem, ir73, E_spec_l27R_lineA_l1, R_spec_l27R_lineA_l1, ir73_k0, ir73_o0, ir73_r0, hk4, hk5, fhk6, hk7, hk8, lhk8, xhk8, fhk9, hk10, lhk10, xhk10, fhk11, hk12, lhk12, xhk12, ghk13nan, ghk13nbn, ghk14naan, hk15, fhk16, fhk17, fhk18, hk19, hk20, ehk3]
                    exact ⟨rfl, rfl, rfl⟩
                  · try simp only [go_sem, n1, n2, n3, n4, hk4, hk5, hk7, hk8, hk10, hk12, ghk13nan, ghk13nbn, ghk14naan, hk15, hk19] at hk20
                    all_goals
                    obtain rfl := so_some h
                    refine ⟨Lhk3, fun L hL => ?_⟩
                    have ehk3 := ehk3 L (by omega)
                    try simp only [go_sem, E_spec_l27R_lineA_l1, R_spec_l27R_lineA_l1, ir73_k0, ir73_o0, ir73_r0, hk4, hk5, hk7, hk8, hk10, hk12, ghk13nan, ghk13nbn, ghk14naan, hk15, hk19, hk20] at ehk3
                    simp only [go_sem, ir73, E_spec_l27R_lineA_l1, R_spec_l27R_lineA_l1, ir73_k0, ir73_o0, ir73_r0, hk4, hk5, fhk6, hk7, hk8, lhk8, xhk8, fhk9, hk10, lhk10, xhk10, fhk11, hk12, lhk12, xhk12, ghk13nan, ghk13nbn, ghk14naan, hk15, fhk16, fhk17, fhk18, hk19, hk20, ehk3]
                    exact ⟨rfl, rfl, rfl, rfl, rfl, _, rfl, rfl⟩
              · have ghk14naan := no_f ghk14naa
                have ghk14nabn := no_t ghk14nab
                try simp only [go_sem, n1, n2, n3, n4, hk4, hk5, hk7, hk8, hk10, hk12, ghk13nan, ghk13nbn] at ghk14naan
                all_goals
                try simp only [go_sem, n1, n2, n3, n4, hk4, hk5, hk7, hk8, hk10, hk12, ghk13nan, ghk13nbn, ghk14naan] at ghk14nabn
                all_goals
                rcases it_some h with ⟨hk15, h⟩ | ⟨hk15, h⟩
                · try simp only [go_sem, n1, n2, n3, n4, hk4, hk5, hk7, hk8, hk10, hk12, ghk13nan, ghk13nbn, ghk14naan, ghk14nabn] at hk15
                  all_goals
                  obtain rfl := so_some h
                  refine ⟨Lhk3, fun L hL => ?_⟩
                  have ehk3 := ehk3 L (by omega)
                  try simp only [go_sem, E_spec_l27R_lineA_l1, R_spec_l27R_lineA_l1, ir73_k0, ir73_o0, ir73_r0, hk4, hk5, hk7, hk8, hk10, hk12, ghk13nan, ghk13nbn, ghk14naan, ghk14nabn, hk15] at ehk3
                  simp only [go_sem, ir73, E_spec_l27R_lineA_l1, R_spec_l27R_lineA_l1, ir73_k0, ir73_o0, ir73_r0, hk4, hk5, fhk6, hk7, hk8, lhk8, xhk8, fhk9, hk10, lhk10, xhk10, fhk11, hk12, lhk12, xhk12, ghk13nan, ghk13nbn, ghk14naan, ghk14nabn, hk15, ehk3]
                  exact ⟨rfl, rfl, rfl⟩
                · try simp only [go_sem, n1, n2, n3, n4, hk4, hk5, hk7, hk8, hk10, hk12, ghk13nan, ghk13nbn, ghk14naan, ghk14nabn] at hk15
                  all_goals
                  obtain ⟨y_16, hk16, h⟩ := bd_some h
                  have fhk16 := Fs_spec_l27Words hk16
                  try simp only [go_sem, hk4, hk5, hk7, hk8, hk10, hk12, ghk13nan, ghk13nbn, ghk14naan, ghk14nabn, hk15] at fhk16
                  obtain ⟨y_17, hk17, h⟩ := bd_some h
                  have fhk17 := Fs_spec_l27Stamp hk17
                  try simp only [go_sem, hk4, hk5, hk7, hk8, hk10, hk12, ghk13nan, ghk13nbn, ghk14naan, ghk14nabn, hk15] at fhk17
                  obtain ⟨y_18, hk18, h⟩ := bd_some h
                  have fhk18 := Fs_spec_l27Line hk18
                  try simp only [go_sem, hk4, hk5, hk7, hk8, hk10, hk12, ghk13nan, ghk13nbn, ghk14naan, ghk14nabn, hk15] at fhk18
                  obtain ⟨hk19, h⟩ := ck_some h
                  try simp only [go_sem, n1, n2, n3, n4, hk4, hk5, hk7, hk8, hk10, hk12, ghk13nan, ghk13nbn, ghk14naan, ghk14nabn, hk15] at hk19
                  all_goals
                  rcases it_some h with ⟨hk20, h⟩ | ⟨hk20, h⟩
                  · try simp only [go_sem, n1, n2, n3, n4, hk4, hk5, hk7, hk8, hk10, hk12, ghk13nan, ghk13nbn, ghk14naan, ghk14nabn, hk15, hk19] at hk20
                    all_goals
                    obtain rfl := so_some h
                    refine ⟨Lhk3, fun L hL => ?_⟩
                    have ehk3 := ehk3 L (by omega)
                    try simp only [go_sem, E_spec_l27R_lineA_l1, R_spec_l27R_lineA_l1, ir73_k0, ir73_o0, ir73_r0, hk4, hk5, hk7, hk8, hk10, hk12, ghk13nan, ghk13nbn, ghk14naan, ghk14nabn, hk15, hk19, hk20] at ehk3
                    simp only [go_sem, ir73, E_spec_l27R_lineA_l1, R_spec_l27R_lineA_l1, ir73_k0, ir73_o0, ir73_r0, hk4, hk5, fhk6, hk7, hk8, lhk8, xhk8, fhk9, hk10, lhk10, xhk10, fhk11, hk12, lhk12, xhk12, ghk13nan, ghk13nbn, ghk14naan, ghk14nabn, hk15, fhk16, fhk17, fhk18, hk19, hk20, ehk3]
                    exact ⟨rfl, rfl, rfl⟩
                  · try simp only [go_sem, n1, n2, n3, n4, hk4, hk5, hk7, hk8, hk10, hk12, ghk13nan, ghk13nbn, ghk14naan, ghk14nabn, hk15, hk19] at hk20
                    all_goals
                    obtain rfl := so_some h
                    refine ⟨Lhk3, fun L hL => ?_⟩
                    have ehk3 := ehk3 L (by omega)
                    try simp only [go_sem, E_spec_l27R_lineA_l1, R_spec_l27R_lineA_l1, ir73_k0, ir73_o0, ir73_r0, hk4, hk5, hk7, hk8, hk10, hk12, ghk13nan, ghk13nbn, ghk14naan, ghk14nabn, hk15, hk19, hk20] at ehk3
                    simp only [go_sem, ir73, E_spec_l27R_lineA_l1, R_spec_l27R_lineA_l1, ir73_k0, ir73_o0, ir73_r0, hk4, hk5, fhk6, hk7, hk8, lhk8, xhk8, fhk9, hk10, lhk10, xhk10, fhk11, hk12, lhk12, xhk12, ghk13nan, ghk13nbn, ghk14naan, ghk14nabn, hk15, fhk16, fhk17, fhk18, hk19, hk20, ehk3]
                    exact ⟨rfl, rfl, rfl, rfl, rfl, _, rfl, rfl⟩
            · obtain ⟨ghk14naa, ghk14nab⟩ := or_f ghk14na
              have ghk14naan := no_f ghk14naa
              have ghk14nabn := no_f ghk14nab
              have ghk14nbn := no_t ghk14nb
              try simp only [go_sem, n1, n2, n3, n4, hk4, hk5, hk7, hk8, hk10, hk12, ghk13nan, ghk13nbn] at ghk14naan
              all_goals
              try simp only [go_sem, n1, n2, n3, n4, hk4, hk5, hk7, hk8, hk10, hk12, ghk13nan, ghk13nbn, ghk14naan] at ghk14nabn
              all_goals
              try simp only [go_sem, n1, n2, n3, n4, hk4, hk5, hk7, hk8, hk10, hk12, ghk13nan, ghk13nbn, ghk14naan, ghk14nabn] at ghk14nbn
              all_goals
              rcases it_some h with ⟨hk15, h⟩ | ⟨hk15, h⟩
              · try simp only [go_sem, n1, n2, n3, n4, hk4, hk5, hk7, hk8, hk10, hk12, ghk13nan, ghk13nbn, ghk14naan, ghk14nabn, ghk14nbn] at hk15
                all_goals
                obtain rfl := so_some h
                refine ⟨Lhk3, fun L hL => ?_⟩
                have ehk3 := ehk3 L (by omega)
                try simp only [go_sem, E_spec_l27R_lineA_l1, R_spec_l27R_lineA_l1, ir73_k0, ir73_o0, ir73_r0, hk4, hk5, hk7, hk8, hk10, hk12, ghk13nan, ghk13nbn, ghk14naan, ghk14nabn, ghk14nbn, hk15] at ehk3
                simp only [go_sem, ir73, E_spec_l27R_lineA_l1, R_spec_l27R_lineA_l1, ir73_k0, ir73_o0, ir73_r0, hk4, hk5, fhk6, hk7, hk8, lhk8, xhk8, fhk9, hk10, lhk10, xhk10, fhk11, hk12, lhk12, xhk12, ghk13nan, ghk13nbn, ghk14naan, ghk14nabn, ghk14nbn, hk15, ehk3]
                exact ⟨rfl, rfl, rfl⟩
              · try simp only [go_sem, n1, n2, n3, n4, hk4, hk5, hk7, hk8, hk10, hk12, ghk13nan, ghk13nbn, ghk14naan, ghk14nabn, ghk14nbn] at hk15
                all_goals
                obtain ⟨y_16, hk16, h⟩ := bd_some h
                have fhk16 := Fs_spec_l27Words hk16
                try simp only [go_sem, hk4, hk5, hk7, hk8, hk10, hk12, ghk13nan, ghk13nbn, ghk14naan, ghk14nabn, ghk14nbn, hk15] at fhk16
                obtain ⟨y_17, hk17, h⟩ := bd_some h
                have fhk17 := Fs_spec_l27Stamp hk17
                try simp only [go_sem, hk4, hk5, hk7, hk8, hk10, hk12, ghk13nan, ghk13nbn, ghk14naan, ghk14nabn, ghk14nbn, hk15] at fhk17
                obtain ⟨y_18, hk18, h⟩ := bd_some h
                have fhk18 := Fs_spec_l27Line hk18
                try simp only [go_sem, hk4, hk5, hk7, hk8, hk10, hk12, ghk13nan, ghk13nbn, ghk14naan, ghk14nabn, ghk14nbn, hk15] at fhk18
                obtain ⟨hk19, h⟩ := ck_some h
                try simp only [go_sem, n1, n2, n3, n4, hk4, hk5, hk7, hk8, hk10, hk12, ghk13nan, ghk13nbn, ghk14naan, ghk14nabn, ghk14nbn, hk15] at hk19
                all_goals
                rcases it_some h with ⟨hk20, h⟩ | ⟨hk20, h⟩
                · try simp only [go_sem, n1, n2, n3, n4, hk4, hk5, hk7, hk8, hk10, hk12, ghk13nan, ghk13nbn, ghk14naan, ghk14nabn, ghk14nbn, hk15, hk19] at hk20
                  all_goals
                  obtain rfl := so_some h
                  refine ⟨Lhk3, fun L hL => ?_⟩
                  have ehk3 := ehk3 L (by omega)
                  try simp only [go_sem, E_spec_l27R_lineA_l1, R_spec_l27R_lineA_l1, ir73_k0, ir73_o0, ir73_r0, hk4, hk5, hk7, hk8, hk10, hk12, ghk13nan, ghk13nbn, ghk14naan, ghk14nabn, ghk14nbn, hk15, hk19, hk20] at ehk3
                  simp only [go_sem, ir73, E_spec_l27R_lineA_l1, R_spec_l27R_lineA_l1, ir73_k0, ir73_o0, ir73_r0, hk4, hk5, fhk6, hk7, hk8, lhk8, xhk8, fhk9, hk10, lhk10, xhk10, fhk11, hk12, lhk12, xhk12, ghk13nan, ghk13nbn, ghk14naan, ghk14nabn, ghk14nbn, hk15, fhk16, fhk17, fhk18, hk19, hk20, ehk3]
                  exact ⟨rfl, rfl, rfl⟩
                · try simp only [go_sem, n1, n2, n3, n4, hk4, hk5, hk7, hk8, hk10, hk12, ghk13nan, ghk13nbn, ghk14naan, ghk14nabn, ghk14nbn, hk15, hk19] at hk20
                  all_goals
                  obtain rfl := so_some h
                  refine ⟨Lhk3, fun L hL => ?_⟩
                  have ehk3 := ehk3 L (by omega)
                  try simp only [go_sem, E_spec_l27R_lineA_l1, R_spec_l27R_lineA_l1, ir73_k0, ir73_o0, ir73_r0, hk4, hk5, hk7, hk8, hk10, hk12, ghk13nan, ghk13nbn, ghk14naan, ghk14nabn, ghk14nbn, hk15, hk19, hk20] at ehk3
                  simp only [go_sem, ir73, E_spec_l27R_lineA_l1, R_spec_l27R_lineA_l1, ir73_k0, ir73_o0, ir73_r0, hk4, hk5, fhk6, hk7, hk8, lhk8, xhk8, fhk9, hk10, lhk10, xhk10, fhk11, hk12, lhk12, xhk12, ghk13nan, ghk13nbn, ghk14naan, ghk14nabn, ghk14nbn, hk15, fhk16, fhk17, fhk18, hk19, hk20, ehk3]
                  exact ⟨rfl, rfl, rfl, rfl, rfl, _, rfl, rfl⟩

end

end Go.Proofs.YtkdojfpjnnceiaaDoor
