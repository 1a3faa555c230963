/- Codes and contracts of the functions that R8 reaches, and that their typed forms say what they do. No condition. -/
import Derived.Test.YtcfjogkgmkagiabR8Ka
import Derived.Test.YtcfjogkgmkagiabRows
import Derived.WalkKit
namespace Go.Proofs.Ytcfjogkgmkagiab
open Go Go.RowKit
set_option linter.unusedVariables false
set_option linter.unusedSimpArgs false
set_option maxRecDepth 10000

def ir99_b0 : IR := .seq (.region false [
    ⟨.var 7, 17, none, .bin false .lss (.v 6) (.v 5)⟩])
 (.seq (.cond (.v 7) (.skip)
  (.exit 0))
 (.seq (.block 1 (.seq (.region false [
      ⟨.push, 18, none, .mov (.v 6)⟩,
      ⟨.var 2, 3, none, .mov (.s 0)⟩])
   (.seq (.region false [
      ⟨.push, 19, none, .mov (.v 0)⟩,
      ⟨.push, 20, none, .mov (.v 2)⟩,
      ⟨.push, 21, none, .ixStr (.s 1) (.s 0)⟩,
      ⟨.push, 22, none, .bin false .geq (.s 0) (.c (.int .u8 (97)))⟩,
      ⟨.push, 23, none, .mov (.s 0)⟩,
      ⟨.push, 24, (some ((.s 0), true)), .mov (.v 0)⟩,
      ⟨.push, 25, (some ((.s 1), true)), .mov (.v 2)⟩,
      ⟨.push, 26, (some ((.s 2), true)), .ixStr (.s 1) (.s 0)⟩,
      ⟨.push, 27, (some ((.s 3), true)), .bin false .leq (.s 0) (.c (.int .u8 (122)))⟩,
      ⟨.push, 28, none, .pick (.s 4) (.s 0) (.c (.bool false))⟩,
      ⟨.var 3, 4, none, .mov (.s 0)⟩])
   (.seq (.region false [
      ⟨.push, 29, none, .mov (.v 0)⟩,
      ⟨.push, 30, none, .mov (.v 2)⟩,
      ⟨.push, 31, none, .ixStr (.s 1) (.s 0)⟩,
      ⟨.push, 32, none, .bin false .geq (.s 0) (.c (.int .u8 (48)))⟩,
      ⟨.push, 33, none, .mov (.s 0)⟩,
      ⟨.push, 34, (some ((.s 0), true)), .mov (.v 0)⟩,
      ⟨.push, 35, (some ((.s 1), true)), .mov (.v 2)⟩,
      ⟨.push, 36, (some ((.s 2), true)), .ixStr (.s 1) (.s 0)⟩,
      ⟨.push, 37, (some ((.s 3), true)), .bin false .leq (.s 0) (.c (.int .u8 (57)))⟩,
      ⟨.push, 38, none, .pick (.s 4) (.s 0) (.c (.bool false))⟩,
      ⟨.push, 39, none, .mov (.s 0)⟩,
      ⟨.push, 40, (some ((.s 0), false)), .mov (.v 0)⟩,
      ⟨.push, 41, (some ((.s 1), false)), .mov (.v 2)⟩,
      ⟨.push, 42, (some ((.s 2), false)), .ixStr (.s 1) (.s 0)⟩,
      ⟨.push, 43, (some ((.s 3), false)), .bin false .eql (.s 0) (.c (.int .u8 (45)))⟩,
      ⟨.push, 44, none, .pick (.s 4) (.c (.bool true)) (.s 0)⟩,
      ⟨.var 4, 5, none, .mov (.s 0)⟩])
   (.test false [
     ⟨.push, 45, none, .mov (.v 3)⟩,
     ⟨.push, 46, none, .un .not (.s 0)⟩,
     ⟨.push, 47, none, .mov (.s 0)⟩,
     ⟨.push, 48, (some ((.s 0), true)), .mov (.v 2)⟩,
     ⟨.push, 49, (some ((.s 1), true)), .bin false .eql (.s 0) (.c (.int .i64 (0)))⟩,
     ⟨.push, 50, (some ((.s 2), true)), .mov (.s 0)⟩,
     ⟨.push, 51, (some ((.s 0), false)), .mov (.v 4)⟩,
     ⟨.push, 52, (some ((.s 1), false)), .un .not (.s 0)⟩,
     ⟨.push, 53, (some ((.s 5), true)), .pick (.s 2) (.c (.bool true)) (.s 0)⟩,
     ⟨.push, 54, none, .pick (.s 6) (.s 0) (.c (.bool false))⟩] (.s 0)
   (.seq (.region false [
       ⟨.var 1, 2, none, .mov (.c (.bool false))⟩])
    (.ret))
   (.skip))))))
 (.region false [
   ⟨.push, 55, none, .bin false .add (.v 6) (.c (.int .i64 (1)))⟩,
   ⟨.var 6, 16, none, .mov (.s 0)⟩])))
def ir99_k0 : List Bool := [true, false, false, false, false, true, true, false]
def ir99_o0 : List Bool := [false, false, false, false, false, false, false, false]
def ir99_r0 : List Bool := [false, true, false, false, false, false, false, false]
def ir99_v : List Nat := [0, 2, 3, 4, 5, 15, 16, 17]
def ir99 : AFn := ⟨1, 8, .seq (.region false [
    ⟨.var 1, 2, none, .mov (.c (.bool false))⟩])
 (.seq (.test false [
    ⟨.push, 6, none, .mov (.v 0)⟩,
    ⟨.push, 7, none, .len true (.s 0)⟩,
    ⟨.push, 8, none, .bin false .lss (.s 0) (.c (.int .i64 (1)))⟩,
    ⟨.push, 9, none, .mov (.s 0)⟩,
    ⟨.push, 10, (some ((.s 0), false)), .mov (.v 0)⟩,
    ⟨.push, 11, (some ((.s 1), false)), .len true (.s 0)⟩,
    ⟨.push, 12, (some ((.s 2), false)), .bin false .gtr (.s 0) (.c (.int .i64 (12)))⟩,
    ⟨.push, 13, none, .pick (.s 3) (.c (.bool true)) (.s 0)⟩] (.s 0)
  (.seq (.region false [
      ⟨.var 1, 2, none, .mov (.c (.bool false))⟩])
   (.ret))
  (.skip))
 (.seq (.seq (.region false [
     ⟨.push, 14, none, .mov (.v 0)⟩,
     ⟨.var 5, 15, none, .len true (.s 0)⟩,
     ⟨.var 6, 16, none, .mov (.c (.int .i64 (0)))⟩])
  (.block 0 (.loop ir99_k0 ir99_o0 ir99_r0 ir99_b0)))
 (.seq (.region false [
    ⟨.var 1, 2, none, .mov (.c (.bool true))⟩])
 (.ret)))), [.t 1]⟩
noncomputable def t_impl_IsName : List (Nat × Ctr) := []
noncomputable def c_impl_IsName : Ctr := mkF t_impl_IsName ir99 [.bor]
theorem s_impl_IsName : Sound Try.prog 99 c_impl_IsName := mkF_sound _ rfl snd_nil (by kernel_rfl : chkFn Try.prog 99 ir99 ir99_v = true)
theorem M_impl_IsName : c_impl_IsName.modes = [.bor] := rfl
theorem Fl_impl_IsName : c_impl_IsName.flat = true := rfl
attribute [go_sem] M_impl_IsName Fl_impl_IsName
def E_impl_IsName_l1 (s_ : List UInt8) (t15 : Int) : Int → St
  | t16 => ⟨[.str s_, .any, .any, .any, .any, .int .i64 t15, .int .i64 t16, .any], [], [], true⟩
def R_impl_IsName_l1 (s_ : List UInt8) (t15 : Int) : (Unit ⊕ Bool) → Res
  | .inl y => (.exit 0, ⟨[.any, .any, .any, .any, .any, .any, .any, .any], [], [], true⟩)
  | .inr y => (.ret, ⟨[.any, .bool y, .any, .any, .any, .any, .any, .any], [], [], true⟩)
theorem impl_IsName_l1_ex {s_ : List UInt8} {t15 : Int} {sgm_ : Int} {rho_ : Unit ⊕ Bool} (h : whileE (impl_IsName_l1 s_ t15) sgm_ = some rho_) : ∃ L0, ∀ L, L0 ≤ L → iter (exec (look t_impl_IsName) L ir99_b0) ir99_k0 ir99_o0 ir99_r0 L (E_impl_IsName_l1 s_ t15 sgm_) = R_impl_IsName_l1 s_ t15 rho_ := by
  refine loop_ex (E := E_impl_IsName_l1 s_ t15) (R := R_impl_IsName_l1 s_ t15) (fun y => by first | (intro c; cases c) | (rcases y with y | y <;> (intro c; cases c)) | (rcases y with y | y | y <;> (intro c; cases c))) ?_ h
  clear h
  intro t16 o_ h
  dsimp only [impl_IsName_l1] at h
  rcases it_some h with ⟨hk2, h⟩ | ⟨hk2, h⟩
  · try simp only [go_sem, n1, n2, n3, n4] at hk2
    all_goals
    obtain ⟨hk3, h⟩ := ck_some h
    try simp only [go_sem, n1, n2, n3, n4, hk2] at hk3
    all_goals
    rcases it_some h with ⟨hk4, h⟩ | ⟨hk4, h⟩
    · try simp only [go_sem, n1, n2, n3, n4, hk2, hk3] at hk4
      all_goals
      obtain rfl := so_some h
      refine ⟨0, fun L hL => ?_⟩
      simp only [go_sem, ir99, E_impl_IsName_l1, R_impl_IsName_l1, ir99_b0, ir99_k0, ir99_o0, ir99_r0, hk2, hk3, hk4]
    · try simp only [go_sem, n1, n2, n3, n4, hk2, hk3] at hk4
      all_goals
      obtain rfl := so_some h
      refine ⟨0, fun L hL => ?_⟩
      simp only [go_sem, ir99, E_impl_IsName_l1, R_impl_IsName_l1, ir99_b0, ir99_k0, ir99_o0, ir99_r0, hk2, hk3, hk4]
  · try simp only [go_sem, n1, n2, n3, n4] at hk2
    all_goals
    obtain rfl := so_some h
    refine ⟨0, fun L hL => ?_⟩
    simp only [go_sem, ir99, E_impl_IsName_l1, R_impl_IsName_l1, ir99_b0, ir99_k0, ir99_o0, ir99_r0, hk2]

theorem Fs_impl_IsName {s_ : List UInt8} {y_ : Bool} (h : impl_IsName s_ = some y_) : c_impl_IsName.F [.str s_] = ⟨true, .bool y_, [.any]⟩ := by
  refine mkF_E rfl ?_
  dsimp only [impl_IsName] at h
  rcases it_some h with ⟨hk1, h⟩ | ⟨hk1, h⟩
  · try simp only [go_sem, n1, n2, n3, n4] at hk1
    all_goals
    obtain rfl := so_some h
    refine ⟨0, fun L hL => ?_⟩
    simp only [go_sem, ir99, E_impl_IsName_l1, R_impl_IsName_l1, ir99_k0, ir99_o0, ir99_r0, hk1]
  · try simp only [go_sem, n1, n2, n3, n4] at hk1
    all_goals
    obtain ⟨y_5, hk5, h⟩ := bd_some h
    obtain ⟨Lhk5, ehk5⟩ := impl_IsName_l1_ex hk5
    rcases y_5 with y_5a | y_5b
    · dsimp only at h
      obtain rfl := so_some h
      refine ⟨Lhk5, fun L hL => ?_⟩
      have ehk5 := ehk5 L (by omega)
      try simp only [go_sem, E_impl_IsName_l1, R_impl_IsName_l1, ir99_k0, ir99_o0, ir99_r0, hk1] at ehk5
      simp only [go_sem, ir99, E_impl_IsName_l1, R_impl_IsName_l1, ir99_k0, ir99_o0, ir99_r0, hk1, ehk5]
    · dsimp only at h
      obtain rfl := so_some h
      refine ⟨Lhk5, fun L hL => ?_⟩
      have ehk5 := ehk5 L (by omega)
      try simp only [go_sem, E_impl_IsName_l1, R_impl_IsName_l1, ir99_k0, ir99_o0, ir99_r0, hk1] at ehk5
      simp only [go_sem, ir99, E_impl_IsName_l1, R_impl_IsName_l1, ir99_k0, ir99_o0, ir99_r0, hk1, ehk5]


def ir100_v : List Nat := [0, 2]
def ir100 : AFn := ⟨1, 2, .seq (.region false [
    ⟨.var 1, 2, none, .mov (.c (.bool false))⟩])
 (.seq (.region false [
    ⟨.push, 3, none, .mov (.v 0)⟩,
    ⟨.push, 4, none, .call 46 [(.s 0), (.c (.int .i64 (-2000))), (.c (.int .i64 (20000)))]⟩,
    ⟨.var 1, 2, none, .mov (.s 0)⟩])
 (.ret)), [.t 1]⟩
noncomputable def t_impl_ValidMag : List (Nat × Ctr) := [(46, c_impl_in)]
theorem lk_impl_ValidMag_46 : look t_impl_ValidMag 46 = some c_impl_in := rfl
noncomputable def c_impl_ValidMag : Ctr := mkF t_impl_ValidMag ir100 [.bor]
theorem s_impl_ValidMag : Sound Try.prog 100 c_impl_ValidMag := mkF_sound _ rfl (snd_cons s_impl_in snd_nil) (by kernel_rfl : chkFn Try.prog 100 ir100 ir100_v = true)
theorem M_impl_ValidMag : c_impl_ValidMag.modes = [.bor] := rfl
theorem Fl_impl_ValidMag : c_impl_ValidMag.flat = true := rfl
attribute [go_sem] M_impl_ValidMag Fl_impl_ValidMag
attribute [go_sem] lk_impl_ValidMag_46
theorem Fs_impl_ValidMag {m : Int} {y_ : Bool} (h : impl_ValidMag m = some y_) : c_impl_ValidMag.F [.int .i64 m] = ⟨true, .bool y_, [.any]⟩ := by
  refine mkF_E rfl ?_
  dsimp only [impl_ValidMag] at h
  obtain ⟨y_1, hk1, h⟩ := bd_some h
  have fhk1 := Fs_impl_in hk1
  try simp only [go_sem] at fhk1
  obtain rfl := so_some h
  refine ⟨0, fun L hL => ?_⟩
  simp only [go_sem, ir100, fhk1]


def ir67_v : List Nat := [0, 1, 2]
def ir67 : AFn := ⟨1, 3, .seq (.region false [
    ⟨.var 1, 1, none, .box (.v 0)⟩,
    ⟨.var 2, 2, none, .mov (.c (.bool false))⟩])
 (.seq (.region false [
    ⟨.push, 3, none, .fldAddr 0 (.v 1)⟩,
    ⟨.push, 4, none, .load false 1 (.s 0)⟩,
    ⟨.push, 5, none, .call 98 [(.s 0)]⟩,
    ⟨.push, 6, none, .mov (.s 0)⟩,
    ⟨.push, 7, (some ((.s 0), true)), .fldAddr 1 (.v 1)⟩,
    ⟨.push, 8, (some ((.s 1), true)), .load false 1 (.s 0)⟩,
    ⟨.push, 9, (some ((.s 2), true)), .call 99 [(.s 0)]⟩,
    ⟨.push, 10, none, .pick (.s 3) (.s 0) (.c (.bool false))⟩,
    ⟨.push, 11, none, .mov (.s 0)⟩,
    ⟨.push, 12, (some ((.s 0), true)), .fldAddr 2 (.v 1)⟩,
    ⟨.push, 13, (some ((.s 1), true)), .load false 1 (.s 0)⟩,
    ⟨.push, 14, (some ((.s 2), true)), .call 99 [(.s 0)]⟩,
    ⟨.push, 15, none, .pick (.s 3) (.s 0) (.c (.bool false))⟩,
    ⟨.push, 16, none, .mov (.s 0)⟩,
    ⟨.push, 17, (some ((.s 0), true)), .fldAddr 3 (.v 1)⟩,
    ⟨.push, 18, (some ((.s 1), true)), .load false 1 (.s 0)⟩,
    ⟨.push, 19, (some ((.s 2), true)), .call 100 [(.s 0)]⟩,
    ⟨.push, 20, none, .pick (.s 3) (.s 0) (.c (.bool false))⟩,
    ⟨.var 2, 2, none, .mov (.s 0)⟩])
 (.ret)), [.t 2]⟩
noncomputable def t_impl_isEstimate : List (Nat × Ctr) := [(98, c_impl_ValidTime), (99, c_impl_IsName), (100, c_impl_ValidMag)]
theorem lk_impl_isEstimate_98 : look t_impl_isEstimate 98 = some c_impl_ValidTime := rfl
theorem lk_impl_isEstimate_99 : look t_impl_isEstimate 99 = some c_impl_IsName := rfl
theorem lk_impl_isEstimate_100 : look t_impl_isEstimate 100 = some c_impl_ValidMag := rfl
noncomputable def c_impl_isEstimate : Ctr := mkF t_impl_isEstimate ir67 [.bor]
theorem s_impl_isEstimate : Sound Try.prog 67 c_impl_isEstimate := mkF_sound _ rfl (snd_cons s_impl_ValidTime (snd_cons s_impl_IsName (snd_cons s_impl_ValidMag snd_nil))) (by kernel_rfl : chkFn Try.prog 67 ir67 ir67_v = true)
theorem M_impl_isEstimate : c_impl_isEstimate.modes = [.bor] := rfl
theorem Fl_impl_isEstimate : c_impl_isEstimate.flat = true := rfl
attribute [go_sem] M_impl_isEstimate Fl_impl_isEstimate
attribute [go_sem] lk_impl_isEstimate_98 lk_impl_isEstimate_99 lk_impl_isEstimate_100
theorem Fs_impl_isEstimate {e_ : Estimate} {y_ : Bool} (h : impl_isEstimate e_ = some y_) : c_impl_isEstimate.F [Estimate_av e_] = ⟨true, .bool y_, [.any]⟩ := by
  refine mkF_E rfl ?_
  dsimp only [impl_isEstimate] at h
  obtain ⟨y_1, hk1, h⟩ := bd_some h
  have fhk1 := Fs_impl_ValidTime hk1
  try simp only [go_sem] at fhk1
  obtain ⟨hk2, h⟩ := ck_some h
  rcases or_split hk2 with ⟨ghk2, hk2⟩ | ghk2
  · try simp only [go_sem, n1, n2, n3, n4] at ghk2
    all_goals
    obtain ⟨y_2, hhk2⟩ := Option.isSome_iff_exists.1 hk2
    have fhk2 := Fs_impl_IsName hhk2
    try simp only [go_sem, ghk2] at fhk2
    obtain ⟨hk3, h⟩ := ck_some h
    rcases or_split hk3 with ⟨ghk3, hk3⟩ | ghk3
    · try simp only [go_sem, n1, n2, n3, n4, ghk2, hhk2] at ghk3
      all_goals
      obtain ⟨y_3, hhk3⟩ := Option.isSome_iff_exists.1 hk3
      have fhk3 := Fs_impl_IsName hhk3
      try simp only [go_sem, ghk2, hhk2, ghk3] at fhk3
      obtain ⟨hk4, h⟩ := ck_some h
      rcases or_split hk4 with ⟨ghk4, hk4⟩ | ghk4
      · try simp only [go_sem, n1, n2, n3, n4, ghk2, hhk2, ghk3, hhk3] at ghk4
        all_goals
        obtain ⟨y_4, hhk4⟩ := Option.isSome_iff_exists.1 hk4
        have fhk4 := Fs_impl_ValidMag hhk4
        try simp only [go_sem, ghk2, hhk2, ghk3, hhk3, ghk4] at fhk4
        obtain rfl := so_some h
        refine ⟨0, fun L hL => ?_⟩
        simp only [go_sem, ir67, fhk1, ghk2, hhk2, fhk2, ghk3, hhk3, fhk3, ghk4, hhk4, fhk4]
      · rcases and_f ghk4 with ghk4a | ⟨ghk4a, ghk4b⟩
        · rcases and_f ghk4a with ghk4aa | ⟨ghk4aa, ghk4ab⟩
          · try simp only [go_sem, n1, n2, n3, n4, ghk2, hhk2, ghk3, hhk3] at ghk4aa
            all_goals
            obtain rfl := so_some h
            refine ⟨0, fun L hL => ?_⟩
            simp only [go_sem, ir67, fhk1, ghk2, hhk2, fhk2, ghk3, hhk3, fhk3, ghk4aa]
          · try simp only [go_sem, n1, n2, n3, n4, ghk2, hhk2, ghk3, hhk3] at ghk4aa
            all_goals
            try simp only [go_sem, n1, n2, n3, n4, ghk2, hhk2, ghk3, hhk3, ghk4aa] at ghk4ab
            all_goals
            obtain rfl := so_some h
            refine ⟨0, fun L hL => ?_⟩
            simp only [go_sem, ir67, fhk1, ghk2, hhk2, fhk2, ghk3, hhk3, fhk3, ghk4aa, ghk4ab]
        · obtain ⟨ghk4aa, ghk4ab⟩ := and_t ghk4a
          try simp only [go_sem, n1, n2, n3, n4, ghk2, hhk2, ghk3, hhk3] at ghk4aa
          all_goals
          try simp only [go_sem, n1, n2, n3, n4, ghk2, hhk2, ghk3, hhk3, ghk4aa] at ghk4ab
          all_goals
          try simp only [go_sem, n1, n2, n3, n4, ghk2, hhk2, ghk3, hhk3, ghk4aa, ghk4ab] at ghk4b
          all_goals
          obtain rfl := so_some h
          refine ⟨0, fun L hL => ?_⟩
          simp only [go_sem, ir67, fhk1, ghk2, hhk2, fhk2, ghk3, hhk3, fhk3, ghk4aa, ghk4ab, ghk4b]
    · rcases and_f ghk3 with ghk3a | ⟨ghk3a, ghk3b⟩
      · try simp only [go_sem, n1, n2, n3, n4, ghk2, hhk2] at ghk3a
        all_goals
        obtain ⟨hk4, h⟩ := ck_some h
        rcases or_split hk4 with ⟨ghk4, hk4⟩ | ghk4
        · try simp only [go_sem, n1, n2, n3, n4, ghk2, hhk2, ghk3a] at ghk4
          all_goals
          obtain ⟨y_4, hhk4⟩ := Option.isSome_iff_exists.1 hk4
          have fhk4 := Fs_impl_ValidMag hhk4
          try simp only [go_sem, ghk2, hhk2, ghk3a, ghk4] at fhk4
          obtain rfl := so_some h
          refine ⟨0, fun L hL => ?_⟩
          simp only [go_sem, ir67, fhk1, ghk2, hhk2, fhk2, ghk3a, ghk4, hhk4, fhk4]
        · rcases and_f ghk4 with ghk4a | ⟨ghk4a, ghk4b⟩
          · rcases and_f ghk4a with ghk4aa | ⟨ghk4aa, ghk4ab⟩
            · try simp only [go_sem, n1, n2, n3, n4, ghk2, hhk2, ghk3a] at ghk4aa
              all_goals
              obtain rfl := so_some h
              refine ⟨0, fun L hL => ?_⟩
              simp only [go_sem, ir67, fhk1, ghk2, hhk2, fhk2, ghk3a, ghk4aa]
            · try simp only [go_sem, n1, n2, n3, n4, ghk2, hhk2, ghk3a] at ghk4aa
              all_goals
              try simp only [go_sem, n1, n2, n3, n4, ghk2, hhk2, ghk3a, ghk4aa] at ghk4ab
              all_goals
              obtain rfl := so_some h
              refine ⟨0, fun L hL => ?_⟩
              simp only [go_sem, ir67, fhk1, ghk2, hhk2, fhk2, ghk3a, ghk4aa, ghk4ab]
          · obtain ⟨ghk4aa, ghk4ab⟩ := and_t ghk4a
            try simp only [go_sem, n1, n2, n3, n4, ghk2, hhk2, ghk3a] at ghk4aa
            all_goals
            try simp only [go_sem, n1, n2, n3, n4, ghk2, hhk2, ghk3a, ghk4aa] at ghk4ab
            all_goals
            try simp only [go_sem, n1, n2, n3, n4, ghk2, hhk2, ghk3a, ghk4aa, ghk4ab] at ghk4b
            all_goals
            obtain rfl := so_some h
            refine ⟨0, fun L hL => ?_⟩
            simp only [go_sem, ir67, fhk1, ghk2, hhk2, fhk2, ghk3a, ghk4aa, ghk4ab, ghk4b]
      · try simp only [go_sem, n1, n2, n3, n4, ghk2, hhk2] at ghk3a
        all_goals
        try simp only [go_sem, n1, n2, n3, n4, ghk2, hhk2, ghk3a] at ghk3b
        all_goals
        obtain ⟨hk4, h⟩ := ck_some h
        rcases or_split hk4 with ⟨ghk4, hk4⟩ | ghk4
        · try simp only [go_sem, n1, n2, n3, n4, ghk2, hhk2, ghk3a, ghk3b] at ghk4
          all_goals
          obtain ⟨y_4, hhk4⟩ := Option.isSome_iff_exists.1 hk4
          have fhk4 := Fs_impl_ValidMag hhk4
          try simp only [go_sem, ghk2, hhk2, ghk3a, ghk3b, ghk4] at fhk4
          obtain rfl := so_some h
          refine ⟨0, fun L hL => ?_⟩
          simp only [go_sem, ir67, fhk1, ghk2, hhk2, fhk2, ghk3a, ghk3b, ghk4, hhk4, fhk4]
        · rcases and_f ghk4 with ghk4a | ⟨ghk4a, ghk4b⟩
          · rcases and_f ghk4a with ghk4aa | ⟨ghk4aa, ghk4ab⟩
            · try simp only [go_sem, n1, n2, n3, n4, ghk2, hhk2, ghk3a, ghk3b] at ghk4aa
              all_goals
              obtain rfl := so_some h
              refine ⟨0, fun L hL => ?_⟩
              simp only [go_sem, ir67, fhk1, ghk2, hhk2, fhk2, ghk3a, ghk3b, ghk4aa]
            · try simp only [go_sem, n1, n2, n3, n4, ghk2, hhk2, ghk3a, ghk3b] at ghk4aa
              all_goals
              try simp only [go_sem, n1, n2, n3, n4, ghk2, hhk2, ghk3a, ghk3b, ghk4aa] at ghk4ab
              all_goals
              obtain rfl := so_some h
              refine ⟨0, fun L hL => ?_⟩
              simp only [go_sem, ir67, fhk1, ghk2, hhk2, fhk2, ghk3a, ghk3b, ghk4aa, ghk4ab]
          · obtain ⟨ghk4aa, ghk4ab⟩ := and_t ghk4a
            try simp only [go_sem, n1, n2, n3, n4, ghk2, hhk2, ghk3a, ghk3b] at ghk4aa
            all_goals
            try simp only [go_sem, n1, n2, n3, n4, ghk2, hhk2, ghk3a, ghk3b, ghk4aa] at ghk4ab
            all_goals
            try simp only [go_sem, n1, n2, n3, n4, ghk2, hhk2, ghk3a, ghk3b, ghk4aa, ghk4ab] at ghk4b
            all_goals
            obtain rfl := so_some h
            refine ⟨0, fun L hL => ?_⟩
            simp only [go_sem, ir67, fhk1, ghk2, hhk2, fhk2, ghk3a, ghk3b, ghk4aa, ghk4ab, ghk4b]
  · try simp only [go_sem, n1, n2, n3, n4] at ghk2
    all_goals
    obtain ⟨hk3, h⟩ := ck_some h
    rcases or_split hk3 with ⟨ghk3, hk3⟩ | ghk3
    · try simp only [go_sem, n1, n2, n3, n4, ghk2] at ghk3
      all_goals
      obtain ⟨y_3, hhk3⟩ := Option.isSome_iff_exists.1 hk3
      have fhk3 := Fs_impl_IsName hhk3
      try simp only [go_sem, ghk2, ghk3] at fhk3
      obtain ⟨hk4, h⟩ := ck_some h
      rcases or_split hk4 with ⟨ghk4, hk4⟩ | ghk4
      · try simp only [go_sem, n1, n2, n3, n4, ghk2, ghk3, hhk3] at ghk4
        all_goals
        obtain ⟨y_4, hhk4⟩ := Option.isSome_iff_exists.1 hk4
        have fhk4 := Fs_impl_ValidMag hhk4
        try simp only [go_sem, ghk2, ghk3, hhk3, ghk4] at fhk4
        obtain rfl := so_some h
        refine ⟨0, fun L hL => ?_⟩
        simp only [go_sem, ir67, fhk1, ghk2, ghk3, hhk3, fhk3, ghk4, hhk4, fhk4]
      · rcases and_f ghk4 with ghk4a | ⟨ghk4a, ghk4b⟩
        · rcases and_f ghk4a with ghk4aa | ⟨ghk4aa, ghk4ab⟩
          · try simp only [go_sem, n1, n2, n3, n4, ghk2, ghk3, hhk3] at ghk4aa
            all_goals
            obtain rfl := so_some h
            refine ⟨0, fun L hL => ?_⟩
            simp only [go_sem, ir67, fhk1, ghk2, ghk3, hhk3, fhk3, ghk4aa]
          · try simp only [go_sem, n1, n2, n3, n4, ghk2, ghk3, hhk3] at ghk4aa
            all_goals
            try simp only [go_sem, n1, n2, n3, n4, ghk2, ghk3, hhk3, ghk4aa] at ghk4ab
            all_goals
            obtain rfl := so_some h
            refine ⟨0, fun L hL => ?_⟩
            simp only [go_sem, ir67, fhk1, ghk2, ghk3, hhk3, fhk3, ghk4aa, ghk4ab]
        · obtain ⟨ghk4aa, ghk4ab⟩ := and_t ghk4a
          try simp only [go_sem, n1, n2, n3, n4, ghk2, ghk3, hhk3] at ghk4aa
          all_goals
          try simp only [go_sem, n1, n2, n3, n4, ghk2, ghk3, hhk3, ghk4aa] at ghk4ab
          all_goals
          try simp only [go_sem, n1, n2, n3, n4, ghk2, ghk3, hhk3, ghk4aa, ghk4ab] at ghk4b
          all_goals
          obtain rfl := so_some h
          refine ⟨0, fun L hL => ?_⟩
          simp only [go_sem, ir67, fhk1, ghk2, ghk3, hhk3, fhk3, ghk4aa, ghk4ab, ghk4b]
    · rcases and_f ghk3 with ghk3a | ⟨ghk3a, ghk3b⟩
      · try simp only [go_sem, n1, n2, n3, n4, ghk2] at ghk3a
        all_goals
        obtain ⟨hk4, h⟩ := ck_some h
        rcases or_split hk4 with ⟨ghk4, hk4⟩ | ghk4
        · try simp only [go_sem, n1, n2, n3, n4, ghk2, ghk3a] at ghk4
          all_goals
          obtain ⟨y_4, hhk4⟩ := Option.isSome_iff_exists.1 hk4
          have fhk4 := Fs_impl_ValidMag hhk4
          try simp only [go_sem, ghk2, ghk3a, ghk4] at fhk4
          obtain rfl := so_some h
          refine ⟨0, fun L hL => ?_⟩
          simp only [go_sem, ir67, fhk1, ghk2, ghk3a, ghk4, hhk4, fhk4]
        · rcases and_f ghk4 with ghk4a | ⟨ghk4a, ghk4b⟩
          · rcases and_f ghk4a with ghk4aa | ⟨ghk4aa, ghk4ab⟩
            · try simp only [go_sem, n1, n2, n3, n4, ghk2, ghk3a] at ghk4aa
              all_goals
              obtain rfl := so_some h
              refine ⟨0, fun L hL => ?_⟩
              simp only [go_sem, ir67, fhk1, ghk2, ghk3a, ghk4aa]
            · try simp only [go_sem, n1, n2, n3, n4, ghk2, ghk3a] at ghk4aa
              all_goals
              try simp only [go_sem, n1, n2, n3, n4, ghk2, ghk3a, ghk4aa] at ghk4ab
              all_goals
              obtain rfl := so_some h
              refine ⟨0, fun L hL => ?_⟩
              simp only [go_sem, ir67, fhk1, ghk2, ghk3a, ghk4aa, ghk4ab]
          · obtain ⟨ghk4aa, ghk4ab⟩ := and_t ghk4a
            try simp only [go_sem, n1, n2, n3, n4, ghk2, ghk3a] at ghk4aa
            all_goals
            try simp only [go_sem, n1, n2, n3, n4, ghk2, ghk3a, ghk4aa] at ghk4ab
            all_goals
            try simp only [go_sem, n1, n2, n3, n4, ghk2, ghk3a, ghk4aa, ghk4ab] at ghk4b
            all_goals
            obtain rfl := so_some h
            refine ⟨0, fun L hL => ?_⟩
            simp only [go_sem, ir67, fhk1, ghk2, ghk3a, ghk4aa, ghk4ab, ghk4b]
      · try simp only [go_sem, n1, n2, n3, n4, ghk2] at ghk3a
        all_goals
        try simp only [go_sem, n1, n2, n3, n4, ghk2, ghk3a] at ghk3b
        all_goals
        obtain ⟨hk4, h⟩ := ck_some h
        rcases or_split hk4 with ⟨ghk4, hk4⟩ | ghk4
        · try simp only [go_sem, n1, n2, n3, n4, ghk2, ghk3a, ghk3b] at ghk4
          all_goals
          obtain ⟨y_4, hhk4⟩ := Option.isSome_iff_exists.1 hk4
          have fhk4 := Fs_impl_ValidMag hhk4
          try simp only [go_sem, ghk2, ghk3a, ghk3b, ghk4] at fhk4
          obtain rfl := so_some h
          refine ⟨0, fun L hL => ?_⟩
          simp only [go_sem, ir67, fhk1, ghk2, ghk3a, ghk3b, ghk4, hhk4, fhk4]
        · rcases and_f ghk4 with ghk4a | ⟨ghk4a, ghk4b⟩
          · rcases and_f ghk4a with ghk4aa | ⟨ghk4aa, ghk4ab⟩
            · try simp only [go_sem, n1, n2, n3, n4, ghk2, ghk3a, ghk3b] at ghk4aa
              all_goals
              obtain rfl := so_some h
              refine ⟨0, fun L hL => ?_⟩
              simp only [go_sem, ir67, fhk1, ghk2, ghk3a, ghk3b, ghk4aa]
            · try simp only [go_sem, n1, n2, n3, n4, ghk2, ghk3a, ghk3b] at ghk4aa
              all_goals
              try simp only [go_sem, n1, n2, n3, n4, ghk2, ghk3a, ghk3b, ghk4aa] at ghk4ab
              all_goals
              obtain rfl := so_some h
              refine ⟨0, fun L hL => ?_⟩
              simp only [go_sem, ir67, fhk1, ghk2, ghk3a, ghk3b, ghk4aa, ghk4ab]
          · obtain ⟨ghk4aa, ghk4ab⟩ := and_t ghk4a
            try simp only [go_sem, n1, n2, n3, n4, ghk2, ghk3a, ghk3b] at ghk4aa
            all_goals
            try simp only [go_sem, n1, n2, n3, n4, ghk2, ghk3a, ghk3b, ghk4aa] at ghk4ab
            all_goals
            try simp only [go_sem, n1, n2, n3, n4, ghk2, ghk3a, ghk3b, ghk4aa, ghk4ab] at ghk4b
            all_goals
            obtain rfl := so_some h
            refine ⟨0, fun L hL => ?_⟩
            simp only [go_sem, ir67, fhk1, ghk2, ghk3a, ghk3b, ghk4aa, ghk4ab, ghk4b]


def ir117_v : List Nat := [0, 2]
def ir117 : AFn := ⟨1, 2, .seq (.region false [
    ⟨.var 1, 2, none, .mov (.c (.bool false))⟩])
 (.seq (.region false [
    ⟨.push, 3, none, .mov (.v 0)⟩,
    ⟨.push, 4, none, .mov (.v 0)⟩,
    ⟨.push, 5, none, .bin false .neq (.s 1) (.s 0)⟩,
    ⟨.var 1, 2, none, .mov (.s 0)⟩])
 (.ret)), [.t 1]⟩
noncomputable def t_cmp_isNaN_int64 : List (Nat × Ctr) := []
noncomputable def c_cmp_isNaN_int64 : Ctr := mkF t_cmp_isNaN_int64 ir117 [.bor]
theorem s_cmp_isNaN_int64 : Sound Try.prog 117 c_cmp_isNaN_int64 := mkF_sound _ rfl snd_nil (by kernel_rfl : chkFn Try.prog 117 ir117 ir117_v = true)
theorem M_cmp_isNaN_int64 : c_cmp_isNaN_int64.modes = [.bor] := rfl
theorem Fl_cmp_isNaN_int64 : c_cmp_isNaN_int64.flat = true := rfl
attribute [go_sem] M_cmp_isNaN_int64 Fl_cmp_isNaN_int64
theorem Fs_cmp_isNaN_int64 {x : Int} {y_ : Bool} (h : cmp_isNaN_int64 x = some y_) : c_cmp_isNaN_int64.F [.int .i64 x] = ⟨true, .bool y_, [.any]⟩ := by
  refine mkF_E rfl ?_
  dsimp only [cmp_isNaN_int64] at h
  obtain rfl := so_some h
  refine ⟨0, fun L hL => ?_⟩
  simp only [go_sem, ir117]


def ir102_v : List Nat := [0, 1, 4, 5, 6]
def ir102 : AFn := ⟨2, 5, .seq (.region false [
    ⟨.var 2, 4, none, .mov (.c (.int .i64 (0)))⟩])
 (.seq (.region false [
    ⟨.push, 7, none, .mov (.v 0)⟩,
    ⟨.push, 8, none, .call 117 [(.s 0)]⟩,
    ⟨.var 3, 5, none, .mov (.s 0)⟩])
 (.seq (.region false [
    ⟨.push, 9, none, .mov (.v 1)⟩,
    ⟨.push, 10, none, .call 117 [(.s 0)]⟩,
    ⟨.var 4, 6, none, .mov (.s 0)⟩])
 (.seq (.test false [
    ⟨.push, 11, none, .mov (.v 3)⟩] (.s 0)
  (.seq (.test false [
      ⟨.push, 12, none, .mov (.v 4)⟩] (.s 0)
    (.seq (.region false [
        ⟨.var 2, 4, none, .mov (.c (.int .i64 (0)))⟩])
     (.ret))
    (.skip))
   (.seq (.region false [
      ⟨.var 2, 4, none, .mov (.c (.int .i64 (-1)))⟩])
   (.ret)))
  (.skip))
 (.seq (.test false [
    ⟨.push, 13, none, .mov (.v 4)⟩] (.s 0)
  (.seq (.region false [
      ⟨.var 2, 4, none, .mov (.c (.int .i64 (1)))⟩])
   (.ret))
  (.skip))
 (.seq (.test false [
    ⟨.push, 14, none, .mov (.v 0)⟩,
    ⟨.push, 15, none, .mov (.v 1)⟩,
    ⟨.push, 16, none, .bin false .lss (.s 1) (.s 0)⟩] (.s 0)
  (.seq (.region false [
      ⟨.var 2, 4, none, .mov (.c (.int .i64 (-1)))⟩])
   (.ret))
  (.skip))
 (.seq (.test false [
    ⟨.push, 17, none, .mov (.v 0)⟩,
    ⟨.push, 18, none, .mov (.v 1)⟩,
    ⟨.push, 19, none, .bin false .gtr (.s 1) (.s 0)⟩] (.s 0)
  (.seq (.region false [
      ⟨.var 2, 4, none, .mov (.c (.int .i64 (1)))⟩])
   (.ret))
  (.skip))
 (.seq (.region false [
    ⟨.var 2, 4, none, .mov (.c (.int .i64 (0)))⟩])
 (.ret)))))))), [.t 2]⟩
noncomputable def t_cmp_Compare_int64 : List (Nat × Ctr) := [(117, c_cmp_isNaN_int64)]
theorem lk_cmp_Compare_int64_117 : look t_cmp_Compare_int64 117 = some c_cmp_isNaN_int64 := rfl
noncomputable def c_cmp_Compare_int64 : Ctr := mkF t_cmp_Compare_int64 ir102 [.bor, .bor]
theorem s_cmp_Compare_int64 : Sound Try.prog 102 c_cmp_Compare_int64 := mkF_sound _ rfl (snd_cons s_cmp_isNaN_int64 snd_nil) (by kernel_rfl : chkFn Try.prog 102 ir102 ir102_v = true)
theorem M_cmp_Compare_int64 : c_cmp_Compare_int64.modes = [.bor, .bor] := rfl
theorem Fl_cmp_Compare_int64 : c_cmp_Compare_int64.flat = true := rfl
attribute [go_sem] M_cmp_Compare_int64 Fl_cmp_Compare_int64
attribute [go_sem] lk_cmp_Compare_int64_117
theorem Fs_cmp_Compare_int64 {x : Int} {y : Int} {y_ : Int} (h : cmp_Compare_int64 x y = some y_) : c_cmp_Compare_int64.F [.int .i64 x, .int .i64 y] = ⟨true, .int .i64 y_, [.any, .any]⟩ := by
  refine mkF_E rfl ?_
  dsimp only [cmp_Compare_int64] at h
  obtain ⟨y_1, hk1, h⟩ := bd_some h
  have fhk1 := Fs_cmp_isNaN_int64 hk1
  try simp only [go_sem] at fhk1
  obtain ⟨y_2, hk2, h⟩ := bd_some h
  have fhk2 := Fs_cmp_isNaN_int64 hk2
  try simp only [go_sem] at fhk2
  rcases it_some h with ⟨hk3, h⟩ | ⟨hk3, h⟩
  · try simp only [go_sem, n1, n2, n3, n4] at hk3
    all_goals
    rcases it_some h with ⟨hk4, h⟩ | ⟨hk4, h⟩
    · try simp only [go_sem, n1, n2, n3, n4, hk3] at hk4
      all_goals
      obtain rfl := so_some h
      refine ⟨0, fun L hL => ?_⟩
      simp only [go_sem, ir102, fhk1, fhk2, hk3, hk4]
    · try simp only [go_sem, n1, n2, n3, n4, hk3] at hk4
      all_goals
      obtain rfl := so_some h
      refine ⟨0, fun L hL => ?_⟩
      simp only [go_sem, ir102, fhk1, fhk2, hk3, hk4]
  · try simp only [go_sem, n1, n2, n3, n4] at hk3
    all_goals
    rcases it_some h with ⟨hk5, h⟩ | ⟨hk5, h⟩
    · try simp only [go_sem, n1, n2, n3, n4, hk3] at hk5
      all_goals
      obtain rfl := so_some h
      refine ⟨0, fun L hL => ?_⟩
      simp only [go_sem, ir102, fhk1, fhk2, hk3, hk5]
    · try simp only [go_sem, n1, n2, n3, n4, hk3] at hk5
      all_goals
      rcases it_some h with ⟨hk6, h⟩ | ⟨hk6, h⟩
      · try simp only [go_sem, n1, n2, n3, n4, hk3, hk5] at hk6
        all_goals
        obtain rfl := so_some h
        refine ⟨0, fun L hL => ?_⟩
        simp only [go_sem, ir102, fhk1, fhk2, hk3, hk5, hk6]
      · try simp only [go_sem, n1, n2, n3, n4, hk3, hk5] at hk6
        all_goals
        rcases it_some h with ⟨hk7, h⟩ | ⟨hk7, h⟩
        · try simp only [go_sem, n1, n2, n3, n4, hk3, hk5, hk6] at hk7
          all_goals
          obtain rfl := so_some h
          refine ⟨0, fun L hL => ?_⟩
          simp only [go_sem, ir102, fhk1, fhk2, hk3, hk5, hk6, hk7]
        · try simp only [go_sem, n1, n2, n3, n4, hk3, hk5, hk6] at hk7
          all_goals
          obtain rfl := so_some h
          refine ⟨0, fun L hL => ?_⟩
          simp only [go_sem, ir102, fhk1, fhk2, hk3, hk5, hk6, hk7]


theorem s_hCmp : Sound Try.prog 124 c_hCmp := hCmp_sound Try.func124 (by kernel_rfl) (by kernel_rfl) (by kernel_rfl) (by kernel_rfl)

def ir118_v : List Nat := [0, 1, 4]
def ir118 : AFn := ⟨2, 3, .seq (.region false [
    ⟨.var 2, 4, none, .mov (.c (.int .i64 (0)))⟩])
 (.seq (.region false [
    ⟨.push, 5, none, .mov (.v 0)⟩,
    ⟨.push, 6, none, .mov (.v 1)⟩,
    ⟨.push, 7, none, .call 124 [(.s 1), (.s 0)]⟩,
    ⟨.var 2, 4, none, .mov (.s 0)⟩])
 (.ret)), [.t 2]⟩
noncomputable def t_internal_bytealg_CompareString : List (Nat × Ctr) := [(124, c_hCmp)]
theorem lk_internal_bytealg_CompareString_124 : look t_internal_bytealg_CompareString 124 = some c_hCmp := rfl
noncomputable def c_internal_bytealg_CompareString : Ctr := mkF t_internal_bytealg_CompareString ir118 [.bor, .bor]
theorem s_internal_bytealg_CompareString : Sound Try.prog 118 c_internal_bytealg_CompareString := mkF_sound _ rfl (snd_cons s_hCmp snd_nil) (by kernel_rfl : chkFn Try.prog 118 ir118 ir118_v = true)
theorem M_internal_bytealg_CompareString : c_internal_bytealg_CompareString.modes = [.bor, .bor] := rfl
theorem Fl_internal_bytealg_CompareString : c_internal_bytealg_CompareString.flat = true := rfl
attribute [go_sem] M_internal_bytealg_CompareString Fl_internal_bytealg_CompareString
attribute [go_sem] lk_internal_bytealg_CompareString_124
theorem Fs_internal_bytealg_CompareString {a : List UInt8} {b : List UInt8} {y_ : Int} (h : internal_bytealg_CompareString a b = some y_) : c_internal_bytealg_CompareString.F [.str a, .str b] = ⟨true, .int .i64 y_, [.any, .any]⟩ := by
  refine mkF_E rfl ?_
  dsimp only [internal_bytealg_CompareString] at h
  obtain ⟨y_1, hk1, h⟩ := bd_some h
  have fhk1 := Fs_hCmp hk1
  try simp only [go_sem] at fhk1
  obtain rfl := so_some h
  refine ⟨0, fun L hL => ?_⟩
  simp only [go_sem, ir118, fhk1]


def ir103_v : List Nat := [0, 1, 4]
def ir103 : AFn := ⟨2, 3, .seq (.region false [
    ⟨.var 2, 4, none, .mov (.c (.int .i64 (0)))⟩])
 (.seq (.region false [
    ⟨.push, 5, none, .mov (.v 0)⟩,
    ⟨.push, 6, none, .mov (.v 1)⟩,
    ⟨.push, 7, none, .call 118 [(.s 1), (.s 0)]⟩,
    ⟨.var 2, 4, none, .mov (.s 0)⟩])
 (.ret)), [.t 2]⟩
noncomputable def t_strings_Compare : List (Nat × Ctr) := [(118, c_internal_bytealg_CompareString)]
theorem lk_strings_Compare_118 : look t_strings_Compare 118 = some c_internal_bytealg_CompareString := rfl
noncomputable def c_strings_Compare : Ctr := mkF t_strings_Compare ir103 [.bor, .bor]
theorem s_strings_Compare : Sound Try.prog 103 c_strings_Compare := mkF_sound _ rfl (snd_cons s_internal_bytealg_CompareString snd_nil) (by kernel_rfl : chkFn Try.prog 103 ir103 ir103_v = true)
theorem M_strings_Compare : c_strings_Compare.modes = [.bor, .bor] := rfl
theorem Fl_strings_Compare : c_strings_Compare.flat = true := rfl
attribute [go_sem] M_strings_Compare Fl_strings_Compare
attribute [go_sem] lk_strings_Compare_118
theorem Fs_strings_Compare {a : List UInt8} {b : List UInt8} {y_ : Int} (h : strings_Compare a b = some y_) : c_strings_Compare.F [.str a, .str b] = ⟨true, .int .i64 y_, [.any, .any]⟩ := by
  refine mkF_E rfl ?_
  dsimp only [strings_Compare] at h
  obtain ⟨y_1, hk1, h⟩ := bd_some h
  have fhk1 := Fs_internal_bytealg_CompareString hk1
  try simp only [go_sem] at fhk1
  obtain rfl := so_some h
  refine ⟨0, fun L hL => ?_⟩
  simp only [go_sem, ir103, fhk1]


def ir101_b0 : IR := .seq (.region false [
    ⟨.var 7, 9, none, .bin false .lss (.v 6) (.v 5)⟩])
 (.seq (.cond (.v 7) (.skip)
  (.exit 0))
 (.seq (.block 1 (.seq (.region false [
      ⟨.push, 10, none, .ixAddr 1 (.v 4) (.v 6)⟩,
      ⟨.push, 11, none, .load false 1 (.s 0)⟩,
      ⟨.var 3, 5, none, .mov (.s 0)⟩])
   (.test false [
     ⟨.push, 12, none, .mov (.v 3)⟩,
     ⟨.push, 13, none, .mov (.v 2)⟩,
     ⟨.push, 14, none, .bin false .neq (.s 1) (.s 0)⟩] (.s 0)
   (.seq (.region false [
       ⟨.push, 15, none, .mov (.v 3)⟩,
       ⟨.var 1, 2, none, .mov (.s 0)⟩])
    (.ret))
   (.skip))))
 (.region false [
   ⟨.push, 16, none, .bin false .add (.v 6) (.c (.int .i64 (1)))⟩,
   ⟨.var 6, 8, none, .mov (.s 0)⟩])))
def ir101_k0 : List Bool := [false, false, true, false, true, true, true, false]
def ir101_o0 : List Bool := [false, false, true, false, false, false, false, false]
def ir101_r0 : List Bool := [false, true, false, false, false, false, false, false]
def ir101_v : List Nat := [0, 2, 3, 5, 6, 7, 8, 9]
def ir101 : AFn := ⟨1, 8, .seq (.region false [
    ⟨.var 1, 2, none, .mov (.c (.int .i64 (0)))⟩])
 (.seq (.region false [
    ⟨.var 2, 3, none, .mov (.c (.int .i64 (0)))⟩])
 (.seq (.seq (.region false [
     ⟨.var 4, 6, none, .mov (.v 0)⟩,
     ⟨.var 5, 7, none, .len false (.v 4)⟩,
     ⟨.var 6, 8, none, .mov (.c (.int .i64 (0)))⟩])
  (.block 0 (.loop ir101_k0 ir101_o0 ir101_r0 ir101_b0)))
 (.seq (.region false [
    ⟨.push, 17, none, .mov (.v 2)⟩,
    ⟨.var 1, 2, none, .mov (.s 0)⟩])
 (.ret)))), [.t 1]⟩
noncomputable def t_cmp_Or_int : List (Nat × Ctr) := []
noncomputable def c_cmp_Or_int : Ctr := mkF t_cmp_Or_int ir101 [.bor]
theorem s_cmp_Or_int : Sound Try.prog 101 c_cmp_Or_int := mkF_sound _ rfl snd_nil (by kernel_rfl : chkFn Try.prog 101 ir101 ir101_v = true)
theorem M_cmp_Or_int : c_cmp_Or_int.modes = [.bor] := rfl
theorem Fl_cmp_Or_int : c_cmp_Or_int.flat = true := rfl
attribute [go_sem] M_cmp_Or_int Fl_cmp_Or_int
def E_cmp_Or_int_l1 (zero : Int) (t6 : List Int) (t7 : Int) : Int → St
  | t8 => ⟨[.any, .any, .int .i64 zero, .any, .sl 1 (List.map (AV.int .i64) t6), .int .i64 t7, .int .i64 t8, .any], [], [], true⟩
def R_cmp_Or_int_l1 (zero : Int) (t6 : List Int) (t7 : Int) : (Unit ⊕ Int) → Res
  | .inl y => (.exit 0, ⟨[.any, .any, .int .i64 zero, .any, .any, .any, .any, .any], [], [], true⟩)
  | .inr y => (.ret, ⟨[.any, .int .i64 y, .any, .any, .any, .any, .any, .any], [], [], true⟩)
theorem cmp_Or_int_l1_ex {zero : Int} {t6 : List Int} {t7 : Int} {sgm_ : Int} {rho_ : Unit ⊕ Int} (h : whileE (cmp_Or_int_l1 zero t6 t7) sgm_ = some rho_) : ∃ L0, ∀ L, L0 ≤ L → iter (exec (look t_cmp_Or_int) L ir101_b0) ir101_k0 ir101_o0 ir101_r0 L (E_cmp_Or_int_l1 zero t6 t7 sgm_) = R_cmp_Or_int_l1 zero t6 t7 rho_ := by
  refine loop_ex (E := E_cmp_Or_int_l1 zero t6 t7) (R := R_cmp_Or_int_l1 zero t6 t7) (fun y => by first | (intro c; cases c) | (rcases y with y | y <;> (intro c; cases c)) | (rcases y with y | y | y <;> (intro c; cases c))) ?_ h
  clear h
  intro t8 o_ h
  dsimp only [cmp_Or_int_l1] at h
  rcases it_some h with ⟨hk1, h⟩ | ⟨hk1, h⟩
  · try simp only [go_sem, n1, n2, n3, n4] at hk1
    all_goals
    obtain ⟨hk2, h⟩ := ck_some h
    have lhk2 := ix_lt hk2
    have xhk2 := getD_mapD (AV.int .i64) t6 lhk2
    try simp only [go_sem] at lhk2
    try simp only [go_sem] at xhk2
    try simp only [go_sem, n1, n2, n3, n4, hk1] at hk2
    all_goals
    rcases it_some h with ⟨hk3, h⟩ | ⟨hk3, h⟩
    · try simp only [go_sem, n1, n2, n3, n4, hk1, hk2] at hk3
      all_goals
      obtain rfl := so_some h
      refine ⟨0, fun L hL => ?_⟩
      simp only [go_sem, ir101, E_cmp_Or_int_l1, R_cmp_Or_int_l1, ir101_b0, ir101_k0, ir101_o0, ir101_r0, hk1, hk2, lhk2, xhk2, hk3]
    · try simp only [go_sem, n1, n2, n3, n4, hk1, hk2] at hk3
      all_goals
      obtain rfl := so_some h
      refine ⟨0, fun L hL => ?_⟩
      simp only [go_sem, ir101, E_cmp_Or_int_l1, R_cmp_Or_int_l1, ir101_b0, ir101_k0, ir101_o0, ir101_r0, hk1, hk2, lhk2, xhk2, hk3]
  · try simp only [go_sem, n1, n2, n3, n4] at hk1
    all_goals
    obtain rfl := so_some h
    refine ⟨0, fun L hL => ?_⟩
    simp only [go_sem, ir101, E_cmp_Or_int_l1, R_cmp_Or_int_l1, ir101_b0, ir101_k0, ir101_o0, ir101_r0, hk1]

theorem Fs_cmp_Or_int {vals : List Int} {y_ : Int} (h : cmp_Or_int vals = some y_) : c_cmp_Or_int.F [.sl 1 (List.map (AV.int .i64) vals)] = ⟨true, .int .i64 y_, [.any]⟩ := by
  refine mkF_E rfl ?_
  dsimp only [cmp_Or_int] at h
  obtain ⟨y_4, hk4, h⟩ := bd_some h
  obtain ⟨Lhk4, ehk4⟩ := cmp_Or_int_l1_ex hk4
  rcases y_4 with y_4a | y_4b
  · dsimp only at h
    obtain rfl := so_some h
    refine ⟨Lhk4, fun L hL => ?_⟩
    have ehk4 := ehk4 L (by omega)
    try simp only [go_sem, E_cmp_Or_int_l1, R_cmp_Or_int_l1, ir101_k0, ir101_o0, ir101_r0] at ehk4
    simp only [go_sem, ir101, E_cmp_Or_int_l1, R_cmp_Or_int_l1, ir101_k0, ir101_o0, ir101_r0, ehk4]
  · dsimp only at h
    obtain rfl := so_some h
    refine ⟨Lhk4, fun L hL => ?_⟩
    have ehk4 := ehk4 L (by omega)
    try simp only [go_sem, E_cmp_Or_int_l1, R_cmp_Or_int_l1, ir101_k0, ir101_o0, ir101_r0] at ehk4
    simp only [go_sem, ir101, E_cmp_Or_int_l1, R_cmp_Or_int_l1, ir101_k0, ir101_o0, ir101_r0, ehk4]


def ir68_v : List Nat := [0, 1, 2, 3, 4]
def ir68 : AFn := ⟨2, 5, .seq (.region false [
    ⟨.var 2, 2, none, .box (.v 0)⟩,
    ⟨.var 3, 3, none, .box (.v 1)⟩,
    ⟨.var 4, 4, none, .mov (.c (.int .i64 (0)))⟩])
 (.seq (.anyo 17 [
    ⟨.slot 0, 5, none, .fldAddr 0 (.v 2)⟩,
    ⟨.slot 1, 6, none, .load false 1 (.s 0)⟩,
    ⟨.slot 2, 7, none, .fldAddr 0 (.v 3)⟩,
    ⟨.slot 3, 8, none, .load false 1 (.s 2)⟩,
    ⟨.slot 4, 9, none, .callp 102 [(.s 1), (.s 3)]⟩,
    ⟨.slot 5, 10, none, .fldAddr 1 (.v 2)⟩,
    ⟨.slot 6, 11, none, .load false 1 (.s 5)⟩,
    ⟨.slot 7, 12, none, .fldAddr 1 (.v 3)⟩,
    ⟨.slot 8, 13, none, .load false 1 (.s 7)⟩,
    ⟨.slot 9, 14, none, .callp 103 [(.s 6), (.s 8)]⟩,
    ⟨.slot 10, 15, none, .fldAddr 2 (.v 2)⟩,
    ⟨.slot 11, 16, none, .load false 1 (.s 10)⟩,
    ⟨.slot 12, 17, none, .fldAddr 2 (.v 3)⟩,
    ⟨.slot 13, 18, none, .load false 1 (.s 12)⟩,
    ⟨.slot 14, 19, none, .callp 103 [(.s 11), (.s 13)]⟩,
    ⟨.slot 15, 20, none, .pur (.mkSl 1 (.int .i64 (0)) 3 [(0, (.s 4)), (1, (.s 9)), (2, (.s 14))])⟩,
    ⟨.slot 16, 21, none, .callp 101 [(.s 15)]⟩,
    ⟨.var 4, 4, none, .mov (.s 16)⟩] [] .skip)
 (.ret)), [.t 4]⟩
noncomputable def t_impl_compareEstimates : List (Nat × Ctr) := [(102, c_cmp_Compare_int64), (103, c_strings_Compare), (101, c_cmp_Or_int)]
theorem lk_impl_compareEstimates_102 : look t_impl_compareEstimates 102 = some c_cmp_Compare_int64 := rfl
theorem lk_impl_compareEstimates_103 : look t_impl_compareEstimates 103 = some c_strings_Compare := rfl
theorem lk_impl_compareEstimates_101 : look t_impl_compareEstimates 101 = some c_cmp_Or_int := rfl
noncomputable def c_impl_compareEstimates : Ctr := mkF t_impl_compareEstimates ir68 [.bor, .bor]
theorem s_impl_compareEstimates : Sound Try.prog 68 c_impl_compareEstimates := mkF_sound _ rfl (snd_cons s_cmp_Compare_int64 (snd_cons s_strings_Compare (snd_cons s_cmp_Or_int snd_nil))) (by kernel_rfl : chkFn Try.prog 68 ir68 ir68_v = true)
theorem M_impl_compareEstimates : c_impl_compareEstimates.modes = [.bor, .bor] := rfl
theorem Fl_impl_compareEstimates : c_impl_compareEstimates.flat = true := rfl
attribute [go_sem] M_impl_compareEstimates Fl_impl_compareEstimates
attribute [go_sem] lk_impl_compareEstimates_102 lk_impl_compareEstimates_103 lk_impl_compareEstimates_101
theorem Fs_impl_compareEstimates {a : Estimate} {b : Estimate} {y_ : Int} (h : impl_compareEstimates a b = some y_) : c_impl_compareEstimates.F [Estimate_av a, Estimate_av b] = ⟨true, .int .i64 y_, [.any, .any]⟩ := by
  refine mkF_E rfl ?_
  dsimp only [impl_compareEstimates] at h
  obtain ⟨y_1, hk1, h⟩ := bd_some h
  have fhk1 := Fs_cmp_Compare_int64 hk1
  try simp only [go_sem] at fhk1
  obtain ⟨y_2, hk2, h⟩ := bd_some h
  have fhk2 := Fs_strings_Compare hk2
  try simp only [go_sem] at fhk2
  obtain ⟨y_3, hk3, h⟩ := bd_some h
  have fhk3 := Fs_strings_Compare hk3
  try simp only [go_sem] at fhk3
  obtain ⟨y_4, hk4, h⟩ := bd_some h
  have fhk4 := Fs_cmp_Or_int hk4
  try simp only [go_sem] at fhk4
  obtain rfl := so_some h
  refine ⟨0, fun L hL => ?_⟩
  simp only [go_sem, ir68, fhk1, fhk2, fhk3, fhk4]


def ir43_b0 : IR := .seq (.region false [
    ⟨.var 7, 11, none, .bin false .lss (.v 6) (.v 5)⟩])
 (.seq (.cond (.v 7) (.skip)
  (.exit 0))
 (.seq (.block 1 (.seq (.region false [
      ⟨.push, 12, none, .mov (.v 6)⟩,
      ⟨.push, 13, none, .ixAddr 5 (.v 4) (.v 6)⟩,
      ⟨.push, 14, none, .load true 5 (.s 0)⟩,
      ⟨.var 3, 4, none, .alloc (.agg [.int .i64 (0), .str [], .str [], .int .i64 (0), .bool false])⟩,
      ⟨.var 2, 3, none, .mov (.s 2)⟩,
      ⟨.no, 0, none, .store 5 (.v 3) (.s 0)⟩])
   (.anyo 17 [
     ⟨.slot 0, 15, none, .load true 5 (.v 3)⟩,
     ⟨.slot 1, 16, none, .callp 67 [(.s 0)]⟩,
     ⟨.slot 2, 17, none, .un .not (.s 1)⟩,
     ⟨.slot 3, 18, none, .mov (.s 2)⟩,
     ⟨.slot 4, 19, (some ((.s 3), false)), .mov (.v 2)⟩,
     ⟨.slot 5, 20, (some ((.s 3), false)), .bin false .gtr (.s 4) (.c (.int .i64 (0)))⟩,
     ⟨.slot 6, 21, (some ((.s 3), false)), .mov (.s 5)⟩,
     ⟨.slot 7, 22, (some ((.s 6), true)), .mov (.v 0)⟩,
     ⟨.slot 8, 23, (some ((.s 6), true)), .mov (.v 2)⟩,
     ⟨.slot 9, 24, (some ((.s 6), true)), .bin false .sub (.s 8) (.c (.int .i64 (1)))⟩,
     ⟨.slot 10, 25, (some ((.s 6), true)), .ixAddr 5 (.s 7) (.s 9)⟩,
     ⟨.slot 11, 26, (some ((.s 6), true)), .load true 5 (.s 10)⟩,
     ⟨.slot 12, 27, (some ((.s 6), true)), .load true 5 (.v 3)⟩,
     ⟨.slot 13, 28, (some ((.s 6), true)), .call 68 [(.s 11), (.s 12)]⟩,
     ⟨.slot 14, 29, (some ((.s 6), true)), .bin false .geq (.s 13) (.c (.int .i64 (0)))⟩,
     ⟨.slot 15, 30, (some ((.s 3), false)), .pick (.s 6) (.s 14) (.c (.bool false))⟩,
     ⟨.slot 16, 31, none, .pick (.s 3) (.c (.bool true)) (.s 15)⟩] [] (.cond (.s 16)
   (.seq (.region false [
       ⟨.var 1, 2, none, .mov (.c (.bool false))⟩])
    (.ret))
   (.skip)))))
 (.region false [
   ⟨.push, 32, none, .bin false .add (.v 6) (.c (.int .i64 (1)))⟩,
   ⟨.var 6, 10, none, .mov (.s 0)⟩])))
def ir43_k0 : List Bool := [true, false, false, false, true, true, true, false]
def ir43_o0 : List Bool := [false, false, false, false, false, false, false, false]
def ir43_r0 : List Bool := [false, true, false, false, false, false, false, false]
def ir43_v : List Nat := [0, 2, 3, 4, 8, 9, 10, 11]
def ir43 : AFn := ⟨1, 8, .seq (.region false [
    ⟨.var 1, 2, none, .mov (.c (.bool false))⟩])
 (.seq (.test false [
    ⟨.push, 5, none, .mov (.v 0)⟩,
    ⟨.push, 6, none, .len false (.s 0)⟩,
    ⟨.push, 7, none, .bin false .gtr (.s 0) (.c (.int .i64 (100)))⟩] (.s 0)
  (.seq (.region false [
      ⟨.var 1, 2, none, .mov (.c (.bool false))⟩])
   (.ret))
  (.skip))
 (.seq (.seq (.region false [
     ⟨.var 4, 8, none, .mov (.v 0)⟩,
     ⟨.var 5, 9, none, .len false (.v 4)⟩,
     ⟨.var 6, 10, none, .mov (.c (.int .i64 (0)))⟩])
  (.block 0 (.loop ir43_k0 ir43_o0 ir43_r0 ir43_b0)))
 (.seq (.region false [
    ⟨.var 1, 2, none, .mov (.c (.bool true))⟩])
 (.ret)))), [.t 1]⟩
noncomputable def t_impl_ValidEstimates : List (Nat × Ctr) := [(67, c_impl_isEstimate), (68, c_impl_compareEstimates)]
theorem lk_impl_ValidEstimates_67 : look t_impl_ValidEstimates 67 = some c_impl_isEstimate := rfl
theorem lk_impl_ValidEstimates_68 : look t_impl_ValidEstimates 68 = some c_impl_compareEstimates := rfl
noncomputable def c_impl_ValidEstimates : Ctr := mkF t_impl_ValidEstimates ir43 [.bor]
theorem s_impl_ValidEstimates : Sound Try.prog 43 c_impl_ValidEstimates := mkF_sound _ rfl (snd_cons s_impl_isEstimate (snd_cons s_impl_compareEstimates snd_nil)) (by kernel_rfl : chkFn Try.prog 43 ir43 ir43_v = true)
theorem M_impl_ValidEstimates : c_impl_ValidEstimates.modes = [.bor] := rfl
theorem Fl_impl_ValidEstimates : c_impl_ValidEstimates.flat = true := rfl
attribute [go_sem] M_impl_ValidEstimates Fl_impl_ValidEstimates
attribute [go_sem] lk_impl_ValidEstimates_67 lk_impl_ValidEstimates_68
def E_impl_ValidEstimates_l1 (list : List Estimate) (t8 : List Estimate) (t9 : Int) : Int → St
  | t10 => ⟨[.sl 5 (List.map Estimate_av list), .any, .any, .any, .sl 5 (List.map Estimate_av t8), .int .i64 t9, .int .i64 t10, .any], [], [], true⟩
def R_impl_ValidEstimates_l1 (list : List Estimate) (t8 : List Estimate) (t9 : Int) : (Unit ⊕ Bool) → Res
  | .inl y => (.exit 0, ⟨[.any, .any, .any, .any, .any, .any, .any, .any], [], [], true⟩)
  | .inr y => (.ret, ⟨[.any, .bool y, .any, .any, .any, .any, .any, .any], [], [], true⟩)
theorem impl_ValidEstimates_l1_ex {list : List Estimate} {t8 : List Estimate} {t9 : Int} {sgm_ : Int} {rho_ : Unit ⊕ Bool} (h : whileE (impl_ValidEstimates_l1 list t8 t9) sgm_ = some rho_) : ∃ L0, ∀ L, L0 ≤ L → iter (exec (look t_impl_ValidEstimates) L ir43_b0) ir43_k0 ir43_o0 ir43_r0 L (E_impl_ValidEstimates_l1 list t8 t9 sgm_) = R_impl_ValidEstimates_l1 list t8 t9 rho_ := by
  refine loop_ex (E := E_impl_ValidEstimates_l1 list t8 t9) (R := R_impl_ValidEstimates_l1 list t8 t9) (fun y => by first | (intro c; cases c) | (rcases y with y | y <;> (intro c; cases c)) | (rcases y with y | y | y <;> (intro c; cases c))) ?_ h
  clear h
  intro t10 o_ h
  dsimp only [impl_ValidEstimates_l1] at h
  rcases it_some h with ⟨hk2, h⟩ | ⟨hk2, h⟩
  · try simp only [go_sem, n1, n2, n3, n4] at hk2
    all_goals
    obtain ⟨hk3, h⟩ := ck_some h
    have lhk3 := ix_lt hk3
    have xhk3 := getD_mapD Estimate_av t8 lhk3
    try simp only [go_sem] at lhk3
    try simp only [go_sem] at xhk3
    try simp only [go_sem, n1, n2, n3, n4, hk2] at hk3
    all_goals
    obtain ⟨y_4, hk4, h⟩ := bd_some h
    have fhk4 := Fs_impl_isEstimate hk4
    try simp only [go_sem, hk2, hk3] at fhk4
    obtain ⟨hk5, h⟩ := ck_some h
    rcases or_split hk5 with ⟨ghk5, hk5⟩ | ghk5
    · try simp only [go_sem, n1, n2, n3, n4, hk2, hk3] at ghk5
      all_goals
      have lhk5 := ix_lt hk5
      have xhk5 := getD_mapD Estimate_av list lhk5
      try simp only [go_sem] at lhk5
      try simp only [go_sem] at xhk5
      try simp only [go_sem, n1, n2, n3, n4, hk2, hk3, ghk5] at hk5
      all_goals
      obtain ⟨hk6, h⟩ := ck_some h
      rcases or_split hk6 with ⟨ghk6, hk6⟩ | ghk6
      · try simp only [go_sem, n1, n2, n3, n4, hk2, hk3, ghk5, hk5] at ghk6
        all_goals
        obtain ⟨y_6, hhk6⟩ := Option.isSome_iff_exists.1 hk6
        have fhk6 := Fs_impl_compareEstimates hhk6
        try simp only [go_sem, hk2, hk3, ghk5, hk5, ghk6] at fhk6
        rcases it_some h with ⟨hk7, h⟩ | ⟨hk7, h⟩
        · try simp only [go_sem, n1, n2, n3, n4, hk2, hk3, ghk5, hk5, ghk6, hhk6] at hk7
          all_goals
          obtain rfl := so_some h
          refine ⟨0, fun L hL => ?_⟩
          simp only [go_sem, ir43, E_impl_ValidEstimates_l1, R_impl_ValidEstimates_l1, ir43_b0, ir43_k0, ir43_o0, ir43_r0, hk2, hk3, lhk3, xhk3, fhk4, ghk5, hk5, lhk5, xhk5, ghk6, hhk6, fhk6, hk7]
        · try simp only [go_sem, n1, n2, n3, n4, hk2, hk3, ghk5, hk5, ghk6, hhk6] at hk7
          all_goals
          obtain rfl := so_some h
          refine ⟨0, fun L hL => ?_⟩
          simp only [go_sem, ir43, E_impl_ValidEstimates_l1, R_impl_ValidEstimates_l1, ir43_b0, ir43_k0, ir43_o0, ir43_r0, hk2, hk3, lhk3, xhk3, fhk4, ghk5, hk5, lhk5, xhk5, ghk6, hhk6, fhk6, hk7]
      · rcases and_f ghk6 with ghk6a | ⟨ghk6a, ghk6b⟩
        · have ghk6an := no_f ghk6a
          have ghk6ann := no_t ghk6an
          try simp only [go_sem, n1, n2, n3, n4, hk2, hk3, ghk5, hk5] at ghk6ann
          all_goals
          rcases it_some h with ⟨hk7, h⟩ | ⟨hk7, h⟩
          · try simp only [go_sem, n1, n2, n3, n4, hk2, hk3, ghk5, hk5, ghk6ann] at hk7
            all_goals
            obtain rfl := so_some h
            refine ⟨0, fun L hL => ?_⟩
            simp only [go_sem, ir43, E_impl_ValidEstimates_l1, R_impl_ValidEstimates_l1, ir43_b0, ir43_k0, ir43_o0, ir43_r0, hk2, hk3, lhk3, xhk3, fhk4, ghk5, hk5, lhk5, xhk5, ghk6ann, hk7]
          · try simp only [go_sem, n1, n2, n3, n4, hk2, hk3, ghk5, hk5, ghk6ann] at hk7
            all_goals
            obtain rfl := so_some h
            refine ⟨0, fun L hL => ?_⟩
            simp only [go_sem, ir43, E_impl_ValidEstimates_l1, R_impl_ValidEstimates_l1, ir43_b0, ir43_k0, ir43_o0, ir43_r0, hk2, hk3, lhk3, xhk3, fhk4, ghk5, hk5, lhk5, xhk5, ghk6ann, hk7]
        · have ghk6an := no_t ghk6a
          have ghk6ann := no_f ghk6an
          try simp only [go_sem, n1, n2, n3, n4, hk2, hk3, ghk5, hk5] at ghk6ann
          all_goals
          try simp only [go_sem, n1, n2, n3, n4, hk2, hk3, ghk5, hk5, ghk6ann] at ghk6b
          all_goals
          rcases it_some h with ⟨hk7, h⟩ | ⟨hk7, h⟩
          · try simp only [go_sem, n1, n2, n3, n4, hk2, hk3, ghk5, hk5, ghk6ann, ghk6b] at hk7
            all_goals
            obtain rfl := so_some h
            refine ⟨0, fun L hL => ?_⟩
            simp only [go_sem, ir43, E_impl_ValidEstimates_l1, R_impl_ValidEstimates_l1, ir43_b0, ir43_k0, ir43_o0, ir43_r0, hk2, hk3, lhk3, xhk3, fhk4, ghk5, hk5, lhk5, xhk5, ghk6ann, ghk6b, hk7]
          · try simp only [go_sem, n1, n2, n3, n4, hk2, hk3, ghk5, hk5, ghk6ann, ghk6b] at hk7
            all_goals
            obtain rfl := so_some h
            refine ⟨0, fun L hL => ?_⟩
            simp only [go_sem, ir43, E_impl_ValidEstimates_l1, R_impl_ValidEstimates_l1, ir43_b0, ir43_k0, ir43_o0, ir43_r0, hk2, hk3, lhk3, xhk3, fhk4, ghk5, hk5, lhk5, xhk5, ghk6ann, ghk6b, hk7]
    · rcases and_f ghk5 with ghk5a | ⟨ghk5a, ghk5b⟩
      · have ghk5an := no_f ghk5a
        have ghk5ann := no_t ghk5an
        try simp only [go_sem, n1, n2, n3, n4, hk2, hk3] at ghk5ann
        all_goals
        obtain ⟨hk6, h⟩ := ck_some h
        rcases or_split hk6 with ⟨ghk6, hk6⟩ | ghk6
        · try simp only [go_sem, n1, n2, n3, n4, hk2, hk3, ghk5ann] at ghk6
          all_goals
          obtain ⟨y_6, hhk6⟩ := Option.isSome_iff_exists.1 hk6
          have fhk6 := Fs_impl_compareEstimates hhk6
          try simp only [go_sem, hk2, hk3, ghk5ann, ghk6] at fhk6
          rcases it_some h with ⟨hk7, h⟩ | ⟨hk7, h⟩
          · try simp only [go_sem, n1, n2, n3, n4, hk2, hk3, ghk5ann, ghk6, hhk6] at hk7
            all_goals
            obtain rfl := so_some h
            refine ⟨0, fun L hL => ?_⟩
            simp only [go_sem, ir43, E_impl_ValidEstimates_l1, R_impl_ValidEstimates_l1, ir43_b0, ir43_k0, ir43_o0, ir43_r0, hk2, hk3, lhk3, xhk3, fhk4, ghk5ann, ghk6, hhk6, fhk6, hk7]
          · try simp only [go_sem, n1, n2, n3, n4, hk2, hk3, ghk5ann, ghk6, hhk6] at hk7
            all_goals
            obtain rfl := so_some h
            refine ⟨0, fun L hL => ?_⟩
            simp only [go_sem, ir43, E_impl_ValidEstimates_l1, R_impl_ValidEstimates_l1, ir43_b0, ir43_k0, ir43_o0, ir43_r0, hk2, hk3, lhk3, xhk3, fhk4, ghk5ann, ghk6, hhk6, fhk6, hk7]
        · rcases and_f ghk6 with ghk6a | ⟨ghk6a, ghk6b⟩
          · have ghk6an := no_f ghk6a
            have ghk6ann := no_t ghk6an
            try simp only [go_sem, n1, n2, n3, n4, hk2, hk3, ghk5ann] at ghk6ann
            all_goals
            rcases it_some h with ⟨hk7, h⟩ | ⟨hk7, h⟩
            · try simp only [go_sem, n1, n2, n3, n4, hk2, hk3, ghk5ann, ghk6ann] at hk7
              all_goals
              obtain rfl := so_some h
              refine ⟨0, fun L hL => ?_⟩
              simp only [go_sem, ir43, E_impl_ValidEstimates_l1, R_impl_ValidEstimates_l1, ir43_b0, ir43_k0, ir43_o0, ir43_r0, hk2, hk3, lhk3, xhk3, fhk4, ghk5ann, ghk6ann, hk7]
            · try simp only [go_sem, n1, n2, n3, n4, hk2, hk3, ghk5ann, ghk6ann] at hk7
              all_goals
              obtain rfl := so_some h
              refine ⟨0, fun L hL => ?_⟩
              simp only [go_sem, ir43, E_impl_ValidEstimates_l1, R_impl_ValidEstimates_l1, ir43_b0, ir43_k0, ir43_o0, ir43_r0, hk2, hk3, lhk3, xhk3, fhk4, ghk5ann, ghk6ann, hk7]
          · have ghk6an := no_t ghk6a
            have ghk6ann := no_f ghk6an
            try simp only [go_sem, n1, n2, n3, n4, hk2, hk3, ghk5ann] at ghk6ann
            all_goals
            try simp only [go_sem, n1, n2, n3, n4, hk2, hk3, ghk5ann, ghk6ann] at ghk6b
            all_goals
            rcases it_some h with ⟨hk7, h⟩ | ⟨hk7, h⟩
            · try simp only [go_sem, n1, n2, n3, n4, hk2, hk3, ghk5ann, ghk6ann, ghk6b] at hk7
              all_goals
              obtain rfl := so_some h
              refine ⟨0, fun L hL => ?_⟩
              simp only [go_sem, ir43, E_impl_ValidEstimates_l1, R_impl_ValidEstimates_l1, ir43_b0, ir43_k0, ir43_o0, ir43_r0, hk2, hk3, lhk3, xhk3, fhk4, ghk5ann, ghk6ann, ghk6b, hk7]
            · try simp only [go_sem, n1, n2, n3, n4, hk2, hk3, ghk5ann, ghk6ann, ghk6b] at hk7
              all_goals
              obtain rfl := so_some h
              refine ⟨0, fun L hL => ?_⟩
              simp only [go_sem, ir43, E_impl_ValidEstimates_l1, R_impl_ValidEstimates_l1, ir43_b0, ir43_k0, ir43_o0, ir43_r0, hk2, hk3, lhk3, xhk3, fhk4, ghk5ann, ghk6ann, ghk6b, hk7]
      · have ghk5an := no_t ghk5a
        have ghk5ann := no_f ghk5an
        try simp only [go_sem, n1, n2, n3, n4, hk2, hk3] at ghk5ann
        all_goals
        try simp only [go_sem, n1, n2, n3, n4, hk2, hk3, ghk5ann] at ghk5b
        all_goals
        obtain ⟨hk6, h⟩ := ck_some h
        rcases or_split hk6 with ⟨ghk6, hk6⟩ | ghk6
        · try simp only [go_sem, n1, n2, n3, n4, hk2, hk3, ghk5ann, ghk5b] at ghk6
          all_goals
          obtain ⟨y_6, hhk6⟩ := Option.isSome_iff_exists.1 hk6
          have fhk6 := Fs_impl_compareEstimates hhk6
          try simp only [go_sem, hk2, hk3, ghk5ann, ghk5b, ghk6] at fhk6
          rcases it_some h with ⟨hk7, h⟩ | ⟨hk7, h⟩
          · try simp only [go_sem, n1, n2, n3, n4, hk2, hk3, ghk5ann, ghk5b, ghk6, hhk6] at hk7
            all_goals
            obtain rfl := so_some h
            refine ⟨0, fun L hL => ?_⟩
            simp only [go_sem, ir43, E_impl_ValidEstimates_l1, R_impl_ValidEstimates_l1, ir43_b0, ir43_k0, ir43_o0, ir43_r0, hk2, hk3, lhk3, xhk3, fhk4, ghk5ann, ghk5b, ghk6, hhk6, fhk6, hk7]
          · try simp only [go_sem, n1, n2, n3, n4, hk2, hk3, ghk5ann, ghk5b, ghk6, hhk6] at hk7
            all_goals
            obtain rfl := so_some h
            refine ⟨0, fun L hL => ?_⟩
            simp only [go_sem, ir43, E_impl_ValidEstimates_l1, R_impl_ValidEstimates_l1, ir43_b0, ir43_k0, ir43_o0, ir43_r0, hk2, hk3, lhk3, xhk3, fhk4, ghk5ann, ghk5b, ghk6, hhk6, fhk6, hk7]
        · rcases and_f ghk6 with ghk6a | ⟨ghk6a, ghk6b⟩
          · have ghk6an := no_f ghk6a
            have ghk6ann := no_t ghk6an
            try simp only [go_sem, n1, n2, n3, n4, hk2, hk3, ghk5ann, ghk5b] at ghk6ann
            all_goals
            rcases it_some h with ⟨hk7, h⟩ | ⟨hk7, h⟩
            · try simp only [go_sem, n1, n2, n3, n4, hk2, hk3, ghk5ann, ghk5b, ghk6ann] at hk7
              all_goals
              obtain rfl := so_some h
              refine ⟨0, fun L hL => ?_⟩
              simp only [go_sem, ir43, E_impl_ValidEstimates_l1, R_impl_ValidEstimates_l1, ir43_b0, ir43_k0, ir43_o0, ir43_r0, hk2, hk3, lhk3, xhk3, fhk4, ghk5ann, ghk5b, ghk6ann, hk7]
            · try simp only [go_sem, n1, n2, n3, n4, hk2, hk3, ghk5ann, ghk5b, ghk6ann] at hk7
              all_goals
              obtain rfl := so_some h
              refine ⟨0, fun L hL => ?_⟩
              simp only [go_sem, ir43, E_impl_ValidEstimates_l1, R_impl_ValidEstimates_l1, ir43_b0, ir43_k0, ir43_o0, ir43_r0, hk2, hk3, lhk3, xhk3, fhk4, ghk5ann, ghk5b, ghk6ann, hk7]
          · have ghk6an := no_t ghk6a
            have ghk6ann := no_f ghk6an
            try simp only [go_sem, n1, n2, n3, n4, hk2, hk3, ghk5ann, ghk5b] at ghk6ann
            all_goals
            try simp only [go_sem, n1, n2, n3, n4, hk2, hk3, ghk5ann, ghk5b, ghk6ann] at ghk6b
            all_goals
            rcases it_some h with ⟨hk7, h⟩ | ⟨hk7, h⟩
            · try simp only [go_sem, n1, n2, n3, n4, hk2, hk3, ghk5ann, ghk5b, ghk6ann, ghk6b] at hk7
              all_goals
              obtain rfl := so_some h
              refine ⟨0, fun L hL => ?_⟩
              simp only [go_sem, ir43, E_impl_ValidEstimates_l1, R_impl_ValidEstimates_l1, ir43_b0, ir43_k0, ir43_o0, ir43_r0, hk2, hk3, lhk3, xhk3, fhk4, ghk5ann, ghk5b, ghk6ann, ghk6b, hk7]
            · try simp only [go_sem, n1, n2, n3, n4, hk2, hk3, ghk5ann, ghk5b, ghk6ann, ghk6b] at hk7
              all_goals
              obtain rfl := so_some h
              refine ⟨0, fun L hL => ?_⟩
              simp only [go_sem, ir43, E_impl_ValidEstimates_l1, R_impl_ValidEstimates_l1, ir43_b0, ir43_k0, ir43_o0, ir43_r0, hk2, hk3, lhk3, xhk3, fhk4, ghk5ann, ghk5b, ghk6ann, ghk6b, hk7]
  · try simp only [go_sem, n1, n2, n3, n4] at hk2
    all_goals
    obtain rfl := so_some h
    refine ⟨0, fun L hL => ?_⟩
    simp only [go_sem, ir43, E_impl_ValidEstimates_l1, R_impl_ValidEstimates_l1, ir43_b0, ir43_k0, ir43_o0, ir43_r0, hk2]

theorem Fs_impl_ValidEstimates {list : List Estimate} {y_ : Bool} (h : impl_ValidEstimates list = some y_) : c_impl_ValidEstimates.F [.sl 5 (List.map Estimate_av list)] = ⟨true, .bool y_, [.any]⟩ := by
  refine mkF_E rfl ?_
  dsimp only [impl_ValidEstimates] at h
  rcases it_some h with ⟨hk1, h⟩ | ⟨hk1, h⟩
  · try simp only [go_sem, n1, n2, n3, n4] at hk1
    all_goals
    obtain rfl := so_some h
    refine ⟨0, fun L hL => ?_⟩
    simp only [go_sem, ir43, E_impl_ValidEstimates_l1, R_impl_ValidEstimates_l1, ir43_k0, ir43_o0, ir43_r0, hk1]
  · try simp only [go_sem, n1, n2, n3, n4] at hk1
    all_goals
    obtain ⟨y_8, hk8, h⟩ := bd_some h
    obtain ⟨Lhk8, ehk8⟩ := impl_ValidEstimates_l1_ex hk8
    rcases y_8 with y_8a | y_8b
    · dsimp only at h
      obtain rfl := so_some h
      refine ⟨Lhk8, fun L hL => ?_⟩
      have ehk8 := ehk8 L (by omega)
      try simp only [go_sem, E_impl_ValidEstimates_l1, R_impl_ValidEstimates_l1, ir43_k0, ir43_o0, ir43_r0, hk1] at ehk8
      simp only [go_sem, ir43, E_impl_ValidEstimates_l1, R_impl_ValidEstimates_l1, ir43_k0, ir43_o0, ir43_r0, hk1, ehk8]
    · dsimp only at h
      obtain rfl := so_some h
      refine ⟨Lhk8, fun L hL => ?_⟩
      have ehk8 := ehk8 L (by omega)
      try simp only [go_sem, E_impl_ValidEstimates_l1, R_impl_ValidEstimates_l1, ir43_k0, ir43_o0, ir43_r0, hk1] at ehk8
      simp only [go_sem, ir43, E_impl_ValidEstimates_l1, R_impl_ValidEstimates_l1, ir43_k0, ir43_o0, ir43_r0, hk1, ehk8]


def ir86_v : List Nat := [0, 2]
def ir86 : AFn := ⟨1, 2, .seq (.region false [
    ⟨.var 1, 2, none, .mov (.c (.int .i64 (0)))⟩])
 (.seq (.region false [
    ⟨.push, 3, none, .mov (.v 0)⟩,
    ⟨.push, 4, none, .len false (.s 0)⟩,
    ⟨.var 1, 2, none, .mov (.s 0)⟩])
 (.ret)), [.t 1]⟩
noncomputable def t_impl_count_impl_Estimate : List (Nat × Ctr) := []
noncomputable def c_impl_count_impl_Estimate : Ctr := mkF t_impl_count_impl_Estimate ir86 [.bor]
theorem s_impl_count_impl_Estimate : Sound Try.prog 86 c_impl_count_impl_Estimate := mkF_sound _ rfl snd_nil (by kernel_rfl : chkFn Try.prog 86 ir86 ir86_v = true)
theorem M_impl_count_impl_Estimate : c_impl_count_impl_Estimate.modes = [.bor] := rfl
theorem Fl_impl_count_impl_Estimate : c_impl_count_impl_Estimate.flat = true := rfl
attribute [go_sem] M_impl_count_impl_Estimate Fl_impl_count_impl_Estimate
theorem Fs_impl_count_impl_Estimate {list : List Estimate} {y_ : Int} (h : impl_count_impl_Estimate list = some y_) : c_impl_count_impl_Estimate.F [.sl 5 (List.map Estimate_av list)] = ⟨true, .int .i64 y_, [.any]⟩ := by
  refine mkF_E rfl ?_
  dsimp only [impl_count_impl_Estimate] at h
  obtain rfl := so_some h
  refine ⟨0, fun L hL => ?_⟩
  simp only [go_sem, ir86]


def ir85_b0 : IR := .seq (.region false [
    ⟨.var 8, 10, none, .bin false .lss (.v 7) (.v 6)⟩])
 (.seq (.cond (.v 8) (.skip)
  (.exit 0))
 (.seq (.block 1 (.seq (.region false [
      ⟨.push, 11, none, .mov (.v 7)⟩,
      ⟨.push, 12, none, .ixAddr 2 (.v 5) (.v 7)⟩,
      ⟨.push, 13, none, .load true 2 (.s 0)⟩,
      ⟨.var 4, 6, none, .alloc (.agg [.int .i64 (0), .int .i64 (0)])⟩,
      ⟨.var 3, 5, none, .mov (.s 2)⟩,
      ⟨.no, 0, none, .store 2 (.v 4) (.s 0)⟩])
   (.seq (.test false [
      ⟨.push, 14, none, .fldAddr 0 (.v 4)⟩,
      ⟨.push, 15, none, .load false 1 (.s 0)⟩,
      ⟨.push, 16, none, .mov (.v 1)⟩,
      ⟨.push, 17, none, .bin false .sub (.s 0) (.c (.int .i64 (1)))⟩,
      ⟨.push, 18, none, .call 46 [(.s 2), (.c (.int .i64 (0))), (.s 0)]⟩,
      ⟨.push, 19, none, .un .not (.s 0)⟩,
      ⟨.push, 20, none, .mov (.s 0)⟩,
      ⟨.push, 21, (some ((.s 0), false)), .fldAddr 1 (.v 4)⟩,
      ⟨.push, 22, (some ((.s 1), false)), .load false 1 (.s 0)⟩,
      ⟨.push, 23, (some ((.s 2), false)), .call 46 [(.s 0), (.c (.int .i64 (1))), (.c (.int .i64 (5)))]⟩,
      ⟨.push, 24, (some ((.s 3), false)), .un .not (.s 0)⟩,
      ⟨.push, 25, none, .pick (.s 4) (.c (.bool true)) (.s 0)⟩] (.s 0)
    (.seq (.region false [
        ⟨.var 2, 4, none, .mov (.c (.bool false))⟩])
     (.ret))
    (.skip))
   (.anyo 35 [
     ⟨.slot 0, 26, none, .mov (.v 3)⟩,
     ⟨.slot 1, 27, none, .bin false .gtr (.s 0) (.c (.int .i64 (0)))⟩,
     ⟨.slot 2, 28, none, .mov (.s 1)⟩,
     ⟨.slot 3, 29, (some ((.s 2), true)), .mov (.v 0)⟩,
     ⟨.slot 4, 30, (some ((.s 2), true)), .mov (.v 3)⟩,
     ⟨.slot 5, 31, (some ((.s 2), true)), .bin false .sub (.s 4) (.c (.int .i64 (1)))⟩,
     ⟨.slot 6, 32, (some ((.s 2), true)), .ixAddr 2 (.s 3) (.s 5)⟩,
     ⟨.slot 7, 33, (some ((.s 2), true)), .fldAddr 0 (.s 6)⟩,
     ⟨.slot 8, 34, (some ((.s 2), true)), .load false 1 (.s 7)⟩,
     ⟨.slot 9, 35, (some ((.s 2), true)), .fldAddr 0 (.v 4)⟩,
     ⟨.slot 10, 36, (some ((.s 2), true)), .load false 1 (.s 9)⟩,
     ⟨.slot 11, 37, (some ((.s 2), true)), .bin false .gtr (.s 8) (.s 10)⟩,
     ⟨.slot 12, 38, (some ((.s 2), true)), .mov (.s 11)⟩,
     ⟨.slot 13, 39, (some ((.s 12), false)), .mov (.v 0)⟩,
     ⟨.slot 14, 40, (some ((.s 12), false)), .mov (.v 3)⟩,
     ⟨.slot 15, 41, (some ((.s 12), false)), .bin false .sub (.s 14) (.c (.int .i64 (1)))⟩,
     ⟨.slot 16, 42, (some ((.s 12), false)), .ixAddr 2 (.s 13) (.s 15)⟩,
     ⟨.slot 17, 43, (some ((.s 12), false)), .fldAddr 0 (.s 16)⟩,
     ⟨.slot 18, 44, (some ((.s 12), false)), .load false 1 (.s 17)⟩,
     ⟨.slot 19, 45, (some ((.s 12), false)), .fldAddr 0 (.v 4)⟩,
     ⟨.slot 20, 46, (some ((.s 12), false)), .load false 1 (.s 19)⟩,
     ⟨.slot 21, 47, (some ((.s 12), false)), .bin false .eql (.s 18) (.s 20)⟩,
     ⟨.slot 22, 48, (some ((.s 12), false)), .mov (.s 21)⟩,
     ⟨.slot 23, 49, (some ((.s 22), true)), .mov (.v 0)⟩,
     ⟨.slot 24, 50, (some ((.s 22), true)), .mov (.v 3)⟩,
     ⟨.slot 25, 51, (some ((.s 22), true)), .bin false .sub (.s 24) (.c (.int .i64 (1)))⟩,
     ⟨.slot 26, 52, (some ((.s 22), true)), .ixAddr 2 (.s 23) (.s 25)⟩,
     ⟨.slot 27, 53, (some ((.s 22), true)), .fldAddr 1 (.s 26)⟩,
     ⟨.slot 28, 54, (some ((.s 22), true)), .load false 1 (.s 27)⟩,
     ⟨.slot 29, 55, (some ((.s 22), true)), .fldAddr 1 (.v 4)⟩,
     ⟨.slot 30, 56, (some ((.s 22), true)), .load false 1 (.s 29)⟩,
     ⟨.slot 31, 57, (some ((.s 22), true)), .bin false .geq (.s 28) (.s 30)⟩,
     ⟨.slot 32, 58, (some ((.s 12), false)), .pick (.s 22) (.s 31) (.c (.bool false))⟩,
     ⟨.slot 33, 59, (some ((.s 2), true)), .pick (.s 12) (.c (.bool true)) (.s 32)⟩,
     ⟨.slot 34, 60, none, .pick (.s 2) (.s 33) (.c (.bool false))⟩] [] (.cond (.s 34)
   (.seq (.region false [
       ⟨.var 2, 4, none, .mov (.c (.bool false))⟩])
    (.ret))
   (.skip))))))
 (.region false [
   ⟨.push, 61, none, .bin false .add (.v 7) (.c (.int .i64 (1)))⟩,
   ⟨.var 7, 9, none, .mov (.s 0)⟩])))
def ir85_k0 : List Bool := [true, true, false, false, false, true, true, true, false]
def ir85_o0 : List Bool := [false, false, false, false, false, false, false, false, false]
def ir85_r0 : List Bool := [false, false, true, false, false, false, false, false, false]
def ir85_v : List Nat := [0, 1, 4, 5, 6, 7, 8, 9, 10]
def ir85 : AFn := ⟨2, 9, .seq (.region false [
    ⟨.var 2, 4, none, .mov (.c (.bool false))⟩])
 (.seq (.seq (.region false [
     ⟨.var 5, 7, none, .mov (.v 0)⟩,
     ⟨.var 6, 8, none, .len false (.v 5)⟩,
     ⟨.var 7, 9, none, .mov (.c (.int .i64 (0)))⟩])
  (.block 0 (.loop ir85_k0 ir85_o0 ir85_r0 ir85_b0)))
 (.seq (.region false [
    ⟨.var 2, 4, none, .mov (.c (.bool true))⟩])
 (.ret))), [.t 2]⟩
noncomputable def t_impl_ordered : List (Nat × Ctr) := [(46, c_impl_in)]
theorem lk_impl_ordered_46 : look t_impl_ordered 46 = some c_impl_in := rfl
noncomputable def c_impl_ordered : Ctr := mkF t_impl_ordered ir85 [.bor, .bor]
theorem s_impl_ordered : Sound Try.prog 85 c_impl_ordered := mkF_sound _ rfl (snd_cons s_impl_in snd_nil) (by kernel_rfl : chkFn Try.prog 85 ir85 ir85_v = true)
theorem M_impl_ordered : c_impl_ordered.modes = [.bor, .bor] := rfl
theorem Fl_impl_ordered : c_impl_ordered.flat = true := rfl
attribute [go_sem] M_impl_ordered Fl_impl_ordered
attribute [go_sem] lk_impl_ordered_46
def E_impl_ordered_l1 (faults : List Fault) (estimates : Int) (t7 : List Fault) (t8 : Int) : Int → St
  | t9 => ⟨[.sl 2 (List.map Fault_av faults), .int .i64 estimates, .any, .any, .any, .sl 2 (List.map Fault_av t7), .int .i64 t8, .int .i64 t9, .any], [], [], true⟩
def R_impl_ordered_l1 (faults : List Fault) (estimates : Int) (t7 : List Fault) (t8 : Int) : (Unit ⊕ Bool) → Res
  | .inl y => (.exit 0, ⟨[.any, .any, .any, .any, .any, .any, .any, .any, .any], [], [], true⟩)
  | .inr y => (.ret, ⟨[.any, .any, .bool y, .any, .any, .any, .any, .any, .any], [], [], true⟩)
theorem impl_ordered_l1_ex {faults : List Fault} {estimates : Int} {t7 : List Fault} {t8 : Int} {sgm_ : Int} {rho_ : Unit ⊕ Bool} (h : whileE (impl_ordered_l1 faults estimates t7 t8) sgm_ = some rho_) : ∃ L0, ∀ L, L0 ≤ L → iter (exec (look t_impl_ordered) L ir85_b0) ir85_k0 ir85_o0 ir85_r0 L (E_impl_ordered_l1 faults estimates t7 t8 sgm_) = R_impl_ordered_l1 faults estimates t7 t8 rho_ := by
  refine loop_ex (E := E_impl_ordered_l1 faults estimates t7 t8) (R := R_impl_ordered_l1 faults estimates t7 t8) (fun y => by first | (intro c; cases c) | (rcases y with y | y <;> (intro c; cases c)) | (rcases y with y | y | y <;> (intro c; cases c))) ?_ h
  clear h
  intro t9 o_ h
  dsimp only [impl_ordered_l1] at h
  rcases it_some h with ⟨hk1, h⟩ | ⟨hk1, h⟩
  · try simp only [go_sem, n1, n2, n3, n4] at hk1
    all_goals
    obtain ⟨hk2, h⟩ := ck_some h
    have lhk2 := ix_lt hk2
    have xhk2 := getD_mapD Fault_av t7 lhk2
    try simp only [go_sem] at lhk2
    try simp only [go_sem] at xhk2
    try simp only [go_sem, n1, n2, n3, n4, hk1] at hk2
    all_goals
    obtain ⟨y_3, hk3, h⟩ := bd_some h
    have fhk3 := Fs_impl_in hk3
    try simp only [go_sem, hk1, hk2] at fhk3
    obtain ⟨hk4, h⟩ := ck_some h
    rcases or_split hk4 with ⟨ghk4, hk4⟩ | ghk4
    · try simp only [go_sem, n1, n2, n3, n4, hk1, hk2] at ghk4
      all_goals
      obtain ⟨y_4, hhk4⟩ := Option.isSome_iff_exists.1 hk4
      have fhk4 := Fs_impl_in hhk4
      try simp only [go_sem, hk1, hk2, ghk4] at fhk4
      rcases it_some h with ⟨hk5, h⟩ | ⟨hk5, h⟩
      · try simp only [go_sem, n1, n2, n3, n4, hk1, hk2, ghk4, hhk4] at hk5
        all_goals
        obtain rfl := so_some h
        refine ⟨0, fun L hL => ?_⟩
        simp only [go_sem, ir85, E_impl_ordered_l1, R_impl_ordered_l1, ir85_b0, ir85_k0, ir85_o0, ir85_r0, hk1, hk2, lhk2, xhk2, fhk3, ghk4, hhk4, fhk4, hk5]
      · try simp only [go_sem, n1, n2, n3, n4, hk1, hk2, ghk4, hhk4] at hk5
        all_goals
        obtain ⟨hk6, h⟩ := ck_some h
        rcases or_split hk6 with ⟨ghk6, hk6⟩ | ghk6
        · try simp only [go_sem, n1, n2, n3, n4, hk1, hk2, ghk4, hhk4, hk5] at ghk6
          all_goals
          have lhk6 := ix_lt hk6
          have xhk6 := getD_mapD Fault_av faults lhk6
          try simp only [go_sem] at lhk6
          try simp only [go_sem] at xhk6
          try simp only [go_sem, n1, n2, n3, n4, hk1, hk2, ghk4, hhk4, hk5, ghk6] at hk6
          all_goals
          obtain ⟨hk7, h⟩ := ck_some h
          rcases or_split hk7 with ⟨ghk7, hk7⟩ | ghk7
          · try simp only [go_sem, n1, n2, n3, n4, hk1, hk2, ghk4, hhk4, hk5, ghk6, hk6] at ghk7
            all_goals
            have lhk7 := ix_lt hk7
            have xhk7 := getD_mapD Fault_av faults lhk7
            try simp only [go_sem] at lhk7
            try simp only [go_sem] at xhk7
            try simp only [go_sem, n1, n2, n3, n4, hk1, hk2, ghk4, hhk4, hk5, ghk6, hk6, ghk7] at hk7
            all_goals
            obtain ⟨hk8, h⟩ := ck_some h
            rcases or_split hk8 with ⟨ghk8, hk8⟩ | ghk8
            · try simp only [go_sem, n1, n2, n3, n4, hk1, hk2, ghk4, hhk4, hk5, ghk6, hk6, ghk7, hk7] at ghk8
              all_goals
              have lhk8 := ix_lt hk8
              have xhk8 := getD_mapD Fault_av faults lhk8
              try simp only [go_sem] at lhk8
              try simp only [go_sem] at xhk8
              try simp only [go_sem, n1, n2, n3, n4, hk1, hk2, ghk4, hhk4, hk5, ghk6, hk6, ghk7, hk7, ghk8] at hk8
              all_goals
              rcases it_some h with ⟨hk9, h⟩ | ⟨hk9, h⟩
              · try simp only [go_sem, n1, n2, n3, n4, hk1, hk2, ghk4, hhk4, hk5, ghk6, hk6, ghk7, hk7, ghk8, hk8] at hk9
                all_goals
                obtain rfl := so_some h
                refine ⟨0, fun L hL => ?_⟩
                simp only [go_sem, ir85, E_impl_ordered_l1, R_impl_ordered_l1, ir85_b0, ir85_k0, ir85_o0, ir85_r0, hk1, hk2, lhk2, xhk2, fhk3, ghk4, hhk4, fhk4, hk5, ghk6, hk6, lhk6, xhk6, ghk7, hk7, lhk7, xhk7, ghk8, hk8, lhk8, xhk8, hk9]
              · try simp only [go_sem, n1, n2, n3, n4, hk1, hk2, ghk4, hhk4, hk5, ghk6, hk6, ghk7, hk7, ghk8, hk8] at hk9
                all_goals
                obtain rfl := so_some h
                refine ⟨0, fun L hL => ?_⟩
                simp only [go_sem, ir85, E_impl_ordered_l1, R_impl_ordered_l1, ir85_b0, ir85_k0, ir85_o0, ir85_r0, hk1, hk2, lhk2, xhk2, fhk3, ghk4, hhk4, fhk4, hk5, ghk6, hk6, lhk6, xhk6, ghk7, hk7, lhk7, xhk7, ghk8, hk8, lhk8, xhk8, hk9]
            · rcases and_f ghk8 with ghk8a | ⟨ghk8a, ghk8b⟩
              · rcases and_f ghk8a with ghk8aa | ⟨ghk8aa, ghk8ab⟩
                · try simp only [go_sem, n1, n2, n3, n4, hk1, hk2, ghk4, hhk4, hk5, ghk6, hk6, ghk7, hk7] at ghk8aa
                  all_goals
                  rcases it_some h with ⟨hk9, h⟩ | ⟨hk9, h⟩
                  · try simp only [go_sem, n1, n2, n3, n4, hk1, hk2, ghk4, hhk4, hk5, ghk6, hk6, ghk7, hk7, ghk8aa] at hk9
                    all_goals
                    obtain rfl := so_some h
                    refine ⟨0, fun L hL => ?_⟩
                    simp only [go_sem, ir85, E_impl_ordered_l1, R_impl_ordered_l1, ir85_b0, ir85_k0, ir85_o0, ir85_r0, hk1, hk2, lhk2, xhk2, fhk3, ghk4, hhk4, fhk4, hk5, ghk6, hk6, lhk6, xhk6, ghk7, hk7, lhk7, xhk7, ghk8aa, hk9]
                  · try simp only [go_sem, n1, n2, n3, n4, hk1, hk2, ghk4, hhk4, hk5, ghk6, hk6, ghk7, hk7, ghk8aa] at hk9
                    all_goals
                    obtain rfl := so_some h
                    refine ⟨0, fun L hL => ?_⟩
                    simp only [go_sem, ir85, E_impl_ordered_l1, R_impl_ordered_l1, ir85_b0, ir85_k0, ir85_o0, ir85_r0, hk1, hk2, lhk2, xhk2, fhk3, ghk4, hhk4, fhk4, hk5, ghk6, hk6, lhk6, xhk6, ghk7, hk7, lhk7, xhk7, ghk8aa, hk9]
                · have ghk8abn := no_f ghk8ab
                  try simp only [go_sem, n1, n2, n3, n4, hk1, hk2, ghk4, hhk4, hk5, ghk6, hk6, ghk7, hk7] at ghk8aa
                  all_goals
                  try simp only [go_sem, n1, n2, n3, n4, hk1, hk2, ghk4, hhk4, hk5, ghk6, hk6, ghk7, hk7, ghk8aa] at ghk8abn
                  all_goals
                  rcases it_some h with ⟨hk9, h⟩ | ⟨hk9, h⟩
                  · try simp only [go_sem, n1, n2, n3, n4, hk1, hk2, ghk4, hhk4, hk5, ghk6, hk6, ghk7, hk7, ghk8aa, ghk8abn] at hk9
                    all_goals
                    obtain rfl := so_some h
                    refine ⟨0, fun L hL => ?_⟩
                    simp only [go_sem, ir85, E_impl_ordered_l1, R_impl_ordered_l1, ir85_b0, ir85_k0, ir85_o0, ir85_r0, hk1, hk2, lhk2, xhk2, fhk3, ghk4, hhk4, fhk4, hk5, ghk6, hk6, lhk6, xhk6, ghk7, hk7, lhk7, xhk7, ghk8aa, ghk8abn, hk9]
                  · try simp only [go_sem, n1, n2, n3, n4, hk1, hk2, ghk4, hhk4, hk5, ghk6, hk6, ghk7, hk7, ghk8aa, ghk8abn] at hk9
                    all_goals
                    obtain rfl := so_some h
                    refine ⟨0, fun L hL => ?_⟩
                    simp only [go_sem, ir85, E_impl_ordered_l1, R_impl_ordered_l1, ir85_b0, ir85_k0, ir85_o0, ir85_r0, hk1, hk2, lhk2, xhk2, fhk3, ghk4, hhk4, fhk4, hk5, ghk6, hk6, lhk6, xhk6, ghk7, hk7, lhk7, xhk7, ghk8aa, ghk8abn, hk9]
              · obtain ⟨ghk8aa, ghk8ab⟩ := and_t ghk8a
                have ghk8abn := no_t ghk8ab
                try simp only [go_sem, n1, n2, n3, n4, hk1, hk2, ghk4, hhk4, hk5, ghk6, hk6, ghk7, hk7] at ghk8aa
                all_goals
                try simp only [go_sem, n1, n2, n3, n4, hk1, hk2, ghk4, hhk4, hk5, ghk6, hk6, ghk7, hk7, ghk8aa] at ghk8abn
                all_goals
                try simp only [go_sem, n1, n2, n3, n4, hk1, hk2, ghk4, hhk4, hk5, ghk6, hk6, ghk7, hk7, ghk8aa, ghk8abn] at ghk8b
                all_goals
                rcases it_some h with ⟨hk9, h⟩ | ⟨hk9, h⟩
                · try simp only [go_sem, n1, n2, n3, n4, hk1, hk2, ghk4, hhk4, hk5, ghk6, hk6, ghk7, hk7, ghk8aa, ghk8abn, ghk8b] at hk9
                  all_goals
                  obtain rfl := so_some h
                  refine ⟨0, fun L hL => ?_⟩
                  simp only [go_sem, ir85, E_impl_ordered_l1, R_impl_ordered_l1, ir85_b0, ir85_k0, ir85_o0, ir85_r0, hk1, hk2, lhk2, xhk2, fhk3, ghk4, hhk4, fhk4, hk5, ghk6, hk6, lhk6, xhk6, ghk7, hk7, lhk7, xhk7, ghk8aa, ghk8abn, ghk8b, hk9]
                · try simp only [go_sem, n1, n2, n3, n4, hk1, hk2, ghk4, hhk4, hk5, ghk6, hk6, ghk7, hk7, ghk8aa, ghk8abn, ghk8b] at hk9
                  all_goals
                  obtain rfl := so_some h
                  refine ⟨0, fun L hL => ?_⟩
                  simp only [go_sem, ir85, E_impl_ordered_l1, R_impl_ordered_l1, ir85_b0, ir85_k0, ir85_o0, ir85_r0, hk1, hk2, lhk2, xhk2, fhk3, ghk4, hhk4, fhk4, hk5, ghk6, hk6, lhk6, xhk6, ghk7, hk7, lhk7, xhk7, ghk8aa, ghk8abn, ghk8b, hk9]
          · rcases and_f ghk7 with ghk7a | ⟨ghk7a, ghk7b⟩
            · try simp only [go_sem, n1, n2, n3, n4, hk1, hk2, ghk4, hhk4, hk5, ghk6, hk6] at ghk7a
              all_goals
              obtain ⟨hk8, h⟩ := ck_some h
              rcases or_split hk8 with ⟨ghk8, hk8⟩ | ghk8
              · try simp only [go_sem, n1, n2, n3, n4, hk1, hk2, ghk4, hhk4, hk5, ghk6, hk6, ghk7a] at ghk8
                all_goals
                have lhk8 := ix_lt hk8
                have xhk8 := getD_mapD Fault_av faults lhk8
                try simp only [go_sem] at lhk8
                try simp only [go_sem] at xhk8
                try simp only [go_sem, n1, n2, n3, n4, hk1, hk2, ghk4, hhk4, hk5, ghk6, hk6, ghk7a, ghk8] at hk8
                all_goals
                rcases it_some h with ⟨hk9, h⟩ | ⟨hk9, h⟩
                · try simp only [go_sem, n1, n2, n3, n4, hk1, hk2, ghk4, hhk4, hk5, ghk6, hk6, ghk7a, ghk8, hk8] at hk9
                  all_goals
                  obtain rfl := so_some h
                  refine ⟨0, fun L hL => ?_⟩
                  simp only [go_sem, ir85, E_impl_ordered_l1, R_impl_ordered_l1, ir85_b0, ir85_k0, ir85_o0, ir85_r0, hk1, hk2, lhk2, xhk2, fhk3, ghk4, hhk4, fhk4, hk5, ghk6, hk6, lhk6, xhk6, ghk7a, ghk8, hk8, lhk8, xhk8, hk9]
                · try simp only [go_sem, n1, n2, n3, n4, hk1, hk2, ghk4, hhk4, hk5, ghk6, hk6, ghk7a, ghk8, hk8] at hk9
                  all_goals
                  obtain rfl := so_some h
                  refine ⟨0, fun L hL => ?_⟩
                  simp only [go_sem, ir85, E_impl_ordered_l1, R_impl_ordered_l1, ir85_b0, ir85_k0, ir85_o0, ir85_r0, hk1, hk2, lhk2, xhk2, fhk3, ghk4, hhk4, fhk4, hk5, ghk6, hk6, lhk6, xhk6, ghk7a, ghk8, hk8, lhk8, xhk8, hk9]
              · rcases and_f ghk8 with ghk8a | ⟨ghk8a, ghk8b⟩
                · rcases and_f ghk8a with ghk8aa | ⟨ghk8aa, ghk8ab⟩
                  · try simp only [go_sem, n1, n2, n3, n4, hk1, hk2, ghk4, hhk4, hk5, ghk6, hk6, ghk7a] at ghk8aa
                    all_goals
                    rcases it_some h with ⟨hk9, h⟩ | ⟨hk9, h⟩
                    · try simp only [go_sem, n1, n2, n3, n4, hk1, hk2, ghk4, hhk4, hk5, ghk6, hk6, ghk7a, ghk8aa] at hk9
                      all_goals
                      obtain rfl := so_some h
                      refine ⟨0, fun L hL => ?_⟩
                      simp only [go_sem, ir85, E_impl_ordered_l1, R_impl_ordered_l1, ir85_b0, ir85_k0, ir85_o0, ir85_r0, hk1, hk2, lhk2, xhk2, fhk3, ghk4, hhk4, fhk4, hk5, ghk6, hk6, lhk6, xhk6, ghk7a, ghk8aa, hk9]
                    · try simp only [go_sem, n1, n2, n3, n4, hk1, hk2, ghk4, hhk4, hk5, ghk6, hk6, ghk7a, ghk8aa] at hk9
                      all_goals
                      obtain rfl := so_some h
                      refine ⟨0, fun L hL => ?_⟩
                      simp only [go_sem, ir85, E_impl_ordered_l1, R_impl_ordered_l1, ir85_b0, ir85_k0, ir85_o0, ir85_r0, hk1, hk2, lhk2, xhk2, fhk3, ghk4, hhk4, fhk4, hk5, ghk6, hk6, lhk6, xhk6, ghk7a, ghk8aa, hk9]
                  · have ghk8abn := no_f ghk8ab
                    try simp only [go_sem, n1, n2, n3, n4, hk1, hk2, ghk4, hhk4, hk5, ghk6, hk6, ghk7a] at ghk8aa
                    all_goals
                    try simp only [go_sem, n1, n2, n3, n4, hk1, hk2, ghk4, hhk4, hk5, ghk6, hk6, ghk7a, ghk8aa] at ghk8abn
                    all_goals
                    rcases it_some h with ⟨hk9, h⟩ | ⟨hk9, h⟩
                    · try simp only [go_sem, n1, n2, n3, n4, hk1, hk2, ghk4, hhk4, hk5, ghk6, hk6, ghk7a, ghk8aa, ghk8abn] at hk9
                      all_goals
                      obtain rfl := so_some h
                      refine ⟨0, fun L hL => ?_⟩
                      simp only [go_sem, ir85, E_impl_ordered_l1, R_impl_ordered_l1, ir85_b0, ir85_k0, ir85_o0, ir85_r0, hk1, hk2, lhk2, xhk2, fhk3, ghk4, hhk4, fhk4, hk5, ghk6, hk6, lhk6, xhk6, ghk7a, ghk8aa, ghk8abn, hk9]
                    · try simp only [go_sem, n1, n2, n3, n4, hk1, hk2, ghk4, hhk4, hk5, ghk6, hk6, ghk7a, ghk8aa, ghk8abn] at hk9
                      all_goals
                      obtain rfl := so_some h
                      refine ⟨0, fun L hL => ?_⟩
                      simp only [go_sem, ir85, E_impl_ordered_l1, R_impl_ordered_l1, ir85_b0, ir85_k0, ir85_o0, ir85_r0, hk1, hk2, lhk2, xhk2, fhk3, ghk4, hhk4, fhk4, hk5, ghk6, hk6, lhk6, xhk6, ghk7a, ghk8aa, ghk8abn, hk9]
                · obtain ⟨ghk8aa, ghk8ab⟩ := and_t ghk8a
                  have ghk8abn := no_t ghk8ab
                  try simp only [go_sem, n1, n2, n3, n4, hk1, hk2, ghk4, hhk4, hk5, ghk6, hk6, ghk7a] at ghk8aa
                  all_goals
                  try simp only [go_sem, n1, n2, n3, n4, hk1, hk2, ghk4, hhk4, hk5, ghk6, hk6, ghk7a, ghk8aa] at ghk8abn
                  all_goals
                  try simp only [go_sem, n1, n2, n3, n4, hk1, hk2, ghk4, hhk4, hk5, ghk6, hk6, ghk7a, ghk8aa, ghk8abn] at ghk8b
                  all_goals
                  rcases it_some h with ⟨hk9, h⟩ | ⟨hk9, h⟩
                  · try simp only [go_sem, n1, n2, n3, n4, hk1, hk2, ghk4, hhk4, hk5, ghk6, hk6, ghk7a, ghk8aa, ghk8abn, ghk8b] at hk9
                    all_goals
                    obtain rfl := so_some h
                    refine ⟨0, fun L hL => ?_⟩
                    simp only [go_sem, ir85, E_impl_ordered_l1, R_impl_ordered_l1, ir85_b0, ir85_k0, ir85_o0, ir85_r0, hk1, hk2, lhk2, xhk2, fhk3, ghk4, hhk4, fhk4, hk5, ghk6, hk6, lhk6, xhk6, ghk7a, ghk8aa, ghk8abn, ghk8b, hk9]
                  · try simp only [go_sem, n1, n2, n3, n4, hk1, hk2, ghk4, hhk4, hk5, ghk6, hk6, ghk7a, ghk8aa, ghk8abn, ghk8b] at hk9
                    all_goals
                    obtain rfl := so_some h
                    refine ⟨0, fun L hL => ?_⟩
                    simp only [go_sem, ir85, E_impl_ordered_l1, R_impl_ordered_l1, ir85_b0, ir85_k0, ir85_o0, ir85_r0, hk1, hk2, lhk2, xhk2, fhk3, ghk4, hhk4, fhk4, hk5, ghk6, hk6, lhk6, xhk6, ghk7a, ghk8aa, ghk8abn, ghk8b, hk9]
            · have ghk7bn := no_f ghk7b
              try simp only [go_sem, n1, n2, n3, n4, hk1, hk2, ghk4, hhk4, hk5, ghk6, hk6] at ghk7a
              all_goals
              try simp only [go_sem, n1, n2, n3, n4, hk1, hk2, ghk4, hhk4, hk5, ghk6, hk6, ghk7a] at ghk7bn
              all_goals
              obtain ⟨hk8, h⟩ := ck_some h
              rcases or_split hk8 with ⟨ghk8, hk8⟩ | ghk8
              · try simp only [go_sem, n1, n2, n3, n4, hk1, hk2, ghk4, hhk4, hk5, ghk6, hk6, ghk7a, ghk7bn] at ghk8
                all_goals
                have lhk8 := ix_lt hk8
                have xhk8 := getD_mapD Fault_av faults lhk8
                try simp only [go_sem] at lhk8
                try simp only [go_sem] at xhk8
                try simp only [go_sem, n1, n2, n3, n4, hk1, hk2, ghk4, hhk4, hk5, ghk6, hk6, ghk7a, ghk7bn, ghk8] at hk8
                all_goals
                rcases it_some h with ⟨hk9, h⟩ | ⟨hk9, h⟩
                · try simp only [go_sem, n1, n2, n3, n4, hk1, hk2, ghk4, hhk4, hk5, ghk6, hk6, ghk7a, ghk7bn, ghk8, hk8] at hk9
                  all_goals
                  obtain rfl := so_some h
                  refine ⟨0, fun L hL => ?_⟩
                  simp only [go_sem, ir85, E_impl_ordered_l1, R_impl_ordered_l1, ir85_b0, ir85_k0, ir85_o0, ir85_r0, hk1, hk2, lhk2, xhk2, fhk3, ghk4, hhk4, fhk4, hk5, ghk6, hk6, lhk6, xhk6, ghk7a, ghk7bn, ghk8, hk8, lhk8, xhk8, hk9]
                · try simp only [go_sem, n1, n2, n3, n4, hk1, hk2, ghk4, hhk4, hk5, ghk6, hk6, ghk7a, ghk7bn, ghk8, hk8] at hk9
                  all_goals
                  obtain rfl := so_some h
                  refine ⟨0, fun L hL => ?_⟩
                  simp only [go_sem, ir85, E_impl_ordered_l1, R_impl_ordered_l1, ir85_b0, ir85_k0, ir85_o0, ir85_r0, hk1, hk2, lhk2, xhk2, fhk3, ghk4, hhk4, fhk4, hk5, ghk6, hk6, lhk6, xhk6, ghk7a, ghk7bn, ghk8, hk8, lhk8, xhk8, hk9]
              · rcases and_f ghk8 with ghk8a | ⟨ghk8a, ghk8b⟩
                · rcases and_f ghk8a with ghk8aa | ⟨ghk8aa, ghk8ab⟩
                  · try simp only [go_sem, n1, n2, n3, n4, hk1, hk2, ghk4, hhk4, hk5, ghk6, hk6, ghk7a, ghk7bn] at ghk8aa
                    all_goals
                    rcases it_some h with ⟨hk9, h⟩ | ⟨hk9, h⟩
                    · try simp only [go_sem, n1, n2, n3, n4, hk1, hk2, ghk4, hhk4, hk5, ghk6, hk6, ghk7a, ghk7bn, ghk8aa] at hk9
                      all_goals
                      obtain rfl := so_some h
                      refine ⟨0, fun L hL => ?_⟩
                      simp only [go_sem, ir85, E_impl_ordered_l1, R_impl_ordered_l1, ir85_b0, ir85_k0, ir85_o0, ir85_r0, hk1, hk2, lhk2, xhk2, fhk3, ghk4, hhk4, fhk4, hk5, ghk6, hk6, lhk6, xhk6, ghk7a, ghk7bn, ghk8aa, hk9]
                    · try simp only [go_sem, n1, n2, n3, n4, hk1, hk2, ghk4, hhk4, hk5, ghk6, hk6, ghk7a, ghk7bn, ghk8aa] at hk9
                      all_goals
                      obtain rfl := so_some h
                      refine ⟨0, fun L hL => ?_⟩
                      simp only [go_sem, ir85, E_impl_ordered_l1, R_impl_ordered_l1, ir85_b0, ir85_k0, ir85_o0, ir85_r0, hk1, hk2, lhk2, xhk2, fhk3, ghk4, hhk4, fhk4, hk5, ghk6, hk6, lhk6, xhk6, ghk7a, ghk7bn, ghk8aa, hk9]
                  · have ghk8abn := no_f ghk8ab
                    try simp only [go_sem, n1, n2, n3, n4, hk1, hk2, ghk4, hhk4, hk5, ghk6, hk6, ghk7a, ghk7bn] at ghk8aa
                    all_goals
                    try simp only [go_sem, n1, n2, n3, n4, hk1, hk2, ghk4, hhk4, hk5, ghk6, hk6, ghk7a, ghk7bn, ghk8aa] at ghk8abn
                    all_goals
                    rcases it_some h with ⟨hk9, h⟩ | ⟨hk9, h⟩
                    · try simp only [go_sem, n1, n2, n3, n4, hk1, hk2, ghk4, hhk4, hk5, ghk6, hk6, ghk7a, ghk7bn, ghk8aa, ghk8abn] at hk9
                      all_goals
                      obtain rfl := so_some h
                      refine ⟨0, fun L hL => ?_⟩
                      simp only [go_sem, ir85, E_impl_ordered_l1, R_impl_ordered_l1, ir85_b0, ir85_k0, ir85_o0, ir85_r0, hk1, hk2, lhk2, xhk2, fhk3, ghk4, hhk4, fhk4, hk5, ghk6, hk6, lhk6, xhk6, ghk7a, ghk7bn, ghk8aa, ghk8abn, hk9]
                    · try simp only [go_sem, n1, n2, n3, n4, hk1, hk2, ghk4, hhk4, hk5, ghk6, hk6, ghk7a, ghk7bn, ghk8aa, ghk8abn] at hk9
                      all_goals
                      obtain rfl := so_some h
                      refine ⟨0, fun L hL => ?_⟩
                      simp only [go_sem, ir85, E_impl_ordered_l1, R_impl_ordered_l1, ir85_b0, ir85_k0, ir85_o0, ir85_r0, hk1, hk2, lhk2, xhk2, fhk3, ghk4, hhk4, fhk4, hk5, ghk6, hk6, lhk6, xhk6, ghk7a, ghk7bn, ghk8aa, ghk8abn, hk9]
                · obtain ⟨ghk8aa, ghk8ab⟩ := and_t ghk8a
                  have ghk8abn := no_t ghk8ab
                  try simp only [go_sem, n1, n2, n3, n4, hk1, hk2, ghk4, hhk4, hk5, ghk6, hk6, ghk7a, ghk7bn] at ghk8aa
                  all_goals
                  try simp only [go_sem, n1, n2, n3, n4, hk1, hk2, ghk4, hhk4, hk5, ghk6, hk6, ghk7a, ghk7bn, ghk8aa] at ghk8abn
                  all_goals
                  try simp only [go_sem, n1, n2, n3, n4, hk1, hk2, ghk4, hhk4, hk5, ghk6, hk6, ghk7a, ghk7bn, ghk8aa, ghk8abn] at ghk8b
                  all_goals
                  rcases it_some h with ⟨hk9, h⟩ | ⟨hk9, h⟩
                  · try simp only [go_sem, n1, n2, n3, n4, hk1, hk2, ghk4, hhk4, hk5, ghk6, hk6, ghk7a, ghk7bn, ghk8aa, ghk8abn, ghk8b] at hk9
                    all_goals
                    obtain rfl := so_some h
                    refine ⟨0, fun L hL => ?_⟩
                    simp only [go_sem, ir85, E_impl_ordered_l1, R_impl_ordered_l1, ir85_b0, ir85_k0, ir85_o0, ir85_r0, hk1, hk2, lhk2, xhk2, fhk3, ghk4, hhk4, fhk4, hk5, ghk6, hk6, lhk6, xhk6, ghk7a, ghk7bn, ghk8aa, ghk8abn, ghk8b, hk9]
                  · try simp only [go_sem, n1, n2, n3, n4, hk1, hk2, ghk4, hhk4, hk5, ghk6, hk6, ghk7a, ghk7bn, ghk8aa, ghk8abn, ghk8b] at hk9
                    all_goals
                    obtain rfl := so_some h
                    refine ⟨0, fun L hL => ?_⟩
                    simp only [go_sem, ir85, E_impl_ordered_l1, R_impl_ordered_l1, ir85_b0, ir85_k0, ir85_o0, ir85_r0, hk1, hk2, lhk2, xhk2, fhk3, ghk4, hhk4, fhk4, hk5, ghk6, hk6, lhk6, xhk6, ghk7a, ghk7bn, ghk8aa, ghk8abn, ghk8b, hk9]
        · try simp only [go_sem, n1, n2, n3, n4, hk1, hk2, ghk4, hhk4, hk5] at ghk6
          all_goals
          obtain ⟨hk7, h⟩ := ck_some h
          rcases or_split hk7 with ⟨ghk7, hk7⟩ | ghk7
          · try simp only [go_sem, n1, n2, n3, n4, hk1, hk2, ghk4, hhk4, hk5, ghk6] at ghk7
            all_goals
            have lhk7 := ix_lt hk7
            have xhk7 := getD_mapD Fault_av faults lhk7
            try simp only [go_sem] at lhk7
            try simp only [go_sem] at xhk7
            try simp only [go_sem, n1, n2, n3, n4, hk1, hk2, ghk4, hhk4, hk5, ghk6, ghk7] at hk7
            all_goals
            obtain ⟨hk8, h⟩ := ck_some h
            rcases or_split hk8 with ⟨ghk8, hk8⟩ | ghk8
            · try simp only [go_sem, n1, n2, n3, n4, hk1, hk2, ghk4, hhk4, hk5, ghk6, ghk7, hk7] at ghk8
              all_goals
              have lhk8 := ix_lt hk8
              have xhk8 := getD_mapD Fault_av faults lhk8
              try simp only [go_sem] at lhk8
              try simp only [go_sem] at xhk8
              try simp only [go_sem, n1, n2, n3, n4, hk1, hk2, ghk4, hhk4, hk5, ghk6, ghk7, hk7, ghk8] at hk8
              all_goals
              rcases it_some h with ⟨hk9, h⟩ | ⟨hk9, h⟩
              · try simp only [go_sem, n1, n2, n3, n4, hk1, hk2, ghk4, hhk4, hk5, ghk6, ghk7, hk7, ghk8, hk8] at hk9
                all_goals
                obtain rfl := so_some h
                refine ⟨0, fun L hL => ?_⟩
                simp only [go_sem, ir85, E_impl_ordered_l1, R_impl_ordered_l1, ir85_b0, ir85_k0, ir85_o0, ir85_r0, hk1, hk2, lhk2, xhk2, fhk3, ghk4, hhk4, fhk4, hk5, ghk6, ghk7, hk7, lhk7, xhk7, ghk8, hk8, lhk8, xhk8, hk9]
              · try simp only [go_sem, n1, n2, n3, n4, hk1, hk2, ghk4, hhk4, hk5, ghk6, ghk7, hk7, ghk8, hk8] at hk9
                all_goals
                obtain rfl := so_some h
                refine ⟨0, fun L hL => ?_⟩
                simp only [go_sem, ir85, E_impl_ordered_l1, R_impl_ordered_l1, ir85_b0, ir85_k0, ir85_o0, ir85_r0, hk1, hk2, lhk2, xhk2, fhk3, ghk4, hhk4, fhk4, hk5, ghk6, ghk7, hk7, lhk7, xhk7, ghk8, hk8, lhk8, xhk8, hk9]
            · rcases and_f ghk8 with ghk8a | ⟨ghk8a, ghk8b⟩
              · rcases and_f ghk8a with ghk8aa | ⟨ghk8aa, ghk8ab⟩
                · try simp only [go_sem, n1, n2, n3, n4, hk1, hk2, ghk4, hhk4, hk5, ghk6, ghk7, hk7] at ghk8aa
                  all_goals
                  rcases it_some h with ⟨hk9, h⟩ | ⟨hk9, h⟩
                  · try simp only [go_sem, n1, n2, n3, n4, hk1, hk2, ghk4, hhk4, hk5, ghk6, ghk7, hk7, ghk8aa] at hk9
                    all_goals
                    obtain rfl := so_some h
                    refine ⟨0, fun L hL => ?_⟩
                    simp only [go_sem, ir85, E_impl_ordered_l1, R_impl_ordered_l1, ir85_b0, ir85_k0, ir85_o0, ir85_r0, hk1, hk2, lhk2, xhk2, fhk3, ghk4, hhk4, fhk4, hk5, ghk6, ghk7, hk7, lhk7, xhk7, ghk8aa, hk9]
                  · try simp only [go_sem, n1, n2, n3, n4, hk1, hk2, ghk4, hhk4, hk5, ghk6, ghk7, hk7, ghk8aa] at hk9
                    all_goals
                    obtain rfl := so_some h
                    refine ⟨0, fun L hL => ?_⟩
                    simp only [go_sem, ir85, E_impl_ordered_l1, R_impl_ordered_l1, ir85_b0, ir85_k0, ir85_o0, ir85_r0, hk1, hk2, lhk2, xhk2, fhk3, ghk4, hhk4, fhk4, hk5, ghk6, ghk7, hk7, lhk7, xhk7, ghk8aa, hk9]
                · have ghk8abn := no_f ghk8ab
                  try simp only [go_sem, n1, n2, n3, n4, hk1, hk2, ghk4, hhk4, hk5, ghk6, ghk7, hk7] at ghk8aa
                  all_goals
                  try simp only [go_sem, n1, n2, n3, n4, hk1, hk2, ghk4, hhk4, hk5, ghk6, ghk7, hk7, ghk8aa] at ghk8abn
                  all_goals
                  rcases it_some h with ⟨hk9, h⟩ | ⟨hk9, h⟩
                  · try simp only [go_sem, n1, n2, n3, n4, hk1, hk2, ghk4, hhk4, hk5, ghk6, ghk7, hk7, ghk8aa, ghk8abn] at hk9
                    all_goals
                    obtain rfl := so_some h
                    refine ⟨0, fun L hL => ?_⟩
                    simp only [go_sem, ir85, E_impl_ordered_l1, R_impl_ordered_l1, ir85_b0, ir85_k0, ir85_o0, ir85_r0, hk1, hk2, lhk2, xhk2, fhk3, ghk4, hhk4, fhk4, hk5, ghk6, ghk7, hk7, lhk7, xhk7, ghk8aa, ghk8abn, hk9]
                  · try simp only [go_sem, n1, n2, n3, n4, hk1, hk2, ghk4, hhk4, hk5, ghk6, ghk7, hk7, ghk8aa, ghk8abn] at hk9
                    all_goals
                    obtain rfl := so_some h
                    refine ⟨0, fun L hL => ?_⟩
                    simp only [go_sem, ir85, E_impl_ordered_l1, R_impl_ordered_l1, ir85_b0, ir85_k0, ir85_o0, ir85_r0, hk1, hk2, lhk2, xhk2, fhk3, ghk4, hhk4, fhk4, hk5, ghk6, ghk7, hk7, lhk7, xhk7, ghk8aa, ghk8abn, hk9]
              · obtain ⟨ghk8aa, ghk8ab⟩ := and_t ghk8a
                have ghk8abn := no_t ghk8ab
                try simp only [go_sem, n1, n2, n3, n4, hk1, hk2, ghk4, hhk4, hk5, ghk6, ghk7, hk7] at ghk8aa
                all_goals
                try simp only [go_sem, n1, n2, n3, n4, hk1, hk2, ghk4, hhk4, hk5, ghk6, ghk7, hk7, ghk8aa] at ghk8abn
                all_goals
                try simp only [go_sem, n1, n2, n3, n4, hk1, hk2, ghk4, hhk4, hk5, ghk6, ghk7, hk7, ghk8aa, ghk8abn] at ghk8b
                all_goals
                rcases it_some h with ⟨hk9, h⟩ | ⟨hk9, h⟩
                · try simp only [go_sem, n1, n2, n3, n4, hk1, hk2, ghk4, hhk4, hk5, ghk6, ghk7, hk7, ghk8aa, ghk8abn, ghk8b] at hk9
                  all_goals
                  obtain rfl := so_some h
                  refine ⟨0, fun L hL => ?_⟩
                  simp only [go_sem, ir85, E_impl_ordered_l1, R_impl_ordered_l1, ir85_b0, ir85_k0, ir85_o0, ir85_r0, hk1, hk2, lhk2, xhk2, fhk3, ghk4, hhk4, fhk4, hk5, ghk6, ghk7, hk7, lhk7, xhk7, ghk8aa, ghk8abn, ghk8b, hk9]
                · try simp only [go_sem, n1, n2, n3, n4, hk1, hk2, ghk4, hhk4, hk5, ghk6, ghk7, hk7, ghk8aa, ghk8abn, ghk8b] at hk9
                  all_goals
                  obtain rfl := so_some h
                  refine ⟨0, fun L hL => ?_⟩
                  simp only [go_sem, ir85, E_impl_ordered_l1, R_impl_ordered_l1, ir85_b0, ir85_k0, ir85_o0, ir85_r0, hk1, hk2, lhk2, xhk2, fhk3, ghk4, hhk4, fhk4, hk5, ghk6, ghk7, hk7, lhk7, xhk7, ghk8aa, ghk8abn, ghk8b, hk9]
          · rcases and_f ghk7 with ghk7a | ⟨ghk7a, ghk7b⟩
            · try simp only [go_sem, n1, n2, n3, n4, hk1, hk2, ghk4, hhk4, hk5, ghk6] at ghk7a
              all_goals
              obtain ⟨hk8, h⟩ := ck_some h
              rcases or_split hk8 with ⟨ghk8, hk8⟩ | ghk8
              · try simp only [go_sem, n1, n2, n3, n4, hk1, hk2, ghk4, hhk4, hk5, ghk6, ghk7a] at ghk8
                all_goals
                have lhk8 := ix_lt hk8
                have xhk8 := getD_mapD Fault_av faults lhk8
                try simp only [go_sem] at lhk8
                try simp only [go_sem] at xhk8
                try simp only [go_sem, n1, n2, n3, n4, hk1, hk2, ghk4, hhk4, hk5, ghk6, ghk7a, ghk8] at hk8
                all_goals
                rcases it_some h with ⟨hk9, h⟩ | ⟨hk9, h⟩
                · try simp only [go_sem, n1, n2, n3, n4, hk1, hk2, ghk4, hhk4, hk5, ghk6, ghk7a, ghk8, hk8] at hk9
                  all_goals
                  obtain rfl := so_some h
                  refine ⟨0, fun L hL => ?_⟩
                  simp only [go_sem, ir85, E_impl_ordered_l1, R_impl_ordered_l1, ir85_b0, ir85_k0, ir85_o0, ir85_r0, hk1, hk2, lhk2, xhk2, fhk3, ghk4, hhk4, fhk4, hk5, ghk6, ghk7a, ghk8, hk8, lhk8, xhk8, hk9]
                · try simp only [go_sem, n1, n2, n3, n4, hk1, hk2, ghk4, hhk4, hk5, ghk6, ghk7a, ghk8, hk8] at hk9
                  all_goals
                  obtain rfl := so_some h
                  refine ⟨0, fun L hL => ?_⟩
                  simp only [go_sem, ir85, E_impl_ordered_l1, R_impl_ordered_l1, ir85_b0, ir85_k0, ir85_o0, ir85_r0, hk1, hk2, lhk2, xhk2, fhk3, ghk4, hhk4, fhk4, hk5, ghk6, ghk7a, ghk8, hk8, lhk8, xhk8, hk9]
              · rcases and_f ghk8 with ghk8a | ⟨ghk8a, ghk8b⟩
                · rcases and_f ghk8a with ghk8aa | ⟨ghk8aa, ghk8ab⟩
                  · try simp only [go_sem, n1, n2, n3, n4, hk1, hk2, ghk4, hhk4, hk5, ghk6, ghk7a] at ghk8aa
                    all_goals
                    rcases it_some h with ⟨hk9, h⟩ | ⟨hk9, h⟩
                    · try simp only [go_sem, n1, n2, n3, n4, hk1, hk2, ghk4, hhk4, hk5, ghk6, ghk7a, ghk8aa] at hk9
                      all_goals
                      obtain rfl := so_some h
                      refine ⟨0, fun L hL => ?_⟩
                      simp only [go_sem, ir85, E_impl_ordered_l1, R_impl_ordered_l1, ir85_b0, ir85_k0, ir85_o0, ir85_r0, hk1, hk2, lhk2, xhk2, fhk3, ghk4, hhk4, fhk4, hk5, ghk6, ghk7a, ghk8aa, hk9]
                    · try simp only [go_sem, n1, n2, n3, n4, hk1, hk2, ghk4, hhk4, hk5, ghk6, ghk7a, ghk8aa] at hk9
                      all_goals
                      obtain rfl := so_some h
                      refine ⟨0, fun L hL => ?_⟩
                      simp only [go_sem, ir85, E_impl_ordered_l1, R_impl_ordered_l1, ir85_b0, ir85_k0, ir85_o0, ir85_r0, hk1, hk2, lhk2, xhk2, fhk3, ghk4, hhk4, fhk4, hk5, ghk6, ghk7a, ghk8aa, hk9]
                  · have ghk8abn := no_f ghk8ab
                    try simp only [go_sem, n1, n2, n3, n4, hk1, hk2, ghk4, hhk4, hk5, ghk6, ghk7a] at ghk8aa
                    all_goals
                    try simp only [go_sem, n1, n2, n3, n4, hk1, hk2, ghk4, hhk4, hk5, ghk6, ghk7a, ghk8aa] at ghk8abn
                    all_goals
                    rcases it_some h with ⟨hk9, h⟩ | ⟨hk9, h⟩
                    · try simp only [go_sem, n1, n2, n3, n4, hk1, hk2, ghk4, hhk4, hk5, ghk6, ghk7a, ghk8aa, ghk8abn] at hk9
                      all_goals
                      obtain rfl := so_some h
                      refine ⟨0, fun L hL => ?_⟩
                      simp only [go_sem, ir85, E_impl_ordered_l1, R_impl_ordered_l1, ir85_b0, ir85_k0, ir85_o0, ir85_r0, hk1, hk2, lhk2, xhk2, fhk3, ghk4, hhk4, fhk4, hk5, ghk6, ghk7a, ghk8aa, ghk8abn, hk9]
                    · try simp only [go_sem, n1, n2, n3, n4, hk1, hk2, ghk4, hhk4, hk5, ghk6, ghk7a, ghk8aa, ghk8abn] at hk9
                      all_goals
                      obtain rfl := so_some h
                      refine ⟨0, fun L hL => ?_⟩
                      simp only [go_sem, ir85, E_impl_ordered_l1, R_impl_ordered_l1, ir85_b0, ir85_k0, ir85_o0, ir85_r0, hk1, hk2, lhk2, xhk2, fhk3, ghk4, hhk4, fhk4, hk5, ghk6, ghk7a, ghk8aa, ghk8abn, hk9]
                · obtain ⟨ghk8aa, ghk8ab⟩ := and_t ghk8a
                  have ghk8abn := no_t ghk8ab
                  try simp only [go_sem, n1, n2, n3, n4, hk1, hk2, ghk4, hhk4, hk5, ghk6, ghk7a] at ghk8aa
                  all_goals
                  try simp only [go_sem, n1, n2, n3, n4, hk1, hk2, ghk4, hhk4, hk5, ghk6, ghk7a, ghk8aa] at ghk8abn
                  all_goals
                  try simp only [go_sem, n1, n2, n3, n4, hk1, hk2, ghk4, hhk4, hk5, ghk6, ghk7a, ghk8aa, ghk8abn] at ghk8b
                  all_goals
                  rcases it_some h with ⟨hk9, h⟩ | ⟨hk9, h⟩
                  · try simp only [go_sem, n1, n2, n3, n4, hk1, hk2, ghk4, hhk4, hk5, ghk6, ghk7a, ghk8aa, ghk8abn, ghk8b] at hk9
                    all_goals
                    obtain rfl := so_some h
                    refine ⟨0, fun L hL => ?_⟩
                    simp only [go_sem, ir85, E_impl_ordered_l1, R_impl_ordered_l1, ir85_b0, ir85_k0, ir85_o0, ir85_r0, hk1, hk2, lhk2, xhk2, fhk3, ghk4, hhk4, fhk4, hk5, ghk6, ghk7a, ghk8aa, ghk8abn, ghk8b, hk9]
                  · try simp only [go_sem, n1, n2, n3, n4, hk1, hk2, ghk4, hhk4, hk5, ghk6, ghk7a, ghk8aa, ghk8abn, ghk8b] at hk9
                    all_goals
                    obtain rfl := so_some h
                    refine ⟨0, fun L hL => ?_⟩
                    simp only [go_sem, ir85, E_impl_ordered_l1, R_impl_ordered_l1, ir85_b0, ir85_k0, ir85_o0, ir85_r0, hk1, hk2, lhk2, xhk2, fhk3, ghk4, hhk4, fhk4, hk5, ghk6, ghk7a, ghk8aa, ghk8abn, ghk8b, hk9]
            · have ghk7bn := no_f ghk7b
              try simp only [go_sem, n1, n2, n3, n4, hk1, hk2, ghk4, hhk4, hk5, ghk6] at ghk7a
              all_goals
              try simp only [go_sem, n1, n2, n3, n4, hk1, hk2, ghk4, hhk4, hk5, ghk6, ghk7a] at ghk7bn
              all_goals
              obtain ⟨hk8, h⟩ := ck_some h
              rcases or_split hk8 with ⟨ghk8, hk8⟩ | ghk8
              · try simp only [go_sem, n1, n2, n3, n4, hk1, hk2, ghk4, hhk4, hk5, ghk6, ghk7a, ghk7bn] at ghk8
                all_goals
                have lhk8 := ix_lt hk8
                have xhk8 := getD_mapD Fault_av faults lhk8
                try simp only [go_sem] at lhk8
                try simp only [go_sem] at xhk8
                try simp only [go_sem, n1, n2, n3, n4, hk1, hk2, ghk4, hhk4, hk5, ghk6, ghk7a, ghk7bn, ghk8] at hk8
                all_goals
                rcases it_some h with ⟨hk9, h⟩ | ⟨hk9, h⟩
                · try simp only [go_sem, n1, n2, n3, n4, hk1, hk2, ghk4, hhk4, hk5, ghk6, ghk7a, ghk7bn, ghk8, hk8] at hk9
                  all_goals
                  obtain rfl := so_some h
                  refine ⟨0, fun L hL => ?_⟩
                  simp only [go_sem, ir85, E_impl_ordered_l1, R_impl_ordered_l1, ir85_b0, ir85_k0, ir85_o0, ir85_r0, hk1, hk2, lhk2, xhk2, fhk3, ghk4, hhk4, fhk4, hk5, ghk6, ghk7a, ghk7bn, ghk8, hk8, lhk8, xhk8, hk9]
                · try simp only [go_sem, n1, n2, n3, n4, hk1, hk2, ghk4, hhk4, hk5, ghk6, ghk7a, ghk7bn, ghk8, hk8] at hk9
                  all_goals
                  obtain rfl := so_some h
                  refine ⟨0, fun L hL => ?_⟩
                  simp only [go_sem, ir85, E_impl_ordered_l1, R_impl_ordered_l1, ir85_b0, ir85_k0, ir85_o0, ir85_r0, hk1, hk2, lhk2, xhk2, fhk3, ghk4, hhk4, fhk4, hk5, ghk6, ghk7a, ghk7bn, ghk8, hk8, lhk8, xhk8, hk9]
              · rcases and_f ghk8 with ghk8a | ⟨ghk8a, ghk8b⟩
                · rcases and_f ghk8a with ghk8aa | ⟨ghk8aa, ghk8ab⟩
                  · try simp only [go_sem, n1, n2, n3, n4, hk1, hk2, ghk4, hhk4, hk5, ghk6, ghk7a, ghk7bn] at ghk8aa
                    all_goals
                    rcases it_some h with ⟨hk9, h⟩ | ⟨hk9, h⟩
                    · try simp only [go_sem, n1, n2, n3, n4, hk1, hk2, ghk4, hhk4, hk5, ghk6, ghk7a, ghk7bn, ghk8aa] at hk9
                      all_goals
                      obtain rfl := so_some h
                      refine ⟨0, fun L hL => ?_⟩
                      simp only [go_sem, ir85, E_impl_ordered_l1, R_impl_ordered_l1, ir85_b0, ir85_k0, ir85_o0, ir85_r0, hk1, hk2, lhk2, xhk2, fhk3, ghk4, hhk4, fhk4, hk5, ghk6, ghk7a, ghk7bn, ghk8aa, hk9]
                    · try simp only [go_sem, n1, n2, n3, n4, hk1, hk2, ghk4, hhk4, hk5, ghk6, ghk7a, ghk7bn, ghk8aa] at hk9
                      all_goals
                      obtain rfl := so_some h
                      refine ⟨0, fun L hL => ?_⟩
                      simp only [go_sem, ir85, E_impl_ordered_l1, R_impl_ordered_l1, ir85_b0, ir85_k0, ir85_o0, ir85_r0, hk1, hk2, lhk2, xhk2, fhk3, ghk4, hhk4, fhk4, hk5, ghk6, ghk7a, ghk7bn, ghk8aa, hk9]
                  · have ghk8abn := no_f ghk8ab
                    try simp only [go_sem, n1, n2, n3, n4, hk1, hk2, ghk4, hhk4, hk5, ghk6, ghk7a, ghk7bn] at ghk8aa
                    all_goals
                    try simp only [go_sem, n1, n2, n3, n4, hk1, hk2, ghk4, hhk4, hk5, ghk6, ghk7a, ghk7bn, ghk8aa] at ghk8abn
                    all_goals
                    rcases it_some h with ⟨hk9, h⟩ | ⟨hk9, h⟩
                    · try simp only [go_sem, n1, n2, n3, n4, hk1, hk2, ghk4, hhk4, hk5, ghk6, ghk7a, ghk7bn, ghk8aa, ghk8abn] at hk9
                      all_goals
                      obtain rfl := so_some h
                      refine ⟨0, fun L hL => ?_⟩
                      simp only [go_sem, ir85, E_impl_ordered_l1, R_impl_ordered_l1, ir85_b0, ir85_k0, ir85_o0, ir85_r0, hk1, hk2, lhk2, xhk2, fhk3, ghk4, hhk4, fhk4, hk5, ghk6, ghk7a, ghk7bn, ghk8aa, ghk8abn, hk9]
                    · try simp only [go_sem, n1, n2, n3, n4, hk1, hk2, ghk4, hhk4, hk5, ghk6, ghk7a, ghk7bn, ghk8aa, ghk8abn] at hk9
                      all_goals
                      obtain rfl := so_some h
                      refine ⟨0, fun L hL => ?_⟩
                      simp only [go_sem, ir85, E_impl_ordered_l1, R_impl_ordered_l1, ir85_b0, ir85_k0, ir85_o0, ir85_r0, hk1, hk2, lhk2, xhk2, fhk3, ghk4, hhk4, fhk4, hk5, ghk6, ghk7a, ghk7bn, ghk8aa, ghk8abn, hk9]
                · obtain ⟨ghk8aa, ghk8ab⟩ := and_t ghk8a
                  have ghk8abn := no_t ghk8ab
                  try simp only [go_sem, n1, n2, n3, n4, hk1, hk2, ghk4, hhk4, hk5, ghk6, ghk7a, ghk7bn] at ghk8aa
                  all_goals
                  try simp only [go_sem, n1, n2, n3, n4, hk1, hk2, ghk4, hhk4, hk5, ghk6, ghk7a, ghk7bn, ghk8aa] at ghk8abn
                  all_goals
                  try simp only [go_sem, n1, n2, n3, n4, hk1, hk2, ghk4, hhk4, hk5, ghk6, ghk7a, ghk7bn, ghk8aa, ghk8abn] at ghk8b
                  all_goals
                  rcases it_some h with ⟨hk9, h⟩ | ⟨hk9, h⟩
                  · try simp only [go_sem, n1, n2, n3, n4, hk1, hk2, ghk4, hhk4, hk5, ghk6, ghk7a, ghk7bn, ghk8aa, ghk8abn, ghk8b] at hk9
                    all_goals
                    obtain rfl := so_some h
                    refine ⟨0, fun L hL => ?_⟩
                    simp only [go_sem, ir85, E_impl_ordered_l1, R_impl_ordered_l1, ir85_b0, ir85_k0, ir85_o0, ir85_r0, hk1, hk2, lhk2, xhk2, fhk3, ghk4, hhk4, fhk4, hk5, ghk6, ghk7a, ghk7bn, ghk8aa, ghk8abn, ghk8b, hk9]
                  · try simp only [go_sem, n1, n2, n3, n4, hk1, hk2, ghk4, hhk4, hk5, ghk6, ghk7a, ghk7bn, ghk8aa, ghk8abn, ghk8b] at hk9
                    all_goals
                    obtain rfl := so_some h
                    refine ⟨0, fun L hL => ?_⟩
                    simp only [go_sem, ir85, E_impl_ordered_l1, R_impl_ordered_l1, ir85_b0, ir85_k0, ir85_o0, ir85_r0, hk1, hk2, lhk2, xhk2, fhk3, ghk4, hhk4, fhk4, hk5, ghk6, ghk7a, ghk7bn, ghk8aa, ghk8abn, ghk8b, hk9]
    · have ghk4n := no_f ghk4
      have ghk4nn := no_t ghk4n
      try simp only [go_sem, n1, n2, n3, n4, hk1, hk2] at ghk4nn
      all_goals
      rcases it_some h with ⟨hk5, h⟩ | ⟨hk5, h⟩
      · try simp only [go_sem, n1, n2, n3, n4, hk1, hk2, ghk4nn] at hk5
        all_goals
        obtain rfl := so_some h
        refine ⟨0, fun L hL => ?_⟩
        simp only [go_sem, ir85, E_impl_ordered_l1, R_impl_ordered_l1, ir85_b0, ir85_k0, ir85_o0, ir85_r0, hk1, hk2, lhk2, xhk2, fhk3, ghk4nn, hk5]
      · try simp only [go_sem, n1, n2, n3, n4, hk1, hk2, ghk4nn] at hk5
        all_goals
        obtain ⟨hk6, h⟩ := ck_some h
        rcases or_split hk6 with ⟨ghk6, hk6⟩ | ghk6
        · try simp only [go_sem, n1, n2, n3, n4, hk1, hk2, ghk4nn, hk5] at ghk6
          all_goals
          have lhk6 := ix_lt hk6
          have xhk6 := getD_mapD Fault_av faults lhk6
          try simp only [go_sem] at lhk6
          try simp only [go_sem] at xhk6
          try simp only [go_sem, n1, n2, n3, n4, hk1, hk2, ghk4nn, hk5, ghk6] at hk6
          all_goals
          obtain ⟨hk7, h⟩ := ck_some h
          rcases or_split hk7 with ⟨ghk7, hk7⟩ | ghk7
          · try simp only [go_sem, n1, n2, n3, n4, hk1, hk2, ghk4nn, hk5, ghk6, hk6] at ghk7
            all_goals
            have lhk7 := ix_lt hk7
            have xhk7 := getD_mapD Fault_av faults lhk7
            try simp only [go_sem] at lhk7
            try simp only [go_sem] at xhk7
            try simp only [go_sem, n1, n2, n3, n4, hk1, hk2, ghk4nn, hk5, ghk6, hk6, ghk7] at hk7
            all_goals
            obtain ⟨hk8, h⟩ := ck_some h
            rcases or_split hk8 with ⟨ghk8, hk8⟩ | ghk8
            · try simp only [go_sem, n1, n2, n3, n4, hk1, hk2, ghk4nn, hk5, ghk6, hk6, ghk7, hk7] at ghk8
              all_goals
              have lhk8 := ix_lt hk8
              have xhk8 := getD_mapD Fault_av faults lhk8
              try simp only [go_sem] at lhk8
              try simp only [go_sem] at xhk8
              try simp only [go_sem, n1, n2, n3, n4, hk1, hk2, ghk4nn, hk5, ghk6, hk6, ghk7, hk7, ghk8] at hk8
              all_goals
              rcases it_some h with ⟨hk9, h⟩ | ⟨hk9, h⟩
              · try simp only [go_sem, n1, n2, n3, n4, hk1, hk2, ghk4nn, hk5, ghk6, hk6, ghk7, hk7, ghk8, hk8] at hk9
                all_goals
                obtain rfl := so_some h
                refine ⟨0, fun L hL => ?_⟩
                simp only [go_sem, ir85, E_impl_ordered_l1, R_impl_ordered_l1, ir85_b0, ir85_k0, ir85_o0, ir85_r0, hk1, hk2, lhk2, xhk2, fhk3, ghk4nn, hk5, ghk6, hk6, lhk6, xhk6, ghk7, hk7, lhk7, xhk7, ghk8, hk8, lhk8, xhk8, hk9]
              · try simp only [go_sem, n1, n2, n3, n4, hk1, hk2, ghk4nn, hk5, ghk6, hk6, ghk7, hk7, ghk8, hk8] at hk9
                all_goals
                obtain rfl := so_some h
                refine ⟨0, fun L hL => ?_⟩
                simp only [go_sem, ir85, E_impl_ordered_l1, R_impl_ordered_l1, ir85_b0, ir85_k0, ir85_o0, ir85_r0, hk1, hk2, lhk2, xhk2, fhk3, ghk4nn, hk5, ghk6, hk6, lhk6, xhk6, ghk7, hk7, lhk7, xhk7, ghk8, hk8, lhk8, xhk8, hk9]
            · rcases and_f ghk8 with ghk8a | ⟨ghk8a, ghk8b⟩
              · rcases and_f ghk8a with ghk8aa | ⟨ghk8aa, ghk8ab⟩
                · try simp only [go_sem, n1, n2, n3, n4, hk1, hk2, ghk4nn, hk5, ghk6, hk6, ghk7, hk7] at ghk8aa
                  all_goals
                  rcases it_some h with ⟨hk9, h⟩ | ⟨hk9, h⟩
                  · try simp only [go_sem, n1, n2, n3, n4, hk1, hk2, ghk4nn, hk5, ghk6, hk6, ghk7, hk7, ghk8aa] at hk9
                    all_goals
                    obtain rfl := so_some h
                    refine ⟨0, fun L hL => ?_⟩
                    simp only [go_sem, ir85, E_impl_ordered_l1, R_impl_ordered_l1, ir85_b0, ir85_k0, ir85_o0, ir85_r0, hk1, hk2, lhk2, xhk2, fhk3, ghk4nn, hk5, ghk6, hk6, lhk6, xhk6, ghk7, hk7, lhk7, xhk7, ghk8aa, hk9]
                  · try simp only [go_sem, n1, n2, n3, n4, hk1, hk2, ghk4nn, hk5, ghk6, hk6, ghk7, hk7, ghk8aa] at hk9
                    all_goals
                    obtain rfl := so_some h
                    refine ⟨0, fun L hL => ?_⟩
                    simp only [go_sem, ir85, E_impl_ordered_l1, R_impl_ordered_l1, ir85_b0, ir85_k0, ir85_o0, ir85_r0, hk1, hk2, lhk2, xhk2, fhk3, ghk4nn, hk5, ghk6, hk6, lhk6, xhk6, ghk7, hk7, lhk7, xhk7, ghk8aa, hk9]
                · have ghk8abn := no_f ghk8ab
                  try simp only [go_sem, n1, n2, n3, n4, hk1, hk2, ghk4nn, hk5, ghk6, hk6, ghk7, hk7] at ghk8aa
                  all_goals
                  try simp only [go_sem, n1, n2, n3, n4, hk1, hk2, ghk4nn, hk5, ghk6, hk6, ghk7, hk7, ghk8aa] at ghk8abn
                  all_goals
                  rcases it_some h with ⟨hk9, h⟩ | ⟨hk9, h⟩
                  · try simp only [go_sem, n1, n2, n3, n4, hk1, hk2, ghk4nn, hk5, ghk6, hk6, ghk7, hk7, ghk8aa, ghk8abn] at hk9
                    all_goals
                    obtain rfl := so_some h
                    refine ⟨0, fun L hL => ?_⟩
                    simp only [go_sem, ir85, E_impl_ordered_l1, R_impl_ordered_l1, ir85_b0, ir85_k0, ir85_o0, ir85_r0, hk1, hk2, lhk2, xhk2, fhk3, ghk4nn, hk5, ghk6, hk6, lhk6, xhk6, ghk7, hk7, lhk7, xhk7, ghk8aa, ghk8abn, hk9]
                  · try simp only [go_sem, n1, n2, n3, n4, hk1, hk2, ghk4nn, hk5, ghk6, hk6, ghk7, hk7, ghk8aa, ghk8abn] at hk9
                    all_goals
                    obtain rfl := so_some h
                    refine ⟨0, fun L hL => ?_⟩
                    simp only [go_sem, ir85, E_impl_ordered_l1, R_impl_ordered_l1, ir85_b0, ir85_k0, ir85_o0, ir85_r0, hk1, hk2, lhk2, xhk2, fhk3, ghk4nn, hk5, ghk6, hk6, lhk6, xhk6, ghk7, hk7, lhk7, xhk7, ghk8aa, ghk8abn, hk9]
              · obtain ⟨ghk8aa, ghk8ab⟩ := and_t ghk8a
                have ghk8abn := no_t ghk8ab
                try simp only [go_sem, n1, n2, n3, n4, hk1, hk2, ghk4nn, hk5, ghk6, hk6, ghk7, hk7] at ghk8aa
                all_goals
                try simp only [go_sem, n1, n2, n3, n4, hk1, hk2, ghk4nn, hk5, ghk6, hk6, ghk7, hk7, ghk8aa] at ghk8abn
                all_goals
                try simp only [go_sem, n1, n2, n3, n4, hk1, hk2, ghk4nn, hk5, ghk6, hk6, ghk7, hk7, ghk8aa, ghk8abn] at ghk8b
                all_goals
                rcases it_some h with ⟨hk9, h⟩ | ⟨hk9, h⟩
                · try simp only [go_sem, n1, n2, n3, n4, hk1, hk2, ghk4nn, hk5, ghk6, hk6, ghk7, hk7, ghk8aa, ghk8abn, ghk8b] at hk9
                  all_goals
                  obtain rfl := so_some h
                  refine ⟨0, fun L hL => ?_⟩
                  simp only [go_sem, ir85, E_impl_ordered_l1, R_impl_ordered_l1, ir85_b0, ir85_k0, ir85_o0, ir85_r0, hk1, hk2, lhk2, xhk2, fhk3, ghk4nn, hk5, ghk6, hk6, lhk6, xhk6, ghk7, hk7, lhk7, xhk7, ghk8aa, ghk8abn, ghk8b, hk9]
                · try simp only [go_sem, n1, n2, n3, n4, hk1, hk2, ghk4nn, hk5, ghk6, hk6, ghk7, hk7, ghk8aa, ghk8abn, ghk8b] at hk9
                  all_goals
                  obtain rfl := so_some h
                  refine ⟨0, fun L hL => ?_⟩
                  simp only [go_sem, ir85, E_impl_ordered_l1, R_impl_ordered_l1, ir85_b0, ir85_k0, ir85_o0, ir85_r0, hk1, hk2, lhk2, xhk2, fhk3, ghk4nn, hk5, ghk6, hk6, lhk6, xhk6, ghk7, hk7, lhk7, xhk7, ghk8aa, ghk8abn, ghk8b, hk9]
          · rcases and_f ghk7 with ghk7a | ⟨ghk7a, ghk7b⟩
            · try simp only [go_sem, n1, n2, n3, n4, hk1, hk2, ghk4nn, hk5, ghk6, hk6] at ghk7a
              all_goals
              obtain ⟨hk8, h⟩ := ck_some h
              rcases or_split hk8 with ⟨ghk8, hk8⟩ | ghk8
              · try simp only [go_sem, n1, n2, n3, n4, hk1, hk2, ghk4nn, hk5, ghk6, hk6, ghk7a] at ghk8
                all_goals
                have lhk8 := ix_lt hk8
                have xhk8 := getD_mapD Fault_av faults lhk8
                try simp only [go_sem] at lhk8
                try simp only [go_sem] at xhk8
                try simp only [go_sem, n1, n2, n3, n4, hk1, hk2, ghk4nn, hk5, ghk6, hk6, ghk7a, ghk8] at hk8
                all_goals
                rcases it_some h with ⟨hk9, h⟩ | ⟨hk9, h⟩
                · try simp only [go_sem, n1, n2, n3, n4, hk1, hk2, ghk4nn, hk5, ghk6, hk6, ghk7a, ghk8, hk8] at hk9
                  all_goals
                  obtain rfl := so_some h
                  refine ⟨0, fun L hL => ?_⟩
                  simp only [go_sem, ir85, E_impl_ordered_l1, R_impl_ordered_l1, ir85_b0, ir85_k0, ir85_o0, ir85_r0, hk1, hk2, lhk2, xhk2, fhk3, ghk4nn, hk5, ghk6, hk6, lhk6, xhk6, ghk7a, ghk8, hk8, lhk8, xhk8, hk9]
                · try simp only [go_sem, n1, n2, n3, n4, hk1, hk2, ghk4nn, hk5, ghk6, hk6, ghk7a, ghk8, hk8] at hk9
                  all_goals
                  obtain rfl := so_some h
                  refine ⟨0, fun L hL => ?_⟩
                  simp only [go_sem, ir85, E_impl_ordered_l1, R_impl_ordered_l1, ir85_b0, ir85_k0, ir85_o0, ir85_r0, hk1, hk2, lhk2, xhk2, fhk3, ghk4nn, hk5, ghk6, hk6, lhk6, xhk6, ghk7a, ghk8, hk8, lhk8, xhk8, hk9]
              · rcases and_f ghk8 with ghk8a | ⟨ghk8a, ghk8b⟩
                · rcases and_f ghk8a with ghk8aa | ⟨ghk8aa, ghk8ab⟩
                  · try simp only [go_sem, n1, n2, n3, n4, hk1, hk2, ghk4nn, hk5, ghk6, hk6, ghk7a] at ghk8aa
                    all_goals
                    rcases it_some h with ⟨hk9, h⟩ | ⟨hk9, h⟩
                    · try simp only [go_sem, n1, n2, n3, n4, hk1, hk2, ghk4nn, hk5, ghk6, hk6, ghk7a, ghk8aa] at hk9
                      all_goals
                      obtain rfl := so_some h
                      refine ⟨0, fun L hL => ?_⟩
                      simp only [go_sem, ir85, E_impl_ordered_l1, R_impl_ordered_l1, ir85_b0, ir85_k0, ir85_o0, ir85_r0, hk1, hk2, lhk2, xhk2, fhk3, ghk4nn, hk5, ghk6, hk6, lhk6, xhk6, ghk7a, ghk8aa, hk9]
                    · try simp only [go_sem, n1, n2, n3, n4, hk1, hk2, ghk4nn, hk5, ghk6, hk6, ghk7a, ghk8aa] at hk9
                      all_goals
                      obtain rfl := so_some h
                      refine ⟨0, fun L hL => ?_⟩
                      simp only [go_sem, ir85, E_impl_ordered_l1, R_impl_ordered_l1, ir85_b0, ir85_k0, ir85_o0, ir85_r0, hk1, hk2, lhk2, xhk2, fhk3, ghk4nn, hk5, ghk6, hk6, lhk6, xhk6, ghk7a, ghk8aa, hk9]
                  · have ghk8abn := no_f ghk8ab
                    try simp only [go_sem, n1, n2, n3, n4, hk1, hk2, ghk4nn, hk5, ghk6, hk6, ghk7a] at ghk8aa
                    all_goals
                    try simp only [go_sem, n1, n2, n3, n4, hk1, hk2, ghk4nn, hk5, ghk6, hk6, ghk7a, ghk8aa] at ghk8abn
                    all_goals
                    rcases it_some h with ⟨hk9, h⟩ | ⟨hk9, h⟩
                    · try simp only [go_sem, n1, n2, n3, n4, hk1, hk2, ghk4nn, hk5, ghk6, hk6, ghk7a, ghk8aa, ghk8abn] at hk9
                      all_goals
                      obtain rfl := so_some h
                      refine ⟨0, fun L hL => ?_⟩
                      simp only [go_sem, ir85, E_impl_ordered_l1, R_impl_ordered_l1, ir85_b0, ir85_k0, ir85_o0, ir85_r0, hk1, hk2, lhk2, xhk2, fhk3, ghk4nn, hk5, ghk6, hk6, lhk6, xhk6, ghk7a, ghk8aa, ghk8abn, hk9]
                    · try simp only [go_sem, n1, n2, n3, n4, hk1, hk2, ghk4nn, hk5, ghk6, hk6, ghk7a, ghk8aa, ghk8abn] at hk9
                      all_goals
                      obtain rfl := so_some h
                      refine ⟨0, fun L hL => ?_⟩
                      simp only [go_sem, ir85, E_impl_ordered_l1, R_impl_ordered_l1, ir85_b0, ir85_k0, ir85_o0, ir85_r0, hk1, hk2, lhk2, xhk2, fhk3, ghk4nn, hk5, ghk6, hk6, lhk6, xhk6, ghk7a, ghk8aa, ghk8abn, hk9]
                · obtain ⟨ghk8aa, ghk8ab⟩ := and_t ghk8a
                  have ghk8abn := no_t ghk8ab
                  try simp only [go_sem, n1, n2, n3, n4, hk1, hk2, ghk4nn, hk5, ghk6, hk6, ghk7a] at ghk8aa
                  all_goals
                  try simp only [go_sem, n1, n2, n3, n4, hk1, hk2, ghk4nn, hk5, ghk6, hk6, ghk7a, ghk8aa] at ghk8abn
                  all_goals
                  try simp only [go_sem, n1, n2, n3, n4, hk1, hk2, ghk4nn, hk5, ghk6, hk6, ghk7a, ghk8aa, ghk8abn] at ghk8b
                  all_goals
                  rcases it_some h with ⟨hk9, h⟩ | ⟨hk9, h⟩
                  · try simp only [go_sem, n1, n2, n3, n4, hk1, hk2, ghk4nn, hk5, ghk6, hk6, ghk7a, ghk8aa, ghk8abn, ghk8b] at hk9
                    all_goals
                    obtain rfl := so_some h
                    refine ⟨0, fun L hL => ?_⟩
                    simp only [go_sem, ir85, E_impl_ordered_l1, R_impl_ordered_l1, ir85_b0, ir85_k0, ir85_o0, ir85_r0, hk1, hk2, lhk2, xhk2, fhk3, ghk4nn, hk5, ghk6, hk6, lhk6, xhk6, ghk7a, ghk8aa, ghk8abn, ghk8b, hk9]
                  · try simp only [go_sem, n1, n2, n3, n4, hk1, hk2, ghk4nn, hk5, ghk6, hk6, ghk7a, ghk8aa, ghk8abn, ghk8b] at hk9
                    all_goals
                    obtain rfl := so_some h
                    refine ⟨0, fun L hL => ?_⟩
                    simp only [go_sem, ir85, E_impl_ordered_l1, R_impl_ordered_l1, ir85_b0, ir85_k0, ir85_o0, ir85_r0, hk1, hk2, lhk2, xhk2, fhk3, ghk4nn, hk5, ghk6, hk6, lhk6, xhk6, ghk7a, ghk8aa, ghk8abn, ghk8b, hk9]
            · have ghk7bn := no_f ghk7b
              try simp only [go_sem, n1, n2, n3, n4, hk1, hk2, ghk4nn, hk5, ghk6, hk6] at ghk7a
              all_goals
              try simp only [go_sem, n1, n2, n3, n4, hk1, hk2, ghk4nn, hk5, ghk6, hk6, ghk7a] at ghk7bn
              all_goals
              obtain ⟨hk8, h⟩ := ck_some h
              rcases or_split hk8 with ⟨ghk8, hk8⟩ | ghk8
              · try simp only [go_sem, n1, n2, n3, n4, hk1, hk2, ghk4nn, hk5, ghk6, hk6, ghk7a, ghk7bn] at ghk8
                all_goals
                have lhk8 := ix_lt hk8
                have xhk8 := getD_mapD Fault_av faults lhk8
                try simp only [go_sem] at lhk8
                try simp only [go_sem] at xhk8
                try simp only [go_sem, n1, n2, n3, n4, hk1, hk2, ghk4nn, hk5, ghk6, hk6, ghk7a, ghk7bn, ghk8] at hk8
                all_goals
                rcases it_some h with ⟨hk9, h⟩ | ⟨hk9, h⟩
                · try simp only [go_sem, n1, n2, n3, n4, hk1, hk2, ghk4nn, hk5, ghk6, hk6, ghk7a, ghk7bn, ghk8, hk8] at hk9
                  all_goals
                  obtain rfl := so_some h
                  refine ⟨0, fun L hL => ?_⟩
                  simp only [go_sem, ir85, E_impl_ordered_l1, R_impl_ordered_l1, ir85_b0, ir85_k0, ir85_o0, ir85_r0, hk1, hk2, lhk2, xhk2, fhk3, ghk4nn, hk5, ghk6, hk6, lhk6, xhk6, ghk7a, ghk7bn, ghk8, hk8, lhk8, xhk8, hk9]
                · try simp only [go_sem, n1, n2, n3, n4, hk1, hk2, ghk4nn, hk5, ghk6, hk6, ghk7a, ghk7bn, ghk8, hk8] at hk9
                  all_goals
                  obtain rfl := so_some h
                  refine ⟨0, fun L hL => ?_⟩
                  simp only [go_sem, ir85, E_impl_ordered_l1, R_impl_ordered_l1, ir85_b0, ir85_k0, ir85_o0, ir85_r0, hk1, hk2, lhk2, xhk2, fhk3, ghk4nn, hk5, ghk6, hk6, lhk6, xhk6, ghk7a, ghk7bn, ghk8, hk8, lhk8, xhk8, hk9]
              · rcases and_f ghk8 with ghk8a | ⟨ghk8a, ghk8b⟩
                · rcases and_f ghk8a with ghk8aa | ⟨ghk8aa, ghk8ab⟩
                  · try simp only [go_sem, n1, n2, n3, n4, hk1, hk2, ghk4nn, hk5, ghk6, hk6, ghk7a, ghk7bn] at ghk8aa
                    all_goals
                    rcases it_some h with ⟨hk9, h⟩ | ⟨hk9, h⟩
                    · try simp only [go_sem, n1, n2, n3, n4, hk1, hk2, ghk4nn, hk5, ghk6, hk6, ghk7a, ghk7bn, ghk8aa] at hk9
                      all_goals
                      obtain rfl := so_some h
                      refine ⟨0, fun L hL => ?_⟩
                      simp only [go_sem, ir85, E_impl_ordered_l1, R_impl_ordered_l1, ir85_b0, ir85_k0, ir85_o0, ir85_r0, hk1, hk2, lhk2, xhk2, fhk3, ghk4nn, hk5, ghk6, hk6, lhk6, xhk6, ghk7a, ghk7bn, ghk8aa, hk9]
                    · try simp only [go_sem, n1, n2, n3, n4, hk1, hk2, ghk4nn, hk5, ghk6, hk6, ghk7a, ghk7bn, ghk8aa] at hk9
                      all_goals
                      obtain rfl := so_some h
                      refine ⟨0, fun L hL => ?_⟩
                      simp only [go_sem, ir85, E_impl_ordered_l1, R_impl_ordered_l1, ir85_b0, ir85_k0, ir85_o0, ir85_r0, hk1, hk2, lhk2, xhk2, fhk3, ghk4nn, hk5, ghk6, hk6, lhk6, xhk6, ghk7a, ghk7bn, ghk8aa, hk9]
                  · have ghk8abn := no_f ghk8ab
                    try simp only [go_sem, n1, n2, n3, n4, hk1, hk2, ghk4nn, hk5, ghk6, hk6, ghk7a, ghk7bn] at ghk8aa
                    all_goals
                    try simp only [go_sem, n1, n2, n3, n4, hk1, hk2, ghk4nn, hk5, ghk6, hk6, ghk7a, ghk7bn, ghk8aa] at ghk8abn
                    all_goals
                    rcases it_some h with ⟨hk9, h⟩ | ⟨hk9, h⟩
                    · try simp only [go_sem, n1, n2, n3, n4, hk1, hk2, ghk4nn, hk5, ghk6, hk6, ghk7a, ghk7bn, ghk8aa, ghk8abn] at hk9
                      all_goals
                      obtain rfl := so_some h
                      refine ⟨0, fun L hL => ?_⟩
                      simp only [go_sem, ir85, E_impl_ordered_l1, R_impl_ordered_l1, ir85_b0, ir85_k0, ir85_o0, ir85_r0, hk1, hk2, lhk2, xhk2, fhk3, ghk4nn, hk5, ghk6, hk6, lhk6, xhk6, ghk7a, ghk7bn, ghk8aa, ghk8abn, hk9]
                    · try simp only [go_sem, n1, n2, n3, n4, hk1, hk2, ghk4nn, hk5, ghk6, hk6, ghk7a, ghk7bn, ghk8aa, ghk8abn] at hk9
                      all_goals
                      obtain rfl := so_some h
                      refine ⟨0, fun L hL => ?_⟩
                      simp only [go_sem, ir85, E_impl_ordered_l1, R_impl_ordered_l1, ir85_b0, ir85_k0, ir85_o0, ir85_r0, hk1, hk2, lhk2, xhk2, fhk3, ghk4nn, hk5, ghk6, hk6, lhk6, xhk6, ghk7a, ghk7bn, ghk8aa, ghk8abn, hk9]
                · obtain ⟨ghk8aa, ghk8ab⟩ := and_t ghk8a
                  have ghk8abn := no_t ghk8ab
                  try simp only [go_sem, n1, n2, n3, n4, hk1, hk2, ghk4nn, hk5, ghk6, hk6, ghk7a, ghk7bn] at ghk8aa
                  all_goals
                  try simp only [go_sem, n1, n2, n3, n4, hk1, hk2, ghk4nn, hk5, ghk6, hk6, ghk7a, ghk7bn, ghk8aa] at ghk8abn
                  all_goals
                  try simp only [go_sem, n1, n2, n3, n4, hk1, hk2, ghk4nn, hk5, ghk6, hk6, ghk7a, ghk7bn, ghk8aa, ghk8abn] at ghk8b
                  all_goals
                  rcases it_some h with ⟨hk9, h⟩ | ⟨hk9, h⟩
                  · try simp only [go_sem, n1, n2, n3, n4, hk1, hk2, ghk4nn, hk5, ghk6, hk6, ghk7a, ghk7bn, ghk8aa, ghk8abn, ghk8b] at hk9
                    all_goals
                    obtain rfl := so_some h
                    refine ⟨0, fun L hL => ?_⟩
                    simp only [go_sem, ir85, E_impl_ordered_l1, R_impl_ordered_l1, ir85_b0, ir85_k0, ir85_o0, ir85_r0, hk1, hk2, lhk2, xhk2, fhk3, ghk4nn, hk5, ghk6, hk6, lhk6, xhk6, ghk7a, ghk7bn, ghk8aa, ghk8abn, ghk8b, hk9]
                  · try simp only [go_sem, n1, n2, n3, n4, hk1, hk2, ghk4nn, hk5, ghk6, hk6, ghk7a, ghk7bn, ghk8aa, ghk8abn, ghk8b] at hk9
                    all_goals
                    obtain rfl := so_some h
                    refine ⟨0, fun L hL => ?_⟩
                    simp only [go_sem, ir85, E_impl_ordered_l1, R_impl_ordered_l1, ir85_b0, ir85_k0, ir85_o0, ir85_r0, hk1, hk2, lhk2, xhk2, fhk3, ghk4nn, hk5, ghk6, hk6, lhk6, xhk6, ghk7a, ghk7bn, ghk8aa, ghk8abn, ghk8b, hk9]
        · try simp only [go_sem, n1, n2, n3, n4, hk1, hk2, ghk4nn, hk5] at ghk6
          all_goals
          obtain ⟨hk7, h⟩ := ck_some h
          rcases or_split hk7 with ⟨ghk7, hk7⟩ | ghk7
          · try simp only [go_sem, n1, n2, n3, n4, hk1, hk2, ghk4nn, hk5, ghk6] at ghk7
            all_goals
            have lhk7 := ix_lt hk7
            have xhk7 := getD_mapD Fault_av faults lhk7
            try simp only [go_sem] at lhk7
            try simp only [go_sem] at xhk7
            try simp only [go_sem, n1, n2, n3, n4, hk1, hk2, ghk4nn, hk5, ghk6, ghk7] at hk7
            all_goals
            obtain ⟨hk8, h⟩ := ck_some h
            rcases or_split hk8 with ⟨ghk8, hk8⟩ | ghk8
            · try simp only [go_sem, n1, n2, n3, n4, hk1, hk2, ghk4nn, hk5, ghk6, ghk7, hk7] at ghk8
              all_goals
              have lhk8 := ix_lt hk8
              have xhk8 := getD_mapD Fault_av faults lhk8
              try simp only [go_sem] at lhk8
              try simp only [go_sem] at xhk8
              try simp only [go_sem, n1, n2, n3, n4, hk1, hk2, ghk4nn, hk5, ghk6, ghk7, hk7, ghk8] at hk8
              all_goals
              rcases it_some h with ⟨hk9, h⟩ | ⟨hk9, h⟩
              · try simp only [go_sem, n1, n2, n3, n4, hk1, hk2, ghk4nn, hk5, ghk6, ghk7, hk7, ghk8, hk8] at hk9
                all_goals
                obtain rfl := so_some h
                refine ⟨0, fun L hL => ?_⟩
                simp only [go_sem, ir85, E_impl_ordered_l1, R_impl_ordered_l1, ir85_b0, ir85_k0, ir85_o0, ir85_r0, hk1, hk2, lhk2, xhk2, fhk3, ghk4nn, hk5, ghk6, ghk7, hk7, lhk7, xhk7, ghk8, hk8, lhk8, xhk8, hk9]
              · try simp only [go_sem, n1, n2, n3, n4, hk1, hk2, ghk4nn, hk5, ghk6, ghk7, hk7, ghk8, hk8] at hk9
                all_goals
                obtain rfl := so_some h
                refine ⟨0, fun L hL => ?_⟩
                simp only [go_sem, ir85, E_impl_ordered_l1, R_impl_ordered_l1, ir85_b0, ir85_k0, ir85_o0, ir85_r0, hk1, hk2, lhk2, xhk2, fhk3, ghk4nn, hk5, ghk6, ghk7, hk7, lhk7, xhk7, ghk8, hk8, lhk8, xhk8, hk9]
            · rcases and_f ghk8 with ghk8a | ⟨ghk8a, ghk8b⟩
              · rcases and_f ghk8a with ghk8aa | ⟨ghk8aa, ghk8ab⟩
                · try simp only [go_sem, n1, n2, n3, n4, hk1, hk2, ghk4nn, hk5, ghk6, ghk7, hk7] at ghk8aa
                  all_goals
                  rcases it_some h with ⟨hk9, h⟩ | ⟨hk9, h⟩
                  · try simp only [go_sem, n1, n2, n3, n4, hk1, hk2, ghk4nn, hk5, ghk6, ghk7, hk7, ghk8aa] at hk9
                    all_goals
                    obtain rfl := so_some h
                    refine ⟨0, fun L hL => ?_⟩
                    simp only [go_sem, ir85, E_impl_ordered_l1, R_impl_ordered_l1, ir85_b0, ir85_k0, ir85_o0, ir85_r0, hk1, hk2, lhk2, xhk2, fhk3, ghk4nn, hk5, ghk6, ghk7, hk7, lhk7, xhk7, ghk8aa, hk9]
                  · try simp only [go_sem, n1, n2, n3, n4, hk1, hk2, ghk4nn, hk5, ghk6, ghk7, hk7, ghk8aa] at hk9
                    all_goals
                    obtain rfl := so_some h
                    refine ⟨0, fun L hL => ?_⟩
                    simp only [go_sem, ir85, E_impl_ordered_l1, R_impl_ordered_l1, ir85_b0, ir85_k0, ir85_o0, ir85_r0, hk1, hk2, lhk2, xhk2, fhk3, ghk4nn, hk5, ghk6, ghk7, hk7, lhk7, xhk7, ghk8aa, hk9]
                · have ghk8abn := no_f ghk8ab
                  try simp only [go_sem, n1, n2, n3, n4, hk1, hk2, ghk4nn, hk5, ghk6, ghk7, hk7] at ghk8aa
                  all_goals
                  try simp only [go_sem, n1, n2, n3, n4, hk1, hk2, ghk4nn, hk5, ghk6, ghk7, hk7, ghk8aa] at ghk8abn
                  all_goals
                  rcases it_some h with ⟨hk9, h⟩ | ⟨hk9, h⟩
                  · try simp only [go_sem, n1, n2, n3, n4, hk1, hk2, ghk4nn, hk5, ghk6, ghk7, hk7, ghk8aa, ghk8abn] at hk9
                    all_goals
                    obtain rfl := so_some h
                    refine ⟨0, fun L hL => ?_⟩
                    simp only [go_sem, ir85, E_impl_ordered_l1, R_impl_ordered_l1, ir85_b0, ir85_k0, ir85_o0, ir85_r0, hk1, hk2, lhk2, xhk2, fhk3, ghk4nn, hk5, ghk6, ghk7, hk7, lhk7, xhk7, ghk8aa, ghk8abn, hk9]
                  · try simp only [go_sem, n1, n2, n3, n4, hk1, hk2, ghk4nn, hk5, ghk6, ghk7, hk7, ghk8aa, ghk8abn] at hk9
                    all_goals
                    obtain rfl := so_some h
                    refine ⟨0, fun L hL => ?_⟩
                    simp only [go_sem, ir85, E_impl_ordered_l1, R_impl_ordered_l1, ir85_b0, ir85_k0, ir85_o0, ir85_r0, hk1, hk2, lhk2, xhk2, fhk3, ghk4nn, hk5, ghk6, ghk7, hk7, lhk7, xhk7, ghk8aa, ghk8abn, hk9]
              · obtain ⟨ghk8aa, ghk8ab⟩ := and_t ghk8a
                have ghk8abn := no_t ghk8ab
                try simp only [go_sem, n1, n2, n3, n4, hk1, hk2, ghk4nn, hk5, ghk6, ghk7, hk7] at ghk8aa
                all_goals
                try simp only [go_sem, n1, n2, n3, n4, hk1, hk2, ghk4nn, hk5, ghk6, ghk7, hk7, ghk8aa] at ghk8abn
                all_goals
                try simp only [go_sem, n1, n2, n3, n4, hk1, hk2, ghk4nn, hk5, ghk6, ghk7, hk7, ghk8aa, ghk8abn] at ghk8b
                all_goals
                rcases it_some h with ⟨hk9, h⟩ | ⟨hk9, h⟩
                · try simp only [go_sem, n1, n2, n3, n4, hk1, hk2, ghk4nn, hk5, ghk6, ghk7, hk7, ghk8aa, ghk8abn, ghk8b] at hk9
                  all_goals
                  obtain rfl := so_some h
                  refine ⟨0, fun L hL => ?_⟩
                  simp only [go_sem, ir85, E_impl_ordered_l1, R_impl_ordered_l1, ir85_b0, ir85_k0, ir85_o0, ir85_r0, hk1, hk2, lhk2, xhk2, fhk3, ghk4nn, hk5, ghk6, ghk7, hk7, lhk7, xhk7, ghk8aa, ghk8abn, ghk8b, hk9]
                · try simp only [go_sem, n1, n2, n3, n4, hk1, hk2, ghk4nn, hk5, ghk6, ghk7, hk7, ghk8aa, ghk8abn, ghk8b] at hk9
                  all_goals
                  obtain rfl := so_some h
                  refine ⟨0, fun L hL => ?_⟩
                  simp only [go_sem, ir85, E_impl_ordered_l1, R_impl_ordered_l1, ir85_b0, ir85_k0, ir85_o0, ir85_r0, hk1, hk2, lhk2, xhk2, fhk3, ghk4nn, hk5, ghk6, ghk7, hk7, lhk7, xhk7, ghk8aa, ghk8abn, ghk8b, hk9]
          · rcases and_f ghk7 with ghk7a | ⟨ghk7a, ghk7b⟩
            · try simp only [go_sem, n1, n2, n3, n4, hk1, hk2, ghk4nn, hk5, ghk6] at ghk7a
              all_goals
              obtain ⟨hk8, h⟩ := ck_some h
              rcases or_split hk8 with ⟨ghk8, hk8⟩ | ghk8
              · try simp only [go_sem, n1, n2, n3, n4, hk1, hk2, ghk4nn, hk5, ghk6, ghk7a] at ghk8
                all_goals
                have lhk8 := ix_lt hk8
                have xhk8 := getD_mapD Fault_av faults lhk8
                try simp only [go_sem] at lhk8
                try simp only [go_sem] at xhk8
                try simp only [go_sem, n1, n2, n3, n4, hk1, hk2, ghk4nn, hk5, ghk6, ghk7a, ghk8] at hk8
                all_goals
                rcases it_some h with ⟨hk9, h⟩ | ⟨hk9, h⟩
                · try simp only [go_sem, n1, n2, n3, n4, hk1, hk2, ghk4nn, hk5, ghk6, ghk7a, ghk8, hk8] at hk9
                  all_goals
                  obtain rfl := so_some h
                  refine ⟨0, fun L hL => ?_⟩
                  simp only [go_sem, ir85, E_impl_ordered_l1, R_impl_ordered_l1, ir85_b0, ir85_k0, ir85_o0, ir85_r0, hk1, hk2, lhk2, xhk2, fhk3, ghk4nn, hk5, ghk6, ghk7a, ghk8, hk8, lhk8, xhk8, hk9]
                · try simp only [go_sem, n1, n2, n3, n4, hk1, hk2, ghk4nn, hk5, ghk6, ghk7a, ghk8, hk8] at hk9
                  all_goals
                  obtain rfl := so_some h
                  refine ⟨0, fun L hL => ?_⟩
                  simp only [go_sem, ir85, E_impl_ordered_l1, R_impl_ordered_l1, ir85_b0, ir85_k0, ir85_o0, ir85_r0, hk1, hk2, lhk2, xhk2, fhk3, ghk4nn, hk5, ghk6, ghk7a, ghk8, hk8, lhk8, xhk8, hk9]
              · rcases and_f ghk8 with ghk8a | ⟨ghk8a, ghk8b⟩
                · rcases and_f ghk8a with ghk8aa | ⟨ghk8aa, ghk8ab⟩
                  · try simp only [go_sem, n1, n2, n3, n4, hk1, hk2, ghk4nn, hk5, ghk6, ghk7a] at ghk8aa
                    all_goals
                    rcases it_some h with ⟨hk9, h⟩ | ⟨hk9, h⟩
                    · try simp only [go_sem, n1, n2, n3, n4, hk1, hk2, ghk4nn, hk5, ghk6, ghk7a, ghk8aa] at hk9
                      all_goals
                      obtain rfl := so_some h
                      refine ⟨0, fun L hL => ?_⟩
                      simp only [go_sem, ir85, E_impl_ordered_l1, R_impl_ordered_l1, ir85_b0, ir85_k0, ir85_o0, ir85_r0, hk1, hk2, lhk2, xhk2, fhk3, ghk4nn, hk5, ghk6, ghk7a, ghk8aa, hk9]
                    · try simp only [go_sem, n1, n2, n3, n4, hk1, hk2, ghk4nn, hk5, ghk6, ghk7a, ghk8aa] at hk9
                      all_goals
                      obtain rfl := so_some h
                      refine ⟨0, fun L hL => ?_⟩
                      simp only [go_sem, ir85, E_impl_ordered_l1, R_impl_ordered_l1, ir85_b0, ir85_k0, ir85_o0, ir85_r0, hk1, hk2, lhk2, xhk2, fhk3, ghk4nn, hk5, ghk6, ghk7a, ghk8aa, hk9]
                  · have ghk8abn := no_f ghk8ab
                    try simp only [go_sem, n1, n2, n3, n4, hk1, hk2, ghk4nn, hk5, ghk6, ghk7a] at ghk8aa
                    all_goals
                    try simp only [go_sem, n1, n2, n3, n4, hk1, hk2, ghk4nn, hk5, ghk6, ghk7a, ghk8aa] at ghk8abn
                    all_goals
                    rcases it_some h with ⟨hk9, h⟩ | ⟨hk9, h⟩
                    · try simp only [go_sem, n1, n2, n3, n4, hk1, hk2, ghk4nn, hk5, ghk6, ghk7a, ghk8aa, ghk8abn] at hk9
                      all_goals
                      obtain rfl := so_some h
                      refine ⟨0, fun L hL => ?_⟩
                      simp only [go_sem, ir85, E_impl_ordered_l1, R_impl_ordered_l1, ir85_b0, ir85_k0, ir85_o0, ir85_r0, hk1, hk2, lhk2, xhk2, fhk3, ghk4nn, hk5, ghk6, ghk7a, ghk8aa, ghk8abn, hk9]
                    · try simp only [go_sem, n1, n2, n3, n4, hk1, hk2, ghk4nn, hk5, ghk6, ghk7a, ghk8aa, ghk8abn] at hk9
                      all_goals
                      obtain rfl := so_some h
                      refine ⟨0, fun L hL => ?_⟩
                      simp only [go_sem, ir85, E_impl_ordered_l1, R_impl_ordered_l1, ir85_b0, ir85_k0, ir85_o0, ir85_r0, hk1, hk2, lhk2, xhk2, fhk3, ghk4nn, hk5, ghk6, ghk7a, ghk8aa, ghk8abn, hk9]
                · obtain ⟨ghk8aa, ghk8ab⟩ := and_t ghk8a
                  have ghk8abn := no_t ghk8ab
                  try simp only [go_sem, n1, n2, n3, n4, hk1, hk2, ghk4nn, hk5, ghk6, ghk7a] at ghk8aa
                  all_goals
                  try simp only [go_sem, n1, n2, n3, n4, hk1, hk2, ghk4nn, hk5, ghk6, ghk7a, ghk8aa] at ghk8abn
                  all_goals
                  try simp only [go_sem, n1, n2, n3, n4, hk1, hk2, ghk4nn, hk5, ghk6, ghk7a, ghk8aa, ghk8abn] at ghk8b
                  all_goals
                  rcases it_some h with ⟨hk9, h⟩ | ⟨hk9, h⟩
                  · try simp only [go_sem, n1, n2, n3, n4, hk1, hk2, ghk4nn, hk5, ghk6, ghk7a, ghk8aa, ghk8abn, ghk8b] at hk9
                    all_goals
                    obtain rfl := so_some h
                    refine ⟨0, fun L hL => ?_⟩
                    simp only [go_sem, ir85, E_impl_ordered_l1, R_impl_ordered_l1, ir85_b0, ir85_k0, ir85_o0, ir85_r0, hk1, hk2, lhk2, xhk2, fhk3, ghk4nn, hk5, ghk6, ghk7a, ghk8aa, ghk8abn, ghk8b, hk9]
                  · try simp only [go_sem, n1, n2, n3, n4, hk1, hk2, ghk4nn, hk5, ghk6, ghk7a, ghk8aa, ghk8abn, ghk8b] at hk9
                    all_goals
                    obtain rfl := so_some h
                    refine ⟨0, fun L hL => ?_⟩
                    simp only [go_sem, ir85, E_impl_ordered_l1, R_impl_ordered_l1, ir85_b0, ir85_k0, ir85_o0, ir85_r0, hk1, hk2, lhk2, xhk2, fhk3, ghk4nn, hk5, ghk6, ghk7a, ghk8aa, ghk8abn, ghk8b, hk9]
            · have ghk7bn := no_f ghk7b
              try simp only [go_sem, n1, n2, n3, n4, hk1, hk2, ghk4nn, hk5, ghk6] at ghk7a
              all_goals
              try simp only [go_sem, n1, n2, n3, n4, hk1, hk2, ghk4nn, hk5, ghk6, ghk7a] at ghk7bn
              all_goals
              obtain ⟨hk8, h⟩ := ck_some h
              rcases or_split hk8 with ⟨ghk8, hk8⟩ | ghk8
              · try simp only [go_sem, n1, n2, n3, n4, hk1, hk2, ghk4nn, hk5, ghk6, ghk7a, ghk7bn] at ghk8
                all_goals
                have lhk8 := ix_lt hk8
                have xhk8 := getD_mapD Fault_av faults lhk8
                try simp only [go_sem] at lhk8
                try simp only [go_sem] at xhk8
                try simp only [go_sem, n1, n2, n3, n4, hk1, hk2, ghk4nn, hk5, ghk6, ghk7a, ghk7bn, ghk8] at hk8
                all_goals
                rcases it_some h with ⟨hk9, h⟩ | ⟨hk9, h⟩
                · try simp only [go_sem, n1, n2, n3, n4, hk1, hk2, ghk4nn, hk5, ghk6, ghk7a, ghk7bn, ghk8, hk8] at hk9
                  all_goals
                  obtain rfl := so_some h
                  refine ⟨0, fun L hL => ?_⟩
                  simp only [go_sem, ir85, E_impl_ordered_l1, R_impl_ordered_l1, ir85_b0, ir85_k0, ir85_o0, ir85_r0, hk1, hk2, lhk2, xhk2, fhk3, ghk4nn, hk5, ghk6, ghk7a, ghk7bn, ghk8, hk8, lhk8, xhk8, hk9]
                · try simp only [go_sem, n1, n2, n3, n4, hk1, hk2, ghk4nn, hk5, ghk6, ghk7a, ghk7bn, ghk8, hk8] at hk9
                  all_goals
                  obtain rfl := so_some h
                  refine ⟨0, fun L hL => ?_⟩
                  simp only [go_sem, ir85, E_impl_ordered_l1, R_impl_ordered_l1, ir85_b0, ir85_k0, ir85_o0, ir85_r0, hk1, hk2, lhk2, xhk2, fhk3, ghk4nn, hk5, ghk6, ghk7a, ghk7bn, ghk8, hk8, lhk8, xhk8, hk9]
              · rcases and_f ghk8 with ghk8a | ⟨ghk8a, ghk8b⟩
                · rcases and_f ghk8a with ghk8aa | ⟨ghk8aa, ghk8ab⟩
                  · try simp only [go_sem, n1, n2, n3, n4, hk1, hk2, ghk4nn, hk5, ghk6, ghk7a, ghk7bn] at ghk8aa
                    all_goals
                    rcases it_some h with ⟨hk9, h⟩ | ⟨hk9, h⟩
                    · try simp only [go_sem, n1, n2, n3, n4, hk1, hk2, ghk4nn, hk5, ghk6, ghk7a, ghk7bn, ghk8aa] at hk9
                      all_goals
                      obtain rfl := so_some h
                      refine ⟨0, fun L hL => ?_⟩
                      simp only [go_sem, ir85, E_impl_ordered_l1, R_impl_ordered_l1, ir85_b0, ir85_k0, ir85_o0, ir85_r0, hk1, hk2, lhk2, xhk2, fhk3, ghk4nn, hk5, ghk6, ghk7a, ghk7bn, ghk8aa, hk9]
                    · try simp only [go_sem, n1, n2, n3, n4, hk1, hk2, ghk4nn, hk5, ghk6, ghk7a, ghk7bn, ghk8aa] at hk9
                      all_goals
                      obtain rfl := so_some h
                      refine ⟨0, fun L hL => ?_⟩
                      simp only [go_sem, ir85, E_impl_ordered_l1, R_impl_ordered_l1, ir85_b0, ir85_k0, ir85_o0, ir85_r0, hk1, hk2, lhk2, xhk2, fhk3, ghk4nn, hk5, ghk6, ghk7a, ghk7bn, ghk8aa, hk9]
                  · have ghk8abn := no_f ghk8ab
                    try simp only [go_sem, n1, n2, n3, n4, hk1, hk2, ghk4nn, hk5, ghk6, ghk7a, ghk7bn] at ghk8aa
                    all_goals
                    try simp only [go_sem, n1, n2, n3, n4, hk1, hk2, ghk4nn, hk5, ghk6, ghk7a, ghk7bn, ghk8aa] at ghk8abn
                    all_goals
                    rcases it_some h with ⟨hk9, h⟩ | ⟨hk9, h⟩
                    · try simp only [go_sem, n1, n2, n3, n4, hk1, hk2, ghk4nn, hk5, ghk6, ghk7a, ghk7bn, ghk8aa, ghk8abn] at hk9
                      all_goals
                      obtain rfl := so_some h
                      refine ⟨0, fun L hL => ?_⟩
                      simp only [go_sem, ir85, E_impl_ordered_l1, R_impl_ordered_l1, ir85_b0, ir85_k0, ir85_o0, ir85_r0, hk1, hk2, lhk2, xhk2, fhk3, ghk4nn, hk5, ghk6, ghk7a, ghk7bn, ghk8aa, ghk8abn, hk9]
                    · try simp only [go_sem, n1, n2, n3, n4, hk1, hk2, ghk4nn, hk5, ghk6, ghk7a, ghk7bn, ghk8aa, ghk8abn] at hk9
                      all_goals
                      obtain rfl := so_some h
                      refine ⟨0, fun L hL => ?_⟩
                      simp only [go_sem, ir85, E_impl_ordered_l1, R_impl_ordered_l1, ir85_b0, ir85_k0, ir85_o0, ir85_r0, hk1, hk2, lhk2, xhk2, fhk3, ghk4nn, hk5, ghk6, ghk7a, ghk7bn, ghk8aa, ghk8abn, hk9]
                · obtain ⟨ghk8aa, ghk8ab⟩ := and_t ghk8a
                  have ghk8abn := no_t ghk8ab
                  try simp only [go_sem, n1, n2, n3, n4, hk1, hk2, ghk4nn, hk5, ghk6, ghk7a, ghk7bn] at ghk8aa
                  all_goals
                  try simp only [go_sem, n1, n2, n3, n4, hk1, hk2, ghk4nn, hk5, ghk6, ghk7a, ghk7bn, ghk8aa] at ghk8abn
                  all_goals
                  try simp only [go_sem, n1, n2, n3, n4, hk1, hk2, ghk4nn, hk5, ghk6, ghk7a, ghk7bn, ghk8aa, ghk8abn] at ghk8b
                  all_goals
                  rcases it_some h with ⟨hk9, h⟩ | ⟨hk9, h⟩
                  · try simp only [go_sem, n1, n2, n3, n4, hk1, hk2, ghk4nn, hk5, ghk6, ghk7a, ghk7bn, ghk8aa, ghk8abn, ghk8b] at hk9
                    all_goals
                    obtain rfl := so_some h
                    refine ⟨0, fun L hL => ?_⟩
                    simp only [go_sem, ir85, E_impl_ordered_l1, R_impl_ordered_l1, ir85_b0, ir85_k0, ir85_o0, ir85_r0, hk1, hk2, lhk2, xhk2, fhk3, ghk4nn, hk5, ghk6, ghk7a, ghk7bn, ghk8aa, ghk8abn, ghk8b, hk9]
                  · try simp only [go_sem, n1, n2, n3, n4, hk1, hk2, ghk4nn, hk5, ghk6, ghk7a, ghk7bn, ghk8aa, ghk8abn, ghk8b] at hk9
                    all_goals
                    obtain rfl := so_some h
                    refine ⟨0, fun L hL => ?_⟩
                    simp only [go_sem, ir85, E_impl_ordered_l1, R_impl_ordered_l1, ir85_b0, ir85_k0, ir85_o0, ir85_r0, hk1, hk2, lhk2, xhk2, fhk3, ghk4nn, hk5, ghk6, ghk7a, ghk7bn, ghk8aa, ghk8abn, ghk8b, hk9]
  · try simp only [go_sem, n1, n2, n3, n4] at hk1
    all_goals
    obtain rfl := so_some h
    refine ⟨0, fun L hL => ?_⟩
    simp only [go_sem, ir85, E_impl_ordered_l1, R_impl_ordered_l1, ir85_b0, ir85_k0, ir85_o0, ir85_r0, hk1]

theorem Fs_impl_ordered {faults : List Fault} {estimates : Int} {y_ : Bool} (h : impl_ordered faults estimates = some y_) : c_impl_ordered.F [.sl 2 (List.map Fault_av faults), .int .i64 estimates] = ⟨true, .bool y_, [.any, .any]⟩ := by
  refine mkF_E rfl ?_
  dsimp only [impl_ordered] at h
  obtain ⟨y_10, hk10, h⟩ := bd_some h
  obtain ⟨Lhk10, ehk10⟩ := impl_ordered_l1_ex hk10
  rcases y_10 with y_10a | y_10b
  · dsimp only at h
    obtain rfl := so_some h
    refine ⟨Lhk10, fun L hL => ?_⟩
    have ehk10 := ehk10 L (by omega)
    try simp only [go_sem, E_impl_ordered_l1, R_impl_ordered_l1, ir85_k0, ir85_o0, ir85_r0] at ehk10
    simp only [go_sem, ir85, E_impl_ordered_l1, R_impl_ordered_l1, ir85_k0, ir85_o0, ir85_r0, ehk10]
  · dsimp only at h
    obtain rfl := so_some h
    refine ⟨Lhk10, fun L hL => ?_⟩
    have ehk10 := ehk10 L (by omega)
    try simp only [go_sem, E_impl_ordered_l1, R_impl_ordered_l1, ir85_k0, ir85_o0, ir85_r0] at ehk10
    simp only [go_sem, ir85, E_impl_ordered_l1, R_impl_ordered_l1, ir85_k0, ir85_o0, ir85_r0, ehk10]


def ir56_v : List Nat := [0, 1, 4]
def ir56 : AFn := ⟨2, 3, .seq (.region false [
    ⟨.var 2, 4, none, .mov (.c (.int .i64 (0)))⟩])
 (.seq (.block 0 (.test false [
     ⟨.push, 6, none, .mov (.v 0)⟩,
     ⟨.push, 7, none, .call 43 [(.s 0)]⟩,
     ⟨.push, 8, none, .un .not (.s 0)⟩,
     ⟨.push, 5, none, .mov (.s 0)⟩] (.s 0)
   (.seq (.region false [
       ⟨.var 2, 4, none, .mov (.c (.int .i64 (1)))⟩])
    (.ret))
   (.test false [
      ⟨.push, 10, none, .mov (.v 1)⟩,
      ⟨.push, 11, none, .mov (.v 0)⟩,
      ⟨.push, 12, none, .call 86 [(.s 0)]⟩,
      ⟨.push, 13, none, .call 85 [(.s 2), (.s 0)]⟩,
      ⟨.push, 14, none, .un .not (.s 0)⟩,
      ⟨.push, 9, none, .mov (.s 0)⟩] (.s 0)
    (.seq (.region false [
        ⟨.var 2, 4, none, .mov (.c (.int .i64 (2)))⟩])
     (.ret))
    (.skip))))
 (.seq (.region false [
    ⟨.var 2, 4, none, .mov (.c (.int .i64 (0)))⟩])
 (.ret))), [.t 2]⟩
noncomputable def t_impl_audited : List (Nat × Ctr) := [(43, c_impl_ValidEstimates), (86, c_impl_count_impl_Estimate), (85, c_impl_ordered)]
theorem lk_impl_audited_43 : look t_impl_audited 43 = some c_impl_ValidEstimates := rfl
theorem lk_impl_audited_86 : look t_impl_audited 86 = some c_impl_count_impl_Estimate := rfl
theorem lk_impl_audited_85 : look t_impl_audited 85 = some c_impl_ordered := rfl
noncomputable def c_impl_audited : Ctr := mkF t_impl_audited ir56 [.bor, .bor]
theorem s_impl_audited : Sound Try.prog 56 c_impl_audited := mkF_sound _ rfl (snd_cons s_impl_ValidEstimates (snd_cons s_impl_count_impl_Estimate (snd_cons s_impl_ordered snd_nil))) (by kernel_rfl : chkFn Try.prog 56 ir56 ir56_v = true)
theorem M_impl_audited : c_impl_audited.modes = [.bor, .bor] := rfl
theorem Fl_impl_audited : c_impl_audited.flat = true := rfl
attribute [go_sem] M_impl_audited Fl_impl_audited
attribute [go_sem] lk_impl_audited_43 lk_impl_audited_86 lk_impl_audited_85
theorem Fs_impl_audited {list : List Estimate} {faults : List Fault} {y_ : Int} (h : impl_audited list faults = some y_) : c_impl_audited.F [.sl 5 (List.map Estimate_av list), .sl 2 (List.map Fault_av faults)] = ⟨true, .int .i64 y_, [.any, .any]⟩ := by
  refine mkF_E rfl ?_
  dsimp only [impl_audited] at h
  obtain ⟨y_1, hk1, h⟩ := bd_some h
  have fhk1 := Fs_impl_ValidEstimates hk1
  try simp only [go_sem] at fhk1
  rcases it_some h with ⟨hk2, h⟩ | ⟨hk2, h⟩
  · try simp only [go_sem, n1, n2, n3, n4] at hk2
    all_goals
    obtain rfl := so_some h
    refine ⟨0, fun L hL => ?_⟩
    simp only [go_sem, ir56, fhk1, hk2]
  · try simp only [go_sem, n1, n2, n3, n4] at hk2
    all_goals
    obtain ⟨y_3, hk3, h⟩ := bd_some h
    have fhk3 := Fs_impl_count_impl_Estimate hk3
    try simp only [go_sem, hk2] at fhk3
    obtain ⟨y_4, hk4, h⟩ := bd_some h
    have fhk4 := Fs_impl_ordered hk4
    try simp only [go_sem, hk2] at fhk4
    rcases it_some h with ⟨hk5, h⟩ | ⟨hk5, h⟩
    · try simp only [go_sem, n1, n2, n3, n4, hk2] at hk5
      all_goals
      obtain rfl := so_some h
      refine ⟨0, fun L hL => ?_⟩
      simp only [go_sem, ir56, fhk1, hk2, fhk3, fhk4, hk5]
    · try simp only [go_sem, n1, n2, n3, n4, hk2] at hk5
      all_goals
      obtain rfl := so_some h
      refine ⟨0, fun L hL => ?_⟩
      simp only [go_sem, ir56, fhk1, hk2, fhk3, fhk4, hk5]


def ir88_v : List Nat := [0, 1, 2]
def ir88 : AFn := ⟨1, 3, .seq (.region false [
    ⟨.var 1, 1, none, .box (.v 0)⟩,
    ⟨.var 2, 2, none, .mov (.c (.str []))⟩])
 (.seq (.region false [
    ⟨.push, 3, none, .fldAddr 2 (.v 1)⟩,
    ⟨.push, 4, none, .load false 1 (.s 0)⟩,
    ⟨.var 2, 2, none, .mov (.s 0)⟩])
 (.ret)), [.t 2]⟩
noncomputable def t_impl_observerOf : List (Nat × Ctr) := []
noncomputable def c_impl_observerOf : Ctr := mkF t_impl_observerOf ir88 [.bor]
theorem s_impl_observerOf : Sound Try.prog 88 c_impl_observerOf := mkF_sound _ rfl snd_nil (by kernel_rfl : chkFn Try.prog 88 ir88 ir88_v = true)
theorem M_impl_observerOf : c_impl_observerOf.modes = [.bor] := rfl
theorem Fl_impl_observerOf : c_impl_observerOf.flat = true := rfl
attribute [go_sem] M_impl_observerOf Fl_impl_observerOf
theorem Fs_impl_observerOf {e_ : Estimate} {y_ : (List UInt8)} (h : impl_observerOf e_ = some y_) : c_impl_observerOf.F [Estimate_av e_] = ⟨true, .str y_, [.any]⟩ := by
  refine mkF_E rfl ?_
  dsimp only [impl_observerOf] at h
  obtain rfl := so_some h
  refine ⟨0, fun L hL => ?_⟩
  simp only [go_sem, ir88]


theorem s_hSort : Sound Try.prog 110 c_hSort := hSort_is

theorem s_hCompact : Sound Try.prog 111 c_hCompact := hCompact_is

def ir87_b0 : IR := .seq (.region false [
    ⟨.var 8, 12, none, .bin false .lss (.v 7) (.v 6)⟩])
 (.seq (.cond (.v 8) (.skip)
  (.exit 0))
 (.seq (.block 1 (.seq (.region false [
      ⟨.push, 13, none, .ixAddr 5 (.v 5) (.v 7)⟩,
      ⟨.push, 14, none, .load true 5 (.s 0)⟩,
      ⟨.var 4, 7, none, .alloc (.agg [.int .i64 (0), .str [], .str [], .int .i64 (0), .bool false])⟩,
      ⟨.no, 0, none, .store 5 (.v 4) (.s 0)⟩])
   (.region false [
     ⟨.push, 15, none, .mov (.v 3)⟩,
     ⟨.push, 16, none, .mov (.v 1)⟩,
     ⟨.push, 17, none, .load true 5 (.v 4)⟩,
     ⟨.push, 18, none, .callv (.s 1) [(.s 0)]⟩,
     ⟨.push, 19, none, .mkSl 1 (.str []) 1 [(0, (.s 0))]⟩,
     ⟨.push, 20, none, .app 1 16 (.str []) (.s 4) (.s 0)⟩,
     ⟨.var 3, 5, none, .mov (.s 0)⟩])))
 (.region false [
   ⟨.push, 21, none, .bin false .add (.v 7) (.c (.int .i64 (1)))⟩,
   ⟨.var 7, 11, none, .mov (.s 0)⟩])))
def ir87_k0 : List Bool := [false, true, false, true, false, true, true, true, false]
def ir87_o0 : List Bool := [false, false, false, true, false, false, false, false, false]
def ir87_r0 : List Bool := [false, false, true, false, false, false, false, false, false]
def ir87_v : List Nat := [0, 1, 4, 5, 7, 9, 10, 11, 12]
def ir87 : AFn := ⟨2, 9, .seq (.region false [
    ⟨.var 2, 4, none, .newnil 1⟩])
 (.seq (.region false [
    ⟨.push, 8, none, .mkSl 1 (.str []) 0 []⟩,
    ⟨.var 3, 5, none, .mov (.s 0)⟩])
 (.seq (.seq (.region false [
     ⟨.var 5, 9, none, .mov (.v 0)⟩,
     ⟨.var 6, 10, none, .len false (.v 5)⟩,
     ⟨.var 7, 11, none, .mov (.c (.int .i64 (0)))⟩])
  (.block 0 (.loop ir87_k0 ir87_o0 ir87_r0 ir87_b0)))
 (.seq (.region false [
    ⟨.push, 22, none, .mov (.v 3)⟩,
    ⟨.push, 23, none, .call 110 [(.s 0)]⟩])
 (.seq (.region false [
    ⟨.push, 24, none, .mov (.v 3)⟩,
    ⟨.push, 25, none, .call 111 [(.s 0)]⟩,
    ⟨.var 2, 4, none, .mov (.s 0)⟩])
 (.ret))))), [.t 2]⟩
noncomputable def t_impl_namesOf__impl_observerOf : List (Nat × Ctr) := [(88, c_impl_observerOf), (110, c_hSort), (111, c_hCompact)]
theorem lk_impl_namesOf__impl_observerOf_88 : look t_impl_namesOf__impl_observerOf 88 = some c_impl_observerOf := rfl
theorem lk_impl_namesOf__impl_observerOf_110 : look t_impl_namesOf__impl_observerOf 110 = some c_hSort := rfl
theorem lk_impl_namesOf__impl_observerOf_111 : look t_impl_namesOf__impl_observerOf 111 = some c_hCompact := rfl
noncomputable def c_impl_namesOf__impl_observerOf : Ctr := mkF t_impl_namesOf__impl_observerOf ir87 [.bor, .bor]
theorem s_impl_namesOf__impl_observerOf : Sound Try.prog 87 c_impl_namesOf__impl_observerOf := mkF_sound _ rfl (snd_cons s_impl_observerOf (snd_cons s_hSort (snd_cons s_hCompact snd_nil))) (by kernel_rfl : chkFn Try.prog 87 ir87 ir87_v = true)
theorem M_impl_namesOf__impl_observerOf : c_impl_namesOf__impl_observerOf.modes = [.bor, .bor] := rfl
theorem Fl_impl_namesOf__impl_observerOf : c_impl_namesOf__impl_observerOf.flat = true := rfl
attribute [go_sem] M_impl_namesOf__impl_observerOf Fl_impl_namesOf__impl_observerOf
attribute [go_sem] lk_impl_namesOf__impl_observerOf_88 lk_impl_namesOf__impl_observerOf_110 lk_impl_namesOf__impl_observerOf_111
def E_impl_namesOf__impl_observerOf_l1 (t9 : List Estimate) (t10 : Int) : ((List (List UInt8)) × Int) → St
  | (out, t11) => ⟨[.any, .fn (.func 88) [] [], .any, .own 3200000, .any, .sl 5 (List.map Estimate_av t9), .int .i64 t10, .int .i64 t11, .any], [], [(3200000, ⟨1, List.map AV.str out⟩)], true⟩
def R_impl_namesOf__impl_observerOf_l1 (t9 : List Estimate) (t10 : Int) (y : (List (List UInt8))) : Res := (.exit 0, ⟨[.any, .any, .any, .own 3200000, .any, .any, .any, .any, .any], [], [(3200000, ⟨1, List.map AV.str y⟩)], true⟩)
theorem impl_namesOf__impl_observerOf_l1_ex {t9 : List Estimate} {t10 : Int} {sgm_ : (List (List UInt8)) × Int} {rho_ : (List (List UInt8))} (h : whileE (impl_namesOf__impl_observerOf_l1 t9 t10) sgm_ = some rho_) : ∃ L0, ∀ L, L0 ≤ L → iter (exec (look t_impl_namesOf__impl_observerOf) L ir87_b0) ir87_k0 ir87_o0 ir87_r0 L (E_impl_namesOf__impl_observerOf_l1 t9 t10 sgm_) = R_impl_namesOf__impl_observerOf_l1 t9 t10 rho_ := by
  refine loop_ex (E := E_impl_namesOf__impl_observerOf_l1 t9 t10) (R := R_impl_namesOf__impl_observerOf_l1 t9 t10) (fun y => by first | (intro c; cases c) | (rcases y with y | y <;> (intro c; cases c)) | (rcases y with y | y | y <;> (intro c; cases c))) ?_ h
  clear h
  rintro ⟨out, t11⟩ o_ h
  dsimp only [impl_namesOf__impl_observerOf_l1] at h
  rcases it_some h with ⟨hk1, h⟩ | ⟨hk1, h⟩
  · try simp only [go_sem, n1, n2, n3, n4] at hk1
    all_goals
    obtain ⟨hk2, h⟩ := ck_some h
    have lhk2 := ix_lt hk2
    have xhk2 := getD_mapD Estimate_av t9 lhk2
    try simp only [go_sem] at lhk2
    try simp only [go_sem] at xhk2
    try simp only [go_sem, n1, n2, n3, n4, hk1] at hk2
    all_goals
    obtain ⟨y_3, hk3, h⟩ := bd_some h
    have fhk3 := Fs_impl_observerOf hk3
    try simp only [go_sem, hk1, hk2] at fhk3
    obtain ⟨hk4, h⟩ := ck_some h
    try simp only [go_sem, n1, n2, n3, n4, hk1, hk2] at hk4
    all_goals
    obtain rfl := so_some h
    refine ⟨0, fun L hL => ?_⟩
    simp only [go_sem, ir87, E_impl_namesOf__impl_observerOf_l1, R_impl_namesOf__impl_observerOf_l1, ir87_b0, ir87_k0, ir87_o0, ir87_r0, hk1, hk2, lhk2, xhk2, fhk3, hk4]
  · try simp only [go_sem, n1, n2, n3, n4] at hk1
    all_goals
    obtain rfl := so_some h
    refine ⟨0, fun L hL => ?_⟩
    simp only [go_sem, ir87, E_impl_namesOf__impl_observerOf_l1, R_impl_namesOf__impl_observerOf_l1, ir87_b0, ir87_k0, ir87_o0, ir87_r0, hk1]

theorem Fs_impl_namesOf__impl_observerOf {list : List Estimate} {y_ : (List (List UInt8))} (h : impl_namesOf__impl_observerOf list = some y_) : c_impl_namesOf__impl_observerOf.F [.sl 5 (List.map Estimate_av list), .fn (.func 88) [] []] = ⟨true, .fresh 1 (List.map AV.str y_), [.any, .any]⟩ := by
  refine mkF_E (by simp only [flatA, flatB, flat1, List.all_cons, List.all_nil, Bool.and_self, flatE_map (f := AV.str) (fun _ => rfl)]) ?_
  dsimp only [impl_namesOf__impl_observerOf] at h
  obtain ⟨y_5, hk5, h⟩ := bd_some h
  obtain ⟨Lhk5, ehk5⟩ := impl_namesOf__impl_observerOf_l1_ex hk5
  obtain ⟨y_6, hk6, h⟩ := bd_some h
  have fhk6 := Fs_hSort hk6
  try simp only [go_sem] at fhk6
  obtain ⟨y_7, hk7, h⟩ := bd_some h
  have fhk7 := Fs_hCompact hk7
  try simp only [go_sem] at fhk7
  obtain rfl := so_some h
  refine ⟨Lhk5, fun L hL => ?_⟩
  have ehk5 := ehk5 L (by omega)
  try simp only [go_sem, E_impl_namesOf__impl_observerOf_l1, R_impl_namesOf__impl_observerOf_l1, ir87_k0, ir87_o0, ir87_r0] at ehk5
  simp only [go_sem, ir87, E_impl_namesOf__impl_observerOf_l1, R_impl_namesOf__impl_observerOf_l1, ir87_k0, ir87_o0, ir87_r0, fhk6, fhk7, ehk5]


def ir113_v : List Nat := [0, 1, 2, 3]
def ir113 : AFn := ⟨2, 4, .seq (.region false [
    ⟨.var 2, 2, none, .box (.v 0)⟩,
    ⟨.var 3, 3, none, .mov (.c (.bool false))⟩])
 (.seq (.region false [
    ⟨.push, 4, none, .fldAddr 0 (.v 2)⟩,
    ⟨.push, 5, none, .load false 1 (.s 0)⟩,
    ⟨.push, 6, none, .load false 1 (.v 1)⟩,
    ⟨.push, 7, none, .bin false .eql (.s 1) (.s 0)⟩,
    ⟨.var 3, 3, none, .mov (.s 0)⟩])
 (.ret)), [.t 3]⟩
noncomputable def t_impl_isFaulty_c1 : List (Nat × Ctr) := []
noncomputable def c_impl_isFaulty_c1 : Ctr := mkF t_impl_isFaulty_c1 ir113 [.bor, .bor]
theorem s_impl_isFaulty_c1 : Sound Try.prog 113 c_impl_isFaulty_c1 := mkF_sound _ rfl snd_nil (by kernel_rfl : chkFn Try.prog 113 ir113 ir113_v = true)
theorem M_impl_isFaulty_c1 : c_impl_isFaulty_c1.modes = [.bor, .bor] := rfl
theorem Fl_impl_isFaulty_c1 : c_impl_isFaulty_c1.flat = true := rfl
attribute [go_sem] M_impl_isFaulty_c1 Fl_impl_isFaulty_c1
theorem Fs_impl_isFaulty_c1 {x : Fault} {t1 : Int} {y_ : Bool} (h : impl_isFaulty_c1 x t1 = some y_) : c_impl_isFaulty_c1.F [Fault_av x, .ptr 1 [.int .i64 t1] 0 0] = ⟨true, .bool y_, [.any, .any]⟩ := by
  refine mkF_E rfl ?_
  dsimp only [impl_isFaulty_c1] at h
  obtain rfl := so_some h
  refine ⟨0, fun L hL => ?_⟩
  simp only [go_sem, ir113]


def ir122_b0 : IR := .seq (.region false [
    ⟨.var 6, 9, none, .bin false .lss (.v 5) (.v 4)⟩])
 (.seq (.cond (.v 6) (.skip)
  (.exit 0))
 (.seq (.block 1 (.seq (.region false [
      ⟨.push, 10, none, .mov (.v 5)⟩,
      ⟨.var 3, 5, none, .mov (.s 0)⟩])
   (.test false [
     ⟨.push, 11, none, .mov (.v 1)⟩,
     ⟨.push, 12, none, .mov (.v 0)⟩,
     ⟨.push, 13, none, .mov (.v 3)⟩,
     ⟨.push, 14, none, .ixAddr 2 (.s 1) (.s 0)⟩,
     ⟨.push, 15, none, .load true 2 (.s 0)⟩,
     ⟨.push, 16, none, .callv (.s 4) [(.s 0)]⟩] (.s 0)
   (.seq (.region false [
       ⟨.push, 17, none, .mov (.v 3)⟩,
       ⟨.var 2, 4, none, .mov (.s 0)⟩])
    (.ret))
   (.skip))))
 (.region false [
   ⟨.push, 18, none, .bin false .add (.v 5) (.c (.int .i64 (1)))⟩,
   ⟨.var 5, 8, none, .mov (.s 0)⟩])))
def ir122_k0 : List Bool := [true, true, false, false, true, true, false]
def ir122_o0 : List Bool := [false, false, false, false, false, false, false]
def ir122_r0 : List Bool := [false, false, true, false, false, false, false]
def ir122_v : List Nat := [0, 1, 4, 5, 7, 8, 9]
def ir122 : AFn := ⟨2, 7, .seq (.region false [
    ⟨.var 2, 4, none, .mov (.c (.int .i64 (0)))⟩])
 (.seq (.seq (.region false [
     ⟨.push, 6, none, .mov (.v 0)⟩,
     ⟨.var 4, 7, none, .len false (.s 0)⟩,
     ⟨.var 5, 8, none, .mov (.c (.int .i64 (0)))⟩])
  (.block 0 (.loop ir122_k0 ir122_o0 ir122_r0 ir122_b0)))
 (.seq (.region false [
    ⟨.var 2, 4, none, .mov (.c (.int .i64 (-1)))⟩])
 (.ret))), [.t 2]⟩
noncomputable def t_slices_IndexFunc_impl_Fault_impl_Fault__impl_isFaulty_c1 : List (Nat × Ctr) := [(113, c_impl_isFaulty_c1)]
theorem lk_slices_IndexFunc_impl_Fault_impl_Fault__impl_isFaulty_c1_113 : look t_slices_IndexFunc_impl_Fault_impl_Fault__impl_isFaulty_c1 113 = some c_impl_isFaulty_c1 := rfl
noncomputable def c_slices_IndexFunc_impl_Fault_impl_Fault__impl_isFaulty_c1 : Ctr := mkF t_slices_IndexFunc_impl_Fault_impl_Fault__impl_isFaulty_c1 ir122 [.bor, .bor]
theorem s_slices_IndexFunc_impl_Fault_impl_Fault__impl_isFaulty_c1 : Sound Try.prog 122 c_slices_IndexFunc_impl_Fault_impl_Fault__impl_isFaulty_c1 := mkF_sound _ rfl (snd_cons s_impl_isFaulty_c1 snd_nil) (by kernel_rfl : chkFn Try.prog 122 ir122 ir122_v = true)
theorem M_slices_IndexFunc_impl_Fault_impl_Fault__impl_isFaulty_c1 : c_slices_IndexFunc_impl_Fault_impl_Fault__impl_isFaulty_c1.modes = [.bor, .bor] := rfl
theorem Fl_slices_IndexFunc_impl_Fault_impl_Fault__impl_isFaulty_c1 : c_slices_IndexFunc_impl_Fault_impl_Fault__impl_isFaulty_c1.flat = true := rfl
attribute [go_sem] M_slices_IndexFunc_impl_Fault_impl_Fault__impl_isFaulty_c1 Fl_slices_IndexFunc_impl_Fault_impl_Fault__impl_isFaulty_c1
attribute [go_sem] lk_slices_IndexFunc_impl_Fault_impl_Fault__impl_isFaulty_c1_113
def E_slices_IndexFunc_impl_Fault_impl_Fault__impl_isFaulty_c1_l1 (s_ : List Fault) (c : Int) (t7 : Int) : Int → St
  | t8 => ⟨[.sl 2 (List.map Fault_av s_), .fn (.func 113) [] [.ptr 1 [.int .i64 c] 0 0], .any, .any, .int .i64 t7, .int .i64 t8, .any], [], [], true⟩
def R_slices_IndexFunc_impl_Fault_impl_Fault__impl_isFaulty_c1_l1 (s_ : List Fault) (c : Int) (t7 : Int) : (Unit ⊕ Int) → Res
  | .inl y => (.exit 0, ⟨[.any, .any, .any, .any, .any, .any, .any], [], [], true⟩)
  | .inr y => (.ret, ⟨[.any, .any, .int .i64 y, .any, .any, .any, .any], [], [], true⟩)
theorem slices_IndexFunc_impl_Fault_impl_Fault__impl_isFaulty_c1_l1_ex {s_ : List Fault} {c : Int} {t7 : Int} {sgm_ : Int} {rho_ : Unit ⊕ Int} (h : whileE (slices_IndexFunc_impl_Fault_impl_Fault__impl_isFaulty_c1_l1 s_ c t7) sgm_ = some rho_) : ∃ L0, ∀ L, L0 ≤ L → iter (exec (look t_slices_IndexFunc_impl_Fault_impl_Fault__impl_isFaulty_c1) L ir122_b0) ir122_k0 ir122_o0 ir122_r0 L (E_slices_IndexFunc_impl_Fault_impl_Fault__impl_isFaulty_c1_l1 s_ c t7 sgm_) = R_slices_IndexFunc_impl_Fault_impl_Fault__impl_isFaulty_c1_l1 s_ c t7 rho_ := by
  refine loop_ex (E := E_slices_IndexFunc_impl_Fault_impl_Fault__impl_isFaulty_c1_l1 s_ c t7) (R := R_slices_IndexFunc_impl_Fault_impl_Fault__impl_isFaulty_c1_l1 s_ c t7) (fun y => by first | (intro c; cases c) | (rcases y with y | y <;> (intro c; cases c)) | (rcases y with y | y | y <;> (intro c; cases c))) ?_ h
  clear h
  intro t8 o_ h
  dsimp only [slices_IndexFunc_impl_Fault_impl_Fault__impl_isFaulty_c1_l1] at h
  rcases it_some h with ⟨hk1, h⟩ | ⟨hk1, h⟩
  · try simp only [go_sem, n1, n2, n3, n4] at hk1
    all_goals
    obtain ⟨hk2, h⟩ := ck_some h
    have lhk2 := ix_lt hk2
    have xhk2 := getD_mapD Fault_av s_ lhk2
    try simp only [go_sem] at lhk2
    try simp only [go_sem] at xhk2
    try simp only [go_sem, n1, n2, n3, n4, hk1] at hk2
    all_goals
    obtain ⟨y_3, hk3, h⟩ := bd_some h
    have fhk3 := Fs_impl_isFaulty_c1 hk3
    try simp only [go_sem, hk1, hk2] at fhk3
    rcases it_some h with ⟨hk4, h⟩ | ⟨hk4, h⟩
    · try simp only [go_sem, n1, n2, n3, n4, hk1, hk2] at hk4
      all_goals
      obtain rfl := so_some h
      refine ⟨0, fun L hL => ?_⟩
      simp only [go_sem, ir122, E_slices_IndexFunc_impl_Fault_impl_Fault__impl_isFaulty_c1_l1, R_slices_IndexFunc_impl_Fault_impl_Fault__impl_isFaulty_c1_l1, ir122_b0, ir122_k0, ir122_o0, ir122_r0, hk1, hk2, lhk2, xhk2, fhk3, hk4]
    · try simp only [go_sem, n1, n2, n3, n4, hk1, hk2] at hk4
      all_goals
      obtain rfl := so_some h
      refine ⟨0, fun L hL => ?_⟩
      simp only [go_sem, ir122, E_slices_IndexFunc_impl_Fault_impl_Fault__impl_isFaulty_c1_l1, R_slices_IndexFunc_impl_Fault_impl_Fault__impl_isFaulty_c1_l1, ir122_b0, ir122_k0, ir122_o0, ir122_r0, hk1, hk2, lhk2, xhk2, fhk3, hk4]
  · try simp only [go_sem, n1, n2, n3, n4] at hk1
    all_goals
    obtain rfl := so_some h
    refine ⟨0, fun L hL => ?_⟩
    simp only [go_sem, ir122, E_slices_IndexFunc_impl_Fault_impl_Fault__impl_isFaulty_c1_l1, R_slices_IndexFunc_impl_Fault_impl_Fault__impl_isFaulty_c1_l1, ir122_b0, ir122_k0, ir122_o0, ir122_r0, hk1]

theorem Fs_slices_IndexFunc_impl_Fault_impl_Fault__impl_isFaulty_c1 {s_ : List Fault} {f_c0 : Int} {y_ : Int} (h : slices_IndexFunc_impl_Fault_impl_Fault__impl_isFaulty_c1 s_ f_c0 = some y_) : c_slices_IndexFunc_impl_Fault_impl_Fault__impl_isFaulty_c1.F [.sl 2 (List.map Fault_av s_), .fn (.func 113) [] [.ptr 1 [.int .i64 f_c0] 0 0]] = ⟨true, .int .i64 y_, [.any, .any]⟩ := by
  refine mkF_E rfl ?_
  dsimp only [slices_IndexFunc_impl_Fault_impl_Fault__impl_isFaulty_c1] at h
  obtain ⟨y_5, hk5, h⟩ := bd_some h
  obtain ⟨Lhk5, ehk5⟩ := slices_IndexFunc_impl_Fault_impl_Fault__impl_isFaulty_c1_l1_ex hk5
  rcases y_5 with y_5a | y_5b
  · dsimp only at h
    obtain rfl := so_some h
    refine ⟨Lhk5, fun L hL => ?_⟩
    have ehk5 := ehk5 L (by omega)
    try simp only [go_sem, E_slices_IndexFunc_impl_Fault_impl_Fault__impl_isFaulty_c1_l1, R_slices_IndexFunc_impl_Fault_impl_Fault__impl_isFaulty_c1_l1, ir122_k0, ir122_o0, ir122_r0] at ehk5
    simp only [go_sem, ir122, E_slices_IndexFunc_impl_Fault_impl_Fault__impl_isFaulty_c1_l1, R_slices_IndexFunc_impl_Fault_impl_Fault__impl_isFaulty_c1_l1, ir122_k0, ir122_o0, ir122_r0, ehk5]
  · dsimp only at h
    obtain rfl := so_some h
    refine ⟨Lhk5, fun L hL => ?_⟩
    have ehk5 := ehk5 L (by omega)
    try simp only [go_sem, E_slices_IndexFunc_impl_Fault_impl_Fault__impl_isFaulty_c1_l1, R_slices_IndexFunc_impl_Fault_impl_Fault__impl_isFaulty_c1_l1, ir122_k0, ir122_o0, ir122_r0] at ehk5
    simp only [go_sem, ir122, E_slices_IndexFunc_impl_Fault_impl_Fault__impl_isFaulty_c1_l1, R_slices_IndexFunc_impl_Fault_impl_Fault__impl_isFaulty_c1_l1, ir122_k0, ir122_o0, ir122_r0, ehk5]


def ir112_v : List Nat := [0, 1, 4]
def ir112 : AFn := ⟨2, 3, .seq (.region false [
    ⟨.var 2, 4, none, .mov (.c (.bool false))⟩])
 (.seq (.region false [
    ⟨.push, 5, none, .mov (.v 0)⟩,
    ⟨.push, 6, none, .mov (.v 1)⟩,
    ⟨.push, 7, none, .call 122 [(.s 1), (.s 0)]⟩,
    ⟨.push, 8, none, .bin false .geq (.s 0) (.c (.int .i64 (0)))⟩,
    ⟨.var 2, 4, none, .mov (.s 0)⟩])
 (.ret)), [.t 2]⟩
noncomputable def t_slices_ContainsFunc_impl_Fault_impl_Fault__impl_isFaulty_c1 : List (Nat × Ctr) := [(122, c_slices_IndexFunc_impl_Fault_impl_Fault__impl_isFaulty_c1)]
theorem lk_slices_ContainsFunc_impl_Fault_impl_Fault__impl_isFaulty_c1_122 : look t_slices_ContainsFunc_impl_Fault_impl_Fault__impl_isFaulty_c1 122 = some c_slices_IndexFunc_impl_Fault_impl_Fault__impl_isFaulty_c1 := rfl
noncomputable def c_slices_ContainsFunc_impl_Fault_impl_Fault__impl_isFaulty_c1 : Ctr := mkF t_slices_ContainsFunc_impl_Fault_impl_Fault__impl_isFaulty_c1 ir112 [.bor, .bor]
theorem s_slices_ContainsFunc_impl_Fault_impl_Fault__impl_isFaulty_c1 : Sound Try.prog 112 c_slices_ContainsFunc_impl_Fault_impl_Fault__impl_isFaulty_c1 := mkF_sound _ rfl (snd_cons s_slices_IndexFunc_impl_Fault_impl_Fault__impl_isFaulty_c1 snd_nil) (by kernel_rfl : chkFn Try.prog 112 ir112 ir112_v = true)
theorem M_slices_ContainsFunc_impl_Fault_impl_Fault__impl_isFaulty_c1 : c_slices_ContainsFunc_impl_Fault_impl_Fault__impl_isFaulty_c1.modes = [.bor, .bor] := rfl
theorem Fl_slices_ContainsFunc_impl_Fault_impl_Fault__impl_isFaulty_c1 : c_slices_ContainsFunc_impl_Fault_impl_Fault__impl_isFaulty_c1.flat = true := rfl
attribute [go_sem] M_slices_ContainsFunc_impl_Fault_impl_Fault__impl_isFaulty_c1 Fl_slices_ContainsFunc_impl_Fault_impl_Fault__impl_isFaulty_c1
attribute [go_sem] lk_slices_ContainsFunc_impl_Fault_impl_Fault__impl_isFaulty_c1_122
theorem Fs_slices_ContainsFunc_impl_Fault_impl_Fault__impl_isFaulty_c1 {s_ : List Fault} {f_c0 : Int} {y_ : Bool} (h : slices_ContainsFunc_impl_Fault_impl_Fault__impl_isFaulty_c1 s_ f_c0 = some y_) : c_slices_ContainsFunc_impl_Fault_impl_Fault__impl_isFaulty_c1.F [.sl 2 (List.map Fault_av s_), .fn (.func 113) [] [.ptr 1 [.int .i64 f_c0] 0 0]] = ⟨true, .bool y_, [.any, .any]⟩ := by
  refine mkF_E rfl ?_
  dsimp only [slices_ContainsFunc_impl_Fault_impl_Fault__impl_isFaulty_c1] at h
  obtain ⟨y_1, hk1, h⟩ := bd_some h
  have fhk1 := Fs_slices_IndexFunc_impl_Fault_impl_Fault__impl_isFaulty_c1 hk1
  try simp only [go_sem] at fhk1
  obtain rfl := so_some h
  refine ⟨0, fun L hL => ?_⟩
  simp only [go_sem, ir112, fhk1]


def ir89_v : List Nat := [0, 1, 3, 4]
def ir89 : AFn := ⟨2, 4, .seq (.region false [
    ⟨.var 2, 3, none, .box (.v 1)⟩,
    ⟨.var 3, 4, none, .mov (.c (.bool false))⟩])
 (.seq (.region false [
    ⟨.push, 5, none, .mov (.v 0)⟩,
    ⟨.push, 6, none, .mkFn (.func 113) [] [(.v 2)]⟩,
    ⟨.push, 7, none, .call 112 [(.s 1), (.s 0)]⟩,
    ⟨.var 3, 4, none, .mov (.s 0)⟩])
 (.ret)), [.t 3]⟩
noncomputable def t_impl_isFaulty : List (Nat × Ctr) := [(112, c_slices_ContainsFunc_impl_Fault_impl_Fault__impl_isFaulty_c1)]
theorem lk_impl_isFaulty_112 : look t_impl_isFaulty 112 = some c_slices_ContainsFunc_impl_Fault_impl_Fault__impl_isFaulty_c1 := rfl
noncomputable def c_impl_isFaulty : Ctr := mkF t_impl_isFaulty ir89 [.bor, .bor]
theorem s_impl_isFaulty : Sound Try.prog 89 c_impl_isFaulty := mkF_sound _ rfl (snd_cons s_slices_ContainsFunc_impl_Fault_impl_Fault__impl_isFaulty_c1 snd_nil) (by kernel_rfl : chkFn Try.prog 89 ir89 ir89_v = true)
theorem M_impl_isFaulty : c_impl_isFaulty.modes = [.bor, .bor] := rfl
theorem Fl_impl_isFaulty : c_impl_isFaulty.flat = true := rfl
attribute [go_sem] M_impl_isFaulty Fl_impl_isFaulty
attribute [go_sem] lk_impl_isFaulty_112
theorem Fs_impl_isFaulty {faults : List Fault} {i : Int} {y_ : Bool} (h : impl_isFaulty faults i = some y_) : c_impl_isFaulty.F [.sl 2 (List.map Fault_av faults), .int .i64 i] = ⟨true, .bool y_, [.any, .any]⟩ := by
  refine mkF_E rfl ?_
  dsimp only [impl_isFaulty] at h
  obtain ⟨y_1, hk1, h⟩ := bd_some h
  have fhk1 := Fs_slices_ContainsFunc_impl_Fault_impl_Fault__impl_isFaulty_c1 hk1
  try simp only [go_sem] at fhk1
  obtain rfl := so_some h
  refine ⟨0, fun L hL => ?_⟩
  simp only [go_sem, ir89, fhk1]


def ir123_v : List Nat := [0, 2]
def ir123 : AFn := ⟨1, 2, .seq (.region false [
    ⟨.var 1, 2, none, .mov (.c (.int .i64 (0)))⟩])
 (.seq (.test false [
    ⟨.push, 3, none, .mov (.v 0)⟩,
    ⟨.push, 4, none, .bin false .lss (.s 0) (.c (.int .i64 (0)))⟩] (.s 0)
  (.seq (.region false [
      ⟨.push, 5, none, .mov (.v 0)⟩,
      ⟨.push, 6, none, .un .neg (.s 0)⟩,
      ⟨.var 1, 2, none, .mov (.s 0)⟩])
   (.ret))
  (.skip))
 (.seq (.region false [
    ⟨.push, 7, none, .mov (.v 0)⟩,
    ⟨.var 1, 2, none, .mov (.s 0)⟩])
 (.ret))), [.t 1]⟩
noncomputable def t_impl_abs : List (Nat × Ctr) := []
noncomputable def c_impl_abs : Ctr := mkF t_impl_abs ir123 [.bor]
theorem s_impl_abs : Sound Try.prog 123 c_impl_abs := mkF_sound _ rfl snd_nil (by kernel_rfl : chkFn Try.prog 123 ir123 ir123_v = true)
theorem M_impl_abs : c_impl_abs.modes = [.bor] := rfl
theorem Fl_impl_abs : c_impl_abs.flat = true := rfl
attribute [go_sem] M_impl_abs Fl_impl_abs
theorem Fs_impl_abs {n : Int} {y_ : Int} (h : impl_abs n = some y_) : c_impl_abs.F [.int .i64 n] = ⟨true, .int .i64 y_, [.any]⟩ := by
  refine mkF_E rfl ?_
  dsimp only [impl_abs] at h
  rcases it_some h with ⟨hk1, h⟩ | ⟨hk1, h⟩
  · try simp only [go_sem, n1, n2, n3, n4] at hk1
    all_goals
    obtain rfl := so_some h
    refine ⟨0, fun L hL => ?_⟩
    simp only [go_sem, ir123, hk1]
  · try simp only [go_sem, n1, n2, n3, n4] at hk1
    all_goals
    obtain rfl := so_some h
    refine ⟨0, fun L hL => ?_⟩
    simp only [go_sem, ir123, hk1]


def ir114_b0 : IR := .seq (.test false [
    ⟨.push, 5, none, .mov (.v 1)⟩,
    ⟨.push, 6, none, .bin false .neq (.s 0) (.c (.int .i64 (0)))⟩] (.s 0)
  (.skip)
  (.exit 0))
 (.block 1 (.anyo 4 [
    ⟨.slot 0, 7, none, .mov (.v 1)⟩,
    ⟨.slot 1, 8, none, .mov (.v 0)⟩,
    ⟨.slot 2, 9, none, .mov (.v 1)⟩,
    ⟨.slot 3, 10, none, .bin false .rem (.s 1) (.s 2)⟩,
    ⟨.var 0, 0, none, .mov (.s 0)⟩,
    ⟨.var 1, 1, none, .mov (.s 3)⟩] [] .skip))
def ir114_k0 : List Bool := [true, true, false]
def ir114_o0 : List Bool := [true, false, false]
def ir114_r0 : List Bool := [false, false, true]
def ir114_v : List Nat := [0, 1, 4]
def ir114 : AFn := ⟨2, 3, .seq (.region false [
    ⟨.var 2, 4, none, .mov (.c (.int .i64 (0)))⟩])
 (.seq (.block 0 (.loop ir114_k0 ir114_o0 ir114_r0 ir114_b0))
 (.seq (.region false [
    ⟨.push, 11, none, .mov (.v 0)⟩,
    ⟨.push, 12, none, .call 123 [(.s 0)]⟩,
    ⟨.var 2, 4, none, .mov (.s 0)⟩])
 (.ret))), [.t 2]⟩
noncomputable def t_impl_gcd : List (Nat × Ctr) := [(123, c_impl_abs)]
theorem lk_impl_gcd_123 : look t_impl_gcd 123 = some c_impl_abs := rfl
noncomputable def c_impl_gcd : Ctr := mkF t_impl_gcd ir114 [.bor, .bor]
theorem s_impl_gcd : Sound Try.prog 114 c_impl_gcd := mkF_sound _ rfl (snd_cons s_impl_abs snd_nil) (by kernel_rfl : chkFn Try.prog 114 ir114 ir114_v = true)
theorem M_impl_gcd : c_impl_gcd.modes = [.bor, .bor] := rfl
theorem Fl_impl_gcd : c_impl_gcd.flat = true := rfl
attribute [go_sem] M_impl_gcd Fl_impl_gcd
attribute [go_sem] lk_impl_gcd_123
def E_impl_gcd_l1  : (Int × Int) → St
  | (a, b) => ⟨[.int .i64 a, .int .i64 b, .any], [], [], true⟩
def R_impl_gcd_l1  (y : Int) : Res := (.exit 0, ⟨[.int .i64 y, .any, .any], [], [], true⟩)
theorem impl_gcd_l1_ex  {sgm_ : Int × Int} {rho_ : Int} (h : whileE (impl_gcd_l1) sgm_ = some rho_) : ∃ L0, ∀ L, L0 ≤ L → iter (exec (look t_impl_gcd) L ir114_b0) ir114_k0 ir114_o0 ir114_r0 L (E_impl_gcd_l1 sgm_) = R_impl_gcd_l1 rho_ := by
  refine loop_ex (E := E_impl_gcd_l1) (R := R_impl_gcd_l1) (fun y => by first | (intro c; cases c) | (rcases y with y | y <;> (intro c; cases c)) | (rcases y with y | y | y <;> (intro c; cases c))) ?_ h
  clear h
  rintro ⟨a, b⟩ o_ h
  dsimp only [impl_gcd_l1] at h
  rcases it_some h with ⟨hk1, h⟩ | ⟨hk1, h⟩
  · try simp only [go_sem, n1, n2, n3, n4] at hk1
    all_goals
    obtain ⟨hk2, h⟩ := ck_some h
    try simp only [go_sem, n1, n2, n3, n4, hk1] at hk2
    all_goals
    obtain rfl := so_some h
    refine ⟨0, fun L hL => ?_⟩
    simp only [go_sem, ir114, E_impl_gcd_l1, R_impl_gcd_l1, ir114_b0, ir114_k0, ir114_o0, ir114_r0, hk1, hk2]
  · try simp only [go_sem, n1, n2, n3, n4] at hk1
    all_goals
    obtain rfl := so_some h
    refine ⟨0, fun L hL => ?_⟩
    simp only [go_sem, ir114, E_impl_gcd_l1, R_impl_gcd_l1, ir114_b0, ir114_k0, ir114_o0, ir114_r0, hk1]

theorem Fs_impl_gcd {a : Int} {b : Int} {y_ : Int} (h : impl_gcd a b = some y_) : c_impl_gcd.F [.int .i64 a, .int .i64 b] = ⟨true, .int .i64 y_, [.any, .any]⟩ := by
  refine mkF_E rfl ?_
  dsimp only [impl_gcd] at h
  obtain ⟨y_3, hk3, h⟩ := bd_some h
  obtain ⟨Lhk3, ehk3⟩ := impl_gcd_l1_ex hk3
  obtain ⟨y_4, hk4, h⟩ := bd_some h
  have fhk4 := Fs_impl_abs hk4
  try simp only [go_sem] at fhk4
  obtain rfl := so_some h
  refine ⟨Lhk3, fun L hL => ?_⟩
  have ehk3 := ehk3 L (by omega)
  try simp only [go_sem, E_impl_gcd_l1, R_impl_gcd_l1, ir114_k0, ir114_o0, ir114_r0] at ehk3
  simp only [go_sem, ir114, E_impl_gcd_l1, R_impl_gcd_l1, ir114_k0, ir114_o0, ir114_r0, fhk4, ehk3]


def ir90_v : List Nat := [0, 1, 4, 5]
def ir90 : AFn := ⟨2, 4, .seq (.region false [
    ⟨.var 2, 4, none, .alloc (.agg [.int .i64 (0), .int .i64 (0)])⟩])
 (.seq (.region false [
    ⟨.push, 6, none, .mov (.v 0)⟩,
    ⟨.push, 7, none, .mov (.v 1)⟩,
    ⟨.push, 8, none, .call 114 [(.s 1), (.s 0)]⟩,
    ⟨.var 3, 5, none, .mov (.s 0)⟩])
 (.seq (.test false [
    ⟨.push, 9, none, .mov (.v 1)⟩,
    ⟨.push, 10, none, .bin false .lss (.s 0) (.c (.int .i64 (0)))⟩] (.s 0)
  (.region false [
     ⟨.push, 11, none, .mov (.v 3)⟩,
     ⟨.push, 12, none, .un .neg (.s 0)⟩,
     ⟨.var 3, 5, none, .mov (.s 0)⟩])
  (.skip))
 (.seq (.anyo 7 [
    ⟨.slot 0, 13, none, .mov (.v 0)⟩,
    ⟨.slot 1, 14, none, .mov (.v 3)⟩,
    ⟨.slot 2, 15, none, .bin false .quo (.s 0) (.s 1)⟩,
    ⟨.slot 3, 16, none, .mov (.v 1)⟩,
    ⟨.slot 4, 17, none, .mov (.v 3)⟩,
    ⟨.slot 5, 18, none, .bin false .quo (.s 3) (.s 4)⟩,
    ⟨.slot 6, 19, none, .pur (.build [.int .i64 (0), .int .i64 (0)] [(0, 1, (.s 2)), (1, 1, (.s 5))])⟩,
    ⟨.no, 0, none, .store 2 (.v 2) (.s 6)⟩] [] .skip)
 (.ret)))), [.cell true 2 2]⟩
noncomputable def t_impl_lowest : List (Nat × Ctr) := [(114, c_impl_gcd)]
theorem lk_impl_lowest_114 : look t_impl_lowest 114 = some c_impl_gcd := rfl
noncomputable def c_impl_lowest : Ctr := mkN t_impl_lowest ir90 [.bor, .bor]
theorem s_impl_lowest : Sound Try.prog 90 c_impl_lowest := mkN_sound _ (snd_cons s_impl_gcd snd_nil) (by kernel_rfl : chkFn Try.prog 90 ir90 ir90_v = true)
theorem M_impl_lowest : c_impl_lowest.modes = [.bor, .bor] := rfl
theorem Fl_impl_lowest : c_impl_lowest.flat = false := rfl
attribute [go_sem] M_impl_lowest Fl_impl_lowest
attribute [go_sem] lk_impl_lowest_114
theorem Fs_impl_lowest {num : Int} {den : Int} {y_ : Fraction} (h : impl_lowest num den = some y_) : c_impl_lowest.F [.int .i64 num, .int .i64 den] = ⟨true, Fraction_av y_, [.any, .any]⟩ := by
  refine mkN_E ?_
  dsimp only [impl_lowest] at h
  obtain ⟨y_1, hk1, h⟩ := bd_some h
  have fhk1 := Fs_impl_gcd hk1
  try simp only [go_sem] at fhk1
  rcases it_some h with ⟨hk2, h⟩ | ⟨hk2, h⟩
  · try simp only [go_sem, n1, n2, n3, n4] at hk2
    all_goals
    obtain ⟨hk3, h⟩ := ck_some h
    try simp only [go_sem, n1, n2, n3, n4, hk2] at hk3
    all_goals
    obtain rfl := so_some h
    refine ⟨0, fun L hL => ?_⟩
    simp only [go_sem, ir90, fhk1, hk2, hk3]
  · try simp only [go_sem, n1, n2, n3, n4] at hk2
    all_goals
    obtain ⟨hk4, h⟩ := ck_some h
    try simp only [go_sem, n1, n2, n3, n4, hk2] at hk4
    all_goals
    obtain rfl := so_some h
    refine ⟨0, fun L hL => ?_⟩
    simp only [go_sem, ir90, fhk1, hk2, hk4]


def ir57_b1 : IR := .seq (.region false [
    ⟨.var 18, 26, none, .bin false .lss (.v 17) (.v 16)⟩])
 (.seq (.cond (.v 18) (.skip)
  (.exit 2))
 (.seq (.block 3 (.seq (.region false [
      ⟨.push, 27, none, .mov (.v 17)⟩,
      ⟨.push, 28, none, .ixAddr 5 (.v 15) (.v 17)⟩,
      ⟨.push, 29, none, .load true 5 (.s 0)⟩,
      ⟨.var 10, 13, none, .alloc (.agg [.int .i64 (0), .str [], .str [], .int .i64 (0), .bool false])⟩,
      ⟨.var 9, 12, none, .mov (.s 2)⟩,
      ⟨.no, 0, none, .store 5 (.v 10) (.s 0)⟩])
   (.seq (.test false [
      ⟨.push, 30, none, .fldAddr 2 (.v 10)⟩,
      ⟨.push, 31, none, .load false 1 (.s 0)⟩,
      ⟨.push, 32, none, .mov (.v 6)⟩,
      ⟨.push, 33, none, .bin false .neq (.s 1) (.s 0)⟩] (.s 0)
    (.exit 3)
    (.skip))
   (.seq (.region false [
      ⟨.push, 34, none, .mov (.v 8)⟩,
      ⟨.push, 35, none, .bin false .add (.s 0) (.c (.int .i64 (1)))⟩,
      ⟨.var 8, 11, none, .mov (.s 0)⟩])
   (.test false [
     ⟨.push, 36, none, .mov (.v 1)⟩,
     ⟨.push, 37, none, .mov (.v 9)⟩,
     ⟨.push, 38, none, .call 89 [(.s 1), (.s 0)]⟩] (.s 0)
   (.region false [
      ⟨.push, 39, none, .mov (.v 7)⟩,
      ⟨.push, 40, none, .bin false .add (.s 0) (.c (.int .i64 (1)))⟩,
      ⟨.var 7, 10, none, .mov (.s 0)⟩])
   (.skip))))))
 (.region false [
   ⟨.push, 41, none, .bin false .add (.v 17) (.c (.int .i64 (1)))⟩,
   ⟨.var 17, 25, none, .mov (.s 0)⟩])))
def ir57_k1 : List Bool := [true, true, false, false, true, true, true, true, true, false, false, true, true, true, false, true, true, true, false]
def ir57_o1 : List Bool := [true, true, false, false, true, true, false, true, true, false, false, true, true, true, false, false, false, false, false]
def ir57_r1 : List Bool := [false, false, true, true, false, false, false, false, false, false, false, false, false, false, false, false, false, false, false]
def ir57_b0 : IR := .seq (.region false [
    ⟨.var 14, 20, none, .bin false .lss (.v 13) (.v 12)⟩])
 (.seq (.cond (.v 14) (.skip)
  (.exit 0))
 (.seq (.block 1 (.seq (.region false [
      ⟨.push, 21, none, .ixAddr 1 (.v 11) (.v 13)⟩,
      ⟨.push, 22, none, .load false 1 (.s 0)⟩,
      ⟨.var 6, 9, none, .mov (.s 0)⟩])
   (.seq (.region false [
      ⟨.var 7, 10, none, .mov (.c (.int .i64 (0)))⟩,
      ⟨.var 8, 11, none, .mov (.c (.int .i64 (0)))⟩])
   (.seq (.seq (.region false [
       ⟨.var 15, 23, none, .mov (.v 0)⟩,
       ⟨.var 16, 24, none, .len false (.v 15)⟩,
       ⟨.var 17, 25, none, .mov (.c (.int .i64 (0)))⟩])
    (.block 2 (.loop ir57_k1 ir57_o1 ir57_r1 ir57_b1)))
   (.region false [
     ⟨.push, 42, none, .mov (.v 5)⟩,
     ⟨.push, 43, none, .mov (.v 7)⟩,
     ⟨.push, 44, none, .mov (.v 8)⟩,
     ⟨.push, 45, none, .call 90 [(.s 1), (.s 0)]⟩,
     ⟨.push, 46, none, .mkSl 2 (.agg [.int .i64 (0), .int .i64 (0)]) 1 [(0, (.s 0))]⟩,
     ⟨.push, 47, none, .app 2 16 (.agg [.int .i64 (0), .int .i64 (0)]) (.s 4) (.s 0)⟩,
     ⟨.var 5, 7, none, .mov (.s 0)⟩])))))
 (.region false [
   ⟨.push, 48, none, .bin false .add (.v 13) (.c (.int .i64 (1)))⟩,
   ⟨.var 13, 19, none, .mov (.s 0)⟩])))
def ir57_k0 : List Bool := [true, true, false, false, true, true, false, false, false, false, false, true, true, true, false, false, false, false, false]
def ir57_o0 : List Bool := [false, false, false, false, true, true, false, false, false, false, false, false, false, false, false, false, false, false, false]
def ir57_r0 : List Bool := [false, false, true, true, false, false, false, false, false, false, false, false, false, false, false, false, false, false, false]
def ir57_v : List Nat := [0, 1, 4, 5, 6, 7, 9, 10, 11, 12, 13, 17, 18, 19, 20, 23, 24, 25, 26]
def ir57 : AFn := ⟨2, 19, .seq (.region false [
    ⟨.var 2, 4, none, .newnil 1⟩,
    ⟨.var 3, 5, none, .newnil 2⟩])
 (.seq (.region false [
    ⟨.push, 14, none, .mov (.v 0)⟩,
    ⟨.push, 15, none, .call 87 [(.s 0), (.c (.fn (.func 88) [] []))]⟩,
    ⟨.push, 16, none, .mkSl 2 (.agg [.int .i64 (0), .int .i64 (0)]) 0 []⟩,
    ⟨.var 4, 6, none, .mov (.s 1)⟩,
    ⟨.var 5, 7, none, .mov (.s 0)⟩])
 (.seq (.seq (.region false [
     ⟨.var 11, 17, none, .mov (.v 4)⟩,
     ⟨.var 12, 18, none, .len false (.v 11)⟩,
     ⟨.var 13, 19, none, .mov (.c (.int .i64 (0)))⟩])
  (.block 0 (.loop ir57_k0 ir57_o0 ir57_r0 ir57_b0)))
 (.seq (.region false [
    ⟨.push, 49, none, .mov (.v 4)⟩,
    ⟨.push, 50, none, .mov (.v 5)⟩,
    ⟨.var 2, 4, none, .mov (.s 1)⟩,
    ⟨.var 3, 5, none, .mov (.s 0)⟩])
 (.ret)))), [.t 2, .t 3]⟩
noncomputable def t_impl_faultShares : List (Nat × Ctr) := [(87, c_impl_namesOf__impl_observerOf), (89, c_impl_isFaulty), (90, c_impl_lowest)]
theorem lk_impl_faultShares_87 : look t_impl_faultShares 87 = some c_impl_namesOf__impl_observerOf := rfl
theorem lk_impl_faultShares_89 : look t_impl_faultShares 89 = some c_impl_isFaulty := rfl
theorem lk_impl_faultShares_90 : look t_impl_faultShares 90 = some c_impl_lowest := rfl
noncomputable def c_impl_faultShares : Ctr := mkF t_impl_faultShares ir57 [.bor, .bor]
theorem s_impl_faultShares : Sound Try.prog 57 c_impl_faultShares := mkF_sound _ rfl (snd_cons s_impl_namesOf__impl_observerOf (snd_cons s_impl_isFaulty (snd_cons s_impl_lowest snd_nil))) (by kernel_rfl : chkFn Try.prog 57 ir57 ir57_v = true)
theorem M_impl_faultShares : c_impl_faultShares.modes = [.bor, .bor] := rfl
theorem Fl_impl_faultShares : c_impl_faultShares.flat = true := rfl
attribute [go_sem] M_impl_faultShares Fl_impl_faultShares
attribute [go_sem] lk_impl_faultShares_87 lk_impl_faultShares_89 lk_impl_faultShares_90
def E_impl_faultShares_l2 (list : List Estimate) (faults : List Fault) (names : List (List UInt8)) (shares : List Fraction) (name : List UInt8) (t18 : Int) (t19 : Int) (t23 : List Estimate) (t24 : Int) : (Int × Int × Int) → St
  | (faulty, all, t25) => ⟨[.sl 5 (List.map Estimate_av list), .sl 2 (List.map Fault_av faults), .any, .any, .own 3200000, .own 3200032, .str name, .int .i64 faulty, .int .i64 all, .any, .any, .own 3200000, .int .i64 t18, .int .i64 t19, .any, .sl 5 (List.map Estimate_av t23), .int .i64 t24, .int .i64 t25, .any], [], [(3200000, ⟨1, List.map AV.str names⟩), (3200032, ⟨2, List.map Fraction_av shares⟩)], true⟩
def R_impl_faultShares_l2 (list : List Estimate) (faults : List Fault) (names : List (List UInt8)) (shares : List Fraction) (name : List UInt8) (t18 : Int) (t19 : Int) (t23 : List Estimate) (t24 : Int) (y : Int × Int) : Res := (.exit 2, ⟨[.sl 5 (List.map Estimate_av list), .sl 2 (List.map Fault_av faults), .any, .any, .own 3200000, .own 3200032, .any, .int .i64 y.1, .int .i64 y.2, .any, .any, .own 3200000, .int .i64 t18, .int .i64 t19, .any, .any, .any, .any, .any], [], [(3200000, ⟨1, List.map AV.str names⟩), (3200032, ⟨2, List.map Fraction_av shares⟩)], true⟩)
theorem impl_faultShares_l2_ex {list : List Estimate} {faults : List Fault} {names : List (List UInt8)} {shares : List Fraction} {name : List UInt8} {t18 : Int} {t19 : Int} {t23 : List Estimate} {t24 : Int} {sgm_ : Int × Int × Int} {rho_ : Int × Int} (h : whileE (impl_faultShares_l2 list faults names shares name t18 t19 t23 t24) sgm_ = some rho_) : ∃ L0, ∀ L, L0 ≤ L → iter (exec (look t_impl_faultShares) L ir57_b1) ir57_k1 ir57_o1 ir57_r1 L (E_impl_faultShares_l2 list faults names shares name t18 t19 t23 t24 sgm_) = R_impl_faultShares_l2 list faults names shares name t18 t19 t23 t24 rho_ := by
  refine loop_ex (E := E_impl_faultShares_l2 list faults names shares name t18 t19 t23 t24) (R := R_impl_faultShares_l2 list faults names shares name t18 t19 t23 t24) (fun y => by first | (intro c; cases c) | (rcases y with y | y <;> (intro c; cases c)) | (rcases y with y | y | y <;> (intro c; cases c))) ?_ h
  clear h
  rintro ⟨faulty, all, t25⟩ o_ h
  dsimp only [impl_faultShares_l2] at h
  rcases it_some h with ⟨hk4, h⟩ | ⟨hk4, h⟩
  · try simp only [go_sem, n1, n2, n3, n4] at hk4
    all_goals
    obtain ⟨hk5, h⟩ := ck_some h
    have lhk5 := ix_lt hk5
    have xhk5 := getD_mapD Estimate_av t23 lhk5
    try simp only [go_sem] at lhk5
    try simp only [go_sem] at xhk5
    try simp only [go_sem, n1, n2, n3, n4, hk4] at hk5
    all_goals
    rcases it_some h with ⟨hk6, h⟩ | ⟨hk6, h⟩
    · try simp only [go_sem, n1, n2, n3, n4, hk4, hk5] at hk6
      all_goals
      obtain rfl := so_some h
      refine ⟨0, fun L hL => ?_⟩
      simp only [go_sem, ir57, E_impl_faultShares_l2, R_impl_faultShares_l2, ir57_b1, ir57_k1, ir57_o1, ir57_r1, hk4, hk5, lhk5, xhk5, hk6]
    · try simp only [go_sem, n1, n2, n3, n4, hk4, hk5] at hk6
      all_goals
      obtain ⟨y_7, hk7, h⟩ := bd_some h
      have fhk7 := Fs_impl_isFaulty hk7
      try simp only [go_sem, hk4, hk5, hk6] at fhk7
      rcases it_some h with ⟨hk8, h⟩ | ⟨hk8, h⟩
      · try simp only [go_sem, n1, n2, n3, n4, hk4, hk5, hk6] at hk8
        all_goals
        obtain rfl := so_some h
        refine ⟨0, fun L hL => ?_⟩
        simp only [go_sem, ir57, E_impl_faultShares_l2, R_impl_faultShares_l2, ir57_b1, ir57_k1, ir57_o1, ir57_r1, hk4, hk5, lhk5, xhk5, hk6, fhk7, hk8]
      · try simp only [go_sem, n1, n2, n3, n4, hk4, hk5, hk6] at hk8
        all_goals
        obtain rfl := so_some h
        refine ⟨0, fun L hL => ?_⟩
        simp only [go_sem, ir57, E_impl_faultShares_l2, R_impl_faultShares_l2, ir57_b1, ir57_k1, ir57_o1, ir57_r1, hk4, hk5, lhk5, xhk5, hk6, fhk7, hk8]
  · try simp only [go_sem, n1, n2, n3, n4] at hk4
    all_goals
    obtain rfl := so_some h
    refine ⟨0, fun L hL => ?_⟩
    simp only [go_sem, ir57, E_impl_faultShares_l2, R_impl_faultShares_l2, ir57_b1, ir57_k1, ir57_o1, ir57_r1, hk4]

def E_impl_faultShares_l1 (list : List Estimate) (faults : List Fault) (names : List (List UInt8)) (t18 : Int) : ((List Fraction) × Int) → St
  | (shares, t19) => ⟨[.sl 5 (List.map Estimate_av list), .sl 2 (List.map Fault_av faults), .any, .any, .own 3200000, .own 3200032, .any, .any, .any, .any, .any, .own 3200000, .int .i64 t18, .int .i64 t19, .any, .any, .any, .any, .any], [], [(3200000, ⟨1, List.map AV.str names⟩), (3200032, ⟨2, List.map Fraction_av shares⟩)], true⟩
def R_impl_faultShares_l1 (list : List Estimate) (faults : List Fault) (names : List (List UInt8)) (t18 : Int) (y : (List Fraction)) : Res := (.exit 0, ⟨[.any, .any, .any, .any, .own 3200000, .own 3200032, .any, .any, .any, .any, .any, .any, .any, .any, .any, .any, .any, .any, .any], [], [(3200000, ⟨1, List.map AV.str names⟩), (3200032, ⟨2, List.map Fraction_av y⟩)], true⟩)
theorem impl_faultShares_l1_ex {list : List Estimate} {faults : List Fault} {names : List (List UInt8)} {t18 : Int} {sgm_ : (List Fraction) × Int} {rho_ : (List Fraction)} (h : whileE (impl_faultShares_l1 list faults names t18) sgm_ = some rho_) : ∃ L0, ∀ L, L0 ≤ L → iter (exec (look t_impl_faultShares) L ir57_b0) ir57_k0 ir57_o0 ir57_r0 L (E_impl_faultShares_l1 list faults names t18 sgm_) = R_impl_faultShares_l1 list faults names t18 rho_ := by
  refine loop_ex (E := E_impl_faultShares_l1 list faults names t18) (R := R_impl_faultShares_l1 list faults names t18) (fun y => by first | (intro c; cases c) | (rcases y with y | y <;> (intro c; cases c)) | (rcases y with y | y | y <;> (intro c; cases c))) ?_ h
  clear h
  rintro ⟨shares, t19⟩ o_ h
  dsimp only [impl_faultShares_l1] at h
  rcases it_some h with ⟨hk2, h⟩ | ⟨hk2, h⟩
  · try simp only [go_sem, n1, n2, n3, n4] at hk2
    all_goals
    obtain ⟨hk3, h⟩ := ck_some h
    have lhk3 := ix_lt hk3
    have xhk3 := getD_mapD AV.str names lhk3
    try simp only [go_sem] at lhk3
    try simp only [go_sem] at xhk3
    try simp only [go_sem, n1, n2, n3, n4, hk2] at hk3
    all_goals
    obtain ⟨y_9, hk9, h⟩ := bd_some h
    obtain ⟨Lhk9, ehk9⟩ := impl_faultShares_l2_ex hk9
    obtain ⟨y_10, hk10, h⟩ := bd_some h
    have fhk10 := Fs_impl_lowest hk10
    try simp only [go_sem, hk2, hk3] at fhk10
    obtain ⟨hk11, h⟩ := ck_some h
    try simp only [go_sem, n1, n2, n3, n4, hk2, hk3] at hk11
    all_goals
    obtain rfl := so_some h
    refine ⟨Lhk9, fun L hL => ?_⟩
    have ehk9 := ehk9 L (by omega)
    try simp only [go_sem, E_impl_faultShares_l1, R_impl_faultShares_l1, ir57_b0, ir57_k0, ir57_o0, ir57_r0, E_impl_faultShares_l2, R_impl_faultShares_l2, ir57_k1, ir57_o1, ir57_r1, hk2, hk3, hk11] at ehk9
    simp only [go_sem, ir57, E_impl_faultShares_l1, R_impl_faultShares_l1, ir57_b0, ir57_k0, ir57_o0, ir57_r0, E_impl_faultShares_l2, R_impl_faultShares_l2, ir57_k1, ir57_o1, ir57_r1, hk2, hk3, lhk3, xhk3, fhk10, hk11, ehk9]
  · try simp only [go_sem, n1, n2, n3, n4] at hk2
    all_goals
    obtain rfl := so_some h
    refine ⟨0, fun L hL => ?_⟩
    simp only [go_sem, ir57, E_impl_faultShares_l1, R_impl_faultShares_l1, ir57_b0, ir57_k0, ir57_o0, ir57_r0, E_impl_faultShares_l2, R_impl_faultShares_l2, ir57_k1, ir57_o1, ir57_r1, hk2]

theorem Fs_impl_faultShares {list : List Estimate} {faults : List Fault} {y_ : (List (List UInt8)) × (List Fraction)} (h : impl_faultShares list faults = some y_) : c_impl_faultShares.F [.sl 5 (List.map Estimate_av list), .sl 2 (List.map Fault_av faults)] = ⟨true, .tup [.fresh 1 (List.map AV.str y_.1), .fresh 2 (List.map Fraction_av y_.2)], [.any, .any]⟩ := by
  refine mkF_E (by simp only [flatA, flatB, flat1, List.all_cons, List.all_nil, Bool.and_self, flatE_map (f := AV.str) (fun _ => rfl), flatE_map (f := Fraction_av) (fun _ => rfl)]) ?_
  dsimp only [impl_faultShares] at h
  obtain ⟨y_1, hk1, h⟩ := bd_some h
  have fhk1 := Fs_impl_namesOf__impl_observerOf hk1
  try simp only [go_sem] at fhk1
  obtain ⟨y_12, hk12, h⟩ := bd_some h
  obtain ⟨Lhk12, ehk12⟩ := impl_faultShares_l1_ex hk12
  obtain rfl := so_some h
  refine ⟨Lhk12, fun L hL => ?_⟩
  have ehk12 := ehk12 L (by omega)
  try simp only [go_sem, E_impl_faultShares_l2, R_impl_faultShares_l2, ir57_k1, ir57_o1, ir57_r1, E_impl_faultShares_l1, R_impl_faultShares_l1, ir57_k0, ir57_o0, ir57_r0] at ehk12
  simp only [go_sem, ir57, E_impl_faultShares_l2, R_impl_faultShares_l2, ir57_k1, ir57_o1, ir57_r1, E_impl_faultShares_l1, R_impl_faultShares_l1, ir57_k0, ir57_o0, ir57_r0, fhk1, ehk12]


def ir58_v : List Nat := [0, 1, 2, 3, 4]
def ir58 : AFn := ⟨2, 5, .seq (.region false [
    ⟨.var 2, 2, none, .box (.v 0)⟩,
    ⟨.var 3, 3, none, .box (.v 1)⟩,
    ⟨.var 4, 4, none, .mov (.c (.bool false))⟩])
 (.seq (.region false [
    ⟨.push, 5, none, .fldAddr 0 (.v 2)⟩,
    ⟨.push, 6, none, .load false 1 (.s 0)⟩,
    ⟨.push, 7, none, .fldAddr 1 (.v 3)⟩,
    ⟨.push, 8, none, .load false 1 (.s 0)⟩,
    ⟨.push, 9, none, .bin false .mul (.s 2) (.s 0)⟩,
    ⟨.push, 10, none, .fldAddr 0 (.v 3)⟩,
    ⟨.push, 11, none, .load false 1 (.s 0)⟩,
    ⟨.push, 12, none, .fldAddr 1 (.v 2)⟩,
    ⟨.push, 13, none, .load false 1 (.s 0)⟩,
    ⟨.push, 14, none, .bin false .mul (.s 2) (.s 0)⟩,
    ⟨.push, 15, none, .bin false .lss (.s 5) (.s 0)⟩,
    ⟨.var 4, 4, none, .mov (.s 0)⟩])
 (.ret)), [.t 4]⟩
noncomputable def t_impl_Fraction_less : List (Nat × Ctr) := []
noncomputable def c_impl_Fraction_less : Ctr := mkF t_impl_Fraction_less ir58 [.bor, .bor]
theorem s_impl_Fraction_less : Sound Try.prog 58 c_impl_Fraction_less := mkF_sound _ rfl snd_nil (by kernel_rfl : chkFn Try.prog 58 ir58 ir58_v = true)
theorem M_impl_Fraction_less : c_impl_Fraction_less.modes = [.bor, .bor] := rfl
theorem Fl_impl_Fraction_less : c_impl_Fraction_less.flat = true := rfl
attribute [go_sem] M_impl_Fraction_less Fl_impl_Fraction_less
theorem Fs_impl_Fraction_less {f : Fraction} {g : Fraction} {y_ : Bool} (h : impl_Fraction_less f g = some y_) : c_impl_Fraction_less.F [Fraction_av f, Fraction_av g] = ⟨true, .bool y_, [.any, .any]⟩ := by
  refine mkF_E rfl ?_
  dsimp only [impl_Fraction_less] at h
  obtain rfl := so_some h
  refine ⟨0, fun L hL => ?_⟩
  simp only [go_sem, ir58]


def ir26_b0 : IR := .seq (.region false [
    ⟨.var 14, 29, none, .bin false .lss (.v 13) (.v 12)⟩])
 (.seq (.cond (.v 14) (.skip)
  (.exit 0))
 (.seq (.block 1 (.seq (.region false [
      ⟨.push, 30, none, .mov (.v 13)⟩,
      ⟨.push, 31, none, .ixAddr 2 (.v 11) (.v 13)⟩,
      ⟨.push, 32, none, .load true 2 (.s 0)⟩,
      ⟨.var 10, 12, none, .alloc (.agg [.int .i64 (0), .int .i64 (0)])⟩,
      ⟨.var 9, 11, none, .mov (.s 2)⟩,
      ⟨.no, 0, none, .store 2 (.v 10) (.s 0)⟩])
   (.test false [
     ⟨.push, 33, none, .load true 2 (.v 8)⟩,
     ⟨.push, 34, none, .load true 2 (.v 10)⟩,
     ⟨.push, 35, none, .call 58 [(.s 1), (.s 0)]⟩] (.s 0)
   (.anyo 5 [
      ⟨.slot 0, 36, none, .mov (.v 5)⟩,
      ⟨.slot 1, 37, none, .mov (.v 9)⟩,
      ⟨.slot 2, 38, none, .ixAddr 1 (.s 0) (.s 1)⟩,
      ⟨.slot 3, 39, none, .load false 1 (.s 2)⟩,
      ⟨.slot 4, 40, none, .load true 2 (.v 10)⟩,
      ⟨.var 7, 9, none, .mov (.s 3)⟩,
      ⟨.no, 0, none, .store 2 (.v 8) (.s 4)⟩] [] .skip)
   (.skip))))
 (.region false [
   ⟨.push, 41, none, .bin false .add (.v 13) (.c (.int .i64 (1)))⟩,
   ⟨.var 13, 28, none, .mov (.s 0)⟩])))
def ir26_k0 : List Bool := [false, false, false, false, false, true, false, true, true, false, false, true, true, true, false]
def ir26_o0 : List Bool := [false, false, false, false, false, false, false, true, true, false, false, false, false, false, false]
def ir26_r0 : List Bool := [false, false, true, true, false, false, false, false, false, false, false, false, false, false, false]
def ir26_v : List Nat := [0, 1, 4, 5, 6, 7, 8, 9, 10, 11, 12, 26, 27, 28, 29]
def ir26 : AFn := ⟨2, 15, .seq (.region false [
    ⟨.var 2, 4, none, .mov (.c (.str []))⟩,
    ⟨.var 3, 5, none, .mov (.c (.int .i64 (0)))⟩])
 (.seq (.seq (.region false [
     ⟨.push, 13, none, .mov (.v 0)⟩,
     ⟨.push, 14, none, .mov (.v 1)⟩,
     ⟨.push, 15, none, .call 56 [(.s 1), (.s 0)]⟩,
     ⟨.var 4, 6, none, .mov (.s 0)⟩])
  (.test false [
    ⟨.push, 16, none, .mov (.v 4)⟩,
    ⟨.push, 17, none, .bin false .neq (.s 0) (.c (.int .i64 (0)))⟩] (.s 0)
  (.seq (.region false [
      ⟨.push, 18, none, .mov (.v 4)⟩,
      ⟨.var 2, 4, none, .mov (.c (.str []))⟩,
      ⟨.var 3, 5, none, .mov (.s 0)⟩])
   (.ret))
  (.skip)))
 (.seq (.region false [
    ⟨.push, 20, none, .mov (.v 0)⟩,
    ⟨.push, 21, none, .mov (.v 1)⟩,
    ⟨.push, 22, none, .call 57 [(.s 1), (.s 0)]⟩,
    ⟨.push, 19, none, .mov (.s 0)⟩,
    ⟨.push, 23, none, .ext (.s 0) 0⟩,
    ⟨.push, 24, none, .ext (.s 1) 1⟩,
    ⟨.var 5, 7, none, .mov (.s 1)⟩,
    ⟨.var 6, 8, none, .mov (.s 0)⟩])
 (.seq (.region false [
    ⟨.push, 25, none, .build [.int .i64 (0), .int .i64 (0)] [(0, 1, (.c (.int .i64 (0)))), (1, 1, (.c (.int .i64 (1))))]⟩,
    ⟨.var 8, 10, none, .alloc (.agg [.int .i64 (0), .int .i64 (0)])⟩,
    ⟨.var 7, 9, none, .mov (.c (.str []))⟩,
    ⟨.no, 0, none, .store 2 (.v 8) (.s 0)⟩])
 (.seq (.seq (.region false [
     ⟨.var 11, 26, none, .mov (.v 6)⟩,
     ⟨.var 12, 27, none, .len false (.v 11)⟩,
     ⟨.var 13, 28, none, .mov (.c (.int .i64 (0)))⟩])
  (.block 0 (.loop ir26_k0 ir26_o0 ir26_r0 ir26_b0)))
 (.seq (.test false [
    ⟨.push, 42, none, .fldAddr 0 (.v 8)⟩,
    ⟨.push, 43, none, .load false 1 (.s 0)⟩,
    ⟨.push, 44, none, .bin false .eql (.s 0) (.c (.int .i64 (0)))⟩] (.s 0)
  (.seq (.region false [
      ⟨.var 2, 4, none, .mov (.c (.str []))⟩,
      ⟨.var 3, 5, none, .mov (.c (.int .i64 (3)))⟩])
   (.ret))
  (.skip))
 (.seq (.region false [
    ⟨.push, 45, none, .mov (.v 7)⟩,
    ⟨.var 2, 4, none, .mov (.s 0)⟩,
    ⟨.var 3, 5, none, .mov (.c (.int .i64 (0)))⟩])
 (.ret))))))), [.t 2, .t 3]⟩
noncomputable def t_impl_WorstObserver : List (Nat × Ctr) := [(56, c_impl_audited), (57, c_impl_faultShares), (58, c_impl_Fraction_less)]
theorem lk_impl_WorstObserver_56 : look t_impl_WorstObserver 56 = some c_impl_audited := rfl
theorem lk_impl_WorstObserver_57 : look t_impl_WorstObserver 57 = some c_impl_faultShares := rfl
theorem lk_impl_WorstObserver_58 : look t_impl_WorstObserver 58 = some c_impl_Fraction_less := rfl
noncomputable def c_impl_WorstObserver : Ctr := mkF t_impl_WorstObserver ir26 [.bor, .bor]
theorem s_impl_WorstObserver : Sound Try.prog 26 c_impl_WorstObserver := mkF_sound _ rfl (snd_cons s_impl_audited (snd_cons s_impl_faultShares (snd_cons s_impl_Fraction_less snd_nil))) (by kernel_rfl : chkFn Try.prog 26 ir26 ir26_v = true)
theorem M_impl_WorstObserver : c_impl_WorstObserver.modes = [.bor, .bor] := rfl
theorem Fl_impl_WorstObserver : c_impl_WorstObserver.flat = true := rfl
attribute [go_sem] M_impl_WorstObserver Fl_impl_WorstObserver
attribute [go_sem] lk_impl_WorstObserver_56 lk_impl_WorstObserver_57 lk_impl_WorstObserver_58
def E_impl_WorstObserver_l1 (names : List (List UInt8)) (t26 : List Fraction) (t27 : Int) : ((List UInt8) × Fraction × Int) → St
  | (worst, most, t28) => ⟨[.any, .any, .any, .any, .any, .own 3200000, .any, .str worst, .ref 3200032 0 0, .any, .any, .own 3200064, .int .i64 t27, .int .i64 t28, .any], [], [(3200000, ⟨1, List.map AV.str names⟩), (3200032, ⟨2, [Fraction_av most]⟩), (3200064, ⟨2, List.map Fraction_av t26⟩)], true⟩
def R_impl_WorstObserver_l1 (names : List (List UInt8)) (t26 : List Fraction) (t27 : Int) (y : (List UInt8) × Fraction) : Res := (.exit 0, ⟨[.any, .any, .any, .any, .any, .any, .any, .str y.1, .ref 3200000 0 0, .any, .any, .any, .any, .any, .any], [], [(3200000, ⟨2, [Fraction_av y.2]⟩)], true⟩)
theorem impl_WorstObserver_l1_ex {names : List (List UInt8)} {t26 : List Fraction} {t27 : Int} {sgm_ : (List UInt8) × Fraction × Int} {rho_ : (List UInt8) × Fraction} (h : whileE (impl_WorstObserver_l1 names t26 t27) sgm_ = some rho_) : ∃ L0, ∀ L, L0 ≤ L → iter (exec (look t_impl_WorstObserver) L ir26_b0) ir26_k0 ir26_o0 ir26_r0 L (E_impl_WorstObserver_l1 names t26 t27 sgm_) = R_impl_WorstObserver_l1 names t26 t27 rho_ := by
  refine loop_ex (E := E_impl_WorstObserver_l1 names t26 t27) (R := R_impl_WorstObserver_l1 names t26 t27) (fun y => by first | (intro c; cases c) | (rcases y with y | y <;> (intro c; cases c)) | (rcases y with y | y | y <;> (intro c; cases c))) ?_ h
  clear h
  rintro ⟨worst, most, t28⟩ o_ h
  dsimp only [impl_WorstObserver_l1] at h
  rcases it_some h with ⟨hk4, h⟩ | ⟨hk4, h⟩
  · try simp only [go_sem, n1, n2, n3, n4] at hk4
    all_goals
    obtain ⟨hk5, h⟩ := ck_some h
    have lhk5 := ix_lt hk5
    have xhk5 := getD_mapD Fraction_av t26 lhk5
    try simp only [go_sem] at lhk5
    try simp only [go_sem] at xhk5
    try simp only [go_sem, n1, n2, n3, n4, hk4] at hk5
    all_goals
    obtain ⟨y_6, hk6, h⟩ := bd_some h
    have fhk6 := Fs_impl_Fraction_less hk6
    try simp only [go_sem, hk4, hk5] at fhk6
    rcases it_some h with ⟨hk7, h⟩ | ⟨hk7, h⟩
    · try simp only [go_sem, n1, n2, n3, n4, hk4, hk5] at hk7
      all_goals
      obtain ⟨hk8, h⟩ := ck_some h
      have lhk8 := ix_lt hk8
      have xhk8 := getD_mapD AV.str names lhk8
      try simp only [go_sem] at lhk8
      try simp only [go_sem] at xhk8
      try simp only [go_sem, n1, n2, n3, n4, hk4, hk5, hk7] at hk8
      all_goals
      obtain rfl := so_some h
      refine ⟨0, fun L hL => ?_⟩
      simp only [go_sem, ir26, E_impl_WorstObserver_l1, R_impl_WorstObserver_l1, ir26_b0, ir26_k0, ir26_o0, ir26_r0, hk4, hk5, lhk5, xhk5, fhk6, hk7, hk8, lhk8, xhk8]
    · try simp only [go_sem, n1, n2, n3, n4, hk4, hk5] at hk7
      all_goals
      obtain rfl := so_some h
      refine ⟨0, fun L hL => ?_⟩
      simp only [go_sem, ir26, E_impl_WorstObserver_l1, R_impl_WorstObserver_l1, ir26_b0, ir26_k0, ir26_o0, ir26_r0, hk4, hk5, lhk5, xhk5, fhk6, hk7]
  · try simp only [go_sem, n1, n2, n3, n4] at hk4
    all_goals
    obtain rfl := so_some h
    refine ⟨0, fun L hL => ?_⟩
    simp only [go_sem, ir26, E_impl_WorstObserver_l1, R_impl_WorstObserver_l1, ir26_b0, ir26_k0, ir26_o0, ir26_r0, hk4]

theorem Fs_impl_WorstObserver {list : List Estimate} {faults : List Fault} {y_ : (List UInt8) × Int} (h : impl_WorstObserver list faults = some y_) : c_impl_WorstObserver.F [.sl 5 (List.map Estimate_av list), .sl 2 (List.map Fault_av faults)] = ⟨true, .tup [.str y_.1, .int .i64 y_.2], [.any, .any]⟩ := by
  refine mkF_E rfl ?_
  dsimp only [impl_WorstObserver] at h
  obtain ⟨y_1, hk1, h⟩ := bd_some h
  have fhk1 := Fs_impl_audited hk1
  try simp only [go_sem] at fhk1
  rcases it_some h with ⟨hk2, h⟩ | ⟨hk2, h⟩
  · try simp only [go_sem, n1, n2, n3, n4] at hk2
    all_goals
    obtain rfl := so_some h
    refine ⟨0, fun L hL => ?_⟩
    simp only [go_sem, ir26, E_impl_WorstObserver_l1, R_impl_WorstObserver_l1, ir26_k0, ir26_o0, ir26_r0, fhk1, hk2]
  · try simp only [go_sem, n1, n2, n3, n4] at hk2
    all_goals
    obtain ⟨y_3, hk3, h⟩ := bd_some h
    have fhk3 := Fs_impl_faultShares hk3
    try simp only [go_sem, hk2] at fhk3
    obtain ⟨y_9, hk9, h⟩ := bd_some h
    obtain ⟨Lhk9, ehk9⟩ := impl_WorstObserver_l1_ex hk9
    rcases it_some h with ⟨hk10, h⟩ | ⟨hk10, h⟩
    · try simp only [go_sem, n1, n2, n3, n4, hk2] at hk10
      all_goals
      obtain rfl := so_some h
      refine ⟨Lhk9, fun L hL => ?_⟩
      have ehk9 := ehk9 L (by omega)
      try simp only [go_sem, E_impl_WorstObserver_l1, R_impl_WorstObserver_l1, ir26_k0, ir26_o0, ir26_r0, hk2, hk10] at ehk9
      simp only [go_sem, ir26, E_impl_WorstObserver_l1, R_impl_WorstObserver_l1, ir26_k0, ir26_o0, ir26_r0, fhk1, hk2, fhk3, hk10, ehk9]
    · try simp only [go_sem, n1, n2, n3, n4, hk2] at hk10
      all_goals
      obtain rfl := so_some h
      refine ⟨Lhk9, fun L hL => ?_⟩
      have ehk9 := ehk9 L (by omega)
      try simp only [go_sem, E_impl_WorstObserver_l1, R_impl_WorstObserver_l1, ir26_k0, ir26_o0, ir26_r0, hk2, hk10] at ehk9
      simp only [go_sem, ir26, E_impl_WorstObserver_l1, R_impl_WorstObserver_l1, ir26_k0, ir26_o0, ir26_r0, fhk1, hk2, fhk3, hk10, ehk9]


def ir49_v : List Nat := [0, 1, 2, 3, 4]
def ir49 : AFn := ⟨2, 5, .seq (.region false [
    ⟨.var 2, 2, none, .box (.v 0)⟩,
    ⟨.var 3, 3, none, .box (.v 1)⟩,
    ⟨.var 4, 4, none, .mov (.c (.bool false))⟩])
 (.seq (.test false [
    ⟨.push, 5, none, .fldAddr 0 (.v 2)⟩,
    ⟨.push, 6, none, .load false 1 (.s 0)⟩,
    ⟨.push, 7, none, .fldAddr 0 (.v 3)⟩,
    ⟨.push, 8, none, .load false 1 (.s 0)⟩,
    ⟨.push, 9, none, .bin false .neq (.s 2) (.s 0)⟩] (.s 0)
  (.seq (.region false [
      ⟨.var 4, 4, none, .mov (.c (.bool false))⟩])
   (.ret))
  (.skip))
 (.seq (.test false [
    ⟨.push, 10, none, .fldAddr 1 (.v 2)⟩,
    ⟨.push, 11, none, .load false 1 (.s 0)⟩,
    ⟨.push, 12, none, .fldAddr 1 (.v 3)⟩,
    ⟨.push, 13, none, .load false 1 (.s 0)⟩,
    ⟨.push, 14, none, .bin false .neq (.s 2) (.s 0)⟩] (.s 0)
  (.seq (.region false [
      ⟨.var 4, 4, none, .mov (.c (.bool false))⟩])
   (.ret))
  (.skip))
 (.seq (.test false [
    ⟨.push, 15, none, .fldAddr 2 (.v 2)⟩,
    ⟨.push, 16, none, .load false 1 (.s 0)⟩,
    ⟨.push, 17, none, .fldAddr 2 (.v 3)⟩,
    ⟨.push, 18, none, .load false 1 (.s 0)⟩,
    ⟨.push, 19, none, .bin false .neq (.s 2) (.s 0)⟩] (.s 0)
  (.seq (.region false [
      ⟨.var 4, 4, none, .mov (.c (.bool false))⟩])
   (.ret))
  (.skip))
 (.seq (.test false [
    ⟨.push, 20, none, .fldAddr 3 (.v 2)⟩,
    ⟨.push, 21, none, .load false 1 (.s 0)⟩,
    ⟨.push, 22, none, .fldAddr 3 (.v 3)⟩,
    ⟨.push, 23, none, .load false 1 (.s 0)⟩,
    ⟨.push, 24, none, .bin false .neq (.s 2) (.s 0)⟩] (.s 0)
  (.seq (.region false [
      ⟨.var 4, 4, none, .mov (.c (.bool false))⟩])
   (.ret))
  (.skip))
 (.seq (.test false [
    ⟨.push, 25, none, .fldAddr 4 (.v 2)⟩,
    ⟨.push, 26, none, .load false 1 (.s 0)⟩,
    ⟨.push, 27, none, .fldAddr 4 (.v 3)⟩,
    ⟨.push, 28, none, .load false 1 (.s 0)⟩,
    ⟨.push, 29, none, .bin true .neq (.s 2) (.s 0)⟩] (.s 0)
  (.seq (.region false [
      ⟨.var 4, 4, none, .mov (.c (.bool false))⟩])
   (.ret))
  (.skip))
 (.seq (.region false [
    ⟨.var 4, 4, none, .mov (.c (.bool true))⟩])
 (.ret))))))), [.t 4]⟩
noncomputable def t_laws_eqEstimate : List (Nat × Ctr) := []
noncomputable def c_laws_eqEstimate : Ctr := mkF t_laws_eqEstimate ir49 [.bor, .bor]
theorem s_laws_eqEstimate : Sound Try.prog 49 c_laws_eqEstimate := mkF_sound _ rfl snd_nil (by kernel_rfl : chkFn Try.prog 49 ir49 ir49_v = true)
theorem M_laws_eqEstimate : c_laws_eqEstimate.modes = [.bor, .bor] := rfl
theorem Fl_laws_eqEstimate : c_laws_eqEstimate.flat = true := rfl
attribute [go_sem] M_laws_eqEstimate Fl_laws_eqEstimate
theorem Fs_laws_eqEstimate {a : Estimate} {b : Estimate} {y_ : Bool} (h : laws_eqEstimate a b = some y_) : c_laws_eqEstimate.F [Estimate_av a, Estimate_av b] = ⟨true, .bool y_, [.any, .any]⟩ := by
  refine mkF_E rfl ?_
  dsimp only [laws_eqEstimate] at h
  rcases it_some h with ⟨hk1, h⟩ | ⟨hk1, h⟩
  · try simp only [go_sem, n1, n2, n3, n4] at hk1
    all_goals
    obtain rfl := so_some h
    refine ⟨0, fun L hL => ?_⟩
    simp only [go_sem, ir49, hk1]
  · try simp only [go_sem, n1, n2, n3, n4] at hk1
    all_goals
    rcases it_some h with ⟨hk2, h⟩ | ⟨hk2, h⟩
    · try simp only [go_sem, n1, n2, n3, n4, hk1] at hk2
      all_goals
      obtain rfl := so_some h
      refine ⟨0, fun L hL => ?_⟩
      simp only [go_sem, ir49, hk1, hk2]
    · try simp only [go_sem, n1, n2, n3, n4, hk1] at hk2
      all_goals
      rcases it_some h with ⟨hk3, h⟩ | ⟨hk3, h⟩
      · try simp only [go_sem, n1, n2, n3, n4, hk1, hk2] at hk3
        all_goals
        obtain rfl := so_some h
        refine ⟨0, fun L hL => ?_⟩
        simp only [go_sem, ir49, hk1, hk2, hk3]
      · try simp only [go_sem, n1, n2, n3, n4, hk1, hk2] at hk3
        all_goals
        rcases it_some h with ⟨hk4, h⟩ | ⟨hk4, h⟩
        · try simp only [go_sem, n1, n2, n3, n4, hk1, hk2, hk3] at hk4
          all_goals
          obtain rfl := so_some h
          refine ⟨0, fun L hL => ?_⟩
          simp only [go_sem, ir49, hk1, hk2, hk3, hk4]
        · try simp only [go_sem, n1, n2, n3, n4, hk1, hk2, hk3] at hk4
          all_goals
          rcases it_some h with ⟨hk5, h⟩ | ⟨hk5, h⟩
          · try simp only [go_sem, n1, n2, n3, n4, hk1, hk2, hk3, hk4] at hk5
            all_goals
            obtain rfl := so_some h
            refine ⟨0, fun L hL => ?_⟩
            simp only [go_sem, ir49, hk1, hk2, hk3, hk4, hk5]
          · try simp only [go_sem, n1, n2, n3, n4, hk1, hk2, hk3, hk4] at hk5
            all_goals
            obtain rfl := so_some h
            refine ⟨0, fun L hL => ?_⟩
            simp only [go_sem, ir49, hk1, hk2, hk3, hk4, hk5]


def ir15_b0 : IR := .seq (.test false [
    ⟨.push, 11, none, .mov (.v 3)⟩,
    ⟨.push, 12, none, .mov (.v 0)⟩,
    ⟨.push, 13, none, .len false (.s 0)⟩,
    ⟨.push, 14, none, .bin false .lss (.s 2) (.s 0)⟩] (.s 0)
  (.skip)
  (.exit 0))
 (.seq (.block 1 (.anyo 10 [
     ⟨.slot 0, 17, none, .mov (.v 0)⟩,
     ⟨.slot 1, 18, none, .mov (.v 3)⟩,
     ⟨.slot 2, 19, none, .ixAddr 5 (.s 0) (.s 1)⟩,
     ⟨.slot 3, 20, none, .load true 5 (.s 2)⟩,
     ⟨.slot 4, 21, none, .mov (.v 1)⟩,
     ⟨.slot 5, 22, none, .mov (.v 3)⟩,
     ⟨.slot 6, 23, none, .ixAddr 5 (.s 4) (.s 5)⟩,
     ⟨.slot 7, 24, none, .load true 5 (.s 6)⟩,
     ⟨.slot 8, 25, none, .callp 49 [(.s 3), (.s 7)]⟩,
     ⟨.slot 9, 26, none, .un .not (.s 8)⟩] [] (.cond (.s 9)
   (.seq (.region false [
       ⟨.var 2, 4, none, .mov (.c (.bool false))⟩])
    (.ret))
   (.skip))))
 (.region false [
   ⟨.push, 15, none, .mov (.v 3)⟩,
   ⟨.push, 16, none, .bin false .add (.s 0) (.c (.int .i64 (1)))⟩,
   ⟨.var 3, 5, none, .mov (.s 0)⟩]))
def ir15_k0 : List Bool := [true, true, false, true]
def ir15_o0 : List Bool := [false, false, false, false]
def ir15_r0 : List Bool := [false, false, true, false]
def ir15_v : List Nat := [0, 1, 4, 5]
def ir15 : AFn := ⟨2, 4, .seq (.region false [
    ⟨.var 2, 4, none, .mov (.c (.bool false))⟩])
 (.seq (.test false [
    ⟨.push, 6, none, .mov (.v 0)⟩,
    ⟨.push, 7, none, .len false (.s 0)⟩,
    ⟨.push, 8, none, .mov (.v 1)⟩,
    ⟨.push, 9, none, .len false (.s 0)⟩,
    ⟨.push, 10, none, .bin false .neq (.s 2) (.s 0)⟩] (.s 0)
  (.seq (.region false [
      ⟨.var 2, 4, none, .mov (.c (.bool false))⟩])
   (.ret))
  (.skip))
 (.seq (.seq (.region false [
     ⟨.var 3, 5, none, .mov (.c (.int .i64 (0)))⟩])
  (.block 0 (.loop ir15_k0 ir15_o0 ir15_r0 ir15_b0)))
 (.seq (.region false [
    ⟨.var 2, 4, none, .mov (.c (.bool true))⟩])
 (.ret)))), [.t 2]⟩
noncomputable def t_laws_eqEstimateS : List (Nat × Ctr) := [(49, c_laws_eqEstimate)]
theorem lk_laws_eqEstimateS_49 : look t_laws_eqEstimateS 49 = some c_laws_eqEstimate := rfl
noncomputable def c_laws_eqEstimateS : Ctr := mkF t_laws_eqEstimateS ir15 [.bor, .bor]
theorem s_laws_eqEstimateS : Sound Try.prog 15 c_laws_eqEstimateS := mkF_sound _ rfl (snd_cons s_laws_eqEstimate snd_nil) (by kernel_rfl : chkFn Try.prog 15 ir15 ir15_v = true)
theorem M_laws_eqEstimateS : c_laws_eqEstimateS.modes = [.bor, .bor] := rfl
theorem Fl_laws_eqEstimateS : c_laws_eqEstimateS.flat = true := rfl
attribute [go_sem] M_laws_eqEstimateS Fl_laws_eqEstimateS
attribute [go_sem] lk_laws_eqEstimateS_49
def E_laws_eqEstimateS_l1 (a : List Estimate) (b : List Estimate) : Int → St
  | i => ⟨[.sl 5 (List.map Estimate_av a), .sl 5 (List.map Estimate_av b), .any, .int .i64 i], [], [], true⟩
def R_laws_eqEstimateS_l1 (a : List Estimate) (b : List Estimate) : (Unit ⊕ Bool) → Res
  | .inl y => (.exit 0, ⟨[.any, .any, .any, .any], [], [], true⟩)
  | .inr y => (.ret, ⟨[.any, .any, .bool y, .any], [], [], true⟩)
theorem laws_eqEstimateS_l1_ex {a : List Estimate} {b : List Estimate} {sgm_ : Int} {rho_ : Unit ⊕ Bool} (h : whileE (laws_eqEstimateS_l1 a b) sgm_ = some rho_) : ∃ L0, ∀ L, L0 ≤ L → iter (exec (look t_laws_eqEstimateS) L ir15_b0) ir15_k0 ir15_o0 ir15_r0 L (E_laws_eqEstimateS_l1 a b sgm_) = R_laws_eqEstimateS_l1 a b rho_ := by
  refine loop_ex (E := E_laws_eqEstimateS_l1 a b) (R := R_laws_eqEstimateS_l1 a b) (fun y => by first | (intro c; cases c) | (rcases y with y | y <;> (intro c; cases c)) | (rcases y with y | y | y <;> (intro c; cases c))) ?_ h
  clear h
  intro i o_ h
  dsimp only [laws_eqEstimateS_l1] at h
  rcases it_some h with ⟨hk2, h⟩ | ⟨hk2, h⟩
  · try simp only [go_sem, n1, n2, n3, n4] at hk2
    all_goals
    obtain ⟨hk3, h⟩ := ck_some h
    have lhk3 := ix_lt hk3
    have xhk3 := getD_mapD Estimate_av a lhk3
    try simp only [go_sem] at lhk3
    try simp only [go_sem] at xhk3
    try simp only [go_sem, n1, n2, n3, n4, hk2] at hk3
    all_goals
    obtain ⟨hk4, h⟩ := ck_some h
    have lhk4 := ix_lt hk4
    have xhk4 := getD_mapD Estimate_av b lhk4
    try simp only [go_sem] at lhk4
    try simp only [go_sem] at xhk4
    try simp only [go_sem, n1, n2, n3, n4, hk2, hk3] at hk4
    all_goals
    obtain ⟨y_5, hk5, h⟩ := bd_some h
    have fhk5 := Fs_laws_eqEstimate hk5
    try simp only [go_sem, hk2, hk3, hk4] at fhk5
    rcases it_some h with ⟨hk6, h⟩ | ⟨hk6, h⟩
    · try simp only [go_sem, n1, n2, n3, n4, hk2, hk3, hk4] at hk6
      all_goals
      obtain rfl := so_some h
      refine ⟨0, fun L hL => ?_⟩
      simp only [go_sem, ir15, E_laws_eqEstimateS_l1, R_laws_eqEstimateS_l1, ir15_b0, ir15_k0, ir15_o0, ir15_r0, hk2, hk3, lhk3, xhk3, hk4, lhk4, xhk4, fhk5, hk6]
    · try simp only [go_sem, n1, n2, n3, n4, hk2, hk3, hk4] at hk6
      all_goals
      obtain rfl := so_some h
      refine ⟨0, fun L hL => ?_⟩
      simp only [go_sem, ir15, E_laws_eqEstimateS_l1, R_laws_eqEstimateS_l1, ir15_b0, ir15_k0, ir15_o0, ir15_r0, hk2, hk3, lhk3, xhk3, hk4, lhk4, xhk4, fhk5, hk6]
  · try simp only [go_sem, n1, n2, n3, n4] at hk2
    all_goals
    obtain rfl := so_some h
    refine ⟨0, fun L hL => ?_⟩
    simp only [go_sem, ir15, E_laws_eqEstimateS_l1, R_laws_eqEstimateS_l1, ir15_b0, ir15_k0, ir15_o0, ir15_r0, hk2]

theorem Fs_laws_eqEstimateS {a : List Estimate} {b : List Estimate} {y_ : Bool} (h : laws_eqEstimateS a b = some y_) : c_laws_eqEstimateS.F [.sl 5 (List.map Estimate_av a), .sl 5 (List.map Estimate_av b)] = ⟨true, .bool y_, [.any, .any]⟩ := by
  refine mkF_E rfl ?_
  dsimp only [laws_eqEstimateS] at h
  rcases it_some h with ⟨hk1, h⟩ | ⟨hk1, h⟩
  · try simp only [go_sem, n1, n2, n3, n4] at hk1
    all_goals
    obtain rfl := so_some h
    refine ⟨0, fun L hL => ?_⟩
    simp only [go_sem, ir15, E_laws_eqEstimateS_l1, R_laws_eqEstimateS_l1, ir15_k0, ir15_o0, ir15_r0, hk1]
  · try simp only [go_sem, n1, n2, n3, n4] at hk1
    all_goals
    obtain ⟨y_7, hk7, h⟩ := bd_some h
    obtain ⟨Lhk7, ehk7⟩ := laws_eqEstimateS_l1_ex hk7
    rcases y_7 with y_7a | y_7b
    · dsimp only at h
      obtain rfl := so_some h
      refine ⟨Lhk7, fun L hL => ?_⟩
      have ehk7 := ehk7 L (by omega)
      try simp only [go_sem, E_laws_eqEstimateS_l1, R_laws_eqEstimateS_l1, ir15_k0, ir15_o0, ir15_r0, hk1] at ehk7
      simp only [go_sem, ir15, E_laws_eqEstimateS_l1, R_laws_eqEstimateS_l1, ir15_k0, ir15_o0, ir15_r0, hk1, ehk7]
    · dsimp only at h
      obtain rfl := so_some h
      refine ⟨Lhk7, fun L hL => ?_⟩
      have ehk7 := ehk7 L (by omega)
      try simp only [go_sem, E_laws_eqEstimateS_l1, R_laws_eqEstimateS_l1, ir15_k0, ir15_o0, ir15_r0, hk1] at ehk7
      simp only [go_sem, ir15, E_laws_eqEstimateS_l1, R_laws_eqEstimateS_l1, ir15_k0, ir15_o0, ir15_r0, hk1, ehk7]


def ir48_v : List Nat := [0, 1, 2, 3, 4]
def ir48 : AFn := ⟨2, 5, .seq (.region false [
    ⟨.var 2, 2, none, .box (.v 0)⟩,
    ⟨.var 3, 3, none, .box (.v 1)⟩,
    ⟨.var 4, 4, none, .mov (.c (.bool false))⟩])
 (.seq (.test false [
    ⟨.push, 5, none, .fldAddr 0 (.v 2)⟩,
    ⟨.push, 6, none, .load false 1 (.s 0)⟩,
    ⟨.push, 7, none, .fldAddr 0 (.v 3)⟩,
    ⟨.push, 8, none, .load false 1 (.s 0)⟩,
    ⟨.push, 9, none, .bin false .neq (.s 2) (.s 0)⟩] (.s 0)
  (.seq (.region false [
      ⟨.var 4, 4, none, .mov (.c (.bool false))⟩])
   (.ret))
  (.skip))
 (.seq (.test false [
    ⟨.push, 10, none, .fldAddr 1 (.v 2)⟩,
    ⟨.push, 11, none, .load false 1 (.s 0)⟩,
    ⟨.push, 12, none, .fldAddr 1 (.v 3)⟩,
    ⟨.push, 13, none, .load false 1 (.s 0)⟩,
    ⟨.push, 14, none, .bin false .neq (.s 2) (.s 0)⟩] (.s 0)
  (.seq (.region false [
      ⟨.var 4, 4, none, .mov (.c (.bool false))⟩])
   (.ret))
  (.skip))
 (.seq (.region false [
    ⟨.var 4, 4, none, .mov (.c (.bool true))⟩])
 (.ret)))), [.t 4]⟩
noncomputable def t_laws_eqFault : List (Nat × Ctr) := []
noncomputable def c_laws_eqFault : Ctr := mkF t_laws_eqFault ir48 [.bor, .bor]
theorem s_laws_eqFault : Sound Try.prog 48 c_laws_eqFault := mkF_sound _ rfl snd_nil (by kernel_rfl : chkFn Try.prog 48 ir48 ir48_v = true)
theorem M_laws_eqFault : c_laws_eqFault.modes = [.bor, .bor] := rfl
theorem Fl_laws_eqFault : c_laws_eqFault.flat = true := rfl
attribute [go_sem] M_laws_eqFault Fl_laws_eqFault
theorem Fs_laws_eqFault {a : Fault} {b : Fault} {y_ : Bool} (h : laws_eqFault a b = some y_) : c_laws_eqFault.F [Fault_av a, Fault_av b] = ⟨true, .bool y_, [.any, .any]⟩ := by
  refine mkF_E rfl ?_
  dsimp only [laws_eqFault] at h
  rcases it_some h with ⟨hk1, h⟩ | ⟨hk1, h⟩
  · try simp only [go_sem, n1, n2, n3, n4] at hk1
    all_goals
    obtain rfl := so_some h
    refine ⟨0, fun L hL => ?_⟩
    simp only [go_sem, ir48, hk1]
  · try simp only [go_sem, n1, n2, n3, n4] at hk1
    all_goals
    rcases it_some h with ⟨hk2, h⟩ | ⟨hk2, h⟩
    · try simp only [go_sem, n1, n2, n3, n4, hk1] at hk2
      all_goals
      obtain rfl := so_some h
      refine ⟨0, fun L hL => ?_⟩
      simp only [go_sem, ir48, hk1, hk2]
    · try simp only [go_sem, n1, n2, n3, n4, hk1] at hk2
      all_goals
      obtain rfl := so_some h
      refine ⟨0, fun L hL => ?_⟩
      simp only [go_sem, ir48, hk1, hk2]


def ir14_b0 : IR := .seq (.test false [
    ⟨.push, 11, none, .mov (.v 3)⟩,
    ⟨.push, 12, none, .mov (.v 0)⟩,
    ⟨.push, 13, none, .len false (.s 0)⟩,
    ⟨.push, 14, none, .bin false .lss (.s 2) (.s 0)⟩] (.s 0)
  (.skip)
  (.exit 0))
 (.seq (.block 1 (.anyo 10 [
     ⟨.slot 0, 17, none, .mov (.v 0)⟩,
     ⟨.slot 1, 18, none, .mov (.v 3)⟩,
     ⟨.slot 2, 19, none, .ixAddr 2 (.s 0) (.s 1)⟩,
     ⟨.slot 3, 20, none, .load true 2 (.s 2)⟩,
     ⟨.slot 4, 21, none, .mov (.v 1)⟩,
     ⟨.slot 5, 22, none, .mov (.v 3)⟩,
     ⟨.slot 6, 23, none, .ixAddr 2 (.s 4) (.s 5)⟩,
     ⟨.slot 7, 24, none, .load true 2 (.s 6)⟩,
     ⟨.slot 8, 25, none, .callp 48 [(.s 3), (.s 7)]⟩,
     ⟨.slot 9, 26, none, .un .not (.s 8)⟩] [] (.cond (.s 9)
   (.seq (.region false [
       ⟨.var 2, 4, none, .mov (.c (.bool false))⟩])
    (.ret))
   (.skip))))
 (.region false [
   ⟨.push, 15, none, .mov (.v 3)⟩,
   ⟨.push, 16, none, .bin false .add (.s 0) (.c (.int .i64 (1)))⟩,
   ⟨.var 3, 5, none, .mov (.s 0)⟩]))
def ir14_k0 : List Bool := [true, true, false, true]
def ir14_o0 : List Bool := [false, false, false, false]
def ir14_r0 : List Bool := [false, false, true, false]
def ir14_v : List Nat := [0, 1, 4, 5]
def ir14 : AFn := ⟨2, 4, .seq (.region false [
    ⟨.var 2, 4, none, .mov (.c (.bool false))⟩])
 (.seq (.test false [
    ⟨.push, 6, none, .mov (.v 0)⟩,
    ⟨.push, 7, none, .len false (.s 0)⟩,
    ⟨.push, 8, none, .mov (.v 1)⟩,
    ⟨.push, 9, none, .len false (.s 0)⟩,
    ⟨.push, 10, none, .bin false .neq (.s 2) (.s 0)⟩] (.s 0)
  (.seq (.region false [
      ⟨.var 2, 4, none, .mov (.c (.bool false))⟩])
   (.ret))
  (.skip))
 (.seq (.seq (.region false [
     ⟨.var 3, 5, none, .mov (.c (.int .i64 (0)))⟩])
  (.block 0 (.loop ir14_k0 ir14_o0 ir14_r0 ir14_b0)))
 (.seq (.region false [
    ⟨.var 2, 4, none, .mov (.c (.bool true))⟩])
 (.ret)))), [.t 2]⟩
noncomputable def t_laws_eqFaultS : List (Nat × Ctr) := [(48, c_laws_eqFault)]
theorem lk_laws_eqFaultS_48 : look t_laws_eqFaultS 48 = some c_laws_eqFault := rfl
noncomputable def c_laws_eqFaultS : Ctr := mkF t_laws_eqFaultS ir14 [.bor, .bor]
theorem s_laws_eqFaultS : Sound Try.prog 14 c_laws_eqFaultS := mkF_sound _ rfl (snd_cons s_laws_eqFault snd_nil) (by kernel_rfl : chkFn Try.prog 14 ir14 ir14_v = true)
theorem M_laws_eqFaultS : c_laws_eqFaultS.modes = [.bor, .bor] := rfl
theorem Fl_laws_eqFaultS : c_laws_eqFaultS.flat = true := rfl
attribute [go_sem] M_laws_eqFaultS Fl_laws_eqFaultS
attribute [go_sem] lk_laws_eqFaultS_48
def E_laws_eqFaultS_l1 (a : List Fault) (b : List Fault) : Int → St
  | i => ⟨[.sl 2 (List.map Fault_av a), .sl 2 (List.map Fault_av b), .any, .int .i64 i], [], [], true⟩
def R_laws_eqFaultS_l1 (a : List Fault) (b : List Fault) : (Unit ⊕ Bool) → Res
  | .inl y => (.exit 0, ⟨[.any, .any, .any, .any], [], [], true⟩)
  | .inr y => (.ret, ⟨[.any, .any, .bool y, .any], [], [], true⟩)
theorem laws_eqFaultS_l1_ex {a : List Fault} {b : List Fault} {sgm_ : Int} {rho_ : Unit ⊕ Bool} (h : whileE (laws_eqFaultS_l1 a b) sgm_ = some rho_) : ∃ L0, ∀ L, L0 ≤ L → iter (exec (look t_laws_eqFaultS) L ir14_b0) ir14_k0 ir14_o0 ir14_r0 L (E_laws_eqFaultS_l1 a b sgm_) = R_laws_eqFaultS_l1 a b rho_ := by
  refine loop_ex (E := E_laws_eqFaultS_l1 a b) (R := R_laws_eqFaultS_l1 a b) (fun y => by first | (intro c; cases c) | (rcases y with y | y <;> (intro c; cases c)) | (rcases y with y | y | y <;> (intro c; cases c))) ?_ h
  clear h
  intro i o_ h
  dsimp only [laws_eqFaultS_l1] at h
  rcases it_some h with ⟨hk2, h⟩ | ⟨hk2, h⟩
  · try simp only [go_sem, n1, n2, n3, n4] at hk2
    all_goals
    obtain ⟨hk3, h⟩ := ck_some h
    have lhk3 := ix_lt hk3
    have xhk3 := getD_mapD Fault_av a lhk3
    try simp only [go_sem] at lhk3
    try simp only [go_sem] at xhk3
    try simp only [go_sem, n1, n2, n3, n4, hk2] at hk3
    all_goals
    obtain ⟨hk4, h⟩ := ck_some h
    have lhk4 := ix_lt hk4
    have xhk4 := getD_mapD Fault_av b lhk4
    try simp only [go_sem] at lhk4
    try simp only [go_sem] at xhk4
    try simp only [go_sem, n1, n2, n3, n4, hk2, hk3] at hk4
    all_goals
    obtain ⟨y_5, hk5, h⟩ := bd_some h
    have fhk5 := Fs_laws_eqFault hk5
    try simp only [go_sem, hk2, hk3, hk4] at fhk5
    rcases it_some h with ⟨hk6, h⟩ | ⟨hk6, h⟩
    · try simp only [go_sem, n1, n2, n3, n4, hk2, hk3, hk4] at hk6
      all_goals
      obtain rfl := so_some h
      refine ⟨0, fun L hL => ?_⟩
      simp only [go_sem, ir14, E_laws_eqFaultS_l1, R_laws_eqFaultS_l1, ir14_b0, ir14_k0, ir14_o0, ir14_r0, hk2, hk3, lhk3, xhk3, hk4, lhk4, xhk4, fhk5, hk6]
    · try simp only [go_sem, n1, n2, n3, n4, hk2, hk3, hk4] at hk6
      all_goals
      obtain rfl := so_some h
      refine ⟨0, fun L hL => ?_⟩
      simp only [go_sem, ir14, E_laws_eqFaultS_l1, R_laws_eqFaultS_l1, ir14_b0, ir14_k0, ir14_o0, ir14_r0, hk2, hk3, lhk3, xhk3, hk4, lhk4, xhk4, fhk5, hk6]
  · try simp only [go_sem, n1, n2, n3, n4] at hk2
    all_goals
    obtain rfl := so_some h
    refine ⟨0, fun L hL => ?_⟩
    simp only [go_sem, ir14, E_laws_eqFaultS_l1, R_laws_eqFaultS_l1, ir14_b0, ir14_k0, ir14_o0, ir14_r0, hk2]

theorem Fs_laws_eqFaultS {a : List Fault} {b : List Fault} {y_ : Bool} (h : laws_eqFaultS a b = some y_) : c_laws_eqFaultS.F [.sl 2 (List.map Fault_av a), .sl 2 (List.map Fault_av b)] = ⟨true, .bool y_, [.any, .any]⟩ := by
  refine mkF_E rfl ?_
  dsimp only [laws_eqFaultS] at h
  rcases it_some h with ⟨hk1, h⟩ | ⟨hk1, h⟩
  · try simp only [go_sem, n1, n2, n3, n4] at hk1
    all_goals
    obtain rfl := so_some h
    refine ⟨0, fun L hL => ?_⟩
    simp only [go_sem, ir14, E_laws_eqFaultS_l1, R_laws_eqFaultS_l1, ir14_k0, ir14_o0, ir14_r0, hk1]
  · try simp only [go_sem, n1, n2, n3, n4] at hk1
    all_goals
    obtain ⟨y_7, hk7, h⟩ := bd_some h
    obtain ⟨Lhk7, ehk7⟩ := laws_eqFaultS_l1_ex hk7
    rcases y_7 with y_7a | y_7b
    · dsimp only at h
      obtain rfl := so_some h
      refine ⟨Lhk7, fun L hL => ?_⟩
      have ehk7 := ehk7 L (by omega)
      try simp only [go_sem, E_laws_eqFaultS_l1, R_laws_eqFaultS_l1, ir14_k0, ir14_o0, ir14_r0, hk1] at ehk7
      simp only [go_sem, ir14, E_laws_eqFaultS_l1, R_laws_eqFaultS_l1, ir14_k0, ir14_o0, ir14_r0, hk1, ehk7]
    · dsimp only at h
      obtain rfl := so_some h
      refine ⟨Lhk7, fun L hL => ?_⟩
      have ehk7 := ehk7 L (by omega)
      try simp only [go_sem, E_laws_eqFaultS_l1, R_laws_eqFaultS_l1, ir14_k0, ir14_o0, ir14_r0, hk1] at ehk7
      simp only [go_sem, ir14, E_laws_eqFaultS_l1, R_laws_eqFaultS_l1, ir14_k0, ir14_o0, ir14_r0, hk1, ehk7]


def ir4_v : List Nat := [0, 1, 4, 5, 6, 7, 8, 9, 10, 11]
def ir4 : AFn := ⟨2, 10, .seq (.region false [
    ⟨.var 2, 4, none, .mov (.c (.bool false))⟩])
 (.seq (.region false [
    ⟨.var 3, 5, none, .mov (.c (.int .i64 (1048576)))⟩])
 (.seq (.region false [
    ⟨.push, 12, none, .mov (.v 0)⟩,
    ⟨.push, 13, none, .mov (.v 3)⟩,
    ⟨.push, 14, none, .call 6 [(.s 1), (.s 0)]⟩,
    ⟨.var 3, 5, none, .mov (.s 0)⟩])
 (.seq (.test false [
    ⟨.push, 15, none, .mov (.v 3)⟩,
    ⟨.push, 16, none, .bin false .lss (.s 0) (.c (.int .i64 (0)))⟩] (.s 0)
  (.seq (.region false [
      ⟨.var 2, 4, none, .mov (.c (.bool true))⟩])
   (.ret))
  (.skip))
 (.seq (.region false [
    ⟨.push, 17, none, .mov (.v 1)⟩,
    ⟨.push, 18, none, .mov (.v 3)⟩,
    ⟨.push, 19, none, .call 23 [(.s 1), (.s 0)]⟩,
    ⟨.var 3, 5, none, .mov (.s 0)⟩])
 (.seq (.test false [
    ⟨.push, 20, none, .mov (.v 3)⟩,
    ⟨.push, 21, none, .bin false .lss (.s 0) (.c (.int .i64 (0)))⟩] (.s 0)
  (.seq (.region false [
      ⟨.var 2, 4, none, .mov (.c (.bool true))⟩])
   (.ret))
  (.skip))
 (.seq (.region false [
    ⟨.push, 23, none, .mov (.v 0)⟩,
    ⟨.push, 24, none, .call 10 [(.s 0)]⟩,
    ⟨.push, 25, none, .mov (.v 1)⟩,
    ⟨.push, 26, none, .call 25 [(.s 0)]⟩,
    ⟨.push, 27, none, .call 24 [(.s 2), (.s 0)]⟩,
    ⟨.push, 22, none, .mov (.s 0)⟩,
    ⟨.push, 28, none, .ext (.s 0) 0⟩,
    ⟨.push, 29, none, .ext (.s 1) 1⟩,
    ⟨.var 4, 6, none, .mov (.s 1)⟩,
    ⟨.var 5, 7, none, .mov (.s 0)⟩])
 (.seq (.region false [
    ⟨.push, 30, none, .mov (.v 0)⟩,
    ⟨.push, 31, none, .call 10 [(.s 0)]⟩,
    ⟨.var 6, 8, none, .mov (.s 0)⟩])
 (.seq (.region false [
    ⟨.push, 32, none, .mov (.v 1)⟩,
    ⟨.push, 33, none, .call 25 [(.s 0)]⟩,
    ⟨.var 7, 9, none, .mov (.s 0)⟩])
 (.seq (.region false [
    ⟨.push, 35, none, .mov (.v 6)⟩,
    ⟨.push, 36, none, .mov (.v 7)⟩,
    ⟨.push, 37, none, .call 26 [(.s 1), (.s 0)]⟩,
    ⟨.push, 34, none, .mov (.s 0)⟩,
    ⟨.push, 38, none, .ext (.s 0) 0⟩,
    ⟨.push, 39, none, .ext (.s 1) 1⟩,
    ⟨.var 8, 10, none, .mov (.s 1)⟩,
    ⟨.var 9, 11, none, .mov (.s 0)⟩])
 (.seq (.test false [
    ⟨.push, 40, none, .mov (.v 8)⟩,
    ⟨.push, 41, none, .mov (.v 4)⟩,
    ⟨.push, 42, none, .bin false .neq (.s 1) (.s 0)⟩,
    ⟨.push, 43, none, .mov (.s 0)⟩,
    ⟨.push, 44, (some ((.s 0), false)), .mov (.v 9)⟩,
    ⟨.push, 45, (some ((.s 1), false)), .mov (.v 5)⟩,
    ⟨.push, 46, (some ((.s 2), false)), .bin false .neq (.s 1) (.s 0)⟩,
    ⟨.push, 47, none, .pick (.s 3) (.c (.bool true)) (.s 0)⟩] (.s 0)
  (.seq (.region false [
      ⟨.var 2, 4, none, .mov (.c (.bool false))⟩])
   (.ret))
  (.skip))
 (.seq (.test false [
    ⟨.push, 48, none, .mov (.v 6)⟩,
    ⟨.push, 49, none, .mov (.v 0)⟩,
    ⟨.push, 50, none, .call 10 [(.s 0)]⟩,
    ⟨.push, 51, none, .call 15 [(.s 2), (.s 0)]⟩,
    ⟨.push, 52, none, .un .not (.s 0)⟩] (.s 0)
  (.seq (.region false [
      ⟨.var 2, 4, none, .mov (.c (.bool false))⟩])
   (.ret))
  (.skip))
 (.seq (.test false [
    ⟨.push, 53, none, .mov (.v 7)⟩,
    ⟨.push, 54, none, .mov (.v 1)⟩,
    ⟨.push, 55, none, .call 25 [(.s 0)]⟩,
    ⟨.push, 56, none, .call 14 [(.s 2), (.s 0)]⟩,
    ⟨.push, 57, none, .un .not (.s 0)⟩] (.s 0)
  (.seq (.region false [
      ⟨.var 2, 4, none, .mov (.c (.bool false))⟩])
   (.ret))
  (.skip))
 (.seq (.region false [
    ⟨.var 2, 4, none, .mov (.c (.bool true))⟩])
 (.ret)))))))))))))), [.t 2]⟩
noncomputable def t_laws_FnExactWorstObserver : List (Nat × Ctr) := [(6, c_laws_szEstimateS), (23, c_laws_szFaultS), (10, c_laws_toEstimateS), (25, c_laws_toFaultS), (24, c_spec_WorstObserver), (26, c_impl_WorstObserver), (15, c_laws_eqEstimateS), (14, c_laws_eqFaultS)]
theorem lk_laws_FnExactWorstObserver_6 : look t_laws_FnExactWorstObserver 6 = some c_laws_szEstimateS := rfl
theorem lk_laws_FnExactWorstObserver_23 : look t_laws_FnExactWorstObserver 23 = some c_laws_szFaultS := rfl
theorem lk_laws_FnExactWorstObserver_10 : look t_laws_FnExactWorstObserver 10 = some c_laws_toEstimateS := rfl
theorem lk_laws_FnExactWorstObserver_25 : look t_laws_FnExactWorstObserver 25 = some c_laws_toFaultS := rfl
theorem lk_laws_FnExactWorstObserver_24 : look t_laws_FnExactWorstObserver 24 = some c_spec_WorstObserver := rfl
theorem lk_laws_FnExactWorstObserver_26 : look t_laws_FnExactWorstObserver 26 = some c_impl_WorstObserver := rfl
theorem lk_laws_FnExactWorstObserver_15 : look t_laws_FnExactWorstObserver 15 = some c_laws_eqEstimateS := rfl
theorem lk_laws_FnExactWorstObserver_14 : look t_laws_FnExactWorstObserver 14 = some c_laws_eqFaultS := rfl
noncomputable def c_laws_FnExactWorstObserver : Ctr := mkF t_laws_FnExactWorstObserver ir4 [.bor, .bor]
theorem s_laws_FnExactWorstObserver : Sound Try.prog 4 c_laws_FnExactWorstObserver := mkF_sound _ rfl (snd_cons s_laws_szEstimateS (snd_cons s_laws_szFaultS (snd_cons s_laws_toEstimateS (snd_cons s_laws_toFaultS (snd_cons s_spec_WorstObserver (snd_cons s_impl_WorstObserver (snd_cons s_laws_eqEstimateS (snd_cons s_laws_eqFaultS snd_nil)))))))) (by kernel_rfl : chkFn Try.prog 4 ir4 ir4_v = true)
theorem M_laws_FnExactWorstObserver : c_laws_FnExactWorstObserver.modes = [.bor, .bor] := rfl
theorem Fl_laws_FnExactWorstObserver : c_laws_FnExactWorstObserver.flat = true := rfl
attribute [go_sem] M_laws_FnExactWorstObserver Fl_laws_FnExactWorstObserver
attribute [go_sem] lk_laws_FnExactWorstObserver_6 lk_laws_FnExactWorstObserver_23 lk_laws_FnExactWorstObserver_10 lk_laws_FnExactWorstObserver_25 lk_laws_FnExactWorstObserver_24 lk_laws_FnExactWorstObserver_26 lk_laws_FnExactWorstObserver_15 lk_laws_FnExactWorstObserver_14
theorem Fs_laws_FnExactWorstObserver {aList : List Estimate} {aFaults : List Fault} {y_ : Bool} (h : laws_FnExactWorstObserver aList aFaults = some y_) : c_laws_FnExactWorstObserver.F [.sl 5 (List.map Estimate_av aList), .sl 2 (List.map Fault_av aFaults)] = ⟨true, .bool y_, [.any, .any]⟩ := by
  refine mkF_E rfl ?_
  dsimp only [laws_FnExactWorstObserver] at h
  obtain ⟨y_1, hk1, h⟩ := bd_some h
  have fhk1 := Fs_laws_szEstimateS hk1
  try simp only [go_sem] at fhk1
  rcases it_some h with ⟨hk2, h⟩ | ⟨hk2, h⟩
  · try simp only [go_sem, n1, n2, n3, n4] at hk2
    all_goals
    obtain rfl := so_some h
    refine ⟨0, fun L hL => ?_⟩
    simp only [go_sem, ir4, fhk1, hk2]
  · try simp only [go_sem, n1, n2, n3, n4] at hk2
    all_goals
    obtain ⟨y_3, hk3, h⟩ := bd_some h
    have fhk3 := Fs_laws_szFaultS hk3
    try simp only [go_sem, hk2] at fhk3
    rcases it_some h with ⟨hk4, h⟩ | ⟨hk4, h⟩
    · try simp only [go_sem, n1, n2, n3, n4, hk2] at hk4
      all_goals
      obtain rfl := so_some h
      refine ⟨0, fun L hL => ?_⟩
      simp only [go_sem, ir4, fhk1, hk2, fhk3, hk4]
    · try simp only [go_sem, n1, n2, n3, n4, hk2] at hk4
      all_goals
      obtain ⟨y_5, hk5, h⟩ := bd_some h
      have fhk5 := Fs_laws_toEstimateS hk5
      try simp only [go_sem, hk2, hk4] at fhk5
      obtain ⟨y_6, hk6, h⟩ := bd_some h
      have fhk6 := Fs_laws_toFaultS hk6
      try simp only [go_sem, hk2, hk4] at fhk6
      obtain ⟨y_7, hk7, h⟩ := bd_some h
      have fhk7 := Fs_spec_WorstObserver hk7
      try simp only [go_sem, hk2, hk4] at fhk7
      obtain ⟨y_8, hk8, h⟩ := bd_some h
      have fhk8 := Fs_impl_WorstObserver hk8
      try simp only [go_sem, hk2, hk4] at fhk8
      rcases it_some h with ⟨hk9, h⟩ | ⟨hk9, h⟩
      · try simp only [go_sem, n1, n2, n3, n4, hk2, hk4] at hk9
        all_goals
        obtain rfl := so_some h
        refine ⟨0, fun L hL => ?_⟩
        simp only [go_sem, ir4, fhk1, hk2, fhk3, hk4, fhk5, fhk6, fhk7, fhk8, hk9]
      · try simp only [go_sem, n1, n2, n3, n4, hk2, hk4] at hk9
        all_goals
        obtain ⟨y_10, hk10, h⟩ := bd_some h
        have fhk10 := Fs_laws_eqEstimateS hk10
        try simp only [go_sem, hk2, hk4, hk9] at fhk10
        rcases it_some h with ⟨hk11, h⟩ | ⟨hk11, h⟩
        · try simp only [go_sem, n1, n2, n3, n4, hk2, hk4, hk9] at hk11
          all_goals
          obtain rfl := so_some h
          refine ⟨0, fun L hL => ?_⟩
          simp only [go_sem, ir4, fhk1, hk2, fhk3, hk4, fhk5, fhk6, fhk7, fhk8, hk9, fhk10, hk11]
        · try simp only [go_sem, n1, n2, n3, n4, hk2, hk4, hk9] at hk11
          all_goals
          obtain ⟨y_12, hk12, h⟩ := bd_some h
          have fhk12 := Fs_laws_eqFaultS hk12
          try simp only [go_sem, hk2, hk4, hk9, hk11] at fhk12
          rcases it_some h with ⟨hk13, h⟩ | ⟨hk13, h⟩
          · try simp only [go_sem, n1, n2, n3, n4, hk2, hk4, hk9, hk11] at hk13
            all_goals
            obtain rfl := so_some h
            refine ⟨0, fun L hL => ?_⟩
            simp only [go_sem, ir4, fhk1, hk2, fhk3, hk4, fhk5, fhk6, fhk7, fhk8, hk9, fhk10, hk11, fhk12, hk13]
          · try simp only [go_sem, n1, n2, n3, n4, hk2, hk4, hk9, hk11] at hk13
            all_goals
            obtain rfl := so_some h
            refine ⟨0, fun L hL => ?_⟩
            simp only [go_sem, ir4, fhk1, hk2, fhk3, hk4, fhk5, fhk6, fhk7, fhk8, hk9, fhk10, hk11, fhk12, hk13]


def ir92_v : List Nat := [0, 2]
def ir92 : AFn := ⟨1, 2, .seq (.region false [
    ⟨.var 1, 2, none, .mov (.c (.int .i64 (0)))⟩])
 (.seq (.test false [
    ⟨.push, 3, none, .mov (.v 0)⟩,
    ⟨.push, 4, none, .bin false .lss (.s 0) (.c (.int .i64 (0)))⟩] (.s 0)
  (.seq (.region false [
      ⟨.push, 5, none, .mov (.v 0)⟩,
      ⟨.push, 6, none, .un .neg (.s 0)⟩,
      ⟨.var 1, 2, none, .mov (.s 0)⟩])
   (.ret))
  (.skip))
 (.seq (.region false [
    ⟨.push, 7, none, .mov (.v 0)⟩,
    ⟨.var 1, 2, none, .mov (.s 0)⟩])
 (.ret))), [.t 1]⟩
noncomputable def t_spec_l02Size : List (Nat × Ctr) := []
noncomputable def c_spec_l02Size : Ctr := mkF t_spec_l02Size ir92 [.bor]
theorem s_spec_l02Size : Sound Try.prog 92 c_spec_l02Size := mkF_sound _ rfl snd_nil (by kernel_rfl : chkFn Try.prog 92 ir92 ir92_v = true)
theorem M_spec_l02Size : c_spec_l02Size.modes = [.bor] := rfl
theorem Fl_spec_l02Size : c_spec_l02Size.flat = true := rfl
attribute [go_sem] M_spec_l02Size Fl_spec_l02Size
theorem Fs_spec_l02Size {n : Int} {y_ : Int} (h : spec_l02Size n = some y_) : c_spec_l02Size.F [.int .i64 n] = ⟨true, .int .i64 y_, [.any]⟩ := by
  refine mkF_E rfl ?_
  dsimp only [spec_l02Size] at h
  rcases it_some h with ⟨hk1, h⟩ | ⟨hk1, h⟩
  · try simp only [go_sem, n1, n2, n3, n4] at hk1
    all_goals
    obtain rfl := so_some h
    refine ⟨0, fun L hL => ?_⟩
    simp only [go_sem, ir92, hk1]
  · try simp only [go_sem, n1, n2, n3, n4] at hk1
    all_goals
    obtain rfl := so_some h
    refine ⟨0, fun L hL => ?_⟩
    simp only [go_sem, ir92, hk1]


def ir91_b0 : IR := .seq (.test false [
    ⟨.push, 6, none, .mov (.v 1)⟩,
    ⟨.push, 7, none, .bin false .neq (.s 0) (.c (.int .i64 (0)))⟩] (.s 0)
  (.skip)
  (.exit 0))
 (.block 1 (.seq (.region false [
     ⟨.push, 8, none, .mov (.v 0)⟩,
     ⟨.push, 9, none, .mov (.v 1)⟩,
     ⟨.push, 10, none, .bin false .rem (.s 1) (.s 0)⟩,
     ⟨.var 3, 5, none, .mov (.s 0)⟩])
  (.seq (.region false [
     ⟨.push, 11, none, .mov (.v 1)⟩,
     ⟨.var 0, 0, none, .mov (.s 0)⟩])
  (.region false [
    ⟨.push, 12, none, .mov (.v 3)⟩,
    ⟨.var 1, 1, none, .mov (.s 0)⟩]))))
def ir91_k0 : List Bool := [true, true, false, false]
def ir91_o0 : List Bool := [true, false, false, false]
def ir91_r0 : List Bool := [false, false, true, false]
def ir91_v : List Nat := [0, 1, 4, 5]
def ir91 : AFn := ⟨2, 4, .seq (.region false [
    ⟨.var 2, 4, none, .mov (.c (.int .i64 (0)))⟩])
 (.seq (.block 0 (.loop ir91_k0 ir91_o0 ir91_r0 ir91_b0))
 (.seq (.region false [
    ⟨.push, 13, none, .mov (.v 0)⟩,
    ⟨.var 2, 4, none, .mov (.s 0)⟩])
 (.ret))), [.t 2]⟩
noncomputable def t_spec_l02Gcd : List (Nat × Ctr) := []
noncomputable def c_spec_l02Gcd : Ctr := mkF t_spec_l02Gcd ir91 [.bor, .bor]
theorem s_spec_l02Gcd : Sound Try.prog 91 c_spec_l02Gcd := mkF_sound _ rfl snd_nil (by kernel_rfl : chkFn Try.prog 91 ir91 ir91_v = true)
theorem M_spec_l02Gcd : c_spec_l02Gcd.modes = [.bor, .bor] := rfl
theorem Fl_spec_l02Gcd : c_spec_l02Gcd.flat = true := rfl
attribute [go_sem] M_spec_l02Gcd Fl_spec_l02Gcd
def E_spec_l02Gcd_l1  : (Int × Int) → St
  | (a, b) => ⟨[.int .i64 a, .int .i64 b, .any, .any], [], [], true⟩
def R_spec_l02Gcd_l1  (y : Int) : Res := (.exit 0, ⟨[.int .i64 y, .any, .any, .any], [], [], true⟩)
theorem spec_l02Gcd_l1_ex  {sgm_ : Int × Int} {rho_ : Int} (h : whileE (spec_l02Gcd_l1) sgm_ = some rho_) : ∃ L0, ∀ L, L0 ≤ L → iter (exec (look t_spec_l02Gcd) L ir91_b0) ir91_k0 ir91_o0 ir91_r0 L (E_spec_l02Gcd_l1 sgm_) = R_spec_l02Gcd_l1 rho_ := by
  refine loop_ex (E := E_spec_l02Gcd_l1) (R := R_spec_l02Gcd_l1) (fun y => by first | (intro c; cases c) | (rcases y with y | y <;> (intro c; cases c)) | (rcases y with y | y | y <;> (intro c; cases c))) ?_ h
  clear h
  rintro ⟨a, b⟩ o_ h
  dsimp only [spec_l02Gcd_l1] at h
  rcases it_some h with ⟨hk1, h⟩ | ⟨hk1, h⟩
  · try simp only [go_sem, n1, n2, n3, n4] at hk1
    all_goals
    obtain ⟨hk2, h⟩ := ck_some h
    try simp only [go_sem, n1, n2, n3, n4, hk1] at hk2
    all_goals
    obtain rfl := so_some h
    refine ⟨0, fun L hL => ?_⟩
    simp only [go_sem, ir91, E_spec_l02Gcd_l1, R_spec_l02Gcd_l1, ir91_b0, ir91_k0, ir91_o0, ir91_r0, hk1, hk2]
  · try simp only [go_sem, n1, n2, n3, n4] at hk1
    all_goals
    obtain rfl := so_some h
    refine ⟨0, fun L hL => ?_⟩
    simp only [go_sem, ir91, E_spec_l02Gcd_l1, R_spec_l02Gcd_l1, ir91_b0, ir91_k0, ir91_o0, ir91_r0, hk1]

theorem Fs_spec_l02Gcd {a : Int} {b : Int} {y_ : Int} (h : spec_l02Gcd a b = some y_) : c_spec_l02Gcd.F [.int .i64 a, .int .i64 b] = ⟨true, .int .i64 y_, [.any, .any]⟩ := by
  refine mkF_E rfl ?_
  dsimp only [spec_l02Gcd] at h
  obtain ⟨y_3, hk3, h⟩ := bd_some h
  obtain ⟨Lhk3, ehk3⟩ := spec_l02Gcd_l1_ex hk3
  obtain rfl := so_some h
  refine ⟨Lhk3, fun L hL => ?_⟩
  have ehk3 := ehk3 L (by omega)
  try simp only [go_sem, E_spec_l02Gcd_l1, R_spec_l02Gcd_l1, ir91_k0, ir91_o0, ir91_r0] at ehk3
  simp only [go_sem, ir91, E_spec_l02Gcd_l1, R_spec_l02Gcd_l1, ir91_k0, ir91_o0, ir91_r0, ehk3]


def ir59_v : List Nat := [0, 1, 4, 5]
def ir59 : AFn := ⟨2, 4, .seq (.region false [
    ⟨.var 2, 4, none, .alloc (.agg [.int .i64 (0), .int .i64 (0)])⟩])
 (.seq (.region false [
    ⟨.push, 6, none, .mov (.v 0)⟩,
    ⟨.push, 7, none, .call 92 [(.s 0)]⟩,
    ⟨.push, 8, none, .mov (.v 1)⟩,
    ⟨.push, 9, none, .call 91 [(.s 1), (.s 0)]⟩,
    ⟨.var 3, 5, none, .mov (.s 0)⟩])
 (.seq (.anyo 7 [
    ⟨.slot 0, 10, none, .mov (.v 0)⟩,
    ⟨.slot 1, 11, none, .mov (.v 3)⟩,
    ⟨.slot 2, 12, none, .bin false .quo (.s 0) (.s 1)⟩,
    ⟨.slot 3, 13, none, .mov (.v 1)⟩,
    ⟨.slot 4, 14, none, .mov (.v 3)⟩,
    ⟨.slot 5, 15, none, .bin false .quo (.s 3) (.s 4)⟩,
    ⟨.slot 6, 16, none, .pur (.build [.int .i64 (0), .int .i64 (0)] [(0, 1, (.s 2)), (1, 1, (.s 5))])⟩,
    ⟨.no, 0, none, .store 2 (.v 2) (.s 6)⟩] [] .skip)
 (.ret))), [.cell true 2 2]⟩
noncomputable def t_spec_l02Make : List (Nat × Ctr) := [(92, c_spec_l02Size), (91, c_spec_l02Gcd)]
theorem lk_spec_l02Make_92 : look t_spec_l02Make 92 = some c_spec_l02Size := rfl
theorem lk_spec_l02Make_91 : look t_spec_l02Make 91 = some c_spec_l02Gcd := rfl
noncomputable def c_spec_l02Make : Ctr := mkN t_spec_l02Make ir59 [.bor, .bor]
theorem s_spec_l02Make : Sound Try.prog 59 c_spec_l02Make := mkN_sound _ (snd_cons s_spec_l02Size (snd_cons s_spec_l02Gcd snd_nil)) (by kernel_rfl : chkFn Try.prog 59 ir59 ir59_v = true)
theorem M_spec_l02Make : c_spec_l02Make.modes = [.bor, .bor] := rfl
theorem Fl_spec_l02Make : c_spec_l02Make.flat = false := rfl
attribute [go_sem] M_spec_l02Make Fl_spec_l02Make
attribute [go_sem] lk_spec_l02Make_92 lk_spec_l02Make_91
theorem Fs_spec_l02Make {num : Int} {den : Int} {y_ : Fraction} (h : spec_l02Make num den = some y_) : c_spec_l02Make.F [.int .i64 num, .int .i64 den] = ⟨true, Fraction_av y_, [.any, .any]⟩ := by
  refine mkN_E ?_
  dsimp only [spec_l02Make] at h
  obtain ⟨y_1, hk1, h⟩ := bd_some h
  have fhk1 := Fs_spec_l02Size hk1
  try simp only [go_sem] at fhk1
  obtain ⟨y_2, hk2, h⟩ := bd_some h
  have fhk2 := Fs_spec_l02Gcd hk2
  try simp only [go_sem] at fhk2
  obtain ⟨hk3, h⟩ := ck_some h
  try simp only [go_sem, n1, n2, n3, n4] at hk3
  all_goals
  obtain rfl := so_some h
  refine ⟨0, fun L hL => ?_⟩
  simp only [go_sem, ir59, fhk1, fhk2, hk3]


def ir27_b0 : IR := .seq (.test false [
    ⟨.push, 26, none, .mov (.v 9)⟩,
    ⟨.push, 27, none, .mov (.v 5)⟩,
    ⟨.push, 28, none, .len false (.s 0)⟩,
    ⟨.push, 29, none, .bin false .lss (.s 2) (.s 0)⟩] (.s 0)
  (.skip)
  (.exit 0))
 (.seq (.block 1 (.anyo 12 [
     ⟨.slot 0, 32, none, .mov (.v 8)⟩,
     ⟨.slot 1, 33, none, .mov (.v 6)⟩,
     ⟨.slot 2, 34, none, .mov (.v 9)⟩,
     ⟨.slot 3, 35, none, .ixAddr 1 (.s 1) (.s 2)⟩,
     ⟨.slot 4, 36, none, .load false 1 (.s 3)⟩,
     ⟨.slot 5, 37, none, .mov (.v 7)⟩,
     ⟨.slot 6, 38, none, .mov (.v 9)⟩,
     ⟨.slot 7, 39, none, .ixAddr 1 (.s 5) (.s 6)⟩,
     ⟨.slot 8, 40, none, .load false 1 (.s 7)⟩,
     ⟨.slot 9, 41, none, .pur (.call 59 [(.s 4), (.s 8)])⟩,
     ⟨.slot 10, 42, none, .pur (.mkSl 2 (.agg [.int .i64 (0), .int .i64 (0)]) 1 [(0, (.s 9))])⟩,
     ⟨.slot 11, 43, none, .app 2 16 (.agg [.int .i64 (0), .int .i64 (0)]) (.s 0) (.s 10)⟩,
     ⟨.var 8, 10, none, .mov (.s 11)⟩] [] .skip))
 (.region false [
   ⟨.push, 30, none, .mov (.v 9)⟩,
   ⟨.push, 31, none, .bin false .add (.s 0) (.c (.int .i64 (1)))⟩,
   ⟨.var 9, 11, none, .mov (.s 0)⟩]))
def ir27_k0 : List Bool := [false, false, false, false, false, true, true, true, true, true]
def ir27_o0 : List Bool := [false, false, false, false, false, false, false, false, true, false]
def ir27_r0 : List Bool := [false, false, true, true, false, false, false, false, false, false]
def ir27_v : List Nat := [0, 1, 4, 5, 6, 7, 8, 9, 10, 11]
def ir27 : AFn := ⟨2, 10, .seq (.region false [
    ⟨.var 2, 4, none, .newnil 2⟩,
    ⟨.var 3, 5, none, .mov (.c (.int .i64 (0)))⟩])
 (.seq (.region false [
    ⟨.push, 12, none, .mov (.v 0)⟩,
    ⟨.push, 13, none, .mov (.v 1)⟩,
    ⟨.push, 14, none, .call 53 [(.s 1), (.s 0)]⟩,
    ⟨.var 4, 6, none, .mov (.s 0)⟩])
 (.seq (.test false [
    ⟨.push, 15, none, .mov (.v 4)⟩,
    ⟨.push, 16, none, .bin false .neq (.s 0) (.c (.int .i64 (0)))⟩] (.s 0)
  (.seq (.region false [
      ⟨.push, 17, none, .mov (.v 4)⟩,
      ⟨.var 2, 4, none, .newnil 2⟩,
      ⟨.var 3, 5, none, .mov (.s 0)⟩])
   (.ret))
  (.skip))
 (.seq (.region false [
    ⟨.push, 19, none, .mov (.v 0)⟩,
    ⟨.push, 20, none, .mov (.v 1)⟩,
    ⟨.push, 21, none, .call 54 [(.s 1), (.s 0)]⟩,
    ⟨.push, 18, none, .mov (.s 0)⟩,
    ⟨.push, 22, none, .ext (.s 0) 0⟩,
    ⟨.push, 23, none, .ext (.s 1) 1⟩,
    ⟨.push, 24, none, .ext (.s 2) 2⟩,
    ⟨.var 5, 7, none, .mov (.s 2)⟩,
    ⟨.var 6, 8, none, .mov (.s 1)⟩,
    ⟨.var 7, 9, none, .mov (.s 0)⟩])
 (.seq (.region false [
    ⟨.push, 25, none, .mkSl 2 (.agg [.int .i64 (0), .int .i64 (0)]) 0 []⟩,
    ⟨.var 8, 10, none, .mov (.s 0)⟩])
 (.seq (.seq (.region false [
     ⟨.var 9, 11, none, .mov (.c (.int .i64 (0)))⟩])
  (.block 0 (.loop ir27_k0 ir27_o0 ir27_r0 ir27_b0)))
 (.seq (.region false [
    ⟨.push, 44, none, .mov (.v 8)⟩,
    ⟨.var 2, 4, none, .mov (.s 0)⟩,
    ⟨.var 3, 5, none, .mov (.c (.int .i64 (0)))⟩])
 (.ret))))))), [.t 2, .t 3]⟩
noncomputable def t_spec_FaultShares : List (Nat × Ctr) := [(53, c_spec_l26Code), (54, c_spec_l26Shares), (59, c_spec_l02Make)]
theorem lk_spec_FaultShares_53 : look t_spec_FaultShares 53 = some c_spec_l26Code := rfl
theorem lk_spec_FaultShares_54 : look t_spec_FaultShares 54 = some c_spec_l26Shares := rfl
theorem lk_spec_FaultShares_59 : look t_spec_FaultShares 59 = some c_spec_l02Make := rfl
noncomputable def c_spec_FaultShares : Ctr := mkF t_spec_FaultShares ir27 [.bor, .bor]
theorem s_spec_FaultShares : Sound Try.prog 27 c_spec_FaultShares := mkF_sound _ rfl (snd_cons s_spec_l26Code (snd_cons s_spec_l26Shares (snd_cons s_spec_l02Make snd_nil))) (by kernel_rfl : chkFn Try.prog 27 ir27 ir27_v = true)
theorem M_spec_FaultShares : c_spec_FaultShares.modes = [.bor, .bor] := rfl
theorem Fl_spec_FaultShares : c_spec_FaultShares.flat = true := rfl
attribute [go_sem] M_spec_FaultShares Fl_spec_FaultShares
attribute [go_sem] lk_spec_FaultShares_53 lk_spec_FaultShares_54 lk_spec_FaultShares_59
def E_spec_FaultShares_l1 (names : List (List UInt8)) (bad : List Int) (all : List Int) : ((List Fraction) × Int) → St
  | (out, i) => ⟨[.any, .any, .any, .any, .any, .sl 1 (List.map AV.str names), .own 3200000, .own 3200032, .own 3200064, .int .i64 i], [], [(3200000, ⟨1, List.map (AV.int .i64) bad⟩), (3200032, ⟨1, List.map (AV.int .i64) all⟩), (3200064, ⟨2, List.map Fraction_av out⟩)], true⟩
def R_spec_FaultShares_l1 (names : List (List UInt8)) (bad : List Int) (all : List Int) (y : (List Fraction)) : Res := (.exit 0, ⟨[.any, .any, .any, .any, .any, .any, .any, .any, .own 3200000, .any], [], [(3200000, ⟨2, List.map Fraction_av y⟩)], true⟩)
theorem spec_FaultShares_l1_ex {names : List (List UInt8)} {bad : List Int} {all : List Int} {sgm_ : (List Fraction) × Int} {rho_ : (List Fraction)} (h : whileE (spec_FaultShares_l1 names bad all) sgm_ = some rho_) : ∃ L0, ∀ L, L0 ≤ L → iter (exec (look t_spec_FaultShares) L ir27_b0) ir27_k0 ir27_o0 ir27_r0 L (E_spec_FaultShares_l1 names bad all sgm_) = R_spec_FaultShares_l1 names bad all rho_ := by
  refine loop_ex (E := E_spec_FaultShares_l1 names bad all) (R := R_spec_FaultShares_l1 names bad all) (fun y => by first | (intro c; cases c) | (rcases y with y | y <;> (intro c; cases c)) | (rcases y with y | y | y <;> (intro c; cases c))) ?_ h
  clear h
  rintro ⟨out, i⟩ o_ h
  dsimp only [spec_FaultShares_l1] at h
  rcases it_some h with ⟨hk4, h⟩ | ⟨hk4, h⟩
  · try simp only [go_sem, n1, n2, n3, n4] at hk4
    all_goals
    obtain ⟨hk5, h⟩ := ck_some h
    have lhk5 := ix_lt hk5
    have xhk5 := getD_mapD (AV.int .i64) bad lhk5
    try simp only [go_sem] at lhk5
    try simp only [go_sem] at xhk5
    try simp only [go_sem, n1, n2, n3, n4, hk4] at hk5
    all_goals
    obtain ⟨hk6, h⟩ := ck_some h
    have lhk6 := ix_lt hk6
    have xhk6 := getD_mapD (AV.int .i64) all lhk6
    try simp only [go_sem] at lhk6
    try simp only [go_sem] at xhk6
    try simp only [go_sem, n1, n2, n3, n4, hk4, hk5] at hk6
    all_goals
    obtain ⟨y_7, hk7, h⟩ := bd_some h
    have fhk7 := Fs_spec_l02Make hk7
    try simp only [go_sem, hk4, hk5, hk6] at fhk7
    obtain ⟨hk8, h⟩ := ck_some h
    try simp only [go_sem, n1, n2, n3, n4, hk4, hk5, hk6] at hk8
    all_goals
    obtain rfl := so_some h
    refine ⟨0, fun L hL => ?_⟩
    simp only [go_sem, ir27, E_spec_FaultShares_l1, R_spec_FaultShares_l1, ir27_b0, ir27_k0, ir27_o0, ir27_r0, hk4, hk5, lhk5, xhk5, hk6, lhk6, xhk6, fhk7, hk8]
  · try simp only [go_sem, n1, n2, n3, n4] at hk4
    all_goals
    obtain rfl := so_some h
    refine ⟨0, fun L hL => ?_⟩
    simp only [go_sem, ir27, E_spec_FaultShares_l1, R_spec_FaultShares_l1, ir27_b0, ir27_k0, ir27_o0, ir27_r0, hk4]

theorem Fs_spec_FaultShares {list : List Estimate} {faults : List Fault} {y_ : (List Fraction) × Int} (h : spec_FaultShares list faults = some y_) : c_spec_FaultShares.F [.sl 5 (List.map Estimate_av list), .sl 2 (List.map Fault_av faults)] = ⟨true, .tup [.fresh 2 (List.map Fraction_av y_.1), .int .i64 y_.2], [.any, .any]⟩ := by
  refine mkF_E (by simp only [flatA, flatB, flat1, List.all_cons, List.all_nil, Bool.and_self, flatE_map (f := Fraction_av) (fun _ => rfl)]) ?_
  dsimp only [spec_FaultShares] at h
  obtain ⟨y_1, hk1, h⟩ := bd_some h
  have fhk1 := Fs_spec_l26Code hk1
  try simp only [go_sem] at fhk1
  rcases it_some h with ⟨hk2, h⟩ | ⟨hk2, h⟩
  · try simp only [go_sem, n1, n2, n3, n4] at hk2
    all_goals
    obtain rfl := so_some h
    refine ⟨0, fun L hL => ?_⟩
    simp only [go_sem, ir27, E_spec_FaultShares_l1, R_spec_FaultShares_l1, ir27_k0, ir27_o0, ir27_r0, fhk1, hk2]
  · try simp only [go_sem, n1, n2, n3, n4] at hk2
    all_goals
    obtain ⟨y_3, hk3, h⟩ := bd_some h
    have fhk3 := Fs_spec_l26Shares hk3
    try simp only [go_sem, hk2] at fhk3
    obtain ⟨y_9, hk9, h⟩ := bd_some h
    obtain ⟨Lhk9, ehk9⟩ := spec_FaultShares_l1_ex hk9
    obtain rfl := so_some h
    refine ⟨Lhk9, fun L hL => ?_⟩
    have ehk9 := ehk9 L (by omega)
    try simp only [go_sem, E_spec_FaultShares_l1, R_spec_FaultShares_l1, ir27_k0, ir27_o0, ir27_r0, hk2] at ehk9
    simp only [go_sem, ir27, E_spec_FaultShares_l1, R_spec_FaultShares_l1, ir27_k0, ir27_o0, ir27_r0, fhk1, hk2, fhk3, ehk9]


def ir28_v : List Nat := [0, 1, 4, 5, 6, 8]
def ir28 : AFn := ⟨2, 6, .seq (.region false [
    ⟨.var 2, 4, none, .newnil 2⟩,
    ⟨.var 3, 5, none, .mov (.c (.int .i64 (0)))⟩])
 (.seq (.seq (.region false [
     ⟨.push, 9, none, .mov (.v 0)⟩,
     ⟨.push, 10, none, .mov (.v 1)⟩,
     ⟨.push, 11, none, .call 56 [(.s 1), (.s 0)]⟩,
     ⟨.var 4, 6, none, .mov (.s 0)⟩])
  (.test false [
    ⟨.push, 12, none, .mov (.v 4)⟩,
    ⟨.push, 13, none, .bin false .neq (.s 0) (.c (.int .i64 (0)))⟩] (.s 0)
  (.seq (.region false [
      ⟨.push, 14, none, .mov (.v 4)⟩,
      ⟨.var 2, 4, none, .newnil 2⟩,
      ⟨.var 3, 5, none, .mov (.s 0)⟩])
   (.ret))
  (.skip)))
 (.seq (.region false [
    ⟨.push, 16, none, .mov (.v 0)⟩,
    ⟨.push, 17, none, .mov (.v 1)⟩,
    ⟨.push, 18, none, .call 57 [(.s 1), (.s 0)]⟩,
    ⟨.push, 15, none, .mov (.s 0)⟩,
    ⟨.push, 19, none, .ext (.s 0) 0⟩,
    ⟨.push, 20, none, .ext (.s 1) 1⟩,
    ⟨.push, 7, none, .mov (.s 1)⟩,
    ⟨.var 5, 8, none, .mov (.s 1)⟩])
 (.seq (.region false [
    ⟨.push, 21, none, .mov (.v 5)⟩,
    ⟨.var 2, 4, none, .mov (.s 0)⟩,
    ⟨.var 3, 5, none, .mov (.c (.int .i64 (0)))⟩])
 (.ret)))), [.t 2, .t 3]⟩
noncomputable def t_impl_FaultShares : List (Nat × Ctr) := [(56, c_impl_audited), (57, c_impl_faultShares)]
theorem lk_impl_FaultShares_56 : look t_impl_FaultShares 56 = some c_impl_audited := rfl
theorem lk_impl_FaultShares_57 : look t_impl_FaultShares 57 = some c_impl_faultShares := rfl
noncomputable def c_impl_FaultShares : Ctr := mkF t_impl_FaultShares ir28 [.bor, .bor]
theorem s_impl_FaultShares : Sound Try.prog 28 c_impl_FaultShares := mkF_sound _ rfl (snd_cons s_impl_audited (snd_cons s_impl_faultShares snd_nil)) (by kernel_rfl : chkFn Try.prog 28 ir28 ir28_v = true)
theorem M_impl_FaultShares : c_impl_FaultShares.modes = [.bor, .bor] := rfl
theorem Fl_impl_FaultShares : c_impl_FaultShares.flat = true := rfl
attribute [go_sem] M_impl_FaultShares Fl_impl_FaultShares
attribute [go_sem] lk_impl_FaultShares_56 lk_impl_FaultShares_57
theorem Fs_impl_FaultShares {list : List Estimate} {faults : List Fault} {y_ : (List Fraction) × Int} (h : impl_FaultShares list faults = some y_) : c_impl_FaultShares.F [.sl 5 (List.map Estimate_av list), .sl 2 (List.map Fault_av faults)] = ⟨true, .tup [.fresh 2 (List.map Fraction_av y_.1), .int .i64 y_.2], [.any, .any]⟩ := by
  refine mkF_E (by simp only [flatA, flatB, flat1, List.all_cons, List.all_nil, Bool.and_self, flatE_map (f := Fraction_av) (fun _ => rfl)]) ?_
  dsimp only [impl_FaultShares] at h
  obtain ⟨y_1, hk1, h⟩ := bd_some h
  have fhk1 := Fs_impl_audited hk1
  try simp only [go_sem] at fhk1
  rcases it_some h with ⟨hk2, h⟩ | ⟨hk2, h⟩
  · try simp only [go_sem, n1, n2, n3, n4] at hk2
    all_goals
    obtain rfl := so_some h
    refine ⟨0, fun L hL => ?_⟩
    simp only [go_sem, ir28, fhk1, hk2]
  · try simp only [go_sem, n1, n2, n3, n4] at hk2
    all_goals
    obtain ⟨y_3, hk3, h⟩ := bd_some h
    have fhk3 := Fs_impl_faultShares hk3
    try simp only [go_sem, hk2] at fhk3
    obtain rfl := so_some h
    refine ⟨0, fun L hL => ?_⟩
    simp only [go_sem, ir28, fhk1, hk2, fhk3]


def ir60_v : List Nat := [0, 1, 2, 3, 4]
def ir60 : AFn := ⟨2, 5, .seq (.region false [
    ⟨.var 2, 2, none, .box (.v 0)⟩,
    ⟨.var 3, 3, none, .box (.v 1)⟩,
    ⟨.var 4, 4, none, .mov (.c (.bool false))⟩])
 (.seq (.test false [
    ⟨.push, 5, none, .fldAddr 0 (.v 2)⟩,
    ⟨.push, 6, none, .load false 1 (.s 0)⟩,
    ⟨.push, 7, none, .fldAddr 0 (.v 3)⟩,
    ⟨.push, 8, none, .load false 1 (.s 0)⟩,
    ⟨.push, 9, none, .bin false .neq (.s 2) (.s 0)⟩] (.s 0)
  (.seq (.region false [
      ⟨.var 4, 4, none, .mov (.c (.bool false))⟩])
   (.ret))
  (.skip))
 (.seq (.test false [
    ⟨.push, 10, none, .fldAddr 1 (.v 2)⟩,
    ⟨.push, 11, none, .load false 1 (.s 0)⟩,
    ⟨.push, 12, none, .fldAddr 1 (.v 3)⟩,
    ⟨.push, 13, none, .load false 1 (.s 0)⟩,
    ⟨.push, 14, none, .bin false .neq (.s 2) (.s 0)⟩] (.s 0)
  (.seq (.region false [
      ⟨.var 4, 4, none, .mov (.c (.bool false))⟩])
   (.ret))
  (.skip))
 (.seq (.region false [
    ⟨.var 4, 4, none, .mov (.c (.bool true))⟩])
 (.ret)))), [.t 4]⟩
noncomputable def t_laws_eqFraction : List (Nat × Ctr) := []
noncomputable def c_laws_eqFraction : Ctr := mkF t_laws_eqFraction ir60 [.bor, .bor]
theorem s_laws_eqFraction : Sound Try.prog 60 c_laws_eqFraction := mkF_sound _ rfl snd_nil (by kernel_rfl : chkFn Try.prog 60 ir60 ir60_v = true)
theorem M_laws_eqFraction : c_laws_eqFraction.modes = [.bor, .bor] := rfl
theorem Fl_laws_eqFraction : c_laws_eqFraction.flat = true := rfl
attribute [go_sem] M_laws_eqFraction Fl_laws_eqFraction
theorem Fs_laws_eqFraction {a : Fraction} {b : Fraction} {y_ : Bool} (h : laws_eqFraction a b = some y_) : c_laws_eqFraction.F [Fraction_av a, Fraction_av b] = ⟨true, .bool y_, [.any, .any]⟩ := by
  refine mkF_E rfl ?_
  dsimp only [laws_eqFraction] at h
  rcases it_some h with ⟨hk1, h⟩ | ⟨hk1, h⟩
  · try simp only [go_sem, n1, n2, n3, n4] at hk1
    all_goals
    obtain rfl := so_some h
    refine ⟨0, fun L hL => ?_⟩
    simp only [go_sem, ir60, hk1]
  · try simp only [go_sem, n1, n2, n3, n4] at hk1
    all_goals
    rcases it_some h with ⟨hk2, h⟩ | ⟨hk2, h⟩
    · try simp only [go_sem, n1, n2, n3, n4, hk1] at hk2
      all_goals
      obtain rfl := so_some h
      refine ⟨0, fun L hL => ?_⟩
      simp only [go_sem, ir60, hk1, hk2]
    · try simp only [go_sem, n1, n2, n3, n4, hk1] at hk2
      all_goals
      obtain rfl := so_some h
      refine ⟨0, fun L hL => ?_⟩
      simp only [go_sem, ir60, hk1, hk2]


def ir29_b0 : IR := .seq (.test false [
    ⟨.push, 11, none, .mov (.v 3)⟩,
    ⟨.push, 12, none, .mov (.v 0)⟩,
    ⟨.push, 13, none, .len false (.s 0)⟩,
    ⟨.push, 14, none, .bin false .lss (.s 2) (.s 0)⟩] (.s 0)
  (.skip)
  (.exit 0))
 (.seq (.block 1 (.anyo 10 [
     ⟨.slot 0, 17, none, .mov (.v 0)⟩,
     ⟨.slot 1, 18, none, .mov (.v 3)⟩,
     ⟨.slot 2, 19, none, .ixAddr 2 (.s 0) (.s 1)⟩,
     ⟨.slot 3, 20, none, .load true 2 (.s 2)⟩,
     ⟨.slot 4, 21, none, .mov (.v 1)⟩,
     ⟨.slot 5, 22, none, .mov (.v 3)⟩,
     ⟨.slot 6, 23, none, .ixAddr 2 (.s 4) (.s 5)⟩,
     ⟨.slot 7, 24, none, .load true 2 (.s 6)⟩,
     ⟨.slot 8, 25, none, .callp 60 [(.s 3), (.s 7)]⟩,
     ⟨.slot 9, 26, none, .un .not (.s 8)⟩] [] (.cond (.s 9)
   (.seq (.region false [
       ⟨.var 2, 4, none, .mov (.c (.bool false))⟩])
    (.ret))
   (.skip))))
 (.region false [
   ⟨.push, 15, none, .mov (.v 3)⟩,
   ⟨.push, 16, none, .bin false .add (.s 0) (.c (.int .i64 (1)))⟩,
   ⟨.var 3, 5, none, .mov (.s 0)⟩]))
def ir29_k0 : List Bool := [true, true, false, true]
def ir29_o0 : List Bool := [false, false, false, false]
def ir29_r0 : List Bool := [false, false, true, false]
def ir29_v : List Nat := [0, 1, 4, 5]
def ir29 : AFn := ⟨2, 4, .seq (.region false [
    ⟨.var 2, 4, none, .mov (.c (.bool false))⟩])
 (.seq (.test false [
    ⟨.push, 6, none, .mov (.v 0)⟩,
    ⟨.push, 7, none, .len false (.s 0)⟩,
    ⟨.push, 8, none, .mov (.v 1)⟩,
    ⟨.push, 9, none, .len false (.s 0)⟩,
    ⟨.push, 10, none, .bin false .neq (.s 2) (.s 0)⟩] (.s 0)
  (.seq (.region false [
      ⟨.var 2, 4, none, .mov (.c (.bool false))⟩])
   (.ret))
  (.skip))
 (.seq (.seq (.region false [
     ⟨.var 3, 5, none, .mov (.c (.int .i64 (0)))⟩])
  (.block 0 (.loop ir29_k0 ir29_o0 ir29_r0 ir29_b0)))
 (.seq (.region false [
    ⟨.var 2, 4, none, .mov (.c (.bool true))⟩])
 (.ret)))), [.t 2]⟩
noncomputable def t_laws_eqFractionS : List (Nat × Ctr) := [(60, c_laws_eqFraction)]
theorem lk_laws_eqFractionS_60 : look t_laws_eqFractionS 60 = some c_laws_eqFraction := rfl
noncomputable def c_laws_eqFractionS : Ctr := mkF t_laws_eqFractionS ir29 [.bor, .bor]
theorem s_laws_eqFractionS : Sound Try.prog 29 c_laws_eqFractionS := mkF_sound _ rfl (snd_cons s_laws_eqFraction snd_nil) (by kernel_rfl : chkFn Try.prog 29 ir29 ir29_v = true)
theorem M_laws_eqFractionS : c_laws_eqFractionS.modes = [.bor, .bor] := rfl
theorem Fl_laws_eqFractionS : c_laws_eqFractionS.flat = true := rfl
attribute [go_sem] M_laws_eqFractionS Fl_laws_eqFractionS
attribute [go_sem] lk_laws_eqFractionS_60
def E_laws_eqFractionS_l1 (a : List Fraction) (b : List Fraction) : Int → St
  | i => ⟨[.sl 2 (List.map Fraction_av a), .sl 2 (List.map Fraction_av b), .any, .int .i64 i], [], [], true⟩
def R_laws_eqFractionS_l1 (a : List Fraction) (b : List Fraction) : (Unit ⊕ Bool) → Res
  | .inl y => (.exit 0, ⟨[.any, .any, .any, .any], [], [], true⟩)
  | .inr y => (.ret, ⟨[.any, .any, .bool y, .any], [], [], true⟩)
theorem laws_eqFractionS_l1_ex {a : List Fraction} {b : List Fraction} {sgm_ : Int} {rho_ : Unit ⊕ Bool} (h : whileE (laws_eqFractionS_l1 a b) sgm_ = some rho_) : ∃ L0, ∀ L, L0 ≤ L → iter (exec (look t_laws_eqFractionS) L ir29_b0) ir29_k0 ir29_o0 ir29_r0 L (E_laws_eqFractionS_l1 a b sgm_) = R_laws_eqFractionS_l1 a b rho_ := by
  refine loop_ex (E := E_laws_eqFractionS_l1 a b) (R := R_laws_eqFractionS_l1 a b) (fun y => by first | (intro c; cases c) | (rcases y with y | y <;> (intro c; cases c)) | (rcases y with y | y | y <;> (intro c; cases c))) ?_ h
  clear h
  intro i o_ h
  dsimp only [laws_eqFractionS_l1] at h
  rcases it_some h with ⟨hk2, h⟩ | ⟨hk2, h⟩
  · try simp only [go_sem, n1, n2, n3, n4] at hk2
    all_goals
    obtain ⟨hk3, h⟩ := ck_some h
    have lhk3 := ix_lt hk3
    have xhk3 := getD_mapD Fraction_av a lhk3
    try simp only [go_sem] at lhk3
    try simp only [go_sem] at xhk3
    try simp only [go_sem, n1, n2, n3, n4, hk2] at hk3
    all_goals
    obtain ⟨hk4, h⟩ := ck_some h
    have lhk4 := ix_lt hk4
    have xhk4 := getD_mapD Fraction_av b lhk4
    try simp only [go_sem] at lhk4
    try simp only [go_sem] at xhk4
    try simp only [go_sem, n1, n2, n3, n4, hk2, hk3] at hk4
    all_goals
    obtain ⟨y_5, hk5, h⟩ := bd_some h
    have fhk5 := Fs_laws_eqFraction hk5
    try simp only [go_sem, hk2, hk3, hk4] at fhk5
    rcases it_some h with ⟨hk6, h⟩ | ⟨hk6, h⟩
    · try simp only [go_sem, n1, n2, n3, n4, hk2, hk3, hk4] at hk6
      all_goals
      obtain rfl := so_some h
      refine ⟨0, fun L hL => ?_⟩
      simp only [go_sem, ir29, E_laws_eqFractionS_l1, R_laws_eqFractionS_l1, ir29_b0, ir29_k0, ir29_o0, ir29_r0, hk2, hk3, lhk3, xhk3, hk4, lhk4, xhk4, fhk5, hk6]
    · try simp only [go_sem, n1, n2, n3, n4, hk2, hk3, hk4] at hk6
      all_goals
      obtain rfl := so_some h
      refine ⟨0, fun L hL => ?_⟩
      simp only [go_sem, ir29, E_laws_eqFractionS_l1, R_laws_eqFractionS_l1, ir29_b0, ir29_k0, ir29_o0, ir29_r0, hk2, hk3, lhk3, xhk3, hk4, lhk4, xhk4, fhk5, hk6]
  · try simp only [go_sem, n1, n2, n3, n4] at hk2
    all_goals
    obtain rfl := so_some h
    refine ⟨0, fun L hL => ?_⟩
    simp only [go_sem, ir29, E_laws_eqFractionS_l1, R_laws_eqFractionS_l1, ir29_b0, ir29_k0, ir29_o0, ir29_r0, hk2]

theorem Fs_laws_eqFractionS {a : List Fraction} {b : List Fraction} {y_ : Bool} (h : laws_eqFractionS a b = some y_) : c_laws_eqFractionS.F [.sl 2 (List.map Fraction_av a), .sl 2 (List.map Fraction_av b)] = ⟨true, .bool y_, [.any, .any]⟩ := by
  refine mkF_E rfl ?_
  dsimp only [laws_eqFractionS] at h
  rcases it_some h with ⟨hk1, h⟩ | ⟨hk1, h⟩
  · try simp only [go_sem, n1, n2, n3, n4] at hk1
    all_goals
    obtain rfl := so_some h
    refine ⟨0, fun L hL => ?_⟩
    simp only [go_sem, ir29, E_laws_eqFractionS_l1, R_laws_eqFractionS_l1, ir29_k0, ir29_o0, ir29_r0, hk1]
  · try simp only [go_sem, n1, n2, n3, n4] at hk1
    all_goals
    obtain ⟨y_7, hk7, h⟩ := bd_some h
    obtain ⟨Lhk7, ehk7⟩ := laws_eqFractionS_l1_ex hk7
    rcases y_7 with y_7a | y_7b
    · dsimp only at h
      obtain rfl := so_some h
      refine ⟨Lhk7, fun L hL => ?_⟩
      have ehk7 := ehk7 L (by omega)
      try simp only [go_sem, E_laws_eqFractionS_l1, R_laws_eqFractionS_l1, ir29_k0, ir29_o0, ir29_r0, hk1] at ehk7
      simp only [go_sem, ir29, E_laws_eqFractionS_l1, R_laws_eqFractionS_l1, ir29_k0, ir29_o0, ir29_r0, hk1, ehk7]
    · dsimp only at h
      obtain rfl := so_some h
      refine ⟨Lhk7, fun L hL => ?_⟩
      have ehk7 := ehk7 L (by omega)
      try simp only [go_sem, E_laws_eqFractionS_l1, R_laws_eqFractionS_l1, ir29_k0, ir29_o0, ir29_r0, hk1] at ehk7
      simp only [go_sem, ir29, E_laws_eqFractionS_l1, R_laws_eqFractionS_l1, ir29_k0, ir29_o0, ir29_r0, hk1, ehk7]


def ir52_b0 : IR := .seq (.test false [
    ⟨.push, 6, none, .mov (.v 0)⟩,
    ⟨.push, 7, none, .bin false .gtr (.s 0) (.c (.int .i64 (0)))⟩] (.s 0)
  (.skip)
  (.exit 0))
 (.block 1 (.seq (.region false [
     ⟨.push, 8, none, .mov (.v 0)⟩,
     ⟨.push, 9, none, .bin false .rem (.s 0) (.c (.int .i64 (10)))⟩,
     ⟨.push, 10, none, .bin false .add (.c (.int .i64 (48))) (.s 0)⟩,
     ⟨.push, 11, none, .conv .u8 (.s 0)⟩,
     ⟨.push, 12, none, .mkSl 1 (.int .u8 (0)) 1 [(0, (.s 0))]⟩,
     ⟨.push, 13, none, .b2s (.s 0)⟩,
     ⟨.push, 14, none, .mov (.v 2)⟩,
     ⟨.push, 15, none, .bin false .add (.s 1) (.s 0)⟩,
     ⟨.var 2, 3, none, .mov (.s 0)⟩])
  (.region false [
    ⟨.push, 16, none, .mov (.v 0)⟩,
    ⟨.push, 17, none, .bin false .quo (.s 0) (.c (.int .i64 (10)))⟩,
    ⟨.var 0, 0, none, .mov (.s 0)⟩])))
def ir52_k0 : List Bool := [true, false, true]
def ir52_o0 : List Bool := [false, false, true]
def ir52_r0 : List Bool := [false, true, false]
def ir52_v : List Nat := [0, 2, 3]
def ir52 : AFn := ⟨1, 3, .seq (.region false [
    ⟨.var 1, 2, none, .mov (.c (.str []))⟩])
 (.seq (.test false [
    ⟨.push, 4, none, .mov (.v 0)⟩,
    ⟨.push, 5, none, .bin false .leq (.s 0) (.c (.int .i64 (0)))⟩] (.s 0)
  (.seq (.region false [
      ⟨.var 1, 2, none, .mov (.c (.str [109, 48]))⟩])
   (.ret))
  (.skip))
 (.seq (.region false [
    ⟨.var 2, 3, none, .mov (.c (.str []))⟩])
 (.seq (.block 0 (.loop ir52_k0 ir52_o0 ir52_r0 ir52_b0))
 (.seq (.region false [
    ⟨.push, 18, none, .mov (.v 2)⟩,
    ⟨.push, 19, none, .bin false .add (.c (.str [109])) (.s 0)⟩,
    ⟨.var 1, 2, none, .mov (.s 0)⟩])
 (.ret))))), [.t 1]⟩
noncomputable def t_laws_markText : List (Nat × Ctr) := []
noncomputable def c_laws_markText : Ctr := mkF t_laws_markText ir52 [.bor]
theorem s_laws_markText : Sound Try.prog 52 c_laws_markText := mkF_sound _ rfl snd_nil (by kernel_rfl : chkFn Try.prog 52 ir52 ir52_v = true)
theorem M_laws_markText : c_laws_markText.modes = [.bor] := rfl
theorem Fl_laws_markText : c_laws_markText.flat = true := rfl
attribute [go_sem] M_laws_markText Fl_laws_markText
def E_laws_markText_l1  : (Int × (List UInt8)) → St
  | (k, out) => ⟨[.int .i64 k, .any, .str out], [], [], true⟩
def R_laws_markText_l1  (y : (List UInt8)) : Res := (.exit 0, ⟨[.any, .any, .str y], [], [], true⟩)
theorem laws_markText_l1_ex  {sgm_ : Int × (List UInt8)} {rho_ : (List UInt8)} (h : whileE (laws_markText_l1) sgm_ = some rho_) : ∃ L0, ∀ L, L0 ≤ L → iter (exec (look t_laws_markText) L ir52_b0) ir52_k0 ir52_o0 ir52_r0 L (E_laws_markText_l1 sgm_) = R_laws_markText_l1 rho_ := by
  refine loop_ex (E := E_laws_markText_l1) (R := R_laws_markText_l1) (fun y => by first | (intro c; cases c) | (rcases y with y | y <;> (intro c; cases c)) | (rcases y with y | y | y <;> (intro c; cases c))) ?_ h
  clear h
  rintro ⟨k, out⟩ o_ h
  dsimp only [laws_markText_l1] at h
  rcases it_some h with ⟨hk2, h⟩ | ⟨hk2, h⟩
  · try simp only [go_sem, n1, n2, n3, n4] at hk2
    all_goals
    obtain ⟨hk3, h⟩ := ck_some h
    try simp only [go_sem, n1, n2, n3, n4, hk2] at hk3
    all_goals
    obtain ⟨hk4, h⟩ := ck_some h
    try simp only [go_sem, n1, n2, n3, n4, hk2, hk3] at hk4
    all_goals
    obtain rfl := so_some h
    refine ⟨0, fun L hL => ?_⟩
    simp only [go_sem, ir52, E_laws_markText_l1, R_laws_markText_l1, ir52_b0, ir52_k0, ir52_o0, ir52_r0, hk2, hk3, hk4]
  · try simp only [go_sem, n1, n2, n3, n4] at hk2
    all_goals
    obtain rfl := so_some h
    refine ⟨0, fun L hL => ?_⟩
    simp only [go_sem, ir52, E_laws_markText_l1, R_laws_markText_l1, ir52_b0, ir52_k0, ir52_o0, ir52_r0, hk2]

theorem Fs_laws_markText {k : Int} {y_ : (List UInt8)} (h : laws_markText k = some y_) : c_laws_markText.F [.int .i64 k] = ⟨true, .str y_, [.any]⟩ := by
  refine mkF_E rfl ?_
  dsimp only [laws_markText] at h
  rcases it_some h with ⟨hk1, h⟩ | ⟨hk1, h⟩
  · try simp only [go_sem, n1, n2, n3, n4] at hk1
    all_goals
    obtain rfl := so_some h
    refine ⟨0, fun L hL => ?_⟩
    simp only [go_sem, ir52, E_laws_markText_l1, R_laws_markText_l1, ir52_k0, ir52_o0, ir52_r0, hk1]
  · try simp only [go_sem, n1, n2, n3, n4] at hk1
    all_goals
    obtain ⟨y_5, hk5, h⟩ := bd_some h
    obtain ⟨Lhk5, ehk5⟩ := laws_markText_l1_ex hk5
    obtain ⟨hk6, h⟩ := ck_some h
    try simp only [go_sem, n1, n2, n3, n4, hk1] at hk6
    all_goals
    obtain rfl := so_some h
    refine ⟨Lhk5, fun L hL => ?_⟩
    have ehk5 := ehk5 L (by omega)
    try simp only [go_sem, E_laws_markText_l1, R_laws_markText_l1, ir52_k0, ir52_o0, ir52_r0, hk1, hk6] at ehk5
    simp only [go_sem, ir52, E_laws_markText_l1, R_laws_markText_l1, ir52_k0, ir52_o0, ir52_r0, hk1, hk6, ehk5]


end Go.Proofs.Ytcfjogkgmkagiab
