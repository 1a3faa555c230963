/- Codes and contracts of the functions that DT reaches, and that their typed forms say what they do. No condition. -/
import Derived.Test.YtbdghipedlldbaaGreatDoorDTKa
import Derived.Test.YtbdghipedlldbaaGreatDoorRows
import Derived.WalkKit
namespace Go.Proofs.YtbdghipedlldbaaGreatDoor
open Go Go.RowKit
set_option linter.unusedVariables false
set_option linter.unusedSimpArgs false
set_option maxRecDepth 10000

def ir61_v : List Nat := [0, 1, 4, 5, 6]
def ir61 : AFn := ⟨2, 5, .seq (.region false [
    ⟨.var 2, 4, none, .mov (.c (.int .i64 (0)))⟩])
 (.seq (.region false [
    ⟨.push, 7, none, .mov (.v 0)⟩,
    ⟨.push, 8, none, .call 76 [(.s 0)]⟩,
    ⟨.var 3, 5, none, .mov (.s 0)⟩])
 (.seq (.region false [
    ⟨.push, 9, none, .mov (.v 1)⟩,
    ⟨.push, 10, none, .call 76 [(.s 0)]⟩,
    ⟨.var 4, 6, none, .mov (.s 0)⟩])
 (.seq (.test false [
    ⟨.push, 11, none, .mov (.v 3)⟩] (.s 0)
  (.seq (.test false [
      ⟨.push, 12, none, .mov (.v 4)⟩] (.s 0)
    (.seq (.region false [
        ⟨.var 2, 4, none, .mov (.c (.int .i64 (0)))⟩])
     (.ret))
    (.skip))
   (.seq (.region false [
      ⟨.var 2, 4, none, .mov (.c (.int .i64 (-1)))⟩])
   (.ret)))
  (.skip))
 (.seq (.test false [
    ⟨.push, 13, none, .mov (.v 4)⟩] (.s 0)
  (.seq (.region false [
      ⟨.var 2, 4, none, .mov (.c (.int .i64 (1)))⟩])
   (.ret))
  (.skip))
 (.seq (.test false [
    ⟨.push, 14, none, .mov (.v 0)⟩,
    ⟨.push, 15, none, .mov (.v 1)⟩,
    ⟨.push, 16, none, .bin false .lss (.s 1) (.s 0)⟩] (.s 0)
  (.seq (.region false [
      ⟨.var 2, 4, none, .mov (.c (.int .i64 (-1)))⟩])
   (.ret))
  (.skip))
 (.seq (.test false [
    ⟨.push, 17, none, .mov (.v 0)⟩,
    ⟨.push, 18, none, .mov (.v 1)⟩,
    ⟨.push, 19, none, .bin false .gtr (.s 1) (.s 0)⟩] (.s 0)
  (.seq (.region false [
      ⟨.var 2, 4, none, .mov (.c (.int .i64 (1)))⟩])
   (.ret))
  (.skip))
 (.seq (.region false [
    ⟨.var 2, 4, none, .mov (.c (.int .i64 (0)))⟩])
 (.ret)))))))), [.t 2]⟩
noncomputable def t_cmp_Compare_int64 : List (Nat × Ctr) := [(76, c_cmp_isNaN_int64)]
theorem lk_cmp_Compare_int64_76 : look t_cmp_Compare_int64 76 = some c_cmp_isNaN_int64 := rfl
noncomputable def c_cmp_Compare_int64 : Ctr := mkF t_cmp_Compare_int64 ir61 [.bor, .bor]
theorem s_cmp_Compare_int64 : Sound Tryz.prog 61 c_cmp_Compare_int64 := mkF_sound _ rfl (snd_cons s_cmp_isNaN_int64 snd_nil) (by kernel_rfl : chkFn Tryz.prog 61 ir61 ir61_v = true)
theorem M_cmp_Compare_int64 : c_cmp_Compare_int64.modes = [.bor, .bor] := rfl
theorem Fl_cmp_Compare_int64 : c_cmp_Compare_int64.flat = true := rfl
attribute [go_sem] M_cmp_Compare_int64 Fl_cmp_Compare_int64
attribute [go_sem] lk_cmp_Compare_int64_76
theorem Fs_cmp_Compare_int64 {x : Int} {y : Int} {y_ : Int} (h : cmp_Compare_int64 x y = some y_) : c_cmp_Compare_int64.F [.int .i64 x, .int .i64 y] = ⟨true, .int .i64 y_, [.any, .any]⟩ := by
  refine mkF_E rfl ?_
  dsimp only [cmp_Compare_int64] at h
  obtain ⟨y_1, hk1, h⟩ := bd_some h
  have fhk1 := Fs_cmp_isNaN_int64 hk1
  try simp only [go_sem] at fhk1
  obtain ⟨y_2, hk2, h⟩ := bd_some h
  have fhk2 := Fs_cmp_isNaN_int64 hk2
  try simp only [go_sem] at fhk2
  rcases it_some h with ⟨hk3, h⟩ | ⟨hk3, h⟩
  · try simp only [go_sem, n1, n2, n3, n4] at hk3
    all_goals
    rcases it_some h with ⟨hk4, h⟩ | ⟨hk4, h⟩
    · try simp only [go_sem, n1, n2, n3, n4, hk3] at hk4
      all_goals
      obtain rfl := so_some h
      refine ⟨0, fun L hL => ?_⟩
      simp only [go_sem, ir61, fhk1, fhk2, hk3, hk4]
    · try simp only [go_sem, n1, n2, n3, n4, hk3] at hk4
      all_goals
      obtain rfl := so_some h
      refine ⟨0, fun L hL => ?_⟩
      simp only [go_sem, ir61, fhk1, fhk2, hk3, hk4]
  · try simp only [go_sem, n1, n2, n3, n4] at hk3
    all_goals
    rcases it_some h with ⟨hk5, h⟩ | ⟨hk5, h⟩
    · try simp only [go_sem, n1, n2, n3, n4, hk3] at hk5
      all_goals
      obtain rfl := so_some h
      refine ⟨0, fun L hL => ?_⟩
      simp only [go_sem, ir61, fhk1, fhk2, hk3, hk5]
    · try simp only [go_sem, n1, n2, n3, n4, hk3] at hk5
      all_goals
      rcases it_some h with ⟨hk6, h⟩ | ⟨hk6, h⟩
      · try simp only [go_sem, n1, n2, n3, n4, hk3, hk5] at hk6
        all_goals
        obtain rfl := so_some h
        refine ⟨0, fun L hL => ?_⟩
        simp only [go_sem, ir61, fhk1, fhk2, hk3, hk5, hk6]
      · try simp only [go_sem, n1, n2, n3, n4, hk3, hk5] at hk6
        all_goals
        rcases it_some h with ⟨hk7, h⟩ | ⟨hk7, h⟩
        · try simp only [go_sem, n1, n2, n3, n4, hk3, hk5, hk6] at hk7
          all_goals
          obtain rfl := so_some h
          refine ⟨0, fun L hL => ?_⟩
          simp only [go_sem, ir61, fhk1, fhk2, hk3, hk5, hk6, hk7]
        · try simp only [go_sem, n1, n2, n3, n4, hk3, hk5, hk6] at hk7
          all_goals
          obtain rfl := so_some h
          refine ⟨0, fun L hL => ?_⟩
          simp only [go_sem, ir61, fhk1, fhk2, hk3, hk5, hk6, hk7]


theorem s_hCmp : Sound Tryz.prog 86 c_hCmp := hCmp_sound Tryz.func86 (by kernel_rfl) (by kernel_rfl) (by kernel_rfl) (by kernel_rfl)

def ir77_v : List Nat := [0, 1, 4]
def ir77 : AFn := ⟨2, 3, .seq (.region false [
    ⟨.var 2, 4, none, .mov (.c (.int .i64 (0)))⟩])
 (.seq (.region false [
    ⟨.push, 5, none, .mov (.v 0)⟩,
    ⟨.push, 6, none, .mov (.v 1)⟩,
    ⟨.push, 7, none, .call 86 [(.s 1), (.s 0)]⟩,
    ⟨.var 2, 4, none, .mov (.s 0)⟩])
 (.ret)), [.t 2]⟩
noncomputable def t_internal_bytealg_CompareString : List (Nat × Ctr) := [(86, c_hCmp)]
theorem lk_internal_bytealg_CompareString_86 : look t_internal_bytealg_CompareString 86 = some c_hCmp := rfl
noncomputable def c_internal_bytealg_CompareString : Ctr := mkF t_internal_bytealg_CompareString ir77 [.bor, .bor]
theorem s_internal_bytealg_CompareString : Sound Tryz.prog 77 c_internal_bytealg_CompareString := mkF_sound _ rfl (snd_cons s_hCmp snd_nil) (by kernel_rfl : chkFn Tryz.prog 77 ir77 ir77_v = true)
theorem M_internal_bytealg_CompareString : c_internal_bytealg_CompareString.modes = [.bor, .bor] := rfl
theorem Fl_internal_bytealg_CompareString : c_internal_bytealg_CompareString.flat = true := rfl
attribute [go_sem] M_internal_bytealg_CompareString Fl_internal_bytealg_CompareString
attribute [go_sem] lk_internal_bytealg_CompareString_86
theorem Fs_internal_bytealg_CompareString {a : List UInt8} {b : List UInt8} {y_ : Int} (h : internal_bytealg_CompareString a b = some y_) : c_internal_bytealg_CompareString.F [.str a, .str b] = ⟨true, .int .i64 y_, [.any, .any]⟩ := by
  refine mkF_E rfl ?_
  dsimp only [internal_bytealg_CompareString] at h
  obtain ⟨y_1, hk1, h⟩ := bd_some h
  have fhk1 := Fs_hCmp hk1
  try simp only [go_sem] at fhk1
  obtain rfl := so_some h
  refine ⟨0, fun L hL => ?_⟩
  simp only [go_sem, ir77, fhk1]


def ir62_v : List Nat := [0, 1, 4]
def ir62 : AFn := ⟨2, 3, .seq (.region false [
    ⟨.var 2, 4, none, .mov (.c (.int .i64 (0)))⟩])
 (.seq (.region false [
    ⟨.push, 5, none, .mov (.v 0)⟩,
    ⟨.push, 6, none, .mov (.v 1)⟩,
    ⟨.push, 7, none, .call 77 [(.s 1), (.s 0)]⟩,
    ⟨.var 2, 4, none, .mov (.s 0)⟩])
 (.ret)), [.t 2]⟩
noncomputable def t_strings_Compare : List (Nat × Ctr) := [(77, c_internal_bytealg_CompareString)]
theorem lk_strings_Compare_77 : look t_strings_Compare 77 = some c_internal_bytealg_CompareString := rfl
noncomputable def c_strings_Compare : Ctr := mkF t_strings_Compare ir62 [.bor, .bor]
theorem s_strings_Compare : Sound Tryz.prog 62 c_strings_Compare := mkF_sound _ rfl (snd_cons s_internal_bytealg_CompareString snd_nil) (by kernel_rfl : chkFn Tryz.prog 62 ir62 ir62_v = true)
theorem M_strings_Compare : c_strings_Compare.modes = [.bor, .bor] := rfl
theorem Fl_strings_Compare : c_strings_Compare.flat = true := rfl
attribute [go_sem] M_strings_Compare Fl_strings_Compare
attribute [go_sem] lk_strings_Compare_77
theorem Fs_strings_Compare {a : List UInt8} {b : List UInt8} {y_ : Int} (h : strings_Compare a b = some y_) : c_strings_Compare.F [.str a, .str b] = ⟨true, .int .i64 y_, [.any, .any]⟩ := by
  refine mkF_E rfl ?_
  dsimp only [strings_Compare] at h
  obtain ⟨y_1, hk1, h⟩ := bd_some h
  have fhk1 := Fs_internal_bytealg_CompareString hk1
  try simp only [go_sem] at fhk1
  obtain rfl := so_some h
  refine ⟨0, fun L hL => ?_⟩
  simp only [go_sem, ir62, fhk1]


def ir60_b0 : IR := .seq (.region false [
    ⟨.var 7, 9, none, .bin false .lss (.v 6) (.v 5)⟩])
 (.seq (.cond (.v 7) (.skip)
  (.exit 0))
 (.seq (.block 1 (.seq (.region false [
      ⟨.push, 10, none, .ixAddr 1 (.v 4) (.v 6)⟩,
      ⟨.push, 11, none, .load false 1 (.s 0)⟩,
      ⟨.var 3, 5, none, .mov (.s 0)⟩])
   (.test false [
     ⟨.push, 12, none, .mov (.v 3)⟩,
     ⟨.push, 13, none, .mov (.v 2)⟩,
     ⟨.push, 14, none, .bin false .neq (.s 1) (.s 0)⟩] (.s 0)
   (.seq (.region false [
       ⟨.push, 15, none, .mov (.v 3)⟩,
       ⟨.var 1, 2, none, .mov (.s 0)⟩])
    (.ret))
   (.skip))))
 (.region false [
   ⟨.push, 16, none, .bin false .add (.v 6) (.c (.int .i64 (1)))⟩,
   ⟨.var 6, 8, none, .mov (.s 0)⟩])))
def ir60_k0 : List Bool := [false, false, true, false, true, true, true, false]
def ir60_o0 : List Bool := [false, false, true, false, false, false, false, false]
def ir60_r0 : List Bool := [false, true, false, false, false, false, false, false]
def ir60_v : List Nat := [0, 2, 3, 5, 6, 7, 8, 9]
def ir60 : AFn := ⟨1, 8, .seq (.region false [
    ⟨.var 1, 2, none, .mov (.c (.int .i64 (0)))⟩])
 (.seq (.region false [
    ⟨.var 2, 3, none, .mov (.c (.int .i64 (0)))⟩])
 (.seq (.seq (.region false [
     ⟨.var 4, 6, none, .mov (.v 0)⟩,
     ⟨.var 5, 7, none, .len false (.v 4)⟩,
     ⟨.var 6, 8, none, .mov (.c (.int .i64 (0)))⟩])
  (.block 0 (.loop ir60_k0 ir60_o0 ir60_r0 ir60_b0)))
 (.seq (.region false [
    ⟨.push, 17, none, .mov (.v 2)⟩,
    ⟨.var 1, 2, none, .mov (.s 0)⟩])
 (.ret)))), [.t 1]⟩
noncomputable def t_cmp_Or_int : List (Nat × Ctr) := []
noncomputable def c_cmp_Or_int : Ctr := mkF t_cmp_Or_int ir60 [.bor]
theorem s_cmp_Or_int : Sound Tryz.prog 60 c_cmp_Or_int := mkF_sound _ rfl snd_nil (by kernel_rfl : chkFn Tryz.prog 60 ir60 ir60_v = true)
theorem M_cmp_Or_int : c_cmp_Or_int.modes = [.bor] := rfl
theorem Fl_cmp_Or_int : c_cmp_Or_int.flat = true := rfl
attribute [go_sem] M_cmp_Or_int Fl_cmp_Or_int
def E_cmp_Or_int_l1 (zero : Int) (t6 : List Int) (t7 : Int) : Int → St
  | t8 => ⟨[.any, .any, .int .i64 zero, .any, .sl 1 (List.map (AV.int .i64) t6), .int .i64 t7, .int .i64 t8, .any], [], [], true⟩
def R_cmp_Or_int_l1 (zero : Int) (t6 : List Int) (t7 : Int) : (Unit ⊕ Int) → Res
  | .inl y => (.exit 0, ⟨[.any, .any, .int .i64 zero, .any, .any, .any, .any, .any], [], [], true⟩)
  | .inr y => (.ret, ⟨[.any, .int .i64 y, .any, .any, .any, .any, .any, .any], [], [], true⟩)
theorem cmp_Or_int_l1_ex {zero : Int} {t6 : List Int} {t7 : Int} {sgm_ : Int} {rho_ : Unit ⊕ Int} (h : whileE (cmp_Or_int_l1 zero t6 t7) sgm_ = some rho_) : ∃ L0, ∀ L, L0 ≤ L → iter (exec (look t_cmp_Or_int) L ir60_b0) ir60_k0 ir60_o0 ir60_r0 L (E_cmp_Or_int_l1 zero t6 t7 sgm_) = R_cmp_Or_int_l1 zero t6 t7 rho_ := by
  refine loop_ex (E := E_cmp_Or_int_l1 zero t6 t7) (R := R_cmp_Or_int_l1 zero t6 t7) (fun y => by first | (intro c; cases c) | (rcases y with y | y <;> (intro c; cases c)) | (rcases y with y | y | y <;> (intro c; cases c))) ?_ h
  clear h
  intro t8 o_ h
  dsimp only [cmp_Or_int_l1] at h
  rcases it_some h with ⟨hk1, h⟩ | ⟨hk1, h⟩
  · try simp only [go_sem, n1, n2, n3, n4] at hk1
    all_goals
    obtain ⟨hk2, h⟩ := ck_some h
    have lhk2 := ix_lt hk2
    have xhk2 := getD_mapD (AV.int .i64) t6 lhk2
    try simp only [go_sem] at lhk2
    try simp only [go_sem] at xhk2
    try simp only [go_sem, n1, n2, n3, n4, hk1] at hk2
    all_goals
    rcases it_some h with ⟨hk3, h⟩ | ⟨hk3, h⟩
    · try simp only [go_sem, n1, n2, n3, n4, hk1, hk2] at hk3
      all_goals
      obtain rfl := so_some h
      refine ⟨0, fun L hL => ?_⟩
      simp only [go_sem, ir60, E_cmp_Or_int_l1, R_cmp_Or_int_l1, ir60_b0, ir60_k0, ir60_o0, ir60_r0, hk1, hk2, lhk2, xhk2, hk3]
    · try simp only [go_sem, n1, n2, n3, n4, hk1, hk2] at hk3
      all_goals
      obtain rfl := so_some h
      refine ⟨0, fun L hL => ?_⟩
      simp only [go_sem, ir60, E_cmp_Or_int_l1, R_cmp_Or_int_l1, ir60_b0, ir60_k0, ir60_o0, ir60_r0, hk1, hk2, lhk2, xhk2, hk3]
  · try simp only [go_sem, n1, n2, n3, n4] at hk1
    all_goals
    obtain rfl := so_some h
    refine ⟨0, fun L hL => ?_⟩
    simp only [go_sem, ir60, E_cmp_Or_int_l1, R_cmp_Or_int_l1, ir60_b0, ir60_k0, ir60_o0, ir60_r0, hk1]

theorem Fs_cmp_Or_int {vals : List Int} {y_ : Int} (h : cmp_Or_int vals = some y_) : c_cmp_Or_int.F [.sl 1 (List.map (AV.int .i64) vals)] = ⟨true, .int .i64 y_, [.any]⟩ := by
  refine mkF_E rfl ?_
  dsimp only [cmp_Or_int] at h
  obtain ⟨y_4, hk4, h⟩ := bd_some h
  obtain ⟨Lhk4, ehk4⟩ := cmp_Or_int_l1_ex hk4
  rcases y_4 with y_4a | y_4b
  · dsimp only at h
    obtain rfl := so_some h
    refine ⟨Lhk4, fun L hL => ?_⟩
    have ehk4 := ehk4 L (by omega)
    try simp only [go_sem, E_cmp_Or_int_l1, R_cmp_Or_int_l1, ir60_k0, ir60_o0, ir60_r0] at ehk4
    simp only [go_sem, ir60, E_cmp_Or_int_l1, R_cmp_Or_int_l1, ir60_k0, ir60_o0, ir60_r0, ehk4]
  · dsimp only at h
    obtain rfl := so_some h
    refine ⟨Lhk4, fun L hL => ?_⟩
    have ehk4 := ehk4 L (by omega)
    try simp only [go_sem, E_cmp_Or_int_l1, R_cmp_Or_int_l1, ir60_k0, ir60_o0, ir60_r0] at ehk4
    simp only [go_sem, ir60, E_cmp_Or_int_l1, R_cmp_Or_int_l1, ir60_k0, ir60_o0, ir60_r0, ehk4]


def ir45_v : List Nat := [0, 1, 2, 3, 4]
def ir45 : AFn := ⟨2, 5, .seq (.region false [
    ⟨.var 2, 2, none, .box (.v 0)⟩,
    ⟨.var 3, 3, none, .box (.v 1)⟩,
    ⟨.var 4, 4, none, .mov (.c (.int .i64 (0)))⟩])
 (.seq (.anyo 17 [
    ⟨.slot 0, 5, none, .fldAddr 0 (.v 2)⟩,
    ⟨.slot 1, 6, none, .load false 1 (.s 0)⟩,
    ⟨.slot 2, 7, none, .fldAddr 0 (.v 3)⟩,
    ⟨.slot 3, 8, none, .load false 1 (.s 2)⟩,
    ⟨.slot 4, 9, none, .callp 61 [(.s 1), (.s 3)]⟩,
    ⟨.slot 5, 10, none, .fldAddr 1 (.v 2)⟩,
    ⟨.slot 6, 11, none, .load false 1 (.s 5)⟩,
    ⟨.slot 7, 12, none, .fldAddr 1 (.v 3)⟩,
    ⟨.slot 8, 13, none, .load false 1 (.s 7)⟩,
    ⟨.slot 9, 14, none, .callp 62 [(.s 6), (.s 8)]⟩,
    ⟨.slot 10, 15, none, .fldAddr 2 (.v 2)⟩,
    ⟨.slot 11, 16, none, .load false 1 (.s 10)⟩,
    ⟨.slot 12, 17, none, .fldAddr 2 (.v 3)⟩,
    ⟨.slot 13, 18, none, .load false 1 (.s 12)⟩,
    ⟨.slot 14, 19, none, .callp 62 [(.s 11), (.s 13)]⟩,
    ⟨.slot 15, 20, none, .pur (.mkSl 1 (.int .i64 (0)) 3 [(0, (.s 4)), (1, (.s 9)), (2, (.s 14))])⟩,
    ⟨.slot 16, 21, none, .callp 60 [(.s 15)]⟩,
    ⟨.var 4, 4, none, .mov (.s 16)⟩] [] .skip)
 (.ret)), [.t 4]⟩
noncomputable def t_impl_compareEstimates : List (Nat × Ctr) := [(61, c_cmp_Compare_int64), (62, c_strings_Compare), (60, c_cmp_Or_int)]
theorem lk_impl_compareEstimates_61 : look t_impl_compareEstimates 61 = some c_cmp_Compare_int64 := rfl
theorem lk_impl_compareEstimates_62 : look t_impl_compareEstimates 62 = some c_strings_Compare := rfl
theorem lk_impl_compareEstimates_60 : look t_impl_compareEstimates 60 = some c_cmp_Or_int := rfl
noncomputable def c_impl_compareEstimates : Ctr := mkF t_impl_compareEstimates ir45 [.bor, .bor]
theorem s_impl_compareEstimates : Sound Tryz.prog 45 c_impl_compareEstimates := mkF_sound _ rfl (snd_cons s_cmp_Compare_int64 (snd_cons s_strings_Compare (snd_cons s_cmp_Or_int snd_nil))) (by kernel_rfl : chkFn Tryz.prog 45 ir45 ir45_v = true)
theorem M_impl_compareEstimates : c_impl_compareEstimates.modes = [.bor, .bor] := rfl
theorem Fl_impl_compareEstimates : c_impl_compareEstimates.flat = true := rfl
attribute [go_sem] M_impl_compareEstimates Fl_impl_compareEstimates
attribute [go_sem] lk_impl_compareEstimates_61 lk_impl_compareEstimates_62 lk_impl_compareEstimates_60
theorem Fs_impl_compareEstimates {a : Estimate} {b : Estimate} {y_ : Int} (h : impl_compareEstimates a b = some y_) : c_impl_compareEstimates.F [Estimate_av a, Estimate_av b] = ⟨true, .int .i64 y_, [.any, .any]⟩ := by
  refine mkF_E rfl ?_
  dsimp only [impl_compareEstimates] at h
  obtain ⟨y_1, hk1, h⟩ := bd_some h
  have fhk1 := Fs_cmp_Compare_int64 hk1
  try simp only [go_sem] at fhk1
  obtain ⟨y_2, hk2, h⟩ := bd_some h
  have fhk2 := Fs_strings_Compare hk2
  try simp only [go_sem] at fhk2
  obtain ⟨y_3, hk3, h⟩ := bd_some h
  have fhk3 := Fs_strings_Compare hk3
  try simp only [go_sem] at fhk3
  obtain ⟨y_4, hk4, h⟩ := bd_some h
  have fhk4 := Fs_cmp_Or_int hk4
  try simp only [go_sem] at fhk4
  obtain rfl := so_some h
  refine ⟨0, fun L hL => ?_⟩
  simp only [go_sem, ir45, fhk1, fhk2, fhk3, fhk4]


def ir29_b0 : IR := .seq (.region false [
    ⟨.var 7, 11, none, .bin false .lss (.v 6) (.v 5)⟩])
 (.seq (.cond (.v 7) (.skip)
  (.exit 0))
 (.seq (.block 1 (.seq (.region false [
      ⟨.push, 12, none, .mov (.v 6)⟩,
      ⟨.push, 13, none, .ixAddr 5 (.v 4) (.v 6)⟩,
      ⟨.push, 14, none, .load true 5 (.s 0)⟩,
      ⟨.var 3, 4, none, .alloc (.agg [.int .i64 (0), .str [], .str [], .int .i64 (0), .bool false])⟩,
      ⟨.var 2, 3, none, .mov (.s 2)⟩,
      ⟨.no, 0, none, .store 5 (.v 3) (.s 0)⟩])
   (.anyo 17 [
     ⟨.slot 0, 15, none, .load true 5 (.v 3)⟩,
     ⟨.slot 1, 16, none, .callp 44 [(.s 0)]⟩,
     ⟨.slot 2, 17, none, .un .not (.s 1)⟩,
     ⟨.slot 3, 18, none, .mov (.s 2)⟩,
     ⟨.slot 4, 19, (some ((.s 3), false)), .mov (.v 2)⟩,
     ⟨.slot 5, 20, (some ((.s 3), false)), .bin false .gtr (.s 4) (.c (.int .i64 (0)))⟩,
     ⟨.slot 6, 21, (some ((.s 3), false)), .mov (.s 5)⟩,
     ⟨.slot 7, 22, (some ((.s 6), true)), .mov (.v 0)⟩,
     ⟨.slot 8, 23, (some ((.s 6), true)), .mov (.v 2)⟩,
     ⟨.slot 9, 24, (some ((.s 6), true)), .bin false .sub (.s 8) (.c (.int .i64 (1)))⟩,
     ⟨.slot 10, 25, (some ((.s 6), true)), .ixAddr 5 (.s 7) (.s 9)⟩,
     ⟨.slot 11, 26, (some ((.s 6), true)), .load true 5 (.s 10)⟩,
     ⟨.slot 12, 27, (some ((.s 6), true)), .load true 5 (.v 3)⟩,
     ⟨.slot 13, 28, (some ((.s 6), true)), .call 45 [(.s 11), (.s 12)]⟩,
     ⟨.slot 14, 29, (some ((.s 6), true)), .bin false .geq (.s 13) (.c (.int .i64 (0)))⟩,
     ⟨.slot 15, 30, (some ((.s 3), false)), .pick (.s 6) (.s 14) (.c (.bool false))⟩,
     ⟨.slot 16, 31, none, .pick (.s 3) (.c (.bool true)) (.s 15)⟩] [] (.cond (.s 16)
   (.seq (.region false [
       ⟨.var 1, 2, none, .mov (.c (.bool false))⟩])
    (.ret))
   (.skip)))))
 (.region false [
   ⟨.push, 32, none, .bin false .add (.v 6) (.c (.int .i64 (1)))⟩,
   ⟨.var 6, 10, none, .mov (.s 0)⟩])))
def ir29_k0 : List Bool := [true, false, false, false, true, true, true, false]
def ir29_o0 : List Bool := [false, false, false, false, false, false, false, false]
def ir29_r0 : List Bool := [false, true, false, false, false, false, false, false]
def ir29_v : List Nat := [0, 2, 3, 4, 8, 9, 10, 11]
def ir29 : AFn := ⟨1, 8, .seq (.region false [
    ⟨.var 1, 2, none, .mov (.c (.bool false))⟩])
 (.seq (.test false [
    ⟨.push, 5, none, .mov (.v 0)⟩,
    ⟨.push, 6, none, .len false (.s 0)⟩,
    ⟨.push, 7, none, .bin false .gtr (.s 0) (.c (.int .i64 (100)))⟩] (.s 0)
  (.seq (.region false [
      ⟨.var 1, 2, none, .mov (.c (.bool false))⟩])
   (.ret))
  (.skip))
 (.seq (.seq (.region false [
     ⟨.var 4, 8, none, .mov (.v 0)⟩,
     ⟨.var 5, 9, none, .len false (.v 4)⟩,
     ⟨.var 6, 10, none, .mov (.c (.int .i64 (0)))⟩])
  (.block 0 (.loop ir29_k0 ir29_o0 ir29_r0 ir29_b0)))
 (.seq (.region false [
    ⟨.var 1, 2, none, .mov (.c (.bool true))⟩])
 (.ret)))), [.t 1]⟩
noncomputable def t_impl_ValidEstimates : List (Nat × Ctr) := [(44, c_impl_isEstimate), (45, c_impl_compareEstimates)]
theorem lk_impl_ValidEstimates_44 : look t_impl_ValidEstimates 44 = some c_impl_isEstimate := rfl
theorem lk_impl_ValidEstimates_45 : look t_impl_ValidEstimates 45 = some c_impl_compareEstimates := rfl
noncomputable def c_impl_ValidEstimates : Ctr := mkF t_impl_ValidEstimates ir29 [.bor]
theorem s_impl_ValidEstimates : Sound Tryz.prog 29 c_impl_ValidEstimates := mkF_sound _ rfl (snd_cons s_impl_isEstimate (snd_cons s_impl_compareEstimates snd_nil)) (by kernel_rfl : chkFn Tryz.prog 29 ir29 ir29_v = true)
theorem M_impl_ValidEstimates : c_impl_ValidEstimates.modes = [.bor] := rfl
theorem Fl_impl_ValidEstimates : c_impl_ValidEstimates.flat = true := rfl
attribute [go_sem] M_impl_ValidEstimates Fl_impl_ValidEstimates
attribute [go_sem] lk_impl_ValidEstimates_44 lk_impl_ValidEstimates_45
def E_impl_ValidEstimates_l1 (list : List Estimate) (t8 : List Estimate) (t9 : Int) : Int → St
  | t10 => ⟨[.sl 5 (List.map Estimate_av list), .any, .any, .any, .sl 5 (List.map Estimate_av t8), .int .i64 t9, .int .i64 t10, .any], [], [], true⟩
def R_impl_ValidEstimates_l1 (list : List Estimate) (t8 : List Estimate) (t9 : Int) : (Unit ⊕ Bool) → Res
  | .inl y => (.exit 0, ⟨[.any, .any, .any, .any, .any, .any, .any, .any], [], [], true⟩)
  | .inr y => (.ret, ⟨[.any, .bool y, .any, .any, .any, .any, .any, .any], [], [], true⟩)
theorem impl_ValidEstimates_l1_ex {list : List Estimate} {t8 : List Estimate} {t9 : Int} {sgm_ : Int} {rho_ : Unit ⊕ Bool} (h : whileE (impl_ValidEstimates_l1 list t8 t9) sgm_ = some rho_) : ∃ L0, ∀ L, L0 ≤ L → iter (exec (look t_impl_ValidEstimates) L ir29_b0) ir29_k0 ir29_o0 ir29_r0 L (E_impl_ValidEstimates_l1 list t8 t9 sgm_) = R_impl_ValidEstimates_l1 list t8 t9 rho_ := by
  refine loop_ex (E := E_impl_ValidEstimates_l1 list t8 t9) (R := R_impl_ValidEstimates_l1 list t8 t9) (fun y => by first | (intro c; cases c) | (rcases y with y | y <;> (intro c; cases c)) | (rcases y with y | y | y <;> (intro c; cases c))) ?_ h
  clear h
  intro t10 o_ h
  dsimp only [impl_ValidEstimates_l1] at h
  rcases it_some h with ⟨hk2, h⟩ | ⟨hk2, h⟩
  · try simp only [go_sem, n1, n2, n3, n4] at hk2
    all_goals
    obtain ⟨hk3, h⟩ := ck_some h
    have lhk3 := ix_lt hk3
    have xhk3 := getD_mapD Estimate_av t8 lhk3
    try simp only [go_sem] at lhk3
    try simp only [go_sem] at xhk3
    try simp only [go_sem, n1, n2, n3, n4, hk2] at hk3
    all_goals
    obtain ⟨y_4, hk4, h⟩ := bd_some h
    have fhk4 := Fs_impl_isEstimate hk4
    try simp only [go_sem, hk2, hk3] at fhk4
    obtain ⟨hk5, h⟩ := ck_some h
    rcases or_split hk5 with ⟨ghk5, hk5⟩ | ghk5
    · try simp only [go_sem, n1, n2, n3, n4, hk2, hk3] at ghk5
      all_goals
      have lhk5 := ix_lt hk5
      have xhk5 := getD_mapD Estimate_av list lhk5
      try simp only [go_sem] at lhk5
      try simp only [go_sem] at xhk5
      try simp only [go_sem, n1, n2, n3, n4, hk2, hk3, ghk5] at hk5
      all_goals
      obtain ⟨hk6, h⟩ := ck_some h
      rcases or_split hk6 with ⟨ghk6, hk6⟩ | ghk6
      · try simp only [go_sem, n1, n2, n3, n4, hk2, hk3, ghk5, hk5] at ghk6
        all_goals
        obtain ⟨y_6, hhk6⟩ := Option.isSome_iff_exists.1 hk6
        have fhk6 := Fs_impl_compareEstimates hhk6
        try simp only [go_sem, hk2, hk3, ghk5, hk5, ghk6] at fhk6
        rcases it_some h with ⟨hk7, h⟩ | ⟨hk7, h⟩
        · try simp only [go_sem, n1, n2, n3, n4, hk2, hk3, ghk5, hk5, ghk6, hhk6] at hk7
          all_goals
          obtain rfl := so_some h
          refine ⟨0, fun L hL => ?_⟩
          simp only [go_sem, ir29, E_impl_ValidEstimates_l1, R_impl_ValidEstimates_l1, ir29_b0, ir29_k0, ir29_o0, ir29_r0, hk2, hk3, lhk3, xhk3, fhk4, ghk5, hk5, lhk5, xhk5, ghk6, hhk6, fhk6, hk7]
        · try simp only [go_sem, n1, n2, n3, n4, hk2, hk3, ghk5, hk5, ghk6, hhk6] at hk7
          all_goals
          obtain rfl := so_some h
          refine ⟨0, fun L hL => ?_⟩
          simp only [go_sem, ir29, E_impl_ValidEstimates_l1, R_impl_ValidEstimates_l1, ir29_b0, ir29_k0, ir29_o0, ir29_r0, hk2, hk3, lhk3, xhk3, fhk4, ghk5, hk5, lhk5, xhk5, ghk6, hhk6, fhk6, hk7]
      · rcases and_f ghk6 with ghk6a | ⟨ghk6a, ghk6b⟩
        · have ghk6an := no_f ghk6a
          have ghk6ann := no_t ghk6an
          try simp only [go_sem, n1, n2, n3, n4, hk2, hk3, ghk5, hk5] at ghk6ann
          all_goals
          rcases it_some h with ⟨hk7, h⟩ | ⟨hk7, h⟩
          · try simp only [go_sem, n1, n2, n3, n4, hk2, hk3, ghk5, hk5, ghk6ann] at hk7
            all_goals
            obtain rfl := so_some h
            refine ⟨0, fun L hL => ?_⟩
            simp only [go_sem, ir29, E_impl_ValidEstimates_l1, R_impl_ValidEstimates_l1, ir29_b0, ir29_k0, ir29_o0, ir29_r0, hk2, hk3, lhk3, xhk3, fhk4, ghk5, hk5, lhk5, xhk5, ghk6ann, hk7]
          · try simp only [go_sem, n1, n2, n3, n4, hk2, hk3, ghk5, hk5, ghk6ann] at hk7
            all_goals
            obtain rfl := so_some h
            refine ⟨0, fun L hL => ?_⟩
            simp only [go_sem, ir29, E_impl_ValidEstimates_l1, R_impl_ValidEstimates_l1, ir29_b0, ir29_k0, ir29_o0, ir29_r0, hk2, hk3, lhk3, xhk3, fhk4, ghk5, hk5, lhk5, xhk5, ghk6ann, hk7]
        · have ghk6an := no_t ghk6a
          have ghk6ann := no_f ghk6an
          try simp only [go_sem, n1, n2, n3, n4, hk2, hk3, ghk5, hk5] at ghk6ann
          all_goals
          try simp only [go_sem, n1, n2, n3, n4, hk2, hk3, ghk5, hk5, ghk6ann] at ghk6b
          all_goals
          rcases it_some h with ⟨hk7, h⟩ | ⟨hk7, h⟩
          · try simp only [go_sem, n1, n2, n3, n4, hk2, hk3, ghk5, hk5, ghk6ann, ghk6b] at hk7
            all_goals
            obtain rfl := so_some h
            refine ⟨0, fun L hL => ?_⟩
            simp only [go_sem, ir29, E_impl_ValidEstimates_l1, R_impl_ValidEstimates_l1, ir29_b0, ir29_k0, ir29_o0, ir29_r0, hk2, hk3, lhk3, xhk3, fhk4, ghk5, hk5, lhk5, xhk5, ghk6ann, ghk6b, hk7]
          · try simp only [go_sem, n1, n2, n3, n4, hk2, hk3, ghk5, hk5, ghk6ann, ghk6b] at hk7
            all_goals
            obtain rfl := so_some h
            refine ⟨0, fun L hL => ?_⟩
            simp only [go_sem, ir29, E_impl_ValidEstimates_l1, R_impl_ValidEstimates_l1, ir29_b0, ir29_k0, ir29_o0, ir29_r0, hk2, hk3, lhk3, xhk3, fhk4, ghk5, hk5, lhk5, xhk5, ghk6ann, ghk6b, hk7]
    · rcases and_f ghk5 with ghk5a | ⟨ghk5a, ghk5b⟩
      · have ghk5an := no_f ghk5a
        have ghk5ann := no_t ghk5an
        try simp only [go_sem, n1, n2, n3, n4, hk2, hk3] at ghk5ann
        all_goals
        obtain ⟨hk6, h⟩ := ck_some h
        rcases or_split hk6 with ⟨ghk6, hk6⟩ | ghk6
        · try simp only [go_sem, n1, n2, n3, n4, hk2, hk3, ghk5ann] at ghk6
          all_goals
          obtain ⟨y_6, hhk6⟩ := Option.isSome_iff_exists.1 hk6
          have fhk6 := Fs_impl_compareEstimates hhk6
          try simp only [go_sem, hk2, hk3, ghk5ann, ghk6] at fhk6
          rcases it_some h with ⟨hk7, h⟩ | ⟨hk7, h⟩
          · try simp only [go_sem, n1, n2, n3, n4, hk2, hk3, ghk5ann, ghk6, hhk6] at hk7
            all_goals
            obtain rfl := so_some h
            refine ⟨0, fun L hL => ?_⟩
            simp only [go_sem, ir29, E_impl_ValidEstimates_l1, R_impl_ValidEstimates_l1, ir29_b0, ir29_k0, ir29_o0, ir29_r0, hk2, hk3, lhk3, xhk3, fhk4, ghk5ann, ghk6, hhk6, fhk6, hk7]
          · try simp only [go_sem, n1, n2, n3, n4, hk2, hk3, ghk5ann, ghk6, hhk6] at hk7
            all_goals
            obtain rfl := so_some h
            refine ⟨0, fun L hL => ?_⟩
            simp only [go_sem, ir29, E_impl_ValidEstimates_l1, R_impl_ValidEstimates_l1, ir29_b0, ir29_k0, ir29_o0, ir29_r0, hk2, hk3, lhk3, xhk3, fhk4, ghk5ann, ghk6, hhk6, fhk6, hk7]
        · rcases and_f ghk6 with ghk6a | ⟨ghk6a, ghk6b⟩
          · have ghk6an := no_f ghk6a
            have ghk6ann := no_t ghk6an
            try simp only [go_sem, n1, n2, n3, n4, hk2, hk3, ghk5ann] at ghk6ann
            all_goals
            rcases it_some h with ⟨hk7, h⟩ | ⟨hk7, h⟩
            · try simp only [go_sem, n1, n2, n3, n4, hk2, hk3, ghk5ann, ghk6ann] at hk7
              all_goals
              obtain rfl := so_some h
              refine ⟨0, fun L hL => ?_⟩
              simp only [go_sem, ir29, E_impl_ValidEstimates_l1, R_impl_ValidEstimates_l1, ir29_b0, ir29_k0, ir29_o0, ir29_r0, hk2, hk3, lhk3, xhk3, fhk4, ghk5ann, ghk6ann, hk7]
            · try simp only [go_sem, n1, n2, n3, n4, hk2, hk3, ghk5ann, ghk6ann] at hk7
              all_goals
              obtain rfl := so_some h
              refine ⟨0, fun L hL => ?_⟩
              simp only [go_sem, ir29, E_impl_ValidEstimates_l1, R_impl_ValidEstimates_l1, ir29_b0, ir29_k0, ir29_o0, ir29_r0, hk2, hk3, lhk3, xhk3, fhk4, ghk5ann, ghk6ann, hk7]
          · have ghk6an := no_t ghk6a
            have ghk6ann := no_f ghk6an
            try simp only [go_sem, n1, n2, n3, n4, hk2, hk3, ghk5ann] at ghk6ann
            all_goals
            try simp only [go_sem, n1, n2, n3, n4, hk2, hk3, ghk5ann, ghk6ann] at ghk6b
            all_goals
            rcases it_some h with ⟨hk7, h⟩ | ⟨hk7, h⟩
            · try simp only [go_sem, n1, n2, n3, n4, hk2, hk3, ghk5ann, ghk6ann, ghk6b] at hk7
              all_goals
              obtain rfl := so_some h
              refine ⟨0, fun L hL => ?_⟩
              simp only [go_sem, ir29, E_impl_ValidEstimates_l1, R_impl_ValidEstimates_l1, ir29_b0, ir29_k0, ir29_o0, ir29_r0, hk2, hk3, lhk3, xhk3, fhk4, ghk5ann, ghk6ann, ghk6b, hk7]
            · try simp only [go_sem, n1, n2, n3, n4, hk2, hk3, ghk5ann, ghk6ann, ghk6b] at hk7
              all_goals
              obtain rfl := so_some h
              refine ⟨0, fun L hL => ?_⟩
              simp only [go_sem, ir29, E_impl_ValidEstimates_l1, R_impl_ValidEstimates_l1, ir29_b0, ir29_k0, ir29_o0, ir29_r0, hk2, hk3, lhk3, xhk3, fhk4, ghk5ann, ghk6ann, ghk6b, hk7]
      · have ghk5an := no_t ghk5a
        have ghk5ann := no_f ghk5an
        try simp only [go_sem, n1, n2, n3, n4, hk2, hk3] at ghk5ann
        all_goals
        try simp only [go_sem, n1, n2, n3, n4, hk2, hk3, ghk5ann] at ghk5b
        all_goals
        obtain ⟨hk6, h⟩ := ck_some h
        rcases or_split hk6 with ⟨ghk6, hk6⟩ | ghk6
        · try simp only [go_sem, n1, n2, n3, n4, hk2, hk3, ghk5ann, ghk5b] at ghk6
          all_goals
          obtain ⟨y_6, hhk6⟩ := Option.isSome_iff_exists.1 hk6
          have fhk6 := Fs_impl_compareEstimates hhk6
          try simp only [go_sem, hk2, hk3, ghk5ann, ghk5b, ghk6] at fhk6
          rcases it_some h with ⟨hk7, h⟩ | ⟨hk7, h⟩
          · try simp only [go_sem, n1, n2, n3, n4, hk2, hk3, ghk5ann, ghk5b, ghk6, hhk6] at hk7
            all_goals
            obtain rfl := so_some h
            refine ⟨0, fun L hL => ?_⟩
            simp only [go_sem, ir29, E_impl_ValidEstimates_l1, R_impl_ValidEstimates_l1, ir29_b0, ir29_k0, ir29_o0, ir29_r0, hk2, hk3, lhk3, xhk3, fhk4, ghk5ann, ghk5b, ghk6, hhk6, fhk6, hk7]
          · try simp only [go_sem, n1, n2, n3, n4, hk2, hk3, ghk5ann, ghk5b, ghk6, hhk6] at hk7
            all_goals
            obtain rfl := so_some h
            refine ⟨0, fun L hL => ?_⟩
            simp only [go_sem, ir29, E_impl_ValidEstimates_l1, R_impl_ValidEstimates_l1, ir29_b0, ir29_k0, ir29_o0, ir29_r0, hk2, hk3, lhk3, xhk3, fhk4, ghk5ann, ghk5b, ghk6, hhk6, fhk6, hk7]
        · rcases and_f ghk6 with ghk6a | ⟨ghk6a, ghk6b⟩
          · have ghk6an := no_f ghk6a
            have ghk6ann := no_t ghk6an
            try simp only [go_sem, n1, n2, n3, n4, hk2, hk3, ghk5ann, ghk5b] at ghk6ann
            all_goals
            rcases it_some h with ⟨hk7, h⟩ | ⟨hk7, h⟩
            · try simp only [go_sem, n1, n2, n3, n4, hk2, hk3, ghk5ann, ghk5b, ghk6ann] at hk7
              all_goals
              obtain rfl := so_some h
              refine ⟨0, fun L hL => ?_⟩
              simp only [go_sem, ir29, E_impl_ValidEstimates_l1, R_impl_ValidEstimates_l1, ir29_b0, ir29_k0, ir29_o0, ir29_r0, hk2, hk3, lhk3, xhk3, fhk4, ghk5ann, ghk5b, ghk6ann, hk7]
            · try simp only [go_sem, n1, n2, n3, n4, hk2, hk3, ghk5ann, ghk5b, ghk6ann] at hk7
              all_goals
              obtain rfl := so_some h
              refine ⟨0, fun L hL => ?_⟩
              simp only [go_sem, ir29, E_impl_ValidEstimates_l1, R_impl_ValidEstimates_l1, ir29_b0, ir29_k0, ir29_o0, ir29_r0, hk2, hk3, lhk3, xhk3, fhk4, ghk5ann, ghk5b, ghk6ann, hk7]
          · have ghk6an := no_t ghk6a
            have ghk6ann := no_f ghk6an
            try simp only [go_sem, n1, n2, n3, n4, hk2, hk3, ghk5ann, ghk5b] at ghk6ann
            all_goals
            try simp only [go_sem, n1, n2, n3, n4, hk2, hk3, ghk5ann, ghk5b, ghk6ann] at ghk6b
            all_goals
            rcases it_some h with ⟨hk7, h⟩ | ⟨hk7, h⟩
            · try simp only [go_sem, n1, n2, n3, n4, hk2, hk3, ghk5ann, ghk5b, ghk6ann, ghk6b] at hk7
              all_goals
              obtain rfl := so_some h
              refine ⟨0, fun L hL => ?_⟩
              simp only [go_sem, ir29, E_impl_ValidEstimates_l1, R_impl_ValidEstimates_l1, ir29_b0, ir29_k0, ir29_o0, ir29_r0, hk2, hk3, lhk3, xhk3, fhk4, ghk5ann, ghk5b, ghk6ann, ghk6b, hk7]
            · try simp only [go_sem, n1, n2, n3, n4, hk2, hk3, ghk5ann, ghk5b, ghk6ann, ghk6b] at hk7
              all_goals
              obtain rfl := so_some h
              refine ⟨0, fun L hL => ?_⟩
              simp only [go_sem, ir29, E_impl_ValidEstimates_l1, R_impl_ValidEstimates_l1, ir29_b0, ir29_k0, ir29_o0, ir29_r0, hk2, hk3, lhk3, xhk3, fhk4, ghk5ann, ghk5b, ghk6ann, ghk6b, hk7]
  · try simp only [go_sem, n1, n2, n3, n4] at hk2
    all_goals
    obtain rfl := so_some h
    refine ⟨0, fun L hL => ?_⟩
    simp only [go_sem, ir29, E_impl_ValidEstimates_l1, R_impl_ValidEstimates_l1, ir29_b0, ir29_k0, ir29_o0, ir29_r0, hk2]

theorem Fs_impl_ValidEstimates {list : List Estimate} {y_ : Bool} (h : impl_ValidEstimates list = some y_) : c_impl_ValidEstimates.F [.sl 5 (List.map Estimate_av list)] = ⟨true, .bool y_, [.any]⟩ := by
  refine mkF_E rfl ?_
  dsimp only [impl_ValidEstimates] at h
  rcases it_some h with ⟨hk1, h⟩ | ⟨hk1, h⟩
  · try simp only [go_sem, n1, n2, n3, n4] at hk1
    all_goals
    obtain rfl := so_some h
    refine ⟨0, fun L hL => ?_⟩
    simp only [go_sem, ir29, E_impl_ValidEstimates_l1, R_impl_ValidEstimates_l1, ir29_k0, ir29_o0, ir29_r0, hk1]
  · try simp only [go_sem, n1, n2, n3, n4] at hk1
    all_goals
    obtain ⟨y_8, hk8, h⟩ := bd_some h
    obtain ⟨Lhk8, ehk8⟩ := impl_ValidEstimates_l1_ex hk8
    rcases y_8 with y_8a | y_8b
    · dsimp only at h
      obtain rfl := so_some h
      refine ⟨Lhk8, fun L hL => ?_⟩
      have ehk8 := ehk8 L (by omega)
      try simp only [go_sem, E_impl_ValidEstimates_l1, R_impl_ValidEstimates_l1, ir29_k0, ir29_o0, ir29_r0, hk1] at ehk8
      simp only [go_sem, ir29, E_impl_ValidEstimates_l1, R_impl_ValidEstimates_l1, ir29_k0, ir29_o0, ir29_r0, hk1, ehk8]
    · dsimp only at h
      obtain rfl := so_some h
      refine ⟨Lhk8, fun L hL => ?_⟩
      have ehk8 := ehk8 L (by omega)
      try simp only [go_sem, E_impl_ValidEstimates_l1, R_impl_ValidEstimates_l1, ir29_k0, ir29_o0, ir29_r0, hk1] at ehk8
      simp only [go_sem, ir29, E_impl_ValidEstimates_l1, R_impl_ValidEstimates_l1, ir29_k0, ir29_o0, ir29_r0, hk1, ehk8]


def ir47_v : List Nat := [0, 1, 2, 3]
def ir47 : AFn := ⟨2, 4, .seq (.region false [
    ⟨.var 2, 2, none, .box (.v 0)⟩,
    ⟨.var 3, 3, none, .mov (.c (.bool false))⟩])
 (.seq (.region false [
    ⟨.push, 4, none, .fldAddr 0 (.v 2)⟩,
    ⟨.push, 5, none, .load false 1 (.s 0)⟩,
    ⟨.push, 6, none, .load false 1 (.v 1)⟩,
    ⟨.push, 7, none, .bin false .eql (.s 1) (.s 0)⟩,
    ⟨.var 3, 3, none, .mov (.s 0)⟩])
 (.ret)), [.t 3]⟩
noncomputable def t_impl_hasStar_c1 : List (Nat × Ctr) := []
noncomputable def c_impl_hasStar_c1 : Ctr := mkF t_impl_hasStar_c1 ir47 [.bor, .bor]
theorem s_impl_hasStar_c1 : Sound Tryz.prog 47 c_impl_hasStar_c1 := mkF_sound _ rfl snd_nil (by kernel_rfl : chkFn Tryz.prog 47 ir47 ir47_v = true)
theorem M_impl_hasStar_c1 : c_impl_hasStar_c1.modes = [.bor, .bor] := rfl
theorem Fl_impl_hasStar_c1 : c_impl_hasStar_c1.flat = true := rfl
attribute [go_sem] M_impl_hasStar_c1 Fl_impl_hasStar_c1
theorem Fs_impl_hasStar_c1 {x : Star} {t1 : List UInt8} {y_ : Bool} (h : impl_hasStar_c1 x t1 = some y_) : c_impl_hasStar_c1.F [Star_av x, .ptr 1 [.str t1] 0 0] = ⟨true, .bool y_, [.any, .any]⟩ := by
  refine mkF_E rfl ?_
  dsimp only [impl_hasStar_c1] at h
  obtain rfl := so_some h
  refine ⟨0, fun L hL => ?_⟩
  simp only [go_sem, ir47]


def ir63_b0 : IR := .seq (.region false [
    ⟨.var 6, 9, none, .bin false .lss (.v 5) (.v 4)⟩])
 (.seq (.cond (.v 6) (.skip)
  (.exit 0))
 (.seq (.block 1 (.seq (.region false [
      ⟨.push, 10, none, .mov (.v 5)⟩,
      ⟨.var 3, 5, none, .mov (.s 0)⟩])
   (.test false [
     ⟨.push, 11, none, .mov (.v 1)⟩,
     ⟨.push, 12, none, .mov (.v 0)⟩,
     ⟨.push, 13, none, .mov (.v 3)⟩,
     ⟨.push, 14, none, .ixAddr 5 (.s 1) (.s 0)⟩,
     ⟨.push, 15, none, .load true 5 (.s 0)⟩,
     ⟨.push, 16, none, .callv (.s 4) [(.s 0)]⟩] (.s 0)
   (.seq (.region false [
       ⟨.push, 17, none, .mov (.v 3)⟩,
       ⟨.var 2, 4, none, .mov (.s 0)⟩])
    (.ret))
   (.skip))))
 (.region false [
   ⟨.push, 18, none, .bin false .add (.v 5) (.c (.int .i64 (1)))⟩,
   ⟨.var 5, 8, none, .mov (.s 0)⟩])))
def ir63_k0 : List Bool := [true, true, false, false, true, true, false]
def ir63_o0 : List Bool := [false, false, false, false, false, false, false]
def ir63_r0 : List Bool := [false, false, true, false, false, false, false]
def ir63_v : List Nat := [0, 1, 4, 5, 7, 8, 9]
def ir63 : AFn := ⟨2, 7, .seq (.region false [
    ⟨.var 2, 4, none, .mov (.c (.int .i64 (0)))⟩])
 (.seq (.seq (.region false [
     ⟨.push, 6, none, .mov (.v 0)⟩,
     ⟨.var 4, 7, none, .len false (.s 0)⟩,
     ⟨.var 5, 8, none, .mov (.c (.int .i64 (0)))⟩])
  (.block 0 (.loop ir63_k0 ir63_o0 ir63_r0 ir63_b0)))
 (.seq (.region false [
    ⟨.var 2, 4, none, .mov (.c (.int .i64 (-1)))⟩])
 (.ret))), [.t 2]⟩
noncomputable def t_slices_IndexFunc_impl_Star_impl_Star__impl_hasStar_c1 : List (Nat × Ctr) := [(47, c_impl_hasStar_c1)]
theorem lk_slices_IndexFunc_impl_Star_impl_Star__impl_hasStar_c1_47 : look t_slices_IndexFunc_impl_Star_impl_Star__impl_hasStar_c1 47 = some c_impl_hasStar_c1 := rfl
noncomputable def c_slices_IndexFunc_impl_Star_impl_Star__impl_hasStar_c1 : Ctr := mkF t_slices_IndexFunc_impl_Star_impl_Star__impl_hasStar_c1 ir63 [.bor, .bor]
theorem s_slices_IndexFunc_impl_Star_impl_Star__impl_hasStar_c1 : Sound Tryz.prog 63 c_slices_IndexFunc_impl_Star_impl_Star__impl_hasStar_c1 := mkF_sound _ rfl (snd_cons s_impl_hasStar_c1 snd_nil) (by kernel_rfl : chkFn Tryz.prog 63 ir63 ir63_v = true)
theorem M_slices_IndexFunc_impl_Star_impl_Star__impl_hasStar_c1 : c_slices_IndexFunc_impl_Star_impl_Star__impl_hasStar_c1.modes = [.bor, .bor] := rfl
theorem Fl_slices_IndexFunc_impl_Star_impl_Star__impl_hasStar_c1 : c_slices_IndexFunc_impl_Star_impl_Star__impl_hasStar_c1.flat = true := rfl
attribute [go_sem] M_slices_IndexFunc_impl_Star_impl_Star__impl_hasStar_c1 Fl_slices_IndexFunc_impl_Star_impl_Star__impl_hasStar_c1
attribute [go_sem] lk_slices_IndexFunc_impl_Star_impl_Star__impl_hasStar_c1_47
def E_slices_IndexFunc_impl_Star_impl_Star__impl_hasStar_c1_l1 (s_ : List Star) (c : List UInt8) (t7 : Int) : Int → St
  | t8 => ⟨[.sl 5 (List.map Star_av s_), .fn (.func 47) [] [.ptr 1 [.str c] 0 0], .any, .any, .int .i64 t7, .int .i64 t8, .any], [], [], true⟩
def R_slices_IndexFunc_impl_Star_impl_Star__impl_hasStar_c1_l1 (s_ : List Star) (c : List UInt8) (t7 : Int) : (Unit ⊕ Int) → Res
  | .inl y => (.exit 0, ⟨[.any, .any, .any, .any, .any, .any, .any], [], [], true⟩)
  | .inr y => (.ret, ⟨[.any, .any, .int .i64 y, .any, .any, .any, .any], [], [], true⟩)
theorem slices_IndexFunc_impl_Star_impl_Star__impl_hasStar_c1_l1_ex {s_ : List Star} {c : List UInt8} {t7 : Int} {sgm_ : Int} {rho_ : Unit ⊕ Int} (h : whileE (slices_IndexFunc_impl_Star_impl_Star__impl_hasStar_c1_l1 s_ c t7) sgm_ = some rho_) : ∃ L0, ∀ L, L0 ≤ L → iter (exec (look t_slices_IndexFunc_impl_Star_impl_Star__impl_hasStar_c1) L ir63_b0) ir63_k0 ir63_o0 ir63_r0 L (E_slices_IndexFunc_impl_Star_impl_Star__impl_hasStar_c1_l1 s_ c t7 sgm_) = R_slices_IndexFunc_impl_Star_impl_Star__impl_hasStar_c1_l1 s_ c t7 rho_ := by
  refine loop_ex (E := E_slices_IndexFunc_impl_Star_impl_Star__impl_hasStar_c1_l1 s_ c t7) (R := R_slices_IndexFunc_impl_Star_impl_Star__impl_hasStar_c1_l1 s_ c t7) (fun y => by first | (intro c; cases c) | (rcases y with y | y <;> (intro c; cases c)) | (rcases y with y | y | y <;> (intro c; cases c))) ?_ h
  clear h
  intro t8 o_ h
  dsimp only [slices_IndexFunc_impl_Star_impl_Star__impl_hasStar_c1_l1] at h
  rcases it_some h with ⟨hk1, h⟩ | ⟨hk1, h⟩
  · try simp only [go_sem, n1, n2, n3, n4] at hk1
    all_goals
    obtain ⟨hk2, h⟩ := ck_some h
    have lhk2 := ix_lt hk2
    have xhk2 := getD_mapD Star_av s_ lhk2
    try simp only [go_sem] at lhk2
    try simp only [go_sem] at xhk2
    try simp only [go_sem, n1, n2, n3, n4, hk1] at hk2
    all_goals
    obtain ⟨y_3, hk3, h⟩ := bd_some h
    have fhk3 := Fs_impl_hasStar_c1 hk3
    try simp only [go_sem, hk1, hk2] at fhk3
    rcases it_some h with ⟨hk4, h⟩ | ⟨hk4, h⟩
    · try simp only [go_sem, n1, n2, n3, n4, hk1, hk2] at hk4
      all_goals
      obtain rfl := so_some h
      refine ⟨0, fun L hL => ?_⟩
      simp only [go_sem, ir63, E_slices_IndexFunc_impl_Star_impl_Star__impl_hasStar_c1_l1, R_slices_IndexFunc_impl_Star_impl_Star__impl_hasStar_c1_l1, ir63_b0, ir63_k0, ir63_o0, ir63_r0, hk1, hk2, lhk2, xhk2, fhk3, hk4]
    · try simp only [go_sem, n1, n2, n3, n4, hk1, hk2] at hk4
      all_goals
      obtain rfl := so_some h
      refine ⟨0, fun L hL => ?_⟩
      simp only [go_sem, ir63, E_slices_IndexFunc_impl_Star_impl_Star__impl_hasStar_c1_l1, R_slices_IndexFunc_impl_Star_impl_Star__impl_hasStar_c1_l1, ir63_b0, ir63_k0, ir63_o0, ir63_r0, hk1, hk2, lhk2, xhk2, fhk3, hk4]
  · try simp only [go_sem, n1, n2, n3, n4] at hk1
    all_goals
    obtain rfl := so_some h
    refine ⟨0, fun L hL => ?_⟩
    simp only [go_sem, ir63, E_slices_IndexFunc_impl_Star_impl_Star__impl_hasStar_c1_l1, R_slices_IndexFunc_impl_Star_impl_Star__impl_hasStar_c1_l1, ir63_b0, ir63_k0, ir63_o0, ir63_r0, hk1]

theorem Fs_slices_IndexFunc_impl_Star_impl_Star__impl_hasStar_c1 {s_ : List Star} {f_c0 : List UInt8} {y_ : Int} (h : slices_IndexFunc_impl_Star_impl_Star__impl_hasStar_c1 s_ f_c0 = some y_) : c_slices_IndexFunc_impl_Star_impl_Star__impl_hasStar_c1.F [.sl 5 (List.map Star_av s_), .fn (.func 47) [] [.ptr 1 [.str f_c0] 0 0]] = ⟨true, .int .i64 y_, [.any, .any]⟩ := by
  refine mkF_E rfl ?_
  dsimp only [slices_IndexFunc_impl_Star_impl_Star__impl_hasStar_c1] at h
  obtain ⟨y_5, hk5, h⟩ := bd_some h
  obtain ⟨Lhk5, ehk5⟩ := slices_IndexFunc_impl_Star_impl_Star__impl_hasStar_c1_l1_ex hk5
  rcases y_5 with y_5a | y_5b
  · dsimp only at h
    obtain rfl := so_some h
    refine ⟨Lhk5, fun L hL => ?_⟩
    have ehk5 := ehk5 L (by omega)
    try simp only [go_sem, E_slices_IndexFunc_impl_Star_impl_Star__impl_hasStar_c1_l1, R_slices_IndexFunc_impl_Star_impl_Star__impl_hasStar_c1_l1, ir63_k0, ir63_o0, ir63_r0] at ehk5
    simp only [go_sem, ir63, E_slices_IndexFunc_impl_Star_impl_Star__impl_hasStar_c1_l1, R_slices_IndexFunc_impl_Star_impl_Star__impl_hasStar_c1_l1, ir63_k0, ir63_o0, ir63_r0, ehk5]
  · dsimp only at h
    obtain rfl := so_some h
    refine ⟨Lhk5, fun L hL => ?_⟩
    have ehk5 := ehk5 L (by omega)
    try simp only [go_sem, E_slices_IndexFunc_impl_Star_impl_Star__impl_hasStar_c1_l1, R_slices_IndexFunc_impl_Star_impl_Star__impl_hasStar_c1_l1, ir63_k0, ir63_o0, ir63_r0] at ehk5
    simp only [go_sem, ir63, E_slices_IndexFunc_impl_Star_impl_Star__impl_hasStar_c1_l1, R_slices_IndexFunc_impl_Star_impl_Star__impl_hasStar_c1_l1, ir63_k0, ir63_o0, ir63_r0, ehk5]


def ir46_v : List Nat := [0, 1, 4]
def ir46 : AFn := ⟨2, 3, .seq (.region false [
    ⟨.var 2, 4, none, .mov (.c (.bool false))⟩])
 (.seq (.region false [
    ⟨.push, 5, none, .mov (.v 0)⟩,
    ⟨.push, 6, none, .mov (.v 1)⟩,
    ⟨.push, 7, none, .call 63 [(.s 1), (.s 0)]⟩,
    ⟨.push, 8, none, .bin false .geq (.s 0) (.c (.int .i64 (0)))⟩,
    ⟨.var 2, 4, none, .mov (.s 0)⟩])
 (.ret)), [.t 2]⟩
noncomputable def t_slices_ContainsFunc_impl_Star_impl_Star__impl_hasStar_c1 : List (Nat × Ctr) := [(63, c_slices_IndexFunc_impl_Star_impl_Star__impl_hasStar_c1)]
theorem lk_slices_ContainsFunc_impl_Star_impl_Star__impl_hasStar_c1_63 : look t_slices_ContainsFunc_impl_Star_impl_Star__impl_hasStar_c1 63 = some c_slices_IndexFunc_impl_Star_impl_Star__impl_hasStar_c1 := rfl
noncomputable def c_slices_ContainsFunc_impl_Star_impl_Star__impl_hasStar_c1 : Ctr := mkF t_slices_ContainsFunc_impl_Star_impl_Star__impl_hasStar_c1 ir46 [.bor, .bor]
theorem s_slices_ContainsFunc_impl_Star_impl_Star__impl_hasStar_c1 : Sound Tryz.prog 46 c_slices_ContainsFunc_impl_Star_impl_Star__impl_hasStar_c1 := mkF_sound _ rfl (snd_cons s_slices_IndexFunc_impl_Star_impl_Star__impl_hasStar_c1 snd_nil) (by kernel_rfl : chkFn Tryz.prog 46 ir46 ir46_v = true)
theorem M_slices_ContainsFunc_impl_Star_impl_Star__impl_hasStar_c1 : c_slices_ContainsFunc_impl_Star_impl_Star__impl_hasStar_c1.modes = [.bor, .bor] := rfl
theorem Fl_slices_ContainsFunc_impl_Star_impl_Star__impl_hasStar_c1 : c_slices_ContainsFunc_impl_Star_impl_Star__impl_hasStar_c1.flat = true := rfl
attribute [go_sem] M_slices_ContainsFunc_impl_Star_impl_Star__impl_hasStar_c1 Fl_slices_ContainsFunc_impl_Star_impl_Star__impl_hasStar_c1
attribute [go_sem] lk_slices_ContainsFunc_impl_Star_impl_Star__impl_hasStar_c1_63
theorem Fs_slices_ContainsFunc_impl_Star_impl_Star__impl_hasStar_c1 {s_ : List Star} {f_c0 : List UInt8} {y_ : Bool} (h : slices_ContainsFunc_impl_Star_impl_Star__impl_hasStar_c1 s_ f_c0 = some y_) : c_slices_ContainsFunc_impl_Star_impl_Star__impl_hasStar_c1.F [.sl 5 (List.map Star_av s_), .fn (.func 47) [] [.ptr 1 [.str f_c0] 0 0]] = ⟨true, .bool y_, [.any, .any]⟩ := by
  refine mkF_E rfl ?_
  dsimp only [slices_ContainsFunc_impl_Star_impl_Star__impl_hasStar_c1] at h
  obtain ⟨y_1, hk1, h⟩ := bd_some h
  have fhk1 := Fs_slices_IndexFunc_impl_Star_impl_Star__impl_hasStar_c1 hk1
  try simp only [go_sem] at fhk1
  obtain rfl := so_some h
  refine ⟨0, fun L hL => ?_⟩
  simp only [go_sem, ir46, fhk1]


def ir30_v : List Nat := [0, 1, 3, 4]
def ir30 : AFn := ⟨2, 4, .seq (.region false [
    ⟨.var 2, 3, none, .box (.v 1)⟩,
    ⟨.var 3, 4, none, .mov (.c (.bool false))⟩])
 (.seq (.region false [
    ⟨.push, 5, none, .mov (.v 0)⟩,
    ⟨.push, 6, none, .mkFn (.func 47) [] [(.v 2)]⟩,
    ⟨.push, 7, none, .call 46 [(.s 1), (.s 0)]⟩,
    ⟨.var 3, 4, none, .mov (.s 0)⟩])
 (.ret)), [.t 3]⟩
noncomputable def t_impl_hasStar : List (Nat × Ctr) := [(46, c_slices_ContainsFunc_impl_Star_impl_Star__impl_hasStar_c1)]
theorem lk_impl_hasStar_46 : look t_impl_hasStar 46 = some c_slices_ContainsFunc_impl_Star_impl_Star__impl_hasStar_c1 := rfl
noncomputable def c_impl_hasStar : Ctr := mkF t_impl_hasStar ir30 [.bor, .bor]
theorem s_impl_hasStar : Sound Tryz.prog 30 c_impl_hasStar := mkF_sound _ rfl (snd_cons s_slices_ContainsFunc_impl_Star_impl_Star__impl_hasStar_c1 snd_nil) (by kernel_rfl : chkFn Tryz.prog 30 ir30 ir30_v = true)
theorem M_impl_hasStar : c_impl_hasStar.modes = [.bor, .bor] := rfl
theorem Fl_impl_hasStar : c_impl_hasStar.flat = true := rfl
attribute [go_sem] M_impl_hasStar Fl_impl_hasStar
attribute [go_sem] lk_impl_hasStar_46
theorem Fs_impl_hasStar {list : List Star} {name : List UInt8} {y_ : Bool} (h : impl_hasStar list name = some y_) : c_impl_hasStar.F [.sl 5 (List.map Star_av list), .str name] = ⟨true, .bool y_, [.any, .any]⟩ := by
  refine mkF_E rfl ?_
  dsimp only [impl_hasStar] at h
  obtain ⟨y_1, hk1, h⟩ := bd_some h
  have fhk1 := Fs_slices_ContainsFunc_impl_Star_impl_Star__impl_hasStar_c1 hk1
  try simp only [go_sem] at fhk1
  obtain rfl := so_some h
  refine ⟨0, fun L hL => ?_⟩
  simp only [go_sem, ir30, fhk1]


theorem s_hCut : Sound Tryz.prog 78 c_hCut := hCut_is

theorem s_hSplit : Sound Tryz.prog 88 c_hSplit := hSplit_is

theorem s_hRdDec : Sound Tryz.prog 89 c_hRdDec := hRdDec_is

def ir90_v : List Nat := [0, 1, 2]
def ir90 : AFn := ⟨1, 3, .seq (.region false [
    ⟨.var 1, 1, none, .box (.v 0)⟩,
    ⟨.var 2, 2, none, .mov (.c (.bool false))⟩])
 (.seq (.region false [
    ⟨.push, 3, none, .fldAddr 0 (.v 1)⟩,
    ⟨.push, 4, none, .load false 1 (.s 0)⟩,
    ⟨.push, 5, none, .call 56 [(.s 0), (.c (.int .i64 (0))), (.c (.int .i64 (100000)))]⟩,
    ⟨.push, 6, none, .mov (.s 0)⟩,
    ⟨.push, 7, (some ((.s 0), true)), .fldAddr 1 (.v 1)⟩,
    ⟨.push, 8, (some ((.s 1), true)), .load false 1 (.s 0)⟩,
    ⟨.push, 9, (some ((.s 2), true)), .call 57 [(.s 0)]⟩,
    ⟨.push, 10, none, .pick (.s 3) (.s 0) (.c (.bool false))⟩,
    ⟨.push, 11, none, .mov (.s 0)⟩,
    ⟨.push, 12, (some ((.s 0), true)), .fldAddr 2 (.v 1)⟩,
    ⟨.push, 13, (some ((.s 1), true)), .load false 1 (.s 0)⟩,
    ⟨.push, 14, (some ((.s 2), true)), .call 56 [(.s 0), (.c (.int .i64 (-1000000))), (.c (.int .i64 (1000000)))]⟩,
    ⟨.push, 15, none, .pick (.s 3) (.s 0) (.c (.bool false))⟩,
    ⟨.var 2, 2, none, .mov (.s 0)⟩])
 (.ret)), [.t 2]⟩
noncomputable def t_impl_ValidEntry : List (Nat × Ctr) := [(56, c_impl_in), (57, c_impl_IsName)]
theorem lk_impl_ValidEntry_56 : look t_impl_ValidEntry 56 = some c_impl_in := rfl
theorem lk_impl_ValidEntry_57 : look t_impl_ValidEntry 57 = some c_impl_IsName := rfl
noncomputable def c_impl_ValidEntry : Ctr := mkF t_impl_ValidEntry ir90 [.bor]
theorem s_impl_ValidEntry : Sound Tryz.prog 90 c_impl_ValidEntry := mkF_sound _ rfl (snd_cons s_impl_in (snd_cons s_impl_IsName snd_nil)) (by kernel_rfl : chkFn Tryz.prog 90 ir90 ir90_v = true)
theorem M_impl_ValidEntry : c_impl_ValidEntry.modes = [.bor] := rfl
theorem Fl_impl_ValidEntry : c_impl_ValidEntry.flat = true := rfl
attribute [go_sem] M_impl_ValidEntry Fl_impl_ValidEntry
attribute [go_sem] lk_impl_ValidEntry_56 lk_impl_ValidEntry_57
theorem Fs_impl_ValidEntry {e_ : Entry} {y_ : Bool} (h : impl_ValidEntry e_ = some y_) : c_impl_ValidEntry.F [Entry_av e_] = ⟨true, .bool y_, [.any]⟩ := by
  refine mkF_E rfl ?_
  dsimp only [impl_ValidEntry] at h
  obtain ⟨y_1, hk1, h⟩ := bd_some h
  have fhk1 := Fs_impl_in hk1
  try simp only [go_sem] at fhk1
  obtain ⟨hk2, h⟩ := ck_some h
  rcases or_split hk2 with ⟨ghk2, hk2⟩ | ghk2
  · try simp only [go_sem, n1, n2, n3, n4] at ghk2
    all_goals
    obtain ⟨y_2, hhk2⟩ := Option.isSome_iff_exists.1 hk2
    have fhk2 := Fs_impl_IsName hhk2
    try simp only [go_sem, ghk2] at fhk2
    obtain ⟨hk3, h⟩ := ck_some h
    rcases or_split hk3 with ⟨ghk3, hk3⟩ | ghk3
    · try simp only [go_sem, n1, n2, n3, n4, ghk2, hhk2] at ghk3
      all_goals
      obtain ⟨y_3, hhk3⟩ := Option.isSome_iff_exists.1 hk3
      have fhk3 := Fs_impl_in hhk3
      try simp only [go_sem, ghk2, hhk2, ghk3] at fhk3
      obtain rfl := so_some h
      refine ⟨0, fun L hL => ?_⟩
      simp only [go_sem, ir90, fhk1, ghk2, hhk2, fhk2, ghk3, hhk3, fhk3]
    · rcases and_f ghk3 with ghk3a | ⟨ghk3a, ghk3b⟩
      · try simp only [go_sem, n1, n2, n3, n4, ghk2, hhk2] at ghk3a
        all_goals
        obtain rfl := so_some h
        refine ⟨0, fun L hL => ?_⟩
        simp only [go_sem, ir90, fhk1, ghk2, hhk2, fhk2, ghk3a]
      · try simp only [go_sem, n1, n2, n3, n4, ghk2, hhk2] at ghk3a
        all_goals
        try simp only [go_sem, n1, n2, n3, n4, ghk2, hhk2, ghk3a] at ghk3b
        all_goals
        obtain rfl := so_some h
        refine ⟨0, fun L hL => ?_⟩
        simp only [go_sem, ir90, fhk1, ghk2, hhk2, fhk2, ghk3a, ghk3b]
  · try simp only [go_sem, n1, n2, n3, n4] at ghk2
    all_goals
    obtain ⟨hk3, h⟩ := ck_some h
    rcases or_split hk3 with ⟨ghk3, hk3⟩ | ghk3
    · try simp only [go_sem, n1, n2, n3, n4, ghk2] at ghk3
      all_goals
      obtain ⟨y_3, hhk3⟩ := Option.isSome_iff_exists.1 hk3
      have fhk3 := Fs_impl_in hhk3
      try simp only [go_sem, ghk2, ghk3] at fhk3
      obtain rfl := so_some h
      refine ⟨0, fun L hL => ?_⟩
      simp only [go_sem, ir90, fhk1, ghk2, ghk3, hhk3, fhk3]
    · rcases and_f ghk3 with ghk3a | ⟨ghk3a, ghk3b⟩
      · try simp only [go_sem, n1, n2, n3, n4, ghk2] at ghk3a
        all_goals
        obtain rfl := so_some h
        refine ⟨0, fun L hL => ?_⟩
        simp only [go_sem, ir90, fhk1, ghk2, ghk3a]
      · try simp only [go_sem, n1, n2, n3, n4, ghk2] at ghk3a
        all_goals
        try simp only [go_sem, n1, n2, n3, n4, ghk2, ghk3a] at ghk3b
        all_goals
        obtain rfl := so_some h
        refine ⟨0, fun L hL => ?_⟩
        simp only [go_sem, ir90, fhk1, ghk2, ghk3a, ghk3b]


def ir79_v : List Nat := [0, 2, 3, 4, 5, 6, 7, 8, 9, 10, 11, 12]
def ir79 : AFn := ⟨1, 12, .seq (.region false [
    ⟨.var 1, 2, none, .alloc (.agg [.int .i64 (0), .str [], .int .i64 (0)])⟩,
    ⟨.var 2, 3, none, .mov (.c (.int .i64 (0)))⟩,
    ⟨.var 3, 4, none, .mov (.c (.bool false))⟩])
 (.seq (.region false [
    ⟨.push, 13, none, .mov (.v 0)⟩,
    ⟨.push, 14, none, .call 88 [(.s 0), (.c (.str [32]))]⟩,
    ⟨.var 4, 5, none, .mov (.s 0)⟩])
 (.seq (.test false [
    ⟨.push, 15, none, .mov (.v 4)⟩,
    ⟨.push, 16, none, .len false (.s 0)⟩,
    ⟨.push, 17, none, .bin false .neq (.s 0) (.c (.int .i64 (4)))⟩] (.s 0)
  (.seq (.region false [
      ⟨.push, 18, none, .build [.int .i64 (0), .str [], .int .i64 (0)] []⟩,
      ⟨.no, 0, none, .store 3 (.v 1) (.s 0)⟩,
      ⟨.var 2, 3, none, .mov (.c (.int .i64 (0)))⟩,
      ⟨.var 3, 4, none, .mov (.c (.bool false))⟩])
   (.ret))
  (.skip))
 (.seq (.region false [
    ⟨.push, 20, none, .mov (.v 4)⟩,
    ⟨.push, 21, none, .ixAddr 1 (.s 0) (.c (.int .i64 (0)))⟩,
    ⟨.push, 22, none, .load false 1 (.s 0)⟩,
    ⟨.push, 23, none, .call 89 [(.s 0)]⟩,
    ⟨.push, 19, none, .mov (.s 0)⟩,
    ⟨.push, 24, none, .ext (.s 0) 0⟩,
    ⟨.push, 25, none, .ext (.s 1) 1⟩,
    ⟨.var 5, 6, none, .mov (.s 1)⟩,
    ⟨.var 6, 7, none, .mov (.s 0)⟩])
 (.seq (.region false [
    ⟨.push, 27, none, .mov (.v 4)⟩,
    ⟨.push, 28, none, .ixAddr 1 (.s 0) (.c (.int .i64 (2)))⟩,
    ⟨.push, 29, none, .load false 1 (.s 0)⟩,
    ⟨.push, 30, none, .call 89 [(.s 0)]⟩,
    ⟨.push, 26, none, .mov (.s 0)⟩,
    ⟨.push, 31, none, .ext (.s 0) 0⟩,
    ⟨.push, 32, none, .ext (.s 1) 1⟩,
    ⟨.var 7, 8, none, .mov (.s 1)⟩,
    ⟨.var 8, 9, none, .mov (.s 0)⟩])
 (.seq (.region false [
    ⟨.push, 34, none, .mov (.v 4)⟩,
    ⟨.push, 35, none, .ixAddr 1 (.s 0) (.c (.int .i64 (3)))⟩,
    ⟨.push, 36, none, .load false 1 (.s 0)⟩,
    ⟨.push, 37, none, .call 89 [(.s 0)]⟩,
    ⟨.push, 33, none, .mov (.s 0)⟩,
    ⟨.push, 38, none, .ext (.s 0) 0⟩,
    ⟨.push, 39, none, .ext (.s 1) 1⟩,
    ⟨.var 9, 10, none, .mov (.s 1)⟩,
    ⟨.var 10, 11, none, .mov (.s 0)⟩])
 (.seq (.region false [
    ⟨.push, 40, none, .mov (.v 5)⟩,
    ⟨.push, 41, none, .mov (.v 4)⟩,
    ⟨.push, 42, none, .ixAddr 1 (.s 0) (.c (.int .i64 (1)))⟩,
    ⟨.push, 43, none, .load false 1 (.s 0)⟩,
    ⟨.push, 44, none, .mov (.v 7)⟩,
    ⟨.push, 45, none, .build [.int .i64 (0), .str [], .int .i64 (0)] [(0, 1, (.s 4)), (1, 1, (.s 1)), (2, 1, (.s 0))]⟩,
    ⟨.var 11, 12, none, .alloc (.agg [.int .i64 (0), .str [], .int .i64 (0)])⟩,
    ⟨.no, 0, none, .store 3 (.v 11) (.s 0)⟩])
 (.seq (.anyo 13 [
    ⟨.slot 0, 46, none, .load true 3 (.v 11)⟩,
    ⟨.slot 1, 47, none, .mov (.v 9)⟩,
    ⟨.slot 2, 48, none, .mov (.v 6)⟩,
    ⟨.slot 3, 49, none, .mov (.s 2)⟩,
    ⟨.slot 4, 50, (some ((.s 3), true)), .mov (.v 8)⟩,
    ⟨.slot 5, 51, none, .pick (.s 3) (.s 4) (.c (.bool false))⟩,
    ⟨.slot 6, 52, none, .mov (.s 5)⟩,
    ⟨.slot 7, 53, (some ((.s 6), true)), .mov (.v 10)⟩,
    ⟨.slot 8, 54, none, .pick (.s 6) (.s 7) (.c (.bool false))⟩,
    ⟨.slot 9, 55, none, .mov (.s 8)⟩,
    ⟨.slot 10, 56, (some ((.s 9), true)), .load true 3 (.v 11)⟩,
    ⟨.slot 11, 57, (some ((.s 9), true)), .call 90 [(.s 10)]⟩,
    ⟨.slot 12, 58, none, .pick (.s 9) (.s 11) (.c (.bool false))⟩,
    ⟨.no, 0, none, .store 3 (.v 1) (.s 0)⟩,
    ⟨.var 2, 3, none, .mov (.s 1)⟩,
    ⟨.var 3, 4, none, .mov (.s 12)⟩] [[0, 2, 3, 4, 5, 6, 7, 8, 9, 10, 11, 1, 12, 13, 14, 15], [0, 2, 3, 4, 5, 6, 7, 8, 9, 10, 11, 1, 13, 12, 14, 15], [0, 2, 3, 4, 5, 6, 7, 8, 9, 10, 11, 12, 1, 13, 14, 15], [0, 2, 3, 4, 5, 6, 7, 8, 9, 10, 11, 12, 13, 1, 14, 15], [0, 2, 3, 4, 5, 6, 7, 8, 9, 10, 11, 13, 1, 12, 14, 15]] .skip)
 (.ret)))))))), [.cell true 3 1, .t 2, .t 3]⟩
noncomputable def t_impl_readEntry : List (Nat × Ctr) := [(88, c_hSplit), (89, c_hRdDec), (90, c_impl_ValidEntry)]
theorem lk_impl_readEntry_88 : look t_impl_readEntry 88 = some c_hSplit := rfl
theorem lk_impl_readEntry_89 : look t_impl_readEntry 89 = some c_hRdDec := rfl
theorem lk_impl_readEntry_90 : look t_impl_readEntry 90 = some c_impl_ValidEntry := rfl
noncomputable def c_impl_readEntry : Ctr := mkN t_impl_readEntry ir79 [.bor]
theorem s_impl_readEntry : Sound Tryz.prog 79 c_impl_readEntry := mkN_sound _ (snd_cons s_hSplit (snd_cons s_hRdDec (snd_cons s_impl_ValidEntry snd_nil))) (by kernel_rfl : chkFn Tryz.prog 79 ir79 ir79_v = true)
theorem M_impl_readEntry : c_impl_readEntry.modes = [.bor] := rfl
theorem Fl_impl_readEntry : c_impl_readEntry.flat = false := rfl
attribute [go_sem] M_impl_readEntry Fl_impl_readEntry
attribute [go_sem] lk_impl_readEntry_88 lk_impl_readEntry_89 lk_impl_readEntry_90
theorem Fs_impl_readEntry {line : List UInt8} {y_ : Entry × Int × Bool} (h : impl_readEntry line = some y_) : c_impl_readEntry.F [.str line] = ⟨true, .tup [Entry_av y_.1, .int .i64 y_.2.1, .bool y_.2.2], [.any]⟩ := by
  refine mkN_E ?_
  dsimp only [impl_readEntry] at h
  obtain ⟨y_1, hk1, h⟩ := bd_some h
  have fhk1 := Fs_hSplit hk1
  try simp only [go_sem] at fhk1
  rcases it_some h with ⟨hk2, h⟩ | ⟨hk2, h⟩
  · try simp only [go_sem, n1, n2, n3, n4] at hk2
    all_goals
    obtain rfl := so_some h
    refine ⟨0, fun L hL => ?_⟩
    simp only [go_sem, ir79, fhk1, hk2]
  · try simp only [go_sem, n1, n2, n3, n4] at hk2
    all_goals
    obtain ⟨hk3, h⟩ := ck_some h
    have lhk3 := ix_lt hk3
    have xhk3 := getD_mapD AV.str y_1 lhk3
    try simp only [go_sem] at lhk3
    try simp only [go_sem] at xhk3
    try simp only [go_sem, n1, n2, n3, n4, hk2] at hk3
    all_goals
    obtain ⟨y_4, hk4, h⟩ := bd_some h
    have fhk4 := Fs_hRdDec hk4
    try simp only [go_sem, hk2, hk3] at fhk4
    obtain ⟨hk5, h⟩ := ck_some h
    have lhk5 := ix_lt hk5
    have xhk5 := getD_mapD AV.str y_1 lhk5
    try simp only [go_sem] at lhk5
    try simp only [go_sem] at xhk5
    try simp only [go_sem, n1, n2, n3, n4, hk2, hk3] at hk5
    all_goals
    obtain ⟨y_6, hk6, h⟩ := bd_some h
    have fhk6 := Fs_hRdDec hk6
    try simp only [go_sem, hk2, hk3, hk5] at fhk6
    obtain ⟨hk7, h⟩ := ck_some h
    have lhk7 := ix_lt hk7
    have xhk7 := getD_mapD AV.str y_1 lhk7
    try simp only [go_sem] at lhk7
    try simp only [go_sem] at xhk7
    try simp only [go_sem, n1, n2, n3, n4, hk2, hk3, hk5] at hk7
    all_goals
    obtain ⟨y_8, hk8, h⟩ := bd_some h
    have fhk8 := Fs_hRdDec hk8
    try simp only [go_sem, hk2, hk3, hk5, hk7] at fhk8
    obtain ⟨hk9, h⟩ := ck_some h
    have lhk9 := ix_lt hk9
    have xhk9 := getD_mapD AV.str y_1 lhk9
    try simp only [go_sem] at lhk9
    try simp only [go_sem] at xhk9
    try simp only [go_sem, n1, n2, n3, n4, hk2, hk3, hk5, hk7] at hk9
    all_goals
    obtain ⟨hk10, h⟩ := ck_some h
    rcases or_split hk10 with ⟨ghk10, hk10⟩ | ghk10
    · try simp only [go_sem, n1, n2, n3, n4, hk2, hk3, hk5, hk7, hk9] at ghk10
      all_goals
      obtain ⟨y_10, hhk10⟩ := Option.isSome_iff_exists.1 hk10
      have fhk10 := Fs_impl_ValidEntry hhk10
      try simp only [go_sem, hk2, hk3, hk5, hk7, hk9, ghk10] at fhk10
      obtain rfl := so_some h
      refine ⟨0, fun L hL => ?_⟩
      simp only [go_sem, ir79, fhk1, hk2, hk3, lhk3, xhk3, fhk4, hk5, lhk5, xhk5, fhk6, hk7, lhk7, xhk7, fhk8, hk9, lhk9, xhk9, ghk10, hhk10, fhk10]
    · rcases and_f ghk10 with ghk10a | ⟨ghk10a, ghk10b⟩
      · rcases and_f ghk10a with ghk10aa | ⟨ghk10aa, ghk10ab⟩
        · try simp only [go_sem, n1, n2, n3, n4, hk2, hk3, hk5, hk7, hk9] at ghk10aa
          all_goals
          obtain rfl := so_some h
          refine ⟨0, fun L hL => ?_⟩
          simp only [go_sem, ir79, fhk1, hk2, hk3, lhk3, xhk3, fhk4, hk5, lhk5, xhk5, fhk6, hk7, lhk7, xhk7, fhk8, hk9, lhk9, xhk9, ghk10aa]
        · try simp only [go_sem, n1, n2, n3, n4, hk2, hk3, hk5, hk7, hk9] at ghk10aa
          all_goals
          try simp only [go_sem, n1, n2, n3, n4, hk2, hk3, hk5, hk7, hk9, ghk10aa] at ghk10ab
          all_goals
          obtain rfl := so_some h
          refine ⟨0, fun L hL => ?_⟩
          simp only [go_sem, ir79, fhk1, hk2, hk3, lhk3, xhk3, fhk4, hk5, lhk5, xhk5, fhk6, hk7, lhk7, xhk7, fhk8, hk9, lhk9, xhk9, ghk10aa, ghk10ab]
      · obtain ⟨ghk10aa, ghk10ab⟩ := and_t ghk10a
        try simp only [go_sem, n1, n2, n3, n4, hk2, hk3, hk5, hk7, hk9] at ghk10aa
        all_goals
        try simp only [go_sem, n1, n2, n3, n4, hk2, hk3, hk5, hk7, hk9, ghk10aa] at ghk10ab
        all_goals
        try simp only [go_sem, n1, n2, n3, n4, hk2, hk3, hk5, hk7, hk9, ghk10aa, ghk10ab] at ghk10b
        all_goals
        obtain rfl := so_some h
        refine ⟨0, fun L hL => ?_⟩
        simp only [go_sem, ir79, fhk1, hk2, hk3, lhk3, xhk3, fhk4, hk5, lhk5, xhk5, fhk6, hk7, lhk7, xhk7, fhk8, hk9, lhk9, xhk9, ghk10aa, ghk10ab, ghk10b]


theorem s_hFmt : Sound Tryz.prog 65 c_hFmt := hFmt_is

def ir49_v : List Nat := [0, 1, 4]
def ir49 : AFn := ⟨2, 3, .seq (.region false [
    ⟨.var 2, 4, none, .mov (.c (.str []))⟩])
 (.seq (.region false [
    ⟨.push, 5, none, .mov (.v 0)⟩,
    ⟨.push, 6, none, .mov (.v 1)⟩,
    ⟨.push, 7, none, .call 65 [(.s 1), (.s 0)]⟩,
    ⟨.var 2, 4, none, .mov (.s 0)⟩])
 (.ret)), [.t 2]⟩
noncomputable def t_strconv_FormatInt : List (Nat × Ctr) := [(65, c_hFmt)]
theorem lk_strconv_FormatInt_65 : look t_strconv_FormatInt 65 = some c_hFmt := rfl
noncomputable def c_strconv_FormatInt : Ctr := mkF t_strconv_FormatInt ir49 [.bor, .bor]
theorem s_strconv_FormatInt : Sound Tryz.prog 49 c_strconv_FormatInt := mkF_sound _ rfl (snd_cons s_hFmt snd_nil) (by kernel_rfl : chkFn Tryz.prog 49 ir49 ir49_v = true)
theorem M_strconv_FormatInt : c_strconv_FormatInt.modes = [.bor, .bor] := rfl
theorem Fl_strconv_FormatInt : c_strconv_FormatInt.flat = true := rfl
attribute [go_sem] M_strconv_FormatInt Fl_strconv_FormatInt
attribute [go_sem] lk_strconv_FormatInt_65
theorem Fs_strconv_FormatInt {i : Int} {base : Int} {y_ : (List UInt8)} (h : strconv_FormatInt i base = some y_) : c_strconv_FormatInt.F [.int .i64 i, .int .i64 base] = ⟨true, .str y_, [.any, .any]⟩ := by
  refine mkF_E rfl ?_
  dsimp only [strconv_FormatInt] at h
  obtain ⟨y_1, hk1, h⟩ := bd_some h
  have fhk1 := Fs_hFmt hk1
  try simp only [go_sem] at fhk1
  obtain rfl := so_some h
  refine ⟨0, fun L hL => ?_⟩
  simp only [go_sem, ir49, fhk1]


def ir32_v : List Nat := [0, 2]
def ir32 : AFn := ⟨1, 2, .seq (.region false [
    ⟨.var 1, 2, none, .mov (.c (.str []))⟩])
 (.seq (.region false [
    ⟨.push, 3, none, .mov (.v 0)⟩,
    ⟨.push, 4, none, .call 49 [(.s 0), (.c (.int .i64 (10)))]⟩,
    ⟨.var 1, 2, none, .mov (.s 0)⟩])
 (.ret)), [.t 1]⟩
noncomputable def t_impl_Decimal : List (Nat × Ctr) := [(49, c_strconv_FormatInt)]
theorem lk_impl_Decimal_49 : look t_impl_Decimal 49 = some c_strconv_FormatInt := rfl
noncomputable def c_impl_Decimal : Ctr := mkF t_impl_Decimal ir32 [.bor]
theorem s_impl_Decimal : Sound Tryz.prog 32 c_impl_Decimal := mkF_sound _ rfl (snd_cons s_strconv_FormatInt snd_nil) (by kernel_rfl : chkFn Tryz.prog 32 ir32 ir32_v = true)
theorem M_impl_Decimal : c_impl_Decimal.modes = [.bor] := rfl
theorem Fl_impl_Decimal : c_impl_Decimal.flat = true := rfl
attribute [go_sem] M_impl_Decimal Fl_impl_Decimal
attribute [go_sem] lk_impl_Decimal_49
theorem Fs_impl_Decimal {n : Int} {y_ : (List UInt8)} (h : impl_Decimal n = some y_) : c_impl_Decimal.F [.int .i64 n] = ⟨true, .str y_, [.any]⟩ := by
  refine mkF_E rfl ?_
  dsimp only [impl_Decimal] at h
  obtain ⟨y_1, hk1, h⟩ := bd_some h
  have fhk1 := Fs_strconv_FormatInt hk1
  try simp only [go_sem] at fhk1
  obtain rfl := so_some h
  refine ⟨0, fun L hL => ?_⟩
  simp only [go_sem, ir32, fhk1]


def ir91_v : List Nat := [0, 1, 2]
def ir91 : AFn := ⟨1, 3, .seq (.region false [
    ⟨.var 1, 1, none, .box (.v 0)⟩,
    ⟨.var 2, 2, none, .mov (.c (.str []))⟩])
 (.seq (.anyo 12 [
    ⟨.slot 0, 3, none, .fldAddr 0 (.v 1)⟩,
    ⟨.slot 1, 4, none, .load false 1 (.s 0)⟩,
    ⟨.slot 2, 5, none, .callp 32 [(.s 1)]⟩,
    ⟨.slot 3, 6, none, .bin false .add (.s 2) (.c (.str [32]))⟩,
    ⟨.slot 4, 7, none, .fldAddr 1 (.v 1)⟩,
    ⟨.slot 5, 8, none, .load false 1 (.s 4)⟩,
    ⟨.slot 6, 9, none, .bin false .add (.s 3) (.s 5)⟩,
    ⟨.slot 7, 10, none, .bin false .add (.s 6) (.c (.str [32]))⟩,
    ⟨.slot 8, 11, none, .fldAddr 2 (.v 1)⟩,
    ⟨.slot 9, 12, none, .load false 1 (.s 8)⟩,
    ⟨.slot 10, 13, none, .callp 32 [(.s 9)]⟩,
    ⟨.slot 11, 14, none, .bin false .add (.s 7) (.s 10)⟩,
    ⟨.var 2, 2, none, .mov (.s 11)⟩] [] .skip)
 (.ret)), [.t 2]⟩
noncomputable def t_impl_Entry_words : List (Nat × Ctr) := [(32, c_impl_Decimal)]
theorem lk_impl_Entry_words_32 : look t_impl_Entry_words 32 = some c_impl_Decimal := rfl
noncomputable def c_impl_Entry_words : Ctr := mkF t_impl_Entry_words ir91 [.bor]
theorem s_impl_Entry_words : Sound Tryz.prog 91 c_impl_Entry_words := mkF_sound _ rfl (snd_cons s_impl_Decimal snd_nil) (by kernel_rfl : chkFn Tryz.prog 91 ir91 ir91_v = true)
theorem M_impl_Entry_words : c_impl_Entry_words.modes = [.bor] := rfl
theorem Fl_impl_Entry_words : c_impl_Entry_words.flat = true := rfl
attribute [go_sem] M_impl_Entry_words Fl_impl_Entry_words
attribute [go_sem] lk_impl_Entry_words_32
theorem Fs_impl_Entry_words {e_ : Entry} {y_ : (List UInt8)} (h : impl_Entry_words e_ = some y_) : c_impl_Entry_words.F [Entry_av e_] = ⟨true, .str y_, [.any]⟩ := by
  refine mkF_E rfl ?_
  dsimp only [impl_Entry_words] at h
  obtain ⟨y_1, hk1, h⟩ := bd_some h
  have fhk1 := Fs_impl_Decimal hk1
  try simp only [go_sem] at fhk1
  obtain ⟨hk2, h⟩ := ck_some h
  try simp only [go_sem, n1, n2, n3, n4] at hk2
  all_goals
  obtain ⟨hk3, h⟩ := ck_some h
  try simp only [go_sem, n1, n2, n3, n4, hk2] at hk3
  all_goals
  obtain ⟨hk4, h⟩ := ck_some h
  try simp only [go_sem, n1, n2, n3, n4, hk2, hk3] at hk4
  all_goals
  obtain ⟨y_5, hk5, h⟩ := bd_some h
  have fhk5 := Fs_impl_Decimal hk5
  try simp only [go_sem, hk2, hk3, hk4] at fhk5
  obtain ⟨hk6, h⟩ := ck_some h
  try simp only [go_sem, n1, n2, n3, n4, hk2, hk3, hk4] at hk6
  all_goals
  obtain rfl := so_some h
  refine ⟨0, fun L hL => ?_⟩
  simp only [go_sem, ir91, fhk1, hk2, hk3, hk4, fhk5, hk6]


def ir80_b0 : IR := .seq (.region false [
    ⟨.var 9, 16, none, .bin false .lss (.v 8) (.v 7)⟩])
 (.seq (.cond (.v 9) (.skip)
  (.exit 0))
 (.seq (.block 1 (.seq (.region false [
      ⟨.push, 17, none, .mov (.v 8)⟩,
      ⟨.var 6, 7, none, .mov (.s 0)⟩])
   (.region false [
     ⟨.push, 18, none, .mov (.v 4)⟩,
     ⟨.push, 19, none, .bin false .mul (.c (.int .i64 (31))) (.s 0)⟩,
     ⟨.push, 20, none, .mov (.v 5)⟩,
     ⟨.push, 21, none, .mov (.v 6)⟩,
     ⟨.push, 22, none, .ixStr (.s 1) (.s 0)⟩,
     ⟨.push, 23, none, .conv .i64 (.s 0)⟩,
     ⟨.push, 24, none, .bin false .add (.s 4) (.s 0)⟩,
     ⟨.push, 25, none, .bin false .rem (.s 0) (.c (.int .i64 (65521)))⟩,
     ⟨.var 4, 5, none, .mov (.s 0)⟩])))
 (.region false [
   ⟨.push, 26, none, .bin false .add (.v 8) (.c (.int .i64 (1)))⟩,
   ⟨.var 8, 15, none, .mov (.s 0)⟩])))
def ir80_k0 : List Bool := [false, false, false, false, true, true, false, true, true, false]
def ir80_o0 : List Bool := [false, false, false, false, true, false, false, false, false, false]
def ir80_r0 : List Bool := [false, false, false, true, false, false, false, false, false, false]
def ir80_v : List Nat := [0, 1, 3, 4, 5, 6, 7, 14, 15, 16]
def ir80 : AFn := ⟨2, 10, .seq (.region false [
    ⟨.var 2, 3, none, .box (.v 1)⟩,
    ⟨.var 3, 4, none, .mov (.c (.int .i64 (0)))⟩])
 (.seq (.region false [
    ⟨.push, 8, none, .mov (.v 0)⟩,
    ⟨.push, 9, none, .bin false .add (.s 0) (.c (.int .i64 (23)))⟩,
    ⟨.push, 10, none, .bin false .rem (.s 0) (.c (.int .i64 (65521)))⟩,
    ⟨.push, 11, none, .load true 3 (.v 2)⟩,
    ⟨.push, 12, none, .call 91 [(.s 0)]⟩,
    ⟨.var 4, 5, none, .mov (.s 2)⟩,
    ⟨.var 5, 6, none, .mov (.s 0)⟩])
 (.seq (.seq (.region false [
     ⟨.push, 13, none, .mov (.v 5)⟩,
     ⟨.var 7, 14, none, .len true (.s 0)⟩,
     ⟨.var 8, 15, none, .mov (.c (.int .i64 (0)))⟩])
  (.block 0 (.loop ir80_k0 ir80_o0 ir80_r0 ir80_b0)))
 (.seq (.region false [
    ⟨.push, 27, none, .mov (.v 4)⟩,
    ⟨.var 3, 4, none, .mov (.s 0)⟩])
 (.ret)))), [.t 3]⟩
noncomputable def t_impl_stamp : List (Nat × Ctr) := [(91, c_impl_Entry_words)]
theorem lk_impl_stamp_91 : look t_impl_stamp 91 = some c_impl_Entry_words := rfl
noncomputable def c_impl_stamp : Ctr := mkF t_impl_stamp ir80 [.bor, .bor]
theorem s_impl_stamp : Sound Tryz.prog 80 c_impl_stamp := mkF_sound _ rfl (snd_cons s_impl_Entry_words snd_nil) (by kernel_rfl : chkFn Tryz.prog 80 ir80 ir80_v = true)
theorem M_impl_stamp : c_impl_stamp.modes = [.bor, .bor] := rfl
theorem Fl_impl_stamp : c_impl_stamp.flat = true := rfl
attribute [go_sem] M_impl_stamp Fl_impl_stamp
attribute [go_sem] lk_impl_stamp_91
def E_impl_stamp_l1 (words : List UInt8) (t14 : Int) : (Int × Int) → St
  | (sum, t15) => ⟨[.any, .any, .any, .any, .int .i64 sum, .str words, .any, .int .i64 t14, .int .i64 t15, .any], [], [], true⟩
def R_impl_stamp_l1 (words : List UInt8) (t14 : Int) (y : Int) : Res := (.exit 0, ⟨[.any, .any, .any, .any, .int .i64 y, .any, .any, .any, .any, .any], [], [], true⟩)
theorem impl_stamp_l1_ex {words : List UInt8} {t14 : Int} {sgm_ : Int × Int} {rho_ : Int} (h : whileE (impl_stamp_l1 words t14) sgm_ = some rho_) : ∃ L0, ∀ L, L0 ≤ L → iter (exec (look t_impl_stamp) L ir80_b0) ir80_k0 ir80_o0 ir80_r0 L (E_impl_stamp_l1 words t14 sgm_) = R_impl_stamp_l1 words t14 rho_ := by
  refine loop_ex (E := E_impl_stamp_l1 words t14) (R := R_impl_stamp_l1 words t14) (fun y => by first | (intro c; cases c) | (rcases y with y | y <;> (intro c; cases c)) | (rcases y with y | y | y <;> (intro c; cases c))) ?_ h
  clear h
  rintro ⟨sum, t15⟩ o_ h
  dsimp only [impl_stamp_l1] at h
  rcases it_some h with ⟨hk3, h⟩ | ⟨hk3, h⟩
  · try simp only [go_sem, n1, n2, n3, n4] at hk3
    all_goals
    obtain ⟨hk4, h⟩ := ck_some h
    try simp only [go_sem, n1, n2, n3, n4, hk3] at hk4
    all_goals
    obtain ⟨hk5, h⟩ := ck_some h
    try simp only [go_sem, n1, n2, n3, n4, hk3, hk4] at hk5
    all_goals
    obtain rfl := so_some h
    refine ⟨0, fun L hL => ?_⟩
    simp only [go_sem, ir80, E_impl_stamp_l1, R_impl_stamp_l1, ir80_b0, ir80_k0, ir80_o0, ir80_r0, hk3, hk4, hk5]
  · try simp only [go_sem, n1, n2, n3, n4] at hk3
    all_goals
    obtain rfl := so_some h
    refine ⟨0, fun L hL => ?_⟩
    simp only [go_sem, ir80, E_impl_stamp_l1, R_impl_stamp_l1, ir80_b0, ir80_k0, ir80_o0, ir80_r0, hk3]

theorem Fs_impl_stamp {before : Int} {e_ : Entry} {y_ : Int} (h : impl_stamp before e_ = some y_) : c_impl_stamp.F [.int .i64 before, Entry_av e_] = ⟨true, .int .i64 y_, [.any, .any]⟩ := by
  refine mkF_E rfl ?_
  dsimp only [impl_stamp] at h
  obtain ⟨hk1, h⟩ := ck_some h
  try simp only [go_sem, n1, n2, n3, n4] at hk1
  all_goals
  obtain ⟨y_2, hk2, h⟩ := bd_some h
  have fhk2 := Fs_impl_Entry_words hk2
  try simp only [go_sem, hk1] at fhk2
  obtain ⟨y_6, hk6, h⟩ := bd_some h
  obtain ⟨Lhk6, ehk6⟩ := impl_stamp_l1_ex hk6
  obtain rfl := so_some h
  refine ⟨Lhk6, fun L hL => ?_⟩
  have ehk6 := ehk6 L (by omega)
  try simp only [go_sem, E_impl_stamp_l1, R_impl_stamp_l1, ir80_k0, ir80_o0, ir80_r0, hk1] at ehk6
  simp only [go_sem, ir80, E_impl_stamp_l1, R_impl_stamp_l1, ir80_k0, ir80_o0, ir80_r0, hk1, fhk2, ehk6]


def ir64_b0 : IR := .block 1 (.seq (.region false [
     ⟨.push, 17, none, .mov (.v 0)⟩,
     ⟨.push, 18, none, .mov (.v 5)⟩,
     ⟨.push, 19, none, .slice 0 (.s 1) (some (.s 0)) none⟩,
     ⟨.push, 20, none, .call 78 [(.s 0), (.c (.str [10]))]⟩,
     ⟨.push, 16, none, .mov (.s 0)⟩,
     ⟨.push, 21, none, .ext (.s 0) 0⟩,
     ⟨.push, 22, none, .ext (.s 1) 1⟩,
     ⟨.push, 23, none, .ext (.s 2) 2⟩,
     ⟨.var 8, 9, none, .mov (.s 2)⟩,
     ⟨.push, 10, none, .mov (.s 1)⟩,
     ⟨.var 9, 11, none, .mov (.s 1)⟩])
  (.seq (.region false [
     ⟨.push, 25, none, .mov (.v 8)⟩,
     ⟨.push, 26, none, .call 79 [(.s 0)]⟩,
     ⟨.push, 24, none, .mov (.s 0)⟩,
     ⟨.push, 27, none, .ext (.s 0) 0⟩,
     ⟨.push, 28, none, .ext (.s 1) 1⟩,
     ⟨.push, 29, none, .ext (.s 2) 2⟩,
     ⟨.var 10, 12, none, .alloc (.agg [.int .i64 (0), .str [], .int .i64 (0)])⟩,
     ⟨.no, 0, none, .store 3 (.v 10) (.s 2)⟩,
     ⟨.var 11, 13, none, .mov (.s 1)⟩,
     ⟨.var 12, 14, none, .mov (.s 0)⟩])
  (.seq (.test false [
     ⟨.push, 30, none, .mov (.v 9)⟩,
     ⟨.push, 31, none, .un .not (.s 0)⟩,
     ⟨.push, 32, none, .mov (.s 0)⟩,
     ⟨.push, 33, (some ((.s 0), false)), .mov (.v 12)⟩,
     ⟨.push, 34, (some ((.s 1), false)), .un .not (.s 0)⟩,
     ⟨.push, 35, none, .pick (.s 2) (.c (.bool true)) (.s 0)⟩,
     ⟨.push, 36, none, .mov (.s 0)⟩,
     ⟨.push, 37, (some ((.s 0), false)), .fldAddr 0 (.v 10)⟩,
     ⟨.push, 38, (some ((.s 1), false)), .load false 1 (.s 0)⟩,
     ⟨.push, 39, (some ((.s 2), false)), .mov (.v 7)⟩,
     ⟨.push, 40, (some ((.s 3), false)), .bin false .lss (.s 1) (.s 0)⟩,
     ⟨.push, 41, none, .pick (.s 4) (.c (.bool true)) (.s 0)⟩,
     ⟨.push, 42, none, .mov (.s 0)⟩,
     ⟨.push, 43, (some ((.s 0), false)), .mov (.v 11)⟩,
     ⟨.push, 44, (some ((.s 1), false)), .mov (.v 6)⟩,
     ⟨.push, 45, (some ((.s 2), false)), .load true 3 (.v 10)⟩,
     ⟨.push, 46, (some ((.s 3), false)), .call 80 [(.s 1), (.s 0)]⟩,
     ⟨.push, 47, (some ((.s 4), false)), .bin false .neq (.s 3) (.s 0)⟩,
     ⟨.push, 48, none, .pick (.s 5) (.c (.bool true)) (.s 0)⟩] (.s 0)
   (.seq (.region false [
       ⟨.push, 49, none, .mov (.v 4)⟩,
       ⟨.push, 50, none, .mov (.v 5)⟩,
       ⟨.push, 51, none, .mov (.v 6)⟩,
       ⟨.var 1, 2, none, .mov (.s 2)⟩,
       ⟨.var 2, 3, none, .mov (.s 1)⟩,
       ⟨.var 3, 4, none, .mov (.s 0)⟩])
    (.ret))
   (.skip))
  (.seq (.region false [
     ⟨.push, 52, none, .mov (.v 4)⟩,
     ⟨.push, 53, none, .load true 3 (.v 10)⟩,
     ⟨.push, 54, none, .mkSl 3 (.agg [.int .i64 (0), .str [], .int .i64 (0)]) 1 [(0, (.s 0))]⟩,
     ⟨.push, 55, none, .app 3 32 (.agg [.int .i64 (0), .str [], .int .i64 (0)]) (.s 2) (.s 0)⟩,
     ⟨.var 4, 5, none, .mov (.s 0)⟩])
  (.seq (.region false [
     ⟨.push, 56, none, .mov (.v 5)⟩,
     ⟨.push, 57, none, .mov (.v 8)⟩,
     ⟨.push, 58, none, .len true (.s 0)⟩,
     ⟨.push, 59, none, .bin false .add (.s 0) (.c (.int .i64 (1)))⟩,
     ⟨.push, 60, none, .bin false .add (.s 3) (.s 0)⟩,
     ⟨.var 5, 6, none, .mov (.s 0)⟩])
  (.anyo 3 [
    ⟨.slot 0, 61, none, .mov (.v 11)⟩,
    ⟨.slot 1, 62, none, .fldAddr 0 (.v 10)⟩,
    ⟨.slot 2, 63, none, .load false 1 (.s 1)⟩,
    ⟨.var 6, 7, none, .mov (.s 0)⟩,
    ⟨.var 7, 8, none, .mov (.s 2)⟩] [] .skip))))))
def ir64_k0 : List Bool := [true, false, false, false, true, true, true, true, false, false, false, false, false]
def ir64_o0 : List Bool := [false, false, false, false, false, false, false, false, false, false, false, false, false]
def ir64_r0 : List Bool := [false, true, true, true, false, false, false, false, false, false, false, false, false]
def ir64_v : List Nat := [0, 2, 3, 4, 5, 6, 7, 8, 9, 11, 12, 13, 14]
def ir64 : AFn := ⟨1, 13, .seq (.region false [
    ⟨.var 1, 2, none, .newnil 3⟩,
    ⟨.var 2, 3, none, .mov (.c (.int .i64 (0)))⟩,
    ⟨.var 3, 4, none, .mov (.c (.int .i64 (0)))⟩])
 (.seq (.region false [
    ⟨.push, 15, none, .mkSl 3 (.agg [.int .i64 (0), .str [], .int .i64 (0)]) 0 []⟩,
    ⟨.var 4, 5, none, .mov (.s 0)⟩,
    ⟨.var 5, 6, none, .mov (.c (.int .i64 (0)))⟩,
    ⟨.var 6, 7, none, .mov (.c (.int .i64 (0)))⟩,
    ⟨.var 7, 8, none, .mov (.c (.int .i64 (0)))⟩])
 (.block 0 (.loop ir64_k0 ir64_o0 ir64_r0 ir64_b0))), [.t 1, .t 2, .t 3]⟩
noncomputable def t_impl_readLog : List (Nat × Ctr) := [(78, c_hCut), (79, c_impl_readEntry), (80, c_impl_stamp)]
theorem lk_impl_readLog_78 : look t_impl_readLog 78 = some c_hCut := rfl
theorem lk_impl_readLog_79 : look t_impl_readLog 79 = some c_impl_readEntry := rfl
theorem lk_impl_readLog_80 : look t_impl_readLog 80 = some c_impl_stamp := rfl
noncomputable def c_impl_readLog : Ctr := mkF t_impl_readLog ir64 [.bor]
theorem s_impl_readLog : Sound Tryz.prog 64 c_impl_readLog := mkF_sound _ rfl (snd_cons s_hCut (snd_cons s_impl_readEntry (snd_cons s_impl_stamp snd_nil))) (by kernel_rfl : chkFn Tryz.prog 64 ir64 ir64_v = true)
theorem M_impl_readLog : c_impl_readLog.modes = [.bor] := rfl
theorem Fl_impl_readLog : c_impl_readLog.flat = true := rfl
attribute [go_sem] M_impl_readLog Fl_impl_readLog
attribute [go_sem] lk_impl_readLog_78 lk_impl_readLog_79 lk_impl_readLog_80
def E_impl_readLog_l1 (log : List UInt8) : ((List Entry) × Int × Int × Int) → St
  | (entries, used, last, day) => ⟨[.str log, .any, .any, .any, .own 3200000, .int .i64 used, .int .i64 last, .int .i64 day, .any, .any, .any, .any, .any], [], [(3200000, ⟨3, List.map Entry_av entries⟩)], true⟩
def R_impl_readLog_l1 (log : List UInt8) (y : (List Entry) × Int × Int) : Res := (.ret, ⟨[.any, .own 3200000, .int .i64 y.2.1, .int .i64 y.2.2, .any, .any, .any, .any, .any, .any, .any, .any, .any], [], [(3200000, ⟨3, List.map Entry_av y.1⟩)], true⟩)
theorem impl_readLog_l1_ex {log : List UInt8} {sgm_ : (List Entry) × Int × Int × Int} {rho_ : (List Entry) × Int × Int} (h : whileE (impl_readLog_l1 log) sgm_ = some rho_) : ∃ L0, ∀ L, L0 ≤ L → iter (exec (look t_impl_readLog) L ir64_b0) ir64_k0 ir64_o0 ir64_r0 L (E_impl_readLog_l1 log sgm_) = R_impl_readLog_l1 log rho_ := by
  refine loop_ex (E := E_impl_readLog_l1 log) (R := R_impl_readLog_l1 log) (fun y => by first | (intro c; cases c) | (rcases y with y | y <;> (intro c; cases c)) | (rcases y with y | y | y <;> (intro c; cases c))) ?_ h
  clear h
  rintro ⟨entries, used, last, day⟩ o_ h
  dsimp only [impl_readLog_l1] at h
  obtain ⟨hk1, h⟩ := ck_some h
  try simp only [go_sem, n1, n2, n3, n4] at hk1
  all_goals
  obtain ⟨y_2, hk2, h⟩ := bd_some h
  have fhk2 := Fs_hCut hk2
  try simp only [go_sem, hk1] at fhk2
  obtain ⟨y_3, hk3, h⟩ := bd_some h
  have fhk3 := Fs_impl_readEntry hk3
  try simp only [go_sem, hk1] at fhk3
  obtain ⟨hk4, h⟩ := ck_some h
  rcases or_split hk4 with ⟨ghk4, hk4⟩ | ghk4
  · try simp only [go_sem, n1, n2, n3, n4, hk1] at ghk4
    all_goals
    obtain ⟨y_4, hhk4⟩ := Option.isSome_iff_exists.1 hk4
    have fhk4 := Fs_impl_stamp hhk4
    try simp only [go_sem, hk1, ghk4] at fhk4
    rcases it_some h with ⟨hk5, h⟩ | ⟨hk5, h⟩
    · try simp only [go_sem, n1, n2, n3, n4, hk1, ghk4, hhk4] at hk5
      all_goals
      obtain rfl := so_some h
      refine ⟨0, fun L hL => ?_⟩
      simp only [go_sem, ir64, E_impl_readLog_l1, R_impl_readLog_l1, ir64_b0, ir64_k0, ir64_o0, ir64_r0, hk1, fhk2, fhk3, ghk4, hhk4, fhk4, hk5]
    · try simp only [go_sem, n1, n2, n3, n4, hk1, ghk4, hhk4] at hk5
      all_goals
      obtain ⟨hk6, h⟩ := ck_some h
      try simp only [go_sem, n1, n2, n3, n4, hk1, ghk4, hhk4, hk5] at hk6
      all_goals
      obtain rfl := so_some h
      refine ⟨0, fun L hL => ?_⟩
      simp only [go_sem, ir64, E_impl_readLog_l1, R_impl_readLog_l1, ir64_b0, ir64_k0, ir64_o0, ir64_r0, hk1, fhk2, fhk3, ghk4, hhk4, fhk4, hk5, hk6]
  · have ghk4n := no_f ghk4
    rcases or_t ghk4n with ghk4na | ⟨ghk4na, ghk4nb⟩
    · rcases or_t ghk4na with ghk4naa | ⟨ghk4naa, ghk4nab⟩
      · have ghk4naan := no_t ghk4naa
        try simp only [go_sem, n1, n2, n3, n4, hk1] at ghk4naan
        all_goals
        rcases it_some h with ⟨hk5, h⟩ | ⟨hk5, h⟩
        · try simp only [go_sem, n1, n2, n3, n4, hk1, ghk4naan] at hk5
          all_goals
          obtain rfl := so_some h
          refine ⟨0, fun L hL => ?_⟩
          simp only [go_sem, ir64, E_impl_readLog_l1, R_impl_readLog_l1, ir64_b0, ir64_k0, ir64_o0, ir64_r0, hk1, fhk2, fhk3, ghk4naan, hk5]
        · try simp only [go_sem, n1, n2, n3, n4, hk1, ghk4naan] at hk5
          all_goals
          obtain ⟨hk6, h⟩ := ck_some h
          try simp only [go_sem, n1, n2, n3, n4, hk1, ghk4naan, hk5] at hk6
          all_goals
          obtain rfl := so_some h
          refine ⟨0, fun L hL => ?_⟩
          simp only [go_sem, ir64, E_impl_readLog_l1, R_impl_readLog_l1, ir64_b0, ir64_k0, ir64_o0, ir64_r0, hk1, fhk2, fhk3, ghk4naan, hk5, hk6]
      · have ghk4naan := no_f ghk4naa
        have ghk4nabn := no_t ghk4nab
        try simp only [go_sem, n1, n2, n3, n4, hk1] at ghk4naan
        all_goals
        try simp only [go_sem, n1, n2, n3, n4, hk1, ghk4naan] at ghk4nabn
        all_goals
        rcases it_some h with ⟨hk5, h⟩ | ⟨hk5, h⟩
        · try simp only [go_sem, n1, n2, n3, n4, hk1, ghk4naan, ghk4nabn] at hk5
          all_goals
          obtain rfl := so_some h
          refine ⟨0, fun L hL => ?_⟩
          simp only [go_sem, ir64, E_impl_readLog_l1, R_impl_readLog_l1, ir64_b0, ir64_k0, ir64_o0, ir64_r0, hk1, fhk2, fhk3, ghk4naan, ghk4nabn, hk5]
        · try simp only [go_sem, n1, n2, n3, n4, hk1, ghk4naan, ghk4nabn] at hk5
          all_goals
          obtain ⟨hk6, h⟩ := ck_some h
          try simp only [go_sem, n1, n2, n3, n4, hk1, ghk4naan, ghk4nabn, hk5] at hk6
          all_goals
          obtain rfl := so_some h
          refine ⟨0, fun L hL => ?_⟩
          simp only [go_sem, ir64, E_impl_readLog_l1, R_impl_readLog_l1, ir64_b0, ir64_k0, ir64_o0, ir64_r0, hk1, fhk2, fhk3, ghk4naan, ghk4nabn, hk5, hk6]
    · obtain ⟨ghk4naa, ghk4nab⟩ := or_f ghk4na
      have ghk4naan := no_f ghk4naa
      have ghk4nabn := no_f ghk4nab
      try simp only [go_sem, n1, n2, n3, n4, hk1] at ghk4naan
      all_goals
      try simp only [go_sem, n1, n2, n3, n4, hk1, ghk4naan] at ghk4nabn
      all_goals
      try simp only [go_sem, n1, n2, n3, n4, hk1, ghk4naan, ghk4nabn] at ghk4nb
      all_goals
      rcases it_some h with ⟨hk5, h⟩ | ⟨hk5, h⟩
      · try simp only [go_sem, n1, n2, n3, n4, hk1, ghk4naan, ghk4nabn, ghk4nb] at hk5
        all_goals
        obtain rfl := so_some h
        refine ⟨0, fun L hL => ?_⟩
        simp only [go_sem, ir64, E_impl_readLog_l1, R_impl_readLog_l1, ir64_b0, ir64_k0, ir64_o0, ir64_r0, hk1, fhk2, fhk3, ghk4naan, ghk4nabn, ghk4nb, hk5]
      · try simp only [go_sem, n1, n2, n3, n4, hk1, ghk4naan, ghk4nabn, ghk4nb] at hk5
        all_goals
        obtain ⟨hk6, h⟩ := ck_some h
        try simp only [go_sem, n1, n2, n3, n4, hk1, ghk4naan, ghk4nabn, ghk4nb, hk5] at hk6
        all_goals
        obtain rfl := so_some h
        refine ⟨0, fun L hL => ?_⟩
        simp only [go_sem, ir64, E_impl_readLog_l1, R_impl_readLog_l1, ir64_b0, ir64_k0, ir64_o0, ir64_r0, hk1, fhk2, fhk3, ghk4naan, ghk4nabn, ghk4nb, hk5, hk6]

theorem Fs_impl_readLog {log : List UInt8} {y_ : (List Entry) × Int × Int} (h : impl_readLog log = some y_) : c_impl_readLog.F [.str log] = ⟨true, .tup [.fresh 3 (List.map Entry_av y_.1), .int .i64 y_.2.1, .int .i64 y_.2.2], [.any]⟩ := by
  refine mkF_E (by simp only [flatA, flatB, flat1, List.all_cons, List.all_nil, Bool.and_self, flatE_map (f := Entry_av) (fun _ => rfl)]) ?_
  dsimp only [impl_readLog] at h
  obtain ⟨y_7, hk7, h⟩ := bd_some h
  obtain ⟨Lhk7, ehk7⟩ := impl_readLog_l1_ex hk7
  obtain rfl := so_some h
  refine ⟨Lhk7, fun L hL => ?_⟩
  have ehk7 := ehk7 L (by omega)
  try simp only [go_sem, E_impl_readLog_l1, R_impl_readLog_l1, ir64_k0, ir64_o0, ir64_r0] at ehk7
  simp only [go_sem, ir64, E_impl_readLog_l1, R_impl_readLog_l1, ir64_k0, ir64_o0, ir64_r0, ehk7]


def ir48_v : List Nat := [0, 2, 3, 4, 5, 6, 7]
def ir48 : AFn := ⟨1, 7, .seq (.region false [
    ⟨.var 1, 2, none, .newnil 3⟩,
    ⟨.var 2, 3, none, .mov (.c (.int .i64 (0)))⟩,
    ⟨.var 3, 4, none, .mov (.c (.int .i64 (0)))⟩])
 (.seq (.test false [
    ⟨.push, 8, none, .mov (.v 0)⟩,
    ⟨.push, 9, none, .len true (.s 0)⟩,
    ⟨.push, 10, none, .bin false .gtr (.s 0) (.c (.int .i64 (4000)))⟩] (.s 0)
  (.seq (.region false [
      ⟨.var 1, 2, none, .newnil 3⟩,
      ⟨.var 2, 3, none, .mov (.c (.int .i64 (0)))⟩,
      ⟨.var 3, 4, none, .mov (.c (.int .i64 (5)))⟩])
   (.ret))
  (.skip))
 (.seq (.region false [
    ⟨.push, 12, none, .mov (.v 0)⟩,
    ⟨.push, 13, none, .call 64 [(.s 0)]⟩,
    ⟨.push, 11, none, .mov (.s 0)⟩,
    ⟨.push, 14, none, .ext (.s 0) 0⟩,
    ⟨.push, 15, none, .ext (.s 1) 1⟩,
    ⟨.push, 16, none, .ext (.s 2) 2⟩,
    ⟨.var 4, 5, none, .mov (.s 2)⟩,
    ⟨.var 5, 6, none, .mov (.s 1)⟩,
    ⟨.var 6, 7, none, .mov (.s 0)⟩])
 (.seq (.test false [
    ⟨.push, 17, none, .mov (.v 5)⟩,
    ⟨.push, 18, none, .mov (.v 0)⟩,
    ⟨.push, 19, none, .len true (.s 0)⟩,
    ⟨.push, 20, none, .bin false .lss (.s 2) (.s 0)⟩] (.s 0)
  (.seq (.region false [
      ⟨.var 1, 2, none, .newnil 3⟩,
      ⟨.var 2, 3, none, .mov (.c (.int .i64 (0)))⟩,
      ⟨.var 3, 4, none, .mov (.c (.int .i64 (8)))⟩])
   (.ret))
  (.skip))
 (.seq (.region false [
    ⟨.push, 21, none, .mov (.v 4)⟩,
    ⟨.push, 22, none, .mov (.v 6)⟩,
    ⟨.var 1, 2, none, .mov (.s 1)⟩,
    ⟨.var 2, 3, none, .mov (.s 0)⟩,
    ⟨.var 3, 4, none, .mov (.c (.int .i64 (0)))⟩])
 (.ret))))), [.t 1, .t 2, .t 3]⟩
noncomputable def t_impl_wholeLog : List (Nat × Ctr) := [(64, c_impl_readLog)]
theorem lk_impl_wholeLog_64 : look t_impl_wholeLog 64 = some c_impl_readLog := rfl
noncomputable def c_impl_wholeLog : Ctr := mkF t_impl_wholeLog ir48 [.bor]
theorem s_impl_wholeLog : Sound Tryz.prog 48 c_impl_wholeLog := mkF_sound _ rfl (snd_cons s_impl_readLog snd_nil) (by kernel_rfl : chkFn Tryz.prog 48 ir48 ir48_v = true)
theorem M_impl_wholeLog : c_impl_wholeLog.modes = [.bor] := rfl
theorem Fl_impl_wholeLog : c_impl_wholeLog.flat = true := rfl
attribute [go_sem] M_impl_wholeLog Fl_impl_wholeLog
attribute [go_sem] lk_impl_wholeLog_64
theorem Fs_impl_wholeLog {log : List UInt8} {y_ : (List Entry) × Int × Int} (h : impl_wholeLog log = some y_) : c_impl_wholeLog.F [.str log] = ⟨true, .tup [.fresh 3 (List.map Entry_av y_.1), .int .i64 y_.2.1, .int .i64 y_.2.2], [.any]⟩ := by
  refine mkF_E (by simp only [flatA, flatB, flat1, List.all_cons, List.all_nil, Bool.and_self, flatE_map (f := Entry_av) (fun _ => rfl)]) ?_
  dsimp only [impl_wholeLog] at h
  rcases it_some h with ⟨hk1, h⟩ | ⟨hk1, h⟩
  · try simp only [go_sem, n1, n2, n3, n4] at hk1
    all_goals
    obtain rfl := so_some h
    refine ⟨0, fun L hL => ?_⟩
    simp only [go_sem, ir48, hk1]
  · try simp only [go_sem, n1, n2, n3, n4] at hk1
    all_goals
    obtain ⟨y_2, hk2, h⟩ := bd_some h
    have fhk2 := Fs_impl_readLog hk2
    try simp only [go_sem, hk1] at fhk2
    rcases it_some h with ⟨hk3, h⟩ | ⟨hk3, h⟩
    · try simp only [go_sem, n1, n2, n3, n4, hk1] at hk3
      all_goals
      obtain rfl := so_some h
      refine ⟨0, fun L hL => ?_⟩
      simp only [go_sem, ir48, hk1, fhk2, hk3]
    · try simp only [go_sem, n1, n2, n3, n4, hk1] at hk3
      all_goals
      obtain rfl := so_some h
      refine ⟨0, fun L hL => ?_⟩
      simp only [go_sem, ir48, hk1, fhk2, hk3]


def ir31_v : List Nat := [0, 2, 3, 4, 6]
def ir31 : AFn := ⟨1, 5, .seq (.region false [
    ⟨.var 1, 2, none, .newnil 3⟩,
    ⟨.var 2, 3, none, .mov (.c (.int .i64 (0)))⟩])
 (.seq (.region false [
    ⟨.push, 8, none, .mov (.v 0)⟩,
    ⟨.push, 9, none, .call 48 [(.s 0)]⟩,
    ⟨.push, 7, none, .mov (.s 0)⟩,
    ⟨.push, 10, none, .ext (.s 0) 0⟩,
    ⟨.push, 11, none, .ext (.s 1) 1⟩,
    ⟨.push, 12, none, .ext (.s 2) 2⟩,
    ⟨.var 3, 4, none, .mov (.s 2)⟩,
    ⟨.push, 5, none, .mov (.s 1)⟩,
    ⟨.var 4, 6, none, .mov (.s 1)⟩])
 (.seq (.region false [
    ⟨.push, 13, none, .mov (.v 3)⟩,
    ⟨.push, 14, none, .mov (.v 4)⟩,
    ⟨.var 1, 2, none, .mov (.s 1)⟩,
    ⟨.var 2, 3, none, .mov (.s 0)⟩])
 (.ret))), [.t 1, .t 2]⟩
noncomputable def t_impl_EntriesOf : List (Nat × Ctr) := [(48, c_impl_wholeLog)]
theorem lk_impl_EntriesOf_48 : look t_impl_EntriesOf 48 = some c_impl_wholeLog := rfl
noncomputable def c_impl_EntriesOf : Ctr := mkF t_impl_EntriesOf ir31 [.bor]
theorem s_impl_EntriesOf : Sound Tryz.prog 31 c_impl_EntriesOf := mkF_sound _ rfl (snd_cons s_impl_wholeLog snd_nil) (by kernel_rfl : chkFn Tryz.prog 31 ir31 ir31_v = true)
theorem M_impl_EntriesOf : c_impl_EntriesOf.modes = [.bor] := rfl
theorem Fl_impl_EntriesOf : c_impl_EntriesOf.flat = true := rfl
attribute [go_sem] M_impl_EntriesOf Fl_impl_EntriesOf
attribute [go_sem] lk_impl_EntriesOf_48
theorem Fs_impl_EntriesOf {log : List UInt8} {y_ : (List Entry) × Int} (h : impl_EntriesOf log = some y_) : c_impl_EntriesOf.F [.str log] = ⟨true, .tup [.fresh 3 (List.map Entry_av y_.1), .int .i64 y_.2], [.any]⟩ := by
  refine mkF_E (by simp only [flatA, flatB, flat1, List.all_cons, List.all_nil, Bool.and_self, flatE_map (f := Entry_av) (fun _ => rfl)]) ?_
  dsimp only [impl_EntriesOf] at h
  obtain ⟨y_1, hk1, h⟩ := bd_some h
  have fhk1 := Fs_impl_wholeLog hk1
  try simp only [go_sem] at fhk1
  obtain rfl := so_some h
  refine ⟨0, fun L hL => ?_⟩
  simp only [go_sem, ir31, fhk1]


def ir15_b0 : IR := .seq (.region false [
    ⟨.var 8, 21, none, .bin false .lss (.v 7) (.v 6)⟩])
 (.seq (.cond (.v 8) (.skip)
  (.exit 0))
 (.seq (.block 1 (.seq (.region false [
      ⟨.push, 22, none, .ixAddr 5 (.v 5) (.v 7)⟩,
      ⟨.push, 23, none, .load true 5 (.s 0)⟩,
      ⟨.var 3, 4, none, .alloc (.agg [.int .i64 (0), .str [], .str [], .int .i64 (0), .bool false])⟩,
      ⟨.no, 0, none, .store 5 (.v 3) (.s 0)⟩])
   (.test false [
     ⟨.push, 24, none, .fldAddr 0 (.v 1)⟩,
     ⟨.push, 25, none, .load false 1 (.s 0)⟩,
     ⟨.push, 26, none, .fldAddr 1 (.v 3)⟩,
     ⟨.push, 27, none, .load false 1 (.s 0)⟩,
     ⟨.push, 28, none, .call 30 [(.s 2), (.s 0)]⟩,
     ⟨.push, 29, none, .un .not (.s 0)⟩] (.s 0)
   (.seq (.region false [
       ⟨.var 2, 2, none, .mov (.c (.bool false))⟩])
    (.ret))
   (.skip))))
 (.region false [
   ⟨.push, 30, none, .bin false .add (.v 7) (.c (.int .i64 (1)))⟩,
   ⟨.var 7, 20, none, .mov (.s 0)⟩])))
def ir15_k0 : List Bool := [false, true, false, false, false, true, true, true, false]
def ir15_o0 : List Bool := [false, true, false, false, false, false, false, false, false]
def ir15_r0 : List Bool := [false, false, true, false, false, false, false, false, false]
def ir15_v : List Nat := [0, 1, 2, 4, 6, 18, 19, 20, 21]
def ir15 : AFn := ⟨1, 9, .seq (.region false [
    ⟨.var 1, 1, none, .box (.v 0)⟩,
    ⟨.var 2, 2, none, .mov (.c (.bool false))⟩])
 (.seq (.test false [
    ⟨.push, 7, none, .fldAddr 0 (.v 1)⟩,
    ⟨.push, 8, none, .load false 1 (.s 0)⟩,
    ⟨.push, 9, none, .call 28 [(.s 0)]⟩,
    ⟨.push, 10, none, .un .not (.s 0)⟩,
    ⟨.push, 11, none, .mov (.s 0)⟩,
    ⟨.push, 12, (some ((.s 0), false)), .fldAddr 1 (.v 1)⟩,
    ⟨.push, 13, (some ((.s 1), false)), .load false 1 (.s 0)⟩,
    ⟨.push, 14, (some ((.s 2), false)), .call 29 [(.s 0)]⟩,
    ⟨.push, 15, (some ((.s 3), false)), .un .not (.s 0)⟩,
    ⟨.push, 16, none, .pick (.s 4) (.c (.bool true)) (.s 0)⟩] (.s 0)
  (.seq (.region false [
      ⟨.var 2, 2, none, .mov (.c (.bool false))⟩])
   (.ret))
  (.skip))
 (.seq (.seq (.region false [
     ⟨.push, 17, none, .fldAddr 1 (.v 1)⟩,
     ⟨.var 5, 18, none, .load false 1 (.s 0)⟩,
     ⟨.var 6, 19, none, .len false (.v 5)⟩,
     ⟨.var 7, 20, none, .mov (.c (.int .i64 (0)))⟩])
  (.block 0 (.loop ir15_k0 ir15_o0 ir15_r0 ir15_b0)))
 (.seq (.region false [
    ⟨.push, 32, none, .fldAddr 2 (.v 1)⟩,
    ⟨.push, 33, none, .load false 1 (.s 0)⟩,
    ⟨.push, 34, none, .call 31 [(.s 0)]⟩,
    ⟨.push, 31, none, .mov (.s 0)⟩,
    ⟨.push, 35, none, .ext (.s 0) 0⟩,
    ⟨.push, 36, none, .ext (.s 1) 1⟩,
    ⟨.push, 5, none, .mov (.s 1)⟩,
    ⟨.var 4, 6, none, .mov (.s 1)⟩])
 (.seq (.region false [
    ⟨.push, 37, none, .mov (.v 4)⟩,
    ⟨.push, 38, none, .bin false .eql (.s 0) (.c (.int .i64 (0)))⟩,
    ⟨.var 2, 2, none, .mov (.s 0)⟩])
 (.ret))))), [.t 2]⟩
noncomputable def t_impl_ValidDesk : List (Nat × Ctr) := [(28, c_impl_ValidStars), (29, c_impl_ValidEstimates), (30, c_impl_hasStar), (31, c_impl_EntriesOf)]
theorem lk_impl_ValidDesk_28 : look t_impl_ValidDesk 28 = some c_impl_ValidStars := rfl
theorem lk_impl_ValidDesk_29 : look t_impl_ValidDesk 29 = some c_impl_ValidEstimates := rfl
theorem lk_impl_ValidDesk_30 : look t_impl_ValidDesk 30 = some c_impl_hasStar := rfl
theorem lk_impl_ValidDesk_31 : look t_impl_ValidDesk 31 = some c_impl_EntriesOf := rfl
noncomputable def c_impl_ValidDesk : Ctr := mkF t_impl_ValidDesk ir15 [.bor]
theorem s_impl_ValidDesk : Sound Tryz.prog 15 c_impl_ValidDesk := mkF_sound _ rfl (snd_cons s_impl_ValidStars (snd_cons s_impl_ValidEstimates (snd_cons s_impl_hasStar (snd_cons s_impl_EntriesOf snd_nil)))) (by kernel_rfl : chkFn Tryz.prog 15 ir15 ir15_v = true)
theorem M_impl_ValidDesk : c_impl_ValidDesk.modes = [.bor] := rfl
theorem Fl_impl_ValidDesk : c_impl_ValidDesk.flat = true := rfl
attribute [go_sem] M_impl_ValidDesk Fl_impl_ValidDesk
attribute [go_sem] lk_impl_ValidDesk_28 lk_impl_ValidDesk_29 lk_impl_ValidDesk_30 lk_impl_ValidDesk_31
def E_impl_ValidDesk_l1 (d : Desk) (t18 : List Estimate) (t19 : Int) : Int → St
  | t20 => ⟨[.any, .ref 3200000 0 0, .any, .any, .any, .sl 5 (List.map Estimate_av t18), .int .i64 t19, .int .i64 t20, .any], [], [(3200000, ⟨3, [Desk_av d]⟩)], true⟩
def R_impl_ValidDesk_l1 (d : Desk) (t18 : List Estimate) (t19 : Int) : (Unit ⊕ Bool) → Res
  | .inl y => (.exit 0, ⟨[.any, .ref 3200000 0 0, .any, .any, .any, .any, .any, .any, .any], [], [(3200000, ⟨3, [Desk_av d]⟩)], true⟩)
  | .inr y => (.ret, ⟨[.any, .any, .bool y, .any, .any, .any, .any, .any, .any], [], [], true⟩)
theorem impl_ValidDesk_l1_ex {d : Desk} {t18 : List Estimate} {t19 : Int} {sgm_ : Int} {rho_ : Unit ⊕ Bool} (h : whileE (impl_ValidDesk_l1 d t18 t19) sgm_ = some rho_) : ∃ L0, ∀ L, L0 ≤ L → iter (exec (look t_impl_ValidDesk) L ir15_b0) ir15_k0 ir15_o0 ir15_r0 L (E_impl_ValidDesk_l1 d t18 t19 sgm_) = R_impl_ValidDesk_l1 d t18 t19 rho_ := by
  refine loop_ex (E := E_impl_ValidDesk_l1 d t18 t19) (R := R_impl_ValidDesk_l1 d t18 t19) (fun y => by first | (intro c; cases c) | (rcases y with y | y <;> (intro c; cases c)) | (rcases y with y | y | y <;> (intro c; cases c))) ?_ h
  clear h
  intro t20 o_ h
  dsimp only [impl_ValidDesk_l1] at h
  rcases it_some h with ⟨hk4, h⟩ | ⟨hk4, h⟩
  · try simp only [go_sem, n1, n2, n3, n4] at hk4
    all_goals
    obtain ⟨hk5, h⟩ := ck_some h
    have lhk5 := ix_lt hk5
    have xhk5 := getD_mapD Estimate_av t18 lhk5
    try simp only [go_sem] at lhk5
    try simp only [go_sem] at xhk5
    try simp only [go_sem, n1, n2, n3, n4, hk4] at hk5
    all_goals
    obtain ⟨y_6, hk6, h⟩ := bd_some h
    have fhk6 := Fs_impl_hasStar hk6
    try simp only [go_sem, hk4, hk5] at fhk6
    rcases it_some h with ⟨hk7, h⟩ | ⟨hk7, h⟩
    · try simp only [go_sem, n1, n2, n3, n4, hk4, hk5] at hk7
      all_goals
      obtain rfl := so_some h
      refine ⟨0, fun L hL => ?_⟩
      simp only [go_sem, ir15, E_impl_ValidDesk_l1, R_impl_ValidDesk_l1, ir15_b0, ir15_k0, ir15_o0, ir15_r0, hk4, hk5, lhk5, xhk5, fhk6, hk7]
    · try simp only [go_sem, n1, n2, n3, n4, hk4, hk5] at hk7
      all_goals
      obtain rfl := so_some h
      refine ⟨0, fun L hL => ?_⟩
      simp only [go_sem, ir15, E_impl_ValidDesk_l1, R_impl_ValidDesk_l1, ir15_b0, ir15_k0, ir15_o0, ir15_r0, hk4, hk5, lhk5, xhk5, fhk6, hk7]
  · try simp only [go_sem, n1, n2, n3, n4] at hk4
    all_goals
    obtain rfl := so_some h
    refine ⟨0, fun L hL => ?_⟩
    simp only [go_sem, ir15, E_impl_ValidDesk_l1, R_impl_ValidDesk_l1, ir15_b0, ir15_k0, ir15_o0, ir15_r0, hk4]

theorem Fs_impl_ValidDesk {d : Desk} {y_ : Bool} (h : impl_ValidDesk d = some y_) : c_impl_ValidDesk.F [Desk_av d] = ⟨true, .bool y_, [.any]⟩ := by
  refine mkF_E rfl ?_
  dsimp only [impl_ValidDesk] at h
  obtain ⟨y_1, hk1, h⟩ := bd_some h
  have fhk1 := Fs_impl_ValidStars hk1
  try simp only [go_sem] at fhk1
  obtain ⟨hk2, h⟩ := ck_some h
  rcases or_split hk2 with ⟨ghk2, hk2⟩ | ghk2
  · try simp only [go_sem, n1, n2, n3, n4] at ghk2
    all_goals
    obtain ⟨y_2, hhk2⟩ := Option.isSome_iff_exists.1 hk2
    have fhk2 := Fs_impl_ValidEstimates hhk2
    try simp only [go_sem, ghk2] at fhk2
    rcases it_some h with ⟨hk3, h⟩ | ⟨hk3, h⟩
    · try simp only [go_sem, n1, n2, n3, n4, ghk2, hhk2] at hk3
      all_goals
      obtain rfl := so_some h
      refine ⟨0, fun L hL => ?_⟩
      simp only [go_sem, ir15, E_impl_ValidDesk_l1, R_impl_ValidDesk_l1, ir15_k0, ir15_o0, ir15_r0, fhk1, ghk2, hhk2, fhk2, hk3]
    · try simp only [go_sem, n1, n2, n3, n4, ghk2, hhk2] at hk3
      all_goals
      obtain ⟨y_8, hk8, h⟩ := bd_some h
      obtain ⟨Lhk8, ehk8⟩ := impl_ValidDesk_l1_ex hk8
      rcases y_8 with y_8a | y_8b
      · dsimp only at h
        obtain ⟨y_9, hk9, h⟩ := bd_some h
        have fhk9 := Fs_impl_EntriesOf hk9
        try simp only [go_sem, ghk2, hhk2, hk3] at fhk9
        obtain rfl := so_some h
        refine ⟨Lhk8, fun L hL => ?_⟩
        have ehk8 := ehk8 L (by omega)
        try simp only [go_sem, E_impl_ValidDesk_l1, R_impl_ValidDesk_l1, ir15_k0, ir15_o0, ir15_r0, ghk2, hhk2, hk3] at ehk8
        simp only [go_sem, ir15, E_impl_ValidDesk_l1, R_impl_ValidDesk_l1, ir15_k0, ir15_o0, ir15_r0, fhk1, ghk2, hhk2, fhk2, hk3, fhk9, ehk8]
      · dsimp only at h
        obtain rfl := so_some h
        refine ⟨Lhk8, fun L hL => ?_⟩
        have ehk8 := ehk8 L (by omega)
        try simp only [go_sem, E_impl_ValidDesk_l1, R_impl_ValidDesk_l1, ir15_k0, ir15_o0, ir15_r0, ghk2, hhk2, hk3] at ehk8
        simp only [go_sem, ir15, E_impl_ValidDesk_l1, R_impl_ValidDesk_l1, ir15_k0, ir15_o0, ir15_r0, fhk1, ghk2, hhk2, fhk2, hk3, ehk8]
  · have ghk2n := no_f ghk2
    have ghk2nn := no_t ghk2n
    try simp only [go_sem, n1, n2, n3, n4] at ghk2nn
    all_goals
    rcases it_some h with ⟨hk3, h⟩ | ⟨hk3, h⟩
    · try simp only [go_sem, n1, n2, n3, n4, ghk2nn] at hk3
      all_goals
      obtain rfl := so_some h
      refine ⟨0, fun L hL => ?_⟩
      simp only [go_sem, ir15, E_impl_ValidDesk_l1, R_impl_ValidDesk_l1, ir15_k0, ir15_o0, ir15_r0, fhk1, ghk2nn, hk3]
    · try simp only [go_sem, n1, n2, n3, n4, ghk2nn] at hk3
      all_goals
      obtain ⟨y_8, hk8, h⟩ := bd_some h
      obtain ⟨Lhk8, ehk8⟩ := impl_ValidDesk_l1_ex hk8
      rcases y_8 with y_8a | y_8b
      · dsimp only at h
        obtain ⟨y_9, hk9, h⟩ := bd_some h
        have fhk9 := Fs_impl_EntriesOf hk9
        try simp only [go_sem, ghk2nn, hk3] at fhk9
        obtain rfl := so_some h
        refine ⟨Lhk8, fun L hL => ?_⟩
        have ehk8 := ehk8 L (by omega)
        try simp only [go_sem, E_impl_ValidDesk_l1, R_impl_ValidDesk_l1, ir15_k0, ir15_o0, ir15_r0, ghk2nn, hk3] at ehk8
        simp only [go_sem, ir15, E_impl_ValidDesk_l1, R_impl_ValidDesk_l1, ir15_k0, ir15_o0, ir15_r0, fhk1, ghk2nn, hk3, fhk9, ehk8]
      · dsimp only at h
        obtain rfl := so_some h
        refine ⟨Lhk8, fun L hL => ?_⟩
        have ehk8 := ehk8 L (by omega)
        try simp only [go_sem, E_impl_ValidDesk_l1, R_impl_ValidDesk_l1, ir15_k0, ir15_o0, ir15_r0, ghk2nn, hk3] at ehk8
        simp only [go_sem, ir15, E_impl_ValidDesk_l1, R_impl_ValidDesk_l1, ir15_k0, ir15_o0, ir15_r0, fhk1, ghk2nn, hk3, ehk8]


def ir33_v : List Nat := [0, 2]
def ir33 : AFn := ⟨1, 2, .seq (.region false [
    ⟨.var 1, 2, none, .mov (.c (.int .i64 (0)))⟩])
 (.seq (.region false [
    ⟨.push, 3, none, .mov (.v 0)⟩,
    ⟨.push, 4, none, .len false (.s 0)⟩,
    ⟨.var 1, 2, none, .mov (.s 0)⟩])
 (.ret)), [.t 1]⟩
noncomputable def t_impl_count_impl_Star : List (Nat × Ctr) := []
noncomputable def c_impl_count_impl_Star : Ctr := mkF t_impl_count_impl_Star ir33 [.bor]
theorem s_impl_count_impl_Star : Sound Tryz.prog 33 c_impl_count_impl_Star := mkF_sound _ rfl snd_nil (by kernel_rfl : chkFn Tryz.prog 33 ir33 ir33_v = true)
theorem M_impl_count_impl_Star : c_impl_count_impl_Star.modes = [.bor] := rfl
theorem Fl_impl_count_impl_Star : c_impl_count_impl_Star.flat = true := rfl
attribute [go_sem] M_impl_count_impl_Star Fl_impl_count_impl_Star
theorem Fs_impl_count_impl_Star {list : List Star} {y_ : Int} (h : impl_count_impl_Star list = some y_) : c_impl_count_impl_Star.F [.sl 5 (List.map Star_av list)] = ⟨true, .int .i64 y_, [.any]⟩ := by
  refine mkF_E rfl ?_
  dsimp only [impl_count_impl_Star] at h
  obtain rfl := so_some h
  refine ⟨0, fun L hL => ?_⟩
  simp only [go_sem, ir33]


def ir34_v : List Nat := [0, 2]
def ir34 : AFn := ⟨1, 2, .seq (.region false [
    ⟨.var 1, 2, none, .mov (.c (.int .i64 (0)))⟩])
 (.seq (.region false [
    ⟨.push, 3, none, .mov (.v 0)⟩,
    ⟨.push, 4, none, .len false (.s 0)⟩,
    ⟨.var 1, 2, none, .mov (.s 0)⟩])
 (.ret)), [.t 1]⟩
noncomputable def t_impl_count_impl_Estimate : List (Nat × Ctr) := []
noncomputable def c_impl_count_impl_Estimate : Ctr := mkF t_impl_count_impl_Estimate ir34 [.bor]
theorem s_impl_count_impl_Estimate : Sound Tryz.prog 34 c_impl_count_impl_Estimate := mkF_sound _ rfl snd_nil (by kernel_rfl : chkFn Tryz.prog 34 ir34 ir34_v = true)
theorem M_impl_count_impl_Estimate : c_impl_count_impl_Estimate.modes = [.bor] := rfl
theorem Fl_impl_count_impl_Estimate : c_impl_count_impl_Estimate.flat = true := rfl
attribute [go_sem] M_impl_count_impl_Estimate Fl_impl_count_impl_Estimate
theorem Fs_impl_count_impl_Estimate {list : List Estimate} {y_ : Int} (h : impl_count_impl_Estimate list = some y_) : c_impl_count_impl_Estimate.F [.sl 5 (List.map Estimate_av list)] = ⟨true, .int .i64 y_, [.any]⟩ := by
  refine mkF_E rfl ?_
  dsimp only [impl_count_impl_Estimate] at h
  obtain rfl := so_some h
  refine ⟨0, fun L hL => ?_⟩
  simp only [go_sem, ir34]


def ir16_v : List Nat := [0, 1, 2]
def ir16 : AFn := ⟨1, 3, .seq (.region false [
    ⟨.var 1, 1, none, .box (.v 0)⟩,
    ⟨.var 2, 2, none, .mov (.c (.str []))⟩])
 (.seq (.anyo 11 [
    ⟨.slot 0, 3, none, .fldAddr 0 (.v 1)⟩,
    ⟨.slot 1, 4, none, .load false 1 (.s 0)⟩,
    ⟨.slot 2, 5, none, .callp 33 [(.s 1)]⟩,
    ⟨.slot 3, 6, none, .callp 32 [(.s 2)]⟩,
    ⟨.slot 4, 7, none, .bin false .add (.s 3) (.c (.str [32, 115, 116, 97, 114, 115, 32]))⟩,
    ⟨.slot 5, 8, none, .fldAddr 1 (.v 1)⟩,
    ⟨.slot 6, 9, none, .load false 1 (.s 5)⟩,
    ⟨.slot 7, 10, none, .callp 34 [(.s 6)]⟩,
    ⟨.slot 8, 11, none, .callp 32 [(.s 7)]⟩,
    ⟨.slot 9, 12, none, .bin false .add (.s 4) (.s 8)⟩,
    ⟨.slot 10, 13, none, .bin false .add (.s 9) (.c (.str [32, 101, 115, 116, 105, 109, 97, 116, 101, 115]))⟩,
    ⟨.var 2, 2, none, .mov (.s 10)⟩] [] .skip)
 (.ret)), [.t 2]⟩
noncomputable def t_impl_Desk_text : List (Nat × Ctr) := [(33, c_impl_count_impl_Star), (32, c_impl_Decimal), (34, c_impl_count_impl_Estimate)]
theorem lk_impl_Desk_text_33 : look t_impl_Desk_text 33 = some c_impl_count_impl_Star := rfl
theorem lk_impl_Desk_text_32 : look t_impl_Desk_text 32 = some c_impl_Decimal := rfl
theorem lk_impl_Desk_text_34 : look t_impl_Desk_text 34 = some c_impl_count_impl_Estimate := rfl
noncomputable def c_impl_Desk_text : Ctr := mkF t_impl_Desk_text ir16 [.bor]
theorem s_impl_Desk_text : Sound Tryz.prog 16 c_impl_Desk_text := mkF_sound _ rfl (snd_cons s_impl_count_impl_Star (snd_cons s_impl_Decimal (snd_cons s_impl_count_impl_Estimate snd_nil))) (by kernel_rfl : chkFn Tryz.prog 16 ir16 ir16_v = true)
theorem M_impl_Desk_text : c_impl_Desk_text.modes = [.bor] := rfl
theorem Fl_impl_Desk_text : c_impl_Desk_text.flat = true := rfl
attribute [go_sem] M_impl_Desk_text Fl_impl_Desk_text
attribute [go_sem] lk_impl_Desk_text_33 lk_impl_Desk_text_32 lk_impl_Desk_text_34
theorem Fs_impl_Desk_text {d : Desk} {y_ : (List UInt8)} (h : impl_Desk_text d = some y_) : c_impl_Desk_text.F [Desk_av d] = ⟨true, .str y_, [.any]⟩ := by
  refine mkF_E rfl ?_
  dsimp only [impl_Desk_text] at h
  obtain ⟨y_1, hk1, h⟩ := bd_some h
  have fhk1 := Fs_impl_count_impl_Star hk1
  try simp only [go_sem] at fhk1
  obtain ⟨y_2, hk2, h⟩ := bd_some h
  have fhk2 := Fs_impl_Decimal hk2
  try simp only [go_sem] at fhk2
  obtain ⟨hk3, h⟩ := ck_some h
  try simp only [go_sem, n1, n2, n3, n4] at hk3
  all_goals
  obtain ⟨y_4, hk4, h⟩ := bd_some h
  have fhk4 := Fs_impl_count_impl_Estimate hk4
  try simp only [go_sem, hk3] at fhk4
  obtain ⟨y_5, hk5, h⟩ := bd_some h
  have fhk5 := Fs_impl_Decimal hk5
  try simp only [go_sem, hk3] at fhk5
  obtain ⟨hk6, h⟩ := ck_some h
  try simp only [go_sem, n1, n2, n3, n4, hk3] at hk6
  all_goals
  obtain ⟨hk7, h⟩ := ck_some h
  try simp only [go_sem, n1, n2, n3, n4, hk3, hk6] at hk7
  all_goals
  obtain rfl := so_some h
  refine ⟨0, fun L hL => ?_⟩
  simp only [go_sem, ir16, fhk1, fhk2, hk3, fhk4, fhk5, hk6, hk7]


def ir7_v : List Nat := [0, 1, 2]
def ir7 : AFn := ⟨1, 3, .seq (.region false [
    ⟨.var 1, 1, none, .box (.v 0)⟩,
    ⟨.var 2, 2, none, .mov (.c (.str []))⟩])
 (.seq (.test false [
    ⟨.push, 3, none, .load true 3 (.v 1)⟩,
    ⟨.push, 4, none, .call 15 [(.s 0)]⟩,
    ⟨.push, 5, none, .un .not (.s 0)⟩] (.s 0)
  (.seq (.region false [
      ⟨.var 2, 2, none, .mov (.c (.str []))⟩])
   (.ret))
  (.skip))
 (.seq (.region false [
    ⟨.push, 6, none, .load true 3 (.v 1)⟩,
    ⟨.push, 7, none, .call 16 [(.s 0)]⟩,
    ⟨.var 2, 2, none, .mov (.s 0)⟩])
 (.ret))), [.t 2]⟩
noncomputable def t_impl_DeskText : List (Nat × Ctr) := [(15, c_impl_ValidDesk), (16, c_impl_Desk_text)]
theorem lk_impl_DeskText_15 : look t_impl_DeskText 15 = some c_impl_ValidDesk := rfl
theorem lk_impl_DeskText_16 : look t_impl_DeskText 16 = some c_impl_Desk_text := rfl
noncomputable def c_impl_DeskText : Ctr := mkF t_impl_DeskText ir7 [.bor]
theorem s_impl_DeskText : Sound Tryz.prog 7 c_impl_DeskText := mkF_sound _ rfl (snd_cons s_impl_ValidDesk (snd_cons s_impl_Desk_text snd_nil)) (by kernel_rfl : chkFn Tryz.prog 7 ir7 ir7_v = true)
theorem M_impl_DeskText : c_impl_DeskText.modes = [.bor] := rfl
theorem Fl_impl_DeskText : c_impl_DeskText.flat = true := rfl
attribute [go_sem] M_impl_DeskText Fl_impl_DeskText
attribute [go_sem] lk_impl_DeskText_15 lk_impl_DeskText_16
theorem Fs_impl_DeskText {d : Desk} {y_ : (List UInt8)} (h : impl_DeskText d = some y_) : c_impl_DeskText.F [Desk_av d] = ⟨true, .str y_, [.any]⟩ := by
  refine mkF_E rfl ?_
  dsimp only [impl_DeskText] at h
  obtain ⟨y_1, hk1, h⟩ := bd_some h
  have fhk1 := Fs_impl_ValidDesk hk1
  try simp only [go_sem] at fhk1
  rcases it_some h with ⟨hk2, h⟩ | ⟨hk2, h⟩
  · try simp only [go_sem, n1, n2, n3, n4] at hk2
    all_goals
    obtain rfl := so_some h
    refine ⟨0, fun L hL => ?_⟩
    simp only [go_sem, ir7, fhk1, hk2]
  · try simp only [go_sem, n1, n2, n3, n4] at hk2
    all_goals
    obtain ⟨y_3, hk3, h⟩ := bd_some h
    have fhk3 := Fs_impl_Desk_text hk3
    try simp only [go_sem, hk2] at fhk3
    obtain rfl := so_some h
    refine ⟨0, fun L hL => ?_⟩
    simp only [go_sem, ir7, fhk1, hk2, fhk3]


def ir3_v : List Nat := [0, 1, 2, 3, 4, 5, 6]
def ir3 : AFn := ⟨1, 7, .seq (.region false [
    ⟨.var 1, 1, none, .box (.v 0)⟩,
    ⟨.var 2, 2, none, .mov (.c (.bool false))⟩])
 (.seq (.region false [
    ⟨.var 3, 3, none, .mov (.c (.int .i64 (1048576)))⟩])
 (.seq (.region false [
    ⟨.push, 7, none, .load true 3 (.v 1)⟩,
    ⟨.push, 8, none, .mov (.v 3)⟩,
    ⟨.push, 9, none, .call 4 [(.s 1), (.s 0)]⟩,
    ⟨.var 3, 3, none, .mov (.s 0)⟩])
 (.seq (.test false [
    ⟨.push, 10, none, .mov (.v 3)⟩,
    ⟨.push, 11, none, .bin false .lss (.s 0) (.c (.int .i64 (0)))⟩] (.s 0)
  (.seq (.region false [
      ⟨.var 2, 2, none, .mov (.c (.bool true))⟩])
   (.ret))
  (.skip))
 (.seq (.region false [
    ⟨.push, 12, none, .load true 3 (.v 1)⟩,
    ⟨.push, 13, none, .call 6 [(.s 0)]⟩,
    ⟨.push, 14, none, .call 5 [(.s 0)]⟩,
    ⟨.var 4, 4, none, .mov (.s 0)⟩])
 (.seq (.region false [
    ⟨.push, 15, none, .load true 3 (.v 1)⟩,
    ⟨.push, 16, none, .call 6 [(.s 0)]⟩,
    ⟨.var 5, 5, none, .alloc (.agg [.sl 5 [], .sl 5 [], .str []])⟩,
    ⟨.no, 0, none, .store 3 (.v 5) (.s 0)⟩])
 (.seq (.region false [
    ⟨.push, 17, none, .load true 3 (.v 5)⟩,
    ⟨.push, 18, none, .call 7 [(.s 0)]⟩,
    ⟨.var 6, 6, none, .mov (.s 0)⟩])
 (.seq (.test false [
    ⟨.push, 19, none, .mov (.v 6)⟩,
    ⟨.push, 20, none, .mov (.v 4)⟩,
    ⟨.push, 21, none, .bin false .neq (.s 1) (.s 0)⟩] (.s 0)
  (.seq (.region false [
      ⟨.var 2, 2, none, .mov (.c (.bool false))⟩])
   (.ret))
  (.skip))
 (.seq (.anyo 5 [
    ⟨.slot 0, 22, none, .load true 3 (.v 5)⟩,
    ⟨.slot 1, 23, none, .load true 3 (.v 1)⟩,
    ⟨.slot 2, 24, none, .pur (.call 6 [(.s 1)])⟩,
    ⟨.slot 3, 25, none, .callp 8 [(.s 0), (.s 2)]⟩,
    ⟨.slot 4, 26, none, .un .not (.s 3)⟩] [] (.cond (.s 4)
  (.seq (.region false [
      ⟨.var 2, 2, none, .mov (.c (.bool false))⟩])
   (.ret))
  (.skip)))
 (.seq (.region false [
    ⟨.var 2, 2, none, .mov (.c (.bool true))⟩])
 (.ret)))))))))), [.t 2]⟩
noncomputable def t_laws_FnExactDeskText : List (Nat × Ctr) := [(4, c_laws_szDesk), (6, c_laws_toDesk), (5, c_spec_DeskText), (7, c_impl_DeskText), (8, c_laws_eqDesk)]
theorem lk_laws_FnExactDeskText_4 : look t_laws_FnExactDeskText 4 = some c_laws_szDesk := rfl
theorem lk_laws_FnExactDeskText_6 : look t_laws_FnExactDeskText 6 = some c_laws_toDesk := rfl
theorem lk_laws_FnExactDeskText_5 : look t_laws_FnExactDeskText 5 = some c_spec_DeskText := rfl
theorem lk_laws_FnExactDeskText_7 : look t_laws_FnExactDeskText 7 = some c_impl_DeskText := rfl
theorem lk_laws_FnExactDeskText_8 : look t_laws_FnExactDeskText 8 = some c_laws_eqDesk := rfl
noncomputable def c_laws_FnExactDeskText : Ctr := mkF t_laws_FnExactDeskText ir3 [.bor]
theorem s_laws_FnExactDeskText : Sound Tryz.prog 3 c_laws_FnExactDeskText := mkF_sound _ rfl (snd_cons s_laws_szDesk (snd_cons s_laws_toDesk (snd_cons s_spec_DeskText (snd_cons s_impl_DeskText (snd_cons s_laws_eqDesk snd_nil))))) (by kernel_rfl : chkFn Tryz.prog 3 ir3 ir3_v = true)
theorem M_laws_FnExactDeskText : c_laws_FnExactDeskText.modes = [.bor] := rfl
theorem Fl_laws_FnExactDeskText : c_laws_FnExactDeskText.flat = true := rfl
attribute [go_sem] M_laws_FnExactDeskText Fl_laws_FnExactDeskText
attribute [go_sem] lk_laws_FnExactDeskText_4 lk_laws_FnExactDeskText_6 lk_laws_FnExactDeskText_5 lk_laws_FnExactDeskText_7 lk_laws_FnExactDeskText_8
theorem Fs_laws_FnExactDeskText {aD : Desk} {y_ : Bool} (h : laws_FnExactDeskText aD = some y_) : c_laws_FnExactDeskText.F [Desk_av aD] = ⟨true, .bool y_, [.any]⟩ := by
  refine mkF_E rfl ?_
  dsimp only [laws_FnExactDeskText] at h
  obtain ⟨y_1, hk1, h⟩ := bd_some h
  have fhk1 := Fs_laws_szDesk hk1
  try simp only [go_sem] at fhk1
  rcases it_some h with ⟨hk2, h⟩ | ⟨hk2, h⟩
  · try simp only [go_sem, n1, n2, n3, n4] at hk2
    all_goals
    obtain rfl := so_some h
    refine ⟨0, fun L hL => ?_⟩
    simp only [go_sem, ir3, fhk1, hk2]
  · try simp only [go_sem, n1, n2, n3, n4] at hk2
    all_goals
    obtain ⟨y_3, hk3, h⟩ := bd_some h
    have fhk3 := Fs_laws_toDesk hk3
    try simp only [go_sem, hk2] at fhk3
    obtain ⟨y_4, hk4, h⟩ := bd_some h
    have fhk4 := Fs_spec_DeskText hk4
    try simp only [go_sem, hk2] at fhk4
    obtain ⟨y_5, hk5, h⟩ := bd_some h
    have fhk5 := Fs_impl_DeskText hk5
    try simp only [go_sem, hk2] at fhk5
    rcases it_some h with ⟨hk6, h⟩ | ⟨hk6, h⟩
    · try simp only [go_sem, n1, n2, n3, n4, hk2] at hk6
      all_goals
      obtain rfl := so_some h
      refine ⟨0, fun L hL => ?_⟩
      simp only [go_sem, ir3, fhk1, hk2, fhk3, fhk4, fhk5, hk6]
    · try simp only [go_sem, n1, n2, n3, n4, hk2] at hk6
      all_goals
      obtain ⟨y_7, hk7, h⟩ := bd_some h
      have fhk7 := Fs_laws_eqDesk hk7
      try simp only [go_sem, hk2, hk6] at fhk7
      rcases it_some h with ⟨hk8, h⟩ | ⟨hk8, h⟩
      · try simp only [go_sem, n1, n2, n3, n4, hk2, hk6] at hk8
        all_goals
        obtain rfl := so_some h
        refine ⟨0, fun L hL => ?_⟩
        simp only [go_sem, ir3, fhk1, hk2, fhk3, fhk4, fhk5, hk6, fhk7, hk8]
      · try simp only [go_sem, n1, n2, n3, n4, hk2, hk6] at hk8
        all_goals
        obtain rfl := so_some h
        refine ⟨0, fun L hL => ?_⟩
        simp only [go_sem, ir3, fhk1, hk2, fhk3, fhk4, fhk5, hk6, fhk7, hk8]


end Go.Proofs.YtbdghipedlldbaaGreatDoor
