/- Codes and contracts of the functions that AU reaches, and that their typed forms say what they do. No condition. -/
import Derived.Test.YthbnoddeifedkaaAUCa
import Derived.Test.YthbnoddeifedkaaRows
import Derived.WalkKit
namespace Go.Proofs.Ythbnoddeifedkaa
open Go Go.RowKit
set_option linter.unusedVariables false
set_option linter.unusedSimpArgs false
set_option maxRecDepth 10000

def ir32_b0 : IR := .seq (.region false [ VO 7 11 (.bin false .lss (.v 6) (.v 5))]) (.seq (.cond (.v 7) (.skip) (.exit 0)) (.seq (.block 1 (.seq (.region false [ PM 12 6, PO 13 (.ixAddr 5 (.v 4) (.v 6)), PO 14 (.load true 5 (.s 0)), VO 3 4 (.alloc (.agg [.int .i64 (0), .str [], .str [], .int .i64 (0), .bool false])), VS 2 3 2, ⟨.no, 0, none, .store 5 (.v 3) (.s 0)⟩]) (.anyo 17 [ SO 0 15 (.load true 5 (.v 3)), SO 1 16 (.callp 48 [(.s 0)]), SO 2 17 (.un .not (.s 1)), SO 3 18 (.mov (.s 2)), ⟨.slot 4, 19, (some ((.s 3), false)), .mov (.v 2)⟩, ⟨.slot 5, 20, (some ((.s 3), false)), .bin false .gtr
 (.s 4) (I6 0)⟩, ⟨.slot 6, 21, (some ((.s 3), false)), .mov (.s 5)⟩, ⟨.slot 7, 22, (some ((.s 6), true)), .mov (.v 0)⟩, ⟨.slot 8, 23, (some ((.s 6), true)), .mov (.v 2)⟩, ⟨.slot 9, 24, (some ((.s 6), true)), .bin false .sub (.s 8) (I6 1)⟩, ⟨.slot 10, 25, (some ((.s 6), true)), .ixAddr 5 (.s 7) (.s 9)⟩, ⟨.slot 11, 26, (some ((.s 6), true)), .load true 5 (.s 10)⟩, ⟨.slot 12, 27, (some ((.s 6), true)), .load true 5 (.v 3)⟩, ⟨.slot 13, 28, (some ((.s 6), true)), .call 49 [(.s 11), (.s 12)]⟩, ⟨.slot 14, 29, (some ((.s 6), true)), .bin false .geq (.s 13) (I6 0)⟩, ⟨.slot 15, 30, (some ((.s 3),
 false)), .pick (.s 6) (.s 14) (.c (.bool false))⟩, SO 16 31 (.pick (.s 3) (.c (.bool true)) (.s 15))] [] (.cond (.s 16) (.seq (.region false [ VO 1 2 (.mov (.c (.bool false)))]) (.ret)) (.skip))))) (.region false [ PO 32 (.bin false .add (.v 6) (I6 1)), VS 6 10 0])))
def ir32_k0 : List Bool := [true, false, false, false, true, true, true, false]
def ir32_o0 : List Bool := [false, false, false, false, false, false, false, false]
def ir32_r0 : List Bool := [false, true, false, false, false, false, false, false]
def ir32_v : List Nat := [0, 2, 3, 4, 8, 9, 10, 11]
def ir32 : AFn := ⟨1, 8, .seq (.region false [ VO 1 2 (.mov (.c (.bool false)))]) (.seq (.test false [ PM 5 0, PO 6 (.len false (.s 0)), PO 7 (.bin false .gtr (.s 0) (I6 100))] (.s 0) (.seq (.region false [ VO 1 2 (.mov (.c (.bool false)))]) (.ret)) (.skip)) (.seq (.seq (.region false [ VO 4 8 (.mov (.v 0)), VO 5 9 (.len false (.v 4)), VO 6 10 (.mov (I6 0))]) (.block 0 (.loop ir32_k0 ir32_o0 ir32_r0 ir32_b0))) (.seq (.region false [ VO 1 2 (.mov (.c (.bool true)))]) (.ret)))), [.t 1]⟩
noncomputable def t_43 : List (Nat × Ctr) := [(48, c_35), (49, c_42)]
theorem lk_43_48 : look t_43 48 = some c_35 := rfl
theorem lk_43_49 : look t_43 49 = some c_42 := rfl
noncomputable def c_43 : Ctr := mkF t_43 ir32 [.bor]
theorem s_43 : Sound Try.prog 32 c_43 := mkF_sound _ rfl (snd_cons s_35 (snd_cons s_42 snd_nil)) (by kernel_rfl : chkFn Try.prog 32 ir32 ir32_v = true)
theorem M_43 : c_43.modes = [.bor] := rfl
theorem Fl_43 : c_43.flat = true := rfl
attribute [go_sem] M_43 Fl_43
attribute [go_sem] lk_43_48 lk_43_49
def E_43_l1 (list : List Estimate) (t8 : List Estimate) (t9 : Int) : Int → St
 | t10 => ⟨[.sl 5 (List.map Estimate_av list), .any, .any, .any, .sl 5 (List.map Estimate_av t8), .int .i64 t9, .int .i64 t10, .any], [], [], true⟩
def R_43_l1 (list : List Estimate) (t8 : List Estimate) (t9 : Int) : (Unit ⊕ Bool) → Res
 | .inl y => (.exit 0, ⟨[.any, .any, .any, .any, .any, .any, .any, .any], [], [], true⟩)
 | .inr y => (.ret, ⟨[.any, .bool y, .any, .any, .any, .any, .any, .any], [], [], true⟩)
theorem impl_ValidEstimates_l1_ex {list : List Estimate} {t8 : List Estimate} {t9 : Int} {sgm_ : Int} {rho_ : Unit ⊕ Bool} (h : whileE (impl_ValidEstimates_l1 list t8 t9) sgm_ = some rho_) : ∃ L0, ∀ L, L0 ≤ L → iter (exec (look t_43) L ir32_b0) ir32_k0 ir32_o0 ir32_r0 L (E_43_l1 list t8 t9 sgm_) = R_43_l1 list t8 t9 rho_ := by
 refine loop_ex (E := E_43_l1 list t8 t9) (R := R_43_l1 list t8 t9) (fun y => by first | (intro c; cases c) | (rcases y with y | y <;> (intro c; cases c)) | (rcases y with y | y | y <;> (intro c; cases c))) ?_ h
 clear h
 intro t10 o_ h
 dsimp only [impl_ValidEstimates_l1] at h
 rcases it_some h with ⟨z2, h⟩ | ⟨z2, h⟩
 ·try simp only [go_sem, n1, n2, n3, n4] at z2
  all_goals
  obtain ⟨z3, h⟩ := ck_some h
  have lz3 := ix_lt z3
  have xz3 := getD_mapD Estimate_av t8 lz3
  try simp only [go_sem] at lz3
  try simp only [go_sem] at xz3
  try simp only [go_sem, n1, n2, n3, n4, z2] at z3
  all_goals
  obtain ⟨y_4, z4, h⟩ := bd_some h
  have fz4 := Fs_35 z4
  try simp only [go_sem, z2, z3] at fz4
  obtain ⟨z5, h⟩ := ck_some h
  rcases or_split z5 with ⟨gz5, z5⟩ | gz5
  ·try simp only [go_sem, n1, n2, n3, n4, z2, z3] at gz5
   all_goals
   have lz5 := ix_lt z5
   have xz5 := getD_mapD Estimate_av list lz5
   try simp only [go_sem] at lz5
   try simp only [go_sem] at xz5
   try simp only [go_sem, n1, n2, n3, n4, z2, z3, gz5] at z5
   all_goals
   obtain ⟨z6, h⟩ := ck_some h
   rcases or_split z6 with ⟨gz6, z6⟩ | gz6
   ·try simp only [go_sem, n1, n2, n3, n4, z2, z3, gz5, z5] at gz6
    all_goals
    obtain ⟨y_6, hz6⟩ := Option.isSome_iff_exists.1 z6
    have fz6 := Fs_42 hz6
    try simp only [go_sem, n1, n2, n3, n4, z2, z3, gz5, z5, gz6] at hz6
    all_goals
    try simp only [go_sem, z2, z3, gz5, z5, gz6] at fz6
    rcases it_some h with ⟨z7, h⟩ | ⟨z7, h⟩
    ·try simp only [go_sem, n1, n2, n3, n4, z2, z3, gz5, z5, gz6, hz6] at z7
     all_goals
     obtain rfl := so_some h
     refine ⟨0, fun L hL => ?_⟩
     simp only [go_sem, ir32, E_43_l1, R_43_l1, ir32_b0, ir32_k0, ir32_o0, ir32_r0, z2, z3, lz3, xz3, fz4, gz5, z5, lz5, xz5, gz6, hz6, fz6, z7]
    ·try simp only [go_sem, n1, n2, n3, n4, z2, z3, gz5, z5, gz6, hz6] at z7
     all_goals
     obtain rfl := so_some h
     refine ⟨0, fun L hL => ?_⟩
     simp only [go_sem, ir32, E_43_l1, R_43_l1, ir32_b0, ir32_k0, ir32_o0, ir32_r0, z2, z3, lz3, xz3, fz4, gz5, z5, lz5, xz5, gz6, hz6, fz6, z7]
   ·rcases and_f gz6 with gz6a | ⟨gz6a, gz6b⟩
    ·try simp only [go_sem, n1, n2, n3, n4, z2, z3, gz5, z5] at gz6a
     all_goals
     (simp_all)
    ·have gz6an := no_t gz6a
     have gz6ann := no_f gz6an
     try simp only [go_sem, n1, n2, n3, n4, z2, z3, gz5, z5] at gz6ann
     all_goals
     try simp only [go_sem, n1, n2, n3, n4, z2, z3, gz5, z5, gz6ann] at gz6b
     all_goals
     rcases it_some h with ⟨z7, h⟩ | ⟨z7, h⟩
     ·try simp only [go_sem, n1, n2, n3, n4, z2, z3, gz5, z5, gz6ann, gz6b] at z7
      all_goals
      (simp_all)
     ·try simp only [go_sem, n1, n2, n3, n4, z2, z3, gz5, z5, gz6ann, gz6b] at z7
      all_goals
      obtain rfl := so_some h
      refine ⟨0, fun L hL => ?_⟩
      simp only [go_sem, ir32, E_43_l1, R_43_l1, ir32_b0, ir32_k0, ir32_o0, ir32_r0, z2, z3, lz3, xz3, fz4, gz5, z5, lz5, xz5, gz6ann, gz6b, z7]
  ·rcases and_f gz5 with gz5a | ⟨gz5a, gz5b⟩
   ·have gz5an := no_f gz5a
    have gz5ann := no_t gz5an
    try simp only [go_sem, n1, n2, n3, n4, z2, z3] at gz5ann
    all_goals
    obtain ⟨z6, h⟩ := ck_some h
    rcases it_some h with ⟨z7, h⟩ | ⟨z7, h⟩
    ·try simp only [go_sem, n1, n2, n3, n4, z2, z3, gz5ann] at z7
     all_goals
     obtain rfl := so_some h
     refine ⟨0, fun L hL => ?_⟩
     simp only [go_sem, ir32, E_43_l1, R_43_l1, ir32_b0, ir32_k0, ir32_o0, ir32_r0, z2, z3, lz3, xz3, fz4, gz5ann, z7]
    ·try simp only [go_sem, n1, n2, n3, n4, z2, z3, gz5ann] at z7
     all_goals
     (simp_all)
   ·have gz5an := no_t gz5a
    have gz5ann := no_f gz5an
    try simp only [go_sem, n1, n2, n3, n4, z2, z3] at gz5ann
    all_goals
    try simp only [go_sem, n1, n2, n3, n4, z2, z3, gz5ann] at gz5b
    all_goals
    obtain ⟨z6, h⟩ := ck_some h
    rcases it_some h with ⟨z7, h⟩ | ⟨z7, h⟩
    ·try simp only [go_sem, n1, n2, n3, n4, z2, z3, gz5ann, gz5b] at z7
     all_goals
     (simp_all)
    ·try simp only [go_sem, n1, n2, n3, n4, z2, z3, gz5ann, gz5b] at z7
     all_goals
     obtain rfl := so_some h
     refine ⟨0, fun L hL => ?_⟩
     simp only [go_sem, ir32, E_43_l1, R_43_l1, ir32_b0, ir32_k0, ir32_o0, ir32_r0, z2, z3, lz3, xz3, fz4, gz5ann, gz5b, z7]
 ·try simp only [go_sem, n1, n2, n3, n4] at z2
  all_goals
  obtain rfl := so_some h
  refine ⟨0, fun L hL => ?_⟩
  simp only [go_sem, ir32, E_43_l1, R_43_l1, ir32_b0, ir32_k0, ir32_o0, ir32_r0, z2]

theorem Fs_43 {list : List Estimate} {y_ : Bool} (h : impl_ValidEstimates list = some y_) : c_43.F [.sl 5 (List.map Estimate_av list)] = ⟨true, .bool y_, [.any]⟩ := by
 refine mkF_E rfl ?_
 dsimp only [impl_ValidEstimates] at h
 rcases it_some h with ⟨z1, h⟩ | ⟨z1, h⟩
 ·try simp only [go_sem, n1, n2, n3, n4] at z1
  all_goals
  obtain rfl := so_some h
  refine ⟨0, fun L hL => ?_⟩
  simp only [go_sem, ir32, E_43_l1, R_43_l1, ir32_k0, ir32_o0, ir32_r0, z1]
 ·try simp only [go_sem, n1, n2, n3, n4] at z1
  all_goals
  obtain ⟨y_8, z8, h⟩ := bd_some h
  obtain ⟨Lz8, ez8⟩ := impl_ValidEstimates_l1_ex z8
  rcases y_8 with y_8a | y_8b
  ·dsimp only at h
   obtain rfl := so_some h
   refine ⟨Lz8, fun L hL => ?_⟩
   have ez8 := ez8 L (by omega)
   try simp only [go_sem, E_43_l1, R_43_l1, ir32_k0, ir32_o0, ir32_r0, z1] at ez8
   simp only [go_sem, ir32, E_43_l1, R_43_l1, ir32_k0, ir32_o0, ir32_r0, z1, ez8]
  ·dsimp only at h
   obtain rfl := so_some h
   refine ⟨Lz8, fun L hL => ?_⟩
   have ez8 := ez8 L (by omega)
   try simp only [go_sem, E_43_l1, R_43_l1, ir32_k0, ir32_o0, ir32_r0, z1] at ez8
   simp only [go_sem, ir32, E_43_l1, R_43_l1, ir32_k0, ir32_o0, ir32_r0, z1, ez8]


def ir51_v : List Nat := [0, 1, 2, 3]
def ir51 : AFn := ⟨1, 4, .seq (.region false [ VO 1 1 (.box (.v 0)), VO 2 2 (.mov (.c (.bool false)))]) (.seq (.region false [ PO 4 (.fldAddr 1 (.v 1)), PO 5 (.load false 1 (.s 0)), PO 6 (.call 35 [(.s 0), (I6 0), (I6 86399)]), PO 7 (.mov (.s 0)), ⟨.push, 8, (some ((.s 0), true)), .fldAddr 2 (.v 1)⟩, ⟨.push, 9, (some ((.s 1), true)), .load false 1 (.s 0)⟩, ⟨.push, 10, (some ((.s 2), true)), .call 35 [(.s 0), (.c (.int .i64 (-324000))), (I6 324000)]⟩, PO 11 (.pick (.s 3) (.s 0) (.c (.bool false))), VS 3 3 0]) (.seq (.region false [ PO 12 (.fldAddr 0 (.v 1)), PO 13 (.load false 1 (.s 0)), PO 14
 (.call 68 [(.s 0)]), PO 15 (.mov (.s 0)), ⟨.push, 16, (some ((.s 0), true)), .mov (.v 3)⟩, PO 17 (.pick (.s 1) (.s 0) (.c (.bool false))), PO 18 (.mov (.s 0)), ⟨.push, 19, (some ((.s 0), true)), .fldAddr 3 (.v 1)⟩, ⟨.push, 20, (some ((.s 1), true)), .load false 1 (.s 0)⟩, ⟨.push, 21, (some ((.s 2), true)), .call 69 [(.s 0)]⟩, PO 22 (.pick (.s 3) (.s 0) (.c (.bool false))), PO 23 (.mov (.s 0)), ⟨.push, 24, (some ((.s 0), true)), .fldAddr 4 (.v 1)⟩, ⟨.push, 25, (some ((.s 1), true)), .load false 1 (.s 0)⟩, ⟨.push, 26, (some ((.s 2), true)), .call 69 [(.s 0)]⟩, PO 27 (.pick (.s 3) (.s 0) (.c
 (.bool false))), PO 28 (.mov (.s 0)), ⟨.push, 29, (some ((.s 0), true)), .fldAddr 3 (.v 1)⟩, ⟨.push, 30, (some ((.s 1), true)), .load false 1 (.s 0)⟩, ⟨.push, 31, (some ((.s 2), true)), .fldAddr 4 (.v 1)⟩, ⟨.push, 32, (some ((.s 3), true)), .load false 1 (.s 0)⟩, ⟨.push, 33, (some ((.s 4), true)), .bin false .leq (.s 2) (.s 0)⟩, PO 34 (.pick (.s 5) (.s 0) (.c (.bool false))), VS 2 2 0]) (.ret))), [.t 2]⟩
noncomputable def t_44 : List (Nat × Ctr) := [(35, c_31), (68, c_33), (69, c_34)]
theorem lk_44_35 : look t_44 35 = some c_31 := rfl
theorem lk_44_68 : look t_44 68 = some c_33 := rfl
theorem lk_44_69 : look t_44 69 = some c_34 := rfl
noncomputable def c_44 : Ctr := mkF t_44 ir51 [.bor]
theorem s_44 : Sound Try.prog 51 c_44 := mkF_sound _ rfl (snd_cons s_31 (snd_cons s_33 (snd_cons s_34 snd_nil))) (by kernel_rfl : chkFn Try.prog 51 ir51 ir51_v = true)
theorem M_44 : c_44.modes = [.bor] := rfl
theorem Fl_44 : c_44.flat = true := rfl
attribute [go_sem] M_44 Fl_44
attribute [go_sem] lk_44_35 lk_44_68 lk_44_69
theorem Fs_44 {x : Star} {y_ : Bool} (h : impl_isStar x = some y_) : c_44.F [Star_av x] = ⟨true, .bool y_, [.any]⟩ := by
 refine mkF_E rfl ?_
 dsimp only [impl_isStar] at h
 obtain ⟨y_1, z1, h⟩ := bd_some h
 have fz1 := Fs_31 z1
 try simp only [go_sem] at fz1
 obtain ⟨z2, h⟩ := ck_some h
 rcases or_split z2 with ⟨gz2, z2⟩ | gz2
 ·try simp only [go_sem, n1, n2, n3, n4] at gz2
  all_goals
  obtain ⟨y_2, hz2⟩ := Option.isSome_iff_exists.1 z2
  have fz2 := Fs_31 hz2
  try simp only [go_sem, n1, n2, n3, n4, gz2] at hz2
  all_goals
  try simp only [go_sem, gz2] at fz2
  obtain ⟨y_3, z3, h⟩ := bd_some h
  have fz3 := Fs_33 z3
  try simp only [go_sem, gz2, hz2] at fz3
  obtain ⟨z4, h⟩ := ck_some h
  rcases or_split z4 with ⟨gz4, z4⟩ | gz4
  ·try simp only [go_sem, n1, n2, n3, n4, gz2, hz2] at gz4
   all_goals
   obtain ⟨y_4, hz4⟩ := Option.isSome_iff_exists.1 z4
   have fz4 := Fs_34 hz4
   try simp only [go_sem, n1, n2, n3, n4, gz2, hz2, gz4] at hz4
   all_goals
   try simp only [go_sem, gz2, hz2, gz4] at fz4
   obtain ⟨z5, h⟩ := ck_some h
   rcases or_split z5 with ⟨gz5, z5⟩ | gz5
   ·try simp only [go_sem, n1, n2, n3, n4, gz2, hz2, gz4, hz4] at gz5
    all_goals
    obtain ⟨y_5, hz5⟩ := Option.isSome_iff_exists.1 z5
    have fz5 := Fs_34 hz5
    try simp only [go_sem, n1, n2, n3, n4, gz2, hz2, gz4, hz4, gz5] at hz5
    all_goals
    try simp only [go_sem, gz2, hz2, gz4, hz4, gz5] at fz5
    obtain rfl := so_some h
    refine ⟨0, fun L hL => ?_⟩
    simp only [go_sem, ir51, fz1, gz2, hz2, fz2, fz3, gz4, hz4, fz4, gz5, hz5, fz5]
   ·rcases and_f gz5 with gz5a | ⟨gz5a, gz5b⟩
    ·try simp only [go_sem, n1, n2, n3, n4, gz2, hz2, gz4, hz4] at gz5a
     all_goals
     (simp_all)
    ·obtain ⟨gz5aa, gz5ab⟩ := and_t gz5a
     obtain ⟨gz5aba, gz5abb⟩ := and_t gz5ab
     try simp only [go_sem, n1, n2, n3, n4, gz2, hz2, gz4, hz4] at gz5aa
     all_goals
     try simp only [go_sem, n1, n2, n3, n4, gz2, hz2, gz4, hz4, gz5aa] at gz5aba
     all_goals
     try simp only [go_sem, n1, n2, n3, n4, gz2, hz2, gz4, hz4, gz5aa, gz5aba] at gz5abb
     all_goals
     try simp only [go_sem, n1, n2, n3, n4, gz2, hz2, gz4, hz4, gz5aa, gz5aba, gz5abb] at gz5b
     all_goals
     obtain rfl := so_some h
     refine ⟨0, fun L hL => ?_⟩
     simp only [go_sem, ir51, fz1, gz2, hz2, fz2, fz3, gz4, hz4, fz4, gz5aa, gz5aba, gz5abb, gz5b]
  ·rcases and_f gz4 with gz4a | ⟨gz4a, gz4b⟩
   ·try simp only [go_sem, n1, n2, n3, n4, gz2, hz2] at gz4a
    all_goals
    obtain ⟨z5, h⟩ := ck_some h
    obtain rfl := so_some h
    refine ⟨0, fun L hL => ?_⟩
    simp only [go_sem, ir51, fz1, gz2, hz2, fz2, fz3, gz4a]
   ·rcases and_f gz4b with gz4ba | ⟨gz4ba, gz4bb⟩
    ·try simp only [go_sem, n1, n2, n3, n4, gz2, hz2, gz4a] at gz4ba
     all_goals
     (simp_all)
    ·try simp only [go_sem, n1, n2, n3, n4, gz2, hz2] at gz4a
     all_goals
     try simp only [go_sem, n1, n2, n3, n4, gz2, hz2, gz4a] at gz4ba
     all_goals
     try simp only [go_sem, n1, n2, n3, n4, gz2, hz2, gz4a, gz4ba] at gz4bb
     all_goals
     obtain ⟨z5, h⟩ := ck_some h
     obtain rfl := so_some h
     refine ⟨0, fun L hL => ?_⟩
     simp only [go_sem, ir51, fz1, gz2, hz2, fz2, fz3, gz4a, gz4ba, gz4bb]
 ·try simp only [go_sem, n1, n2, n3, n4] at gz2
  all_goals
  obtain ⟨y_3, z3, h⟩ := bd_some h
  have fz3 := Fs_33 z3
  try simp only [go_sem, gz2] at fz3
  obtain ⟨z4, h⟩ := ck_some h
  obtain ⟨z5, h⟩ := ck_some h
  obtain rfl := so_some h
  refine ⟨0, fun L hL => ?_⟩
  simp only [go_sem, ir51, fz1, gz2, fz3]


def ir52_v : List Nat := [0, 1, 2]
def ir52 : AFn := ⟨1, 3, .seq (.region false [ VO 1 1 (.box (.v 0)), VO 2 2 (.mov (.c (.str [])))]) (.seq (.region false [ PO 3 (.fldAddr 0 (.v 1)), PO 4 (.load false 1 (.s 0)), VS 2 2 0]) (.ret)), [.t 2]⟩
noncomputable def t_45 : List (Nat × Ctr) := []
noncomputable def c_45 : Ctr := mkF t_45 ir52 [.bor]
theorem s_45 : Sound Try.prog 52 c_45 := mkF_sound _ rfl snd_nil (by kernel_rfl : chkFn Try.prog 52 ir52 ir52_v = true)
theorem M_45 : c_45.modes = [.bor] := rfl
theorem Fl_45 : c_45.flat = true := rfl
attribute [go_sem] M_45 Fl_45
theorem Fs_45 {x : Star} {y_ : (List UInt8)} (h : impl_starName x = some y_) : c_45.F [Star_av x] = ⟨true, .str y_, [.any]⟩ := by
 refine mkF_E rfl ?_
 dsimp only [impl_starName] at h
 obtain rfl := so_some h
 refine ⟨0, fun L hL => ?_⟩
 simp only [go_sem, ir52]


def ir50_b0 : IR := .seq (.region false [ VO 10 18 (.bin false .lss (.v 9) (.v 8))]) (.seq (.cond (.v 10) (.skip) (.exit 0)) (.seq (.block 1 (.seq (.region false [ PM 19 9, PO 20 (.ixAddr 5 (.v 7) (.v 9)), PO 21 (.load true 5 (.s 0)), VO 6 10 (.alloc (.agg [.str [], .int .i64 (0), .int .i64 (0), .int .i64 (0), .int .i64 (0)])), VS 5 9 2, ⟨.no, 0, none, .store 5 (.v 6) (.s 0)⟩]) (.anyo 21 [ SO 0 22 (.mov (.v 2)), SO 1 23 (.load true 5 (.v 6)), SO 2 24 (.pur (.callv (.s 0) [(.s 1)])), SO 3 25 (.un .not (.s 2)), SO 4 26 (.mov (.s 3)), ⟨.slot 5, 27, (some ((.s 4), false)), .mov (.v 5)⟩, ⟨.slot 6,
 28, (some ((.s 4), false)), .bin false .gtr (.s 5) (I6 0)⟩, ⟨.slot 7, 29, (some ((.s 4), false)), .mov (.s 6)⟩, ⟨.slot 8, 30, (some ((.s 7), true)), .mov (.v 3)⟩, ⟨.slot 9, 31, (some ((.s 7), true)), .mov (.v 0)⟩, ⟨.slot 10, 32, (some ((.s 7), true)), .mov (.v 5)⟩, ⟨.slot 11, 33, (some ((.s 7), true)), .bin false .sub (.s 10) (I6 1)⟩, ⟨.slot 12, 34, (some ((.s 7), true)), .ixAddr 5 (.s 9) (.s 11)⟩, ⟨.slot 13, 35, (some ((.s 7), true)), .load true 5 (.s 12)⟩, ⟨.slot 14, 36, (some ((.s 7), true)), .callv (.s 8) [(.s 13)]⟩, ⟨.slot 15, 37, (some ((.s 7), true)), .mov (.v 3)⟩, ⟨.slot 16, 38, (some
 ((.s 7), true)), .load true 5 (.v 6)⟩, ⟨.slot 17, 39, (some ((.s 7), true)), .callv (.s 15) [(.s 16)]⟩, ⟨.slot 18, 40, (some ((.s 7), true)), .bin false .geq (.s 14) (.s 17)⟩, ⟨.slot 19, 41, (some ((.s 4), false)), .pick (.s 7) (.s 18) (.c (.bool false))⟩, SO 20 42 (.pick (.s 4) (.c (.bool true)) (.s 19))] [] (.cond (.s 20) (.seq (.region false [ VO 4 8 (.mov (.c (.bool false)))]) (.ret)) (.skip))))) (.region false [ PO 43 (.bin false .add (.v 9) (I6 1)), VS 9 17 0])))
def ir50_k0 : List Bool := [true, false, true, true, false, false, false, true, true, true, false]
def ir50_o0 : List Bool := [false, false, false, false, false, false, false, false, false, false, false]
def ir50_r0 : List Bool := [false, false, false, false, true, false, false, false, false, false, false]
def ir50_v : List Nat := [0, 1, 2, 3, 8, 9, 10, 15, 16, 17, 18]
def ir50 : AFn := ⟨4, 11, .seq (.region false [ VO 4 8 (.mov (.c (.bool false)))]) (.seq (.test false [ PM 11 0, PO 12 (.len false (.s 0)), PM 13 1, PO 14 (.bin false .gtr (.s 1) (.s 0))] (.s 0) (.seq (.region false [ VO 4 8 (.mov (.c (.bool false)))]) (.ret)) (.skip)) (.seq (.seq (.region false [ VO 7 15 (.mov (.v 0)), VO 8 16 (.len false (.v 7)), VO 9 17 (.mov (I6 0))]) (.block 0 (.loop ir50_k0 ir50_o0 ir50_r0 ir50_b0))) (.seq (.region false [ VO 4 8 (.mov (.c (.bool true)))]) (.ret)))), [.t 4]⟩
noncomputable def t_46 : List (Nat × Ctr) := [(51, c_44), (52, c_45)]
theorem lk_46_51 : look t_46 51 = some c_44 := rfl
theorem lk_46_52 : look t_46 52 = some c_45 := rfl
noncomputable def c_46 : Ctr := mkF t_46 ir50 [.bor, .bor, .bor, .bor]
theorem s_46 : Sound Try.prog 50 c_46 := mkF_sound _ rfl (snd_cons s_44 (snd_cons s_45 snd_nil)) (by kernel_rfl : chkFn Try.prog 50 ir50 ir50_v = true)
theorem M_46 : c_46.modes = [.bor, .bor, .bor, .bor] := rfl
theorem Fl_46 : c_46.flat = true := rfl
attribute [go_sem] M_46 Fl_46
attribute [go_sem] lk_46_51 lk_46_52
def E_46_l1 (list : List Star) (t15 : List Star) (t16 : Int) : Int → St
 | t17 => ⟨[.sl 5 (List.map Star_av list), .any, .fn (.func 51) [] [], .fn (.func 52) [] [], .any, .any, .any, .sl 5 (List.map Star_av t15), .int .i64 t16, .int .i64 t17, .any], [], [], true⟩
def R_46_l1 (list : List Star) (t15 : List Star) (t16 : Int) : (Unit ⊕ Bool) → Res
 | .inl y => (.exit 0, ⟨[.any, .any, .any, .any, .any, .any, .any, .any, .any, .any, .any], [], [], true⟩)
 | .inr y => (.ret, ⟨[.any, .any, .any, .any, .bool y, .any, .any, .any, .any, .any, .any], [], [], true⟩)
set_option maxHeartbeats 64000000 in
theorem impl_rising_impl_Star__impl_isStar__impl_starName_l1_ex {list : List Star} {t15 : List Star} {t16 : Int} {sgm_ : Int} {rho_ : Unit ⊕ Bool} (h : whileE (impl_rising_impl_Star__impl_isStar__impl_starName_l1 list t15 t16) sgm_ = some rho_) : ∃ L0, ∀ L, L0 ≤ L → iter (exec (look t_46) L ir50_b0) ir50_k0 ir50_o0 ir50_r0 L (E_46_l1 list t15 t16 sgm_) = R_46_l1 list t15 t16 rho_ := by
 refine loop_ex (E := E_46_l1 list t15 t16) (R := R_46_l1 list t15 t16) (fun y => by first | (intro c; cases c) | (rcases y with y | y <;> (intro c; cases c)) | (rcases y with y | y | y <;> (intro c; cases c))) ?_ h
 clear h
 intro t17 o_ h
 dsimp only [impl_rising_impl_Star__impl_isStar__impl_starName_l1] at h
 rcases it_some h with ⟨z2, h⟩ | ⟨z2, h⟩
 ·try simp only [go_sem, n1, n2, n3, n4] at z2
  all_goals
  obtain ⟨z3, h⟩ := ck_some h
  have lz3 := ix_lt z3
  have xz3 := getD_mapD Star_av t15 lz3
  try simp only [go_sem] at lz3
  try simp only [go_sem] at xz3
  try simp only [go_sem, n1, n2, n3, n4, z2] at z3
  all_goals
  obtain ⟨y_4, z4, h⟩ := bd_some h
  have fz4 := Fs_44 z4
  try simp only [go_sem, z2, z3] at fz4
  obtain ⟨z5, h⟩ := ck_some h
  rcases or_split z5 with ⟨gz5, z5⟩ | gz5
  ·try simp only [go_sem, n1, n2, n3, n4, z2, z3] at gz5
   all_goals
   have lz5 := ix_lt z5
   have xz5 := getD_mapD Star_av list lz5
   try simp only [go_sem] at lz5
   try simp only [go_sem] at xz5
   try simp only [go_sem, n1, n2, n3, n4, z2, z3, gz5] at z5
   all_goals
   obtain ⟨z6, h⟩ := ck_some h
   rcases or_split z6 with ⟨gz6, z6⟩ | gz6
   ·try simp only [go_sem, n1, n2, n3, n4, z2, z3, gz5, z5] at gz6
    all_goals
    obtain ⟨y_6, hz6⟩ := Option.isSome_iff_exists.1 z6
    have fz6 := Fs_45 hz6
    try simp only [go_sem, n1, n2, n3, n4, z2, z3, gz5, z5, gz6] at hz6
    all_goals
    try simp only [go_sem, z2, z3, gz5, z5, gz6] at fz6
    obtain ⟨z7, h⟩ := ck_some h
    rcases or_split z7 with ⟨gz7, z7⟩ | gz7
    ·try simp only [go_sem, n1, n2, n3, n4, z2, z3, gz5, z5, gz6, hz6] at gz7
     all_goals
     obtain ⟨y_7, hz7⟩ := Option.isSome_iff_exists.1 z7
     have fz7 := Fs_45 hz7
     try simp only [go_sem, n1, n2, n3, n4, z2, z3, gz5, z5, gz6, hz6, gz7] at hz7
     all_goals
     try simp only [go_sem, z2, z3, gz5, z5, gz6, hz6, gz7] at fz7
     rcases it_some h with ⟨z8, h⟩ | ⟨z8, h⟩
     ·try simp only [go_sem, n1, n2, n3, n4, z2, z3, gz5, z5, gz6, hz6, gz7, hz7] at z8
      all_goals
      obtain rfl := so_some h
      refine ⟨0, fun L hL => ?_⟩
      simp only [go_sem, ir50, E_46_l1, R_46_l1, ir50_b0, ir50_k0, ir50_o0, ir50_r0, z2, z3, lz3, xz3, fz4, gz5, z5, lz5, xz5, gz6, hz6, fz6, gz7, hz7, fz7, z8]
     ·try simp only [go_sem, n1, n2, n3, n4, z2, z3, gz5, z5, gz6, hz6, gz7, hz7] at z8
      all_goals
      obtain rfl := so_some h
      refine ⟨0, fun L hL => ?_⟩
      simp only [go_sem, ir50, E_46_l1, R_46_l1, ir50_b0, ir50_k0, ir50_o0, ir50_r0, z2, z3, lz3, xz3, fz4, gz5, z5, lz5, xz5, gz6, hz6, fz6, gz7, hz7, fz7, z8]
    ·rcases and_f gz7 with gz7a | ⟨gz7a, gz7b⟩
     ·try simp only [go_sem, n1, n2, n3, n4, z2, z3, gz5, z5, gz6, hz6] at gz7a
      all_goals
      (simp_all)
     ·have gz7an := no_t gz7a
      have gz7ann := no_f gz7an
      try simp only [go_sem, n1, n2, n3, n4, z2, z3, gz5, z5, gz6, hz6] at gz7ann
      all_goals
      try simp only [go_sem, n1, n2, n3, n4, z2, z3, gz5, z5, gz6, hz6, gz7ann] at gz7b
      all_goals
      rcases it_some h with ⟨z8, h⟩ | ⟨z8, h⟩
      ·try simp only [go_sem, n1, n2, n3, n4, z2, z3, gz5, z5, gz6, hz6, gz7ann, gz7b] at z8
       all_goals
       (simp_all)
      ·try simp only [go_sem, n1, n2, n3, n4, z2, z3, gz5, z5, gz6, hz6, gz7ann, gz7b] at z8
       all_goals
       obtain rfl := so_some h
       refine ⟨0, fun L hL => ?_⟩
       simp only [go_sem, ir50, E_46_l1, R_46_l1, ir50_b0, ir50_k0, ir50_o0, ir50_r0, z2, z3, lz3, xz3, fz4, gz5, z5, lz5, xz5, gz6, hz6, fz6, gz7ann, gz7b, z8]
   ·rcases and_f gz6 with gz6a | ⟨gz6a, gz6b⟩
    ·try simp only [go_sem, n1, n2, n3, n4, z2, z3, gz5, z5] at gz6a
     all_goals
     (simp_all)
    ·have gz6an := no_t gz6a
     have gz6ann := no_f gz6an
     try simp only [go_sem, n1, n2, n3, n4, z2, z3, gz5, z5] at gz6ann
     all_goals
     try simp only [go_sem, n1, n2, n3, n4, z2, z3, gz5, z5, gz6ann] at gz6b
     all_goals
     obtain ⟨z7, h⟩ := ck_some h
     rcases or_split z7 with ⟨gz7, z7⟩ | gz7
     ·try simp only [go_sem, n1, n2, n3, n4, z2, z3, gz5, z5, gz6ann, gz6b] at gz7
      all_goals
      obtain ⟨y_7, hz7⟩ := Option.isSome_iff_exists.1 z7
      have fz7 := Fs_45 hz7
      try simp only [go_sem, n1, n2, n3, n4, z2, z3, gz5, z5, gz6ann, gz6b, gz7] at hz7
      all_goals
      try simp only [go_sem, z2, z3, gz5, z5, gz6ann, gz6b, gz7] at fz7
      rcases it_some h with ⟨z8, h⟩ | ⟨z8, h⟩
      ·try simp only [go_sem, n1, n2, n3, n4, z2, z3, gz5, z5, gz6ann, gz6b, gz7, hz7] at z8
       all_goals
       obtain rfl := so_some h
       refine ⟨0, fun L hL => ?_⟩
       simp only [go_sem, ir50, E_46_l1, R_46_l1, ir50_b0, ir50_k0, ir50_o0, ir50_r0, z2, z3, lz3, xz3, fz4, gz5, z5, lz5, xz5, gz6ann, gz6b, gz7, hz7, fz7, z8]
      ·try simp only [go_sem, n1, n2, n3, n4, z2, z3, gz5, z5, gz6ann, gz6b, gz7, hz7] at z8
       all_goals
       obtain rfl := so_some h
       refine ⟨0, fun L hL => ?_⟩
       simp only [go_sem, ir50, E_46_l1, R_46_l1, ir50_b0, ir50_k0, ir50_o0, ir50_r0, z2, z3, lz3, xz3, fz4, gz5, z5, lz5, xz5, gz6ann, gz6b, gz7, hz7, fz7, z8]
     ·rcases and_f gz7 with gz7a | ⟨gz7a, gz7b⟩
      ·try simp only [go_sem, n1, n2, n3, n4, z2, z3, gz5, z5, gz6ann, gz6b] at gz7a
       all_goals
       (simp_all)
      ·have gz7an := no_t gz7a
       have gz7ann := no_f gz7an
       try simp only [go_sem, n1, n2, n3, n4, z2, z3, gz5, z5, gz6ann, gz6b] at gz7ann
       all_goals
       try simp only [go_sem, n1, n2, n3, n4, z2, z3, gz5, z5, gz6ann, gz6b, gz7ann] at gz7b
       all_goals
       rcases it_some h with ⟨z8, h⟩ | ⟨z8, h⟩
       ·try simp only [go_sem, n1, n2, n3, n4, z2, z3, gz5, z5, gz6ann, gz6b, gz7ann, gz7b] at z8
        all_goals
        (simp_all)
       ·try simp only [go_sem, n1, n2, n3, n4, z2, z3, gz5, z5, gz6ann, gz6b, gz7ann, gz7b] at z8
        all_goals
        obtain rfl := so_some h
        refine ⟨0, fun L hL => ?_⟩
        simp only [go_sem, ir50, E_46_l1, R_46_l1, ir50_b0, ir50_k0, ir50_o0, ir50_r0, z2, z3, lz3, xz3, fz4, gz5, z5, lz5, xz5, gz6ann, gz6b, gz7ann, gz7b, z8]
  ·rcases and_f gz5 with gz5a | ⟨gz5a, gz5b⟩
   ·have gz5an := no_f gz5a
    have gz5ann := no_t gz5an
    try simp only [go_sem, n1, n2, n3, n4, z2, z3] at gz5ann
    all_goals
    obtain ⟨z6, h⟩ := ck_some h
    obtain ⟨z7, h⟩ := ck_some h
    rcases it_some h with ⟨z8, h⟩ | ⟨z8, h⟩
    ·try simp only [go_sem, n1, n2, n3, n4, z2, z3, gz5ann] at z8
     all_goals
     obtain rfl := so_some h
     refine ⟨0, fun L hL => ?_⟩
     simp only [go_sem, ir50, E_46_l1, R_46_l1, ir50_b0, ir50_k0, ir50_o0, ir50_r0, z2, z3, lz3, xz3, fz4, gz5ann, z8]
    ·try simp only [go_sem, n1, n2, n3, n4, z2, z3, gz5ann] at z8
     all_goals
     (simp_all)
   ·have gz5an := no_t gz5a
    have gz5ann := no_f gz5an
    try simp only [go_sem, n1, n2, n3, n4, z2, z3] at gz5ann
    all_goals
    try simp only [go_sem, n1, n2, n3, n4, z2, z3, gz5ann] at gz5b
    all_goals
    obtain ⟨z6, h⟩ := ck_some h
    obtain ⟨z7, h⟩ := ck_some h
    rcases it_some h with ⟨z8, h⟩ | ⟨z8, h⟩
    ·try simp only [go_sem, n1, n2, n3, n4, z2, z3, gz5ann, gz5b] at z8
     all_goals
     (simp_all)
    ·try simp only [go_sem, n1, n2, n3, n4, z2, z3, gz5ann, gz5b] at z8
     all_goals
     obtain rfl := so_some h
     refine ⟨0, fun L hL => ?_⟩
     simp only [go_sem, ir50, E_46_l1, R_46_l1, ir50_b0, ir50_k0, ir50_o0, ir50_r0, z2, z3, lz3, xz3, fz4, gz5ann, gz5b, z8]
 ·try simp only [go_sem, n1, n2, n3, n4] at z2
  all_goals
  obtain rfl := so_some h
  refine ⟨0, fun L hL => ?_⟩
  simp only [go_sem, ir50, E_46_l1, R_46_l1, ir50_b0, ir50_k0, ir50_o0, ir50_r0, z2]

set_option maxHeartbeats 64000000 in
theorem Fs_46 {list : List Star} {most : Int} {y_ : Bool} (h : impl_rising_impl_Star__impl_isStar__impl_starName list most = some y_) : c_46.F [.sl 5 (List.map Star_av list), .int .i64 most, .fn (.func 51) [] [], .fn (.func 52) [] []] = ⟨true, .bool y_, [.any, .any, .any, .any]⟩ := by
 refine mkF_E rfl ?_
 dsimp only [impl_rising_impl_Star__impl_isStar__impl_starName] at h
 rcases it_some h with ⟨z1, h⟩ | ⟨z1, h⟩
 ·try simp only [go_sem, n1, n2, n3, n4] at z1
  all_goals
  obtain rfl := so_some h
  refine ⟨0, fun L hL => ?_⟩
  simp only [go_sem, ir50, E_46_l1, R_46_l1, ir50_k0, ir50_o0, ir50_r0, z1]
 ·try simp only [go_sem, n1, n2, n3, n4] at z1
  all_goals
  obtain ⟨y_9, z9, h⟩ := bd_some h
  obtain ⟨Lz9, ez9⟩ := impl_rising_impl_Star__impl_isStar__impl_starName_l1_ex z9
  rcases y_9 with y_9a | y_9b
  ·dsimp only at h
   obtain rfl := so_some h
   refine ⟨Lz9, fun L hL => ?_⟩
   have ez9 := ez9 L (by omega)
   try simp only [go_sem, E_46_l1, R_46_l1, ir50_k0, ir50_o0, ir50_r0, z1] at ez9
   simp only [go_sem, ir50, E_46_l1, R_46_l1, ir50_k0, ir50_o0, ir50_r0, z1, ez9]
  ·dsimp only at h
   obtain rfl := so_some h
   refine ⟨Lz9, fun L hL => ?_⟩
   have ez9 := ez9 L (by omega)
   try simp only [go_sem, E_46_l1, R_46_l1, ir50_k0, ir50_o0, ir50_r0, z1] at ez9
   simp only [go_sem, ir50, E_46_l1, R_46_l1, ir50_k0, ir50_o0, ir50_r0, z1, ez9]


def ir33_v : List Nat := [0, 2]
def ir33 : AFn := ⟨1, 2, .seq (.region false [ VO 1 2 (.mov (.c (.bool false)))]) (.seq (.region false [ PM 3 0, PO 4 (.call 50 [(.s 0), (I6 60), (.c (.fn (.func 51) [] [])), (.c (.fn (.func 52) [] []))]), VS 1 2 0]) (.ret)), [.t 1]⟩
noncomputable def t_47 : List (Nat × Ctr) := [(50, c_46)]
theorem lk_47_50 : look t_47 50 = some c_46 := rfl
noncomputable def c_47 : Ctr := mkF t_47 ir33 [.bor]
theorem s_47 : Sound Try.prog 33 c_47 := mkF_sound _ rfl (snd_cons s_46 snd_nil) (by kernel_rfl : chkFn Try.prog 33 ir33 ir33_v = true)
theorem M_47 : c_47.modes = [.bor] := rfl
theorem Fl_47 : c_47.flat = true := rfl
attribute [go_sem] M_47 Fl_47
attribute [go_sem] lk_47_50
theorem Fs_47 {list : List Star} {y_ : Bool} (h : impl_ValidStars list = some y_) : c_47.F [.sl 5 (List.map Star_av list)] = ⟨true, .bool y_, [.any]⟩ := by
 refine mkF_E rfl ?_
 dsimp only [impl_ValidStars] at h
 obtain ⟨y_1, z1, h⟩ := bd_some h
 have fz1 := Fs_46 z1
 try simp only [go_sem] at fz1
 obtain rfl := so_some h
 refine ⟨0, fun L hL => ?_⟩
 simp only [go_sem, ir33, fz1]


def ir54_v : List Nat := [0, 1, 2]
def ir54 : AFn := ⟨1, 3, .seq (.region false [ VO 1 1 (.box (.v 0)), VO 2 2 (.mov (.c (.bool false)))]) (.seq (.region false [ PO 3 (.fldAddr 0 (.v 1)), PO 4 (.load false 1 (.s 0)), PO 5 (.call 68 [(.s 0)]), PO 6 (.mov (.s 0)), ⟨.push, 7, (some ((.s 0), true)), .fldAddr 1 (.v 1)⟩, ⟨.push, 8, (some ((.s 1), true)), .load false 1 (.s 0)⟩, ⟨.push, 9, (some ((.s 2), true)), .call 35 [(.s 0), (.c (.int .i64 (-2000))), (I6 2000)]⟩, PO 10 (.pick (.s 3) (.s 0) (.c (.bool false))), VS 2 2 0]) (.ret)), [.t 2]⟩
noncomputable def t_48 : List (Nat × Ctr) := [(68, c_33), (35, c_31)]
theorem lk_48_68 : look t_48 68 = some c_33 := rfl
theorem lk_48_35 : look t_48 35 = some c_31 := rfl
noncomputable def c_48 : Ctr := mkF t_48 ir54 [.bor]
theorem s_48 : Sound Try.prog 54 c_48 := mkF_sound _ rfl (snd_cons s_33 (snd_cons s_31 snd_nil)) (by kernel_rfl : chkFn Try.prog 54 ir54 ir54_v = true)
theorem M_48 : c_48.modes = [.bor] := rfl
theorem Fl_48 : c_48.flat = true := rfl
attribute [go_sem] M_48 Fl_48
attribute [go_sem] lk_48_68 lk_48_35
theorem Fs_48 {x : Observer} {y_ : Bool} (h : impl_isObserver x = some y_) : c_48.F [Observer_av x] = ⟨true, .bool y_, [.any]⟩ := by
 refine mkF_E rfl ?_
 dsimp only [impl_isObserver] at h
 obtain ⟨y_1, z1, h⟩ := bd_some h
 have fz1 := Fs_33 z1
 try simp only [go_sem] at fz1
 obtain ⟨z2, h⟩ := ck_some h
 rcases or_split z2 with ⟨gz2, z2⟩ | gz2
 ·try simp only [go_sem, n1, n2, n3, n4] at gz2
  all_goals
  obtain ⟨y_2, hz2⟩ := Option.isSome_iff_exists.1 z2
  have fz2 := Fs_31 hz2
  try simp only [go_sem, n1, n2, n3, n4, gz2] at hz2
  all_goals
  try simp only [go_sem, gz2] at fz2
  obtain rfl := so_some h
  refine ⟨0, fun L hL => ?_⟩
  simp only [go_sem, ir54, fz1, gz2, hz2, fz2]
 ·try simp only [go_sem, n1, n2, n3, n4] at gz2
  all_goals
  obtain rfl := so_some h
  refine ⟨0, fun L hL => ?_⟩
  simp only [go_sem, ir54, fz1, gz2]


def ir55_v : List Nat := [0, 1, 2]
def ir55 : AFn := ⟨1, 3, .seq (.region false [ VO 1 1 (.box (.v 0)), VO 2 2 (.mov (.c (.str [])))]) (.seq (.region false [ PO 3 (.fldAddr 0 (.v 1)), PO 4 (.load false 1 (.s 0)), VS 2 2 0]) (.ret)), [.t 2]⟩
noncomputable def t_49 : List (Nat × Ctr) := []
noncomputable def c_49 : Ctr := mkF t_49 ir55 [.bor]
theorem s_49 : Sound Try.prog 55 c_49 := mkF_sound _ rfl snd_nil (by kernel_rfl : chkFn Try.prog 55 ir55 ir55_v = true)
theorem M_49 : c_49.modes = [.bor] := rfl
theorem Fl_49 : c_49.flat = true := rfl
attribute [go_sem] M_49 Fl_49
theorem Fs_49 {x : Observer} {y_ : (List UInt8)} (h : impl_observerName x = some y_) : c_49.F [Observer_av x] = ⟨true, .str y_, [.any]⟩ := by
 refine mkF_E rfl ?_
 dsimp only [impl_observerName] at h
 obtain rfl := so_some h
 refine ⟨0, fun L hL => ?_⟩
 simp only [go_sem, ir55]


def ir53_b0 : IR := .seq (.region false [ VO 10 18 (.bin false .lss (.v 9) (.v 8))]) (.seq (.cond (.v 10) (.skip) (.exit 0)) (.seq (.block 1 (.seq (.region false [ PM 19 9, PO 20 (.ixAddr 2 (.v 7) (.v 9)), PO 21 (.load true 2 (.s 0)), VO 6 10 (.alloc (.agg [.str [], .int .i64 (0)])), VS 5 9 2, ⟨.no, 0, none, .store 2 (.v 6) (.s 0)⟩]) (.anyo 21 [ SO 0 22 (.mov (.v 2)), SO 1 23 (.load true 2 (.v 6)), SO 2 24 (.pur (.callv (.s 0) [(.s 1)])), SO 3 25 (.un .not (.s 2)), SO 4 26 (.mov (.s 3)), ⟨.slot 5, 27, (some ((.s 4), false)), .mov (.v 5)⟩, ⟨.slot 6, 28, (some ((.s 4), false)), .bin false .gtr
 (.s 5) (I6 0)⟩, ⟨.slot 7, 29, (some ((.s 4), false)), .mov (.s 6)⟩, ⟨.slot 8, 30, (some ((.s 7), true)), .mov (.v 3)⟩, ⟨.slot 9, 31, (some ((.s 7), true)), .mov (.v 0)⟩, ⟨.slot 10, 32, (some ((.s 7), true)), .mov (.v 5)⟩, ⟨.slot 11, 33, (some ((.s 7), true)), .bin false .sub (.s 10) (I6 1)⟩, ⟨.slot 12, 34, (some ((.s 7), true)), .ixAddr 2 (.s 9) (.s 11)⟩, ⟨.slot 13, 35, (some ((.s 7), true)), .load true 2 (.s 12)⟩, ⟨.slot 14, 36, (some ((.s 7), true)), .callv (.s 8) [(.s 13)]⟩, ⟨.slot 15, 37, (some ((.s 7), true)), .mov (.v 3)⟩, ⟨.slot 16, 38, (some ((.s 7), true)), .load true 2 (.v 6)⟩,
 ⟨.slot 17, 39, (some ((.s 7), true)), .callv (.s 15) [(.s 16)]⟩, ⟨.slot 18, 40, (some ((.s 7), true)), .bin false .geq (.s 14) (.s 17)⟩, ⟨.slot 19, 41, (some ((.s 4), false)), .pick (.s 7) (.s 18) (.c (.bool false))⟩, SO 20 42 (.pick (.s 4) (.c (.bool true)) (.s 19))] [] (.cond (.s 20) (.seq (.region false [ VO 4 8 (.mov (.c (.bool false)))]) (.ret)) (.skip))))) (.region false [ PO 43 (.bin false .add (.v 9) (I6 1)), VS 9 17 0])))
def ir53_k0 : List Bool := [true, false, true, true, false, false, false, true, true, true, false]
def ir53_o0 : List Bool := [false, false, false, false, false, false, false, false, false, false, false]
def ir53_r0 : List Bool := [false, false, false, false, true, false, false, false, false, false, false]
def ir53_v : List Nat := [0, 1, 2, 3, 8, 9, 10, 15, 16, 17, 18]
def ir53 : AFn := ⟨4, 11, .seq (.region false [ VO 4 8 (.mov (.c (.bool false)))]) (.seq (.test false [ PM 11 0, PO 12 (.len false (.s 0)), PM 13 1, PO 14 (.bin false .gtr (.s 1) (.s 0))] (.s 0) (.seq (.region false [ VO 4 8 (.mov (.c (.bool false)))]) (.ret)) (.skip)) (.seq (.seq (.region false [ VO 7 15 (.mov (.v 0)), VO 8 16 (.len false (.v 7)), VO 9 17 (.mov (I6 0))]) (.block 0 (.loop ir53_k0 ir53_o0 ir53_r0 ir53_b0))) (.seq (.region false [ VO 4 8 (.mov (.c (.bool true)))]) (.ret)))), [.t 4]⟩
noncomputable def t_50 : List (Nat × Ctr) := [(54, c_48), (55, c_49)]
theorem lk_50_54 : look t_50 54 = some c_48 := rfl
theorem lk_50_55 : look t_50 55 = some c_49 := rfl
noncomputable def c_50 : Ctr := mkF t_50 ir53 [.bor, .bor, .bor, .bor]
theorem s_50 : Sound Try.prog 53 c_50 := mkF_sound _ rfl (snd_cons s_48 (snd_cons s_49 snd_nil)) (by kernel_rfl : chkFn Try.prog 53 ir53 ir53_v = true)
theorem M_50 : c_50.modes = [.bor, .bor, .bor, .bor] := rfl
theorem Fl_50 : c_50.flat = true := rfl
attribute [go_sem] M_50 Fl_50
attribute [go_sem] lk_50_54 lk_50_55
def E_50_l1 (list : List Observer) (t15 : List Observer) (t16 : Int) : Int → St
 | t17 => ⟨[.sl 2 (List.map Observer_av list), .any, .fn (.func 54) [] [], .fn (.func 55) [] [], .any, .any, .any, .sl 2 (List.map Observer_av t15), .int .i64 t16, .int .i64 t17, .any], [], [], true⟩
def R_50_l1 (list : List Observer) (t15 : List Observer) (t16 : Int) : (Unit ⊕ Bool) → Res
 | .inl y => (.exit 0, ⟨[.any, .any, .any, .any, .any, .any, .any, .any, .any, .any, .any], [], [], true⟩)
 | .inr y => (.ret, ⟨[.any, .any, .any, .any, .bool y, .any, .any, .any, .any, .any, .any], [], [], true⟩)
set_option maxHeartbeats 64000000 in
theorem impl_rising_impl_Observer__impl_isObserver__impl_observerName_l1_ex {list : List Observer} {t15 : List Observer} {t16 : Int} {sgm_ : Int} {rho_ : Unit ⊕ Bool} (h : whileE (impl_rising_impl_Observer__impl_isObserver__impl_observerName_l1 list t15 t16) sgm_ = some rho_) : ∃ L0, ∀ L, L0 ≤ L → iter (exec (look t_50) L ir53_b0) ir53_k0 ir53_o0 ir53_r0 L (E_50_l1 list t15 t16 sgm_) = R_50_l1 list t15 t16 rho_ := by
 refine loop_ex (E := E_50_l1 list t15 t16) (R := R_50_l1 list t15 t16) (fun y => by first | (intro c; cases c) | (rcases y with y | y <;> (intro c; cases c)) | (rcases y with y | y | y <;> (intro c; cases c))) ?_ h
 clear h
 intro t17 o_ h
 dsimp only [impl_rising_impl_Observer__impl_isObserver__impl_observerName_l1] at h
 rcases it_some h with ⟨z2, h⟩ | ⟨z2, h⟩
 ·try simp only [go_sem, n1, n2, n3, n4] at z2
  all_goals
  obtain ⟨z3, h⟩ := ck_some h
  have lz3 := ix_lt z3
  have xz3 := getD_mapD Observer_av t15 lz3
  try simp only [go_sem] at lz3
  try simp only [go_sem] at xz3
  try simp only [go_sem, n1, n2, n3, n4, z2] at z3
  all_goals
  obtain ⟨y_4, z4, h⟩ := bd_some h
  have fz4 := Fs_48 z4
  try simp only [go_sem, z2, z3] at fz4
  obtain ⟨z5, h⟩ := ck_some h
  rcases or_split z5 with ⟨gz5, z5⟩ | gz5
  ·try simp only [go_sem, n1, n2, n3, n4, z2, z3] at gz5
   all_goals
   have lz5 := ix_lt z5
   have xz5 := getD_mapD Observer_av list lz5
   try simp only [go_sem] at lz5
   try simp only [go_sem] at xz5
   try simp only [go_sem, n1, n2, n3, n4, z2, z3, gz5] at z5
   all_goals
   obtain ⟨z6, h⟩ := ck_some h
   rcases or_split z6 with ⟨gz6, z6⟩ | gz6
   ·try simp only [go_sem, n1, n2, n3, n4, z2, z3, gz5, z5] at gz6
    all_goals
    obtain ⟨y_6, hz6⟩ := Option.isSome_iff_exists.1 z6
    have fz6 := Fs_49 hz6
    try simp only [go_sem, n1, n2, n3, n4, z2, z3, gz5, z5, gz6] at hz6
    all_goals
    try simp only [go_sem, z2, z3, gz5, z5, gz6] at fz6
    obtain ⟨z7, h⟩ := ck_some h
    rcases or_split z7 with ⟨gz7, z7⟩ | gz7
    ·try simp only [go_sem, n1, n2, n3, n4, z2, z3, gz5, z5, gz6, hz6] at gz7
     all_goals
     obtain ⟨y_7, hz7⟩ := Option.isSome_iff_exists.1 z7
     have fz7 := Fs_49 hz7
     try simp only [go_sem, n1, n2, n3, n4, z2, z3, gz5, z5, gz6, hz6, gz7] at hz7
     all_goals
     try simp only [go_sem, z2, z3, gz5, z5, gz6, hz6, gz7] at fz7
     rcases it_some h with ⟨z8, h⟩ | ⟨z8, h⟩
     ·try simp only [go_sem, n1, n2, n3, n4, z2, z3, gz5, z5, gz6, hz6, gz7, hz7] at z8
      all_goals
      obtain rfl := so_some h
      refine ⟨0, fun L hL => ?_⟩
      simp only [go_sem, ir53, E_50_l1, R_50_l1, ir53_b0, ir53_k0, ir53_o0, ir53_r0, z2, z3, lz3, xz3, fz4, gz5, z5, lz5, xz5, gz6, hz6, fz6, gz7, hz7, fz7, z8]
     ·try simp only [go_sem, n1, n2, n3, n4, z2, z3, gz5, z5, gz6, hz6, gz7, hz7] at z8
      all_goals
      obtain rfl := so_some h
      refine ⟨0, fun L hL => ?_⟩
      simp only [go_sem, ir53, E_50_l1, R_50_l1, ir53_b0, ir53_k0, ir53_o0, ir53_r0, z2, z3, lz3, xz3, fz4, gz5, z5, lz5, xz5, gz6, hz6, fz6, gz7, hz7, fz7, z8]
    ·rcases and_f gz7 with gz7a | ⟨gz7a, gz7b⟩
     ·try simp only [go_sem, n1, n2, n3, n4, z2, z3, gz5, z5, gz6, hz6] at gz7a
      all_goals
      (simp_all)
     ·have gz7an := no_t gz7a
      have gz7ann := no_f gz7an
      try simp only [go_sem, n1, n2, n3, n4, z2, z3, gz5, z5, gz6, hz6] at gz7ann
      all_goals
      try simp only [go_sem, n1, n2, n3, n4, z2, z3, gz5, z5, gz6, hz6, gz7ann] at gz7b
      all_goals
      rcases it_some h with ⟨z8, h⟩ | ⟨z8, h⟩
      ·try simp only [go_sem, n1, n2, n3, n4, z2, z3, gz5, z5, gz6, hz6, gz7ann, gz7b] at z8
       all_goals
       (simp_all)
      ·try simp only [go_sem, n1, n2, n3, n4, z2, z3, gz5, z5, gz6, hz6, gz7ann, gz7b] at z8
       all_goals
       obtain rfl := so_some h
       refine ⟨0, fun L hL => ?_⟩
       simp only [go_sem, ir53, E_50_l1, R_50_l1, ir53_b0, ir53_k0, ir53_o0, ir53_r0, z2, z3, lz3, xz3, fz4, gz5, z5, lz5, xz5, gz6, hz6, fz6, gz7ann, gz7b, z8]
   ·rcases and_f gz6 with gz6a | ⟨gz6a, gz6b⟩
    ·try simp only [go_sem, n1, n2, n3, n4, z2, z3, gz5, z5] at gz6a
     all_goals
     (simp_all)
    ·have gz6an := no_t gz6a
     have gz6ann := no_f gz6an
     try simp only [go_sem, n1, n2, n3, n4, z2, z3, gz5, z5] at gz6ann
     all_goals
     try simp only [go_sem, n1, n2, n3, n4, z2, z3, gz5, z5, gz6ann] at gz6b
     all_goals
     obtain ⟨z7, h⟩ := ck_some h
     rcases or_split z7 with ⟨gz7, z7⟩ | gz7
     ·try simp only [go_sem, n1, n2, n3, n4, z2, z3, gz5, z5, gz6ann, gz6b] at gz7
      all_goals
      obtain ⟨y_7, hz7⟩ := Option.isSome_iff_exists.1 z7
      have fz7 := Fs_49 hz7
      try simp only [go_sem, n1, n2, n3, n4, z2, z3, gz5, z5, gz6ann, gz6b, gz7] at hz7
      all_goals
      try simp only [go_sem, z2, z3, gz5, z5, gz6ann, gz6b, gz7] at fz7
      rcases it_some h with ⟨z8, h⟩ | ⟨z8, h⟩
      ·try simp only [go_sem, n1, n2, n3, n4, z2, z3, gz5, z5, gz6ann, gz6b, gz7, hz7] at z8
       all_goals
       obtain rfl := so_some h
       refine ⟨0, fun L hL => ?_⟩
       simp only [go_sem, ir53, E_50_l1, R_50_l1, ir53_b0, ir53_k0, ir53_o0, ir53_r0, z2, z3, lz3, xz3, fz4, gz5, z5, lz5, xz5, gz6ann, gz6b, gz7, hz7, fz7, z8]
      ·try simp only [go_sem, n1, n2, n3, n4, z2, z3, gz5, z5, gz6ann, gz6b, gz7, hz7] at z8
       all_goals
       obtain rfl := so_some h
       refine ⟨0, fun L hL => ?_⟩
       simp only [go_sem, ir53, E_50_l1, R_50_l1, ir53_b0, ir53_k0, ir53_o0, ir53_r0, z2, z3, lz3, xz3, fz4, gz5, z5, lz5, xz5, gz6ann, gz6b, gz7, hz7, fz7, z8]
     ·rcases and_f gz7 with gz7a | ⟨gz7a, gz7b⟩
      ·try simp only [go_sem, n1, n2, n3, n4, z2, z3, gz5, z5, gz6ann, gz6b] at gz7a
       all_goals
       (simp_all)
      ·have gz7an := no_t gz7a
       have gz7ann := no_f gz7an
       try simp only [go_sem, n1, n2, n3, n4, z2, z3, gz5, z5, gz6ann, gz6b] at gz7ann
       all_goals
       try simp only [go_sem, n1, n2, n3, n4, z2, z3, gz5, z5, gz6ann, gz6b, gz7ann] at gz7b
       all_goals
       rcases it_some h with ⟨z8, h⟩ | ⟨z8, h⟩
       ·try simp only [go_sem, n1, n2, n3, n4, z2, z3, gz5, z5, gz6ann, gz6b, gz7ann, gz7b] at z8
        all_goals
        (simp_all)
       ·try simp only [go_sem, n1, n2, n3, n4, z2, z3, gz5, z5, gz6ann, gz6b, gz7ann, gz7b] at z8
        all_goals
        obtain rfl := so_some h
        refine ⟨0, fun L hL => ?_⟩
        simp only [go_sem, ir53, E_50_l1, R_50_l1, ir53_b0, ir53_k0, ir53_o0, ir53_r0, z2, z3, lz3, xz3, fz4, gz5, z5, lz5, xz5, gz6ann, gz6b, gz7ann, gz7b, z8]
  ·rcases and_f gz5 with gz5a | ⟨gz5a, gz5b⟩
   ·have gz5an := no_f gz5a
    have gz5ann := no_t gz5an
    try simp only [go_sem, n1, n2, n3, n4, z2, z3] at gz5ann
    all_goals
    obtain ⟨z6, h⟩ := ck_some h
    obtain ⟨z7, h⟩ := ck_some h
    rcases it_some h with ⟨z8, h⟩ | ⟨z8, h⟩
    ·try simp only [go_sem, n1, n2, n3, n4, z2, z3, gz5ann] at z8
     all_goals
     obtain rfl := so_some h
     refine ⟨0, fun L hL => ?_⟩
     simp only [go_sem, ir53, E_50_l1, R_50_l1, ir53_b0, ir53_k0, ir53_o0, ir53_r0, z2, z3, lz3, xz3, fz4, gz5ann, z8]
    ·try simp only [go_sem, n1, n2, n3, n4, z2, z3, gz5ann] at z8
     all_goals
     (simp_all)
   ·have gz5an := no_t gz5a
    have gz5ann := no_f gz5an
    try simp only [go_sem, n1, n2, n3, n4, z2, z3] at gz5ann
    all_goals
    try simp only [go_sem, n1, n2, n3, n4, z2, z3, gz5ann] at gz5b
    all_goals
    obtain ⟨z6, h⟩ := ck_some h
    obtain ⟨z7, h⟩ := ck_some h
    rcases it_some h with ⟨z8, h⟩ | ⟨z8, h⟩
    ·try simp only [go_sem, n1, n2, n3, n4, z2, z3, gz5ann, gz5b] at z8
     all_goals
     (simp_all)
    ·try simp only [go_sem, n1, n2, n3, n4, z2, z3, gz5ann, gz5b] at z8
     all_goals
     obtain rfl := so_some h
     refine ⟨0, fun L hL => ?_⟩
     simp only [go_sem, ir53, E_50_l1, R_50_l1, ir53_b0, ir53_k0, ir53_o0, ir53_r0, z2, z3, lz3, xz3, fz4, gz5ann, gz5b, z8]
 ·try simp only [go_sem, n1, n2, n3, n4] at z2
  all_goals
  obtain rfl := so_some h
  refine ⟨0, fun L hL => ?_⟩
  simp only [go_sem, ir53, E_50_l1, R_50_l1, ir53_b0, ir53_k0, ir53_o0, ir53_r0, z2]

set_option maxHeartbeats 64000000 in
theorem Fs_50 {list : List Observer} {most : Int} {y_ : Bool} (h : impl_rising_impl_Observer__impl_isObserver__impl_observerName list most = some y_) : c_50.F [.sl 2 (List.map Observer_av list), .int .i64 most, .fn (.func 54) [] [], .fn (.func 55) [] []] = ⟨true, .bool y_, [.any, .any, .any, .any]⟩ := by
 refine mkF_E rfl ?_
 dsimp only [impl_rising_impl_Observer__impl_isObserver__impl_observerName] at h
 rcases it_some h with ⟨z1, h⟩ | ⟨z1, h⟩
 ·try simp only [go_sem, n1, n2, n3, n4] at z1
  all_goals
  obtain rfl := so_some h
  refine ⟨0, fun L hL => ?_⟩
  simp only [go_sem, ir53, E_50_l1, R_50_l1, ir53_k0, ir53_o0, ir53_r0, z1]
 ·try simp only [go_sem, n1, n2, n3, n4] at z1
  all_goals
  obtain ⟨y_9, z9, h⟩ := bd_some h
  obtain ⟨Lz9, ez9⟩ := impl_rising_impl_Observer__impl_isObserver__impl_observerName_l1_ex z9
  rcases y_9 with y_9a | y_9b
  ·dsimp only at h
   obtain rfl := so_some h
   refine ⟨Lz9, fun L hL => ?_⟩
   have ez9 := ez9 L (by omega)
   try simp only [go_sem, E_50_l1, R_50_l1, ir53_k0, ir53_o0, ir53_r0, z1] at ez9
   simp only [go_sem, ir53, E_50_l1, R_50_l1, ir53_k0, ir53_o0, ir53_r0, z1, ez9]
  ·dsimp only at h
   obtain rfl := so_some h
   refine ⟨Lz9, fun L hL => ?_⟩
   have ez9 := ez9 L (by omega)
   try simp only [go_sem, E_50_l1, R_50_l1, ir53_k0, ir53_o0, ir53_r0, z1] at ez9
   simp only [go_sem, ir53, E_50_l1, R_50_l1, ir53_k0, ir53_o0, ir53_r0, z1, ez9]


def ir34_v : List Nat := [0, 2]
def ir34 : AFn := ⟨1, 2, .seq (.region false [ VO 1 2 (.mov (.c (.bool false)))]) (.seq (.region false [ PM 3 0, PO 4 (.call 53 [(.s 0), (I6 40), (.c (.fn (.func 54) [] [])), (.c (.fn (.func 55) [] []))]), VS 1 2 0]) (.ret)), [.t 1]⟩
noncomputable def t_51 : List (Nat × Ctr) := [(53, c_50)]
theorem lk_51_53 : look t_51 53 = some c_50 := rfl
noncomputable def c_51 : Ctr := mkF t_51 ir34 [.bor]
theorem s_51 : Sound Try.prog 34 c_51 := mkF_sound _ rfl (snd_cons s_50 snd_nil) (by kernel_rfl : chkFn Try.prog 34 ir34 ir34_v = true)
theorem M_51 : c_51.modes = [.bor] := rfl
theorem Fl_51 : c_51.flat = true := rfl
attribute [go_sem] M_51 Fl_51
attribute [go_sem] lk_51_53
theorem Fs_51 {list : List Observer} {y_ : Bool} (h : impl_ValidObservers list = some y_) : c_51.F [.sl 2 (List.map Observer_av list)] = ⟨true, .bool y_, [.any]⟩ := by
 refine mkF_E rfl ?_
 dsimp only [impl_ValidObservers] at h
 obtain ⟨y_1, z1, h⟩ := bd_some h
 have fz1 := Fs_50 z1
 try simp only [go_sem] at fz1
 obtain rfl := so_some h
 refine ⟨0, fun L hL => ?_⟩
 simp only [go_sem, ir34, fz1]


def ir58_v : List Nat := [0, 1, 2, 3]
def ir58 : AFn := ⟨2, 4, .seq (.region false [ VO 2 2 (.box (.v 0)), VO 3 3 (.mov (.c (.bool false)))]) (.seq (.region false [ PO 4 (.fldAddr 0 (.v 2)), PO 5 (.load false 1 (.s 0)), PO 6 (.fldAddr 1 (.v 1)), PO 7 (.load false 1 (.s 0)), PO 8 (.bin false .eql (.s 2) (.s 0)), VS 3 3 0]) (.ret)), [.t 3]⟩
noncomputable def t_52 : List (Nat × Ctr) := []
noncomputable def c_52 : Ctr := mkF t_52 ir58 [.bor, .bor]
theorem s_52 : Sound Try.prog 58 c_52 := mkF_sound _ rfl snd_nil (by kernel_rfl : chkFn Try.prog 58 ir58 ir58_v = true)
theorem M_52 : c_52.modes = [.bor, .bor] := rfl
theorem Fl_52 : c_52.flat = true := rfl
attribute [go_sem] M_52 Fl_52
theorem Fs_52 {x : Star} {t1 : Estimate} {y_ : Bool} (h : impl_kindsOf_c2 x t1 = some y_) : c_52.F [Star_av x, .ptr 5 [Estimate_av t1] 0 0] = ⟨true, .bool y_, [.any, .any]⟩ := by
 refine mkF_E rfl ?_
 dsimp only [impl_kindsOf_c2] at h
 obtain rfl := so_some h
 refine ⟨0, fun L hL => ?_⟩
 simp only [go_sem, ir58]


def ir73_b0 : IR := .seq (.region false [ VO 6 9 (.bin false .lss (.v 5) (.v 4))]) (.seq (.cond (.v 6) (.skip) (.exit 0)) (.seq (.block 1 (.seq (.region false [ PM 10 5, VS 3 5 0]) (.test false [ PM 11 1, PM 12 0, PM 13 3, PO 14 (.ixAddr 5 (.s 1) (.s 0)), PO 15 (.load true 5 (.s 0)), PO 16 (.callv (.s 4) [(.s 0)])] (.s 0) (.seq (.region false [ PM 17 3, VS 2 4 0]) (.ret)) (.skip)))) (.region false [ PO 18 (.bin false .add (.v 5) (I6 1)), VS 5 8 0])))
def ir73_k0 : List Bool := [true, true, false, false, true, true, false]
def ir73_o0 : List Bool := [false, false, false, false, false, false, false]
def ir73_r0 : List Bool := [false, false, true, false, false, false, false]
def ir73_v : List Nat := [0, 1, 4, 5, 7, 8, 9]
def ir73 : AFn := ⟨2, 7, .seq (.region false [ VO 2 4 (.mov (I6 0))]) (.seq (.seq (.region false [ PM 6 0, VO 4 7 (.len false (.s 0)), VO 5 8 (.mov (I6 0))]) (.block 0 (.loop ir73_k0 ir73_o0 ir73_r0 ir73_b0))) (.seq (.region false [ VO 2 4 (.mov (.c (.int .i64 (-1))))]) (.ret))), [.t 2]⟩
noncomputable def t_53 : List (Nat × Ctr) := [(58, c_52)]
theorem lk_53_58 : look t_53 58 = some c_52 := rfl
noncomputable def c_53 : Ctr := mkF t_53 ir73 [.bor, .bor]
theorem s_53 : Sound Try.prog 73 c_53 := mkF_sound _ rfl (snd_cons s_52 snd_nil) (by kernel_rfl : chkFn Try.prog 73 ir73 ir73_v = true)
theorem M_53 : c_53.modes = [.bor, .bor] := rfl
theorem Fl_53 : c_53.flat = true := rfl
attribute [go_sem] M_53 Fl_53
attribute [go_sem] lk_53_58
def E_53_l1 (s_ : List Star) (c : Estimate) (t7 : Int) : Int → St
 | t8 => ⟨[.sl 5 (List.map Star_av s_), .fn (.func 58) [] [.ptr 5 [Estimate_av c] 0 0], .any, .any, .int .i64 t7, .int .i64 t8, .any], [], [], true⟩
def R_53_l1 (s_ : List Star) (c : Estimate) (t7 : Int) : (Unit ⊕ Int) → Res
 | .inl y => (.exit 0, ⟨[.any, .any, .any, .any, .any, .any, .any], [], [], true⟩)
 | .inr y => (.ret, ⟨[.any, .any, .int .i64 y, .any, .any, .any, .any], [], [], true⟩)
theorem slices_IndexFunc_impl_Star_impl_Star__impl_kindsOf_c2_l1_ex {s_ : List Star} {c : Estimate} {t7 : Int} {sgm_ : Int} {rho_ : Unit ⊕ Int} (h : whileE (slices_IndexFunc_impl_Star_impl_Star__impl_kindsOf_c2_l1 s_ c t7) sgm_ = some rho_) : ∃ L0, ∀ L, L0 ≤ L → iter (exec (look t_53) L ir73_b0) ir73_k0 ir73_o0 ir73_r0 L (E_53_l1 s_ c t7 sgm_) = R_53_l1 s_ c t7 rho_ := by
 refine loop_ex (E := E_53_l1 s_ c t7) (R := R_53_l1 s_ c t7) (fun y => by first | (intro c; cases c) | (rcases y with y | y <;> (intro c; cases c)) | (rcases y with y | y | y <;> (intro c; cases c))) ?_ h
 clear h
 intro t8 o_ h
 dsimp only [slices_IndexFunc_impl_Star_impl_Star__impl_kindsOf_c2_l1] at h
 rcases it_some h with ⟨z1, h⟩ | ⟨z1, h⟩
 ·try simp only [go_sem, n1, n2, n3, n4] at z1
  all_goals
  obtain ⟨z2, h⟩ := ck_some h
  have lz2 := ix_lt z2
  have xz2 := getD_mapD Star_av s_ lz2
  try simp only [go_sem] at lz2
  try simp only [go_sem] at xz2
  try simp only [go_sem, n1, n2, n3, n4, z1] at z2
  all_goals
  obtain ⟨y_3, z3, h⟩ := bd_some h
  have fz3 := Fs_52 z3
  try simp only [go_sem, z1, z2] at fz3
  rcases it_some h with ⟨z4, h⟩ | ⟨z4, h⟩
  ·try simp only [go_sem, n1, n2, n3, n4, z1, z2] at z4
   all_goals
   obtain rfl := so_some h
   refine ⟨0, fun L hL => ?_⟩
   simp only [go_sem, ir73, E_53_l1, R_53_l1, ir73_b0, ir73_k0, ir73_o0, ir73_r0, z1, z2, lz2, xz2, fz3, z4]
  ·try simp only [go_sem, n1, n2, n3, n4, z1, z2] at z4
   all_goals
   obtain rfl := so_some h
   refine ⟨0, fun L hL => ?_⟩
   simp only [go_sem, ir73, E_53_l1, R_53_l1, ir73_b0, ir73_k0, ir73_o0, ir73_r0, z1, z2, lz2, xz2, fz3, z4]
 ·try simp only [go_sem, n1, n2, n3, n4] at z1
  all_goals
  obtain rfl := so_some h
  refine ⟨0, fun L hL => ?_⟩
  simp only [go_sem, ir73, E_53_l1, R_53_l1, ir73_b0, ir73_k0, ir73_o0, ir73_r0, z1]

theorem Fs_53 {s_ : List Star} {f_c0 : Estimate} {y_ : Int} (h : slices_IndexFunc_impl_Star_impl_Star__impl_kindsOf_c2 s_ f_c0 = some y_) : c_53.F [.sl 5 (List.map Star_av s_), .fn (.func 58) [] [.ptr 5 [Estimate_av f_c0] 0 0]] = ⟨true, .int .i64 y_, [.any, .any]⟩ := by
 refine mkF_E rfl ?_
 dsimp only [slices_IndexFunc_impl_Star_impl_Star__impl_kindsOf_c2] at h
 obtain ⟨y_5, z5, h⟩ := bd_some h
 obtain ⟨Lz5, ez5⟩ := slices_IndexFunc_impl_Star_impl_Star__impl_kindsOf_c2_l1_ex z5
 rcases y_5 with y_5a | y_5b
 ·dsimp only at h
  obtain rfl := so_some h
  refine ⟨Lz5, fun L hL => ?_⟩
  have ez5 := ez5 L (by omega)
  try simp only [go_sem, E_53_l1, R_53_l1, ir73_k0, ir73_o0, ir73_r0] at ez5
  simp only [go_sem, ir73, E_53_l1, R_53_l1, ir73_k0, ir73_o0, ir73_r0, ez5]
 ·dsimp only at h
  obtain rfl := so_some h
  refine ⟨Lz5, fun L hL => ?_⟩
  have ez5 := ez5 L (by omega)
  try simp only [go_sem, E_53_l1, R_53_l1, ir73_k0, ir73_o0, ir73_r0] at ez5
  simp only [go_sem, ir73, E_53_l1, R_53_l1, ir73_k0, ir73_o0, ir73_r0, ez5]


def ir57_v : List Nat := [0, 1, 4, 5, 6]
def ir57 : AFn := ⟨2, 5, .seq (.region false [ VO 2 4 (.mov (I6 0)), VO 3 5 (.mov (I6 0))]) (.seq (.seq (.region false [ PM 7 0, PM 8 1, PO 9 (.call 73 [(.s 1), (.s 0)]), VS 4 6 0]) (.test false [ PM 10 4, PO 11 (.bin false .geq (.s 0) (I6 0))] (.s 0) (.seq (.region false [ PM 12 4, VS 2 4 0, VO 3 5 (.mov (I6 0))]) (.ret)) (.skip))) (.seq (.region false [ VO 2 4 (.mov (I6 0)), VO 3 5 (.mov (I6 3))]) (.ret))), [.t 2, .t 3]⟩
noncomputable def t_54 : List (Nat × Ctr) := [(73, c_53)]
theorem lk_54_73 : look t_54 73 = some c_53 := rfl
noncomputable def c_54 : Ctr := mkF t_54 ir57 [.bor, .bor]
theorem s_54 : Sound Try.prog 57 c_54 := mkF_sound _ rfl (snd_cons s_53 snd_nil) (by kernel_rfl : chkFn Try.prog 57 ir57 ir57_v = true)
theorem M_54 : c_54.modes = [.bor, .bor] := rfl
theorem Fl_54 : c_54.flat = true := rfl
attribute [go_sem] M_54 Fl_54
attribute [go_sem] lk_54_73
theorem Fs_54 {list : List Star} {wanted_c0 : Estimate} {y_ : Int × Int} (h : impl_indexOf_impl_Star__impl_kindsOf_c2 list wanted_c0 = some y_) : c_54.F [.sl 5 (List.map Star_av list), .fn (.func 58) [] [.ptr 5 [Estimate_av wanted_c0] 0 0]] = ⟨true, .tup [.int .i64 y_.1, .int .i64 y_.2], [.any, .any]⟩ := by
 refine mkF_E rfl ?_
 dsimp only [impl_indexOf_impl_Star__impl_kindsOf_c2] at h
 obtain ⟨y_1, z1, h⟩ := bd_some h
 have fz1 := Fs_53 z1
 try simp only [go_sem] at fz1
 rcases it_some h with ⟨z2, h⟩ | ⟨z2, h⟩
 ·try simp only [go_sem, n1, n2, n3, n4] at z2
  all_goals
  obtain rfl := so_some h
  refine ⟨0, fun L hL => ?_⟩
  simp only [go_sem, ir57, fz1, z2]
 ·try simp only [go_sem, n1, n2, n3, n4] at z2
  all_goals
  obtain rfl := so_some h
  refine ⟨0, fun L hL => ?_⟩
  simp only [go_sem, ir57, fz1, z2]


def ir75_v : List Nat := [0, 1, 2, 3]
def ir75 : AFn := ⟨2, 4, .seq (.region false [ VO 2 2 (.box (.v 0)), VO 3 3 (.mov (.c (.bool false)))]) (.seq (.region false [ PO 4 (.fldAddr 0 (.v 2)), PO 5 (.load false 1 (.s 0)), PO 6 (.load false 1 (.v 1)), PO 7 (.bin false .eql (.s 1) (.s 0)), VS 3 3 0]) (.ret)), [.t 3]⟩
noncomputable def t_55 : List (Nat × Ctr) := []
noncomputable def c_55 : Ctr := mkF t_55 ir75 [.bor, .bor]
theorem s_55 : Sound Try.prog 75 c_55 := mkF_sound _ rfl snd_nil (by kernel_rfl : chkFn Try.prog 75 ir75 ir75_v = true)
theorem M_55 : c_55.modes = [.bor, .bor] := rfl
theorem Fl_55 : c_55.flat = true := rfl
attribute [go_sem] M_55 Fl_55
theorem Fs_55 {x : Observer} {t1 : List UInt8} {y_ : Bool} (h : impl_findObserver_c1 x t1 = some y_) : c_55.F [Observer_av x, .ptr 1 [.str t1] 0 0] = ⟨true, .bool y_, [.any, .any]⟩ := by
 refine mkF_E rfl ?_
 dsimp only [impl_findObserver_c1] at h
 obtain rfl := so_some h
 refine ⟨0, fun L hL => ?_⟩
 simp only [go_sem, ir75]


def ir81_b0 : IR := .seq (.region false [ VO 6 9 (.bin false .lss (.v 5) (.v 4))]) (.seq (.cond (.v 6) (.skip) (.exit 0)) (.seq (.block 1 (.seq (.region false [ PM 10 5, VS 3 5 0]) (.test false [ PM 11 1, PM 12 0, PM 13 3, PO 14 (.ixAddr 2 (.s 1) (.s 0)), PO 15 (.load true 2 (.s 0)), PO 16 (.callv (.s 4) [(.s 0)])] (.s 0) (.seq (.region false [ PM 17 3, VS 2 4 0]) (.ret)) (.skip)))) (.region false [ PO 18 (.bin false .add (.v 5) (I6 1)), VS 5 8 0])))
def ir81_k0 : List Bool := [true, true, false, false, true, true, false]
def ir81_o0 : List Bool := [false, false, false, false, false, false, false]
def ir81_r0 : List Bool := [false, false, true, false, false, false, false]
def ir81_v : List Nat := [0, 1, 4, 5, 7, 8, 9]
def ir81 : AFn := ⟨2, 7, .seq (.region false [ VO 2 4 (.mov (I6 0))]) (.seq (.seq (.region false [ PM 6 0, VO 4 7 (.len false (.s 0)), VO 5 8 (.mov (I6 0))]) (.block 0 (.loop ir81_k0 ir81_o0 ir81_r0 ir81_b0))) (.seq (.region false [ VO 2 4 (.mov (.c (.int .i64 (-1))))]) (.ret))), [.t 2]⟩
noncomputable def t_56 : List (Nat × Ctr) := [(75, c_55)]
theorem lk_56_75 : look t_56 75 = some c_55 := rfl
noncomputable def c_56 : Ctr := mkF t_56 ir81 [.bor, .bor]
theorem s_56 : Sound Try.prog 81 c_56 := mkF_sound _ rfl (snd_cons s_55 snd_nil) (by kernel_rfl : chkFn Try.prog 81 ir81 ir81_v = true)
theorem M_56 : c_56.modes = [.bor, .bor] := rfl
theorem Fl_56 : c_56.flat = true := rfl
attribute [go_sem] M_56 Fl_56
attribute [go_sem] lk_56_75
def E_56_l1 (s_ : List Observer) (c : List UInt8) (t7 : Int) : Int → St
 | t8 => ⟨[.sl 2 (List.map Observer_av s_), .fn (.func 75) [] [.ptr 1 [.str c] 0 0], .any, .any, .int .i64 t7, .int .i64 t8, .any], [], [], true⟩
def R_56_l1 (s_ : List Observer) (c : List UInt8) (t7 : Int) : (Unit ⊕ Int) → Res
 | .inl y => (.exit 0, ⟨[.any, .any, .any, .any, .any, .any, .any], [], [], true⟩)
 | .inr y => (.ret, ⟨[.any, .any, .int .i64 y, .any, .any, .any, .any], [], [], true⟩)
theorem slices_IndexFunc_impl_Observer_impl_Observer__impl_findObserver_c1_l1_ex {s_ : List Observer} {c : List UInt8} {t7 : Int} {sgm_ : Int} {rho_ : Unit ⊕ Int} (h : whileE (slices_IndexFunc_impl_Observer_impl_Observer__impl_findObserver_c1_l1 s_ c t7) sgm_ = some rho_) : ∃ L0, ∀ L, L0 ≤ L → iter (exec (look t_56) L ir81_b0) ir81_k0 ir81_o0 ir81_r0 L (E_56_l1 s_ c t7 sgm_) = R_56_l1 s_ c t7 rho_ := by
 refine loop_ex (E := E_56_l1 s_ c t7) (R := R_56_l1 s_ c t7) (fun y => by first | (intro c; cases c) | (rcases y with y | y <;> (intro c; cases c)) | (rcases y with y | y | y <;> (intro c; cases c))) ?_ h
 clear h
 intro t8 o_ h
 dsimp only [slices_IndexFunc_impl_Observer_impl_Observer__impl_findObserver_c1_l1] at h
 rcases it_some h with ⟨z1, h⟩ | ⟨z1, h⟩
 ·try simp only [go_sem, n1, n2, n3, n4] at z1
  all_goals
  obtain ⟨z2, h⟩ := ck_some h
  have lz2 := ix_lt z2
  have xz2 := getD_mapD Observer_av s_ lz2
  try simp only [go_sem] at lz2
  try simp only [go_sem] at xz2
  try simp only [go_sem, n1, n2, n3, n4, z1] at z2
  all_goals
  obtain ⟨y_3, z3, h⟩ := bd_some h
  have fz3 := Fs_55 z3
  try simp only [go_sem, z1, z2] at fz3
  rcases it_some h with ⟨z4, h⟩ | ⟨z4, h⟩
  ·try simp only [go_sem, n1, n2, n3, n4, z1, z2] at z4
   all_goals
   obtain rfl := so_some h
   refine ⟨0, fun L hL => ?_⟩
   simp only [go_sem, ir81, E_56_l1, R_56_l1, ir81_b0, ir81_k0, ir81_o0, ir81_r0, z1, z2, lz2, xz2, fz3, z4]
  ·try simp only [go_sem, n1, n2, n3, n4, z1, z2] at z4
   all_goals
   obtain rfl := so_some h
   refine ⟨0, fun L hL => ?_⟩
   simp only [go_sem, ir81, E_56_l1, R_56_l1, ir81_b0, ir81_k0, ir81_o0, ir81_r0, z1, z2, lz2, xz2, fz3, z4]
 ·try simp only [go_sem, n1, n2, n3, n4] at z1
  all_goals
  obtain rfl := so_some h
  refine ⟨0, fun L hL => ?_⟩
  simp only [go_sem, ir81, E_56_l1, R_56_l1, ir81_b0, ir81_k0, ir81_o0, ir81_r0, z1]

theorem Fs_56 {s_ : List Observer} {f_c0 : List UInt8} {y_ : Int} (h : slices_IndexFunc_impl_Observer_impl_Observer__impl_findObserver_c1 s_ f_c0 = some y_) : c_56.F [.sl 2 (List.map Observer_av s_), .fn (.func 75) [] [.ptr 1 [.str f_c0] 0 0]] = ⟨true, .int .i64 y_, [.any, .any]⟩ := by
 refine mkF_E rfl ?_
 dsimp only [slices_IndexFunc_impl_Observer_impl_Observer__impl_findObserver_c1] at h
 obtain ⟨y_5, z5, h⟩ := bd_some h
 obtain ⟨Lz5, ez5⟩ := slices_IndexFunc_impl_Observer_impl_Observer__impl_findObserver_c1_l1_ex z5
 rcases y_5 with y_5a | y_5b
 ·dsimp only at h
  obtain rfl := so_some h
  refine ⟨Lz5, fun L hL => ?_⟩
  have ez5 := ez5 L (by omega)
  try simp only [go_sem, E_56_l1, R_56_l1, ir81_k0, ir81_o0, ir81_r0] at ez5
  simp only [go_sem, ir81, E_56_l1, R_56_l1, ir81_k0, ir81_o0, ir81_r0, ez5]
 ·dsimp only at h
  obtain rfl := so_some h
  refine ⟨Lz5, fun L hL => ?_⟩
  have ez5 := ez5 L (by omega)
  try simp only [go_sem, E_56_l1, R_56_l1, ir81_k0, ir81_o0, ir81_r0] at ez5
  simp only [go_sem, ir81, E_56_l1, R_56_l1, ir81_k0, ir81_o0, ir81_r0, ez5]


def ir74_v : List Nat := [0, 1, 4, 5, 6]
def ir74 : AFn := ⟨2, 5, .seq (.region false [ VO 2 4 (.mov (I6 0)), VO 3 5 (.mov (I6 0))]) (.seq (.seq (.region false [ PM 7 0, PM 8 1, PO 9 (.call 81 [(.s 1), (.s 0)]), VS 4 6 0]) (.test false [ PM 10 4, PO 11 (.bin false .geq (.s 0) (I6 0))] (.s 0) (.seq (.region false [ PM 12 4, VS 2 4 0, VO 3 5 (.mov (I6 0))]) (.ret)) (.skip))) (.seq (.region false [ VO 2 4 (.mov (I6 0)), VO 3 5 (.mov (I6 3))]) (.ret))), [.t 2, .t 3]⟩
noncomputable def t_57 : List (Nat × Ctr) := [(81, c_56)]
theorem lk_57_81 : look t_57 81 = some c_56 := rfl
noncomputable def c_57 : Ctr := mkF t_57 ir74 [.bor, .bor]
theorem s_57 : Sound Try.prog 74 c_57 := mkF_sound _ rfl (snd_cons s_56 snd_nil) (by kernel_rfl : chkFn Try.prog 74 ir74 ir74_v = true)
theorem M_57 : c_57.modes = [.bor, .bor] := rfl
theorem Fl_57 : c_57.flat = true := rfl
attribute [go_sem] M_57 Fl_57
attribute [go_sem] lk_57_81
theorem Fs_57 {list : List Observer} {wanted_c0 : List UInt8} {y_ : Int × Int} (h : impl_indexOf_impl_Observer__impl_findObserver_c1 list wanted_c0 = some y_) : c_57.F [.sl 2 (List.map Observer_av list), .fn (.func 75) [] [.ptr 1 [.str wanted_c0] 0 0]] = ⟨true, .tup [.int .i64 y_.1, .int .i64 y_.2], [.any, .any]⟩ := by
 refine mkF_E rfl ?_
 dsimp only [impl_indexOf_impl_Observer__impl_findObserver_c1] at h
 obtain ⟨y_1, z1, h⟩ := bd_some h
 have fz1 := Fs_56 z1
 try simp only [go_sem] at fz1
 rcases it_some h with ⟨z2, h⟩ | ⟨z2, h⟩
 ·try simp only [go_sem, n1, n2, n3, n4] at z2
  all_goals
  obtain rfl := so_some h
  refine ⟨0, fun L hL => ?_⟩
  simp only [go_sem, ir74, fz1, z2]
 ·try simp only [go_sem, n1, n2, n3, n4] at z2
  all_goals
  obtain rfl := so_some h
  refine ⟨0, fun L hL => ?_⟩
  simp only [go_sem, ir74, fz1, z2]


def ir59_v : List Nat := [0, 1, 3, 4, 5]
def ir59 : AFn := ⟨2, 5, .seq (.region false [ VO 2 3 (.box (.v 1)), VO 3 4 (.mov (I6 0)), VO 4 5 (.mov (I6 0))]) (.seq (.region false [ PM 6 0, PO 7 (.mkFn (.func 75) [] [(.v 2)]), PO 8 (.call 74 [(.s 1), (.s 0)]), PO 9 (.ext (.s 0) 0), PO 10 (.ext (.s 1) 1), VS 3 4 1, VS 4 5 0]) (.ret)), [.t 3, .t 4]⟩
noncomputable def t_58 : List (Nat × Ctr) := [(74, c_57)]
theorem lk_58_74 : look t_58 74 = some c_57 := rfl
noncomputable def c_58 : Ctr := mkF t_58 ir59 [.bor, .bor]
theorem s_58 : Sound Try.prog 59 c_58 := mkF_sound _ rfl (snd_cons s_57 snd_nil) (by kernel_rfl : chkFn Try.prog 59 ir59 ir59_v = true)
theorem M_58 : c_58.modes = [.bor, .bor] := rfl
theorem Fl_58 : c_58.flat = true := rfl
attribute [go_sem] M_58 Fl_58
attribute [go_sem] lk_58_74
theorem Fs_58 {list : List Observer} {name : List UInt8} {y_ : Int × Int} (h : impl_findObserver list name = some y_) : c_58.F [.sl 2 (List.map Observer_av list), .str name] = ⟨true, .tup [.int .i64 y_.1, .int .i64 y_.2], [.any, .any]⟩ := by
 refine mkF_E rfl ?_
 dsimp only [impl_findObserver] at h
 obtain ⟨y_1, z1, h⟩ := bd_some h
 have fz1 := Fs_57 z1
 try simp only [go_sem] at fz1
 obtain rfl := so_some h
 refine ⟨0, fun L hL => ?_⟩
 simp only [go_sem, ir59, fz1]


def ir61_v : List Nat := [0, 1, 2, 3]
def ir61 : AFn := ⟨2, 4, .seq (.region false [ VO 2 2 (.box (.v 0)), VO 3 3 (.mov (.c (.bool false)))]) (.seq (.region false [ PO 4 (.fldAddr 1 (.v 2)), PO 5 (.load false 1 (.s 0)), PO 6 (.fldAddr 1 (.v 1)), PO 7 (.load false 1 (.s 0)), PO 8 (.bin false .eql (.s 2) (.s 0)), PO 9 (.mov (.s 0)), ⟨.push, 10, (some ((.s 0), true)), .fldAddr 2 (.v 2)⟩, ⟨.push, 11, (some ((.s 1), true)), .load false 1 (.s 0)⟩, ⟨.push, 12, (some ((.s 2), true)), .fldAddr 2 (.v 1)⟩, ⟨.push, 13, (some ((.s 3), true)), .load false 1 (.s 0)⟩, ⟨.push, 14, (some ((.s 4), true)), .bin false .eql (.s 2) (.s 0)⟩, PO 15 (.pick
 (.s 5) (.s 0) (.c (.bool false))), PO 16 (.mov (.s 0)), ⟨.push, 17, (some ((.s 0), true)), .fldAddr 0 (.v 1)⟩, ⟨.push, 18, (some ((.s 1), true)), .load false 1 (.s 0)⟩, ⟨.push, 19, (some ((.s 2), true)), .fldAddr 0 (.v 2)⟩, ⟨.push, 20, (some ((.s 3), true)), .load false 1 (.s 0)⟩, ⟨.push, 21, (some ((.s 4), true)), .bin false .sub (.s 2) (.s 0)⟩, ⟨.push, 22, (some ((.s 5), true)), .bin false .lss (.s 0) (I6 100)⟩, PO 23 (.pick (.s 6) (.s 0) (.c (.bool false))), VS 3 3 0]) (.ret)), [.t 3]⟩
noncomputable def t_59 : List (Nat × Ctr) := []
noncomputable def c_59 : Ctr := mkF t_59 ir61 [.bor, .bor]
theorem s_59 : Sound Try.prog 61 c_59 := mkF_sound _ rfl snd_nil (by kernel_rfl : chkFn Try.prog 61 ir61 ir61_v = true)
theorem M_59 : c_59.modes = [.bor, .bor] := rfl
theorem Fl_59 : c_59.flat = true := rfl
attribute [go_sem] M_59 Fl_59
theorem Fs_59 {x : Estimate} {t1 : Estimate} {y_ : Bool} (h : impl_kindsOf_c3 x t1 = some y_) : c_59.F [Estimate_av x, .ptr 5 [Estimate_av t1] 0 0] = ⟨true, .bool y_, [.any, .any]⟩ := by
 refine mkF_E rfl ?_
 dsimp only [impl_kindsOf_c3] at h
 obtain rfl := so_some h
 refine ⟨0, fun L hL => ?_⟩
 simp only [go_sem, ir61]


def ir76_b0 : IR := .seq (.region false [ VO 6 9 (.bin false .lss (.v 5) (.v 4))]) (.seq (.cond (.v 6) (.skip) (.exit 0)) (.seq (.block 1 (.seq (.region false [ PM 10 5, VS 3 5 0]) (.test false [ PM 11 1, PM 12 0, PM 13 3, PO 14 (.ixAddr 5 (.s 1) (.s 0)), PO 15 (.load true 5 (.s 0)), PO 16 (.callv (.s 4) [(.s 0)])] (.s 0) (.seq (.region false [ PM 17 3, VS 2 4 0]) (.ret)) (.skip)))) (.region false [ PO 18 (.bin false .add (.v 5) (I6 1)), VS 5 8 0])))
def ir76_k0 : List Bool := [true, true, false, false, true, true, false]
def ir76_o0 : List Bool := [false, false, false, false, false, false, false]
def ir76_r0 : List Bool := [false, false, true, false, false, false, false]
def ir76_v : List Nat := [0, 1, 4, 5, 7, 8, 9]
def ir76 : AFn := ⟨2, 7, .seq (.region false [ VO 2 4 (.mov (I6 0))]) (.seq (.seq (.region false [ PM 6 0, VO 4 7 (.len false (.s 0)), VO 5 8 (.mov (I6 0))]) (.block 0 (.loop ir76_k0 ir76_o0 ir76_r0 ir76_b0))) (.seq (.region false [ VO 2 4 (.mov (.c (.int .i64 (-1))))]) (.ret))), [.t 2]⟩
noncomputable def t_60 : List (Nat × Ctr) := [(61, c_59)]
theorem lk_60_61 : look t_60 61 = some c_59 := rfl
noncomputable def c_60 : Ctr := mkF t_60 ir76 [.bor, .bor]
theorem s_60 : Sound Try.prog 76 c_60 := mkF_sound _ rfl (snd_cons s_59 snd_nil) (by kernel_rfl : chkFn Try.prog 76 ir76 ir76_v = true)
theorem M_60 : c_60.modes = [.bor, .bor] := rfl
theorem Fl_60 : c_60.flat = true := rfl
attribute [go_sem] M_60 Fl_60
attribute [go_sem] lk_60_61
def E_60_l1 (s_ : List Estimate) (c : Estimate) (t7 : Int) : Int → St
 | t8 => ⟨[.sl 5 (List.map Estimate_av s_), .fn (.func 61) [] [.ptr 5 [Estimate_av c] 0 0], .any, .any, .int .i64 t7, .int .i64 t8, .any], [], [], true⟩
def R_60_l1 (s_ : List Estimate) (c : Estimate) (t7 : Int) : (Unit ⊕ Int) → Res
 | .inl y => (.exit 0, ⟨[.any, .any, .any, .any, .any, .any, .any], [], [], true⟩)
 | .inr y => (.ret, ⟨[.any, .any, .int .i64 y, .any, .any, .any, .any], [], [], true⟩)
theorem slices_IndexFunc_impl_Estimate_impl_Estimate__impl_kindsOf_c3_l1_ex {s_ : List Estimate} {c : Estimate} {t7 : Int} {sgm_ : Int} {rho_ : Unit ⊕ Int} (h : whileE (slices_IndexFunc_impl_Estimate_impl_Estimate__impl_kindsOf_c3_l1 s_ c t7) sgm_ = some rho_) : ∃ L0, ∀ L, L0 ≤ L → iter (exec (look t_60) L ir76_b0) ir76_k0 ir76_o0 ir76_r0 L (E_60_l1 s_ c t7 sgm_) = R_60_l1 s_ c t7 rho_ := by
 refine loop_ex (E := E_60_l1 s_ c t7) (R := R_60_l1 s_ c t7) (fun y => by first | (intro c; cases c) | (rcases y with y | y <;> (intro c; cases c)) | (rcases y with y | y | y <;> (intro c; cases c))) ?_ h
 clear h
 intro t8 o_ h
 dsimp only [slices_IndexFunc_impl_Estimate_impl_Estimate__impl_kindsOf_c3_l1] at h
 rcases it_some h with ⟨z1, h⟩ | ⟨z1, h⟩
 ·try simp only [go_sem, n1, n2, n3, n4] at z1
  all_goals
  obtain ⟨z2, h⟩ := ck_some h
  have lz2 := ix_lt z2
  have xz2 := getD_mapD Estimate_av s_ lz2
  try simp only [go_sem] at lz2
  try simp only [go_sem] at xz2
  try simp only [go_sem, n1, n2, n3, n4, z1] at z2
  all_goals
  obtain ⟨y_3, z3, h⟩ := bd_some h
  have fz3 := Fs_59 z3
  try simp only [go_sem, z1, z2] at fz3
  rcases it_some h with ⟨z4, h⟩ | ⟨z4, h⟩
  ·try simp only [go_sem, n1, n2, n3, n4, z1, z2] at z4
   all_goals
   obtain rfl := so_some h
   refine ⟨0, fun L hL => ?_⟩
   simp only [go_sem, ir76, E_60_l1, R_60_l1, ir76_b0, ir76_k0, ir76_o0, ir76_r0, z1, z2, lz2, xz2, fz3, z4]
  ·try simp only [go_sem, n1, n2, n3, n4, z1, z2] at z4
   all_goals
   obtain rfl := so_some h
   refine ⟨0, fun L hL => ?_⟩
   simp only [go_sem, ir76, E_60_l1, R_60_l1, ir76_b0, ir76_k0, ir76_o0, ir76_r0, z1, z2, lz2, xz2, fz3, z4]
 ·try simp only [go_sem, n1, n2, n3, n4] at z1
  all_goals
  obtain rfl := so_some h
  refine ⟨0, fun L hL => ?_⟩
  simp only [go_sem, ir76, E_60_l1, R_60_l1, ir76_b0, ir76_k0, ir76_o0, ir76_r0, z1]

theorem Fs_60 {s_ : List Estimate} {f_c0 : Estimate} {y_ : Int} (h : slices_IndexFunc_impl_Estimate_impl_Estimate__impl_kindsOf_c3 s_ f_c0 = some y_) : c_60.F [.sl 5 (List.map Estimate_av s_), .fn (.func 61) [] [.ptr 5 [Estimate_av f_c0] 0 0]] = ⟨true, .int .i64 y_, [.any, .any]⟩ := by
 refine mkF_E rfl ?_
 dsimp only [slices_IndexFunc_impl_Estimate_impl_Estimate__impl_kindsOf_c3] at h
 obtain ⟨y_5, z5, h⟩ := bd_some h
 obtain ⟨Lz5, ez5⟩ := slices_IndexFunc_impl_Estimate_impl_Estimate__impl_kindsOf_c3_l1_ex z5
 rcases y_5 with y_5a | y_5b
 ·dsimp only at h
  obtain rfl := so_some h
  refine ⟨Lz5, fun L hL => ?_⟩
  have ez5 := ez5 L (by omega)
  try simp only [go_sem, E_60_l1, R_60_l1, ir76_k0, ir76_o0, ir76_r0] at ez5
  simp only [go_sem, ir76, E_60_l1, R_60_l1, ir76_k0, ir76_o0, ir76_r0, ez5]
 ·dsimp only at h
  obtain rfl := so_some h
  refine ⟨Lz5, fun L hL => ?_⟩
  have ez5 := ez5 L (by omega)
  try simp only [go_sem, E_60_l1, R_60_l1, ir76_k0, ir76_o0, ir76_r0] at ez5
  simp only [go_sem, ir76, E_60_l1, R_60_l1, ir76_k0, ir76_o0, ir76_r0, ez5]


def ir60_v : List Nat := [0, 1, 4]
def ir60 : AFn := ⟨2, 3, .seq (.region false [ VO 2 4 (.mov (.c (.bool false)))]) (.seq (.region false [ PM 5 0, PM 6 1, PO 7 (.call 76 [(.s 1), (.s 0)]), PO 8 (.bin false .geq (.s 0) (I6 0)), VS 2 4 0]) (.ret)), [.t 2]⟩
noncomputable def t_61 : List (Nat × Ctr) := [(76, c_60)]
theorem lk_61_76 : look t_61 76 = some c_60 := rfl
noncomputable def c_61 : Ctr := mkF t_61 ir60 [.bor, .bor]
theorem s_61 : Sound Try.prog 60 c_61 := mkF_sound _ rfl (snd_cons s_60 snd_nil) (by kernel_rfl : chkFn Try.prog 60 ir60 ir60_v = true)
theorem M_61 : c_61.modes = [.bor, .bor] := rfl
theorem Fl_61 : c_61.flat = true := rfl
attribute [go_sem] M_61 Fl_61
attribute [go_sem] lk_61_76
theorem Fs_61 {s_ : List Estimate} {f_c0 : Estimate} {y_ : Bool} (h : slices_ContainsFunc_impl_Estimate_impl_Estimate__impl_kindsOf_c3 s_ f_c0 = some y_) : c_61.F [.sl 5 (List.map Estimate_av s_), .fn (.func 61) [] [.ptr 5 [Estimate_av f_c0] 0 0]] = ⟨true, .bool y_, [.any, .any]⟩ := by
 refine mkF_E rfl ?_
 dsimp only [slices_ContainsFunc_impl_Estimate_impl_Estimate__impl_kindsOf_c3] at h
 obtain ⟨y_1, z1, h⟩ := bd_some h
 have fz1 := Fs_60 z1
 try simp only [go_sem] at fz1
 obtain rfl := so_some h
 refine ⟨0, fun L hL => ?_⟩
 simp only [go_sem, ir60, fz1]



end Go.Proofs.Ythbnoddeifedkaa
