/- Codes and contracts of the functions that LO reaches, and that their typed forms say what they do. No condition. -/
import Derived.Test.YtaeefegkmachmaaDoorEngLogOf
import Derived.Test.YtaeefegkmachmaaDoorRows
import Derived.WalkKit
namespace Go.Proofs.YtaeefegkmachmaaDoor
open Go Go.RowKit
set_option linter.unusedVariables false
set_option linter.unusedSimpArgs false
set_option maxRecDepth 10000

def ir21_v : List Nat := [0, 1, 2, 3, 4]
def ir21 : AFn := ⟨2, 5, .seq (.region false [ VO 2 2 (.box (.v 0)), VO 3 3 (.box (.v 1)), VO 4 4 (.mov (.c (.bool false)))]) (.seq (.test false [ PO 5 (.fldAddr 0 (.v 2)), PO 6 (.load false 1 (.s 0)), PO 7 (.fldAddr 0 (.v 3)), PO 8 (.load false 1 (.s 0)), PO 9 (.bin false .neq (.s 2) (.s 0))] (.s 0) (.seq (.region false [ VO 4 4 (.mov (.c (.bool false)))]) (.ret)) (.skip)) (.seq (.test false [ PO 10 (.fldAddr 1 (.v 2)), PO 11 (.load false 1 (.s 0)), PO 12 (.fldAddr 1 (.v 3)), PO 13 (.load false 1 (.s 0)), PO 14 (.bin false .neq (.s 2) (.s 0))] (.s 0) (.seq (.region false [ VO 4 4 (.mov (.c
 (.bool false)))]) (.ret)) (.skip)) (.seq (.test false [ PO 15 (.fldAddr 2 (.v 2)), PO 16 (.load false 1 (.s 0)), PO 17 (.fldAddr 2 (.v 3)), PO 18 (.load false 1 (.s 0)), PO 19 (.bin false .neq (.s 2) (.s 0))] (.s 0) (.seq (.region false [ VO 4 4 (.mov (.c (.bool false)))]) (.ret)) (.skip)) (.seq (.region false [ VO 4 4 (.mov (.c (.bool true)))]) (.ret))))), [.t 4]⟩
noncomputable def t_29 : List (Nat × Ctr) := []
noncomputable def c_29 : Ctr := mkF t_29 ir21 [.bor, .bor]
theorem s_29 : Sound Tryd.prog 21 c_29 := mkF_sound _ rfl snd_nil (by kernel_rfl : chkFn Tryd.prog 21 ir21 ir21_v = true)
theorem M_29 : c_29.modes = [.bor, .bor] := rfl
theorem Fl_29 : c_29.flat = true := rfl
attribute [go_sem] M_29 Fl_29
theorem Fs_29 {a : Entry} {b : Entry} {y_ : Bool} (h : laws_eqEntry a b = some y_) : c_29.F [Entry_av a, Entry_av b] = ⟨true, .bool y_, [.any, .any]⟩ := by
 refine mkF_E rfl ?_
 dsimp only [laws_eqEntry] at h
 rcases it_some h with ⟨z1, h⟩ | ⟨z1, h⟩
 ·try simp only [go_sem, n1, n2, n3, n4] at z1
  all_goals
  obtain rfl := so_some h
  refine ⟨0, fun L hL => ?_⟩
  simp only [go_sem, ir21, z1]
 ·try simp only [go_sem, n1, n2, n3, n4] at z1
  all_goals
  rcases it_some h with ⟨z2, h⟩ | ⟨z2, h⟩
  ·try simp only [go_sem, n1, n2, n3, n4, z1] at z2
   all_goals
   obtain rfl := so_some h
   refine ⟨0, fun L hL => ?_⟩
   simp only [go_sem, ir21, z1, z2]
  ·try simp only [go_sem, n1, n2, n3, n4, z1] at z2
   all_goals
   rcases it_some h with ⟨z3, h⟩ | ⟨z3, h⟩
   ·try simp only [go_sem, n1, n2, n3, n4, z1, z2] at z3
    all_goals
    obtain rfl := so_some h
    refine ⟨0, fun L hL => ?_⟩
    simp only [go_sem, ir21, z1, z2, z3]
   ·try simp only [go_sem, n1, n2, n3, n4, z1, z2] at z3
    all_goals
    obtain rfl := so_some h
    refine ⟨0, fun L hL => ?_⟩
    simp only [go_sem, ir21, z1, z2, z3]


def ir8_b0 : IR := .seq (.test false [ PM 11 3, PM 12 0, PO 13 (.len false (.s 0)), PO 14 (.bin false .lss (.s 2) (.s 0))] (.s 0) (.skip) (.exit 0)) (.seq (.block 1 (.anyo 10 [ SO 0 17 (.mov (.v 0)), SO 1 18 (.mov (.v 3)), SO 2 19 (.ixAddr 3 (.s 0) (.s 1)), SO 3 20 (.load true 3 (.s 2)), SO 4 21 (.mov (.v 1)), SO 5 22 (.mov (.v 3)), SO 6 23 (.ixAddr 3 (.s 4) (.s 5)), SO 7 24 (.load true 3 (.s 6)), SO 8 25 (.callp 21 [(.s 3), (.s 7)]), SO 9 26 (.un .not (.s 8))] [] (.cond (.s 9) (.seq (.region false [ VO 2 4 (.mov (.c (.bool false)))]) (.ret)) (.skip)))) (.region false [ PM 15 3, PO 16 (.bin
 false .add (.s 0) (I6 1)), VS 3 5 0]))
def ir8_k0 : List Bool := [true, true, false, true]
def ir8_o0 : List Bool := [false, false, false, false]
def ir8_r0 : List Bool := [false, false, true, false]
def ir8_v : List Nat := [0, 1, 4, 5]
def ir8 : AFn := ⟨2, 4, .seq (.region false [ VO 2 4 (.mov (.c (.bool false)))]) (.seq (.test false [ PM 6 0, PO 7 (.len false (.s 0)), PM 8 1, PO 9 (.len false (.s 0)), PO 10 (.bin false .neq (.s 2) (.s 0))] (.s 0) (.seq (.region false [ VO 2 4 (.mov (.c (.bool false)))]) (.ret)) (.skip)) (.seq (.seq (.region false [ VO 3 5 (.mov (I6 0))]) (.block 0 (.loop ir8_k0 ir8_o0 ir8_r0 ir8_b0))) (.seq (.region false [ VO 2 4 (.mov (.c (.bool true)))]) (.ret)))), [.t 2]⟩
noncomputable def t_30 : List (Nat × Ctr) := [(21, c_29)]
theorem lk_30_21 : look t_30 21 = some c_29 := rfl
noncomputable def c_30 : Ctr := mkF t_30 ir8 [.bor, .bor]
theorem s_30 : Sound Tryd.prog 8 c_30 := mkF_sound _ rfl (snd_cons s_29 snd_nil) (by kernel_rfl : chkFn Tryd.prog 8 ir8 ir8_v = true)
theorem M_30 : c_30.modes = [.bor, .bor] := rfl
theorem Fl_30 : c_30.flat = true := rfl
attribute [go_sem] M_30 Fl_30
attribute [go_sem] lk_30_21
def E_30_l1 (a : List Entry) (b : List Entry) : Int → St
 | i => ⟨[.sl 3 (List.map Entry_av a), .sl 3 (List.map Entry_av b), .any, .int .i64 i], [], [], true⟩
def R_30_l1 (a : List Entry) (b : List Entry) : (Unit ⊕ Bool) → Res
 | .inl y => (.exit 0, ⟨[.any, .any, .any, .any], [], [], true⟩)
 | .inr y => (.ret, ⟨[.any, .any, .bool y, .any], [], [], true⟩)
theorem laws_eqEntryS_l1_ex {a : List Entry} {b : List Entry} {sgm_ : Int} {rho_ : Unit ⊕ Bool} (h : whileE (laws_eqEntryS_l1 a b) sgm_ = some rho_) : ∃ L0, ∀ L, L0 ≤ L → iter (exec (look t_30) L ir8_b0) ir8_k0 ir8_o0 ir8_r0 L (E_30_l1 a b sgm_) = R_30_l1 a b rho_ := by
 refine loop_ex (E := E_30_l1 a b) (R := R_30_l1 a b) (fun y => by first | (intro c; cases c) | (rcases y with y | y <;> (intro c; cases c)) | (rcases y with y | y | y <;> (intro c; cases c))) ?_ h
 clear h
 intro i o_ h
 dsimp only [laws_eqEntryS_l1] at h
 rcases it_some h with ⟨z2, h⟩ | ⟨z2, h⟩
 ·try simp only [go_sem, n1, n2, n3, n4] at z2
  all_goals
  obtain ⟨z3, h⟩ := ck_some h
  have lz3 := ix_lt z3
  have xz3 := getD_mapD Entry_av a lz3
  try simp only [go_sem] at lz3
  try simp only [go_sem] at xz3
  try simp only [go_sem, n1, n2, n3, n4, z2] at z3
  all_goals
  obtain ⟨z4, h⟩ := ck_some h
  have lz4 := ix_lt z4
  have xz4 := getD_mapD Entry_av b lz4
  try simp only [go_sem] at lz4
  try simp only [go_sem] at xz4
  try simp only [go_sem, n1, n2, n3, n4, z2, z3] at z4
  all_goals
  obtain ⟨y_5, z5, h⟩ := bd_some h
  have fz5 := Fs_29 z5
  try simp only [go_sem, z2, z3, z4] at fz5
  rcases it_some h with ⟨z6, h⟩ | ⟨z6, h⟩
  ·try simp only [go_sem, n1, n2, n3, n4, z2, z3, z4] at z6
   all_goals
   obtain rfl := so_some h
   refine ⟨0, fun L hL => ?_⟩
   simp only [go_sem, ir8, E_30_l1, R_30_l1, ir8_b0, ir8_k0, ir8_o0, ir8_r0, z2, z3, lz3, xz3, z4, lz4, xz4, fz5, z6]
  ·try simp only [go_sem, n1, n2, n3, n4, z2, z3, z4] at z6
   all_goals
   obtain rfl := so_some h
   refine ⟨0, fun L hL => ?_⟩
   simp only [go_sem, ir8, E_30_l1, R_30_l1, ir8_b0, ir8_k0, ir8_o0, ir8_r0, z2, z3, lz3, xz3, z4, lz4, xz4, fz5, z6]
 ·try simp only [go_sem, n1, n2, n3, n4] at z2
  all_goals
  obtain rfl := so_some h
  refine ⟨0, fun L hL => ?_⟩
  simp only [go_sem, ir8, E_30_l1, R_30_l1, ir8_b0, ir8_k0, ir8_o0, ir8_r0, z2]

theorem Fs_30 {a : List Entry} {b : List Entry} {y_ : Bool} (h : laws_eqEntryS a b = some y_) : c_30.F [.sl 3 (List.map Entry_av a), .sl 3 (List.map Entry_av b)] = ⟨true, .bool y_, [.any, .any]⟩ := by
 refine mkF_E rfl ?_
 dsimp only [laws_eqEntryS] at h
 rcases it_some h with ⟨z1, h⟩ | ⟨z1, h⟩
 ·try simp only [go_sem, n1, n2, n3, n4] at z1
  all_goals
  obtain rfl := so_some h
  refine ⟨0, fun L hL => ?_⟩
  simp only [go_sem, ir8, E_30_l1, R_30_l1, ir8_k0, ir8_o0, ir8_r0, z1]
 ·try simp only [go_sem, n1, n2, n3, n4] at z1
  all_goals
  obtain ⟨y_7, z7, h⟩ := bd_some h
  obtain ⟨Lz7, ez7⟩ := laws_eqEntryS_l1_ex z7
  rcases y_7 with y_7a | y_7b
  ·dsimp only at h
   obtain rfl := so_some h
   refine ⟨Lz7, fun L hL => ?_⟩
   have ez7 := ez7 L (by omega)
   try simp only [go_sem, E_30_l1, R_30_l1, ir8_k0, ir8_o0, ir8_r0, z1] at ez7
   simp only [go_sem, ir8, E_30_l1, R_30_l1, ir8_k0, ir8_o0, ir8_r0, z1, ez7]
  ·dsimp only at h
   obtain rfl := so_some h
   refine ⟨Lz7, fun L hL => ?_⟩
   have ez7 := ez7 L (by omega)
   try simp only [go_sem, E_30_l1, R_30_l1, ir8_k0, ir8_o0, ir8_r0, z1] at ez7
   simp only [go_sem, ir8, E_30_l1, R_30_l1, ir8_k0, ir8_o0, ir8_r0, z1, ez7]


def ir3_v : List Nat := [0, 2, 3, 4, 5, 6, 7, 8]
def ir3 : AFn := ⟨1, 8, .seq (.region false [ VO 1 2 (.mov (.c (.bool false)))]) (.seq (.region false [ VO 2 3 (.mov (I6 1048576))]) (.seq (.region false [ PM 9 0, PM 10 2, PO 11 (.call 4 [(.s 1), (.s 0)]), VS 2 3 0]) (.seq (.test false [ PM 12 2, PO 13 (.bin false .lss (.s 0) (I6 0))] (.s 0) (.seq (.region false [ VO 1 2 (.mov (.c (.bool true)))]) (.ret)) (.skip)) (.seq (.region false [ PM 15 0, PO 16 (.call 6 [(.s 0)]), PO 17 (.call 5 [(.s 0)]), PO 14 (.mov (.s 0)), PO 18 (.ext (.s 0) 0), PO 19 (.ext (.s 1) 1), VS 3 4 1, VS 4 5 0]) (.seq (.region false [ PM 20 0, PO 21 (.call 6 [(.s 0)]), VS
 5 6 0]) (.seq (.region false [ PM 23 5, PO 24 (.call 7 [(.s 0)]), PO 22 (.mov (.s 0)), PO 25 (.ext (.s 0) 0), PO 26 (.ext (.s 1) 1), VS 6 7 1, VS 7 8 0]) (.seq (.test false [ PM 27 6, PM 28 3, PO 29 (.bin false .neq (.s 1) (.s 0)), PO 30 (.mov (.s 0)), ⟨.push, 31, (some ((.s 0), false)), .mov (.v 7)⟩, ⟨.push, 32, (some ((.s 1), false)), .mov (.v 4)⟩, ⟨.push, 33, (some ((.s 2), false)), .bin false .neq (.s 1) (.s 0)⟩, PO 34 (.pick (.s 3) (.c (.bool true)) (.s 0))] (.s 0) (.seq (.region false [ VO 1 2 (.mov (.c (.bool false)))]) (.ret)) (.skip)) (.seq (.test false [ PM 35 5, PM 36 0, PO 37
 (.call 6 [(.s 0)]), PO 38 (.call 8 [(.s 2), (.s 0)]), PO 39 (.un .not (.s 0))] (.s 0) (.seq (.region false [ VO 1 2 (.mov (.c (.bool false)))]) (.ret)) (.skip)) (.seq (.region false [ VO 1 2 (.mov (.c (.bool true)))]) (.ret)))))))))), [.t 1]⟩
noncomputable def t_laws_FnExactLogOf : List (Nat × Ctr) := [(4, c_1), (6, c_3), (5, c_15), (7, c_impl_LogOf), (8, c_30)]
theorem lk_laws_FnExactLogOf_4 : look t_laws_FnExactLogOf 4 = some c_1 := rfl
theorem lk_laws_FnExactLogOf_6 : look t_laws_FnExactLogOf 6 = some c_3 := rfl
theorem lk_laws_FnExactLogOf_5 : look t_laws_FnExactLogOf 5 = some c_15 := rfl
theorem lk_laws_FnExactLogOf_7 : look t_laws_FnExactLogOf 7 = some c_impl_LogOf := rfl
theorem lk_laws_FnExactLogOf_8 : look t_laws_FnExactLogOf 8 = some c_30 := rfl
noncomputable def c_laws_FnExactLogOf : Ctr := mkF t_laws_FnExactLogOf ir3 [.bor]
theorem s_laws_FnExactLogOf : Sound Tryd.prog 3 c_laws_FnExactLogOf := mkF_sound _ rfl (snd_cons s_1 (snd_cons s_3 (snd_cons s_15 (snd_cons s_impl_LogOf (snd_cons s_30 snd_nil))))) (by kernel_rfl : chkFn Tryd.prog 3 ir3 ir3_v = true)
theorem M_laws_FnExactLogOf : c_laws_FnExactLogOf.modes = [.bor] := rfl
theorem Fl_laws_FnExactLogOf : c_laws_FnExactLogOf.flat = true := rfl
attribute [go_sem] M_laws_FnExactLogOf Fl_laws_FnExactLogOf
attribute [go_sem] lk_laws_FnExactLogOf_4 lk_laws_FnExactLogOf_6 lk_laws_FnExactLogOf_5 lk_laws_FnExactLogOf_7 lk_laws_FnExactLogOf_8
theorem Fs_laws_FnExactLogOf {aList : List Entry} {y_ : Bool} (h : laws_FnExactLogOf aList = some y_) : c_laws_FnExactLogOf.F [.sl 3 (List.map Entry_av aList)] = ⟨true, .bool y_, [.any]⟩ := by
 refine mkF_E rfl ?_
 dsimp only [laws_FnExactLogOf] at h
 obtain ⟨y_1, z1, h⟩ := bd_some h
 have fz1 := Fs_1 z1
 try simp only [go_sem] at fz1
 rcases it_some h with ⟨z2, h⟩ | ⟨z2, h⟩
 ·try simp only [go_sem, n1, n2, n3, n4] at z2
  all_goals
  obtain rfl := so_some h
  refine ⟨0, fun L hL => ?_⟩
  simp only [go_sem, ir3, fz1, z2]
 ·try simp only [go_sem, n1, n2, n3, n4] at z2
  all_goals
  obtain ⟨y_3, z3, h⟩ := bd_some h
  have fz3 := Fs_3 z3
  try simp only [go_sem, z2] at fz3
  obtain ⟨y_4, z4, h⟩ := bd_some h
  have fz4 := Fs_15 z4
  try simp only [go_sem, z2] at fz4
  obtain ⟨y_5, z5, h⟩ := bd_some h
  have fz5 := Fs_impl_LogOf z5
  try simp only [go_sem, z2] at fz5
  rcases it_some h with ⟨z6, h⟩ | ⟨z6, h⟩
  ·try simp only [go_sem, n1, n2, n3, n4, z2] at z6
   all_goals
   obtain rfl := so_some h
   refine ⟨0, fun L hL => ?_⟩
   simp only [go_sem, ir3, fz1, z2, fz3, fz4, fz5, z6]
  ·try simp only [go_sem, n1, n2, n3, n4, z2] at z6
   all_goals
   obtain ⟨y_7, z7, h⟩ := bd_some h
   have fz7 := Fs_30 z7
   try simp only [go_sem, z2, z6] at fz7
   rcases it_some h with ⟨z8, h⟩ | ⟨z8, h⟩
   ·try simp only [go_sem, n1, n2, n3, n4, z2, z6] at z8
    all_goals
    obtain rfl := so_some h
    refine ⟨0, fun L hL => ?_⟩
    simp only [go_sem, ir3, fz1, z2, fz3, fz4, fz5, z6, fz7, z8]
   ·try simp only [go_sem, n1, n2, n3, n4, z2, z6] at z8
    all_goals
    obtain rfl := so_some h
    refine ⟨0, fun L hL => ?_⟩
    simp only [go_sem, ir3, fz1, z2, fz3, fz4, fz5, z6, fz7, z8]


end Go.Proofs.YtaeefegkmachmaaDoor
