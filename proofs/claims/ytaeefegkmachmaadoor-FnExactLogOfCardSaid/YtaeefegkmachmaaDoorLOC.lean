/- Codes and contracts of the functions that LO reaches, and that their typed forms say what they do. No condition. -/
import Derived.Test.YtaeefegkmachmaaDoorLOT
import Derived.Test.YtaeefegkmachmaaDoorEngSF
import Derived.Test.YtaeefegkmachmaaDoorRows
import Derived.WalkKit
namespace Go.Proofs.YtaeefegkmachmaaDoor
open Go Go.RowKit
set_option linter.unusedVariables false
set_option linter.unusedSimpArgs false
set_option maxRecDepth 10000

def ir9_v : List Nat := [0, 1, 2, 4]
def ir9 : AFn := ⟨2, 4, .seq (.region false [ VO 2 2 (.box (.v 0)), VO 3 4 (.mov (I6 0))]) (.seq (.region false [ PM 5 1, PO 6 (.fldAddr 1 (.v 2)), PO 7 (.load false 1 (.s 0)), PO 8 (.len true (.s 0)), PO 9 (.bin false .sub (.s 3) (.s 0)), VS 1 1 0]) (.seq (.test false [ PM 10 1, PO 11 (.bin false .lss (.s 0) (I6 0))] (.s 0) (.seq (.region false [ VO 3 4 (.mov (.c (.int .i64 (-1))))]) (.ret)) (.skip)) (.seq (.region false [ PM 12 1, VS 3 4 0]) (.ret)))), [.t 3]⟩
noncomputable def t_0 : List (Nat × Ctr) := []
noncomputable def c_0 : Ctr := mkF t_0 ir9 [.bor, .bor]
theorem s_0 : Sound Tryd.prog 9 c_0 := mkF_sound _ rfl snd_nil (by kernel_rfl : chkFn Tryd.prog 9 ir9 ir9_v = true)
theorem M_0 : c_0.modes = [.bor, .bor] := rfl
theorem Fl_0 : c_0.flat = true := rfl
attribute [go_sem] M_0 Fl_0
theorem Fs_0 {a : Entry} {left_ : Int} {y_ : Int} (h : laws_szEntry a left_ = some y_) : c_0.F [Entry_av a, .int .i64 left_] = ⟨true, .int .i64 y_, [.any, .any]⟩ := by
 refine mkF_E rfl ?_
 dsimp only [laws_szEntry] at h
 rcases it_some h with ⟨z1, h⟩ | ⟨z1, h⟩
 ·try simp only [go_sem, n1, n2, n3, n4] at z1
  all_goals
  obtain rfl := so_some h
  refine ⟨0, fun L hL => ?_⟩
  simp only [go_sem, ir9, z1]
 ·try simp only [go_sem, n1, n2, n3, n4] at z1
  all_goals
  obtain rfl := so_some h
  refine ⟨0, fun L hL => ?_⟩
  simp only [go_sem, ir9, z1]


def ir4_b0 : IR := .seq (.test false [ PM 12 3, PM 13 0, PO 14 (.len false (.s 0)), PO 15 (.bin false .lss (.s 2) (.s 0))] (.s 0) (.skip) (.exit 0)) (.seq (.block 1 (.seq (.region false [ PM 18 0, PM 19 3, PO 20 (.ixAddr 3 (.s 1) (.s 0)), PO 21 (.load true 3 (.s 0)), PM 22 1, PO 23 (.call 9 [(.s 1), (.s 0)]), VS 1 1 0]) (.test false [ PM 24 1, PO 25 (.bin false .lss (.s 0) (I6 0))] (.s 0) (.seq (.region false [ VO 2 4 (.mov (.c (.int .i64 (-1))))]) (.ret)) (.skip)))) (.region false [ PM 16 3, PO 17 (.bin false .add (.s 0) (I6 1)), VS 3 5 0]))
def ir4_k0 : List Bool := [true, true, false, true]
def ir4_o0 : List Bool := [false, true, false, false]
def ir4_r0 : List Bool := [false, false, true, false]
def ir4_v : List Nat := [0, 1, 4, 5]
def ir4 : AFn := ⟨2, 4, .seq (.region false [ VO 2 4 (.mov (I6 0))]) (.seq (.region false [ PM 6 1, PM 7 0, PO 8 (.len false (.s 0)), PO 9 (.bin false .sub (.s 2) (.s 0)), VS 1 1 0]) (.seq (.test false [ PM 10 1, PO 11 (.bin false .lss (.s 0) (I6 0))] (.s 0) (.seq (.region false [ VO 2 4 (.mov (.c (.int .i64 (-1))))]) (.ret)) (.skip)) (.seq (.seq (.region false [ VO 3 5 (.mov (I6 0))]) (.block 0 (.loop ir4_k0 ir4_o0 ir4_r0 ir4_b0))) (.seq (.region false [ PM 26 1, VS 2 4 0]) (.ret))))), [.t 2]⟩
noncomputable def t_1 : List (Nat × Ctr) := [(9, c_0)]
theorem lk_1_9 : look t_1 9 = some c_0 := rfl
noncomputable def c_1 : Ctr := mkF t_1 ir4 [.bor, .bor]
theorem s_1 : Sound Tryd.prog 4 c_1 := mkF_sound _ rfl (snd_cons s_0 snd_nil) (by kernel_rfl : chkFn Tryd.prog 4 ir4 ir4_v = true)
theorem M_1 : c_1.modes = [.bor, .bor] := rfl
theorem Fl_1 : c_1.flat = true := rfl
attribute [go_sem] M_1 Fl_1
attribute [go_sem] lk_1_9
def E_1_l1 (a : List Entry) : (Int × Int) → St
 | (left_, i) => ⟨[.sl 3 (List.map Entry_av a), .int .i64 left_, .any, .int .i64 i], [], [], true⟩
def R_1_l1 (a : List Entry) : (Int ⊕ Int) → Res
 | .inl y => (.exit 0, ⟨[.any, .int .i64 y, .any, .any], [], [], true⟩)
 | .inr y => (.ret, ⟨[.any, .any, .int .i64 y, .any], [], [], true⟩)
theorem laws_szEntryS_l1_ex {a : List Entry} {sgm_ : Int × Int} {rho_ : Int ⊕ Int} (h : whileE (laws_szEntryS_l1 a) sgm_ = some rho_) : ∃ L0, ∀ L, L0 ≤ L → iter (exec (look t_1) L ir4_b0) ir4_k0 ir4_o0 ir4_r0 L (E_1_l1 a sgm_) = R_1_l1 a rho_ := by
 refine loop_ex (E := E_1_l1 a) (R := R_1_l1 a) (fun y => by first | (intro c; cases c) | (rcases y with y | y <;> (intro c; cases c)) | (rcases y with y | y | y <;> (intro c; cases c))) ?_ h
 clear h
 rintro ⟨left_, i⟩ o_ h
 dsimp only [laws_szEntryS_l1] at h
 rcases it_some h with ⟨z2, h⟩ | ⟨z2, h⟩
 ·try simp only [go_sem, n1, n2, n3, n4] at z2
  all_goals
  obtain ⟨z3, h⟩ := ck_some h
  have lz3 := ix_lt z3
  have xz3 := getD_mapD Entry_av a lz3
  try simp only [go_sem] at lz3
  try simp only [go_sem] at xz3
  try simp only [go_sem, n1, n2, n3, n4, z2] at z3
  all_goals
  obtain ⟨y_4, z4, h⟩ := bd_some h
  have fz4 := Fs_0 z4
  try simp only [go_sem, z2, z3] at fz4
  rcases it_some h with ⟨z5, h⟩ | ⟨z5, h⟩
  ·try simp only [go_sem, n1, n2, n3, n4, z2, z3] at z5
   all_goals
   obtain rfl := so_some h
   refine ⟨0, fun L hL => ?_⟩
   simp only [go_sem, ir4, E_1_l1, R_1_l1, ir4_b0, ir4_k0, ir4_o0, ir4_r0, z2, z3, lz3, xz3, fz4, z5]
  ·try simp only [go_sem, n1, n2, n3, n4, z2, z3] at z5
   all_goals
   obtain rfl := so_some h
   refine ⟨0, fun L hL => ?_⟩
   simp only [go_sem, ir4, E_1_l1, R_1_l1, ir4_b0, ir4_k0, ir4_o0, ir4_r0, z2, z3, lz3, xz3, fz4, z5]
 ·try simp only [go_sem, n1, n2, n3, n4] at z2
  all_goals
  obtain rfl := so_some h
  refine ⟨0, fun L hL => ?_⟩
  simp only [go_sem, ir4, E_1_l1, R_1_l1, ir4_b0, ir4_k0, ir4_o0, ir4_r0, z2]

theorem Fs_1 {a : List Entry} {left_ : Int} {y_ : Int} (h : laws_szEntryS a left_ = some y_) : c_1.F [.sl 3 (List.map Entry_av a), .int .i64 left_] = ⟨true, .int .i64 y_, [.any, .any]⟩ := by
 refine mkF_E rfl ?_
 dsimp only [laws_szEntryS] at h
 rcases it_some h with ⟨z1, h⟩ | ⟨z1, h⟩
 ·try simp only [go_sem, n1, n2, n3, n4] at z1
  all_goals
  obtain rfl := so_some h
  refine ⟨0, fun L hL => ?_⟩
  simp only [go_sem, ir4, E_1_l1, R_1_l1, ir4_k0, ir4_o0, ir4_r0, z1]
 ·try simp only [go_sem, n1, n2, n3, n4] at z1
  all_goals
  obtain ⟨y_6, z6, h⟩ := bd_some h
  obtain ⟨Lz6, ez6⟩ := laws_szEntryS_l1_ex z6
  rcases y_6 with y_6a | y_6b
  ·dsimp only at h
   obtain rfl := so_some h
   refine ⟨Lz6, fun L hL => ?_⟩
   have ez6 := ez6 L (by omega)
   try simp only [go_sem, E_1_l1, R_1_l1, ir4_k0, ir4_o0, ir4_r0, z1] at ez6
   simp only [go_sem, ir4, E_1_l1, R_1_l1, ir4_k0, ir4_o0, ir4_r0, z1, ez6]
  ·dsimp only at h
   obtain rfl := so_some h
   refine ⟨Lz6, fun L hL => ?_⟩
   have ez6 := ez6 L (by omega)
   try simp only [go_sem, E_1_l1, R_1_l1, ir4_k0, ir4_o0, ir4_r0, z1] at ez6
   simp only [go_sem, ir4, E_1_l1, R_1_l1, ir4_k0, ir4_o0, ir4_r0, z1, ez6]


def ir12_v : List Nat := [0, 1, 2, 3]
def ir12 : AFn := ⟨1, 4, .seq (.region false [ VO 1 1 (.box (.v 0)), VO 2 2 (.alloc (.agg [.int .i64 (0), .str [], .int .i64 (0)]))]) (.seq (.region false [ VO 3 3 (.alloc (.agg [.int .i64 (0), .str [], .int .i64 (0)]))]) (.seq (.region false [ PO 4 (.fldAddr 0 (.v 1)), PO 5 (.load false 1 (.s 0)), PO 6 (.fldAddr 0 (.v 3)), ⟨.no, 0, none, .store 1 (.s 0) (.s 1)⟩]) (.seq (.region false [ PO 7 (.fldAddr 1 (.v 1)), PO 8 (.load false 1 (.s 0)), PO 9 (.fldAddr 1 (.v 3)), ⟨.no, 0, none, .store 1 (.s 0) (.s 1)⟩]) (.seq (.region false [ PO 10 (.fldAddr 2 (.v 1)), PO 11 (.load false 1 (.s 0)), PO 12
 (.fldAddr 2 (.v 3)), ⟨.no, 0, none, .store 1 (.s 0) (.s 1)⟩]) (.seq (.region false [ PO 13 (.load true 3 (.v 3)), ⟨.no, 0, none, .store 3 (.v 2) (.s 0)⟩]) (.ret)))))), [.cell true 3 2]⟩
noncomputable def t_2 : List (Nat × Ctr) := []
noncomputable def c_2 : Ctr := mkN t_2 ir12 [.bor]
theorem s_2 : Sound Tryd.prog 12 c_2 := mkN_sound _ snd_nil (by kernel_rfl : chkFn Tryd.prog 12 ir12 ir12_v = true)
theorem M_2 : c_2.modes = [.bor] := rfl
theorem Fl_2 : c_2.flat = false := rfl
attribute [go_sem] M_2 Fl_2
theorem Fs_2 {a : Entry} {y_ : Entry} (h : laws_toEntry a = some y_) : c_2.F [Entry_av a] = ⟨true, Entry_av y_, [.any]⟩ := by
 refine mkN_E ?_
 dsimp only [laws_toEntry] at h
 obtain rfl := so_some h
 refine ⟨0, fun L hL => ?_⟩
 simp only [go_sem, ir12]


def ir6_b0 : IR := .seq (.test false [ PM 8 3, PM 9 0, PO 10 (.len false (.s 0)), PO 11 (.bin false .lss (.s 2) (.s 0))] (.s 0) (.skip) (.exit 0)) (.seq (.block 1 (.region false [ PM 14 2, PM 15 3, PM 16 0, PM 17 3, PO 18 (.ixAddr 3 (.s 1) (.s 0)), PO 19 (.load true 3 (.s 0)), PO 20 (.call 12 [(.s 0)]), PO 21 (.ixAddr 3 (.s 6) (.s 5)), ⟨.no, 0, none, .store 3 (.s 0) (.s 1)⟩])) (.region false [ PM 12 3, PO 13 (.bin false .add (.s 0) (I6 1)), VS 3 4 0]))
def ir6_k0 : List Bool := [true, false, true, true]
def ir6_o0 : List Bool := [false, false, true, false]
def ir6_r0 : List Bool := [false, true, false, false]
def ir6_v : List Nat := [0, 2, 3, 4]
def ir6 : AFn := ⟨1, 4, .seq (.region false [ VO 1 2 (.newnil 3)]) (.seq (.region false [ PM 5 0, PO 6 (.len false (.s 0)), PO 7 (.make 3 32 (.agg [.int .i64 (0), .str [], .int .i64 (0)]) (.s 0) (.s 0)), VS 2 3 0]) (.seq (.seq (.region false [ VO 3 4 (.mov (I6 0))]) (.block 0 (.loop ir6_k0 ir6_o0 ir6_r0 ir6_b0))) (.seq (.region false [ PM 22 2, VS 1 2 0]) (.ret)))), [.t 1]⟩
noncomputable def t_3 : List (Nat × Ctr) := [(12, c_2)]
theorem lk_3_12 : look t_3 12 = some c_2 := rfl
noncomputable def c_3 : Ctr := mkF t_3 ir6 [.bor]
theorem s_3 : Sound Tryd.prog 6 c_3 := mkF_sound _ rfl (snd_cons s_2 snd_nil) (by kernel_rfl : chkFn Tryd.prog 6 ir6 ir6_v = true)
theorem M_3 : c_3.modes = [.bor] := rfl
theorem Fl_3 : c_3.flat = true := rfl
attribute [go_sem] M_3 Fl_3
attribute [go_sem] lk_3_12
def E_3_l1 (a : List Entry) : ((List Entry) × Int) → St
 | (out, i) => ⟨[.sl 3 (List.map Entry_av a), .any, .own 3200000, .int .i64 i], [], [(3200000, ⟨3, List.map Entry_av out⟩)], true⟩
def R_3_l1 (a : List Entry) (y : (List Entry)) : Res := (.exit 0, ⟨[.any, .any, .own 3200000, .any], [], [(3200000, ⟨3, List.map Entry_av y⟩)], true⟩)
theorem laws_toEntryS_l1_ex {a : List Entry} {sgm_ : (List Entry) × Int} {rho_ : (List Entry)} (h : whileE (laws_toEntryS_l1 a) sgm_ = some rho_) : ∃ L0, ∀ L, L0 ≤ L → iter (exec (look t_3) L ir6_b0) ir6_k0 ir6_o0 ir6_r0 L (E_3_l1 a sgm_) = R_3_l1 a rho_ := by
 refine loop_ex (E := E_3_l1 a) (R := R_3_l1 a) (fun y => by first | (intro c; cases c) | (rcases y with y | y <;> (intro c; cases c)) | (rcases y with y | y | y <;> (intro c; cases c))) ?_ h
 clear h
 rintro ⟨out, i⟩ o_ h
 dsimp only [laws_toEntryS_l1] at h
 rcases it_some h with ⟨z2, h⟩ | ⟨z2, h⟩
 ·try simp only [go_sem, n1, n2, n3, n4] at z2
  all_goals
  obtain ⟨z3, h⟩ := ck_some h
  have lz3 := ix_lt z3
  have xz3 := getD_mapD Entry_av a lz3
  try simp only [go_sem] at lz3
  try simp only [go_sem] at xz3
  try simp only [go_sem, n1, n2, n3, n4, z2] at z3
  all_goals
  obtain ⟨y_4, z4, h⟩ := bd_some h
  have fz4 := Fs_2 z4
  try simp only [go_sem, z2, z3] at fz4
  obtain ⟨z5, h⟩ := ck_some h
  have lz5 := ix_lt z5
  have xz5 := getD_mapD Entry_av out lz5
  try simp only [go_sem] at lz5
  try simp only [go_sem] at xz5
  try simp only [go_sem, n1, n2, n3, n4, z2, z3] at z5
  all_goals
  obtain rfl := so_some h
  refine ⟨0, fun L hL => ?_⟩
  simp only [go_sem, ir6, E_3_l1, R_3_l1, ir6_b0, ir6_k0, ir6_o0, ir6_r0, z2, z3, lz3, xz3, fz4, z5, lz5, xz5]
 ·try simp only [go_sem, n1, n2, n3, n4] at z2
  all_goals
  obtain rfl := so_some h
  refine ⟨0, fun L hL => ?_⟩
  simp only [go_sem, ir6, E_3_l1, R_3_l1, ir6_b0, ir6_k0, ir6_o0, ir6_r0, z2]

theorem Fs_3 {a : List Entry} {y_ : (List Entry)} (h : laws_toEntryS a = some y_) : c_3.F [.sl 3 (List.map Entry_av a)] = ⟨true, .fresh 3 (List.map Entry_av y_), [.any]⟩ := by
 refine mkF_E (by simp only [flatA, flatB, flat1, List.all_cons, List.all_nil, Bool.and_self, flatE_map (f := Entry_av) (fun _ => rfl)]) ?_
 dsimp only [laws_toEntryS] at h
 obtain ⟨z1, h⟩ := ck_some h
 try simp only [go_sem, n1, n2, n3, n4] at z1
 all_goals
 obtain ⟨y_6, z6, h⟩ := bd_some h
 obtain ⟨Lz6, ez6⟩ := laws_toEntryS_l1_ex z6
 obtain rfl := so_some h
 refine ⟨Lz6, fun L hL => ?_⟩
 have ez6 := ez6 L (by omega)
 try simp only [go_sem, E_3_l1, R_3_l1, ir6_k0, ir6_o0, ir6_r0, z1] at ez6
 simp only [go_sem, ir6, E_3_l1, R_3_l1, ir6_k0, ir6_o0, ir6_r0, z1, ez6]


def ir24_v : List Nat := [0, 1, 2, 6]
def ir24 : AFn := ⟨3, 4, .seq (.region false [ VO 3 6 (.mov (.c (.bool false)))]) (.seq (.region false [ PM 7 0, PM 8 1, PO 9 (.bin false .geq (.s 1) (.s 0)), PO 10 (.mov (.s 0)), ⟨.push, 11, (some ((.s 0), true)), .mov (.v 0)⟩, ⟨.push, 12, (some ((.s 1), true)), .mov (.v 2)⟩, ⟨.push, 13, (some ((.s 2), true)), .bin false .leq (.s 1) (.s 0)⟩, PO 14 (.pick (.s 3) (.s 0) (.c (.bool false))), VS 3 6 0]) (.ret)), [.t 3]⟩
noncomputable def t_4 : List (Nat × Ctr) := []
noncomputable def c_4 : Ctr := mkF t_4 ir24 [.bor, .bor, .bor]
theorem s_4 : Sound Tryd.prog 24 c_4 := mkF_sound _ rfl snd_nil (by kernel_rfl : chkFn Tryd.prog 24 ir24 ir24_v = true)
theorem M_4 : c_4.modes = [.bor, .bor, .bor] := rfl
theorem Fl_4 : c_4.flat = true := rfl
attribute [go_sem] M_4 Fl_4
theorem Fs_4 {n : Int} {low : Int} {high : Int} {y_ : Bool} (h : spec_l00In n low high = some y_) : c_4.F [.int .i64 n, .int .i64 low, .int .i64 high] = ⟨true, .bool y_, [.any, .any, .any]⟩ := by
 refine mkF_E rfl ?_
 dsimp only [spec_l00In] at h
 obtain rfl := so_some h
 refine ⟨0, fun L hL => ?_⟩
 simp only [go_sem, ir24]


def ir22_v : List Nat := [0, 2]
def ir22 : AFn := ⟨1, 2, .seq (.region false [ VO 1 2 (.mov (.c (.bool false)))]) (.seq (.region false [ PM 3 0, PO 4 (.call 24 [(.s 0), (I6 0), (I6 100000)]), VS 1 2 0]) (.ret)), [.t 1]⟩
noncomputable def t_5 : List (Nat × Ctr) := [(24, c_4)]
theorem lk_5_24 : look t_5 24 = some c_4 := rfl
noncomputable def c_5 : Ctr := mkF t_5 ir22 [.bor]
theorem s_5 : Sound Tryd.prog 22 c_5 := mkF_sound _ rfl (snd_cons s_4 snd_nil) (by kernel_rfl : chkFn Tryd.prog 22 ir22 ir22_v = true)
theorem M_5 : c_5.modes = [.bor] := rfl
theorem Fl_5 : c_5.flat = true := rfl
attribute [go_sem] M_5 Fl_5
attribute [go_sem] lk_5_24
theorem Fs_5 {n : Int} {y_ : Bool} (h : spec_l27Day n = some y_) : c_5.F [.int .i64 n] = ⟨true, .bool y_, [.any]⟩ := by
 refine mkF_E rfl ?_
 dsimp only [spec_l27Day] at h
 obtain ⟨y_1, z1, h⟩ := bd_some h
 have fz1 := Fs_4 z1
 try simp only [go_sem] at fz1
 obtain rfl := so_some h
 refine ⟨0, fun L hL => ?_⟩
 simp only [go_sem, ir22, fz1]


def ir34_v : List Nat := [0, 2]
def ir34 : AFn := ⟨1, 2, .seq (.region false [ VO 1 2 (.mov (.c (.bool false)))]) (.seq (.region false [ PM 3 0, PO 4 (.bin false .geq (.s 0) (.c (.int .u8 (97)))), PO 5 (.mov (.s 0)), ⟨.push, 6, (some ((.s 0), true)), .mov (.v 0)⟩, ⟨.push, 7, (some ((.s 1), true)), .bin false .leq (.s 0) (.c (.int .u8 (122)))⟩, PO 8 (.pick (.s 2) (.s 0) (.c (.bool false))), VS 1 2 0]) (.ret)), [.t 1]⟩
noncomputable def t_6 : List (Nat × Ctr) := []
noncomputable def c_6 : Ctr := mkF t_6 ir34 [.bor]
theorem s_6 : Sound Tryd.prog 34 c_6 := mkF_sound _ rfl snd_nil (by kernel_rfl : chkFn Tryd.prog 34 ir34 ir34_v = true)
theorem M_6 : c_6.modes = [.bor] := rfl
theorem Fl_6 : c_6.flat = true := rfl
attribute [go_sem] M_6 Fl_6
theorem Fs_6 {c : UInt8} {y_ : Bool} (h : spec_l01Small c = some y_) : c_6.F [.int .u8 (c.toNat : Int)] = ⟨true, .bool y_, [.any]⟩ := by
 refine mkF_E rfl ?_
 dsimp only [spec_l01Small] at h
 obtain rfl := so_some h
 refine ⟨0, fun L hL => ?_⟩
 simp only [go_sem, ir34]


def ir35_v : List Nat := [0, 2]
def ir35 : AFn := ⟨1, 2, .seq (.region false [ VO 1 2 (.mov (.c (.bool false)))]) (.seq (.region false [ PM 3 0, PO 4 (.bin false .geq (.s 0) (.c (.int .u8 (48)))), PO 5 (.mov (.s 0)), ⟨.push, 6, (some ((.s 0), true)), .mov (.v 0)⟩, ⟨.push, 7, (some ((.s 1), true)), .bin false .leq (.s 0) (.c (.int .u8 (57)))⟩, PO 8 (.pick (.s 2) (.s 0) (.c (.bool false))), VS 1 2 0]) (.ret)), [.t 1]⟩
noncomputable def t_7 : List (Nat × Ctr) := []
noncomputable def c_7 : Ctr := mkF t_7 ir35 [.bor]
theorem s_7 : Sound Tryd.prog 35 c_7 := mkF_sound _ rfl snd_nil (by kernel_rfl : chkFn Tryd.prog 35 ir35 ir35_v = true)
theorem M_7 : c_7.modes = [.bor] := rfl
theorem Fl_7 : c_7.flat = true := rfl
attribute [go_sem] M_7 Fl_7
theorem Fs_7 {c : UInt8} {y_ : Bool} (h : spec_l01Digit c = some y_) : c_7.F [.int .u8 (c.toNat : Int)] = ⟨true, .bool y_, [.any]⟩ := by
 refine mkF_E rfl ?_
 dsimp only [spec_l01Digit] at h
 obtain rfl := so_some h
 refine ⟨0, fun L hL => ?_⟩
 simp only [go_sem, ir35]


def ir23_b0 : IR := .seq (.test false [ PM 17 2, PM 18 0, PO 19 (.len true (.s 0)), PO 20 (.bin false .lss (.s 2) (.s 0))] (.s 0) (.skip) (.exit 0)) (.seq (.block 1 (.test false [ PM 23 0, PM 24 2, PO 25 (.ixStr (.s 1) (.s 0)), PO 26 (.call 34 [(.s 0)]), PO 27 (.un .not (.s 0)), PO 28 (.mov (.s 0)), ⟨.push, 29, (some ((.s 0), true)), .mov (.v 0)⟩, ⟨.push, 30, (some ((.s 1), true)), .mov (.v 2)⟩, ⟨.push, 31, (some ((.s 2), true)), .ixStr (.s 1) (.s 0)⟩, ⟨.push, 32, (some ((.s 3), true)), .call 35 [(.s 0)]⟩, ⟨.push, 33, (some ((.s 4), true)), .un .not (.s 0)⟩, PO 34 (.pick (.s 5) (.s 0) (.c
 (.bool false))), PO 35 (.mov (.s 0)), ⟨.push, 36, (some ((.s 0), true)), .mov (.v 0)⟩, ⟨.push, 37, (some ((.s 1), true)), .mov (.v 2)⟩, ⟨.push, 38, (some ((.s 2), true)), .ixStr (.s 1) (.s 0)⟩, ⟨.push, 39, (some ((.s 3), true)), .bin false .neq (.s 0) (.c (.int .u8 (45)))⟩, PO 40 (.pick (.s 4) (.s 0) (.c (.bool false)))] (.s 0) (.seq (.region false [ VO 1 2 (.mov (.c (.bool false)))]) (.ret)) (.skip))) (.region false [ PM 21 2, PO 22 (.bin false .add (.s 0) (I6 1)), VS 2 3 0]))
def ir23_k0 : List Bool := [true, false, true]
def ir23_o0 : List Bool := [false, false, false]
def ir23_r0 : List Bool := [false, true, false]
def ir23_v : List Nat := [0, 2, 3]
def ir23 : AFn := ⟨1, 3, .seq (.region false [ VO 1 2 (.mov (.c (.bool false)))]) (.seq (.test false [ PM 4 0, PO 5 (.bin false .eql (.s 0) (.c (.str []))), PO 6 (.mov (.s 0)), ⟨.push, 7, (some ((.s 0), false)), .mov (.v 0)⟩, ⟨.push, 8, (some ((.s 1), false)), .len true (.s 0)⟩, ⟨.push, 9, (some ((.s 2), false)), .bin false .gtr (.s 0) (I6 12)⟩, PO 10 (.pick (.s 3) (.c (.bool true)) (.s 0)), PO 11 (.mov (.s 0)), ⟨.push, 12, (some ((.s 0), false)), .mov (.v 0)⟩, ⟨.push, 13, (some ((.s 1), false)), .ixStr (.s 0) (I6 0)⟩, ⟨.push, 14, (some ((.s 2), false)), .call 34 [(.s 0)]⟩, ⟨.push, 15, (some
 ((.s 3), false)), .un .not (.s 0)⟩, PO 16 (.pick (.s 4) (.c (.bool true)) (.s 0))] (.s 0) (.seq (.region false [ VO 1 2 (.mov (.c (.bool false)))]) (.ret)) (.skip)) (.seq (.seq (.region false [ VO 2 3 (.mov (I6 0))]) (.block 0 (.loop ir23_k0 ir23_o0 ir23_r0 ir23_b0))) (.seq (.region false [ VO 1 2 (.mov (.c (.bool true)))]) (.ret)))), [.t 1]⟩
noncomputable def t_8 : List (Nat × Ctr) := [(34, c_6), (35, c_7)]
theorem lk_8_34 : look t_8 34 = some c_6 := rfl
theorem lk_8_35 : look t_8 35 = some c_7 := rfl
noncomputable def c_8 : Ctr := mkF t_8 ir23 [.bor]
theorem s_8 : Sound Tryd.prog 23 c_8 := mkF_sound _ rfl (snd_cons s_6 (snd_cons s_7 snd_nil)) (by kernel_rfl : chkFn Tryd.prog 23 ir23 ir23_v = true)
theorem M_8 : c_8.modes = [.bor] := rfl
theorem Fl_8 : c_8.flat = true := rfl
attribute [go_sem] M_8 Fl_8
attribute [go_sem] lk_8_34 lk_8_35
def E_8_l1 (s_ : List UInt8) : Int → St
 | i => ⟨[.str s_, .any, .int .i64 i], [], [], true⟩
def R_8_l1 (s_ : List UInt8) : (Unit ⊕ Bool) → Res
 | .inl y => (.exit 0, ⟨[.any, .any, .any], [], [], true⟩)
 | .inr y => (.ret, ⟨[.any, .bool y, .any], [], [], true⟩)
theorem spec_IsName_l1_ex {s_ : List UInt8} {sgm_ : Int} {rho_ : Unit ⊕ Bool} (h : whileE (spec_IsName_l1 s_) sgm_ = some rho_) : ∃ L0, ∀ L, L0 ≤ L → iter (exec (look t_8) L ir23_b0) ir23_k0 ir23_o0 ir23_r0 L (E_8_l1 s_ sgm_) = R_8_l1 s_ rho_ := by
 refine loop_ex (E := E_8_l1 s_) (R := R_8_l1 s_) (fun y => by first | (intro c; cases c) | (rcases y with y | y <;> (intro c; cases c)) | (rcases y with y | y | y <;> (intro c; cases c))) ?_ h
 clear h
 intro i o_ h
 dsimp only [spec_IsName_l1] at h
 rcases it_some h with ⟨z4, h⟩ | ⟨z4, h⟩
 ·try simp only [go_sem, n1, n2, n3, n4] at z4
  all_goals
  obtain ⟨z5, h⟩ := ck_some h
  try simp only [go_sem, n1, n2, n3, n4, z4] at z5
  all_goals
  obtain ⟨y_6, z6, h⟩ := bd_some h
  have fz6 := Fs_6 z6
  try simp only [go_sem, z4, z5] at fz6
  obtain ⟨z7, h⟩ := ck_some h
  rcases or_split z7 with ⟨gz7, z7⟩ | gz7
  ·try simp only [go_sem, n1, n2, n3, n4, z4, z5] at gz7
   all_goals
   obtain ⟨y_7, hz7⟩ := Option.isSome_iff_exists.1 z7
   have fz7 := Fs_7 hz7
   try simp only [go_sem, n1, n2, n3, n4, z4, z5, gz7] at hz7
   all_goals
   try simp only [go_sem, z4, z5, gz7] at fz7
   rcases it_some h with ⟨z8, h⟩ | ⟨z8, h⟩
   ·try simp only [go_sem, n1, n2, n3, n4, z4, z5, gz7, hz7] at z8
    all_goals
    obtain rfl := so_some h
    refine ⟨0, fun L hL => ?_⟩
    simp only [go_sem, ir23, E_8_l1, R_8_l1, ir23_b0, ir23_k0, ir23_o0, ir23_r0, z4, z5, fz6, gz7, hz7, fz7, z8]
   ·try simp only [go_sem, n1, n2, n3, n4, z4, z5, gz7, hz7] at z8
    all_goals
    obtain rfl := so_some h
    refine ⟨0, fun L hL => ?_⟩
    simp only [go_sem, ir23, E_8_l1, R_8_l1, ir23_b0, ir23_k0, ir23_o0, ir23_r0, z4, z5, fz6, gz7, hz7, fz7, z8]
  ·have gz7n := no_f gz7
   try simp only [go_sem, n1, n2, n3, n4, z4, z5] at gz7n
   all_goals
   rcases it_some h with ⟨z8, h⟩ | ⟨z8, h⟩
   ·try simp only [go_sem, n1, n2, n3, n4, z4, z5, gz7n] at z8
    all_goals
    (simp_all)
   ·try simp only [go_sem, n1, n2, n3, n4, z4, z5, gz7n] at z8
    all_goals
    obtain rfl := so_some h
    refine ⟨0, fun L hL => ?_⟩
    simp only [go_sem, ir23, E_8_l1, R_8_l1, ir23_b0, ir23_k0, ir23_o0, ir23_r0, z4, z5, fz6, gz7n, z8]
 ·try simp only [go_sem, n1, n2, n3, n4] at z4
  all_goals
  obtain rfl := so_some h
  refine ⟨0, fun L hL => ?_⟩
  simp only [go_sem, ir23, E_8_l1, R_8_l1, ir23_b0, ir23_k0, ir23_o0, ir23_r0, z4]

theorem Fs_8 {s_ : List UInt8} {y_ : Bool} (h : spec_IsName s_ = some y_) : c_8.F [.str s_] = ⟨true, .bool y_, [.any]⟩ := by
 refine mkF_E rfl ?_
 dsimp only [spec_IsName] at h
 obtain ⟨z1, h⟩ := ck_some h
 rcases or_split z1 with ⟨gz1, z1⟩ | gz1
 ·try simp only [go_sem, n1, n2, n3, n4] at gz1
  all_goals
  try simp only [go_sem, n1, n2, n3, n4, gz1] at z1
  all_goals
  obtain ⟨z2, h⟩ := ck_some h
  rcases or_split z2 with ⟨gz2, z2⟩ | gz2
  ·try simp only [go_sem, n1, n2, n3, n4, gz1, z1] at gz2
   all_goals
   obtain ⟨y_2, hz2⟩ := Option.isSome_iff_exists.1 z2
   have fz2 := Fs_6 hz2
   try simp only [go_sem, n1, n2, n3, n4, gz1, z1, gz2] at hz2
   all_goals
   try simp only [go_sem, gz1, z1, gz2] at fz2
   rcases it_some h with ⟨z3, h⟩ | ⟨z3, h⟩
   ·try simp only [go_sem, n1, n2, n3, n4, gz1, z1, gz2, hz2] at z3
    all_goals
    obtain rfl := so_some h
    refine ⟨0, fun L hL => ?_⟩
    simp only [go_sem, ir23, E_8_l1, R_8_l1, ir23_k0, ir23_o0, ir23_r0, gz1, z1, gz2, hz2, fz2, z3]
   ·try simp only [go_sem, n1, n2, n3, n4, gz1, z1, gz2, hz2] at z3
    all_goals
    obtain ⟨y_9, z9, h⟩ := bd_some h
    obtain ⟨Lz9, ez9⟩ := spec_IsName_l1_ex z9
    rcases y_9 with y_9a | y_9b
    ·dsimp only at h
     obtain rfl := so_some h
     refine ⟨Lz9, fun L hL => ?_⟩
     have ez9 := ez9 L (by omega)
     try simp only [go_sem, E_8_l1, R_8_l1, ir23_k0, ir23_o0, ir23_r0, gz1, z1, gz2, hz2, z3] at ez9
     simp only [go_sem, ir23, E_8_l1, R_8_l1, ir23_k0, ir23_o0, ir23_r0, gz1, z1, gz2, hz2, fz2, z3, ez9]
    ·dsimp only at h
     obtain rfl := so_some h
     refine ⟨Lz9, fun L hL => ?_⟩
     have ez9 := ez9 L (by omega)
     try simp only [go_sem, E_8_l1, R_8_l1, ir23_k0, ir23_o0, ir23_r0, gz1, z1, gz2, hz2, z3] at ez9
     simp only [go_sem, ir23, E_8_l1, R_8_l1, ir23_k0, ir23_o0, ir23_r0, gz1, z1, gz2, hz2, fz2, z3, ez9]
  ·have gz2n := no_f gz2
   rcases or_t gz2n with gz2na | ⟨gz2na, gz2nb⟩
   ·try simp only [go_sem, n1, n2, n3, n4, gz1, z1] at gz2na
    all_goals
    (simp_all)
   ·try simp only [go_sem, n1, n2, n3, n4, gz1, z1] at gz2na
    all_goals
    try simp only [go_sem, n1, n2, n3, n4, gz1, z1, gz2na] at gz2nb
    all_goals
    rcases it_some h with ⟨z3, h⟩ | ⟨z3, h⟩
    ·try simp only [go_sem, n1, n2, n3, n4, gz1, z1, gz2na, gz2nb] at z3
     all_goals
     obtain rfl := so_some h
     refine ⟨0, fun L hL => ?_⟩
     simp only [go_sem, ir23, E_8_l1, R_8_l1, ir23_k0, ir23_o0, ir23_r0, gz1, z1, gz2na, gz2nb, z3]
    ·try simp only [go_sem, n1, n2, n3, n4, gz1, z1, gz2na, gz2nb] at z3
     all_goals
     obtain ⟨y_9, z9, h⟩ := bd_some h
     obtain ⟨Lz9, ez9⟩ := spec_IsName_l1_ex z9
     rcases y_9 with y_9a | y_9b
     ·dsimp only at h
      obtain rfl := so_some h
      refine ⟨Lz9, fun L hL => ?_⟩
      have ez9 := ez9 L (by omega)
      try simp only [go_sem, E_8_l1, R_8_l1, ir23_k0, ir23_o0, ir23_r0, gz1, z1, gz2na, gz2nb, z3] at ez9
      simp only [go_sem, ir23, E_8_l1, R_8_l1, ir23_k0, ir23_o0, ir23_r0, gz1, z1, gz2na, gz2nb, z3, ez9]
     ·dsimp only at h
      obtain rfl := so_some h
      refine ⟨Lz9, fun L hL => ?_⟩
      have ez9 := ez9 L (by omega)
      try simp only [go_sem, E_8_l1, R_8_l1, ir23_k0, ir23_o0, ir23_r0, gz1, z1, gz2na, gz2nb, z3] at ez9
      simp only [go_sem, ir23, E_8_l1, R_8_l1, ir23_k0, ir23_o0, ir23_r0, gz1, z1, gz2na, gz2nb, z3, ez9]
 ·have gz1n := no_f gz1
  rcases or_t gz1n with gz1na | ⟨gz1na, gz1nb⟩
  ·try simp only [go_sem, n1, n2, n3, n4] at gz1na
   all_goals
   obtain ⟨z2, h⟩ := ck_some h
   rcases it_some h with ⟨z3, h⟩ | ⟨z3, h⟩
   ·try simp only [go_sem, n1, n2, n3, n4, gz1na] at z3
    all_goals
    obtain rfl := so_some h
    refine ⟨0, fun L hL => ?_⟩
    simp only [go_sem, ir23, E_8_l1, R_8_l1, ir23_k0, ir23_o0, ir23_r0, gz1na, z3]
   ·try simp only [go_sem, n1, n2, n3, n4, gz1na] at z3
    all_goals
    (simp_all)
  ·try simp only [go_sem, n1, n2, n3, n4] at gz1na
   all_goals
   try simp only [go_sem, n1, n2, n3, n4, gz1na] at gz1nb
   all_goals
   obtain ⟨z2, h⟩ := ck_some h
   rcases it_some h with ⟨z3, h⟩ | ⟨z3, h⟩
   ·try simp only [go_sem, n1, n2, n3, n4, gz1na, gz1nb] at z3
    all_goals
    obtain rfl := so_some h
    refine ⟨0, fun L hL => ?_⟩
    simp only [go_sem, ir23, E_8_l1, R_8_l1, ir23_k0, ir23_o0, ir23_r0, gz1na, gz1nb, z3]
   ·try simp only [go_sem, n1, n2, n3, n4, gz1na, gz1nb] at z3
    all_goals
    (simp_all)


def ir10_v : List Nat := [0, 2]
def ir10 : AFn := ⟨1, 2, .seq (.region false [ VO 1 2 (.mov (.c (.bool false)))]) (.seq (.region false [ PM 3 0, PO 4 (.nilck (.s 0)), PO 5 (.fldAddr 0 (.s 0)), PO 6 (.load false 1 (.s 0)), PO 7 (.call 22 [(.s 0)]), PO 8 (.mov (.s 0)), ⟨.push, 9, (some ((.s 0), true)), .mov (.v 0)⟩, ⟨.push, 10, (some ((.s 1), true)), .nilck (.s 0)⟩, ⟨.push, 11, (some ((.s 2), true)), .fldAddr 1 (.s 0)⟩, ⟨.push, 12, (some ((.s 3), true)), .load false 1 (.s 0)⟩, ⟨.push, 13, (some ((.s 4), true)), .call 23 [(.s 0)]⟩, PO 14 (.pick (.s 5) (.s 0) (.c (.bool false))), PO 15 (.mov (.s 0)), ⟨.push, 16, (some ((.s 0),
 true)), .mov (.v 0)⟩, ⟨.push, 17, (some ((.s 1), true)), .nilck (.s 0)⟩, ⟨.push, 18, (some ((.s 2), true)), .fldAddr 2 (.s 0)⟩, ⟨.push, 19, (some ((.s 3), true)), .load false 1 (.s 0)⟩, ⟨.push, 20, (some ((.s 4), true)), .call 24 [(.s 0), (.c (.int .i64 (-1000000))), (I6 1000000)]⟩, PO 21 (.pick (.s 5) (.s 0) (.c (.bool false))), VS 1 2 0]) (.ret)), [.t 1]⟩
noncomputable def t_9 : List (Nat × Ctr) := [(22, c_5), (23, c_8), (24, c_4)]
theorem lk_9_22 : look t_9 22 = some c_5 := rfl
theorem lk_9_23 : look t_9 23 = some c_8 := rfl
theorem lk_9_24 : look t_9 24 = some c_4 := rfl
noncomputable def c_9 : Ctr := mkF t_9 ir10 [.bor]
theorem s_9 : Sound Tryd.prog 10 c_9 := mkF_sound _ rfl (snd_cons s_5 (snd_cons s_8 (snd_cons s_4 snd_nil))) (by kernel_rfl : chkFn Tryd.prog 10 ir10 ir10_v = true)
theorem M_9 : c_9.modes = [.bor] := rfl
theorem Fl_9 : c_9.flat = true := rfl
attribute [go_sem] M_9 Fl_9
attribute [go_sem] lk_9_22 lk_9_23 lk_9_24
theorem Fs_9 {e_ : Entry} {y_ : Bool} (h : spec_l27Ok e_ = some y_) : c_9.F [.ptr 3 [Entry_av e_] 0 0] = ⟨true, .bool y_, [.any]⟩ := by
 refine mkF_E rfl ?_
 dsimp only [spec_l27Ok] at h
 obtain ⟨y_1, z1, h⟩ := bd_some h
 have fz1 := Fs_5 z1
 try simp only [go_sem] at fz1
 obtain ⟨z2, h⟩ := ck_some h
 rcases or_split z2 with ⟨gz2, z2⟩ | gz2
 ·try simp only [go_sem, n1, n2, n3, n4] at gz2
  all_goals
  obtain ⟨y_2, hz2⟩ := Option.isSome_iff_exists.1 z2
  have fz2 := Fs_8 hz2
  try simp only [go_sem, n1, n2, n3, n4, gz2] at hz2
  all_goals
  try simp only [go_sem, gz2] at fz2
  obtain ⟨z3, h⟩ := ck_some h
  rcases or_split z3 with ⟨gz3, z3⟩ | gz3
  ·try simp only [go_sem, n1, n2, n3, n4, gz2, hz2] at gz3
   all_goals
   obtain ⟨y_3, hz3⟩ := Option.isSome_iff_exists.1 z3
   have fz3 := Fs_4 hz3
   try simp only [go_sem, n1, n2, n3, n4, gz2, hz2, gz3] at hz3
   all_goals
   try simp only [go_sem, gz2, hz2, gz3] at fz3
   obtain rfl := so_some h
   refine ⟨0, fun L hL => ?_⟩
   simp only [go_sem, ir10, fz1, gz2, hz2, fz2, gz3, hz3, fz3]
  ·rcases and_f gz3 with gz3a | ⟨gz3a, gz3b⟩
   ·try simp only [go_sem, n1, n2, n3, n4, gz2, hz2] at gz3a
    all_goals
    (simp_all)
   ·try simp only [go_sem, n1, n2, n3, n4, gz2, hz2] at gz3a
    all_goals
    try simp only [go_sem, n1, n2, n3, n4, gz2, hz2, gz3a] at gz3b
    all_goals
    obtain rfl := so_some h
    refine ⟨0, fun L hL => ?_⟩
    simp only [go_sem, ir10, fz1, gz2, hz2, fz2, gz3a, gz3b]
 ·try simp only [go_sem, n1, n2, n3, n4] at gz2
  all_goals
  obtain ⟨z3, h⟩ := ck_some h
  obtain rfl := so_some h
  refine ⟨0, fun L hL => ?_⟩
  simp only [go_sem, ir10, fz1, gz2]


def ir36_b0 : IR := .seq (.test false [ PM 8 3, PO 9 (.bin false .neq (.s 0) (I6 0))] (.s 0) (.skip) (.exit 0)) (.seq (.block 1 (.seq (.region false [ PM 12 3, PO 13 (.bin false .rem (.s 0) (I6 10)), VS 4 5 0]) (.seq (.test false [ PM 14 4, PO 15 (.bin false .lss (.s 0) (I6 0))] (.s 0) (.region false [ PM 16 4, PO 17 (.un .neg (.s 0)), VS 4 5 0]) (.skip)) (.region false [ PM 18 4, PO 19 (.bin false .add (I6 48) (.s 0)), PO 20 (.conv .u8 (.s 0)), PO 21 (.mkSl 1 (.int .u8 (0)) 1 [(0, (.s 0))]), PM 22 2, PO 23 (.app 1 1 (.int .u8 (0)) (.s 1) (.s 0)), VS 2 3 0])))) (.region false [ PM 10 3, PO 11
 (.bin false .quo (.s 0) (I6 10)), VS 3 4 0]))
def ir36_k0 : List Bool := [true, false, true, true, false]
def ir36_o0 : List Bool := [true, false, true, false, false]
def ir36_r0 : List Bool := [false, true, false, false, false]
def ir36_v : List Nat := [0, 2, 3, 4, 5]
def ir36 : AFn := ⟨1, 5, .seq (.region false [ VO 1 2 (.mov (.c (.str [])))]) (.seq (.region false [ PO 6 (.mkSl 1 (.int .u8 (0)) 0 []), VS 2 3 0]) (.seq (.seq (.region false [ PM 7 0, VS 3 4 0]) (.block 0 (.loop ir36_k0 ir36_o0 ir36_r0 ir36_b0))) (.seq (.test false [ PM 24 2, PO 25 (.len false (.s 0)), PO 26 (.bin false .eql (.s 0) (I6 0))] (.s 0) (.seq (.region false [ VO 1 2 (.mov (.c (.str [48])))]) (.ret)) (.skip)) (.seq (.test false [ PM 27 0, PO 28 (.bin false .lss (.s 0) (I6 0))] (.s 0) (.seq (.region false [ PM 29 2, PO 30 (.b2s (.s 0)), PO 31 (.bin false .add (.c (.str [45])) (.s 0)),
 VS 1 2 0]) (.ret)) (.skip)) (.seq (.region false [ PM 32 2, PO 33 (.b2s (.s 0)), VS 1 2 0]) (.ret)))))), [.t 1]⟩
noncomputable def t_10 : List (Nat × Ctr) := []
noncomputable def c_10 : Ctr := mkF t_10 ir36 [.bor]
theorem s_10 : Sound Tryd.prog 36 c_10 := mkF_sound _ rfl snd_nil (by kernel_rfl : chkFn Tryd.prog 36 ir36 ir36_v = true)
theorem M_10 : c_10.modes = [.bor] := rfl
theorem Fl_10 : c_10.flat = true := rfl
attribute [go_sem] M_10 Fl_10
def E_10_l1 (n : Int) : ((List UInt8) × Int) → St
 | (out, k) => ⟨[.int .i64 n, .any, .own 3200000, .int .i64 k, .any], [], [(3200000, ⟨1, List.map byteAV out⟩)], true⟩
def R_10_l1 (n : Int) (y : (List UInt8)) : Res := (.exit 0, ⟨[.int .i64 n, .any, .own 3200000, .any, .any], [], [(3200000, ⟨1, List.map byteAV y⟩)], true⟩)
theorem spec_l01Dec_l1_ex {n : Int} {sgm_ : (List UInt8) × Int} {rho_ : (List UInt8)} (h : whileE (spec_l01Dec_l1 n) sgm_ = some rho_) : ∃ L0, ∀ L, L0 ≤ L → iter (exec (look t_10) L ir36_b0) ir36_k0 ir36_o0 ir36_r0 L (E_10_l1 n sgm_) = R_10_l1 n rho_ := by
 refine loop_ex (E := E_10_l1 n) (R := R_10_l1 n) (fun y => by first | (intro c; cases c) | (rcases y with y | y <;> (intro c; cases c)) | (rcases y with y | y | y <;> (intro c; cases c))) ?_ h
 clear h
 rintro ⟨out, k⟩ o_ h
 dsimp only [spec_l01Dec_l1] at h
 rcases it_some h with ⟨z1, h⟩ | ⟨z1, h⟩
 ·try simp only [go_sem, n1, n2, n3, n4] at z1
  all_goals
  obtain ⟨z2, h⟩ := ck_some h
  try simp only [go_sem, n1, n2, n3, n4, z1] at z2
  all_goals
  rcases it_some h with ⟨z3, h⟩ | ⟨z3, h⟩
  ·try simp only [go_sem, n1, n2, n3, n4, z1, z2] at z3
   all_goals
   obtain ⟨z4, h⟩ := ck_some h
   try simp only [go_sem, n1, n2, n3, n4, z1, z2, z3] at z4
   all_goals
   obtain rfl := so_some h
   refine ⟨0, fun L hL => ?_⟩
   simp only [go_sem, ir36, E_10_l1, R_10_l1, ir36_b0, ir36_k0, ir36_o0, ir36_r0, z1, z2, z3, z4]
  ·try simp only [go_sem, n1, n2, n3, n4, z1, z2] at z3
   all_goals
   obtain ⟨z5, h⟩ := ck_some h
   try simp only [go_sem, n1, n2, n3, n4, z1, z2, z3] at z5
   all_goals
   obtain rfl := so_some h
   refine ⟨0, fun L hL => ?_⟩
   simp only [go_sem, ir36, E_10_l1, R_10_l1, ir36_b0, ir36_k0, ir36_o0, ir36_r0, z1, z2, z3, z5]
 ·try simp only [go_sem, n1, n2, n3, n4] at z1
  all_goals
  obtain rfl := so_some h
  refine ⟨0, fun L hL => ?_⟩
  simp only [go_sem, ir36, E_10_l1, R_10_l1, ir36_b0, ir36_k0, ir36_o0, ir36_r0, z1]

theorem Fs_10 {n : Int} {y_ : (List UInt8)} (h : spec_l01Dec n = some y_) : c_10.F [.int .i64 n] = ⟨true, .str y_, [.any]⟩ := by
 refine mkF_E rfl ?_
 dsimp only [spec_l01Dec] at h
 obtain ⟨y_6, z6, h⟩ := bd_some h
 obtain ⟨Lz6, ez6⟩ := spec_l01Dec_l1_ex z6
 rcases it_some h with ⟨z7, h⟩ | ⟨z7, h⟩
 ·try simp only [go_sem, n1, n2, n3, n4] at z7
  all_goals
  obtain rfl := so_some h
  refine ⟨Lz6, fun L hL => ?_⟩
  have ez6 := ez6 L (by omega)
  try simp only [go_sem, E_10_l1, R_10_l1, ir36_k0, ir36_o0, ir36_r0, z7] at ez6
  simp only [go_sem, ir36, E_10_l1, R_10_l1, ir36_k0, ir36_o0, ir36_r0, z7, ez6]
 ·try simp only [go_sem, n1, n2, n3, n4] at z7
  all_goals
  rcases it_some h with ⟨z8, h⟩ | ⟨z8, h⟩
  ·try simp only [go_sem, n1, n2, n3, n4, z7] at z8
   all_goals
   obtain ⟨z9, h⟩ := ck_some h
   try simp only [go_sem, n1, n2, n3, n4, z7, z8] at z9
   all_goals
   obtain rfl := so_some h
   refine ⟨Lz6, fun L hL => ?_⟩
   have ez6 := ez6 L (by omega)
   try simp only [go_sem, E_10_l1, R_10_l1, ir36_k0, ir36_o0, ir36_r0, z7, z8, z9] at ez6
   simp only [go_sem, ir36, E_10_l1, R_10_l1, ir36_k0, ir36_o0, ir36_r0, z7, z8, z9, ez6]
  ·try simp only [go_sem, n1, n2, n3, n4, z7] at z8
   all_goals
   obtain rfl := so_some h
   refine ⟨Lz6, fun L hL => ?_⟩
   have ez6 := ez6 L (by omega)
   try simp only [go_sem, E_10_l1, R_10_l1, ir36_k0, ir36_o0, ir36_r0, z7, z8] at ez6
   simp only [go_sem, ir36, E_10_l1, R_10_l1, ir36_k0, ir36_o0, ir36_r0, z7, z8, ez6]


def ir26_v : List Nat := [0, 2]
def ir26 : AFn := ⟨1, 2, .seq (.region false [ VO 1 2 (.mov (.c (.str [])))]) (.seq (.anyo 18 [ SO 0 3 (.mov (.v 0)), SO 1 4 (.nilck (.s 0)), SO 2 5 (.fldAddr 0 (.s 1)), SO 3 6 (.load false 1 (.s 2)), SO 4 7 (.callp 36 [(.s 3)]), SO 5 8 (.bin false .add (.s 4) (.c (.str [32]))), SO 6 9 (.mov (.v 0)), SO 7 10 (.nilck (.s 6)), SO 8 11 (.fldAddr 1 (.s 7)), SO 9 12 (.load false 1 (.s 8)), SO 10 13 (.bin false .add (.s 5) (.s 9)), SO 11 14 (.bin false .add (.s 10) (.c (.str [32]))), SO 12 15 (.mov (.v 0)), SO 13 16 (.nilck (.s 12)), SO 14 17 (.fldAddr 2 (.s 13)), SO 15 18 (.load false 1 (.s 14)), SO
 16 19 (.callp 36 [(.s 15)]), SO 17 20 (.bin false .add (.s 11) (.s 16)), VS 1 2 17] [] .skip) (.ret)), [.t 1]⟩
noncomputable def t_11 : List (Nat × Ctr) := [(36, c_10)]
theorem lk_11_36 : look t_11 36 = some c_10 := rfl
noncomputable def c_11 : Ctr := mkF t_11 ir26 [.bor]
theorem s_11 : Sound Tryd.prog 26 c_11 := mkF_sound _ rfl (snd_cons s_10 snd_nil) (by kernel_rfl : chkFn Tryd.prog 26 ir26 ir26_v = true)
theorem M_11 : c_11.modes = [.bor] := rfl
theorem Fl_11 : c_11.flat = true := rfl
attribute [go_sem] M_11 Fl_11
attribute [go_sem] lk_11_36
theorem Fs_11 {e_ : Entry} {y_ : (List UInt8)} (h : spec_l27Words e_ = some y_) : c_11.F [.ptr 3 [Entry_av e_] 0 0] = ⟨true, .str y_, [.any]⟩ := by
 refine mkF_E rfl ?_
 dsimp only [spec_l27Words] at h
 obtain ⟨y_1, z1, h⟩ := bd_some h
 have fz1 := Fs_10 z1
 try simp only [go_sem] at fz1
 obtain ⟨z2, h⟩ := ck_some h
 try simp only [go_sem, n1, n2, n3, n4] at z2
 all_goals
 obtain ⟨z3, h⟩ := ck_some h
 try simp only [go_sem, n1, n2, n3, n4, z2] at z3
 all_goals
 obtain ⟨z4, h⟩ := ck_some h
 try simp only [go_sem, n1, n2, n3, n4, z2, z3] at z4
 all_goals
 obtain ⟨y_5, z5, h⟩ := bd_some h
 have fz5 := Fs_10 z5
 try simp only [go_sem, z2, z3, z4] at fz5
 obtain ⟨z6, h⟩ := ck_some h
 try simp only [go_sem, n1, n2, n3, n4, z2, z3, z4] at z6
 all_goals
 obtain rfl := so_some h
 refine ⟨0, fun L hL => ?_⟩
 simp only [go_sem, ir26, fz1, z2, z3, z4, fz5, z6]


def ir25_b0 : IR := .seq (.test false [ PM 10 4, PM 11 1, PO 12 (.len true (.s 0)), PO 13 (.bin false .lss (.s 2) (.s 0))] (.s 0) (.skip) (.exit 0)) (.seq (.block 1 (.region false [ PM 16 3, PO 17 (.bin false .mul (I6 31) (.s 0)), PM 18 1, PM 19 4, PO 20 (.ixStr (.s 1) (.s 0)), PO 21 (.conv .i64 (.s 0)), PO 22 (.bin false .add (.s 4) (.s 0)), PO 23 (.bin false .rem (.s 0) (I6 65521)), VS 3 5 0])) (.region false [ PM 14 4, PO 15 (.bin false .add (.s 0) (I6 1)), VS 4 6 0]))
def ir25_k0 : List Bool := [false, true, false, true, true]
def ir25_o0 : List Bool := [false, false, false, true, false]
def ir25_r0 : List Bool := [false, false, true, false, false]
def ir25_v : List Nat := [0, 1, 4, 5, 6]
def ir25 : AFn := ⟨2, 5, .seq (.region false [ VO 2 4 (.mov (I6 0))]) (.seq (.region false [ PM 7 0, PO 8 (.bin false .add (.s 0) (I6 23)), PO 9 (.bin false .rem (.s 0) (I6 65521)), VS 3 5 0]) (.seq (.seq (.region false [ VO 4 6 (.mov (I6 0))]) (.block 0 (.loop ir25_k0 ir25_o0 ir25_r0 ir25_b0))) (.seq (.region false [ PM 24 3, VS 2 4 0]) (.ret)))), [.t 2]⟩
noncomputable def t_12 : List (Nat × Ctr) := []
noncomputable def c_12 : Ctr := mkF t_12 ir25 [.bor, .bor]
theorem s_12 : Sound Tryd.prog 25 c_12 := mkF_sound _ rfl snd_nil (by kernel_rfl : chkFn Tryd.prog 25 ir25 ir25_v = true)
theorem M_12 : c_12.modes = [.bor, .bor] := rfl
theorem Fl_12 : c_12.flat = true := rfl
attribute [go_sem] M_12 Fl_12
def E_12_l1 (words : List UInt8) : (Int × Int) → St
 | (sum, i) => ⟨[.any, .str words, .any, .int .i64 sum, .int .i64 i], [], [], true⟩
def R_12_l1 (words : List UInt8) (y : Int) : Res := (.exit 0, ⟨[.any, .any, .any, .int .i64 y, .any], [], [], true⟩)
theorem spec_l27Stamp_l1_ex {words : List UInt8} {sgm_ : Int × Int} {rho_ : Int} (h : whileE (spec_l27Stamp_l1 words) sgm_ = some rho_) : ∃ L0, ∀ L, L0 ≤ L → iter (exec (look t_12) L ir25_b0) ir25_k0 ir25_o0 ir25_r0 L (E_12_l1 words sgm_) = R_12_l1 words rho_ := by
 refine loop_ex (E := E_12_l1 words) (R := R_12_l1 words) (fun y => by first | (intro c; cases c) | (rcases y with y | y <;> (intro c; cases c)) | (rcases y with y | y | y <;> (intro c; cases c))) ?_ h
 clear h
 rintro ⟨sum, i⟩ o_ h
 dsimp only [spec_l27Stamp_l1] at h
 rcases it_some h with ⟨z2, h⟩ | ⟨z2, h⟩
 ·try simp only [go_sem, n1, n2, n3, n4] at z2
  all_goals
  obtain ⟨z3, h⟩ := ck_some h
  try simp only [go_sem, n1, n2, n3, n4, z2] at z3
  all_goals
  obtain ⟨z4, h⟩ := ck_some h
  try simp only [go_sem, n1, n2, n3, n4, z2, z3] at z4
  all_goals
  obtain rfl := so_some h
  refine ⟨0, fun L hL => ?_⟩
  simp only [go_sem, ir25, E_12_l1, R_12_l1, ir25_b0, ir25_k0, ir25_o0, ir25_r0, z2, z3, z4]
 ·try simp only [go_sem, n1, n2, n3, n4] at z2
  all_goals
  obtain rfl := so_some h
  refine ⟨0, fun L hL => ?_⟩
  simp only [go_sem, ir25, E_12_l1, R_12_l1, ir25_b0, ir25_k0, ir25_o0, ir25_r0, z2]

theorem Fs_12 {before : Int} {words : List UInt8} {y_ : Int} (h : spec_l27Stamp before words = some y_) : c_12.F [.int .i64 before, .str words] = ⟨true, .int .i64 y_, [.any, .any]⟩ := by
 refine mkF_E rfl ?_
 dsimp only [spec_l27Stamp] at h
 obtain ⟨z1, h⟩ := ck_some h
 try simp only [go_sem, n1, n2, n3, n4] at z1
 all_goals
 obtain ⟨y_5, z5, h⟩ := bd_some h
 obtain ⟨Lz5, ez5⟩ := spec_l27Stamp_l1_ex z5
 obtain rfl := so_some h
 refine ⟨Lz5, fun L hL => ?_⟩
 have ez5 := ez5 L (by omega)
 try simp only [go_sem, E_12_l1, R_12_l1, ir25_k0, ir25_o0, ir25_r0, z1] at ez5
 simp only [go_sem, ir25, E_12_l1, R_12_l1, ir25_k0, ir25_o0, ir25_r0, z1, ez5]


def ir27_v : List Nat := [0, 1, 4]
def ir27 : AFn := ⟨2, 3, .seq (.region false [ VO 2 4 (.mov (.c (.str [])))]) (.seq (.region false [ PM 5 1, PO 6 (.call 26 [(.s 0)]), PO 7 (.bin false .add (.s 0) (.c (.str [32]))), PM 8 0, PO 9 (.call 36 [(.s 0)]), PO 10 (.bin false .add (.s 2) (.s 0)), PO 11 (.bin false .add (.s 0) (.c (.str [10]))), VS 2 4 0]) (.ret)), [.t 2]⟩
noncomputable def t_13 : List (Nat × Ctr) := [(26, c_11), (36, c_10)]
theorem lk_13_26 : look t_13 26 = some c_11 := rfl
theorem lk_13_36 : look t_13 36 = some c_10 := rfl
noncomputable def c_13 : Ctr := mkF t_13 ir27 [.bor, .bor]
theorem s_13 : Sound Tryd.prog 27 c_13 := mkF_sound _ rfl (snd_cons s_11 (snd_cons s_10 snd_nil)) (by kernel_rfl : chkFn Tryd.prog 27 ir27 ir27_v = true)
theorem M_13 : c_13.modes = [.bor, .bor] := rfl
theorem Fl_13 : c_13.flat = true := rfl
attribute [go_sem] M_13 Fl_13
attribute [go_sem] lk_13_26 lk_13_36
theorem Fs_13 {stamp : Int} {e_ : Entry} {y_ : (List UInt8)} (h : spec_l27Line stamp e_ = some y_) : c_13.F [.int .i64 stamp, .ptr 3 [Entry_av e_] 0 0] = ⟨true, .str y_, [.any, .any]⟩ := by
 refine mkF_E rfl ?_
 dsimp only [spec_l27Line] at h
 obtain ⟨y_1, z1, h⟩ := bd_some h
 have fz1 := Fs_11 z1
 try simp only [go_sem] at fz1
 obtain ⟨z2, h⟩ := ck_some h
 try simp only [go_sem, n1, n2, n3, n4] at z2
 all_goals
 obtain ⟨y_3, z3, h⟩ := bd_some h
 have fz3 := Fs_10 z3
 try simp only [go_sem, z2] at fz3
 obtain ⟨z4, h⟩ := ck_some h
 try simp only [go_sem, n1, n2, n3, n4, z2] at z4
 all_goals
 obtain ⟨z5, h⟩ := ck_some h
 try simp only [go_sem, n1, n2, n3, n4, z2, z4] at z5
 all_goals
 obtain rfl := so_some h
 refine ⟨0, fun L hL => ?_⟩
 simp only [go_sem, ir27, fz1, z2, fz3, z4, z5]


def ir11_b0 : IR := .seq (.test false [ PM 7 4, PM 8 0, PO 9 (.len false (.s 0)), PO 10 (.bin false .lss (.s 2) (.s 0))] (.s 0) (.skip) (.exit 0)) (.seq (.block 1 (.seq (.region false [ PM 13 3, PM 14 0, PM 15 4, PO 16 (.ixAddr 3 (.s 1) (.s 0)), PO 17 (.call 26 [(.s 0)]), PO 18 (.call 25 [(.s 4), (.s 0)]), VS 3 4 0]) (.region false [ PM 19 2, PM 20 3, PM 21 0, PM 22 4, PO 23 (.ixAddr 3 (.s 1) (.s 0)), PO 24 (.call 27 [(.s 3), (.s 0)]), PO 25 (.app 1 1 (.int .u8 (0)) (.s 5) (.s 0)), VS 2 3 0]))) (.region false [ PM 11 4, PO 12 (.bin false .add (.s 0) (I6 1)), VS 4 5 0]))
def ir11_k0 : List Bool := [true, false, true, true, true]
def ir11_o0 : List Bool := [false, false, true, false, false]
def ir11_r0 : List Bool := [false, true, false, false, false]
def ir11_v : List Nat := [0, 2, 3, 4, 5]
def ir11 : AFn := ⟨1, 5, .seq (.region false [ VO 1 2 (.mov (.c (.str [])))]) (.seq (.region false [ PO 6 (.mkSl 1 (.int .u8 (0)) 0 []), VS 2 3 0]) (.seq (.region false [ VO 3 4 (.mov (I6 0))]) (.seq (.seq (.region false [ VO 4 5 (.mov (I6 0))]) (.block 0 (.loop ir11_k0 ir11_o0 ir11_r0 ir11_b0))) (.seq (.region false [ PM 26 2, PO 27 (.b2s (.s 0)), VS 1 2 0]) (.ret))))), [.t 1]⟩
noncomputable def t_14 : List (Nat × Ctr) := [(26, c_11), (25, c_12), (27, c_13)]
theorem lk_14_26 : look t_14 26 = some c_11 := rfl
theorem lk_14_25 : look t_14 25 = some c_12 := rfl
theorem lk_14_27 : look t_14 27 = some c_13 := rfl
noncomputable def c_14 : Ctr := mkF t_14 ir11 [.bor]
theorem s_14 : Sound Tryd.prog 11 c_14 := mkF_sound _ rfl (snd_cons s_11 (snd_cons s_12 (snd_cons s_13 snd_nil))) (by kernel_rfl : chkFn Tryd.prog 11 ir11 ir11_v = true)
theorem M_14 : c_14.modes = [.bor] := rfl
theorem Fl_14 : c_14.flat = true := rfl
attribute [go_sem] M_14 Fl_14
attribute [go_sem] lk_14_26 lk_14_25 lk_14_27
def E_14_l1 (list : List Entry) : ((List UInt8) × Int × Int) → St
 | (out, stamp, i) => ⟨[.sl 3 (List.map Entry_av list), .any, .own 3200000, .int .i64 stamp, .int .i64 i], [], [(3200000, ⟨1, List.map byteAV out⟩)], true⟩
def R_14_l1 (list : List Entry) (y : (List UInt8)) : Res := (.exit 0, ⟨[.any, .any, .own 3200000, .any, .any], [], [(3200000, ⟨1, List.map byteAV y⟩)], true⟩)
theorem spec_l27Make_l1_ex {list : List Entry} {sgm_ : (List UInt8) × Int × Int} {rho_ : (List UInt8)} (h : whileE (spec_l27Make_l1 list) sgm_ = some rho_) : ∃ L0, ∀ L, L0 ≤ L → iter (exec (look t_14) L ir11_b0) ir11_k0 ir11_o0 ir11_r0 L (E_14_l1 list sgm_) = R_14_l1 list rho_ := by
 refine loop_ex (E := E_14_l1 list) (R := R_14_l1 list) (fun y => by first | (intro c; cases c) | (rcases y with y | y <;> (intro c; cases c)) | (rcases y with y | y | y <;> (intro c; cases c))) ?_ h
 clear h
 rintro ⟨out, stamp, i⟩ o_ h
 dsimp only [spec_l27Make_l1] at h
 rcases it_some h with ⟨z1, h⟩ | ⟨z1, h⟩
 ·try simp only [go_sem, n1, n2, n3, n4] at z1
  all_goals
  obtain ⟨z2, h⟩ := ck_some h
  have lz2 := ix_lt z2
  have xz2 := getD_mapD Entry_av list lz2
  try simp only [go_sem] at lz2
  try simp only [go_sem] at xz2
  try simp only [go_sem, n1, n2, n3, n4, z1] at z2
  all_goals
  obtain ⟨y_3, z3, h⟩ := bd_some h
  have fz3 := Fs_11 z3
  try simp only [go_sem, z1, z2] at fz3
  obtain ⟨y_4, z4, h⟩ := bd_some h
  have fz4 := Fs_12 z4
  try simp only [go_sem, z1, z2] at fz4
  obtain ⟨y_5, z5, h⟩ := bd_some h
  have fz5 := Fs_13 z5
  try simp only [go_sem, z1, z2] at fz5
  obtain ⟨z6, h⟩ := ck_some h
  try simp only [go_sem, n1, n2, n3, n4, z1, z2] at z6
  all_goals
  obtain rfl := so_some h
  refine ⟨0, fun L hL => ?_⟩
  simp only [go_sem, ir11, E_14_l1, R_14_l1, ir11_b0, ir11_k0, ir11_o0, ir11_r0, z1, z2, lz2, xz2, fz3, fz4, fz5, z6]
 ·try simp only [go_sem, n1, n2, n3, n4] at z1
  all_goals
  obtain rfl := so_some h
  refine ⟨0, fun L hL => ?_⟩
  simp only [go_sem, ir11, E_14_l1, R_14_l1, ir11_b0, ir11_k0, ir11_o0, ir11_r0, z1]

theorem Fs_14 {list : List Entry} {y_ : (List UInt8)} (h : spec_l27Make list = some y_) : c_14.F [.sl 3 (List.map Entry_av list)] = ⟨true, .str y_, [.any]⟩ := by
 refine mkF_E rfl ?_
 dsimp only [spec_l27Make] at h
 obtain ⟨y_7, z7, h⟩ := bd_some h
 obtain ⟨Lz7, ez7⟩ := spec_l27Make_l1_ex z7
 obtain rfl := so_some h
 refine ⟨Lz7, fun L hL => ?_⟩
 have ez7 := ez7 L (by omega)
 try simp only [go_sem, E_14_l1, R_14_l1, ir11_k0, ir11_o0, ir11_r0] at ez7
 simp only [go_sem, ir11, E_14_l1, R_14_l1, ir11_k0, ir11_o0, ir11_r0, ez7]


def ir5_b0 : IR := .seq (.test false [ PM 7 3, PM 8 0, PO 9 (.len false (.s 0)), PO 10 (.bin false .lss (.s 2) (.s 0))] (.s 0) (.skip) (.exit 0)) (.seq (.block 1 (.test false [ PM 13 0, PM 14 3, PO 15 (.ixAddr 3 (.s 1) (.s 0)), PO 16 (.call 10 [(.s 0)]), PO 17 (.un .not (.s 0))] (.s 0) (.seq (.region false [ VO 1 2 (.mov (.c (.str []))), VO 2 3 (.mov (I6 7))]) (.ret)) (.skip))) (.region false [ PM 11 3, PO 12 (.bin false .add (.s 0) (I6 1)), VS 3 4 0]))
def ir5_k0 : List Bool := [true, false, false, true, false, false]
def ir5_o0 : List Bool := [true, false, false, false, false, false]
def ir5_r0 : List Bool := [false, true, true, false, false, false]
def ir5_b1 : IR := .seq (.test false [ PM 18 4, PM 19 0, PO 20 (.len false (.s 0)), PO 21 (.bin false .lss (.s 2) (.s 0))] (.s 0) (.skip) (.exit 2)) (.seq (.block 3 (.anyo 12 [ SO 0 24 (.mov (.v 0)), SO 1 25 (.mov (.v 4)), SO 2 26 (.ixAddr 3 (.s 0) (.s 1)), SO 3 27 (.fldAddr 0 (.s 2)), SO 4 28 (.load false 1 (.s 3)), SO 5 29 (.mov (.v 0)), SO 6 30 (.mov (.v 4)), SO 7 31 (.bin false .sub (.s 6) (I6 1)), SO 8 32 (.ixAddr 3 (.s 5) (.s 7)), SO 9 33 (.fldAddr 0 (.s 8)), SO 10 34 (.load false 1 (.s 9)), SO 11 35 (.bin false .lss (.s 4) (.s 10))] [] (.cond (.s 11) (.seq (.region false [ VO 1 2 (.mov
 (.c (.str []))), VO 2 3 (.mov (I6 6))]) (.ret)) (.skip)))) (.region false [ PM 22 4, PO 23 (.bin false .add (.s 0) (I6 1)), VS 4 5 0]))
def ir5_k1 : List Bool := [true, false, false, false, true, false]
def ir5_o1 : List Bool := [true, false, false, false, false, false]
def ir5_r1 : List Bool := [false, true, true, false, false, false]
def ir5_v : List Nat := [0, 2, 3, 4, 5, 6]
def ir5 : AFn := ⟨1, 6, .seq (.region false [ VO 1 2 (.mov (.c (.str []))), VO 2 3 (.mov (I6 0))]) (.seq (.seq (.region false [ VO 3 4 (.mov (I6 0))]) (.block 0 (.loop ir5_k0 ir5_o0 ir5_r0 ir5_b0))) (.seq (.seq (.region false [ VO 4 5 (.mov (I6 1))]) (.block 2 (.loop ir5_k1 ir5_o1 ir5_r1 ir5_b1))) (.seq (.region false [ PM 36 0, PO 37 (.call 11 [(.s 0)]), VS 5 6 0]) (.seq (.test false [ PM 38 5, PO 39 (.len true (.s 0)), PO 40 (.bin false .gtr (.s 0) (I6 4000))] (.s 0) (.seq (.region false [ VO 1 2 (.mov (.c (.str []))), VO 2 3 (.mov (I6 5))]) (.ret)) (.skip)) (.seq (.region false [ PM 41 5, VS
 1 2 0, VO 2 3 (.mov (I6 0))]) (.ret)))))), [.t 1, .t 2]⟩
noncomputable def t_15 : List (Nat × Ctr) := [(10, c_9), (11, c_14)]
theorem lk_15_10 : look t_15 10 = some c_9 := rfl
theorem lk_15_11 : look t_15 11 = some c_14 := rfl
noncomputable def c_15 : Ctr := mkF t_15 ir5 [.bor]
theorem s_15 : Sound Tryd.prog 5 c_15 := mkF_sound _ rfl (snd_cons s_9 (snd_cons s_14 snd_nil)) (by kernel_rfl : chkFn Tryd.prog 5 ir5 ir5_v = true)
theorem M_15 : c_15.modes = [.bor] := rfl
theorem Fl_15 : c_15.flat = true := rfl
attribute [go_sem] M_15 Fl_15
attribute [go_sem] lk_15_10 lk_15_11
def E_15_l1 (list : List Entry) : Int → St
 | i => ⟨[.sl 3 (List.map Entry_av list), .any, .any, .int .i64 i, .any, .any], [], [], true⟩
def R_15_l1 (list : List Entry) : (Unit ⊕ ((List UInt8) × Int)) → Res
 | .inl y => (.exit 0, ⟨[.sl 3 (List.map Entry_av list), .any, .any, .any, .any, .any], [], [], true⟩)
 | .inr y => (.ret, ⟨[.any, .str y.1, .int .i64 y.2, .any, .any, .any], [], [], true⟩)
set_option maxHeartbeats 64000000 in
theorem spec_LogOf_l1_ex {list : List Entry} {sgm_ : Int} {rho_ : Unit ⊕ ((List UInt8) × Int)} (h : whileE (spec_LogOf_l1 list) sgm_ = some rho_) : ∃ L0, ∀ L, L0 ≤ L → iter (exec (look t_15) L ir5_b0) ir5_k0 ir5_o0 ir5_r0 L (E_15_l1 list sgm_) = R_15_l1 list rho_ := by
 refine loop_ex (E := E_15_l1 list) (R := R_15_l1 list) (fun y => by first | (intro c; cases c) | (rcases y with y | y <;> (intro c; cases c)) | (rcases y with y | y | y <;> (intro c; cases c))) ?_ h
 clear h
 intro i o_ h
 dsimp only [spec_LogOf_l1] at h
 rcases it_some h with ⟨z1, h⟩ | ⟨z1, h⟩
 ·try simp only [go_sem, n1, n2, n3, n4] at z1
  all_goals
  obtain ⟨z2, h⟩ := ck_some h
  have lz2 := ix_lt z2
  have xz2 := getD_mapD Entry_av list lz2
  try simp only [go_sem] at lz2
  try simp only [go_sem] at xz2
  try simp only [go_sem, n1, n2, n3, n4, z1] at z2
  all_goals
  obtain ⟨y_3, z3, h⟩ := bd_some h
  have fz3 := Fs_9 z3
  try simp only [go_sem, z1, z2] at fz3
  rcases it_some h with ⟨z4, h⟩ | ⟨z4, h⟩
  ·try simp only [go_sem, n1, n2, n3, n4, z1, z2] at z4
   all_goals
   obtain rfl := so_some h
   refine ⟨0, fun L hL => ?_⟩
   simp only [go_sem, ir5, E_15_l1, R_15_l1, ir5_b0, ir5_k0, ir5_o0, ir5_r0, z1, z2, lz2, xz2, fz3, z4]
  ·try simp only [go_sem, n1, n2, n3, n4, z1, z2] at z4
   all_goals
   obtain rfl := so_some h
   refine ⟨0, fun L hL => ?_⟩
   simp only [go_sem, ir5, E_15_l1, R_15_l1, ir5_b0, ir5_k0, ir5_o0, ir5_r0, z1, z2, lz2, xz2, fz3, z4]
 ·try simp only [go_sem, n1, n2, n3, n4] at z1
  all_goals
  obtain rfl := so_some h
  refine ⟨0, fun L hL => ?_⟩
  simp only [go_sem, ir5, E_15_l1, R_15_l1, ir5_b0, ir5_k0, ir5_o0, ir5_r0, z1]

def E_15_l2 (list : List Entry) : Int → St
 | i => ⟨[.sl 3 (List.map Entry_av list), .any, .any, .any, .int .i64 i, .any], [], [], true⟩
def R_15_l2 (list : List Entry) : (Unit ⊕ ((List UInt8) × Int)) → Res
 | .inl y => (.exit 2, ⟨[.sl 3 (List.map Entry_av list), .any, .any, .any, .any, .any], [], [], true⟩)
 | .inr y => (.ret, ⟨[.any, .str y.1, .int .i64 y.2, .any, .any, .any], [], [], true⟩)
set_option maxHeartbeats 64000000 in
theorem spec_LogOf_l2_ex {list : List Entry} {sgm_ : Int} {rho_ : Unit ⊕ ((List UInt8) × Int)} (h : whileE (spec_LogOf_l2 list) sgm_ = some rho_) : ∃ L0, ∀ L, L0 ≤ L → iter (exec (look t_15) L ir5_b1) ir5_k1 ir5_o1 ir5_r1 L (E_15_l2 list sgm_) = R_15_l2 list rho_ := by
 refine loop_ex (E := E_15_l2 list) (R := R_15_l2 list) (fun y => by first | (intro c; cases c) | (rcases y with y | y <;> (intro c; cases c)) | (rcases y with y | y | y <;> (intro c; cases c))) ?_ h
 clear h
 intro i o_ h
 dsimp only [spec_LogOf_l2] at h
 rcases it_some h with ⟨z6, h⟩ | ⟨z6, h⟩
 ·try simp only [go_sem, n1, n2, n3, n4] at z6
  all_goals
  obtain ⟨z7, h⟩ := ck_some h
  have lz7 := ix_lt z7
  have xz7 := getD_mapD Entry_av list lz7
  try simp only [go_sem] at lz7
  try simp only [go_sem] at xz7
  try simp only [go_sem, n1, n2, n3, n4, z6] at z7
  all_goals
  obtain ⟨z8, h⟩ := ck_some h
  have lz8 := ix_lt z8
  have xz8 := getD_mapD Entry_av list lz8
  try simp only [go_sem] at lz8
  try simp only [go_sem] at xz8
  try simp only [go_sem, n1, n2, n3, n4, z6, z7] at z8
  all_goals
  rcases it_some h with ⟨z9, h⟩ | ⟨z9, h⟩
  ·try simp only [go_sem, n1, n2, n3, n4, z6, z7, z8] at z9
   all_goals
   obtain rfl := so_some h
   refine ⟨0, fun L hL => ?_⟩
   simp only [go_sem, ir5, E_15_l2, R_15_l2, ir5_b1, ir5_k1, ir5_o1, ir5_r1, E_15_l1, R_15_l1, ir5_k0, ir5_o0, ir5_r0, z6, z7, lz7, xz7, z8, lz8, xz8, z9]
  ·try simp only [go_sem, n1, n2, n3, n4, z6, z7, z8] at z9
   all_goals
   obtain rfl := so_some h
   refine ⟨0, fun L hL => ?_⟩
   simp only [go_sem, ir5, E_15_l2, R_15_l2, ir5_b1, ir5_k1, ir5_o1, ir5_r1, E_15_l1, R_15_l1, ir5_k0, ir5_o0, ir5_r0, z6, z7, lz7, xz7, z8, lz8, xz8, z9]
 ·try simp only [go_sem, n1, n2, n3, n4] at z6
  all_goals
  obtain rfl := so_some h
  refine ⟨0, fun L hL => ?_⟩
  simp only [go_sem, ir5, E_15_l2, R_15_l2, ir5_b1, ir5_k1, ir5_o1, ir5_r1, E_15_l1, R_15_l1, ir5_k0, ir5_o0, ir5_r0, z6]

set_option maxHeartbeats 64000000 in
theorem Fs_15 {list : List Entry} {y_ : (List UInt8) × Int} (h : spec_LogOf list = some y_) : c_15.F [.sl 3 (List.map Entry_av list)] = ⟨true, .tup [.str y_.1, .int .i64 y_.2], [.any]⟩ := by
 refine mkF_E rfl ?_
 dsimp only [spec_LogOf] at h
 obtain ⟨y_5, z5, h⟩ := bd_some h
 obtain ⟨Lz5, ez5⟩ := spec_LogOf_l1_ex z5
 rcases y_5 with y_5a | y_5b
 ·dsimp only at h
  obtain ⟨y_10, z10, h⟩ := bd_some h
  obtain ⟨Lz10, ez10⟩ := spec_LogOf_l2_ex z10
  rcases y_10 with y_10a | y_10b
  ·dsimp only at h
   obtain ⟨y_11, z11, h⟩ := bd_some h
   have fz11 := Fs_14 z11
   try simp only [go_sem] at fz11
   rcases it_some h with ⟨z12, h⟩ | ⟨z12, h⟩
   ·try simp only [go_sem, n1, n2, n3, n4] at z12
    all_goals
    obtain rfl := so_some h
    refine ⟨Lz5 + Lz10, fun L hL => ?_⟩
    have ez5 := ez5 L (by omega)
    have ez10 := ez10 L (by omega)
    try simp only [go_sem, E_15_l1, R_15_l1, ir5_k0, ir5_o0, ir5_r0, E_15_l2, R_15_l2, ir5_k1, ir5_o1, ir5_r1, z12] at ez5
    try simp only [go_sem, E_15_l1, R_15_l1, ir5_k0, ir5_o0, ir5_r0, E_15_l2, R_15_l2, ir5_k1, ir5_o1, ir5_r1, z12] at ez10
    simp only [go_sem, ir5, E_15_l1, R_15_l1, ir5_k0, ir5_o0, ir5_r0, E_15_l2, R_15_l2, ir5_k1, ir5_o1, ir5_r1, fz11, z12, ez5, ez10]
   ·try simp only [go_sem, n1, n2, n3, n4] at z12
    all_goals
    obtain rfl := so_some h
    refine ⟨Lz5 + Lz10, fun L hL => ?_⟩
    have ez5 := ez5 L (by omega)
    have ez10 := ez10 L (by omega)
    try simp only [go_sem, E_15_l1, R_15_l1, ir5_k0, ir5_o0, ir5_r0, E_15_l2, R_15_l2, ir5_k1, ir5_o1, ir5_r1, z12] at ez5
    try simp only [go_sem, E_15_l1, R_15_l1, ir5_k0, ir5_o0, ir5_r0, E_15_l2, R_15_l2, ir5_k1, ir5_o1, ir5_r1, z12] at ez10
    simp only [go_sem, ir5, E_15_l1, R_15_l1, ir5_k0, ir5_o0, ir5_r0, E_15_l2, R_15_l2, ir5_k1, ir5_o1, ir5_r1, fz11, z12, ez5, ez10]
  ·dsimp only at h
   obtain rfl := so_some h
   refine ⟨Lz5 + Lz10, fun L hL => ?_⟩
   have ez5 := ez5 L (by omega)
   have ez10 := ez10 L (by omega)
   try simp only [go_sem, E_15_l1, R_15_l1, ir5_k0, ir5_o0, ir5_r0, E_15_l2, R_15_l2, ir5_k1, ir5_o1, ir5_r1] at ez5
   try simp only [go_sem, E_15_l1, R_15_l1, ir5_k0, ir5_o0, ir5_r0, E_15_l2, R_15_l2, ir5_k1, ir5_o1, ir5_r1] at ez10
   simp only [go_sem, ir5, E_15_l1, R_15_l1, ir5_k0, ir5_o0, ir5_r0, E_15_l2, R_15_l2, ir5_k1, ir5_o1, ir5_r1, ez5, ez10]
 ·dsimp only at h
  obtain rfl := so_some h
  refine ⟨Lz5, fun L hL => ?_⟩
  have ez5 := ez5 L (by omega)
  try simp only [go_sem, E_15_l1, R_15_l1, ir5_k0, ir5_o0, ir5_r0, E_15_l2, R_15_l2, ir5_k1, ir5_o1, ir5_r1] at ez5
  simp only [go_sem, ir5, E_15_l1, R_15_l1, ir5_k0, ir5_o0, ir5_r0, E_15_l2, R_15_l2, ir5_k1, ir5_o1, ir5_r1, ez5]


def ir29_v : List Nat := [0, 1, 2, 6]
def ir29 : AFn := ⟨3, 4, .seq (.region false [ VO 3 6 (.mov (.c (.bool false)))]) (.seq (.region false [ PM 7 0, PM 8 1, PO 9 (.bin false .geq (.s 1) (.s 0)), PO 10 (.mov (.s 0)), ⟨.push, 11, (some ((.s 0), true)), .mov (.v 0)⟩, ⟨.push, 12, (some ((.s 1), true)), .mov (.v 2)⟩, ⟨.push, 13, (some ((.s 2), true)), .bin false .leq (.s 1) (.s 0)⟩, PO 14 (.pick (.s 3) (.s 0) (.c (.bool false))), VS 3 6 0]) (.ret)), [.t 3]⟩
noncomputable def t_16 : List (Nat × Ctr) := []
noncomputable def c_16 : Ctr := mkF t_16 ir29 [.bor, .bor, .bor]
theorem s_16 : Sound Tryd.prog 29 c_16 := mkF_sound _ rfl snd_nil (by kernel_rfl : chkFn Tryd.prog 29 ir29 ir29_v = true)
theorem M_16 : c_16.modes = [.bor, .bor, .bor] := rfl
theorem Fl_16 : c_16.flat = true := rfl
attribute [go_sem] M_16 Fl_16
theorem Fs_16 {n : Int} {low : Int} {high : Int} {y_ : Bool} (h : impl_in n low high = some y_) : c_16.F [.int .i64 n, .int .i64 low, .int .i64 high] = ⟨true, .bool y_, [.any, .any, .any]⟩ := by
 refine mkF_E rfl ?_
 dsimp only [impl_in] at h
 obtain rfl := so_some h
 refine ⟨0, fun L hL => ?_⟩
 simp only [go_sem, ir29]


def ir30_b0 : IR := .seq (.region false [ VO 7 17 (.bin false .lss (.v 6) (.v 5))]) (.seq (.cond (.v 7) (.skip) (.exit 0)) (.seq (.block 1 (.seq (.region false [ PM 18 6, VS 2 3 0]) (.seq (.region false [ PM 19 0, PM 20 2, PO 21 (.ixStr (.s 1) (.s 0)), PO 22 (.bin false .geq (.s 0) (.c (.int .u8 (97)))), PO 23 (.mov (.s 0)), ⟨.push, 24, (some ((.s 0), true)), .mov (.v 0)⟩, ⟨.push, 25, (some ((.s 1), true)), .mov (.v 2)⟩, ⟨.push, 26, (some ((.s 2), true)), .ixStr (.s 1) (.s 0)⟩, ⟨.push, 27, (some ((.s 3), true)), .bin false .leq (.s 0) (.c (.int .u8 (122)))⟩, PO 28 (.pick (.s 4) (.s 0) (.c
 (.bool false))), VS 3 4 0]) (.seq (.region false [ PM 29 0, PM 30 2, PO 31 (.ixStr (.s 1) (.s 0)), PO 32 (.bin false .geq (.s 0) (.c (.int .u8 (48)))), PO 33 (.mov (.s 0)), ⟨.push, 34, (some ((.s 0), true)), .mov (.v 0)⟩, ⟨.push, 35, (some ((.s 1), true)), .mov (.v 2)⟩, ⟨.push, 36, (some ((.s 2), true)), .ixStr (.s 1) (.s 0)⟩, ⟨.push, 37, (some ((.s 3), true)), .bin false .leq (.s 0) (.c (.int .u8 (57)))⟩, PO 38 (.pick (.s 4) (.s 0) (.c (.bool false))), PO 39 (.mov (.s 0)), ⟨.push, 40, (some ((.s 0), false)), .mov (.v 0)⟩, ⟨.push, 41, (some ((.s 1), false)), .mov (.v 2)⟩, ⟨.push, 42, (some
 ((.s 2), false)), .ixStr (.s 1) (.s 0)⟩, ⟨.push, 43, (some ((.s 3), false)), .bin false .eql (.s 0) (.c (.int .u8 (45)))⟩, PO 44 (.pick (.s 4) (.c (.bool true)) (.s 0)), VS 4 5 0]) (.test false [ PM 45 3, PO 46 (.un .not (.s 0)), PO 47 (.mov (.s 0)), ⟨.push, 48, (some ((.s 0), true)), .mov (.v 2)⟩, ⟨.push, 49, (some ((.s 1), true)), .bin false .eql (.s 0) (I6 0)⟩, ⟨.push, 50, (some ((.s 2), true)), .mov (.s 0)⟩, ⟨.push, 51, (some ((.s 0), false)), .mov (.v 4)⟩, ⟨.push, 52, (some ((.s 1), false)), .un .not (.s 0)⟩, ⟨.push, 53, (some ((.s 5), true)), .pick (.s 2) (.c (.bool true)) (.s 0)⟩, PO 54
 (.pick (.s 6) (.s 0) (.c (.bool false)))] (.s 0) (.seq (.region false [ VO 1 2 (.mov (.c (.bool false)))]) (.ret)) (.skip)))))) (.region false [ PO 55 (.bin false .add (.v 6) (I6 1)), VS 6 16 0])))
def ir30_k0 : List Bool := [true, false, false, false, false, true, true, false]
def ir30_o0 : List Bool := [false, false, false, false, false, false, false, false]
def ir30_r0 : List Bool := [false, true, false, false, false, false, false, false]
def ir30_v : List Nat := [0, 2, 3, 4, 5, 15, 16, 17]
def ir30 : AFn := ⟨1, 8, .seq (.region false [ VO 1 2 (.mov (.c (.bool false)))]) (.seq (.test false [ PM 6 0, PO 7 (.len true (.s 0)), PO 8 (.bin false .lss (.s 0) (I6 1)), PO 9 (.mov (.s 0)), ⟨.push, 10, (some ((.s 0), false)), .mov (.v 0)⟩, ⟨.push, 11, (some ((.s 1), false)), .len true (.s 0)⟩, ⟨.push, 12, (some ((.s 2), false)), .bin false .gtr (.s 0) (I6 12)⟩, PO 13 (.pick (.s 3) (.c (.bool true)) (.s 0))] (.s 0) (.seq (.region false [ VO 1 2 (.mov (.c (.bool false)))]) (.ret)) (.skip)) (.seq (.seq (.region false [ PM 14 0, VO 5 15 (.len true (.s 0)), VO 6 16 (.mov (I6 0))]) (.block 0
 (.loop ir30_k0 ir30_o0 ir30_r0 ir30_b0))) (.seq (.region false [ VO 1 2 (.mov (.c (.bool true)))]) (.ret)))), [.t 1]⟩
noncomputable def t_17 : List (Nat × Ctr) := []
noncomputable def c_17 : Ctr := mkF t_17 ir30 [.bor]
theorem s_17 : Sound Tryd.prog 30 c_17 := mkF_sound _ rfl snd_nil (by kernel_rfl : chkFn Tryd.prog 30 ir30 ir30_v = true)
theorem M_17 : c_17.modes = [.bor] := rfl
theorem Fl_17 : c_17.flat = true := rfl
attribute [go_sem] M_17 Fl_17
def E_17_l1 (s_ : List UInt8) (t15 : Int) : Int → St
 | t16 => ⟨[.str s_, .any, .any, .any, .any, .int .i64 t15, .int .i64 t16, .any], [], [], true⟩
def R_17_l1 (s_ : List UInt8) (t15 : Int) : (Unit ⊕ Bool) → Res
 | .inl y => (.exit 0, ⟨[.any, .any, .any, .any, .any, .any, .any, .any], [], [], true⟩)
 | .inr y => (.ret, ⟨[.any, .bool y, .any, .any, .any, .any, .any, .any], [], [], true⟩)
theorem impl_IsName_l1_ex {s_ : List UInt8} {t15 : Int} {sgm_ : Int} {rho_ : Unit ⊕ Bool} (h : whileE (impl_IsName_l1 s_ t15) sgm_ = some rho_) : ∃ L0, ∀ L, L0 ≤ L → iter (exec (look t_17) L ir30_b0) ir30_k0 ir30_o0 ir30_r0 L (E_17_l1 s_ t15 sgm_) = R_17_l1 s_ t15 rho_ := by
 refine loop_ex (E := E_17_l1 s_ t15) (R := R_17_l1 s_ t15) (fun y => by first | (intro c; cases c) | (rcases y with y | y <;> (intro c; cases c)) | (rcases y with y | y | y <;> (intro c; cases c))) ?_ h
 clear h
 intro t16 o_ h
 dsimp only [impl_IsName_l1] at h
 rcases it_some h with ⟨z2, h⟩ | ⟨z2, h⟩
 ·try simp only [go_sem, n1, n2, n3, n4] at z2
  all_goals
  obtain ⟨z3, h⟩ := ck_some h
  try simp only [go_sem, n1, n2, n3, n4, z2] at z3
  all_goals
  rcases it_some h with ⟨z4, h⟩ | ⟨z4, h⟩
  ·try simp only [go_sem, n1, n2, n3, n4, z2, z3] at z4
   all_goals
   obtain rfl := so_some h
   refine ⟨0, fun L hL => ?_⟩
   simp only [go_sem, ir30, E_17_l1, R_17_l1, ir30_b0, ir30_k0, ir30_o0, ir30_r0, z2, z3, z4]
  ·try simp only [go_sem, n1, n2, n3, n4, z2, z3] at z4
   all_goals
   obtain rfl := so_some h
   refine ⟨0, fun L hL => ?_⟩
   simp only [go_sem, ir30, E_17_l1, R_17_l1, ir30_b0, ir30_k0, ir30_o0, ir30_r0, z2, z3, z4]
 ·try simp only [go_sem, n1, n2, n3, n4] at z2
  all_goals
  obtain rfl := so_some h
  refine ⟨0, fun L hL => ?_⟩
  simp only [go_sem, ir30, E_17_l1, R_17_l1, ir30_b0, ir30_k0, ir30_o0, ir30_r0, z2]

theorem Fs_17 {s_ : List UInt8} {y_ : Bool} (h : impl_IsName s_ = some y_) : c_17.F [.str s_] = ⟨true, .bool y_, [.any]⟩ := by
 refine mkF_E rfl ?_
 dsimp only [impl_IsName] at h
 rcases it_some h with ⟨z1, h⟩ | ⟨z1, h⟩
 ·try simp only [go_sem, n1, n2, n3, n4] at z1
  all_goals
  obtain rfl := so_some h
  refine ⟨0, fun L hL => ?_⟩
  simp only [go_sem, ir30, E_17_l1, R_17_l1, ir30_k0, ir30_o0, ir30_r0, z1]
 ·try simp only [go_sem, n1, n2, n3, n4] at z1
  all_goals
  obtain ⟨y_5, z5, h⟩ := bd_some h
  obtain ⟨Lz5, ez5⟩ := impl_IsName_l1_ex z5
  rcases y_5 with y_5a | y_5b
  ·dsimp only at h
   obtain rfl := so_some h
   refine ⟨Lz5, fun L hL => ?_⟩
   have ez5 := ez5 L (by omega)
   try simp only [go_sem, E_17_l1, R_17_l1, ir30_k0, ir30_o0, ir30_r0, z1] at ez5
   simp only [go_sem, ir30, E_17_l1, R_17_l1, ir30_k0, ir30_o0, ir30_r0, z1, ez5]
  ·dsimp only at h
   obtain rfl := so_some h
   refine ⟨Lz5, fun L hL => ?_⟩
   have ez5 := ez5 L (by omega)
   try simp only [go_sem, E_17_l1, R_17_l1, ir30_k0, ir30_o0, ir30_r0, z1] at ez5
   simp only [go_sem, ir30, E_17_l1, R_17_l1, ir30_k0, ir30_o0, ir30_r0, z1, ez5]


def ir15_v : List Nat := [0, 1, 2]
def ir15 : AFn := ⟨1, 3, .seq (.region false [ VO 1 1 (.box (.v 0)), VO 2 2 (.mov (.c (.bool false)))]) (.seq (.region false [ PO 3 (.fldAddr 0 (.v 1)), PO 4 (.load false 1 (.s 0)), PO 5 (.call 29 [(.s 0), (I6 0), (I6 100000)]), PO 6 (.mov (.s 0)), ⟨.push, 7, (some ((.s 0), true)), .fldAddr 1 (.v 1)⟩, ⟨.push, 8, (some ((.s 1), true)), .load false 1 (.s 0)⟩, ⟨.push, 9, (some ((.s 2), true)), .call 30 [(.s 0)]⟩, PO 10 (.pick (.s 3) (.s 0) (.c (.bool false))), PO 11 (.mov (.s 0)), ⟨.push, 12, (some ((.s 0), true)), .fldAddr 2 (.v 1)⟩, ⟨.push, 13, (some ((.s 1), true)), .load false 1 (.s 0)⟩,
 ⟨.push, 14, (some ((.s 2), true)), .call 29 [(.s 0), (.c (.int .i64 (-1000000))), (I6 1000000)]⟩, PO 15 (.pick (.s 3) (.s 0) (.c (.bool false))), VS 2 2 0]) (.ret)), [.t 2]⟩
noncomputable def t_18 : List (Nat × Ctr) := [(29, c_16), (30, c_17)]
theorem lk_18_29 : look t_18 29 = some c_16 := rfl
theorem lk_18_30 : look t_18 30 = some c_17 := rfl
noncomputable def c_18 : Ctr := mkF t_18 ir15 [.bor]
theorem s_18 : Sound Tryd.prog 15 c_18 := mkF_sound _ rfl (snd_cons s_16 (snd_cons s_17 snd_nil)) (by kernel_rfl : chkFn Tryd.prog 15 ir15 ir15_v = true)
theorem M_18 : c_18.modes = [.bor] := rfl
theorem Fl_18 : c_18.flat = true := rfl
attribute [go_sem] M_18 Fl_18
attribute [go_sem] lk_18_29 lk_18_30
theorem Fs_18 {e_ : Entry} {y_ : Bool} (h : impl_ValidEntry e_ = some y_) : c_18.F [Entry_av e_] = ⟨true, .bool y_, [.any]⟩ := by
 refine mkF_E rfl ?_
 dsimp only [impl_ValidEntry] at h
 obtain ⟨y_1, z1, h⟩ := bd_some h
 have fz1 := Fs_16 z1
 try simp only [go_sem] at fz1
 obtain ⟨z2, h⟩ := ck_some h
 rcases or_split z2 with ⟨gz2, z2⟩ | gz2
 ·try simp only [go_sem, n1, n2, n3, n4] at gz2
  all_goals
  obtain ⟨y_2, hz2⟩ := Option.isSome_iff_exists.1 z2
  have fz2 := Fs_17 hz2
  try simp only [go_sem, n1, n2, n3, n4, gz2] at hz2
  all_goals
  try simp only [go_sem, gz2] at fz2
  obtain ⟨z3, h⟩ := ck_some h
  rcases or_split z3 with ⟨gz3, z3⟩ | gz3
  ·try simp only [go_sem, n1, n2, n3, n4, gz2, hz2] at gz3
   all_goals
   obtain ⟨y_3, hz3⟩ := Option.isSome_iff_exists.1 z3
   have fz3 := Fs_16 hz3
   try simp only [go_sem, n1, n2, n3, n4, gz2, hz2, gz3] at hz3
   all_goals
   try simp only [go_sem, gz2, hz2, gz3] at fz3
   obtain rfl := so_some h
   refine ⟨0, fun L hL => ?_⟩
   simp only [go_sem, ir15, fz1, gz2, hz2, fz2, gz3, hz3, fz3]
  ·rcases and_f gz3 with gz3a | ⟨gz3a, gz3b⟩
   ·try simp only [go_sem, n1, n2, n3, n4, gz2, hz2] at gz3a
    all_goals
    (simp_all)
   ·try simp only [go_sem, n1, n2, n3, n4, gz2, hz2] at gz3a
    all_goals
    try simp only [go_sem, n1, n2, n3, n4, gz2, hz2, gz3a] at gz3b
    all_goals
    obtain rfl := so_some h
    refine ⟨0, fun L hL => ?_⟩
    simp only [go_sem, ir15, fz1, gz2, hz2, fz2, gz3a, gz3b]
 ·try simp only [go_sem, n1, n2, n3, n4] at gz2
  all_goals
  obtain ⟨z3, h⟩ := ck_some h
  obtain rfl := so_some h
  refine ⟨0, fun L hL => ?_⟩
  simp only [go_sem, ir15, fz1, gz2]


def ir14_v : List Nat := [0, 1, 2]
def ir14 : AFn := ⟨1, 3, .seq (.region false [ VO 1 1 (.box (.v 0)), VO 2 2 (.mov (.c (.bool false)))]) (.seq (.region false [ PO 3 (.load true 3 (.v 1)), PO 4 (.call 15 [(.s 0)]), PO 5 (.un .not (.s 0)), VS 2 2 0]) (.ret)), [.t 2]⟩
noncomputable def t_19 : List (Nat × Ctr) := [(15, c_18)]
theorem lk_19_15 : look t_19 15 = some c_18 := rfl
noncomputable def c_19 : Ctr := mkF t_19 ir14 [.bor]
theorem s_19 : Sound Tryd.prog 14 c_19 := mkF_sound _ rfl (snd_cons s_18 snd_nil) (by kernel_rfl : chkFn Tryd.prog 14 ir14 ir14_v = true)
theorem M_19 : c_19.modes = [.bor] := rfl
theorem Fl_19 : c_19.flat = true := rfl
attribute [go_sem] M_19 Fl_19
attribute [go_sem] lk_19_15
theorem Fs_19 {e_ : Entry} {y_ : Bool} (h : impl_LogOf_c1 e_ = some y_) : c_19.F [Entry_av e_] = ⟨true, .bool y_, [.any]⟩ := by
 refine mkF_E rfl ?_
 dsimp only [impl_LogOf_c1] at h
 obtain ⟨y_1, z1, h⟩ := bd_some h
 have fz1 := Fs_18 z1
 try simp only [go_sem] at fz1
 obtain rfl := so_some h
 refine ⟨0, fun L hL => ?_⟩
 simp only [go_sem, ir14, fz1]


def ir28_b0 : IR := .seq (.region false [ VO 6 9 (.bin false .lss (.v 5) (.v 4))]) (.seq (.cond (.v 6) (.skip) (.exit 0)) (.seq (.block 1 (.seq (.region false [ PM 10 5, VS 3 5 0]) (.test false [ PM 11 1, PM 12 0, PM 13 3, PO 14 (.ixAddr 3 (.s 1) (.s 0)), PO 15 (.load true 3 (.s 0)), PO 16 (.callv (.s 4) [(.s 0)])] (.s 0) (.seq (.region false [ PM 17 3, VS 2 4 0]) (.ret)) (.skip)))) (.region false [ PO 18 (.bin false .add (.v 5) (I6 1)), VS 5 8 0])))
def ir28_k0 : List Bool := [true, true, false, false, true, true, false]
def ir28_o0 : List Bool := [false, false, false, false, false, false, false]
def ir28_r0 : List Bool := [false, false, true, false, false, false, false]
def ir28_v : List Nat := [0, 1, 4, 5, 7, 8, 9]
def ir28 : AFn := ⟨2, 7, .seq (.region false [ VO 2 4 (.mov (I6 0))]) (.seq (.seq (.region false [ PM 6 0, VO 4 7 (.len false (.s 0)), VO 5 8 (.mov (I6 0))]) (.block 0 (.loop ir28_k0 ir28_o0 ir28_r0 ir28_b0))) (.seq (.region false [ VO 2 4 (.mov (.c (.int .i64 (-1))))]) (.ret))), [.t 2]⟩
noncomputable def t_20 : List (Nat × Ctr) := [(14, c_19)]
theorem lk_20_14 : look t_20 14 = some c_19 := rfl
noncomputable def c_20 : Ctr := mkF t_20 ir28 [.bor, .bor]
theorem s_20 : Sound Tryd.prog 28 c_20 := mkF_sound _ rfl (snd_cons s_19 snd_nil) (by kernel_rfl : chkFn Tryd.prog 28 ir28 ir28_v = true)
theorem M_20 : c_20.modes = [.bor, .bor] := rfl
theorem Fl_20 : c_20.flat = true := rfl
attribute [go_sem] M_20 Fl_20
attribute [go_sem] lk_20_14
def E_20_l1 (s_ : List Entry) (t7 : Int) : Int → St
 | t8 => ⟨[.sl 3 (List.map Entry_av s_), .fn (.func 14) [] [], .any, .any, .int .i64 t7, .int .i64 t8, .any], [], [], true⟩
def R_20_l1 (s_ : List Entry) (t7 : Int) : (Unit ⊕ Int) → Res
 | .inl y => (.exit 0, ⟨[.any, .any, .any, .any, .any, .any, .any], [], [], true⟩)
 | .inr y => (.ret, ⟨[.any, .any, .int .i64 y, .any, .any, .any, .any], [], [], true⟩)
theorem slices_IndexFunc_impl_Entry_impl_Entry__impl_LogOf_c1_l1_ex {s_ : List Entry} {t7 : Int} {sgm_ : Int} {rho_ : Unit ⊕ Int} (h : whileE (slices_IndexFunc_impl_Entry_impl_Entry__impl_LogOf_c1_l1 s_ t7) sgm_ = some rho_) : ∃ L0, ∀ L, L0 ≤ L → iter (exec (look t_20) L ir28_b0) ir28_k0 ir28_o0 ir28_r0 L (E_20_l1 s_ t7 sgm_) = R_20_l1 s_ t7 rho_ := by
 refine loop_ex (E := E_20_l1 s_ t7) (R := R_20_l1 s_ t7) (fun y => by first | (intro c; cases c) | (rcases y with y | y <;> (intro c; cases c)) | (rcases y with y | y | y <;> (intro c; cases c))) ?_ h
 clear h
 intro t8 o_ h
 dsimp only [slices_IndexFunc_impl_Entry_impl_Entry__impl_LogOf_c1_l1] at h
 rcases it_some h with ⟨z1, h⟩ | ⟨z1, h⟩
 ·try simp only [go_sem, n1, n2, n3, n4] at z1
  all_goals
  obtain ⟨z2, h⟩ := ck_some h
  have lz2 := ix_lt z2
  have xz2 := getD_mapD Entry_av s_ lz2
  try simp only [go_sem] at lz2
  try simp only [go_sem] at xz2
  try simp only [go_sem, n1, n2, n3, n4, z1] at z2
  all_goals
  obtain ⟨y_3, z3, h⟩ := bd_some h
  have fz3 := Fs_19 z3
  try simp only [go_sem, z1, z2] at fz3
  rcases it_some h with ⟨z4, h⟩ | ⟨z4, h⟩
  ·try simp only [go_sem, n1, n2, n3, n4, z1, z2] at z4
   all_goals
   obtain rfl := so_some h
   refine ⟨0, fun L hL => ?_⟩
   simp only [go_sem, ir28, E_20_l1, R_20_l1, ir28_b0, ir28_k0, ir28_o0, ir28_r0, z1, z2, lz2, xz2, fz3, z4]
  ·try simp only [go_sem, n1, n2, n3, n4, z1, z2] at z4
   all_goals
   obtain rfl := so_some h
   refine ⟨0, fun L hL => ?_⟩
   simp only [go_sem, ir28, E_20_l1, R_20_l1, ir28_b0, ir28_k0, ir28_o0, ir28_r0, z1, z2, lz2, xz2, fz3, z4]
 ·try simp only [go_sem, n1, n2, n3, n4] at z1
  all_goals
  obtain rfl := so_some h
  refine ⟨0, fun L hL => ?_⟩
  simp only [go_sem, ir28, E_20_l1, R_20_l1, ir28_b0, ir28_k0, ir28_o0, ir28_r0, z1]

theorem Fs_20 {s_ : List Entry} {y_ : Int} (h : slices_IndexFunc_impl_Entry_impl_Entry__impl_LogOf_c1 s_ = some y_) : c_20.F [.sl 3 (List.map Entry_av s_), .fn (.func 14) [] []] = ⟨true, .int .i64 y_, [.any, .any]⟩ := by
 refine mkF_E rfl ?_
 dsimp only [slices_IndexFunc_impl_Entry_impl_Entry__impl_LogOf_c1] at h
 obtain ⟨y_5, z5, h⟩ := bd_some h
 obtain ⟨Lz5, ez5⟩ := slices_IndexFunc_impl_Entry_impl_Entry__impl_LogOf_c1_l1_ex z5
 rcases y_5 with y_5a | y_5b
 ·dsimp only at h
  obtain rfl := so_some h
  refine ⟨Lz5, fun L hL => ?_⟩
  have ez5 := ez5 L (by omega)
  try simp only [go_sem, E_20_l1, R_20_l1, ir28_k0, ir28_o0, ir28_r0] at ez5
  simp only [go_sem, ir28, E_20_l1, R_20_l1, ir28_k0, ir28_o0, ir28_r0, ez5]
 ·dsimp only at h
  obtain rfl := so_some h
  refine ⟨Lz5, fun L hL => ?_⟩
  have ez5 := ez5 L (by omega)
  try simp only [go_sem, E_20_l1, R_20_l1, ir28_k0, ir28_o0, ir28_r0] at ez5
  simp only [go_sem, ir28, E_20_l1, R_20_l1, ir28_k0, ir28_o0, ir28_r0, ez5]


def ir13_v : List Nat := [0, 1, 4]
def ir13 : AFn := ⟨2, 3, .seq (.region false [ VO 2 4 (.mov (.c (.bool false)))]) (.seq (.region false [ PM 5 0, PM 6 1, PO 7 (.call 28 [(.s 1), (.s 0)]), PO 8 (.bin false .geq (.s 0) (I6 0)), VS 2 4 0]) (.ret)), [.t 2]⟩
noncomputable def t_21 : List (Nat × Ctr) := [(28, c_20)]
theorem lk_21_28 : look t_21 28 = some c_20 := rfl
noncomputable def c_21 : Ctr := mkF t_21 ir13 [.bor, .bor]
theorem s_21 : Sound Tryd.prog 13 c_21 := mkF_sound _ rfl (snd_cons s_20 snd_nil) (by kernel_rfl : chkFn Tryd.prog 13 ir13 ir13_v = true)
theorem M_21 : c_21.modes = [.bor, .bor] := rfl
theorem Fl_21 : c_21.flat = true := rfl
attribute [go_sem] M_21 Fl_21
attribute [go_sem] lk_21_28
theorem Fs_21 {s_ : List Entry} {y_ : Bool} (h : slices_ContainsFunc_impl_Entry_impl_Entry__impl_LogOf_c1 s_ = some y_) : c_21.F [.sl 3 (List.map Entry_av s_), .fn (.func 14) [] []] = ⟨true, .bool y_, [.any, .any]⟩ := by
 refine mkF_E rfl ?_
 dsimp only [slices_ContainsFunc_impl_Entry_impl_Entry__impl_LogOf_c1] at h
 obtain ⟨y_1, z1, h⟩ := bd_some h
 have fz1 := Fs_20 z1
 try simp only [go_sem] at fz1
 obtain rfl := so_some h
 refine ⟨0, fun L hL => ?_⟩
 simp only [go_sem, ir13, fz1]


theorem s_hFmt : Sound Tryd.prog 39 c_hFmt := hFmt_is

def ir38_v : List Nat := [0, 1, 4]
def ir38 : AFn := ⟨2, 3, .seq (.region false [ VO 2 4 (.mov (.c (.str [])))]) (.seq (.region false [ PM 5 0, PM 6 1, PO 7 (.call 39 [(.s 1), (.s 0)]), VS 2 4 0]) (.ret)), [.t 2]⟩
noncomputable def t_23 : List (Nat × Ctr) := [(39, c_hFmt)]
theorem lk_23_39 : look t_23 39 = some c_hFmt := rfl
noncomputable def c_23 : Ctr := mkF t_23 ir38 [.bor, .bor]
theorem s_23 : Sound Tryd.prog 38 c_23 := mkF_sound _ rfl (snd_cons s_hFmt snd_nil) (by kernel_rfl : chkFn Tryd.prog 38 ir38 ir38_v = true)
theorem M_23 : c_23.modes = [.bor, .bor] := rfl
theorem Fl_23 : c_23.flat = true := rfl
attribute [go_sem] M_23 Fl_23
attribute [go_sem] lk_23_39
theorem Fs_23 {i : Int} {base : Int} {y_ : (List UInt8)} (h : strconv_FormatInt i base = some y_) : c_23.F [.int .i64 i, .int .i64 base] = ⟨true, .str y_, [.any, .any]⟩ := by
 refine mkF_E rfl ?_
 dsimp only [strconv_FormatInt] at h
 obtain ⟨y_1, z1, h⟩ := bd_some h
 have fz1 := Fs_hFmt z1
 try simp only [go_sem] at fz1
 obtain rfl := so_some h
 refine ⟨0, fun L hL => ?_⟩
 simp only [go_sem, ir38, fz1]


def ir33_v : List Nat := [0, 2]
def ir33 : AFn := ⟨1, 2, .seq (.region false [ VO 1 2 (.mov (.c (.str [])))]) (.seq (.region false [ PM 3 0, PO 4 (.call 38 [(.s 0), (I6 10)]), VS 1 2 0]) (.ret)), [.t 1]⟩
noncomputable def t_24 : List (Nat × Ctr) := [(38, c_23)]
theorem lk_24_38 : look t_24 38 = some c_23 := rfl
noncomputable def c_24 : Ctr := mkF t_24 ir33 [.bor]
theorem s_24 : Sound Tryd.prog 33 c_24 := mkF_sound _ rfl (snd_cons s_23 snd_nil) (by kernel_rfl : chkFn Tryd.prog 33 ir33 ir33_v = true)
theorem M_24 : c_24.modes = [.bor] := rfl
theorem Fl_24 : c_24.flat = true := rfl
attribute [go_sem] M_24 Fl_24
attribute [go_sem] lk_24_38
theorem Fs_24 {n : Int} {y_ : (List UInt8)} (h : impl_Decimal n = some y_) : c_24.F [.int .i64 n] = ⟨true, .str y_, [.any]⟩ := by
 refine mkF_E rfl ?_
 dsimp only [impl_Decimal] at h
 obtain ⟨y_1, z1, h⟩ := bd_some h
 have fz1 := Fs_23 z1
 try simp only [go_sem] at fz1
 obtain rfl := so_some h
 refine ⟨0, fun L hL => ?_⟩
 simp only [go_sem, ir33, fz1]


def ir31_v : List Nat := [0, 1, 2]
def ir31 : AFn := ⟨1, 3, .seq (.region false [ VO 1 1 (.box (.v 0)), VO 2 2 (.mov (.c (.str [])))]) (.seq (.anyo 12 [ SO 0 3 (.fldAddr 0 (.v 1)), SO 1 4 (.load false 1 (.s 0)), SO 2 5 (.callp 33 [(.s 1)]), SO 3 6 (.bin false .add (.s 2) (.c (.str [32]))), SO 4 7 (.fldAddr 1 (.v 1)), SO 5 8 (.load false 1 (.s 4)), SO 6 9 (.bin false .add (.s 3) (.s 5)), SO 7 10 (.bin false .add (.s 6) (.c (.str [32]))), SO 8 11 (.fldAddr 2 (.v 1)), SO 9 12 (.load false 1 (.s 8)), SO 10 13 (.callp 33 [(.s 9)]), SO 11 14 (.bin false .add (.s 7) (.s 10)), VS 2 2 11] [] .skip) (.ret)), [.t 2]⟩
noncomputable def t_25 : List (Nat × Ctr) := [(33, c_24)]
theorem lk_25_33 : look t_25 33 = some c_24 := rfl
noncomputable def c_25 : Ctr := mkF t_25 ir31 [.bor]
theorem s_25 : Sound Tryd.prog 31 c_25 := mkF_sound _ rfl (snd_cons s_24 snd_nil) (by kernel_rfl : chkFn Tryd.prog 31 ir31 ir31_v = true)
theorem M_25 : c_25.modes = [.bor] := rfl
theorem Fl_25 : c_25.flat = true := rfl
attribute [go_sem] M_25 Fl_25
attribute [go_sem] lk_25_33
theorem Fs_25 {e_ : Entry} {y_ : (List UInt8)} (h : impl_Entry_words e_ = some y_) : c_25.F [Entry_av e_] = ⟨true, .str y_, [.any]⟩ := by
 refine mkF_E rfl ?_
 dsimp only [impl_Entry_words] at h
 obtain ⟨y_1, z1, h⟩ := bd_some h
 have fz1 := Fs_24 z1
 try simp only [go_sem] at fz1
 obtain ⟨z2, h⟩ := ck_some h
 try simp only [go_sem, n1, n2, n3, n4] at z2
 all_goals
 obtain ⟨z3, h⟩ := ck_some h
 try simp only [go_sem, n1, n2, n3, n4, z2] at z3
 all_goals
 obtain ⟨z4, h⟩ := ck_some h
 try simp only [go_sem, n1, n2, n3, n4, z2, z3] at z4
 all_goals
 obtain ⟨y_5, z5, h⟩ := bd_some h
 have fz5 := Fs_24 z5
 try simp only [go_sem, z2, z3, z4] at fz5
 obtain ⟨z6, h⟩ := ck_some h
 try simp only [go_sem, n1, n2, n3, n4, z2, z3, z4] at z6
 all_goals
 obtain rfl := so_some h
 refine ⟨0, fun L hL => ?_⟩
 simp only [go_sem, ir31, fz1, z2, z3, z4, fz5, z6]


def ir16_b0 : IR := .seq (.region false [ VO 9 16 (.bin false .lss (.v 8) (.v 7))]) (.seq (.cond (.v 9) (.skip) (.exit 0)) (.seq (.block 1 (.seq (.region false [ PM 17 8, VS 6 7 0]) (.region false [ PM 18 4, PO 19 (.bin false .mul (I6 31) (.s 0)), PM 20 5, PM 21 6, PO 22 (.ixStr (.s 1) (.s 0)), PO 23 (.conv .i64 (.s 0)), PO 24 (.bin false .add (.s 4) (.s 0)), PO 25 (.bin false .rem (.s 0) (I6 65521)), VS 4 5 0]))) (.region false [ PO 26 (.bin false .add (.v 8) (I6 1)), VS 8 15 0])))
def ir16_k0 : List Bool := [false, false, false, false, true, true, false, true, true, false]
def ir16_o0 : List Bool := [false, false, false, false, true, false, false, false, false, false]
def ir16_r0 : List Bool := [false, false, false, true, false, false, false, false, false, false]
def ir16_v : List Nat := [0, 1, 3, 4, 5, 6, 7, 14, 15, 16]
def ir16 : AFn := ⟨2, 10, .seq (.region false [ VO 2 3 (.box (.v 1)), VO 3 4 (.mov (I6 0))]) (.seq (.region false [ PM 8 0, PO 9 (.bin false .add (.s 0) (I6 23)), PO 10 (.bin false .rem (.s 0) (I6 65521)), PO 11 (.load true 3 (.v 2)), PO 12 (.call 31 [(.s 0)]), VS 4 5 2, VS 5 6 0]) (.seq (.seq (.region false [ PM 13 5, VO 7 14 (.len true (.s 0)), VO 8 15 (.mov (I6 0))]) (.block 0 (.loop ir16_k0 ir16_o0 ir16_r0 ir16_b0))) (.seq (.region false [ PM 27 4, VS 3 4 0]) (.ret)))), [.t 3]⟩
noncomputable def t_26 : List (Nat × Ctr) := [(31, c_25)]
theorem lk_26_31 : look t_26 31 = some c_25 := rfl
noncomputable def c_26 : Ctr := mkF t_26 ir16 [.bor, .bor]
theorem s_26 : Sound Tryd.prog 16 c_26 := mkF_sound _ rfl (snd_cons s_25 snd_nil) (by kernel_rfl : chkFn Tryd.prog 16 ir16 ir16_v = true)
theorem M_26 : c_26.modes = [.bor, .bor] := rfl
theorem Fl_26 : c_26.flat = true := rfl
attribute [go_sem] M_26 Fl_26
attribute [go_sem] lk_26_31
def E_26_l1 (words : List UInt8) (t14 : Int) : (Int × Int) → St
 | (sum, t15) => ⟨[.any, .any, .any, .any, .int .i64 sum, .str words, .any, .int .i64 t14, .int .i64 t15, .any], [], [], true⟩
def R_26_l1 (words : List UInt8) (t14 : Int) (y : Int) : Res := (.exit 0, ⟨[.any, .any, .any, .any, .int .i64 y, .any, .any, .any, .any, .any], [], [], true⟩)
theorem impl_stamp_l1_ex {words : List UInt8} {t14 : Int} {sgm_ : Int × Int} {rho_ : Int} (h : whileE (impl_stamp_l1 words t14) sgm_ = some rho_) : ∃ L0, ∀ L, L0 ≤ L → iter (exec (look t_26) L ir16_b0) ir16_k0 ir16_o0 ir16_r0 L (E_26_l1 words t14 sgm_) = R_26_l1 words t14 rho_ := by
 refine loop_ex (E := E_26_l1 words t14) (R := R_26_l1 words t14) (fun y => by first | (intro c; cases c) | (rcases y with y | y <;> (intro c; cases c)) | (rcases y with y | y | y <;> (intro c; cases c))) ?_ h
 clear h
 rintro ⟨sum, t15⟩ o_ h
 dsimp only [impl_stamp_l1] at h
 rcases it_some h with ⟨z3, h⟩ | ⟨z3, h⟩
 ·try simp only [go_sem, n1, n2, n3, n4] at z3
  all_goals
  obtain ⟨z4, h⟩ := ck_some h
  try simp only [go_sem, n1, n2, n3, n4, z3] at z4
  all_goals
  obtain ⟨z5, h⟩ := ck_some h
  try simp only [go_sem, n1, n2, n3, n4, z3, z4] at z5
  all_goals
  obtain rfl := so_some h
  refine ⟨0, fun L hL => ?_⟩
  simp only [go_sem, ir16, E_26_l1, R_26_l1, ir16_b0, ir16_k0, ir16_o0, ir16_r0, z3, z4, z5]
 ·try simp only [go_sem, n1, n2, n3, n4] at z3
  all_goals
  obtain rfl := so_some h
  refine ⟨0, fun L hL => ?_⟩
  simp only [go_sem, ir16, E_26_l1, R_26_l1, ir16_b0, ir16_k0, ir16_o0, ir16_r0, z3]

theorem Fs_26 {before : Int} {e_ : Entry} {y_ : Int} (h : impl_stamp before e_ = some y_) : c_26.F [.int .i64 before, Entry_av e_] = ⟨true, .int .i64 y_, [.any, .any]⟩ := by
 refine mkF_E rfl ?_
 dsimp only [impl_stamp] at h
 obtain ⟨z1, h⟩ := ck_some h
 try simp only [go_sem, n1, n2, n3, n4] at z1
 all_goals
 obtain ⟨y_2, z2, h⟩ := bd_some h
 have fz2 := Fs_25 z2
 try simp only [go_sem, z1] at fz2
 obtain ⟨y_6, z6, h⟩ := bd_some h
 obtain ⟨Lz6, ez6⟩ := impl_stamp_l1_ex z6
 obtain rfl := so_some h
 refine ⟨Lz6, fun L hL => ?_⟩
 have ez6 := ez6 L (by omega)
 try simp only [go_sem, E_26_l1, R_26_l1, ir16_k0, ir16_o0, ir16_r0, z1] at ez6
 simp only [go_sem, ir16, E_26_l1, R_26_l1, ir16_k0, ir16_o0, ir16_r0, z1, fz2, ez6]


def ir18_v : List Nat := [0, 1, 2, 4]
def ir18 : AFn := ⟨2, 4, .seq (.region false [ VO 2 2 (.box (.v 0)), VO 3 4 (.mov (.c (.str [])))]) (.seq (.region false [ PO 5 (.load true 3 (.v 2)), PO 6 (.call 31 [(.s 0)]), PO 7 (.bin false .add (.s 0) (.c (.str [32]))), PM 8 1, PO 9 (.call 33 [(.s 0)]), PO 10 (.bin false .add (.s 2) (.s 0)), PO 11 (.bin false .add (.s 0) (.c (.str [10]))), VS 3 4 0]) (.ret)), [.t 3]⟩
noncomputable def t_27 : List (Nat × Ctr) := [(31, c_25), (33, c_24)]
theorem lk_27_31 : look t_27 31 = some c_25 := rfl
theorem lk_27_33 : look t_27 33 = some c_24 := rfl
noncomputable def c_27 : Ctr := mkF t_27 ir18 [.bor, .bor]
theorem s_27 : Sound Tryd.prog 18 c_27 := mkF_sound _ rfl (snd_cons s_25 (snd_cons s_24 snd_nil)) (by kernel_rfl : chkFn Tryd.prog 18 ir18 ir18_v = true)
theorem M_27 : c_27.modes = [.bor, .bor] := rfl
theorem Fl_27 : c_27.flat = true := rfl
attribute [go_sem] M_27 Fl_27
attribute [go_sem] lk_27_31 lk_27_33
theorem Fs_27 {e_ : Entry} {stamp : Int} {y_ : (List UInt8)} (h : impl_lineOf e_ stamp = some y_) : c_27.F [Entry_av e_, .int .i64 stamp] = ⟨true, .str y_, [.any, .any]⟩ := by
 refine mkF_E rfl ?_
 dsimp only [impl_lineOf] at h
 obtain ⟨y_1, z1, h⟩ := bd_some h
 have fz1 := Fs_25 z1
 try simp only [go_sem] at fz1
 obtain ⟨z2, h⟩ := ck_some h
 try simp only [go_sem, n1, n2, n3, n4] at z2
 all_goals
 obtain ⟨y_3, z3, h⟩ := bd_some h
 have fz3 := Fs_24 z3
 try simp only [go_sem, z2] at fz3
 obtain ⟨z4, h⟩ := ck_some h
 try simp only [go_sem, n1, n2, n3, n4, z2] at z4
 all_goals
 obtain ⟨z5, h⟩ := ck_some h
 try simp only [go_sem, n1, n2, n3, n4, z2, z4] at z5
 all_goals
 obtain rfl := so_some h
 refine ⟨0, fun L hL => ?_⟩
 simp only [go_sem, ir18, fz1, z2, fz3, z4, z5]



end Go.Proofs.YtaeefegkmachmaaDoor
