/- Codes and contracts of the functions that TB reaches, and that their typed forms say what they do. No condition. -/
import Derived.Test.YtambhaccpbhnhaaGreatDoorEngRows
import Derived.Test.YtambhaccpbhnhaaGreatDoorRows
import Derived.WalkKit
namespace Go.Proofs.YtambhaccpbhnhaaGreatDoor
open Go Go.RowKit
set_option linter.unusedVariables false
set_option linter.unusedSimpArgs false
set_option maxRecDepth 10000

def ir5_b0 : IR := .seq (.test false [ PM 21 7, PM 22 6, PO 23 (.bin false .lss (.s 1) (.s 0))] (.s 0) (.skip) (.exit 0)) (.seq (.block 1 (.region false [ PM 26 5, PM 27 3, PO 28 (.call 29 [(.s 0), (I6 2)]), PO 29 (.ixStr (.c (.str [108, 114])) (.s 0)), PO 30 (.mkSl 1 (.int .u8 (0)) 1 [(0, (.s 0))]), PO 31 (.app 1 1 (.int .u8 (0)) (.s 4) (.s 0)), VS 5 6 0])) (.region false [ PM 24 7, PO 25 (.bin false .add (.s 0) (I6 1)), VS 7 8 0]))
def ir5_k0 : List Bool := [false, false, false, true, true, true, true, true]
def ir5_o0 : List Bool := [false, false, false, true, true, true, false, false]
def ir5_r0 : List Bool := [false, true, true, false, false, false, false, false]
def ir5_v : List Nat := [0, 2, 3, 4, 5, 6, 7, 8]
def ir5 : AFn := ⟨1, 8, .seq (.region false [ VO 1 2 (.newnil 1), VO 2 3 (.mov (.c (.str [])))]) (.seq (.region false [ PM 9 0, PO 10 (.call 27 [(.s 0)]), VS 3 4 0]) (.seq (.region false [ PM 11 3, PO 12 (.call 28 [(.s 0)]), VS 4 5 0]) (.seq (.region false [ PO 13 (.mkSl 1 (.int .u8 (0)) 0 []), VS 5 6 0]) (.seq (.region false [ VO 6 7 (.mov (I6 0))]) (.seq (.test false [ PM 14 4, PO 15 (.len false (.s 0)), PO 16 (.bin false .gtr (.s 0) (I6 0))] (.s 0) (.region false [ PM 17 4, PO 18 (.ixAddr 1 (.s 0) (I6 0)), PO 19 (.load false 1 (.s 0)), PO 20 (.len false (.s 0)), VS 6 7 0]) (.skip)) (.seq
 (.seq (.region false [ VO 7 8 (.mov (I6 0))]) (.block 0 (.loop ir5_k0 ir5_o0 ir5_r0 ir5_b0))) (.seq (.test false [ PM 32 3, PO 33 (.call 30 [(.s 0), (I6 10)])] (.s 0) (.region false [ PM 34 5, PM 35 3, PO 36 (.call 29 [(.s 0), (I6 3)]), PO 37 (.ixStr (.c (.str [108, 114, 120])) (.s 0)), PO 38 (.mkSl 1 (.int .u8 (0)) 1 [(0, (.s 0))]), PO 39 (.app 1 1 (.int .u8 (0)) (.s 4) (.s 0)), VS 5 6 0]) (.skip)) (.seq (.anyo 3 [ SO 0 40 (.mov (.v 4)), SO 1 41 (.mov (.v 5)), SO 2 42 (.b2s (.s 1)), VS 1 2 0, VS 2 3 2] [] .skip) (.ret))))))))), [.t 1, .t 2]⟩
noncomputable def t_9 : List (Nat × Ctr) := [(27, c_1), (28, c_spec_l24DrawRows), (29, c_3), (30, c_4)]
theorem lk_9_27 : look t_9 27 = some c_1 := rfl
theorem lk_9_28 : look t_9 28 = some c_spec_l24DrawRows := rfl
theorem lk_9_29 : look t_9 29 = some c_3 := rfl
theorem lk_9_30 : look t_9 30 = some c_4 := rfl
noncomputable def c_9 : Ctr := mkN t_9 ir5 [.bor]
theorem s_9 : Sound Tryz.prog 5 c_9 := mkN_sound _ (snd_cons s_1 (snd_cons s_spec_l24DrawRows (snd_cons s_3 (snd_cons s_4 snd_nil)))) (by kernel_rfl : chkFn Tryz.prog 5 ir5 ir5_v = true)
theorem M_9 : c_9.modes = [.bor] := rfl
theorem Fl_9 : c_9.flat = false := rfl
attribute [go_sem] M_9 Fl_9
attribute [go_sem] lk_9_27 lk_9_28 lk_9_29 lk_9_30
def E_9_l1 (rows : List (List (List UInt8))) (n : Int) : (L00Src × (List UInt8) × Int) → St
 | (s_, sides, k) => ⟨[.any, .any, .any, .ref 3200000 0 0, .own 3200032, .own 3200064, .int .i64 n, .int .i64 k], [], [(3200000, ⟨3, [L00Src_av s_]⟩), (3200032, ⟨1, List.map (slE 1 AV.str) rows⟩), (3200064, ⟨1, List.map byteAV sides⟩)], true⟩
def R_9_l1 (rows : List (List (List UInt8))) (n : Int) (y : L00Src × (List UInt8)) : Res := (.exit 0, ⟨[.any, .any, .any, .ref 3200000 0 0, .own 3200032, .own 3200064, .any, .any], [], [(3200000, ⟨3, [L00Src_av y.1]⟩), (3200032, ⟨1, List.map (slE 1 AV.str) rows⟩), (3200064, ⟨1, List.map byteAV y.2⟩)], true⟩)
set_option maxHeartbeats 64000000 in
theorem spec_DrawTableLines_l1_ex {rows : List (List (List UInt8))} {n : Int} {sgm_ : L00Src × (List UInt8) × Int} {rho_ : L00Src × (List UInt8)} (h : whileE (spec_DrawTableLines_l1 rows n) sgm_ = some rho_) : ∃ L0, ∀ L, L0 ≤ L → iter (exec (look t_9) L ir5_b0) ir5_k0 ir5_o0 ir5_r0 L (E_9_l1 rows n sgm_) = R_9_l1 rows n rho_ := by
 refine loop_ex (E := E_9_l1 rows n) (R := R_9_l1 rows n) (fun y => by first | (intro c; cases c) | (rcases y with y | y <;> (intro c; cases c)) | (rcases y with y | y | y <;> (intro c; cases c))) ?_ h
 clear h
 rintro ⟨s_, sides, k⟩ o_ h
 dsimp only [spec_DrawTableLines_l1] at h
 rcases it_some h with ⟨z5, h⟩ | ⟨z5, h⟩
 ·try simp only [go_sem, n1, n2, n3, n4] at z5
  all_goals
  obtain ⟨y_6, z6, h⟩ := bd_some h
  have fz6 := Fs_3 z6
  try simp only [go_sem, z5] at fz6
  obtain ⟨z7, h⟩ := ck_some h
  try simp only [go_sem, n1, n2, n3, n4, z5] at z7
  all_goals
  obtain ⟨z8, h⟩ := ck_some h
  try simp only [go_sem, n1, n2, n3, n4, z5, z7] at z8
  all_goals
  obtain rfl := so_some h
  refine ⟨0, fun L hL => ?_⟩
  simp only [go_sem, ir5, E_9_l1, R_9_l1, ir5_b0, ir5_k0, ir5_o0, ir5_r0, z5, fz6, z7, z8]
 ·try simp only [go_sem, n1, n2, n3, n4] at z5
  all_goals
  obtain rfl := so_some h
  refine ⟨0, fun L hL => ?_⟩
  simp only [go_sem, ir5, E_9_l1, R_9_l1, ir5_b0, ir5_k0, ir5_o0, ir5_r0, z5]

def E_9_l2 (rows : List (List (List UInt8))) (n : Int) : (L00Src × (List UInt8) × Int) → St
 | (s_, sides, k) => ⟨[.any, .any, .any, .ref 3200000 0 0, .own 3200032, .own 3200064, .int .i64 n, .int .i64 k], [], [(3200000, ⟨3, [L00Src_av s_]⟩), (3200032, ⟨1, List.map (slE 1 AV.str) rows⟩), (3200064, ⟨1, List.map byteAV sides⟩)], true⟩
def R_9_l2 (rows : List (List (List UInt8))) (n : Int) (y : L00Src × (List UInt8)) : Res := (.exit 0, ⟨[.any, .any, .any, .ref 3200000 0 0, .own 3200032, .own 3200064, .any, .any], [], [(3200000, ⟨3, [L00Src_av y.1]⟩), (3200032, ⟨1, List.map (slE 1 AV.str) rows⟩), (3200064, ⟨1, List.map byteAV y.2⟩)], true⟩)
set_option maxHeartbeats 64000000 in
theorem spec_DrawTableLines_l2_ex {rows : List (List (List UInt8))} {n : Int} {sgm_ : L00Src × (List UInt8) × Int} {rho_ : L00Src × (List UInt8)} (h : whileE (spec_DrawTableLines_l2 rows n) sgm_ = some rho_) : ∃ L0, ∀ L, L0 ≤ L → iter (exec (look t_9) L ir5_b0) ir5_k0 ir5_o0 ir5_r0 L (E_9_l2 rows n sgm_) = R_9_l2 rows n rho_ := by
 refine loop_ex (E := E_9_l2 rows n) (R := R_9_l2 rows n) (fun y => by first | (intro c; cases c) | (rcases y with y | y <;> (intro c; cases c)) | (rcases y with y | y | y <;> (intro c; cases c))) ?_ h
 clear h
 rintro ⟨s_, sides, k⟩ o_ h
 dsimp only [spec_DrawTableLines_l2] at h
 rcases it_some h with ⟨z15, h⟩ | ⟨z15, h⟩
 ·try simp only [go_sem, n1, n2, n3, n4] at z15
  all_goals
  obtain ⟨y_16, z16, h⟩ := bd_some h
  have fz16 := Fs_3 z16
  try simp only [go_sem, z15] at fz16
  obtain ⟨z17, h⟩ := ck_some h
  try simp only [go_sem, n1, n2, n3, n4, z15] at z17
  all_goals
  obtain ⟨z18, h⟩ := ck_some h
  try simp only [go_sem, n1, n2, n3, n4, z15, z17] at z18
  all_goals
  obtain rfl := so_some h
  refine ⟨0, fun L hL => ?_⟩
  simp only [go_sem, ir5, E_9_l2, R_9_l2, ir5_b0, ir5_k0, ir5_o0, ir5_r0, E_9_l1, R_9_l1, ir5_k0, ir5_o0, ir5_r0, z15, fz16, z17, z18]
 ·try simp only [go_sem, n1, n2, n3, n4] at z15
  all_goals
  obtain rfl := so_some h
  refine ⟨0, fun L hL => ?_⟩
  simp only [go_sem, ir5, E_9_l2, R_9_l2, ir5_b0, ir5_k0, ir5_o0, ir5_r0, E_9_l1, R_9_l1, ir5_k0, ir5_o0, ir5_r0, z15]

set_option maxHeartbeats 64000000 in
theorem Fs_9 {code : List UInt8} {y_ : (List (List (List UInt8))) × (List UInt8)} (h : spec_DrawTableLines code = some y_) : c_9.F [.sl 1 (List.map byteAV code)] = ⟨true, .tup [.fresh 1 (List.map (slE 1 AV.str) y_.1), .str y_.2], [.any]⟩ := by
 refine mkN_E ?_
 dsimp only [spec_DrawTableLines] at h
 obtain ⟨y_1, z1, h⟩ := bd_some h
 have fz1 := Fs_1 z1
 try simp only [go_sem] at fz1
 obtain ⟨y_2, z2, h⟩ := bd_some h
 have fz2 := Fs_spec_l24DrawRows z2
 try simp only [go_sem] at fz2
 rcases it_some h with ⟨z3, h⟩ | ⟨z3, h⟩
 ·try simp only [go_sem, n1, n2, n3, n4] at z3
  all_goals
  obtain ⟨z4, h⟩ := ck_some h
  have lz4 := ix_lt z4
  have xz4 := getD_mapD (slE 1 AV.str) y_2.1 lz4
  try simp only [go_sem] at lz4
  try simp only [go_sem] at xz4
  try simp only [go_sem, n1, n2, n3, n4, z3] at z4
  all_goals
  obtain ⟨y_9, z9, h⟩ := bd_some h
  obtain ⟨Lz9, ez9⟩ := spec_DrawTableLines_l1_ex z9
  obtain ⟨y_10, z10, h⟩ := bd_some h
  have fz10 := Fs_4 z10
  try simp only [go_sem, z3, z4] at fz10
  rcases it_some h with ⟨z11, h⟩ | ⟨z11, h⟩
  ·try simp only [go_sem, n1, n2, n3, n4, z3, z4] at z11
   all_goals
   obtain ⟨y_12, z12, h⟩ := bd_some h
   have fz12 := Fs_3 z12
   try simp only [go_sem, z3, z4, z11] at fz12
   obtain ⟨z13, h⟩ := ck_some h
   try simp only [go_sem, n1, n2, n3, n4, z3, z4, z11] at z13
   all_goals
   obtain ⟨z14, h⟩ := ck_some h
   try simp only [go_sem, n1, n2, n3, n4, z3, z4, z11, z13] at z14
   all_goals
   obtain rfl := so_some h
   refine ⟨Lz9, fun L hL => ?_⟩
   have ez9 := ez9 L (by omega)
   try simp only [go_sem, E_9_l1, R_9_l1, ir5_k0, ir5_o0, ir5_r0, E_9_l2, R_9_l2, ir5_k0, ir5_o0, ir5_r0, z3, z4, z11, z13, z14] at ez9
   simp only [go_sem, ir5, E_9_l1, R_9_l1, ir5_k0, ir5_o0, ir5_r0, E_9_l2, R_9_l2, ir5_k0, ir5_o0, ir5_r0, fz1, fz2, z3, z4, lz4, xz4, fz10, z11, fz12, z13, z14, ez9]
  ·try simp only [go_sem, n1, n2, n3, n4, z3, z4] at z11
   all_goals
   obtain rfl := so_some h
   refine ⟨Lz9, fun L hL => ?_⟩
   have ez9 := ez9 L (by omega)
   try simp only [go_sem, E_9_l1, R_9_l1, ir5_k0, ir5_o0, ir5_r0, E_9_l2, R_9_l2, ir5_k0, ir5_o0, ir5_r0, z3, z4, z11] at ez9
   simp only [go_sem, ir5, E_9_l1, R_9_l1, ir5_k0, ir5_o0, ir5_r0, E_9_l2, R_9_l2, ir5_k0, ir5_o0, ir5_r0, fz1, fz2, z3, z4, lz4, xz4, fz10, z11, ez9]
 ·try simp only [go_sem, n1, n2, n3, n4] at z3
  all_goals
  obtain ⟨y_19, z19, h⟩ := bd_some h
  obtain ⟨Lz19, ez19⟩ := spec_DrawTableLines_l2_ex z19
  obtain ⟨y_20, z20, h⟩ := bd_some h
  have fz20 := Fs_4 z20
  try simp only [go_sem, z3] at fz20
  rcases it_some h with ⟨z21, h⟩ | ⟨z21, h⟩
  ·try simp only [go_sem, n1, n2, n3, n4, z3] at z21
   all_goals
   obtain ⟨y_22, z22, h⟩ := bd_some h
   have fz22 := Fs_3 z22
   try simp only [go_sem, z3, z21] at fz22
   obtain ⟨z23, h⟩ := ck_some h
   try simp only [go_sem, n1, n2, n3, n4, z3, z21] at z23
   all_goals
   obtain ⟨z24, h⟩ := ck_some h
   try simp only [go_sem, n1, n2, n3, n4, z3, z21, z23] at z24
   all_goals
   obtain rfl := so_some h
   refine ⟨Lz19, fun L hL => ?_⟩
   have ez19 := ez19 L (by omega)
   try simp only [go_sem, E_9_l1, R_9_l1, ir5_k0, ir5_o0, ir5_r0, E_9_l2, R_9_l2, ir5_k0, ir5_o0, ir5_r0, z3, z21, z23, z24] at ez19
   simp only [go_sem, ir5, E_9_l1, R_9_l1, ir5_k0, ir5_o0, ir5_r0, E_9_l2, R_9_l2, ir5_k0, ir5_o0, ir5_r0, fz1, fz2, z3, fz20, z21, fz22, z23, z24, ez19]
  ·try simp only [go_sem, n1, n2, n3, n4, z3] at z21
   all_goals
   obtain rfl := so_some h
   refine ⟨Lz19, fun L hL => ?_⟩
   have ez19 := ez19 L (by omega)
   try simp only [go_sem, E_9_l1, R_9_l1, ir5_k0, ir5_o0, ir5_r0, E_9_l2, R_9_l2, ir5_k0, ir5_o0, ir5_r0, z3, z21] at ez19
   simp only [go_sem, ir5, E_9_l1, R_9_l1, ir5_k0, ir5_o0, ir5_r0, E_9_l2, R_9_l2, ir5_k0, ir5_o0, ir5_r0, fz1, fz2, z3, fz20, z21, ez19]


def ir39_b0 : IR := .seq (.region false [ VO 5 7 (.bin false .lss (.v 4) (.v 3))]) (.seq (.cond (.v 5) (.skip) (.exit 0)) (.seq (.block 1 (.seq (.region false [ PM 8 4, VS 2 3 0]) (.test false [ PM 9 0, PM 10 2, PO 11 (.ixStr (.s 1) (.s 0)), PO 12 (.bin false .lss (.s 0) (.c (.int .u8 (32)))), PO 13 (.mov (.s 0)), ⟨.push, 14, (some ((.s 0), false)), .mov (.v 0)⟩, ⟨.push, 15, (some ((.s 1), false)), .mov (.v 2)⟩, ⟨.push, 16, (some ((.s 2), false)), .ixStr (.s 1) (.s 0)⟩, ⟨.push, 17, (some ((.s 3), false)), .bin false .gtr (.s 0) (.c (.int .u8 (126)))⟩, PO 18 (.pick (.s 4) (.c (.bool true)) (.s
 0))] (.s 0) (.seq (.region false [ VO 1 2 (.mov (.c (.bool false)))]) (.ret)) (.skip)))) (.region false [ PO 19 (.bin false .add (.v 4) (I6 1)), VS 4 6 0])))
def ir39_k0 : List Bool := [true, false, false, true, true, false]
def ir39_o0 : List Bool := [false, false, false, false, false, false]
def ir39_r0 : List Bool := [false, true, false, false, false, false]
def ir39_v : List Nat := [0, 2, 3, 5, 6, 7]
def ir39 : AFn := ⟨1, 6, .seq (.region false [ VO 1 2 (.mov (.c (.bool false)))]) (.seq (.seq (.region false [ PM 4 0, VO 3 5 (.len true (.s 0)), VO 4 6 (.mov (I6 0))]) (.block 0 (.loop ir39_k0 ir39_o0 ir39_r0 ir39_b0))) (.seq (.region false [ VO 1 2 (.mov (.c (.bool true)))]) (.ret))), [.t 1]⟩
noncomputable def t_10 : List (Nat × Ctr) := []
noncomputable def c_10 : Ctr := mkF t_10 ir39 [.bor]
theorem s_10 : Sound Tryz.prog 39 c_10 := mkF_sound _ rfl snd_nil (by kernel_rfl : chkFn Tryz.prog 39 ir39 ir39_v = true)
theorem M_10 : c_10.modes = [.bor] := rfl
theorem Fl_10 : c_10.flat = true := rfl
attribute [go_sem] M_10 Fl_10
def E_10_l1 (s_ : List UInt8) (t5 : Int) : Int → St
 | t6 => ⟨[.str s_, .any, .any, .int .i64 t5, .int .i64 t6, .any], [], [], true⟩
def R_10_l1 (s_ : List UInt8) (t5 : Int) : (Unit ⊕ Bool) → Res
 | .inl y => (.exit 0, ⟨[.any, .any, .any, .any, .any, .any], [], [], true⟩)
 | .inr y => (.ret, ⟨[.any, .bool y, .any, .any, .any, .any], [], [], true⟩)
theorem impl_isPlain_l1_ex {s_ : List UInt8} {t5 : Int} {sgm_ : Int} {rho_ : Unit ⊕ Bool} (h : whileE (impl_isPlain_l1 s_ t5) sgm_ = some rho_) : ∃ L0, ∀ L, L0 ≤ L → iter (exec (look t_10) L ir39_b0) ir39_k0 ir39_o0 ir39_r0 L (E_10_l1 s_ t5 sgm_) = R_10_l1 s_ t5 rho_ := by
 refine loop_ex (E := E_10_l1 s_ t5) (R := R_10_l1 s_ t5) (fun y => by first | (intro c; cases c) | (rcases y with y | y <;> (intro c; cases c)) | (rcases y with y | y | y <;> (intro c; cases c))) ?_ h
 clear h
 intro t6 o_ h
 dsimp only [impl_isPlain_l1] at h
 rcases it_some h with ⟨z1, h⟩ | ⟨z1, h⟩
 ·try simp only [go_sem, n1, n2, n3, n4] at z1
  all_goals
  obtain ⟨z2, h⟩ := ck_some h
  try simp only [go_sem, n1, n2, n3, n4, z1] at z2
  all_goals
  rcases it_some h with ⟨z3, h⟩ | ⟨z3, h⟩
  ·try simp only [go_sem, n1, n2, n3, n4, z1, z2] at z3
   all_goals
   obtain rfl := so_some h
   refine ⟨0, fun L hL => ?_⟩
   simp only [go_sem, ir39, E_10_l1, R_10_l1, ir39_b0, ir39_k0, ir39_o0, ir39_r0, z1, z2, z3]
  ·try simp only [go_sem, n1, n2, n3, n4, z1, z2] at z3
   all_goals
   obtain rfl := so_some h
   refine ⟨0, fun L hL => ?_⟩
   simp only [go_sem, ir39, E_10_l1, R_10_l1, ir39_b0, ir39_k0, ir39_o0, ir39_r0, z1, z2, z3]
 ·try simp only [go_sem, n1, n2, n3, n4] at z1
  all_goals
  obtain rfl := so_some h
  refine ⟨0, fun L hL => ?_⟩
  simp only [go_sem, ir39, E_10_l1, R_10_l1, ir39_b0, ir39_k0, ir39_o0, ir39_r0, z1]

theorem Fs_10 {s_ : List UInt8} {y_ : Bool} (h : impl_isPlain s_ = some y_) : c_10.F [.str s_] = ⟨true, .bool y_, [.any]⟩ := by
 refine mkF_E rfl ?_
 dsimp only [impl_isPlain] at h
 obtain ⟨y_4, z4, h⟩ := bd_some h
 obtain ⟨Lz4, ez4⟩ := impl_isPlain_l1_ex z4
 rcases y_4 with y_4a | y_4b
 ·dsimp only at h
  obtain rfl := so_some h
  refine ⟨Lz4, fun L hL => ?_⟩
  have ez4 := ez4 L (by omega)
  try simp only [go_sem, E_10_l1, R_10_l1, ir39_k0, ir39_o0, ir39_r0] at ez4
  simp only [go_sem, ir39, E_10_l1, R_10_l1, ir39_k0, ir39_o0, ir39_r0, ez4]
 ·dsimp only at h
  obtain rfl := so_some h
  refine ⟨Lz4, fun L hL => ?_⟩
  have ez4 := ez4 L (by omega)
  try simp only [go_sem, E_10_l1, R_10_l1, ir39_k0, ir39_o0, ir39_r0] at ez4
  simp only [go_sem, ir39, E_10_l1, R_10_l1, ir39_k0, ir39_o0, ir39_r0, ez4]


def ir36_b1 : IR := .seq (.region false [ VO 13 20 (.bin false .lss (.v 12) (.v 11))]) (.seq (.cond (.v 13) (.skip) (.exit 2)) (.seq (.block 3 (.seq (.region false [ PO 21 (.ixAddr 1 (.v 10) (.v 12)), PO 22 (.load false 1 (.s 0)), VS 3 6 0]) (.test false [ PM 23 3, PO 24 (.call 39 [(.s 0)]), PO 25 (.un .not (.s 0))] (.s 0) (.seq (.region false [ VO 1 2 (.mov (I6 7))]) (.ret)) (.skip)))) (.region false [ PO 26 (.bin false .add (.v 12) (I6 1)), VS 12 19 0])))
def ir36_k1 : List Bool := [true, false, false, false, false, false, true, true, true, false, true, true, true, false, false, false, false, false, false, false, false, false]
def ir36_o1 : List Bool := [true, false, false, false, false, false, true, true, true, false, false, false, false, false, false, false, false, false, false, false, false, false]
def ir36_r1 : List Bool := [false, true, false, false, false, false, false, false, false, false, false, false, false, false, false, false, false, false, false, false, false, false]
def ir36_b0 : IR := .seq (.region false [ VO 9 14 (.bin false .lss (.v 8) (.v 7))]) (.seq (.cond (.v 9) (.skip) (.exit 0)) (.seq (.block 1 (.seq (.region false [ PO 15 (.ixAddr 1 (.v 6) (.v 8)), PO 16 (.load false 1 (.s 0)), VS 2 4 0]) (.seq (.region false [ VO 10 17 (.mov (.v 2)), VO 11 18 (.len false (.v 10)), VO 12 19 (.mov (I6 0))]) (.block 2 (.loop ir36_k1 ir36_o1 ir36_r1 ir36_b1))))) (.region false [ PO 27 (.bin false .add (.v 8) (I6 1)), VS 8 13 0])))
def ir36_k0 : List Bool := [true, false, false, false, false, false, true, true, true, false, false, false, false, false, false, false, false, false, false, false, false, false]
def ir36_o0 : List Bool := [true, false, false, false, false, false, false, false, false, false, false, false, false, false, false, false, false, false, false, false, false, false]
def ir36_r0 : List Bool := [false, true, false, false, false, false, false, false, false, false, false, false, false, false, false, false, false, false, false, false, false, false]
def ir36_b3 : IR := .seq (.region false [ VO 21 52 (.bin false .lss (.v 20) (.v 19))]) (.seq (.cond (.v 21) (.skip) (.exit 6)) (.seq (.block 7 (.seq (.region false [ PO 53 (.ixAddr 1 (.v 18) (.v 20)), PO 54 (.load false 1 (.s 0)), VS 5 10 0]) (.test false [ PM 55 5, PO 56 (.len true (.s 0)), PO 57 (.bin false .gtr (.s 0) (I6 80))] (.s 0) (.seq (.region false [ VO 1 2 (.mov (I6 2))]) (.ret)) (.skip)))) (.region false [ PO 58 (.bin false .add (.v 20) (I6 1)), VS 20 51 0])))
def ir36_k3 : List Bool := [true, false, false, false, false, false, false, false, false, false, false, false, false, false, true, true, true, false, true, true, true, false]
def ir36_o3 : List Bool := [true, false, false, false, false, false, false, false, false, false, false, false, false, false, true, true, true, false, false, false, false, false]
def ir36_r3 : List Bool := [false, true, false, false, false, false, false, false, false, false, false, false, false, false, false, false, false, false, false, false, false, false]
def ir36_b2 : IR := .seq (.region false [ VO 17 34 (.bin false .lss (.v 16) (.v 15))]) (.seq (.cond (.v 17) (.skip) (.exit 4)) (.seq (.block 5 (.seq (.region false [ PO 35 (.ixAddr 1 (.v 14) (.v 16)), PO 36 (.load false 1 (.s 0)), VS 4 8 0]) (.seq (.test false [ PM 37 4, PO 38 (.len false (.s 0)), PM 39 0, PO 40 (.ixAddr 1 (.s 0) (I6 0)), PO 41 (.load false 1 (.s 0)), PO 42 (.len false (.s 0)), PO 43 (.bin false .neq (.s 4) (.s 0)), PO 44 (.mov (.s 0)), ⟨.push, 45, (some ((.s 0), false)), .mov (.v 4)⟩, ⟨.push, 46, (some ((.s 1), false)), .len false (.s 0)⟩, ⟨.push, 47, (some ((.s 2), false)),
 .bin false .gtr (.s 0) (I6 8)⟩, PO 48 (.pick (.s 3) (.c (.bool true)) (.s 0))] (.s 0) (.seq (.region false [ VO 1 2 (.mov (I6 2))]) (.ret)) (.skip)) (.seq (.region false [ VO 18 49 (.mov (.v 4)), VO 19 50 (.len false (.v 18)), VO 20 51 (.mov (I6 0))]) (.block 6 (.loop ir36_k3 ir36_o3 ir36_r3 ir36_b3)))))) (.region false [ PO 59 (.bin false .add (.v 16) (I6 1)), VS 16 33 0])))
def ir36_k2 : List Bool := [true, false, false, false, false, false, false, false, false, false, false, false, false, false, true, true, true, false, false, false, false, false]
def ir36_o2 : List Bool := [false, false, false, false, false, false, false, false, false, false, false, false, false, false, false, false, false, false, false, false, false, false]
def ir36_r2 : List Bool := [false, true, false, false, false, false, false, false, false, false, false, false, false, false, false, false, false, false, false, false, false, false]
def ir36_v : List Nat := [0, 2, 4, 6, 8, 10, 11, 12, 13, 14, 17, 18, 19, 20, 31, 32, 33, 34, 49, 50, 51, 52]
def ir36 : AFn := ⟨1, 22, .seq (.region false [ VO 1 2 (.mov (I6 0))]) (.seq (.seq (.region false [ VO 6 11 (.mov (.v 0)), VO 7 12 (.len false (.v 6)), VO 8 13 (.mov (I6 0))]) (.block 0 (.loop ir36_k0 ir36_o0 ir36_r0 ir36_b0))) (.seq (.test false [ PM 28 0, PO 29 (.len false (.s 0)), PO 30 (.bin false .gtr (.s 0) (I6 60))] (.s 0) (.seq (.region false [ VO 1 2 (.mov (I6 2))]) (.ret)) (.skip)) (.seq (.seq (.region false [ VO 14 31 (.mov (.v 0)), VO 15 32 (.len false (.v 14)), VO 16 33 (.mov (I6 0))]) (.block 4 (.loop ir36_k2 ir36_o2 ir36_r2 ir36_b2))) (.seq (.region false [ VO 1 2 (.mov (I6 0))])
 (.ret))))), [.t 1]⟩
noncomputable def t_11 : List (Nat × Ctr) := [(39, c_10)]
theorem lk_11_39 : look t_11 39 = some c_10 := rfl
noncomputable def c_11 : Ctr := mkF t_11 ir36 [.bor]
theorem s_11 : Sound Tryz.prog 36 c_11 := mkF_sound _ rfl (snd_cons s_10 snd_nil) (by kernel_rfl : chkFn Tryz.prog 36 ir36 ir36_v = true)
theorem M_11 : c_11.modes = [.bor] := rfl
theorem Fl_11 : c_11.flat = true := rfl
attribute [go_sem] M_11 Fl_11
attribute [go_sem] lk_11_39
def E_11_l2 (rows : List (List (List UInt8))) (t11 : List (List (List UInt8))) (t12 : Int) (t13 : Int) (t17 : List (List UInt8)) (t18 : Int) : Int → St
 | t19 => ⟨[.sl 1 (List.map (slE 1 AV.str) rows), .any, .any, .any, .any, .any, .sl 1 (List.map (slE 1 AV.str) t11), .int .i64 t12, .int .i64 t13, .any, .sl 1 (List.map AV.str t17), .int .i64 t18, .int .i64 t19, .any, .any, .any, .any, .any, .any, .any, .any, .any], [], [], true⟩
def R_11_l2 (rows : List (List (List UInt8))) (t11 : List (List (List UInt8))) (t12 : Int) (t13 : Int) (t17 : List (List UInt8)) (t18 : Int) : (Unit ⊕ Int) → Res
 | .inl y => (.exit 2, ⟨[.sl 1 (List.map (slE 1 AV.str) rows), .any, .any, .any, .any, .any, .sl 1 (List.map (slE 1 AV.str) t11), .int .i64 t12, .int .i64 t13, .any, .any, .any, .any, .any, .any, .any, .any, .any, .any, .any, .any, .any], [], [], true⟩)
 | .inr y => (.ret, ⟨[.any, .int .i64 y, .any, .any, .any, .any, .any, .any, .any, .any, .any, .any, .any, .any, .any, .any, .any, .any, .any, .any, .any, .any], [], [], true⟩)
set_option maxHeartbeats 64000000 in
theorem impl_checkTable_l2_ex {rows : List (List (List UInt8))} {t11 : List (List (List UInt8))} {t12 : Int} {t13 : Int} {t17 : List (List UInt8)} {t18 : Int} {sgm_ : Int} {rho_ : Unit ⊕ Int} (h : whileE (impl_checkTable_l2 rows t11 t12 t13 t17 t18) sgm_ = some rho_) : ∃ L0, ∀ L, L0 ≤ L → iter (exec (look t_11) L ir36_b1) ir36_k1 ir36_o1 ir36_r1 L (E_11_l2 rows t11 t12 t13 t17 t18 sgm_) = R_11_l2 rows t11 t12 t13 t17 t18 rho_ := by
 refine loop_ex (E := E_11_l2 rows t11 t12 t13 t17 t18) (R := R_11_l2 rows t11 t12 t13 t17 t18) (fun y => by first | (intro c; cases c) | (rcases y with y | y <;> (intro c; cases c)) | (rcases y with y | y | y <;> (intro c; cases c))) ?_ h
 clear h
 intro t19 o_ h
 dsimp only [impl_checkTable_l2] at h
 rcases it_some h with ⟨z3, h⟩ | ⟨z3, h⟩
 ·try simp only [go_sem, n1, n2, n3, n4] at z3
  all_goals
  obtain ⟨z4, h⟩ := ck_some h
  have lz4 := ix_lt z4
  have xz4 := getD_mapD AV.str t17 lz4
  try simp only [go_sem] at lz4
  try simp only [go_sem] at xz4
  try simp only [go_sem, n1, n2, n3, n4, z3] at z4
  all_goals
  obtain ⟨y_5, z5, h⟩ := bd_some h
  have fz5 := Fs_10 z5
  try simp only [go_sem, z3, z4] at fz5
  rcases it_some h with ⟨z6, h⟩ | ⟨z6, h⟩
  ·try simp only [go_sem, n1, n2, n3, n4, z3, z4] at z6
   all_goals
   obtain rfl := so_some h
   refine ⟨0, fun L hL => ?_⟩
   simp only [go_sem, ir36, E_11_l2, R_11_l2, ir36_b1, ir36_k1, ir36_o1, ir36_r1, z3, z4, lz4, xz4, fz5, z6]
  ·try simp only [go_sem, n1, n2, n3, n4, z3, z4] at z6
   all_goals
   obtain rfl := so_some h
   refine ⟨0, fun L hL => ?_⟩
   simp only [go_sem, ir36, E_11_l2, R_11_l2, ir36_b1, ir36_k1, ir36_o1, ir36_r1, z3, z4, lz4, xz4, fz5, z6]
 ·try simp only [go_sem, n1, n2, n3, n4] at z3
  all_goals
  obtain rfl := so_some h
  refine ⟨0, fun L hL => ?_⟩
  simp only [go_sem, ir36, E_11_l2, R_11_l2, ir36_b1, ir36_k1, ir36_o1, ir36_r1, z3]

def E_11_l1 (rows : List (List (List UInt8))) (t11 : List (List (List UInt8))) (t12 : Int) : Int → St
 | t13 => ⟨[.sl 1 (List.map (slE 1 AV.str) rows), .any, .any, .any, .any, .any, .sl 1 (List.map (slE 1 AV.str) t11), .int .i64 t12, .int .i64 t13, .any, .any, .any, .any, .any, .any, .any, .any, .any, .any, .any, .any, .any], [], [], true⟩
def R_11_l1 (rows : List (List (List UInt8))) (t11 : List (List (List UInt8))) (t12 : Int) : (Unit ⊕ Int) → Res
 | .inl y => (.exit 0, ⟨[.sl 1 (List.map (slE 1 AV.str) rows), .any, .any, .any, .any, .any, .any, .any, .any, .any, .any, .any, .any, .any, .any, .any, .any, .any, .any, .any, .any, .any], [], [], true⟩)
 | .inr y => (.ret, ⟨[.any, .int .i64 y, .any, .any, .any, .any, .any, .any, .any, .any, .any, .any, .any, .any, .any, .any, .any, .any, .any, .any, .any, .any], [], [], true⟩)
set_option maxHeartbeats 64000000 in
theorem impl_checkTable_l1_ex {rows : List (List (List UInt8))} {t11 : List (List (List UInt8))} {t12 : Int} {sgm_ : Int} {rho_ : Unit ⊕ Int} (h : whileE (impl_checkTable_l1 rows t11 t12) sgm_ = some rho_) : ∃ L0, ∀ L, L0 ≤ L → iter (exec (look t_11) L ir36_b0) ir36_k0 ir36_o0 ir36_r0 L (E_11_l1 rows t11 t12 sgm_) = R_11_l1 rows t11 t12 rho_ := by
 refine loop_ex (E := E_11_l1 rows t11 t12) (R := R_11_l1 rows t11 t12) (fun y => by first | (intro c; cases c) | (rcases y with y | y <;> (intro c; cases c)) | (rcases y with y | y | y <;> (intro c; cases c))) ?_ h
 clear h
 intro t13 o_ h
 dsimp only [impl_checkTable_l1] at h
 rcases it_some h with ⟨z1, h⟩ | ⟨z1, h⟩
 ·try simp only [go_sem, n1, n2, n3, n4] at z1
  all_goals
  obtain ⟨z2, h⟩ := ck_some h
  have lz2 := ix_lt z2
  have xz2 := getD_mapD (slE 1 AV.str) t11 lz2
  try simp only [go_sem] at lz2
  try simp only [go_sem] at xz2
  try simp only [go_sem, n1, n2, n3, n4, z1] at z2
  all_goals
  obtain ⟨y_7, z7, h⟩ := bd_some h
  obtain ⟨Lz7, ez7⟩ := impl_checkTable_l2_ex z7
  rcases y_7 with y_7a | y_7b
  ·dsimp only at h
   obtain rfl := so_some h
   refine ⟨Lz7, fun L hL => ?_⟩
   have ez7 := ez7 L (by omega)
   try simp only [go_sem, E_11_l1, R_11_l1, ir36_b0, ir36_k0, ir36_o0, ir36_r0, E_11_l2, R_11_l2, ir36_k1, ir36_o1, ir36_r1, z1, z2] at ez7
   simp only [go_sem, ir36, E_11_l1, R_11_l1, ir36_b0, ir36_k0, ir36_o0, ir36_r0, E_11_l2, R_11_l2, ir36_k1, ir36_o1, ir36_r1, z1, z2, lz2, xz2, ez7]
  ·dsimp only at h
   obtain rfl := so_some h
   refine ⟨Lz7, fun L hL => ?_⟩
   have ez7 := ez7 L (by omega)
   try simp only [go_sem, E_11_l1, R_11_l1, ir36_b0, ir36_k0, ir36_o0, ir36_r0, E_11_l2, R_11_l2, ir36_k1, ir36_o1, ir36_r1, z1, z2] at ez7
   simp only [go_sem, ir36, E_11_l1, R_11_l1, ir36_b0, ir36_k0, ir36_o0, ir36_r0, E_11_l2, R_11_l2, ir36_k1, ir36_o1, ir36_r1, z1, z2, lz2, xz2, ez7]
 ·try simp only [go_sem, n1, n2, n3, n4] at z1
  all_goals
  obtain rfl := so_some h
  refine ⟨0, fun L hL => ?_⟩
  simp only [go_sem, ir36, E_11_l1, R_11_l1, ir36_b0, ir36_k0, ir36_o0, ir36_r0, E_11_l2, R_11_l2, ir36_k1, ir36_o1, ir36_r1, z1]

def E_11_l4 (rows : List (List (List UInt8))) (t31 : List (List (List UInt8))) (t32 : Int) (t33 : Int) (t49 : List (List UInt8)) (t50 : Int) : Int → St
 | t51 => ⟨[.sl 1 (List.map (slE 1 AV.str) rows), .any, .any, .any, .any, .any, .any, .any, .any, .any, .any, .any, .any, .any, .sl 1 (List.map (slE 1 AV.str) t31), .int .i64 t32, .int .i64 t33, .any, .sl 1 (List.map AV.str t49), .int .i64 t50, .int .i64 t51, .any], [], [], true⟩
def R_11_l4 (rows : List (List (List UInt8))) (t31 : List (List (List UInt8))) (t32 : Int) (t33 : Int) (t49 : List (List UInt8)) (t50 : Int) : (Unit ⊕ Int) → Res
 | .inl y => (.exit 6, ⟨[.sl 1 (List.map (slE 1 AV.str) rows), .any, .any, .any, .any, .any, .any, .any, .any, .any, .any, .any, .any, .any, .sl 1 (List.map (slE 1 AV.str) t31), .int .i64 t32, .int .i64 t33, .any, .any, .any, .any, .any], [], [], true⟩)
 | .inr y => (.ret, ⟨[.any, .int .i64 y, .any, .any, .any, .any, .any, .any, .any, .any, .any, .any, .any, .any, .any, .any, .any, .any, .any, .any, .any, .any], [], [], true⟩)
set_option maxHeartbeats 64000000 in
theorem impl_checkTable_l4_ex {rows : List (List (List UInt8))} {t31 : List (List (List UInt8))} {t32 : Int} {t33 : Int} {t49 : List (List UInt8)} {t50 : Int} {sgm_ : Int} {rho_ : Unit ⊕ Int} (h : whileE (impl_checkTable_l4 rows t31 t32 t33 t49 t50) sgm_ = some rho_) : ∃ L0, ∀ L, L0 ≤ L → iter (exec (look t_11) L ir36_b3) ir36_k3 ir36_o3 ir36_r3 L (E_11_l4 rows t31 t32 t33 t49 t50 sgm_) = R_11_l4 rows t31 t32 t33 t49 t50 rho_ := by
 refine loop_ex (E := E_11_l4 rows t31 t32 t33 t49 t50) (R := R_11_l4 rows t31 t32 t33 t49 t50) (fun y => by first | (intro c; cases c) | (rcases y with y | y <;> (intro c; cases c)) | (rcases y with y | y | y <;> (intro c; cases c))) ?_ h
 clear h
 intro t51 o_ h
 dsimp only [impl_checkTable_l4] at h
 rcases it_some h with ⟨z14, h⟩ | ⟨z14, h⟩
 ·try simp only [go_sem, n1, n2, n3, n4] at z14
  all_goals
  obtain ⟨z15, h⟩ := ck_some h
  have lz15 := ix_lt z15
  have xz15 := getD_mapD AV.str t49 lz15
  try simp only [go_sem] at lz15
  try simp only [go_sem] at xz15
  try simp only [go_sem, n1, n2, n3, n4, z14] at z15
  all_goals
  rcases it_some h with ⟨z16, h⟩ | ⟨z16, h⟩
  ·try simp only [go_sem, n1, n2, n3, n4, z14, z15] at z16
   all_goals
   obtain rfl := so_some h
   refine ⟨0, fun L hL => ?_⟩
   simp only [go_sem, ir36, E_11_l4, R_11_l4, ir36_b3, ir36_k3, ir36_o3, ir36_r3, E_11_l2, R_11_l2, ir36_k1, ir36_o1, ir36_r1, E_11_l1, R_11_l1, ir36_k0, ir36_o0, ir36_r0, z14, z15, lz15, xz15, z16]
  ·try simp only [go_sem, n1, n2, n3, n4, z14, z15] at z16
   all_goals
   obtain rfl := so_some h
   refine ⟨0, fun L hL => ?_⟩
   simp only [go_sem, ir36, E_11_l4, R_11_l4, ir36_b3, ir36_k3, ir36_o3, ir36_r3, E_11_l2, R_11_l2, ir36_k1, ir36_o1, ir36_r1, E_11_l1, R_11_l1, ir36_k0, ir36_o0, ir36_r0, z14, z15, lz15, xz15, z16]
 ·try simp only [go_sem, n1, n2, n3, n4] at z14
  all_goals
  obtain rfl := so_some h
  refine ⟨0, fun L hL => ?_⟩
  simp only [go_sem, ir36, E_11_l4, R_11_l4, ir36_b3, ir36_k3, ir36_o3, ir36_r3, E_11_l2, R_11_l2, ir36_k1, ir36_o1, ir36_r1, E_11_l1, R_11_l1, ir36_k0, ir36_o0, ir36_r0, z14]

def E_11_l3 (rows : List (List (List UInt8))) (t31 : List (List (List UInt8))) (t32 : Int) : Int → St
 | t33 => ⟨[.sl 1 (List.map (slE 1 AV.str) rows), .any, .any, .any, .any, .any, .any, .any, .any, .any, .any, .any, .any, .any, .sl 1 (List.map (slE 1 AV.str) t31), .int .i64 t32, .int .i64 t33, .any, .any, .any, .any, .any], [], [], true⟩
def R_11_l3 (rows : List (List (List UInt8))) (t31 : List (List (List UInt8))) (t32 : Int) : (Unit ⊕ Int) → Res
 | .inl y => (.exit 4, ⟨[.any, .any, .any, .any, .any, .any, .any, .any, .any, .any, .any, .any, .any, .any, .any, .any, .any, .any, .any, .any, .any, .any], [], [], true⟩)
 | .inr y => (.ret, ⟨[.any, .int .i64 y, .any, .any, .any, .any, .any, .any, .any, .any, .any, .any, .any, .any, .any, .any, .any, .any, .any, .any, .any, .any], [], [], true⟩)
set_option maxHeartbeats 64000000 in
theorem impl_checkTable_l3_ex {rows : List (List (List UInt8))} {t31 : List (List (List UInt8))} {t32 : Int} {sgm_ : Int} {rho_ : Unit ⊕ Int} (h : whileE (impl_checkTable_l3 rows t31 t32) sgm_ = some rho_) : ∃ L0, ∀ L, L0 ≤ L → iter (exec (look t_11) L ir36_b2) ir36_k2 ir36_o2 ir36_r2 L (E_11_l3 rows t31 t32 sgm_) = R_11_l3 rows t31 t32 rho_ := by
 refine loop_ex (E := E_11_l3 rows t31 t32) (R := R_11_l3 rows t31 t32) (fun y => by first | (intro c; cases c) | (rcases y with y | y <;> (intro c; cases c)) | (rcases y with y | y | y <;> (intro c; cases c))) ?_ h
 clear h
 intro t33 o_ h
 dsimp only [impl_checkTable_l3] at h
 rcases it_some h with ⟨z10, h⟩ | ⟨z10, h⟩
 ·try simp only [go_sem, n1, n2, n3, n4] at z10
  all_goals
  obtain ⟨z11, h⟩ := ck_some h
  have lz11 := ix_lt z11
  have xz11 := getD_mapD (slE 1 AV.str) t31 lz11
  try simp only [go_sem] at lz11
  try simp only [go_sem] at xz11
  try simp only [go_sem, n1, n2, n3, n4, z10] at z11
  all_goals
  obtain ⟨z12, h⟩ := ck_some h
  have lz12 := ix_lt z12
  have xz12 := getD_mapD (slE 1 AV.str) rows lz12
  try simp only [go_sem] at lz12
  try simp only [go_sem] at xz12
  try simp only [go_sem, n1, n2, n3, n4, z10, z11] at z12
  all_goals
  rcases it_some h with ⟨z13, h⟩ | ⟨z13, h⟩
  ·try simp only [go_sem, n1, n2, n3, n4, z10, z11, z12] at z13
   all_goals
   obtain rfl := so_some h
   refine ⟨0, fun L hL => ?_⟩
   simp only [go_sem, ir36, E_11_l3, R_11_l3, ir36_b2, ir36_k2, ir36_o2, ir36_r2, E_11_l2, R_11_l2, ir36_k1, ir36_o1, ir36_r1, E_11_l1, R_11_l1, ir36_k0, ir36_o0, ir36_r0, E_11_l4, R_11_l4, ir36_k3, ir36_o3, ir36_r3, z10, z11, lz11, xz11, z12, lz12, xz12, z13]
  ·try simp only [go_sem, n1, n2, n3, n4, z10, z11, z12] at z13
   all_goals
   obtain ⟨y_17, z17, h⟩ := bd_some h
   obtain ⟨Lz17, ez17⟩ := impl_checkTable_l4_ex z17
   rcases y_17 with y_17a | y_17b
   ·dsimp only at h
    obtain rfl := so_some h
    refine ⟨Lz17, fun L hL => ?_⟩
    have ez17 := ez17 L (by omega)
    try simp only [go_sem, E_11_l3, R_11_l3, ir36_b2, ir36_k2, ir36_o2, ir36_r2, E_11_l2, R_11_l2, ir36_k1, ir36_o1, ir36_r1, E_11_l1, R_11_l1, ir36_k0, ir36_o0, ir36_r0, E_11_l4, R_11_l4, ir36_k3, ir36_o3, ir36_r3, z10, z11, z12, z13] at ez17
    simp only [go_sem, ir36, E_11_l3, R_11_l3, ir36_b2, ir36_k2, ir36_o2, ir36_r2, E_11_l2, R_11_l2, ir36_k1, ir36_o1, ir36_r1, E_11_l1, R_11_l1, ir36_k0, ir36_o0, ir36_r0, E_11_l4, R_11_l4, ir36_k3, ir36_o3, ir36_r3, z10, z11, lz11, xz11, z12, lz12, xz12, z13, ez17]
   ·dsimp only at h
    obtain rfl := so_some h
    refine ⟨Lz17, fun L hL => ?_⟩
    have ez17 := ez17 L (by omega)
    try simp only [go_sem, E_11_l3, R_11_l3, ir36_b2, ir36_k2, ir36_o2, ir36_r2, E_11_l2, R_11_l2, ir36_k1, ir36_o1, ir36_r1, E_11_l1, R_11_l1, ir36_k0, ir36_o0, ir36_r0, E_11_l4, R_11_l4, ir36_k3, ir36_o3, ir36_r3, z10, z11, z12, z13] at ez17
    simp only [go_sem, ir36, E_11_l3, R_11_l3, ir36_b2, ir36_k2, ir36_o2, ir36_r2, E_11_l2, R_11_l2, ir36_k1, ir36_o1, ir36_r1, E_11_l1, R_11_l1, ir36_k0, ir36_o0, ir36_r0, E_11_l4, R_11_l4, ir36_k3, ir36_o3, ir36_r3, z10, z11, lz11, xz11, z12, lz12, xz12, z13, ez17]
 ·try simp only [go_sem, n1, n2, n3, n4] at z10
  all_goals
  obtain rfl := so_some h
  refine ⟨0, fun L hL => ?_⟩
  simp only [go_sem, ir36, E_11_l3, R_11_l3, ir36_b2, ir36_k2, ir36_o2, ir36_r2, E_11_l2, R_11_l2, ir36_k1, ir36_o1, ir36_r1, E_11_l1, R_11_l1, ir36_k0, ir36_o0, ir36_r0, E_11_l4, R_11_l4, ir36_k3, ir36_o3, ir36_r3, z10]

set_option maxHeartbeats 64000000 in
theorem Fs_11 {rows : List (List (List UInt8))} {y_ : Int} (h : impl_checkTable rows = some y_) : c_11.F [.sl 1 (List.map (slE 1 AV.str) rows)] = ⟨true, .int .i64 y_, [.any]⟩ := by
 refine mkF_E rfl ?_
 dsimp only [impl_checkTable] at h
 obtain ⟨y_8, z8, h⟩ := bd_some h
 obtain ⟨Lz8, ez8⟩ := impl_checkTable_l1_ex z8
 rcases y_8 with y_8a | y_8b
 ·dsimp only at h
  rcases it_some h with ⟨z9, h⟩ | ⟨z9, h⟩
  ·try simp only [go_sem, n1, n2, n3, n4] at z9
   all_goals
   obtain rfl := so_some h
   refine ⟨Lz8, fun L hL => ?_⟩
   have ez8 := ez8 L (by omega)
   try simp only [go_sem, E_11_l2, R_11_l2, ir36_k1, ir36_o1, ir36_r1, E_11_l1, R_11_l1, ir36_k0, ir36_o0, ir36_r0, E_11_l4, R_11_l4, ir36_k3, ir36_o3, ir36_r3, E_11_l3, R_11_l3, ir36_k2, ir36_o2, ir36_r2, z9] at ez8
   simp only [go_sem, ir36, E_11_l2, R_11_l2, ir36_k1, ir36_o1, ir36_r1, E_11_l1, R_11_l1, ir36_k0, ir36_o0, ir36_r0, E_11_l4, R_11_l4, ir36_k3, ir36_o3, ir36_r3, E_11_l3, R_11_l3, ir36_k2, ir36_o2, ir36_r2, z9, ez8]
  ·try simp only [go_sem, n1, n2, n3, n4] at z9
   all_goals
   obtain ⟨y_18, z18, h⟩ := bd_some h
   obtain ⟨Lz18, ez18⟩ := impl_checkTable_l3_ex z18
   rcases y_18 with y_18a | y_18b
   ·dsimp only at h
    obtain rfl := so_some h
    refine ⟨Lz8 + Lz18, fun L hL => ?_⟩
    have ez8 := ez8 L (by omega)
    have ez18 := ez18 L (by omega)
    try simp only [go_sem, E_11_l2, R_11_l2, ir36_k1, ir36_o1, ir36_r1, E_11_l1, R_11_l1, ir36_k0, ir36_o0, ir36_r0, E_11_l4, R_11_l4, ir36_k3, ir36_o3, ir36_r3, E_11_l3, R_11_l3, ir36_k2, ir36_o2, ir36_r2, z9] at ez8
    try simp only [go_sem, E_11_l2, R_11_l2, ir36_k1, ir36_o1, ir36_r1, E_11_l1, R_11_l1, ir36_k0, ir36_o0, ir36_r0, E_11_l4, R_11_l4, ir36_k3, ir36_o3, ir36_r3, E_11_l3, R_11_l3, ir36_k2, ir36_o2, ir36_r2, z9] at ez18
    simp only [go_sem, ir36, E_11_l2, R_11_l2, ir36_k1, ir36_o1, ir36_r1, E_11_l1, R_11_l1, ir36_k0, ir36_o0, ir36_r0, E_11_l4, R_11_l4, ir36_k3, ir36_o3, ir36_r3, E_11_l3, R_11_l3, ir36_k2, ir36_o2, ir36_r2, z9, ez8, ez18]
   ·dsimp only at h
    obtain rfl := so_some h
    refine ⟨Lz8 + Lz18, fun L hL => ?_⟩
    have ez8 := ez8 L (by omega)
    have ez18 := ez18 L (by omega)
    try simp only [go_sem, E_11_l2, R_11_l2, ir36_k1, ir36_o1, ir36_r1, E_11_l1, R_11_l1, ir36_k0, ir36_o0, ir36_r0, E_11_l4, R_11_l4, ir36_k3, ir36_o3, ir36_r3, E_11_l3, R_11_l3, ir36_k2, ir36_o2, ir36_r2, z9] at ez8
    try simp only [go_sem, E_11_l2, R_11_l2, ir36_k1, ir36_o1, ir36_r1, E_11_l1, R_11_l1, ir36_k0, ir36_o0, ir36_r0, E_11_l4, R_11_l4, ir36_k3, ir36_o3, ir36_r3, E_11_l3, R_11_l3, ir36_k2, ir36_o2, ir36_r2, z9] at ez18
    simp only [go_sem, ir36, E_11_l2, R_11_l2, ir36_k1, ir36_o1, ir36_r1, E_11_l1, R_11_l1, ir36_k0, ir36_o0, ir36_r0, E_11_l4, R_11_l4, ir36_k3, ir36_o3, ir36_r3, E_11_l3, R_11_l3, ir36_k2, ir36_o2, ir36_r2, z9, ez8, ez18]
 ·dsimp only at h
  obtain rfl := so_some h
  refine ⟨Lz8, fun L hL => ?_⟩
  have ez8 := ez8 L (by omega)
  try simp only [go_sem, E_11_l2, R_11_l2, ir36_k1, ir36_o1, ir36_r1, E_11_l1, R_11_l1, ir36_k0, ir36_o0, ir36_r0, E_11_l4, R_11_l4, ir36_k3, ir36_o3, ir36_r3, E_11_l3, R_11_l3, ir36_k2, ir36_o2, ir36_r2] at ez8
  simp only [go_sem, ir36, E_11_l2, R_11_l2, ir36_k1, ir36_o1, ir36_r1, E_11_l1, R_11_l1, ir36_k0, ir36_o0, ir36_r0, E_11_l4, R_11_l4, ir36_k3, ir36_o3, ir36_r3, E_11_l3, R_11_l3, ir36_k2, ir36_o2, ir36_r2, ez8]


def ir9_b1 : IR := .seq (.region false [ VO 15 33 (.bin false .lss (.v 14) (.v 13))]) (.seq (.cond (.v 15) (.skip) (.exit 2)) (.seq (.block 3 (.seq (.region false [ PM 34 14, PO 35 (.ixAddr 1 (.v 12) (.v 14)), PO 36 (.load false 1 (.s 0)), VS 6 8 2, VS 7 9 0]) (.region false [ PM 37 4, PM 38 6, PM 39 4, PM 40 6, PO 41 (.ixAddr 1 (.s 1) (.s 0)), PO 42 (.load false 1 (.s 0)), PM 43 7, PO 44 (.len true (.s 0)), PO 45 (.minmax true [(.s 2), (.s 0)]), PO 46 (.ixAddr 1 (.s 8) (.s 7)), ⟨.no, 0, none, .store 1 (.s 0) (.s 1)⟩]))) (.region false [ PO 47 (.bin false .add (.v 14) (I6 1)), VS 14 32 0])))
def ir9_k1 : List Bool := [false, false, false, false, true, false, false, false, true, true, true, false, true, true, true, false]
def ir9_o1 : List Bool := [false, false, false, false, true, false, false, false, true, true, true, false, false, false, false, false]
def ir9_r1 : List Bool := [false, true, true, false, false, false, false, false, false, false, false, false, false, false, false, false]
def ir9_b0 : IR := .seq (.region false [ VO 11 27 (.bin false .lss (.v 10) (.v 9))]) (.seq (.cond (.v 11) (.skip) (.exit 0)) (.seq (.block 1 (.seq (.region false [ PO 28 (.ixAddr 1 (.v 8) (.v 10)), PO 29 (.load false 1 (.s 0)), VS 5 7 0]) (.seq (.region false [ VO 12 30 (.mov (.v 5)), VO 13 31 (.len false (.v 12)), VO 14 32 (.mov (I6 0))]) (.block 2 (.loop ir9_k1 ir9_o1 ir9_r1 ir9_b1))))) (.region false [ PO 48 (.bin false .add (.v 10) (I6 1)), VS 10 26 0])))
def ir9_k0 : List Bool := [false, false, false, false, true, false, false, false, true, true, true, false, false, false, false, false]
def ir9_o0 : List Bool := [false, false, false, false, true, false, false, false, false, false, false, false, false, false, false, false]
def ir9_r0 : List Bool := [false, true, true, false, false, false, false, false, false, false, false, false, false, false, false, false]
def ir9_v : List Nat := [0, 2, 3, 4, 5, 7, 8, 9, 24, 25, 26, 27, 30, 31, 32, 33]
def ir9 : AFn := ⟨1, 16, .seq (.region false [ VO 1 2 (.newnil 1), VO 2 3 (.mov (I6 0))]) (.seq (.seq (.region false [ PM 10 0, PO 11 (.call 36 [(.s 0)]), VS 3 4 0]) (.test false [ PM 12 3, PO 13 (.bin false .neq (.s 0) (I6 0))] (.s 0) (.seq (.region false [ PM 14 3, VO 1 2 (.newnil 1), VS 2 3 0]) (.ret)) (.skip))) (.seq (.test false [ PM 15 0, PO 16 (.len false (.s 0)), PO 17 (.bin false .eql (.s 0) (I6 0))] (.s 0) (.seq (.region false [ PO 18 (.mkSl 1 (.int .i64 (0)) 0 []), VS 1 2 0, VO 2 3 (.mov (I6 0))]) (.ret)) (.skip)) (.seq (.region false [ PM 19 0, PO 20 (.ixAddr 1 (.s 0) (I6 0)), PO 21
 (.load false 1 (.s 0)), PO 22 (.len false (.s 0)), PO 23 (.make 1 8 (.int .i64 (0)) (.s 0) (.s 0)), VS 4 5 0]) (.seq (.seq (.region false [ VO 8 24 (.mov (.v 0)), VO 9 25 (.len false (.v 8)), VO 10 26 (.mov (I6 0))]) (.block 0 (.loop ir9_k0 ir9_o0 ir9_r0 ir9_b0))) (.seq (.region false [ PM 49 4, VS 1 2 0, VO 2 3 (.mov (I6 0))]) (.ret)))))), [.t 1, .t 2]⟩
noncomputable def t_12 : List (Nat × Ctr) := [(36, c_11)]
theorem lk_12_36 : look t_12 36 = some c_11 := rfl
noncomputable def c_12 : Ctr := mkF t_12 ir9 [.bor]
theorem s_12 : Sound Tryz.prog 9 c_12 := mkF_sound _ rfl (snd_cons s_11 snd_nil) (by kernel_rfl : chkFn Tryz.prog 9 ir9 ir9_v = true)
theorem M_12 : c_12.modes = [.bor] := rfl
theorem Fl_12 : c_12.flat = true := rfl
attribute [go_sem] M_12 Fl_12
attribute [go_sem] lk_12_36
def E_12_l2 (t24 : List (List (List UInt8))) (t25 : Int) (t26 : Int) (t30 : List (List UInt8)) (t31 : Int) : ((List Int) × Int) → St
 | (widths, t32) => ⟨[.any, .any, .any, .any, .own 3200000, .any, .any, .any, .sl 1 (List.map (slE 1 AV.str) t24), .int .i64 t25, .int .i64 t26, .any, .sl 1 (List.map AV.str t30), .int .i64 t31, .int .i64 t32, .any], [], [(3200000, ⟨1, List.map (AV.int .i64) widths⟩)], true⟩
def R_12_l2 (t24 : List (List (List UInt8))) (t25 : Int) (t26 : Int) (t30 : List (List UInt8)) (t31 : Int) (y : (List Int)) : Res := (.exit 2, ⟨[.any, .any, .any, .any, .own 3200000, .any, .any, .any, .sl 1 (List.map (slE 1 AV.str) t24), .int .i64 t25, .int .i64 t26, .any, .any, .any, .any, .any], [], [(3200000, ⟨1, List.map (AV.int .i64) y⟩)], true⟩)
set_option maxHeartbeats 64000000 in
theorem impl_ColumnWidths_l2_ex {t24 : List (List (List UInt8))} {t25 : Int} {t26 : Int} {t30 : List (List UInt8)} {t31 : Int} {sgm_ : (List Int) × Int} {rho_ : (List Int)} (h : whileE (impl_ColumnWidths_l2 t24 t25 t26 t30 t31) sgm_ = some rho_) : ∃ L0, ∀ L, L0 ≤ L → iter (exec (look t_12) L ir9_b1) ir9_k1 ir9_o1 ir9_r1 L (E_12_l2 t24 t25 t26 t30 t31 sgm_) = R_12_l2 t24 t25 t26 t30 t31 rho_ := by
 refine loop_ex (E := E_12_l2 t24 t25 t26 t30 t31) (R := R_12_l2 t24 t25 t26 t30 t31) (fun y => by first | (intro c; cases c) | (rcases y with y | y <;> (intro c; cases c)) | (rcases y with y | y | y <;> (intro c; cases c))) ?_ h
 clear h
 rintro ⟨widths, t32⟩ o_ h
 dsimp only [impl_ColumnWidths_l2] at h
 rcases it_some h with ⟨z8, h⟩ | ⟨z8, h⟩
 ·try simp only [go_sem, n1, n2, n3, n4] at z8
  all_goals
  obtain ⟨z9, h⟩ := ck_some h
  have lz9 := ix_lt z9
  have xz9 := getD_mapD AV.str t30 lz9
  try simp only [go_sem] at lz9
  try simp only [go_sem] at xz9
  try simp only [go_sem, n1, n2, n3, n4, z8] at z9
  all_goals
  obtain ⟨z10, h⟩ := ck_some h
  have lz10 := ix_lt z10
  have xz10 := getD_mapD (AV.int .i64) widths lz10
  try simp only [go_sem] at lz10
  try simp only [go_sem] at xz10
  try simp only [go_sem, n1, n2, n3, n4, z8, z9] at z10
  all_goals
  obtain rfl := so_some h
  refine ⟨0, fun L hL => ?_⟩
  simp only [go_sem, ir9, E_12_l2, R_12_l2, ir9_b1, ir9_k1, ir9_o1, ir9_r1, z8, z9, lz9, xz9, z10, lz10, xz10]
 ·try simp only [go_sem, n1, n2, n3, n4] at z8
  all_goals
  obtain rfl := so_some h
  refine ⟨0, fun L hL => ?_⟩
  simp only [go_sem, ir9, E_12_l2, R_12_l2, ir9_b1, ir9_k1, ir9_o1, ir9_r1, z8]

def E_12_l1 (t24 : List (List (List UInt8))) (t25 : Int) : ((List Int) × Int) → St
 | (widths, t26) => ⟨[.any, .any, .any, .any, .own 3200000, .any, .any, .any, .sl 1 (List.map (slE 1 AV.str) t24), .int .i64 t25, .int .i64 t26, .any, .any, .any, .any, .any], [], [(3200000, ⟨1, List.map (AV.int .i64) widths⟩)], true⟩
def R_12_l1 (t24 : List (List (List UInt8))) (t25 : Int) (y : (List Int)) : Res := (.exit 0, ⟨[.any, .any, .any, .any, .own 3200000, .any, .any, .any, .any, .any, .any, .any, .any, .any, .any, .any], [], [(3200000, ⟨1, List.map (AV.int .i64) y⟩)], true⟩)
set_option maxHeartbeats 64000000 in
theorem impl_ColumnWidths_l1_ex {t24 : List (List (List UInt8))} {t25 : Int} {sgm_ : (List Int) × Int} {rho_ : (List Int)} (h : whileE (impl_ColumnWidths_l1 t24 t25) sgm_ = some rho_) : ∃ L0, ∀ L, L0 ≤ L → iter (exec (look t_12) L ir9_b0) ir9_k0 ir9_o0 ir9_r0 L (E_12_l1 t24 t25 sgm_) = R_12_l1 t24 t25 rho_ := by
 refine loop_ex (E := E_12_l1 t24 t25) (R := R_12_l1 t24 t25) (fun y => by first | (intro c; cases c) | (rcases y with y | y <;> (intro c; cases c)) | (rcases y with y | y | y <;> (intro c; cases c))) ?_ h
 clear h
 rintro ⟨widths, t26⟩ o_ h
 dsimp only [impl_ColumnWidths_l1] at h
 rcases it_some h with ⟨z6, h⟩ | ⟨z6, h⟩
 ·try simp only [go_sem, n1, n2, n3, n4] at z6
  all_goals
  obtain ⟨z7, h⟩ := ck_some h
  have lz7 := ix_lt z7
  have xz7 := getD_mapD (slE 1 AV.str) t24 lz7
  try simp only [go_sem] at lz7
  try simp only [go_sem] at xz7
  try simp only [go_sem, n1, n2, n3, n4, z6] at z7
  all_goals
  obtain ⟨y_11, z11, h⟩ := bd_some h
  obtain ⟨Lz11, ez11⟩ := impl_ColumnWidths_l2_ex z11
  obtain rfl := so_some h
  refine ⟨Lz11, fun L hL => ?_⟩
  have ez11 := ez11 L (by omega)
  try simp only [go_sem, E_12_l1, R_12_l1, ir9_b0, ir9_k0, ir9_o0, ir9_r0, E_12_l2, R_12_l2, ir9_k1, ir9_o1, ir9_r1, z6, z7] at ez11
  simp only [go_sem, ir9, E_12_l1, R_12_l1, ir9_b0, ir9_k0, ir9_o0, ir9_r0, E_12_l2, R_12_l2, ir9_k1, ir9_o1, ir9_r1, z6, z7, lz7, xz7, ez11]
 ·try simp only [go_sem, n1, n2, n3, n4] at z6
  all_goals
  obtain rfl := so_some h
  refine ⟨0, fun L hL => ?_⟩
  simp only [go_sem, ir9, E_12_l1, R_12_l1, ir9_b0, ir9_k0, ir9_o0, ir9_r0, E_12_l2, R_12_l2, ir9_k1, ir9_o1, ir9_r1, z6]

set_option maxHeartbeats 64000000 in
theorem Fs_12 {rows : List (List (List UInt8))} {y_ : (List Int) × Int} (h : impl_ColumnWidths rows = some y_) : c_12.F [.sl 1 (List.map (slE 1 AV.str) rows)] = ⟨true, .tup [.fresh 1 (List.map (AV.int .i64) y_.1), .int .i64 y_.2], [.any]⟩ := by
 refine mkF_E (by simp only [flatA, flatB, flat1, List.all_cons, List.all_nil, Bool.and_self, flatE_map (f := (AV.int .i64)) (fun _ => rfl)]) ?_
 dsimp only [impl_ColumnWidths] at h
 obtain ⟨y_1, z1, h⟩ := bd_some h
 have fz1 := Fs_11 z1
 try simp only [go_sem] at fz1
 rcases it_some h with ⟨z2, h⟩ | ⟨z2, h⟩
 ·try simp only [go_sem, n1, n2, n3, n4] at z2
  all_goals
  obtain rfl := so_some h
  refine ⟨0, fun L hL => ?_⟩
  simp only [go_sem, ir9, E_12_l2, R_12_l2, ir9_k1, ir9_o1, ir9_r1, E_12_l1, R_12_l1, ir9_k0, ir9_o0, ir9_r0, fz1, z2]
 ·try simp only [go_sem, n1, n2, n3, n4] at z2
  all_goals
  rcases it_some h with ⟨z3, h⟩ | ⟨z3, h⟩
  ·try simp only [go_sem, n1, n2, n3, n4, z2] at z3
   all_goals
   obtain rfl := so_some h
   refine ⟨0, fun L hL => ?_⟩
   simp only [go_sem, ir9, E_12_l2, R_12_l2, ir9_k1, ir9_o1, ir9_r1, E_12_l1, R_12_l1, ir9_k0, ir9_o0, ir9_r0, fz1, z2, z3]
  ·try simp only [go_sem, n1, n2, n3, n4, z2] at z3
   all_goals
   obtain ⟨z4, h⟩ := ck_some h
   have lz4 := ix_lt z4
   have xz4 := getD_mapD (slE 1 AV.str) rows lz4
   try simp only [go_sem] at lz4
   try simp only [go_sem] at xz4
   try simp only [go_sem, n1, n2, n3, n4, z2, z3] at z4
   all_goals
   obtain ⟨z5, h⟩ := ck_some h
   try simp only [go_sem, n1, n2, n3, n4, z2, z3, z4] at z5
   all_goals
   obtain ⟨y_12, z12, h⟩ := bd_some h
   obtain ⟨Lz12, ez12⟩ := impl_ColumnWidths_l1_ex z12
   obtain rfl := so_some h
   refine ⟨Lz12, fun L hL => ?_⟩
   have ez12 := ez12 L (by omega)
   try simp only [go_sem, E_12_l2, R_12_l2, ir9_k1, ir9_o1, ir9_r1, E_12_l1, R_12_l1, ir9_k0, ir9_o0, ir9_r0, z2, z3, z4, z5] at ez12
   simp only [go_sem, ir9, E_12_l2, R_12_l2, ir9_k1, ir9_o1, ir9_r1, E_12_l1, R_12_l1, ir9_k0, ir9_o0, ir9_r0, fz1, z2, z3, z4, lz4, xz4, z5, ez12]


theorem s_hTrim : Sound Tryz.prog 31 c_hTrim := hTrim_is

def ir40_v : List Nat := [0, 1, 2, 6]
def ir40 : AFn := ⟨3, 4, .seq (.region false [ VO 3 6 (.mov (.c (.bool false)))]) (.seq (.region false [ PM 7 0, PM 8 1, PO 9 (.bin false .geq (.s 1) (.s 0)), PO 10 (.mov (.s 0)), ⟨.push, 11, (some ((.s 0), true)), .mov (.v 0)⟩, ⟨.push, 12, (some ((.s 1), true)), .mov (.v 2)⟩, ⟨.push, 13, (some ((.s 2), true)), .bin false .leq (.s 1) (.s 0)⟩, PO 14 (.pick (.s 3) (.s 0) (.c (.bool false))), VS 3 6 0]) (.ret)), [.t 3]⟩
noncomputable def t_14 : List (Nat × Ctr) := []
noncomputable def c_14 : Ctr := mkF t_14 ir40 [.bor, .bor, .bor]
theorem s_14 : Sound Tryz.prog 40 c_14 := mkF_sound _ rfl snd_nil (by kernel_rfl : chkFn Tryz.prog 40 ir40 ir40_v = true)
theorem M_14 : c_14.modes = [.bor, .bor, .bor] := rfl
theorem Fl_14 : c_14.flat = true := rfl
attribute [go_sem] M_14 Fl_14
theorem Fs_14 {n : Int} {low : Int} {high : Int} {y_ : Bool} (h : impl_in n low high = some y_) : c_14.F [.int .i64 n, .int .i64 low, .int .i64 high] = ⟨true, .bool y_, [.any, .any, .any]⟩ := by
 refine mkF_E rfl ?_
 dsimp only [impl_in] at h
 obtain rfl := so_some h
 refine ⟨0, fun L hL => ?_⟩
 simp only [go_sem, ir40]


theorem s_hRepeat : Sound Tryz.prog 69 c_hRepeat := hRepeat_is

def ir51_v : List Nat := [0, 1, 4, 5]
def ir51 : AFn := ⟨2, 4, .seq (.region false [ VO 2 4 (.mov (.c (.str []))), VO 3 5 (.mov (I6 0))]) (.seq (.block 0 (.test false [ PM 7 0, PO 8 (.call 39 [(.s 0)]), PO 9 (.un .not (.s 0)), PO 6 (.mov (.s 0))] (.s 0) (.seq (.region false [ VO 2 4 (.mov (.c (.str []))), VO 3 5 (.mov (I6 7))]) (.ret)) (.test false [ PM 11 1, PO 12 (.call 40 [(.s 0), (I6 0), (I6 80)]), PO 13 (.un .not (.s 0)), PO 10 (.mov (.s 0))] (.s 0) (.seq (.region false [ VO 2 4 (.mov (.c (.str []))), VO 3 5 (.mov (I6 2))]) (.ret)) (.test false [ PM 15 0, PO 16 (.len true (.s 0)), PM 17 1, PO 18 (.bin false .gtr (.s 1) (.s
 0)), PO 14 (.mov (.s 0))] (.s 0) (.seq (.region false [ VO 2 4 (.mov (.c (.str []))), VO 3 5 (.mov (I6 5))]) (.ret)) (.skip))))) (.seq (.region false [ PM 19 1, PM 20 0, PO 21 (.len true (.s 0)), PO 22 (.bin false .sub (.s 2) (.s 0)), PO 23 (.call 69 [(.c (.str [32])), (.s 0)]), VS 2 4 0, VO 3 5 (.mov (I6 0))]) (.ret))), [.t 2, .t 3]⟩
noncomputable def t_16 : List (Nat × Ctr) := [(39, c_10), (40, c_14), (69, c_hRepeat)]
theorem lk_16_39 : look t_16 39 = some c_10 := rfl
theorem lk_16_40 : look t_16 40 = some c_14 := rfl
theorem lk_16_69 : look t_16 69 = some c_hRepeat := rfl
noncomputable def c_16 : Ctr := mkF t_16 ir51 [.bor, .bor]
theorem s_16 : Sound Tryz.prog 51 c_16 := mkF_sound _ rfl (snd_cons s_10 (snd_cons s_14 (snd_cons s_hRepeat snd_nil))) (by kernel_rfl : chkFn Tryz.prog 51 ir51 ir51_v = true)
theorem M_16 : c_16.modes = [.bor, .bor] := rfl
theorem Fl_16 : c_16.flat = true := rfl
attribute [go_sem] M_16 Fl_16
attribute [go_sem] lk_16_39 lk_16_40 lk_16_69
theorem Fs_16 {s_ : List UInt8} {width : Int} {y_ : (List UInt8) × Int} (h : impl_padding s_ width = some y_) : c_16.F [.str s_, .int .i64 width] = ⟨true, .tup [.str y_.1, .int .i64 y_.2], [.any, .any]⟩ := by
 refine mkF_E rfl ?_
 dsimp only [impl_padding] at h
 obtain ⟨y_1, z1, h⟩ := bd_some h
 have fz1 := Fs_10 z1
 try simp only [go_sem] at fz1
 rcases it_some h with ⟨z2, h⟩ | ⟨z2, h⟩
 ·try simp only [go_sem, n1, n2, n3, n4] at z2
  all_goals
  obtain rfl := so_some h
  refine ⟨0, fun L hL => ?_⟩
  simp only [go_sem, ir51, fz1, z2]
 ·try simp only [go_sem, n1, n2, n3, n4] at z2
  all_goals
  obtain ⟨y_3, z3, h⟩ := bd_some h
  have fz3 := Fs_14 z3
  try simp only [go_sem, z2] at fz3
  rcases it_some h with ⟨z4, h⟩ | ⟨z4, h⟩
  ·try simp only [go_sem, n1, n2, n3, n4, z2] at z4
   all_goals
   obtain rfl := so_some h
   refine ⟨0, fun L hL => ?_⟩
   simp only [go_sem, ir51, fz1, z2, fz3, z4]
  ·try simp only [go_sem, n1, n2, n3, n4, z2] at z4
   all_goals
   rcases it_some h with ⟨z5, h⟩ | ⟨z5, h⟩
   ·try simp only [go_sem, n1, n2, n3, n4, z2, z4] at z5
    all_goals
    obtain rfl := so_some h
    refine ⟨0, fun L hL => ?_⟩
    simp only [go_sem, ir51, fz1, z2, fz3, z4, z5]
   ·try simp only [go_sem, n1, n2, n3, n4, z2, z4] at z5
    all_goals
    obtain ⟨y_6, z6, h⟩ := bd_some h
    have fz6 := Fs_hRepeat z6
    try simp only [go_sem, z2, z4, z5] at fz6
    obtain rfl := so_some h
    refine ⟨0, fun L hL => ?_⟩
    simp only [go_sem, ir51, fz1, z2, fz3, z4, z5, fz6]


def ir22_v : List Nat := [0, 1, 4, 5, 6, 7]
def ir22 : AFn := ⟨2, 6, .seq (.region false [ VO 2 4 (.mov (.c (.str []))), VO 3 5 (.mov (I6 0))]) (.seq (.region false [ PM 9 0, PM 10 1, PO 11 (.call 51 [(.s 1), (.s 0)]), PO 8 (.mov (.s 0)), PO 12 (.ext (.s 0) 0), PO 13 (.ext (.s 1) 1), VS 4 6 1, VS 5 7 0]) (.seq (.test false [ PM 14 5, PO 15 (.bin false .neq (.s 0) (I6 0))] (.s 0) (.seq (.region false [ PM 16 5, VO 2 4 (.mov (.c (.str []))), VS 3 5 0]) (.ret)) (.skip)) (.seq (.region false [ PM 17 0, PM 18 4, PO 19 (.bin false .add (.s 1) (.s 0)), VS 2 4 0, VO 3 5 (.mov (I6 0))]) (.ret)))), [.t 2, .t 3]⟩
noncomputable def t_17 : List (Nat × Ctr) := [(51, c_16)]
theorem lk_17_51 : look t_17 51 = some c_16 := rfl
noncomputable def c_17 : Ctr := mkF t_17 ir22 [.bor, .bor]
theorem s_17 : Sound Tryz.prog 22 c_17 := mkF_sound _ rfl (snd_cons s_16 snd_nil) (by kernel_rfl : chkFn Tryz.prog 22 ir22 ir22_v = true)
theorem M_17 : c_17.modes = [.bor, .bor] := rfl
theorem Fl_17 : c_17.flat = true := rfl
attribute [go_sem] M_17 Fl_17
attribute [go_sem] lk_17_51
theorem Fs_17 {s_ : List UInt8} {width : Int} {y_ : (List UInt8) × Int} (h : impl_PadRight s_ width = some y_) : c_17.F [.str s_, .int .i64 width] = ⟨true, .tup [.str y_.1, .int .i64 y_.2], [.any, .any]⟩ := by
 refine mkF_E rfl ?_
 dsimp only [impl_PadRight] at h
 obtain ⟨y_1, z1, h⟩ := bd_some h
 have fz1 := Fs_16 z1
 try simp only [go_sem] at fz1
 rcases it_some h with ⟨z2, h⟩ | ⟨z2, h⟩
 ·try simp only [go_sem, n1, n2, n3, n4] at z2
  all_goals
  obtain rfl := so_some h
  refine ⟨0, fun L hL => ?_⟩
  simp only [go_sem, ir22, fz1, z2]
 ·try simp only [go_sem, n1, n2, n3, n4] at z2
  all_goals
  obtain ⟨z3, h⟩ := ck_some h
  try simp only [go_sem, n1, n2, n3, n4, z2] at z3
  all_goals
  obtain rfl := so_some h
  refine ⟨0, fun L hL => ?_⟩
  simp only [go_sem, ir22, fz1, z2, z3]


def ir20_v : List Nat := [0, 1, 4, 5, 6, 7]
def ir20 : AFn := ⟨2, 6, .seq (.region false [ VO 2 4 (.mov (.c (.str []))), VO 3 5 (.mov (I6 0))]) (.seq (.region false [ PM 9 0, PM 10 1, PO 11 (.call 51 [(.s 1), (.s 0)]), PO 8 (.mov (.s 0)), PO 12 (.ext (.s 0) 0), PO 13 (.ext (.s 1) 1), VS 4 6 1, VS 5 7 0]) (.seq (.test false [ PM 14 5, PO 15 (.bin false .neq (.s 0) (I6 0))] (.s 0) (.seq (.region false [ PM 16 5, VO 2 4 (.mov (.c (.str []))), VS 3 5 0]) (.ret)) (.skip)) (.seq (.region false [ PM 17 4, PM 18 0, PO 19 (.bin false .add (.s 1) (.s 0)), VS 2 4 0, VO 3 5 (.mov (I6 0))]) (.ret)))), [.t 2, .t 3]⟩
noncomputable def t_18 : List (Nat × Ctr) := [(51, c_16)]
theorem lk_18_51 : look t_18 51 = some c_16 := rfl
noncomputable def c_18 : Ctr := mkF t_18 ir20 [.bor, .bor]
theorem s_18 : Sound Tryz.prog 20 c_18 := mkF_sound _ rfl (snd_cons s_16 snd_nil) (by kernel_rfl : chkFn Tryz.prog 20 ir20 ir20_v = true)
theorem M_18 : c_18.modes = [.bor, .bor] := rfl
theorem Fl_18 : c_18.flat = true := rfl
attribute [go_sem] M_18 Fl_18
attribute [go_sem] lk_18_51
theorem Fs_18 {s_ : List UInt8} {width : Int} {y_ : (List UInt8) × Int} (h : impl_PadLeft s_ width = some y_) : c_18.F [.str s_, .int .i64 width] = ⟨true, .tup [.str y_.1, .int .i64 y_.2], [.any, .any]⟩ := by
 refine mkF_E rfl ?_
 dsimp only [impl_PadLeft] at h
 obtain ⟨y_1, z1, h⟩ := bd_some h
 have fz1 := Fs_16 z1
 try simp only [go_sem] at fz1
 rcases it_some h with ⟨z2, h⟩ | ⟨z2, h⟩
 ·try simp only [go_sem, n1, n2, n3, n4] at z2
  all_goals
  obtain rfl := so_some h
  refine ⟨0, fun L hL => ?_⟩
  simp only [go_sem, ir20, fz1, z2]
 ·try simp only [go_sem, n1, n2, n3, n4] at z2
  all_goals
  obtain ⟨z3, h⟩ := ck_some h
  try simp only [go_sem, n1, n2, n3, n4, z2] at z3
  all_goals
  obtain rfl := so_some h
  refine ⟨0, fun L hL => ?_⟩
  simp only [go_sem, ir20, fz1, z2, z3]


theorem s_hJoin : Sound Tryz.prog 32 c_hJoin := hJoin_is

def ir6_b1 : IR := .seq (.region false [ VO 19 47 (.bin false .lss (.v 18) (.v 17))]) (.seq (.cond (.v 19) (.skip) (.exit 3)) (.seq (.block 4 (.seq (.region false [ PM 48 18, PO 49 (.ixAddr 1 (.v 16) (.v 18)), PO 50 (.load false 1 (.s 0)), VS 9 12 2, VS 10 13 0]) (.seq (.region false [ PM 52 10, PM 53 4, PM 54 9, PO 55 (.ixAddr 1 (.s 1) (.s 0)), PO 56 (.load false 1 (.s 0)), PO 57 (.call 22 [(.s 4), (.s 0)]), PO 51 (.mov (.s 0)), PO 58 (.ext (.s 0) 0), PO 59 (.ext (.s 1) 1), VS 11 14 1, PO 15 (.mov (.s 0))]) (.seq (.test false [ PM 60 1, PM 61 9, PO 62 (.ixStr (.s 1) (.s 0)), PO 63 (.bin false
 .eql (.s 0) (.c (.int .u8 (114))))] (.s 0) (.region false [ PM 65 10, PM 66 4, PM 67 9, PO 68 (.ixAddr 1 (.s 1) (.s 0)), PO 69 (.load false 1 (.s 0)), PO 70 (.call 20 [(.s 4), (.s 0)]), PO 64 (.mov (.s 0)), PO 71 (.ext (.s 0) 0), PO 72 (.ext (.s 1) 1), VS 11 14 1]) (.skip)) (.region false [ PM 73 8, PM 74 11, PO 75 (.mkSl 1 (.str []) 1 [(0, (.s 0))]), PO 76 (.app 1 16 (.str []) (.s 2) (.s 0)), VS 8 11 0]))))) (.region false [ PO 77 (.bin false .add (.v 18) (I6 1)), VS 18 46 0])))
def ir6_k1 : List Bool := [false, true, false, false, true, false, true, false, true, false, false, false, true, true, true, false, true, true, true, false]
def ir6_o1 : List Bool := [false, true, false, false, true, false, true, false, true, false, false, false, true, true, true, false, false, false, false, false]
def ir6_r1 : List Bool := [false, false, true, true, false, false, false, false, false, false, false, false, false, false, false, false, false, false, false, false]
def ir6_b0 : IR := .seq (.region false [ VO 15 40 (.bin false .lss (.v 14) (.v 13))]) (.seq (.cond (.v 15) (.skip) (.exit 1)) (.seq (.block 2 (.seq (.region false [ PO 41 (.ixAddr 1 (.v 12) (.v 14)), PO 42 (.load false 1 (.s 0)), VS 7 10 0]) (.seq (.region false [ PO 43 (.mkSl 1 (.str []) 0 []), VS 8 11 0]) (.seq (.seq (.region false [ VO 16 44 (.mov (.v 7)), VO 17 45 (.len false (.v 16)), VO 18 46 (.mov (I6 0))]) (.block 3 (.loop ir6_k1 ir6_o1 ir6_r1 ir6_b1))) (.region false [ PM 78 6, PM 79 8, PO 80 (.call 32 [(.s 0), (.c (.str [32]))]), PO 81 (.mkSl 1 (.str []) 1 [(0, (.s 0))]), PO 82 (.app
 1 16 (.str []) (.s 3) (.s 0)), VS 6 8 0]))))) (.region false [ PO 83 (.bin false .add (.v 14) (I6 1)), VS 14 39 0])))
def ir6_k0 : List Bool := [false, true, false, false, true, false, true, false, false, false, false, false, true, true, true, false, false, false, false, false]
def ir6_o0 : List Bool := [false, false, false, false, false, false, true, false, false, false, false, false, false, false, false, false, false, false, false, false]
def ir6_r0 : List Bool := [false, false, true, true, false, false, false, false, false, false, false, false, false, false, false, false, false, false, false, false]
def ir6_v : List Nat := [0, 1, 4, 5, 6, 7, 8, 10, 11, 12, 13, 14, 37, 38, 39, 40, 44, 45, 46, 47]
def ir6 : AFn := ⟨2, 20, .seq (.region false [ VO 2 4 (.newnil 1), VO 3 5 (.mov (I6 0))]) (.seq (.region false [ PM 17 0, PO 18 (.call 9 [(.s 0)]), PO 16 (.mov (.s 0)), PO 19 (.ext (.s 0) 0), PO 20 (.ext (.s 1) 1), VS 4 6 1, VS 5 7 0]) (.seq (.block 0 (.test false [ PM 22 5, PO 23 (.bin false .neq (.s 0) (I6 0)), PO 21 (.mov (.s 0))] (.s 0) (.seq (.region false [ PM 24 5, VO 2 4 (.newnil 1), VS 3 5 0]) (.ret)) (.test false [ PM 26 1, PO 27 (.len true (.s 0)), PM 28 4, PO 29 (.len false (.s 0)), PO 30 (.bin false .neq (.s 2) (.s 0)), PO 31 (.mov (.s 0)), ⟨.push, 32, (some ((.s 0), false)), .mov
 (.v 1)⟩, ⟨.push, 33, (some ((.s 1), false)), .call 31 [(.s 0), (.c (.str [108, 114]))]⟩, ⟨.push, 34, (some ((.s 2), false)), .bin false .neq (.s 0) (.c (.str []))⟩, PO 35 (.pick (.s 3) (.c (.bool true)) (.s 0)), PO 25 (.mov (.s 0))] (.s 0) (.seq (.region false [ VO 2 4 (.newnil 1), VO 3 5 (.mov (I6 2))]) (.ret)) (.skip)))) (.seq (.region false [ PO 36 (.mkSl 1 (.str []) 0 []), VS 6 8 0]) (.seq (.seq (.region false [ VO 12 37 (.mov (.v 0)), VO 13 38 (.len false (.v 12)), VO 14 39 (.mov (I6 0))]) (.block 1 (.loop ir6_k0 ir6_o0 ir6_r0 ir6_b0))) (.seq (.region false [ PM 84 6, VS 2 4 0, VO 3 5
 (.mov (I6 0))]) (.ret)))))), [.t 2, .t 3]⟩
noncomputable def t_20 : List (Nat × Ctr) := [(9, c_12), (31, c_hTrim), (22, c_17), (20, c_18), (32, c_hJoin)]
theorem lk_20_9 : look t_20 9 = some c_12 := rfl
theorem lk_20_31 : look t_20 31 = some c_hTrim := rfl
theorem lk_20_22 : look t_20 22 = some c_17 := rfl
theorem lk_20_20 : look t_20 20 = some c_18 := rfl
theorem lk_20_32 : look t_20 32 = some c_hJoin := rfl
noncomputable def c_20 : Ctr := mkF t_20 ir6 [.bor, .bor]
theorem s_20 : Sound Tryz.prog 6 c_20 := mkF_sound _ rfl (snd_cons s_12 (snd_cons s_hTrim (snd_cons s_17 (snd_cons s_18 (snd_cons s_hJoin snd_nil))))) (by kernel_rfl : chkFn Tryz.prog 6 ir6 ir6_v = true)
theorem M_20 : c_20.modes = [.bor, .bor] := rfl
theorem Fl_20 : c_20.flat = true := rfl
attribute [go_sem] M_20 Fl_20
attribute [go_sem] lk_20_9 lk_20_31 lk_20_22 lk_20_20 lk_20_32
def E_20_l2 (sides : List UInt8) (widths : List Int) (lines : List (List UInt8)) (t37 : List (List (List UInt8))) (t38 : Int) (t39 : Int) (t44 : List (List UInt8)) (t45 : Int) : ((List (List UInt8)) × Int) → St
 | (words, t46) => ⟨[.any, .str sides, .any, .any, .own 3200000, .any, .own 3200032, .any, .own 3200064, .any, .any, .any, .sl 1 (List.map (slE 1 AV.str) t37), .int .i64 t38, .int .i64 t39, .any, .sl 1 (List.map AV.str t44), .int .i64 t45, .int .i64 t46, .any], [], [(3200000, ⟨1, List.map (AV.int .i64) widths⟩), (3200032, ⟨1, List.map AV.str lines⟩), (3200064, ⟨1, List.map AV.str words⟩)], true⟩
def R_20_l2 (sides : List UInt8) (widths : List Int) (lines : List (List UInt8)) (t37 : List (List (List UInt8))) (t38 : Int) (t39 : Int) (t44 : List (List UInt8)) (t45 : Int) (y : (List (List UInt8))) : Res := (.exit 3, ⟨[.any, .str sides, .any, .any, .own 3200000, .any, .own 3200032, .any, .own 3200064, .any, .any, .any, .sl 1 (List.map (slE 1 AV.str) t37), .int .i64 t38, .int .i64 t39, .any, .any, .any, .any, .any], [], [(3200000, ⟨1, List.map (AV.int .i64) widths⟩), (3200032, ⟨1, List.map AV.str lines⟩), (3200064, ⟨1, List.map AV.str y⟩)], true⟩)
set_option maxHeartbeats 64000000 in
theorem impl_TableLines_l2_ex {sides : List UInt8} {widths : List Int} {lines : List (List UInt8)} {t37 : List (List (List UInt8))} {t38 : Int} {t39 : Int} {t44 : List (List UInt8)} {t45 : Int} {sgm_ : (List (List UInt8)) × Int} {rho_ : (List (List UInt8))} (h : whileE (impl_TableLines_l2 sides widths lines t37 t38 t39 t44 t45) sgm_ = some rho_) : ∃ L0, ∀ L, L0 ≤ L → iter (exec (look t_20) L ir6_b1) ir6_k1 ir6_o1 ir6_r1 L (E_20_l2 sides widths lines t37 t38 t39 t44 t45 sgm_) = R_20_l2 sides widths lines t37 t38 t39 t44 t45 rho_ := by
 refine loop_ex (E := E_20_l2 sides widths lines t37 t38 t39 t44 t45) (R := R_20_l2 sides widths lines t37 t38 t39 t44 t45) (fun y => by first | (intro c; cases c) | (rcases y with y | y <;> (intro c; cases c)) | (rcases y with y | y | y <;> (intro c; cases c))) ?_ h
 clear h
 rintro ⟨words, t46⟩ o_ h
 dsimp only [impl_TableLines_l2] at h
 rcases it_some h with ⟨z7, h⟩ | ⟨z7, h⟩
 ·try simp only [go_sem, n1, n2, n3, n4] at z7
  all_goals
  obtain ⟨z8, h⟩ := ck_some h
  have lz8 := ix_lt z8
  have xz8 := getD_mapD AV.str t44 lz8
  try simp only [go_sem] at lz8
  try simp only [go_sem] at xz8
  try simp only [go_sem, n1, n2, n3, n4, z7] at z8
  all_goals
  obtain ⟨z9, h⟩ := ck_some h
  have lz9 := ix_lt z9
  have xz9 := getD_mapD (AV.int .i64) widths lz9
  try simp only [go_sem] at lz9
  try simp only [go_sem] at xz9
  try simp only [go_sem, n1, n2, n3, n4, z7, z8] at z9
  all_goals
  obtain ⟨y_10, z10, h⟩ := bd_some h
  have fz10 := Fs_17 z10
  try simp only [go_sem, z7, z8, z9] at fz10
  obtain ⟨z11, h⟩ := ck_some h
  try simp only [go_sem, n1, n2, n3, n4, z7, z8, z9] at z11
  all_goals
  rcases it_some h with ⟨z12, h⟩ | ⟨z12, h⟩
  ·try simp only [go_sem, n1, n2, n3, n4, z7, z8, z9, z11] at z12
   all_goals
   obtain ⟨y_13, z13, h⟩ := bd_some h
   have fz13 := Fs_18 z13
   try simp only [go_sem, z7, z8, z9, z11, z12] at fz13
   obtain ⟨z14, h⟩ := ck_some h
   try simp only [go_sem, n1, n2, n3, n4, z7, z8, z9, z11, z12] at z14
   all_goals
   obtain rfl := so_some h
   refine ⟨0, fun L hL => ?_⟩
   simp only [go_sem, ir6, E_20_l2, R_20_l2, ir6_b1, ir6_k1, ir6_o1, ir6_r1, z7, z8, lz8, xz8, z9, lz9, xz9, fz10, z11, z12, fz13, z14]
  ·try simp only [go_sem, n1, n2, n3, n4, z7, z8, z9, z11] at z12
   all_goals
   obtain ⟨z15, h⟩ := ck_some h
   try simp only [go_sem, n1, n2, n3, n4, z7, z8, z9, z11, z12] at z15
   all_goals
   obtain rfl := so_some h
   refine ⟨0, fun L hL => ?_⟩
   simp only [go_sem, ir6, E_20_l2, R_20_l2, ir6_b1, ir6_k1, ir6_o1, ir6_r1, z7, z8, lz8, xz8, z9, lz9, xz9, fz10, z11, z12, z15]
 ·try simp only [go_sem, n1, n2, n3, n4] at z7
  all_goals
  obtain rfl := so_some h
  refine ⟨0, fun L hL => ?_⟩
  simp only [go_sem, ir6, E_20_l2, R_20_l2, ir6_b1, ir6_k1, ir6_o1, ir6_r1, z7]

def E_20_l1 (sides : List UInt8) (widths : List Int) (t37 : List (List (List UInt8))) (t38 : Int) : ((List (List UInt8)) × Int) → St
 | (lines, t39) => ⟨[.any, .str sides, .any, .any, .own 3200000, .any, .own 3200032, .any, .any, .any, .any, .any, .sl 1 (List.map (slE 1 AV.str) t37), .int .i64 t38, .int .i64 t39, .any, .any, .any, .any, .any], [], [(3200000, ⟨1, List.map (AV.int .i64) widths⟩), (3200032, ⟨1, List.map AV.str lines⟩)], true⟩
def R_20_l1 (sides : List UInt8) (widths : List Int) (t37 : List (List (List UInt8))) (t38 : Int) (y : (List (List UInt8))) : Res := (.exit 1, ⟨[.any, .any, .any, .any, .any, .any, .own 3200000, .any, .any, .any, .any, .any, .any, .any, .any, .any, .any, .any, .any, .any], [], [(3200000, ⟨1, List.map AV.str y⟩)], true⟩)
set_option maxHeartbeats 64000000 in
theorem impl_TableLines_l1_ex {sides : List UInt8} {widths : List Int} {t37 : List (List (List UInt8))} {t38 : Int} {sgm_ : (List (List UInt8)) × Int} {rho_ : (List (List UInt8))} (h : whileE (impl_TableLines_l1 sides widths t37 t38) sgm_ = some rho_) : ∃ L0, ∀ L, L0 ≤ L → iter (exec (look t_20) L ir6_b0) ir6_k0 ir6_o0 ir6_r0 L (E_20_l1 sides widths t37 t38 sgm_) = R_20_l1 sides widths t37 t38 rho_ := by
 refine loop_ex (E := E_20_l1 sides widths t37 t38) (R := R_20_l1 sides widths t37 t38) (fun y => by first | (intro c; cases c) | (rcases y with y | y <;> (intro c; cases c)) | (rcases y with y | y | y <;> (intro c; cases c))) ?_ h
 clear h
 rintro ⟨lines, t39⟩ o_ h
 dsimp only [impl_TableLines_l1] at h
 rcases it_some h with ⟨z5, h⟩ | ⟨z5, h⟩
 ·try simp only [go_sem, n1, n2, n3, n4] at z5
  all_goals
  obtain ⟨z6, h⟩ := ck_some h
  have lz6 := ix_lt z6
  have xz6 := getD_mapD (slE 1 AV.str) t37 lz6
  try simp only [go_sem] at lz6
  try simp only [go_sem] at xz6
  try simp only [go_sem, n1, n2, n3, n4, z5] at z6
  all_goals
  obtain ⟨y_16, z16, h⟩ := bd_some h
  obtain ⟨Lz16, ez16⟩ := impl_TableLines_l2_ex z16
  obtain ⟨y_17, z17, h⟩ := bd_some h
  have fz17 := Fs_hJoin z17
  try simp only [go_sem, z5, z6] at fz17
  obtain ⟨z18, h⟩ := ck_some h
  try simp only [go_sem, n1, n2, n3, n4, z5, z6] at z18
  all_goals
  obtain rfl := so_some h
  refine ⟨Lz16, fun L hL => ?_⟩
  have ez16 := ez16 L (by omega)
  try simp only [go_sem, E_20_l1, R_20_l1, ir6_b0, ir6_k0, ir6_o0, ir6_r0, E_20_l2, R_20_l2, ir6_k1, ir6_o1, ir6_r1, z5, z6, z18] at ez16
  simp only [go_sem, ir6, E_20_l1, R_20_l1, ir6_b0, ir6_k0, ir6_o0, ir6_r0, E_20_l2, R_20_l2, ir6_k1, ir6_o1, ir6_r1, z5, z6, lz6, xz6, fz17, z18, ez16]
 ·try simp only [go_sem, n1, n2, n3, n4] at z5
  all_goals
  obtain rfl := so_some h
  refine ⟨0, fun L hL => ?_⟩
  simp only [go_sem, ir6, E_20_l1, R_20_l1, ir6_b0, ir6_k0, ir6_o0, ir6_r0, E_20_l2, R_20_l2, ir6_k1, ir6_o1, ir6_r1, z5]

set_option maxHeartbeats 64000000 in
theorem Fs_20 {rows : List (List (List UInt8))} {sides : List UInt8} {y_ : (List (List UInt8)) × Int} (h : impl_TableLines rows sides = some y_) : c_20.F [.sl 1 (List.map (slE 1 AV.str) rows), .str sides] = ⟨true, .tup [.fresh 1 (List.map AV.str y_.1), .int .i64 y_.2], [.any, .any]⟩ := by
 refine mkF_E (by simp only [flatA, flatB, flat1, List.all_cons, List.all_nil, Bool.and_self, flatE_map (f := AV.str) (fun _ => rfl)]) ?_
 dsimp only [impl_TableLines] at h
 obtain ⟨y_1, z1, h⟩ := bd_some h
 have fz1 := Fs_12 z1
 try simp only [go_sem] at fz1
 rcases it_some h with ⟨z2, h⟩ | ⟨z2, h⟩
 ·try simp only [go_sem, n1, n2, n3, n4] at z2
  all_goals
  obtain rfl := so_some h
  refine ⟨0, fun L hL => ?_⟩
  simp only [go_sem, ir6, E_20_l2, R_20_l2, ir6_k1, ir6_o1, ir6_r1, E_20_l1, R_20_l1, ir6_k0, ir6_o0, ir6_r0, fz1, z2]
 ·try simp only [go_sem, n1, n2, n3, n4] at z2
  all_goals
  obtain ⟨z3, h⟩ := ck_some h
  rcases or_split z3 with ⟨gz3, z3⟩ | gz3
  ·try simp only [go_sem, n1, n2, n3, n4, z2] at gz3
   all_goals
   obtain ⟨y_3, hz3⟩ := Option.isSome_iff_exists.1 z3
   have fz3 := Fs_hTrim hz3
   try simp only [go_sem, n1, n2, n3, n4, z2, gz3] at hz3
   all_goals
   try simp only [go_sem, z2, gz3] at fz3
   rcases it_some h with ⟨z4, h⟩ | ⟨z4, h⟩
   ·try simp only [go_sem, n1, n2, n3, n4, z2, gz3, hz3] at z4
    all_goals
    obtain rfl := so_some h
    refine ⟨0, fun L hL => ?_⟩
    simp only [go_sem, ir6, E_20_l2, R_20_l2, ir6_k1, ir6_o1, ir6_r1, E_20_l1, R_20_l1, ir6_k0, ir6_o0, ir6_r0, fz1, z2, gz3, hz3, fz3, z4]
   ·try simp only [go_sem, n1, n2, n3, n4, z2, gz3, hz3] at z4
    all_goals
    obtain ⟨y_19, z19, h⟩ := bd_some h
    obtain ⟨Lz19, ez19⟩ := impl_TableLines_l1_ex z19
    obtain rfl := so_some h
    refine ⟨Lz19, fun L hL => ?_⟩
    have ez19 := ez19 L (by omega)
    try simp only [go_sem, E_20_l2, R_20_l2, ir6_k1, ir6_o1, ir6_r1, E_20_l1, R_20_l1, ir6_k0, ir6_o0, ir6_r0, z2, gz3, hz3, z4] at ez19
    simp only [go_sem, ir6, E_20_l2, R_20_l2, ir6_k1, ir6_o1, ir6_r1, E_20_l1, R_20_l1, ir6_k0, ir6_o0, ir6_r0, fz1, z2, gz3, hz3, fz3, z4, ez19]
  ·have gz3n := no_f gz3
   have gz3nn := no_t gz3n
   try simp only [go_sem, n1, n2, n3, n4, z2] at gz3nn
   all_goals
   rcases it_some h with ⟨z4, h⟩ | ⟨z4, h⟩
   ·try simp only [go_sem, n1, n2, n3, n4, z2, gz3nn] at z4
    all_goals
    obtain rfl := so_some h
    refine ⟨0, fun L hL => ?_⟩
    simp only [go_sem, ir6, E_20_l2, R_20_l2, ir6_k1, ir6_o1, ir6_r1, E_20_l1, R_20_l1, ir6_k0, ir6_o0, ir6_r0, fz1, z2, gz3nn, z4]
   ·try simp only [go_sem, n1, n2, n3, n4, z2, gz3nn] at z4
    all_goals
    (simp_all)


def ir42_b0 : IR := .seq (.test false [ PM 4 2, PM 5 0, PO 6 (.len true (.s 0)), PO 7 (.bin false .lss (.s 2) (.s 0))] (.s 0) (.skip) (.exit 0)) (.seq (.block 1 (.test false [ PM 10 0, PM 11 2, PO 12 (.ixStr (.s 1) (.s 0)), PO 13 (.bin false .lss (.s 0) (.c (.int .u8 (32)))), PO 14 (.mov (.s 0)), ⟨.push, 15, (some ((.s 0), false)), .mov (.v 0)⟩, ⟨.push, 16, (some ((.s 1), false)), .mov (.v 2)⟩, ⟨.push, 17, (some ((.s 2), false)), .ixStr (.s 1) (.s 0)⟩, ⟨.push, 18, (some ((.s 3), false)), .bin false .gtr (.s 0) (.c (.int .u8 (126)))⟩, PO 19 (.pick (.s 4) (.c (.bool true)) (.s 0))] (.s 0) (.seq
 (.region false [ VO 1 2 (.mov (.c (.bool false)))]) (.ret)) (.skip))) (.region false [ PM 8 2, PO 9 (.bin false .add (.s 0) (I6 1)), VS 2 3 0]))
def ir42_k0 : List Bool := [true, false, true]
def ir42_o0 : List Bool := [false, false, false]
def ir42_r0 : List Bool := [false, true, false]
def ir42_v : List Nat := [0, 2, 3]
def ir42 : AFn := ⟨1, 3, .seq (.region false [ VO 1 2 (.mov (.c (.bool false)))]) (.seq (.seq (.region false [ VO 2 3 (.mov (I6 0))]) (.block 0 (.loop ir42_k0 ir42_o0 ir42_r0 ir42_b0))) (.seq (.region false [ VO 1 2 (.mov (.c (.bool true)))]) (.ret))), [.t 1]⟩
noncomputable def t_21 : List (Nat × Ctr) := []
noncomputable def c_21 : Ctr := mkF t_21 ir42 [.bor]
theorem s_21 : Sound Tryz.prog 42 c_21 := mkF_sound _ rfl snd_nil (by kernel_rfl : chkFn Tryz.prog 42 ir42 ir42_v = true)
theorem M_21 : c_21.modes = [.bor] := rfl
theorem Fl_21 : c_21.flat = true := rfl
attribute [go_sem] M_21 Fl_21
def E_21_l1 (s_ : List UInt8) : Int → St
 | i => ⟨[.str s_, .any, .int .i64 i], [], [], true⟩
def R_21_l1 (s_ : List UInt8) : (Unit ⊕ Bool) → Res
 | .inl y => (.exit 0, ⟨[.any, .any, .any], [], [], true⟩)
 | .inr y => (.ret, ⟨[.any, .bool y, .any], [], [], true⟩)
theorem spec_l24Plain_l1_ex {s_ : List UInt8} {sgm_ : Int} {rho_ : Unit ⊕ Bool} (h : whileE (spec_l24Plain_l1 s_) sgm_ = some rho_) : ∃ L0, ∀ L, L0 ≤ L → iter (exec (look t_21) L ir42_b0) ir42_k0 ir42_o0 ir42_r0 L (E_21_l1 s_ sgm_) = R_21_l1 s_ rho_ := by
 refine loop_ex (E := E_21_l1 s_) (R := R_21_l1 s_) (fun y => by first | (intro c; cases c) | (rcases y with y | y <;> (intro c; cases c)) | (rcases y with y | y | y <;> (intro c; cases c))) ?_ h
 clear h
 intro i o_ h
 dsimp only [spec_l24Plain_l1] at h
 rcases it_some h with ⟨z1, h⟩ | ⟨z1, h⟩
 ·try simp only [go_sem, n1, n2, n3, n4] at z1
  all_goals
  obtain ⟨z2, h⟩ := ck_some h
  try simp only [go_sem, n1, n2, n3, n4, z1] at z2
  all_goals
  rcases it_some h with ⟨z3, h⟩ | ⟨z3, h⟩
  ·try simp only [go_sem, n1, n2, n3, n4, z1, z2] at z3
   all_goals
   obtain rfl := so_some h
   refine ⟨0, fun L hL => ?_⟩
   simp only [go_sem, ir42, E_21_l1, R_21_l1, ir42_b0, ir42_k0, ir42_o0, ir42_r0, z1, z2, z3]
  ·try simp only [go_sem, n1, n2, n3, n4, z1, z2] at z3
   all_goals
   obtain rfl := so_some h
   refine ⟨0, fun L hL => ?_⟩
   simp only [go_sem, ir42, E_21_l1, R_21_l1, ir42_b0, ir42_k0, ir42_o0, ir42_r0, z1, z2, z3]
 ·try simp only [go_sem, n1, n2, n3, n4] at z1
  all_goals
  obtain rfl := so_some h
  refine ⟨0, fun L hL => ?_⟩
  simp only [go_sem, ir42, E_21_l1, R_21_l1, ir42_b0, ir42_k0, ir42_o0, ir42_r0, z1]

theorem Fs_21 {s_ : List UInt8} {y_ : Bool} (h : spec_l24Plain s_ = some y_) : c_21.F [.str s_] = ⟨true, .bool y_, [.any]⟩ := by
 refine mkF_E rfl ?_
 dsimp only [spec_l24Plain] at h
 obtain ⟨y_4, z4, h⟩ := bd_some h
 obtain ⟨Lz4, ez4⟩ := spec_l24Plain_l1_ex z4
 rcases y_4 with y_4a | y_4b
 ·dsimp only at h
  obtain rfl := so_some h
  refine ⟨Lz4, fun L hL => ?_⟩
  have ez4 := ez4 L (by omega)
  try simp only [go_sem, E_21_l1, R_21_l1, ir42_k0, ir42_o0, ir42_r0] at ez4
  simp only [go_sem, ir42, E_21_l1, R_21_l1, ir42_k0, ir42_o0, ir42_r0, ez4]
 ·dsimp only at h
  obtain rfl := so_some h
  refine ⟨Lz4, fun L hL => ?_⟩
  have ez4 := ez4 L (by omega)
  try simp only [go_sem, E_21_l1, R_21_l1, ir42_k0, ir42_o0, ir42_r0] at ez4
  simp only [go_sem, ir42, E_21_l1, R_21_l1, ir42_k0, ir42_o0, ir42_r0, ez4]


def ir33_b1 : IR := .seq (.test false [ PM 13 3, PM 14 0, PM 15 2, PO 16 (.ixAddr 1 (.s 1) (.s 0)), PO 17 (.load false 1 (.s 0)), PO 18 (.len false (.s 0)), PO 19 (.bin false .lss (.s 5) (.s 0))] (.s 0) (.skip) (.exit 2)) (.seq (.block 3 (.test false [ PM 22 0, PM 23 2, PO 24 (.ixAddr 1 (.s 1) (.s 0)), PO 25 (.load false 1 (.s 0)), PM 26 3, PO 27 (.ixAddr 1 (.s 1) (.s 0)), PO 28 (.load false 1 (.s 0)), PO 29 (.call 42 [(.s 0)]), PO 30 (.un .not (.s 0))] (.s 0) (.seq (.region false [ VO 1 2 (.mov (I6 7))]) (.ret)) (.skip))) (.region false [ PM 20 3, PO 21 (.bin false .add (.s 0) (I6 1)), VS 3 4
 0]))
def ir33_k1 : List Bool := [true, false, true, true, false, false]
def ir33_o1 : List Bool := [true, false, true, false, false, false]
def ir33_r1 : List Bool := [false, true, false, false, false, false]
def ir33_b0 : IR := .seq (.test false [ PM 7 2, PM 8 0, PO 9 (.len false (.s 0)), PO 10 (.bin false .lss (.s 2) (.s 0))] (.s 0) (.skip) (.exit 0)) (.seq (.block 1 (.seq (.region false [ VO 3 4 (.mov (I6 0))]) (.block 2 (.loop ir33_k1 ir33_o1 ir33_r1 ir33_b1)))) (.region false [ PM 11 2, PO 12 (.bin false .add (.s 0) (I6 1)), VS 2 3 0]))
def ir33_k0 : List Bool := [true, false, true, false, false, false]
def ir33_o0 : List Bool := [true, false, false, false, false, false]
def ir33_r0 : List Bool := [false, true, false, false, false, false]
def ir33_b3 : IR := .seq (.test false [ PM 55 5, PM 56 0, PM 57 4, PO 58 (.ixAddr 1 (.s 1) (.s 0)), PO 59 (.load false 1 (.s 0)), PO 60 (.len false (.s 0)), PO 61 (.bin false .lss (.s 5) (.s 0))] (.s 0) (.skip) (.exit 6)) (.seq (.block 7 (.test false [ PM 64 0, PM 65 4, PO 66 (.ixAddr 1 (.s 1) (.s 0)), PO 67 (.load false 1 (.s 0)), PM 68 5, PO 69 (.ixAddr 1 (.s 1) (.s 0)), PO 70 (.load false 1 (.s 0)), PO 71 (.len true (.s 0)), PO 72 (.bin false .gtr (.s 0) (I6 80))] (.s 0) (.seq (.region false [ VO 1 2 (.mov (I6 2))]) (.ret)) (.skip))) (.region false [ PM 62 5, PO 63 (.bin false .add (.s 0)
 (I6 1)), VS 5 6 0]))
def ir33_k3 : List Bool := [true, false, false, false, true, true]
def ir33_o3 : List Bool := [true, false, false, false, true, false]
def ir33_r3 : List Bool := [false, true, false, false, false, false]
def ir33_b2 : IR := .seq (.test false [ PM 31 4, PM 32 0, PO 33 (.len false (.s 0)), PO 34 (.bin false .lss (.s 2) (.s 0))] (.s 0) (.skip) (.exit 4)) (.seq (.block 5 (.seq (.anyo 18 [ SO 0 37 (.mov (.v 0)), SO 1 38 (.mov (.v 4)), SO 2 39 (.ixAddr 1 (.s 0) (.s 1)), SO 3 40 (.load false 1 (.s 2)), SO 4 41 (.len false (.s 3)), SO 5 42 (.mov (.v 0)), SO 6 43 (.ixAddr 1 (.s 5) (I6 0)), SO 7 44 (.load false 1 (.s 6)), SO 8 45 (.len false (.s 7)), SO 9 46 (.bin false .neq (.s 4) (.s 8)), SO 10 47 (.mov (.s 9)), ⟨.slot 11, 48, (some ((.s 10), false)), .mov (.v 0)⟩, ⟨.slot 12, 49, (some ((.s 10),
 false)), .mov (.v 4)⟩, ⟨.slot 13, 50, (some ((.s 10), false)), .ixAddr 1 (.s 11) (.s 12)⟩, ⟨.slot 14, 51, (some ((.s 10), false)), .load false 1 (.s 13)⟩, ⟨.slot 15, 52, (some ((.s 10), false)), .len false (.s 14)⟩, ⟨.slot 16, 53, (some ((.s 10), false)), .bin false .gtr (.s 15) (I6 8)⟩, SO 17 54 (.pick (.s 10) (.c (.bool true)) (.s 16))] [] (.cond (.s 17) (.seq (.region false [ VO 1 2 (.mov (I6 2))]) (.ret)) (.skip))) (.seq (.region false [ VO 5 6 (.mov (I6 0))]) (.block 6 (.loop ir33_k3 ir33_o3 ir33_r3 ir33_b3))))) (.region false [ PM 35 4, PO 36 (.bin false .add (.s 0) (I6 1)), VS 4 5 0]))
def ir33_k2 : List Bool := [true, false, false, false, true, false]
def ir33_o2 : List Bool := [true, false, false, false, false, false]
def ir33_r2 : List Bool := [false, true, false, false, false, false]
def ir33_v : List Nat := [0, 2, 3, 4, 5, 6]
def ir33 : AFn := ⟨1, 6, .seq (.region false [ VO 1 2 (.mov (I6 0))]) (.seq (.seq (.region false [ VO 2 3 (.mov (I6 0))]) (.block 0 (.loop ir33_k0 ir33_o0 ir33_r0 ir33_b0))) (.seq (.seq (.region false [ VO 4 5 (.mov (I6 0))]) (.block 4 (.loop ir33_k2 ir33_o2 ir33_r2 ir33_b2))) (.seq (.test false [ PM 73 0, PO 74 (.len false (.s 0)), PO 75 (.bin false .gtr (.s 0) (I6 60))] (.s 0) (.seq (.region false [ VO 1 2 (.mov (I6 2))]) (.ret)) (.skip)) (.seq (.region false [ VO 1 2 (.mov (I6 0))]) (.ret))))), [.t 1]⟩
noncomputable def t_22 : List (Nat × Ctr) := [(42, c_21)]
theorem lk_22_42 : look t_22 42 = some c_21 := rfl
noncomputable def c_22 : Ctr := mkF t_22 ir33 [.bor]
theorem s_22 : Sound Tryz.prog 33 c_22 := mkF_sound _ rfl (snd_cons s_21 snd_nil) (by kernel_rfl : chkFn Tryz.prog 33 ir33 ir33_v = true)
theorem M_22 : c_22.modes = [.bor] := rfl
theorem Fl_22 : c_22.flat = true := rfl
attribute [go_sem] M_22 Fl_22
attribute [go_sem] lk_22_42
def E_22_l2 (rows : List (List (List UInt8))) (i : Int) : Int → St
 | k => ⟨[.sl 1 (List.map (slE 1 AV.str) rows), .any, .int .i64 i, .int .i64 k, .any, .any], [], [], true⟩
def R_22_l2 (rows : List (List (List UInt8))) (i : Int) : (Unit ⊕ Int) → Res
 | .inl y => (.exit 2, ⟨[.sl 1 (List.map (slE 1 AV.str) rows), .any, .int .i64 i, .any, .any, .any], [], [], true⟩)
 | .inr y => (.ret, ⟨[.any, .int .i64 y, .any, .any, .any, .any], [], [], true⟩)
set_option maxHeartbeats 64000000 in
theorem spec_l24Rows_l2_ex {rows : List (List (List UInt8))} {i : Int} {sgm_ : Int} {rho_ : Unit ⊕ Int} (h : whileE (spec_l24Rows_l2 rows i) sgm_ = some rho_) : ∃ L0, ∀ L, L0 ≤ L → iter (exec (look t_22) L ir33_b1) ir33_k1 ir33_o1 ir33_r1 L (E_22_l2 rows i sgm_) = R_22_l2 rows i rho_ := by
 refine loop_ex (E := E_22_l2 rows i) (R := R_22_l2 rows i) (fun y => by first | (intro c; cases c) | (rcases y with y | y <;> (intro c; cases c)) | (rcases y with y | y | y <;> (intro c; cases c))) ?_ h
 clear h
 intro k o_ h
 dsimp only [spec_l24Rows_l2] at h
 obtain ⟨z2, h⟩ := ck_some h
 have lz2 := ix_lt z2
 have xz2 := getD_mapD (slE 1 AV.str) rows lz2
 try simp only [go_sem] at lz2
 try simp only [go_sem] at xz2
 try simp only [go_sem, n1, n2, n3, n4] at z2
 all_goals
 rcases it_some h with ⟨z3, h⟩ | ⟨z3, h⟩
 ·try simp only [go_sem, n1, n2, n3, n4, z2] at z3
  all_goals
  obtain ⟨z4, h⟩ := ck_some h
  have lz4 := ix_lt z4
  have xz4 := getD_mapD AV.str (rows.getD i.toNat default) lz4
  try simp only [go_sem] at lz4
  try simp only [go_sem] at xz4
  try simp only [go_sem, n1, n2, n3, n4, z2, z3] at z4
  all_goals
  obtain ⟨y_5, z5, h⟩ := bd_some h
  have fz5 := Fs_21 z5
  try simp only [go_sem, z2, z3, z4] at fz5
  rcases it_some h with ⟨z6, h⟩ | ⟨z6, h⟩
  ·try simp only [go_sem, n1, n2, n3, n4, z2, z3, z4] at z6
   all_goals
   obtain rfl := so_some h
   refine ⟨0, fun L hL => ?_⟩
   simp only [go_sem, ir33, E_22_l2, R_22_l2, ir33_b1, ir33_k1, ir33_o1, ir33_r1, z2, lz2, xz2, z3, z4, lz4, xz4, fz5, z6]
  ·try simp only [go_sem, n1, n2, n3, n4, z2, z3, z4] at z6
   all_goals
   obtain rfl := so_some h
   refine ⟨0, fun L hL => ?_⟩
   simp only [go_sem, ir33, E_22_l2, R_22_l2, ir33_b1, ir33_k1, ir33_o1, ir33_r1, z2, lz2, xz2, z3, z4, lz4, xz4, fz5, z6]
 ·try simp only [go_sem, n1, n2, n3, n4, z2] at z3
  all_goals
  obtain rfl := so_some h
  refine ⟨0, fun L hL => ?_⟩
  simp only [go_sem, ir33, E_22_l2, R_22_l2, ir33_b1, ir33_k1, ir33_o1, ir33_r1, z2, lz2, xz2, z3]

def E_22_l1 (rows : List (List (List UInt8))) : Int → St
 | i => ⟨[.sl 1 (List.map (slE 1 AV.str) rows), .any, .int .i64 i, .any, .any, .any], [], [], true⟩
def R_22_l1 (rows : List (List (List UInt8))) : (Unit ⊕ Int) → Res
 | .inl y => (.exit 0, ⟨[.sl 1 (List.map (slE 1 AV.str) rows), .any, .any, .any, .any, .any], [], [], true⟩)
 | .inr y => (.ret, ⟨[.any, .int .i64 y, .any, .any, .any, .any], [], [], true⟩)
set_option maxHeartbeats 64000000 in
theorem spec_l24Rows_l1_ex {rows : List (List (List UInt8))} {sgm_ : Int} {rho_ : Unit ⊕ Int} (h : whileE (spec_l24Rows_l1 rows) sgm_ = some rho_) : ∃ L0, ∀ L, L0 ≤ L → iter (exec (look t_22) L ir33_b0) ir33_k0 ir33_o0 ir33_r0 L (E_22_l1 rows sgm_) = R_22_l1 rows rho_ := by
 refine loop_ex (E := E_22_l1 rows) (R := R_22_l1 rows) (fun y => by first | (intro c; cases c) | (rcases y with y | y <;> (intro c; cases c)) | (rcases y with y | y | y <;> (intro c; cases c))) ?_ h
 clear h
 intro i o_ h
 dsimp only [spec_l24Rows_l1] at h
 rcases it_some h with ⟨z1, h⟩ | ⟨z1, h⟩
 ·try simp only [go_sem, n1, n2, n3, n4] at z1
  all_goals
  obtain ⟨y_7, z7, h⟩ := bd_some h
  obtain ⟨Lz7, ez7⟩ := spec_l24Rows_l2_ex z7
  rcases y_7 with y_7a | y_7b
  ·dsimp only at h
   obtain rfl := so_some h
   refine ⟨Lz7, fun L hL => ?_⟩
   have ez7 := ez7 L (by omega)
   try simp only [go_sem, E_22_l1, R_22_l1, ir33_b0, ir33_k0, ir33_o0, ir33_r0, E_22_l2, R_22_l2, ir33_k1, ir33_o1, ir33_r1, z1] at ez7
   simp only [go_sem, ir33, E_22_l1, R_22_l1, ir33_b0, ir33_k0, ir33_o0, ir33_r0, E_22_l2, R_22_l2, ir33_k1, ir33_o1, ir33_r1, z1, ez7]
  ·dsimp only at h
   obtain rfl := so_some h
   refine ⟨Lz7, fun L hL => ?_⟩
   have ez7 := ez7 L (by omega)
   try simp only [go_sem, E_22_l1, R_22_l1, ir33_b0, ir33_k0, ir33_o0, ir33_r0, E_22_l2, R_22_l2, ir33_k1, ir33_o1, ir33_r1, z1] at ez7
   simp only [go_sem, ir33, E_22_l1, R_22_l1, ir33_b0, ir33_k0, ir33_o0, ir33_r0, E_22_l2, R_22_l2, ir33_k1, ir33_o1, ir33_r1, z1, ez7]
 ·try simp only [go_sem, n1, n2, n3, n4] at z1
  all_goals
  obtain rfl := so_some h
  refine ⟨0, fun L hL => ?_⟩
  simp only [go_sem, ir33, E_22_l1, R_22_l1, ir33_b0, ir33_k0, ir33_o0, ir33_r0, E_22_l2, R_22_l2, ir33_k1, ir33_o1, ir33_r1, z1]

def E_22_l4 (rows : List (List (List UInt8))) (i : Int) : Int → St
 | k => ⟨[.sl 1 (List.map (slE 1 AV.str) rows), .any, .any, .any, .int .i64 i, .int .i64 k], [], [], true⟩
def R_22_l4 (rows : List (List (List UInt8))) (i : Int) : (Unit ⊕ Int) → Res
 | .inl y => (.exit 6, ⟨[.sl 1 (List.map (slE 1 AV.str) rows), .any, .any, .any, .int .i64 i, .any], [], [], true⟩)
 | .inr y => (.ret, ⟨[.any, .int .i64 y, .any, .any, .any, .any], [], [], true⟩)
set_option maxHeartbeats 64000000 in
theorem spec_l24Rows_l4_ex {rows : List (List (List UInt8))} {i : Int} {sgm_ : Int} {rho_ : Unit ⊕ Int} (h : whileE (spec_l24Rows_l4 rows i) sgm_ = some rho_) : ∃ L0, ∀ L, L0 ≤ L → iter (exec (look t_22) L ir33_b3) ir33_k3 ir33_o3 ir33_r3 L (E_22_l4 rows i sgm_) = R_22_l4 rows i rho_ := by
 refine loop_ex (E := E_22_l4 rows i) (R := R_22_l4 rows i) (fun y => by first | (intro c; cases c) | (rcases y with y | y <;> (intro c; cases c)) | (rcases y with y | y | y <;> (intro c; cases c))) ?_ h
 clear h
 intro k o_ h
 dsimp only [spec_l24Rows_l4] at h
 obtain ⟨z13, h⟩ := ck_some h
 have lz13 := ix_lt z13
 have xz13 := getD_mapD (slE 1 AV.str) rows lz13
 try simp only [go_sem] at lz13
 try simp only [go_sem] at xz13
 try simp only [go_sem, n1, n2, n3, n4] at z13
 all_goals
 rcases it_some h with ⟨z14, h⟩ | ⟨z14, h⟩
 ·try simp only [go_sem, n1, n2, n3, n4, z13] at z14
  all_goals
  obtain ⟨z15, h⟩ := ck_some h
  have lz15 := ix_lt z15
  have xz15 := getD_mapD AV.str (rows.getD i.toNat default) lz15
  try simp only [go_sem] at lz15
  try simp only [go_sem] at xz15
  try simp only [go_sem, n1, n2, n3, n4, z13, z14] at z15
  all_goals
  rcases it_some h with ⟨z16, h⟩ | ⟨z16, h⟩
  ·try simp only [go_sem, n1, n2, n3, n4, z13, z14, z15] at z16
   all_goals
   obtain rfl := so_some h
   refine ⟨0, fun L hL => ?_⟩
   simp only [go_sem, ir33, E_22_l4, R_22_l4, ir33_b3, ir33_k3, ir33_o3, ir33_r3, E_22_l2, R_22_l2, ir33_k1, ir33_o1, ir33_r1, E_22_l1, R_22_l1, ir33_k0, ir33_o0, ir33_r0, z13, lz13, xz13, z14, z15, lz15, xz15, z16]
  ·try simp only [go_sem, n1, n2, n3, n4, z13, z14, z15] at z16
   all_goals
   obtain rfl := so_some h
   refine ⟨0, fun L hL => ?_⟩
   simp only [go_sem, ir33, E_22_l4, R_22_l4, ir33_b3, ir33_k3, ir33_o3, ir33_r3, E_22_l2, R_22_l2, ir33_k1, ir33_o1, ir33_r1, E_22_l1, R_22_l1, ir33_k0, ir33_o0, ir33_r0, z13, lz13, xz13, z14, z15, lz15, xz15, z16]
 ·try simp only [go_sem, n1, n2, n3, n4, z13] at z14
  all_goals
  obtain rfl := so_some h
  refine ⟨0, fun L hL => ?_⟩
  simp only [go_sem, ir33, E_22_l4, R_22_l4, ir33_b3, ir33_k3, ir33_o3, ir33_r3, E_22_l2, R_22_l2, ir33_k1, ir33_o1, ir33_r1, E_22_l1, R_22_l1, ir33_k0, ir33_o0, ir33_r0, z13, lz13, xz13, z14]

def E_22_l3 (rows : List (List (List UInt8))) : Int → St
 | i => ⟨[.sl 1 (List.map (slE 1 AV.str) rows), .any, .any, .any, .int .i64 i, .any], [], [], true⟩
def R_22_l3 (rows : List (List (List UInt8))) : (Unit ⊕ Int) → Res
 | .inl y => (.exit 4, ⟨[.sl 1 (List.map (slE 1 AV.str) rows), .any, .any, .any, .any, .any], [], [], true⟩)
 | .inr y => (.ret, ⟨[.any, .int .i64 y, .any, .any, .any, .any], [], [], true⟩)
set_option maxHeartbeats 64000000 in
theorem spec_l24Rows_l3_ex {rows : List (List (List UInt8))} {sgm_ : Int} {rho_ : Unit ⊕ Int} (h : whileE (spec_l24Rows_l3 rows) sgm_ = some rho_) : ∃ L0, ∀ L, L0 ≤ L → iter (exec (look t_22) L ir33_b2) ir33_k2 ir33_o2 ir33_r2 L (E_22_l3 rows sgm_) = R_22_l3 rows rho_ := by
 refine loop_ex (E := E_22_l3 rows) (R := R_22_l3 rows) (fun y => by first | (intro c; cases c) | (rcases y with y | y <;> (intro c; cases c)) | (rcases y with y | y | y <;> (intro c; cases c))) ?_ h
 clear h
 intro i o_ h
 dsimp only [spec_l24Rows_l3] at h
 rcases it_some h with ⟨z9, h⟩ | ⟨z9, h⟩
 ·try simp only [go_sem, n1, n2, n3, n4] at z9
  all_goals
  obtain ⟨z10, h⟩ := ck_some h
  have lz10 := ix_lt z10
  have xz10 := getD_mapD (slE 1 AV.str) rows lz10
  try simp only [go_sem] at lz10
  try simp only [go_sem] at xz10
  try simp only [go_sem, n1, n2, n3, n4, z9] at z10
  all_goals
  obtain ⟨z11, h⟩ := ck_some h
  have lz11 := ix_lt z11
  have xz11 := getD_mapD (slE 1 AV.str) rows lz11
  try simp only [go_sem] at lz11
  try simp only [go_sem] at xz11
  try simp only [go_sem, n1, n2, n3, n4, z9, z10] at z11
  all_goals
  rcases it_some h with ⟨z12, h⟩ | ⟨z12, h⟩
  ·try simp only [go_sem, n1, n2, n3, n4, z9, z10, z11] at z12
   all_goals
   obtain rfl := so_some h
   refine ⟨0, fun L hL => ?_⟩
   simp only [go_sem, ir33, E_22_l3, R_22_l3, ir33_b2, ir33_k2, ir33_o2, ir33_r2, E_22_l2, R_22_l2, ir33_k1, ir33_o1, ir33_r1, E_22_l1, R_22_l1, ir33_k0, ir33_o0, ir33_r0, E_22_l4, R_22_l4, ir33_k3, ir33_o3, ir33_r3, z9, z10, lz10, xz10, z11, lz11, xz11, z12]
  ·try simp only [go_sem, n1, n2, n3, n4, z9, z10, z11] at z12
   all_goals
   obtain ⟨y_17, z17, h⟩ := bd_some h
   obtain ⟨Lz17, ez17⟩ := spec_l24Rows_l4_ex z17
   rcases y_17 with y_17a | y_17b
   ·dsimp only at h
    obtain rfl := so_some h
    refine ⟨Lz17, fun L hL => ?_⟩
    have ez17 := ez17 L (by omega)
    try simp only [go_sem, E_22_l3, R_22_l3, ir33_b2, ir33_k2, ir33_o2, ir33_r2, E_22_l2, R_22_l2, ir33_k1, ir33_o1, ir33_r1, E_22_l1, R_22_l1, ir33_k0, ir33_o0, ir33_r0, E_22_l4, R_22_l4, ir33_k3, ir33_o3, ir33_r3, z9, z10, z11, z12] at ez17
    simp only [go_sem, ir33, E_22_l3, R_22_l3, ir33_b2, ir33_k2, ir33_o2, ir33_r2, E_22_l2, R_22_l2, ir33_k1, ir33_o1, ir33_r1, E_22_l1, R_22_l1, ir33_k0, ir33_o0, ir33_r0, E_22_l4, R_22_l4, ir33_k3, ir33_o3, ir33_r3, z9, z10, lz10, xz10, z11, lz11, xz11, z12, ez17]
   ·dsimp only at h
    obtain rfl := so_some h
    refine ⟨Lz17, fun L hL => ?_⟩
    have ez17 := ez17 L (by omega)
    try simp only [go_sem, E_22_l3, R_22_l3, ir33_b2, ir33_k2, ir33_o2, ir33_r2, E_22_l2, R_22_l2, ir33_k1, ir33_o1, ir33_r1, E_22_l1, R_22_l1, ir33_k0, ir33_o0, ir33_r0, E_22_l4, R_22_l4, ir33_k3, ir33_o3, ir33_r3, z9, z10, z11, z12] at ez17
    simp only [go_sem, ir33, E_22_l3, R_22_l3, ir33_b2, ir33_k2, ir33_o2, ir33_r2, E_22_l2, R_22_l2, ir33_k1, ir33_o1, ir33_r1, E_22_l1, R_22_l1, ir33_k0, ir33_o0, ir33_r0, E_22_l4, R_22_l4, ir33_k3, ir33_o3, ir33_r3, z9, z10, lz10, xz10, z11, lz11, xz11, z12, ez17]
 ·try simp only [go_sem, n1, n2, n3, n4] at z9
  all_goals
  obtain rfl := so_some h
  refine ⟨0, fun L hL => ?_⟩
  simp only [go_sem, ir33, E_22_l3, R_22_l3, ir33_b2, ir33_k2, ir33_o2, ir33_r2, E_22_l2, R_22_l2, ir33_k1, ir33_o1, ir33_r1, E_22_l1, R_22_l1, ir33_k0, ir33_o0, ir33_r0, E_22_l4, R_22_l4, ir33_k3, ir33_o3, ir33_r3, z9]

set_option maxHeartbeats 64000000 in
theorem Fs_22 {rows : List (List (List UInt8))} {y_ : Int} (h : spec_l24Rows rows = some y_) : c_22.F [.sl 1 (List.map (slE 1 AV.str) rows)] = ⟨true, .int .i64 y_, [.any]⟩ := by
 refine mkF_E rfl ?_
 dsimp only [spec_l24Rows] at h
 obtain ⟨y_8, z8, h⟩ := bd_some h
 obtain ⟨Lz8, ez8⟩ := spec_l24Rows_l1_ex z8
 rcases y_8 with y_8a | y_8b
 ·dsimp only at h
  obtain ⟨y_18, z18, h⟩ := bd_some h
  obtain ⟨Lz18, ez18⟩ := spec_l24Rows_l3_ex z18
  rcases y_18 with y_18a | y_18b
  ·dsimp only at h
   rcases it_some h with ⟨z19, h⟩ | ⟨z19, h⟩
   ·try simp only [go_sem, n1, n2, n3, n4] at z19
    all_goals
    obtain rfl := so_some h
    refine ⟨Lz8 + Lz18, fun L hL => ?_⟩
    have ez8 := ez8 L (by omega)
    have ez18 := ez18 L (by omega)
    try simp only [go_sem, E_22_l2, R_22_l2, ir33_k1, ir33_o1, ir33_r1, E_22_l1, R_22_l1, ir33_k0, ir33_o0, ir33_r0, E_22_l4, R_22_l4, ir33_k3, ir33_o3, ir33_r3, E_22_l3, R_22_l3, ir33_k2, ir33_o2, ir33_r2, z19] at ez8
    try simp only [go_sem, E_22_l2, R_22_l2, ir33_k1, ir33_o1, ir33_r1, E_22_l1, R_22_l1, ir33_k0, ir33_o0, ir33_r0, E_22_l4, R_22_l4, ir33_k3, ir33_o3, ir33_r3, E_22_l3, R_22_l3, ir33_k2, ir33_o2, ir33_r2, z19] at ez18
    simp only [go_sem, ir33, E_22_l2, R_22_l2, ir33_k1, ir33_o1, ir33_r1, E_22_l1, R_22_l1, ir33_k0, ir33_o0, ir33_r0, E_22_l4, R_22_l4, ir33_k3, ir33_o3, ir33_r3, E_22_l3, R_22_l3, ir33_k2, ir33_o2, ir33_r2, z19, ez8, ez18]
   ·try simp only [go_sem, n1, n2, n3, n4] at z19
    all_goals
    obtain rfl := so_some h
    refine ⟨Lz8 + Lz18, fun L hL => ?_⟩
    have ez8 := ez8 L (by omega)
    have ez18 := ez18 L (by omega)
    try simp only [go_sem, E_22_l2, R_22_l2, ir33_k1, ir33_o1, ir33_r1, E_22_l1, R_22_l1, ir33_k0, ir33_o0, ir33_r0, E_22_l4, R_22_l4, ir33_k3, ir33_o3, ir33_r3, E_22_l3, R_22_l3, ir33_k2, ir33_o2, ir33_r2, z19] at ez8
    try simp only [go_sem, E_22_l2, R_22_l2, ir33_k1, ir33_o1, ir33_r1, E_22_l1, R_22_l1, ir33_k0, ir33_o0, ir33_r0, E_22_l4, R_22_l4, ir33_k3, ir33_o3, ir33_r3, E_22_l3, R_22_l3, ir33_k2, ir33_o2, ir33_r2, z19] at ez18
    simp only [go_sem, ir33, E_22_l2, R_22_l2, ir33_k1, ir33_o1, ir33_r1, E_22_l1, R_22_l1, ir33_k0, ir33_o0, ir33_r0, E_22_l4, R_22_l4, ir33_k3, ir33_o3, ir33_r3, E_22_l3, R_22_l3, ir33_k2, ir33_o2, ir33_r2, z19, ez8, ez18]
  ·dsimp only at h
   obtain rfl := so_some h
   refine ⟨Lz8 + Lz18, fun L hL => ?_⟩
   have ez8 := ez8 L (by omega)
   have ez18 := ez18 L (by omega)
   try simp only [go_sem, E_22_l2, R_22_l2, ir33_k1, ir33_o1, ir33_r1, E_22_l1, R_22_l1, ir33_k0, ir33_o0, ir33_r0, E_22_l4, R_22_l4, ir33_k3, ir33_o3, ir33_r3, E_22_l3, R_22_l3, ir33_k2, ir33_o2, ir33_r2] at ez8
   try simp only [go_sem, E_22_l2, R_22_l2, ir33_k1, ir33_o1, ir33_r1, E_22_l1, R_22_l1, ir33_k0, ir33_o0, ir33_r0, E_22_l4, R_22_l4, ir33_k3, ir33_o3, ir33_r3, E_22_l3, R_22_l3, ir33_k2, ir33_o2, ir33_r2] at ez18
   simp only [go_sem, ir33, E_22_l2, R_22_l2, ir33_k1, ir33_o1, ir33_r1, E_22_l1, R_22_l1, ir33_k0, ir33_o0, ir33_r0, E_22_l4, R_22_l4, ir33_k3, ir33_o3, ir33_r3, E_22_l3, R_22_l3, ir33_k2, ir33_o2, ir33_r2, ez8, ez18]
 ·dsimp only at h
  obtain rfl := so_some h
  refine ⟨Lz8, fun L hL => ?_⟩
  have ez8 := ez8 L (by omega)
  try simp only [go_sem, E_22_l2, R_22_l2, ir33_k1, ir33_o1, ir33_r1, E_22_l1, R_22_l1, ir33_k0, ir33_o0, ir33_r0, E_22_l4, R_22_l4, ir33_k3, ir33_o3, ir33_r3, E_22_l3, R_22_l3, ir33_k2, ir33_o2, ir33_r2] at ez8
  simp only [go_sem, ir33, E_22_l2, R_22_l2, ir33_k1, ir33_o1, ir33_r1, E_22_l1, R_22_l1, ir33_k0, ir33_o0, ir33_r0, E_22_l4, R_22_l4, ir33_k3, ir33_o3, ir33_r3, E_22_l3, R_22_l3, ir33_k2, ir33_o2, ir33_r2, ez8]


def ir65_v : List Nat := [0, 1, 4]
def ir65 : AFn := ⟨2, 3, .seq (.region false [ VO 2 4 (.mov (I6 0))]) (.seq (.test false [ PM 5 0, PM 6 1, PO 7 (.bin false .gtr (.s 1) (.s 0))] (.s 0) (.seq (.region false [ PM 8 0, VS 2 4 0]) (.ret)) (.skip)) (.seq (.region false [ PM 9 1, VS 2 4 0]) (.ret))), [.t 2]⟩
noncomputable def t_23 : List (Nat × Ctr) := []
noncomputable def c_23 : Ctr := mkF t_23 ir65 [.bor, .bor]
theorem s_23 : Sound Tryz.prog 65 c_23 := mkF_sound _ rfl snd_nil (by kernel_rfl : chkFn Tryz.prog 65 ir65 ir65_v = true)
theorem M_23 : c_23.modes = [.bor, .bor] := rfl
theorem Fl_23 : c_23.flat = true := rfl
attribute [go_sem] M_23 Fl_23
theorem Fs_23 {a : Int} {b : Int} {y_ : Int} (h : spec_l00Max a b = some y_) : c_23.F [.int .i64 a, .int .i64 b] = ⟨true, .int .i64 y_, [.any, .any]⟩ := by
 refine mkF_E rfl ?_
 dsimp only [spec_l00Max] at h
 rcases it_some h with ⟨z1, h⟩ | ⟨z1, h⟩
 ·try simp only [go_sem, n1, n2, n3, n4] at z1
  all_goals
  obtain rfl := so_some h
  refine ⟨0, fun L hL => ?_⟩
  simp only [go_sem, ir65, z1]
 ·try simp only [go_sem, n1, n2, n3, n4] at z1
  all_goals
  obtain rfl := so_some h
  refine ⟨0, fun L hL => ?_⟩
  simp only [go_sem, ir65, z1]


def ir34_b1 : IR := .seq (.test false [ PM 13 4, PM 14 0, PM 15 3, PO 16 (.ixAddr 1 (.s 1) (.s 0)), PO 17 (.load false 1 (.s 0)), PO 18 (.len false (.s 0)), PO 19 (.bin false .lss (.s 5) (.s 0))] (.s 0) (.skip) (.exit 2)) (.seq (.block 3 (.seq (.test false [ PM 22 4, PM 23 2, PO 24 (.len false (.s 0)), PO 25 (.bin false .eql (.s 2) (.s 0))] (.s 0) (.region false [ PM 26 2, PO 27 (.mkSl 1 (.int .i64 (0)) 1 [(0, (I6 0))]), PO 28 (.app 1 8 (.int .i64 (0)) (.s 1) (.s 0)), VS 2 3 0]) (.skip)) (.anyo 16 [ SO 0 29 (.mov (.v 2)), SO 1 30 (.mov (.v 4)), SO 2 31 (.mov (.v 2)), SO 3 32 (.mov (.v 4)), SO 4
 33 (.ixAddr 1 (.s 2) (.s 3)), SO 5 34 (.load false 1 (.s 4)), SO 6 35 (.mov (.v 0)), SO 7 36 (.mov (.v 3)), SO 8 37 (.ixAddr 1 (.s 6) (.s 7)), SO 9 38 (.load false 1 (.s 8)), SO 10 39 (.mov (.v 4)), SO 11 40 (.ixAddr 1 (.s 9) (.s 10)), SO 12 41 (.load false 1 (.s 11)), SO 13 42 (.len true (.s 12)), SO 14 43 (.callp 65 [(.s 5), (.s 13)]), SO 15 44 (.ixAddr 1 (.s 0) (.s 1)), ⟨.no, 0, none, .store 1 (.s 15) (.s 14)⟩] [] .skip))) (.region false [ PM 20 4, PO 21 (.bin false .add (.s 0) (I6 1)), VS 4 5 0]))
def ir34_k1 : List Bool := [true, false, true, true, true]
def ir34_o1 : List Bool := [true, false, true, true, false]
def ir34_r1 : List Bool := [false, true, false, false, false]
def ir34_b0 : IR := .seq (.test false [ PM 7 3, PM 8 0, PO 9 (.len false (.s 0)), PO 10 (.bin false .lss (.s 2) (.s 0))] (.s 0) (.skip) (.exit 0)) (.seq (.block 1 (.seq (.region false [ VO 4 5 (.mov (I6 0))]) (.block 2 (.loop ir34_k1 ir34_o1 ir34_r1 ir34_b1)))) (.region false [ PM 11 3, PO 12 (.bin false .add (.s 0) (I6 1)), VS 3 4 0]))
def ir34_k0 : List Bool := [true, false, true, true, false]
def ir34_o0 : List Bool := [false, false, true, false, false]
def ir34_r0 : List Bool := [false, true, false, false, false]
def ir34_v : List Nat := [0, 2, 3, 4, 5]
def ir34 : AFn := ⟨1, 5, .seq (.region false [ VO 1 2 (.newnil 1)]) (.seq (.region false [ PO 6 (.mkSl 1 (.int .i64 (0)) 0 []), VS 2 3 0]) (.seq (.seq (.region false [ VO 3 4 (.mov (I6 0))]) (.block 0 (.loop ir34_k0 ir34_o0 ir34_r0 ir34_b0))) (.seq (.region false [ PM 45 2, VS 1 2 0]) (.ret)))), [.t 1]⟩
noncomputable def t_24 : List (Nat × Ctr) := [(65, c_23)]
theorem lk_24_65 : look t_24 65 = some c_23 := rfl
noncomputable def c_24 : Ctr := mkF t_24 ir34 [.bor]
theorem s_24 : Sound Tryz.prog 34 c_24 := mkF_sound _ rfl (snd_cons s_23 snd_nil) (by kernel_rfl : chkFn Tryz.prog 34 ir34 ir34_v = true)
theorem M_24 : c_24.modes = [.bor] := rfl
theorem Fl_24 : c_24.flat = true := rfl
attribute [go_sem] M_24 Fl_24
attribute [go_sem] lk_24_65
def E_24_l2 (rows : List (List (List UInt8))) (i : Int) : ((List Int) × Int) → St
 | (out, k) => ⟨[.sl 1 (List.map (slE 1 AV.str) rows), .any, .own 3200000, .int .i64 i, .int .i64 k], [], [(3200000, ⟨1, List.map (AV.int .i64) out⟩)], true⟩
def R_24_l2 (rows : List (List (List UInt8))) (i : Int) (y : (List Int)) : Res := (.exit 2, ⟨[.sl 1 (List.map (slE 1 AV.str) rows), .any, .own 3200000, .int .i64 i, .any], [], [(3200000, ⟨1, List.map (AV.int .i64) y⟩)], true⟩)
theorem spec_l24Widths_l2_ex {rows : List (List (List UInt8))} {i : Int} {sgm_ : (List Int) × Int} {rho_ : (List Int)} (h : whileE (spec_l24Widths_l2 rows i) sgm_ = some rho_) : ∃ L0, ∀ L, L0 ≤ L → iter (exec (look t_24) L ir34_b1) ir34_k1 ir34_o1 ir34_r1 L (E_24_l2 rows i sgm_) = R_24_l2 rows i rho_ := by
 refine loop_ex (E := E_24_l2 rows i) (R := R_24_l2 rows i) (fun y => by first | (intro c; cases c) | (rcases y with y | y <;> (intro c; cases c)) | (rcases y with y | y | y <;> (intro c; cases c))) ?_ h
 clear h
 rintro ⟨out, k⟩ o_ h
 dsimp only [spec_l24Widths_l2] at h
 obtain ⟨z2, h⟩ := ck_some h
 have lz2 := ix_lt z2
 have xz2 := getD_mapD (slE 1 AV.str) rows lz2
 try simp only [go_sem] at lz2
 try simp only [go_sem] at xz2
 try simp only [go_sem, n1, n2, n3, n4] at z2
 all_goals
 rcases it_some h with ⟨z3, h⟩ | ⟨z3, h⟩
 ·try simp only [go_sem, n1, n2, n3, n4, z2] at z3
  all_goals
  rcases it_some h with ⟨z4, h⟩ | ⟨z4, h⟩
  ·try simp only [go_sem, n1, n2, n3, n4, z2, z3] at z4
   all_goals
   obtain ⟨z5, h⟩ := ck_some h
   try simp only [go_sem, n1, n2, n3, n4, z2, z3, z4] at z5
   all_goals
   obtain ⟨z6, h⟩ := ck_some h
   have lz6 := ix_lt z6
   have xz6 := getD_mapD (AV.int .i64) (out ++ ([0] : List Int)) lz6
   try simp only [go_sem] at lz6
   try simp only [go_sem] at xz6
   try simp only [go_sem, n1, n2, n3, n4, z2, z3, z4, z5] at z6
   all_goals
   obtain ⟨z7, h⟩ := ck_some h
   have lz7 := ix_lt z7
   have xz7 := getD_mapD AV.str (rows.getD i.toNat default) lz7
   try simp only [go_sem] at lz7
   try simp only [go_sem] at xz7
   try simp only [go_sem, n1, n2, n3, n4, z2, z3, z4, z5, z6] at z7
   all_goals
   obtain ⟨y_8, z8, h⟩ := bd_some h
   have fz8 := Fs_23 z8
   try simp only [go_sem, z2, z3, z4, z5, z6, z7] at fz8
   obtain rfl := so_some h
   refine ⟨0, fun L hL => ?_⟩
   simp only [go_sem, ir34, E_24_l2, R_24_l2, ir34_b1, ir34_k1, ir34_o1, ir34_r1, z2, lz2, xz2, z3, z4, z5, z6, lz6, xz6, z7, lz7, xz7, fz8]
  ·try simp only [go_sem, n1, n2, n3, n4, z2, z3] at z4
   all_goals
   obtain ⟨z9, h⟩ := ck_some h
   have lz9 := ix_lt z9
   have xz9 := getD_mapD (AV.int .i64) out lz9
   try simp only [go_sem] at lz9
   try simp only [go_sem] at xz9
   try simp only [go_sem, n1, n2, n3, n4, z2, z3, z4] at z9
   all_goals
   obtain ⟨z10, h⟩ := ck_some h
   have lz10 := ix_lt z10
   have xz10 := getD_mapD AV.str (rows.getD i.toNat default) lz10
   try simp only [go_sem] at lz10
   try simp only [go_sem] at xz10
   try simp only [go_sem, n1, n2, n3, n4, z2, z3, z4, z9] at z10
   all_goals
   obtain ⟨y_11, z11, h⟩ := bd_some h
   have fz11 := Fs_23 z11
   try simp only [go_sem, z2, z3, z4, z9, z10] at fz11
   obtain rfl := so_some h
   refine ⟨0, fun L hL => ?_⟩
   simp only [go_sem, ir34, E_24_l2, R_24_l2, ir34_b1, ir34_k1, ir34_o1, ir34_r1, z2, lz2, xz2, z3, z4, z9, lz9, xz9, z10, lz10, xz10, fz11]
 ·try simp only [go_sem, n1, n2, n3, n4, z2] at z3
  all_goals
  obtain rfl := so_some h
  refine ⟨0, fun L hL => ?_⟩
  simp only [go_sem, ir34, E_24_l2, R_24_l2, ir34_b1, ir34_k1, ir34_o1, ir34_r1, z2, lz2, xz2, z3]

def E_24_l1 (rows : List (List (List UInt8))) : ((List Int) × Int) → St
 | (out, i) => ⟨[.sl 1 (List.map (slE 1 AV.str) rows), .any, .own 3200000, .int .i64 i, .any], [], [(3200000, ⟨1, List.map (AV.int .i64) out⟩)], true⟩
def R_24_l1 (rows : List (List (List UInt8))) (y : (List Int)) : Res := (.exit 0, ⟨[.any, .any, .own 3200000, .any, .any], [], [(3200000, ⟨1, List.map (AV.int .i64) y⟩)], true⟩)
theorem spec_l24Widths_l1_ex {rows : List (List (List UInt8))} {sgm_ : (List Int) × Int} {rho_ : (List Int)} (h : whileE (spec_l24Widths_l1 rows) sgm_ = some rho_) : ∃ L0, ∀ L, L0 ≤ L → iter (exec (look t_24) L ir34_b0) ir34_k0 ir34_o0 ir34_r0 L (E_24_l1 rows sgm_) = R_24_l1 rows rho_ := by
 refine loop_ex (E := E_24_l1 rows) (R := R_24_l1 rows) (fun y => by first | (intro c; cases c) | (rcases y with y | y <;> (intro c; cases c)) | (rcases y with y | y | y <;> (intro c; cases c))) ?_ h
 clear h
 rintro ⟨out, i⟩ o_ h
 dsimp only [spec_l24Widths_l1] at h
 rcases it_some h with ⟨z1, h⟩ | ⟨z1, h⟩
 ·try simp only [go_sem, n1, n2, n3, n4] at z1
  all_goals
  obtain ⟨y_12, z12, h⟩ := bd_some h
  obtain ⟨Lz12, ez12⟩ := spec_l24Widths_l2_ex z12
  obtain rfl := so_some h
  refine ⟨Lz12, fun L hL => ?_⟩
  have ez12 := ez12 L (by omega)
  try simp only [go_sem, E_24_l1, R_24_l1, ir34_b0, ir34_k0, ir34_o0, ir34_r0, E_24_l2, R_24_l2, ir34_k1, ir34_o1, ir34_r1, z1] at ez12
  simp only [go_sem, ir34, E_24_l1, R_24_l1, ir34_b0, ir34_k0, ir34_o0, ir34_r0, E_24_l2, R_24_l2, ir34_k1, ir34_o1, ir34_r1, z1, ez12]
 ·try simp only [go_sem, n1, n2, n3, n4] at z1
  all_goals
  obtain rfl := so_some h
  refine ⟨0, fun L hL => ?_⟩
  simp only [go_sem, ir34, E_24_l1, R_24_l1, ir34_b0, ir34_k0, ir34_o0, ir34_r0, E_24_l2, R_24_l2, ir34_k1, ir34_o1, ir34_r1, z1]

theorem Fs_24 {rows : List (List (List UInt8))} {y_ : (List Int)} (h : spec_l24Widths rows = some y_) : c_24.F [.sl 1 (List.map (slE 1 AV.str) rows)] = ⟨true, .fresh 1 (List.map (AV.int .i64) y_), [.any]⟩ := by
 refine mkF_E (by simp only [flatA, flatB, flat1, List.all_cons, List.all_nil, Bool.and_self, flatE_map (f := (AV.int .i64)) (fun _ => rfl)]) ?_
 dsimp only [spec_l24Widths] at h
 obtain ⟨y_13, z13, h⟩ := bd_some h
 obtain ⟨Lz13, ez13⟩ := spec_l24Widths_l1_ex z13
 obtain rfl := so_some h
 refine ⟨Lz13, fun L hL => ?_⟩
 have ez13 := ez13 L (by omega)
 try simp only [go_sem, E_24_l2, R_24_l2, ir34_k1, ir34_o1, ir34_r1, E_24_l1, R_24_l1, ir34_k0, ir34_o0, ir34_r0] at ez13
 simp only [go_sem, ir34, E_24_l2, R_24_l2, ir34_k1, ir34_o1, ir34_r1, E_24_l1, R_24_l1, ir34_k0, ir34_o0, ir34_r0, ez13]


def ir7_b0 : IR := .seq (.test false [ PM 16 5, PM 17 1, PO 18 (.len true (.s 0)), PO 19 (.bin false .lss (.s 2) (.s 0)), PO 20 (.mov (.s 0)), ⟨.push, 21, (some ((.s 0), true)), .mov (.v 4)⟩, ⟨.push, 22, (some ((.s 1), true)), .bin false .eql (.s 0) (I6 0)⟩, PO 23 (.pick (.s 2) (.s 0) (.c (.bool false)))] (.s 0) (.skip) (.exit 0)) (.seq (.block 1 (.test false [ PM 26 1, PM 27 5, PO 28 (.ixStr (.s 1) (.s 0)), PO 29 (.bin false .neq (.s 0) (.c (.int .u8 (108)))), PO 30 (.mov (.s 0)), ⟨.push, 31, (some ((.s 0), true)), .mov (.v 1)⟩, ⟨.push, 32, (some ((.s 1), true)), .mov (.v 5)⟩, ⟨.push, 33,
 (some ((.s 2), true)), .ixStr (.s 1) (.s 0)⟩, ⟨.push, 34, (some ((.s 3), true)), .bin false .neq (.s 0) (.c (.int .u8 (114)))⟩, PO 35 (.pick (.s 4) (.s 0) (.c (.bool false)))] (.s 0) (.region false [ VO 4 6 (.mov (I6 2))]) (.skip))) (.region false [ PM 24 5, PO 25 (.bin false .add (.s 0) (I6 1)), VS 5 7 0]))
def ir7_k0 : List Bool := [true, true, false, false, true, true, false, false, false, false, false, false]
def ir7_o0 : List Bool := [true, true, false, false, true, false, false, false, false, false, false, false]
def ir7_r0 : List Bool := [false, false, true, true, false, false, false, false, false, false, false, false]
def ir7_b2 : IR := .seq (.test false [ PM 56 10, PM 57 0, PM 58 8, PO 59 (.ixAddr 1 (.s 1) (.s 0)), PO 60 (.load false 1 (.s 0)), PO 61 (.len false (.s 0)), PO 62 (.bin false .lss (.s 5) (.s 0))] (.s 0) (.skip) (.exit 4)) (.seq (.block 5 (.seq (.test false [ PM 65 10, PO 66 (.bin false .gtr (.s 0) (I6 0))] (.s 0) (.region false [ PM 67 9, PO 68 (.bin false .add (.s 0) (.c (.str [32]))), VS 9 11 0]) (.skip)) (.seq (.anyo 14 [ SO 0 69 (.mov (.v 6)), SO 1 70 (.mov (.v 10)), SO 2 71 (.ixAddr 1 (.s 0) (.s 1)), SO 3 72 (.load false 1 (.s 2)), SO 4 73 (.mov (.v 0)), SO 5 74 (.mov (.v 8)), SO 6 75
 (.ixAddr 1 (.s 4) (.s 5)), SO 7 76 (.load false 1 (.s 6)), SO 8 77 (.mov (.v 10)), SO 9 78 (.ixAddr 1 (.s 7) (.s 8)), SO 10 79 (.load false 1 (.s 9)), SO 11 80 (.len true (.s 10)), SO 12 81 (.bin false .sub (.s 3) (.s 11)), SO 13 82 (.callp 35 [(.s 12)]), VS 11 13 13] [] .skip) (.test false [ PM 83 1, PM 84 10, PO 85 (.ixStr (.s 1) (.s 0)), PO 86 (.bin false .eql (.s 0) (.c (.int .u8 (114))))] (.s 0) (.region false [ PM 87 9, PM 88 11, PM 89 0, PM 90 8, PO 91 (.ixAddr 1 (.s 1) (.s 0)), PO 92 (.load false 1 (.s 0)), PM 93 10, PO 94 (.ixAddr 1 (.s 1) (.s 0)), PO 95 (.load false 1 (.s 0)), PO 96
 (.bin false .add (.s 7) (.s 0)), PO 97 (.bin false .add (.s 9) (.s 0)), VS 9 11 0]) (.region false [ PM 98 9, PM 99 0, PM 100 8, PO 101 (.ixAddr 1 (.s 1) (.s 0)), PO 102 (.load false 1 (.s 0)), PM 103 10, PO 104 (.ixAddr 1 (.s 1) (.s 0)), PO 105 (.load false 1 (.s 0)), PM 106 11, PO 107 (.bin false .add (.s 1) (.s 0)), PO 108 (.bin false .add (.s 9) (.s 0)), VS 9 11 0]))))) (.region false [ PM 63 10, PO 64 (.bin false .add (.s 0) (I6 1)), VS 10 12 0]))
def ir7_k2 : List Bool := [true, true, false, false, false, false, true, true, true, true, true, false]
def ir7_o2 : List Bool := [true, true, false, false, false, false, true, true, true, true, false, false]
def ir7_r2 : List Bool := [false, false, true, true, false, false, false, false, false, false, false, false]
def ir7_b1 : IR := .seq (.test false [ PM 50 8, PM 51 0, PO 52 (.len false (.s 0)), PO 53 (.bin false .lss (.s 2) (.s 0))] (.s 0) (.skip) (.exit 2)) (.seq (.block 3 (.seq (.region false [ VO 9 11 (.mov (.c (.str [])))]) (.seq (.seq (.region false [ VO 10 12 (.mov (I6 0))]) (.block 4 (.loop ir7_k2 ir7_o2 ir7_r2 ir7_b2))) (.region false [ PM 109 7, PM 110 9, PO 111 (.mkSl 1 (.str []) 1 [(0, (.s 0))]), PO 112 (.app 1 16 (.str []) (.s 2) (.s 0)), VS 7 9 0])))) (.region false [ PM 54 8, PO 55 (.bin false .add (.s 0) (I6 1)), VS 8 10 0]))
def ir7_k1 : List Bool := [true, true, false, false, false, false, true, true, true, false, false, false]
def ir7_o1 : List Bool := [false, false, false, false, false, false, false, true, false, false, false, false]
def ir7_r1 : List Bool := [false, false, true, true, false, false, false, false, false, false, false, false]
def ir7_v : List Nat := [0, 1, 4, 5, 6, 7, 8, 9, 10, 11, 12, 13]
def ir7 : AFn := ⟨2, 12, .seq (.region false [ VO 2 4 (.newnil 1), VO 3 5 (.mov (I6 0))]) (.seq (.region false [ PM 14 0, PO 15 (.call 33 [(.s 0)]), VS 4 6 0]) (.seq (.seq (.region false [ VO 5 7 (.mov (I6 0))]) (.block 0 (.loop ir7_k0 ir7_o0 ir7_r0 ir7_b0))) (.seq (.region false [ PO 36 (.mkSl 1 (.int .i64 (0)) 0 []), VS 6 8 0]) (.seq (.test false [ PM 37 4, PO 38 (.bin false .eql (.s 0) (I6 0))] (.s 0) (.seq (.region false [ PM 39 0, PO 40 (.call 34 [(.s 0)]), VS 6 8 0]) (.test false [ PM 41 1, PO 42 (.len true (.s 0)), PM 43 6, PO 44 (.len false (.s 0)), PO 45 (.bin false .neq (.s 2) (.s
 0))] (.s 0) (.region false [ VO 4 6 (.mov (I6 2))]) (.skip))) (.skip)) (.seq (.test false [ PM 46 4, PO 47 (.bin false .neq (.s 0) (I6 0))] (.s 0) (.seq (.region false [ PM 48 4, VO 2 4 (.newnil 1), VS 3 5 0]) (.ret)) (.skip)) (.seq (.region false [ PO 49 (.mkSl 1 (.str []) 0 []), VS 7 9 0]) (.seq (.seq (.region false [ VO 8 10 (.mov (I6 0))]) (.block 2 (.loop ir7_k1 ir7_o1 ir7_r1 ir7_b1))) (.seq (.region false [ PM 113 7, VS 2 4 0, VO 3 5 (.mov (I6 0))]) (.ret))))))))), [.t 2, .t 3]⟩
noncomputable def t_25 : List (Nat × Ctr) := [(33, c_22), (34, c_24), (35, c_7)]
theorem lk_25_33 : look t_25 33 = some c_22 := rfl
theorem lk_25_34 : look t_25 34 = some c_24 := rfl
theorem lk_25_35 : look t_25 35 = some c_7 := rfl
noncomputable def c_25 : Ctr := mkF t_25 ir7 [.bor, .bor]
theorem s_25 : Sound Tryz.prog 7 c_25 := mkF_sound _ rfl (snd_cons s_22 (snd_cons s_24 (snd_cons s_7 snd_nil))) (by kernel_rfl : chkFn Tryz.prog 7 ir7 ir7_v = true)
theorem M_25 : c_25.modes = [.bor, .bor] := rfl
theorem Fl_25 : c_25.flat = true := rfl
attribute [go_sem] M_25 Fl_25
attribute [go_sem] lk_25_33 lk_25_34 lk_25_35
def E_25_l1 (rows : List (List (List UInt8))) (sides : List UInt8) : (Int × Int) → St
 | (code, i) => ⟨[.sl 1 (List.map (slE 1 AV.str) rows), .str sides, .any, .any, .int .i64 code, .int .i64 i, .any, .any, .any, .any, .any, .any], [], [], true⟩
def R_25_l1 (rows : List (List (List UInt8))) (sides : List UInt8) (y : Int) : Res := (.exit 0, ⟨[.sl 1 (List.map (slE 1 AV.str) rows), .str sides, .any, .any, .int .i64 y, .any, .any, .any, .any, .any, .any, .any], [], [], true⟩)
set_option maxHeartbeats 64000000 in
theorem spec_TableLines_l1_ex {rows : List (List (List UInt8))} {sides : List UInt8} {sgm_ : Int × Int} {rho_ : Int} (h : whileE (spec_TableLines_l1 rows sides) sgm_ = some rho_) : ∃ L0, ∀ L, L0 ≤ L → iter (exec (look t_25) L ir7_b0) ir7_k0 ir7_o0 ir7_r0 L (E_25_l1 rows sides sgm_) = R_25_l1 rows sides rho_ := by
 refine loop_ex (E := E_25_l1 rows sides) (R := R_25_l1 rows sides) (fun y => by first | (intro c; cases c) | (rcases y with y | y <;> (intro c; cases c)) | (rcases y with y | y | y <;> (intro c; cases c))) ?_ h
 clear h
 rintro ⟨code, i⟩ o_ h
 dsimp only [spec_TableLines_l1] at h
 rcases it_some h with ⟨z2, h⟩ | ⟨z2, h⟩
 ·try simp only [go_sem, n1, n2, n3, n4] at z2
  all_goals
  obtain ⟨z3, h⟩ := ck_some h
  try simp only [go_sem, n1, n2, n3, n4, z2] at z3
  all_goals
  rcases it_some h with ⟨z4, h⟩ | ⟨z4, h⟩
  ·try simp only [go_sem, n1, n2, n3, n4, z2, z3] at z4
   all_goals
   obtain rfl := so_some h
   refine ⟨0, fun L hL => ?_⟩
   simp only [go_sem, ir7, E_25_l1, R_25_l1, ir7_b0, ir7_k0, ir7_o0, ir7_r0, z2, z3, z4]
  ·try simp only [go_sem, n1, n2, n3, n4, z2, z3] at z4
   all_goals
   obtain rfl := so_some h
   refine ⟨0, fun L hL => ?_⟩
   simp only [go_sem, ir7, E_25_l1, R_25_l1, ir7_b0, ir7_k0, ir7_o0, ir7_r0, z2, z3, z4]
 ·try simp only [go_sem, n1, n2, n3, n4] at z2
  all_goals
  obtain rfl := so_some h
  refine ⟨0, fun L hL => ?_⟩
  simp only [go_sem, ir7, E_25_l1, R_25_l1, ir7_b0, ir7_k0, ir7_o0, ir7_r0, z2]

def E_25_l3 (rows : List (List (List UInt8))) (sides : List UInt8) (widths : List Int) (out : List (List UInt8)) (i : Int) : ((List UInt8) × Int) → St
 | (line, k) => ⟨[.sl 1 (List.map (slE 1 AV.str) rows), .str sides, .any, .any, .any, .any, .own 3200000, .own 3200032, .int .i64 i, .str line, .int .i64 k, .any], [], [(3200000, ⟨1, List.map (AV.int .i64) widths⟩), (3200032, ⟨1, List.map AV.str out⟩)], true⟩
def R_25_l3 (rows : List (List (List UInt8))) (sides : List UInt8) (widths : List Int) (out : List (List UInt8)) (i : Int) (y : (List UInt8)) : Res := (.exit 4, ⟨[.sl 1 (List.map (slE 1 AV.str) rows), .str sides, .any, .any, .any, .any, .own 3200000, .own 3200032, .int .i64 i, .str y, .any, .any], [], [(3200000, ⟨1, List.map (AV.int .i64) widths⟩), (3200032, ⟨1, List.map AV.str out⟩)], true⟩)
set_option maxHeartbeats 64000000 in
theorem spec_TableLines_l3_ex {rows : List (List (List UInt8))} {sides : List UInt8} {widths : List Int} {out : List (List UInt8)} {i : Int} {sgm_ : (List UInt8) × Int} {rho_ : (List UInt8)} (h : whileE (spec_TableLines_l3 rows sides widths out i) sgm_ = some rho_) : ∃ L0, ∀ L, L0 ≤ L → iter (exec (look t_25) L ir7_b2) ir7_k2 ir7_o2 ir7_r2 L (E_25_l3 rows sides widths out i sgm_) = R_25_l3 rows sides widths out i rho_ := by
 refine loop_ex (E := E_25_l3 rows sides widths out i) (R := R_25_l3 rows sides widths out i) (fun y => by first | (intro c; cases c) | (rcases y with y | y <;> (intro c; cases c)) | (rcases y with y | y | y <;> (intro c; cases c))) ?_ h
 clear h
 rintro ⟨line, k⟩ o_ h
 dsimp only [spec_TableLines_l3] at h
 obtain ⟨z11, h⟩ := ck_some h
 have lz11 := ix_lt z11
 have xz11 := getD_mapD (slE 1 AV.str) rows lz11
 try simp only [go_sem] at lz11
 try simp only [go_sem] at xz11
 try simp only [go_sem, n1, n2, n3, n4] at z11
 all_goals
 rcases it_some h with ⟨z12, h⟩ | ⟨z12, h⟩
 ·try simp only [go_sem, n1, n2, n3, n4, z11] at z12
  all_goals
  rcases it_some h with ⟨z13, h⟩ | ⟨z13, h⟩
  ·try simp only [go_sem, n1, n2, n3, n4, z11, z12] at z13
   all_goals
   obtain ⟨z14, h⟩ := ck_some h
   try simp only [go_sem, n1, n2, n3, n4, z11, z12, z13] at z14
   all_goals
   obtain ⟨z15, h⟩ := ck_some h
   have lz15 := ix_lt z15
   have xz15 := getD_mapD (AV.int .i64) widths lz15
   try simp only [go_sem] at lz15
   try simp only [go_sem] at xz15
   try simp only [go_sem, n1, n2, n3, n4, z11, z12, z13, z14] at z15
   all_goals
   obtain ⟨z16, h⟩ := ck_some h
   have lz16 := ix_lt z16
   have xz16 := getD_mapD AV.str (rows.getD i.toNat default) lz16
   try simp only [go_sem] at lz16
   try simp only [go_sem] at xz16
   try simp only [go_sem, n1, n2, n3, n4, z11, z12, z13, z14, z15] at z16
   all_goals
   obtain ⟨y_17, z17, h⟩ := bd_some h
   have fz17 := Fs_7 z17
   try simp only [go_sem, z11, z12, z13, z14, z15, z16] at fz17
   obtain ⟨z18, h⟩ := ck_some h
   try simp only [go_sem, n1, n2, n3, n4, z11, z12, z13, z14, z15, z16] at z18
   all_goals
   rcases it_some h with ⟨z19, h⟩ | ⟨z19, h⟩
   ·try simp only [go_sem, n1, n2, n3, n4, z11, z12, z13, z14, z15, z16, z18] at z19
    all_goals
    obtain ⟨z20, h⟩ := ck_some h
    try simp only [go_sem, n1, n2, n3, n4, z11, z12, z13, z14, z15, z16, z18, z19] at z20
    all_goals
    obtain ⟨z21, h⟩ := ck_some h
    try simp only [go_sem, n1, n2, n3, n4, z11, z12, z13, z14, z15, z16, z18, z19, z20] at z21
    all_goals
    obtain rfl := so_some h
    refine ⟨0, fun L hL => ?_⟩
    simp only [go_sem, ir7, E_25_l3, R_25_l3, ir7_b2, ir7_k2, ir7_o2, ir7_r2, E_25_l1, R_25_l1, ir7_k0, ir7_o0, ir7_r0, z11, lz11, xz11, z12, z13, z14, z15, lz15, xz15, z16, lz16, xz16, fz17, z18, z19, z20, z21]
   ·try simp only [go_sem, n1, n2, n3, n4, z11, z12, z13, z14, z15, z16, z18] at z19
    all_goals
    obtain ⟨z22, h⟩ := ck_some h
    try simp only [go_sem, n1, n2, n3, n4, z11, z12, z13, z14, z15, z16, z18, z19] at z22
    all_goals
    obtain ⟨z23, h⟩ := ck_some h
    try simp only [go_sem, n1, n2, n3, n4, z11, z12, z13, z14, z15, z16, z18, z19, z22] at z23
    all_goals
    obtain rfl := so_some h
    refine ⟨0, fun L hL => ?_⟩
    simp only [go_sem, ir7, E_25_l3, R_25_l3, ir7_b2, ir7_k2, ir7_o2, ir7_r2, E_25_l1, R_25_l1, ir7_k0, ir7_o0, ir7_r0, z11, lz11, xz11, z12, z13, z14, z15, lz15, xz15, z16, lz16, xz16, fz17, z18, z19, z22, z23]
  ·try simp only [go_sem, n1, n2, n3, n4, z11, z12] at z13
   all_goals
   obtain ⟨z24, h⟩ := ck_some h
   have lz24 := ix_lt z24
   have xz24 := getD_mapD (AV.int .i64) widths lz24
   try simp only [go_sem] at lz24
   try simp only [go_sem] at xz24
   try simp only [go_sem, n1, n2, n3, n4, z11, z12, z13] at z24
   all_goals
   obtain ⟨z25, h⟩ := ck_some h
   have lz25 := ix_lt z25
   have xz25 := getD_mapD AV.str (rows.getD i.toNat default) lz25
   try simp only [go_sem] at lz25
   try simp only [go_sem] at xz25
   try simp only [go_sem, n1, n2, n3, n4, z11, z12, z13, z24] at z25
   all_goals
   obtain ⟨y_26, z26, h⟩ := bd_some h
   have fz26 := Fs_7 z26
   try simp only [go_sem, z11, z12, z13, z24, z25] at fz26
   obtain ⟨z27, h⟩ := ck_some h
   try simp only [go_sem, n1, n2, n3, n4, z11, z12, z13, z24, z25] at z27
   all_goals
   rcases it_some h with ⟨z28, h⟩ | ⟨z28, h⟩
   ·try simp only [go_sem, n1, n2, n3, n4, z11, z12, z13, z24, z25, z27] at z28
    all_goals
    obtain ⟨z29, h⟩ := ck_some h
    try simp only [go_sem, n1, n2, n3, n4, z11, z12, z13, z24, z25, z27, z28] at z29
    all_goals
    obtain ⟨z30, h⟩ := ck_some h
    try simp only [go_sem, n1, n2, n3, n4, z11, z12, z13, z24, z25, z27, z28, z29] at z30
    all_goals
    obtain rfl := so_some h
    refine ⟨0, fun L hL => ?_⟩
    simp only [go_sem, ir7, E_25_l3, R_25_l3, ir7_b2, ir7_k2, ir7_o2, ir7_r2, E_25_l1, R_25_l1, ir7_k0, ir7_o0, ir7_r0, z11, lz11, xz11, z12, z13, z24, lz24, xz24, z25, lz25, xz25, fz26, z27, z28, z29, z30]
   ·try simp only [go_sem, n1, n2, n3, n4, z11, z12, z13, z24, z25, z27] at z28
    all_goals
    obtain ⟨z31, h⟩ := ck_some h
    try simp only [go_sem, n1, n2, n3, n4, z11, z12, z13, z24, z25, z27, z28] at z31
    all_goals
    obtain ⟨z32, h⟩ := ck_some h
    try simp only [go_sem, n1, n2, n3, n4, z11, z12, z13, z24, z25, z27, z28, z31] at z32
    all_goals
    obtain rfl := so_some h
    refine ⟨0, fun L hL => ?_⟩
    simp only [go_sem, ir7, E_25_l3, R_25_l3, ir7_b2, ir7_k2, ir7_o2, ir7_r2, E_25_l1, R_25_l1, ir7_k0, ir7_o0, ir7_r0, z11, lz11, xz11, z12, z13, z24, lz24, xz24, z25, lz25, xz25, fz26, z27, z28, z31, z32]
 ·try simp only [go_sem, n1, n2, n3, n4, z11] at z12
  all_goals
  obtain rfl := so_some h
  refine ⟨0, fun L hL => ?_⟩
  simp only [go_sem, ir7, E_25_l3, R_25_l3, ir7_b2, ir7_k2, ir7_o2, ir7_r2, E_25_l1, R_25_l1, ir7_k0, ir7_o0, ir7_r0, z11, lz11, xz11, z12]

def E_25_l2 (rows : List (List (List UInt8))) (sides : List UInt8) (widths : List Int) : ((List (List UInt8)) × Int) → St
 | (out, i) => ⟨[.sl 1 (List.map (slE 1 AV.str) rows), .str sides, .any, .any, .any, .any, .own 3200000, .own 3200032, .int .i64 i, .any, .any, .any], [], [(3200000, ⟨1, List.map (AV.int .i64) widths⟩), (3200032, ⟨1, List.map AV.str out⟩)], true⟩
def R_25_l2 (rows : List (List (List UInt8))) (sides : List UInt8) (widths : List Int) (y : (List (List UInt8))) : Res := (.exit 2, ⟨[.any, .any, .any, .any, .any, .any, .any, .own 3200000, .any, .any, .any, .any], [], [(3200000, ⟨1, List.map AV.str y⟩)], true⟩)
set_option maxHeartbeats 64000000 in
theorem spec_TableLines_l2_ex {rows : List (List (List UInt8))} {sides : List UInt8} {widths : List Int} {sgm_ : (List (List UInt8)) × Int} {rho_ : (List (List UInt8))} (h : whileE (spec_TableLines_l2 rows sides widths) sgm_ = some rho_) : ∃ L0, ∀ L, L0 ≤ L → iter (exec (look t_25) L ir7_b1) ir7_k1 ir7_o1 ir7_r1 L (E_25_l2 rows sides widths sgm_) = R_25_l2 rows sides widths rho_ := by
 refine loop_ex (E := E_25_l2 rows sides widths) (R := R_25_l2 rows sides widths) (fun y => by first | (intro c; cases c) | (rcases y with y | y <;> (intro c; cases c)) | (rcases y with y | y | y <;> (intro c; cases c))) ?_ h
 clear h
 rintro ⟨out, i⟩ o_ h
 dsimp only [spec_TableLines_l2] at h
 rcases it_some h with ⟨z10, h⟩ | ⟨z10, h⟩
 ·try simp only [go_sem, n1, n2, n3, n4] at z10
  all_goals
  obtain ⟨y_33, z33, h⟩ := bd_some h
  obtain ⟨Lz33, ez33⟩ := spec_TableLines_l3_ex z33
  obtain ⟨z34, h⟩ := ck_some h
  try simp only [go_sem, n1, n2, n3, n4, z10] at z34
  all_goals
  obtain rfl := so_some h
  refine ⟨Lz33, fun L hL => ?_⟩
  have ez33 := ez33 L (by omega)
  try simp only [go_sem, E_25_l2, R_25_l2, ir7_b1, ir7_k1, ir7_o1, ir7_r1, E_25_l1, R_25_l1, ir7_k0, ir7_o0, ir7_r0, E_25_l3, R_25_l3, ir7_k2, ir7_o2, ir7_r2, z10, z34] at ez33
  simp only [go_sem, ir7, E_25_l2, R_25_l2, ir7_b1, ir7_k1, ir7_o1, ir7_r1, E_25_l1, R_25_l1, ir7_k0, ir7_o0, ir7_r0, E_25_l3, R_25_l3, ir7_k2, ir7_o2, ir7_r2, z10, z34, ez33]
 ·try simp only [go_sem, n1, n2, n3, n4] at z10
  all_goals
  obtain rfl := so_some h
  refine ⟨0, fun L hL => ?_⟩
  simp only [go_sem, ir7, E_25_l2, R_25_l2, ir7_b1, ir7_k1, ir7_o1, ir7_r1, E_25_l1, R_25_l1, ir7_k0, ir7_o0, ir7_r0, E_25_l3, R_25_l3, ir7_k2, ir7_o2, ir7_r2, z10]

def E_25_l5 (rows : List (List (List UInt8))) (sides : List UInt8) (widths : List Int) (out : List (List UInt8)) (i : Int) : ((List UInt8) × Int) → St
 | (line, k) => ⟨[.sl 1 (List.map (slE 1 AV.str) rows), .str sides, .any, .any, .any, .any, .own 3200000, .own 3200032, .int .i64 i, .str line, .int .i64 k, .any], [], [(3200000, ⟨1, List.map (AV.int .i64) widths⟩), (3200032, ⟨1, List.map AV.str out⟩)], true⟩
def R_25_l5 (rows : List (List (List UInt8))) (sides : List UInt8) (widths : List Int) (out : List (List UInt8)) (i : Int) (y : (List UInt8)) : Res := (.exit 4, ⟨[.sl 1 (List.map (slE 1 AV.str) rows), .str sides, .any, .any, .any, .any, .own 3200000, .own 3200032, .int .i64 i, .str y, .any, .any], [], [(3200000, ⟨1, List.map (AV.int .i64) widths⟩), (3200032, ⟨1, List.map AV.str out⟩)], true⟩)
set_option maxHeartbeats 64000000 in
theorem spec_TableLines_l5_ex {rows : List (List (List UInt8))} {sides : List UInt8} {widths : List Int} {out : List (List UInt8)} {i : Int} {sgm_ : (List UInt8) × Int} {rho_ : (List UInt8)} (h : whileE (spec_TableLines_l5 rows sides widths out i) sgm_ = some rho_) : ∃ L0, ∀ L, L0 ≤ L → iter (exec (look t_25) L ir7_b2) ir7_k2 ir7_o2 ir7_r2 L (E_25_l5 rows sides widths out i sgm_) = R_25_l5 rows sides widths out i rho_ := by
 refine loop_ex (E := E_25_l5 rows sides widths out i) (R := R_25_l5 rows sides widths out i) (fun y => by first | (intro c; cases c) | (rcases y with y | y <;> (intro c; cases c)) | (rcases y with y | y | y <;> (intro c; cases c))) ?_ h
 clear h
 rintro ⟨line, k⟩ o_ h
 dsimp only [spec_TableLines_l5] at h
 obtain ⟨z38, h⟩ := ck_some h
 have lz38 := ix_lt z38
 have xz38 := getD_mapD (slE 1 AV.str) rows lz38
 try simp only [go_sem] at lz38
 try simp only [go_sem] at xz38
 try simp only [go_sem, n1, n2, n3, n4] at z38
 all_goals
 rcases it_some h with ⟨z39, h⟩ | ⟨z39, h⟩
 ·try simp only [go_sem, n1, n2, n3, n4, z38] at z39
  all_goals
  rcases it_some h with ⟨z40, h⟩ | ⟨z40, h⟩
  ·try simp only [go_sem, n1, n2, n3, n4, z38, z39] at z40
   all_goals
   obtain ⟨z41, h⟩ := ck_some h
   try simp only [go_sem, n1, n2, n3, n4, z38, z39, z40] at z41
   all_goals
   obtain ⟨z42, h⟩ := ck_some h
   have lz42 := ix_lt z42
   have xz42 := getD_mapD (AV.int .i64) widths lz42
   try simp only [go_sem] at lz42
   try simp only [go_sem] at xz42
   try simp only [go_sem, n1, n2, n3, n4, z38, z39, z40, z41] at z42
   all_goals
   obtain ⟨z43, h⟩ := ck_some h
   have lz43 := ix_lt z43
   have xz43 := getD_mapD AV.str (rows.getD i.toNat default) lz43
   try simp only [go_sem] at lz43
   try simp only [go_sem] at xz43
   try simp only [go_sem, n1, n2, n3, n4, z38, z39, z40, z41, z42] at z43
   all_goals
   obtain ⟨y_44, z44, h⟩ := bd_some h
   have fz44 := Fs_7 z44
   try simp only [go_sem, z38, z39, z40, z41, z42, z43] at fz44
   obtain ⟨z45, h⟩ := ck_some h
   try simp only [go_sem, n1, n2, n3, n4, z38, z39, z40, z41, z42, z43] at z45
   all_goals
   rcases it_some h with ⟨z46, h⟩ | ⟨z46, h⟩
   ·try simp only [go_sem, n1, n2, n3, n4, z38, z39, z40, z41, z42, z43, z45] at z46
    all_goals
    obtain ⟨z47, h⟩ := ck_some h
    try simp only [go_sem, n1, n2, n3, n4, z38, z39, z40, z41, z42, z43, z45, z46] at z47
    all_goals
    obtain ⟨z48, h⟩ := ck_some h
    try simp only [go_sem, n1, n2, n3, n4, z38, z39, z40, z41, z42, z43, z45, z46, z47] at z48
    all_goals
    obtain rfl := so_some h
    refine ⟨0, fun L hL => ?_⟩
    simp only [go_sem, ir7, E_25_l5, R_25_l5, ir7_b2, ir7_k2, ir7_o2, ir7_r2, E_25_l1, R_25_l1, ir7_k0, ir7_o0, ir7_r0, E_25_l3, R_25_l3, ir7_k2, ir7_o2, ir7_r2, E_25_l2, R_25_l2, ir7_k1, ir7_o1, ir7_r1, z38, lz38, xz38, z39, z40, z41, z42, lz42, xz42, z43, lz43, xz43, fz44, z45, z46, z47, z48]
   ·try simp only [go_sem, n1, n2, n3, n4, z38, z39, z40, z41, z42, z43, z45] at z46
    all_goals
    obtain ⟨z49, h⟩ := ck_some h
    try simp only [go_sem, n1, n2, n3, n4, z38, z39, z40, z41, z42, z43, z45, z46] at z49
    all_goals
    obtain ⟨z50, h⟩ := ck_some h
    try simp only [go_sem, n1, n2, n3, n4, z38, z39, z40, z41, z42, z43, z45, z46, z49] at z50
    all_goals
    obtain rfl := so_some h
    refine ⟨0, fun L hL => ?_⟩
    simp only [go_sem, ir7, E_25_l5, R_25_l5, ir7_b2, ir7_k2, ir7_o2, ir7_r2, E_25_l1, R_25_l1, ir7_k0, ir7_o0, ir7_r0, E_25_l3, R_25_l3, ir7_k2, ir7_o2, ir7_r2, E_25_l2, R_25_l2, ir7_k1, ir7_o1, ir7_r1, z38, lz38, xz38, z39, z40, z41, z42, lz42, xz42, z43, lz43, xz43, fz44, z45, z46, z49, z50]
  ·try simp only [go_sem, n1, n2, n3, n4, z38, z39] at z40
   all_goals
   obtain ⟨z51, h⟩ := ck_some h
   have lz51 := ix_lt z51
   have xz51 := getD_mapD (AV.int .i64) widths lz51
   try simp only [go_sem] at lz51
   try simp only [go_sem] at xz51
   try simp only [go_sem, n1, n2, n3, n4, z38, z39, z40] at z51
   all_goals
   obtain ⟨z52, h⟩ := ck_some h
   have lz52 := ix_lt z52
   have xz52 := getD_mapD AV.str (rows.getD i.toNat default) lz52
   try simp only [go_sem] at lz52
   try simp only [go_sem] at xz52
   try simp only [go_sem, n1, n2, n3, n4, z38, z39, z40, z51] at z52
   all_goals
   obtain ⟨y_53, z53, h⟩ := bd_some h
   have fz53 := Fs_7 z53
   try simp only [go_sem, z38, z39, z40, z51, z52] at fz53
   obtain ⟨z54, h⟩ := ck_some h
   try simp only [go_sem, n1, n2, n3, n4, z38, z39, z40, z51, z52] at z54
   all_goals
   rcases it_some h with ⟨z55, h⟩ | ⟨z55, h⟩
   ·try simp only [go_sem, n1, n2, n3, n4, z38, z39, z40, z51, z52, z54] at z55
    all_goals
    obtain ⟨z56, h⟩ := ck_some h
    try simp only [go_sem, n1, n2, n3, n4, z38, z39, z40, z51, z52, z54, z55] at z56
    all_goals
    obtain ⟨z57, h⟩ := ck_some h
    try simp only [go_sem, n1, n2, n3, n4, z38, z39, z40, z51, z52, z54, z55, z56] at z57
    all_goals
    obtain rfl := so_some h
    refine ⟨0, fun L hL => ?_⟩
    simp only [go_sem, ir7, E_25_l5, R_25_l5, ir7_b2, ir7_k2, ir7_o2, ir7_r2, E_25_l1, R_25_l1, ir7_k0, ir7_o0, ir7_r0, E_25_l3, R_25_l3, ir7_k2, ir7_o2, ir7_r2, E_25_l2, R_25_l2, ir7_k1, ir7_o1, ir7_r1, z38, lz38, xz38, z39, z40, z51, lz51, xz51, z52, lz52, xz52, fz53, z54, z55, z56, z57]
   ·try simp only [go_sem, n1, n2, n3, n4, z38, z39, z40, z51, z52, z54] at z55
    all_goals
    obtain ⟨z58, h⟩ := ck_some h
    try simp only [go_sem, n1, n2, n3, n4, z38, z39, z40, z51, z52, z54, z55] at z58
    all_goals
    obtain ⟨z59, h⟩ := ck_some h
    try simp only [go_sem, n1, n2, n3, n4, z38, z39, z40, z51, z52, z54, z55, z58] at z59
    all_goals
    obtain rfl := so_some h
    refine ⟨0, fun L hL => ?_⟩
    simp only [go_sem, ir7, E_25_l5, R_25_l5, ir7_b2, ir7_k2, ir7_o2, ir7_r2, E_25_l1, R_25_l1, ir7_k0, ir7_o0, ir7_r0, E_25_l3, R_25_l3, ir7_k2, ir7_o2, ir7_r2, E_25_l2, R_25_l2, ir7_k1, ir7_o1, ir7_r1, z38, lz38, xz38, z39, z40, z51, lz51, xz51, z52, lz52, xz52, fz53, z54, z55, z58, z59]
 ·try simp only [go_sem, n1, n2, n3, n4, z38] at z39
  all_goals
  obtain rfl := so_some h
  refine ⟨0, fun L hL => ?_⟩
  simp only [go_sem, ir7, E_25_l5, R_25_l5, ir7_b2, ir7_k2, ir7_o2, ir7_r2, E_25_l1, R_25_l1, ir7_k0, ir7_o0, ir7_r0, E_25_l3, R_25_l3, ir7_k2, ir7_o2, ir7_r2, E_25_l2, R_25_l2, ir7_k1, ir7_o1, ir7_r1, z38, lz38, xz38, z39]

def E_25_l4 (rows : List (List (List UInt8))) (sides : List UInt8) (widths : List Int) : ((List (List UInt8)) × Int) → St
 | (out, i) => ⟨[.sl 1 (List.map (slE 1 AV.str) rows), .str sides, .any, .any, .any, .any, .own 3200000, .own 3200032, .int .i64 i, .any, .any, .any], [], [(3200000, ⟨1, List.map (AV.int .i64) widths⟩), (3200032, ⟨1, List.map AV.str out⟩)], true⟩
def R_25_l4 (rows : List (List (List UInt8))) (sides : List UInt8) (widths : List Int) (y : (List (List UInt8))) : Res := (.exit 2, ⟨[.any, .any, .any, .any, .any, .any, .any, .own 3200000, .any, .any, .any, .any], [], [(3200000, ⟨1, List.map AV.str y⟩)], true⟩)
set_option maxHeartbeats 64000000 in
theorem spec_TableLines_l4_ex {rows : List (List (List UInt8))} {sides : List UInt8} {widths : List Int} {sgm_ : (List (List UInt8)) × Int} {rho_ : (List (List UInt8))} (h : whileE (spec_TableLines_l4 rows sides widths) sgm_ = some rho_) : ∃ L0, ∀ L, L0 ≤ L → iter (exec (look t_25) L ir7_b1) ir7_k1 ir7_o1 ir7_r1 L (E_25_l4 rows sides widths sgm_) = R_25_l4 rows sides widths rho_ := by
 refine loop_ex (E := E_25_l4 rows sides widths) (R := R_25_l4 rows sides widths) (fun y => by first | (intro c; cases c) | (rcases y with y | y <;> (intro c; cases c)) | (rcases y with y | y | y <;> (intro c; cases c))) ?_ h
 clear h
 rintro ⟨out, i⟩ o_ h
 dsimp only [spec_TableLines_l4] at h
 rcases it_some h with ⟨z37, h⟩ | ⟨z37, h⟩
 ·try simp only [go_sem, n1, n2, n3, n4] at z37
  all_goals
  obtain ⟨y_60, z60, h⟩ := bd_some h
  obtain ⟨Lz60, ez60⟩ := spec_TableLines_l5_ex z60
  obtain ⟨z61, h⟩ := ck_some h
  try simp only [go_sem, n1, n2, n3, n4, z37] at z61
  all_goals
  obtain rfl := so_some h
  refine ⟨Lz60, fun L hL => ?_⟩
  have ez60 := ez60 L (by omega)
  try simp only [go_sem, E_25_l4, R_25_l4, ir7_b1, ir7_k1, ir7_o1, ir7_r1, E_25_l1, R_25_l1, ir7_k0, ir7_o0, ir7_r0, E_25_l3, R_25_l3, ir7_k2, ir7_o2, ir7_r2, E_25_l2, R_25_l2, ir7_k1, ir7_o1, ir7_r1, E_25_l5, R_25_l5, ir7_k2, ir7_o2, ir7_r2, z37, z61] at ez60
  simp only [go_sem, ir7, E_25_l4, R_25_l4, ir7_b1, ir7_k1, ir7_o1, ir7_r1, E_25_l1, R_25_l1, ir7_k0, ir7_o0, ir7_r0, E_25_l3, R_25_l3, ir7_k2, ir7_o2, ir7_r2, E_25_l2, R_25_l2, ir7_k1, ir7_o1, ir7_r1, E_25_l5, R_25_l5, ir7_k2, ir7_o2, ir7_r2, z37, z61, ez60]
 ·try simp only [go_sem, n1, n2, n3, n4] at z37
  all_goals
  obtain rfl := so_some h
  refine ⟨0, fun L hL => ?_⟩
  simp only [go_sem, ir7, E_25_l4, R_25_l4, ir7_b1, ir7_k1, ir7_o1, ir7_r1, E_25_l1, R_25_l1, ir7_k0, ir7_o0, ir7_r0, E_25_l3, R_25_l3, ir7_k2, ir7_o2, ir7_r2, E_25_l2, R_25_l2, ir7_k1, ir7_o1, ir7_r1, E_25_l5, R_25_l5, ir7_k2, ir7_o2, ir7_r2, z37]

def E_25_l7 (rows : List (List (List UInt8))) (sides : List UInt8) (widths : List Int) (out : List (List UInt8)) (i : Int) : ((List UInt8) × Int) → St
 | (line, k) => ⟨[.sl 1 (List.map (slE 1 AV.str) rows), .str sides, .any, .any, .any, .any, .own 3200000, .own 3200032, .int .i64 i, .str line, .int .i64 k, .any], [], [(3200000, ⟨1, List.map (AV.int .i64) widths⟩), (3200032, ⟨1, List.map AV.str out⟩)], true⟩
def R_25_l7 (rows : List (List (List UInt8))) (sides : List UInt8) (widths : List Int) (out : List (List UInt8)) (i : Int) (y : (List UInt8)) : Res := (.exit 4, ⟨[.sl 1 (List.map (slE 1 AV.str) rows), .str sides, .any, .any, .any, .any, .own 3200000, .own 3200032, .int .i64 i, .str y, .any, .any], [], [(3200000, ⟨1, List.map (AV.int .i64) widths⟩), (3200032, ⟨1, List.map AV.str out⟩)], true⟩)
set_option maxHeartbeats 64000000 in
theorem spec_TableLines_l7_ex {rows : List (List (List UInt8))} {sides : List UInt8} {widths : List Int} {out : List (List UInt8)} {i : Int} {sgm_ : (List UInt8) × Int} {rho_ : (List UInt8)} (h : whileE (spec_TableLines_l7 rows sides widths out i) sgm_ = some rho_) : ∃ L0, ∀ L, L0 ≤ L → iter (exec (look t_25) L ir7_b2) ir7_k2 ir7_o2 ir7_r2 L (E_25_l7 rows sides widths out i sgm_) = R_25_l7 rows sides widths out i rho_ := by
 refine loop_ex (E := E_25_l7 rows sides widths out i) (R := R_25_l7 rows sides widths out i) (fun y => by first | (intro c; cases c) | (rcases y with y | y <;> (intro c; cases c)) | (rcases y with y | y | y <;> (intro c; cases c))) ?_ h
 clear h
 rintro ⟨line, k⟩ o_ h
 dsimp only [spec_TableLines_l7] at h
 obtain ⟨z65, h⟩ := ck_some h
 have lz65 := ix_lt z65
 have xz65 := getD_mapD (slE 1 AV.str) rows lz65
 try simp only [go_sem] at lz65
 try simp only [go_sem] at xz65
 try simp only [go_sem, n1, n2, n3, n4] at z65
 all_goals
 rcases it_some h with ⟨z66, h⟩ | ⟨z66, h⟩
 ·try simp only [go_sem, n1, n2, n3, n4, z65] at z66
  all_goals
  rcases it_some h with ⟨z67, h⟩ | ⟨z67, h⟩
  ·try simp only [go_sem, n1, n2, n3, n4, z65, z66] at z67
   all_goals
   obtain ⟨z68, h⟩ := ck_some h
   try simp only [go_sem, n1, n2, n3, n4, z65, z66, z67] at z68
   all_goals
   obtain ⟨z69, h⟩ := ck_some h
   have lz69 := ix_lt z69
   have xz69 := getD_mapD (AV.int .i64) widths lz69
   try simp only [go_sem] at lz69
   try simp only [go_sem] at xz69
   try simp only [go_sem, n1, n2, n3, n4, z65, z66, z67, z68] at z69
   all_goals
   obtain ⟨z70, h⟩ := ck_some h
   have lz70 := ix_lt z70
   have xz70 := getD_mapD AV.str (rows.getD i.toNat default) lz70
   try simp only [go_sem] at lz70
   try simp only [go_sem] at xz70
   try simp only [go_sem, n1, n2, n3, n4, z65, z66, z67, z68, z69] at z70
   all_goals
   obtain ⟨y_71, z71, h⟩ := bd_some h
   have fz71 := Fs_7 z71
   try simp only [go_sem, z65, z66, z67, z68, z69, z70] at fz71
   obtain ⟨z72, h⟩ := ck_some h
   try simp only [go_sem, n1, n2, n3, n4, z65, z66, z67, z68, z69, z70] at z72
   all_goals
   rcases it_some h with ⟨z73, h⟩ | ⟨z73, h⟩
   ·try simp only [go_sem, n1, n2, n3, n4, z65, z66, z67, z68, z69, z70, z72] at z73
    all_goals
    obtain ⟨z74, h⟩ := ck_some h
    try simp only [go_sem, n1, n2, n3, n4, z65, z66, z67, z68, z69, z70, z72, z73] at z74
    all_goals
    obtain ⟨z75, h⟩ := ck_some h
    try simp only [go_sem, n1, n2, n3, n4, z65, z66, z67, z68, z69, z70, z72, z73, z74] at z75
    all_goals
    obtain rfl := so_some h
    refine ⟨0, fun L hL => ?_⟩
    simp only [go_sem, ir7, E_25_l7, R_25_l7, ir7_b2, ir7_k2, ir7_o2, ir7_r2, E_25_l1, R_25_l1, ir7_k0, ir7_o0, ir7_r0, E_25_l3, R_25_l3, ir7_k2, ir7_o2, ir7_r2, E_25_l2, R_25_l2, ir7_k1, ir7_o1, ir7_r1, E_25_l5, R_25_l5, ir7_k2, ir7_o2, ir7_r2, E_25_l4, R_25_l4, ir7_k1, ir7_o1, ir7_r1, z65, lz65, xz65, z66, z67, z68, z69, lz69, xz69, z70, lz70, xz70, fz71, z72, z73, z74, z75]
   ·try simp only [go_sem, n1, n2, n3, n4, z65, z66, z67, z68, z69, z70, z72] at z73
    all_goals
    obtain ⟨z76, h⟩ := ck_some h
    try simp only [go_sem, n1, n2, n3, n4, z65, z66, z67, z68, z69, z70, z72, z73] at z76
    all_goals
    obtain ⟨z77, h⟩ := ck_some h
    try simp only [go_sem, n1, n2, n3, n4, z65, z66, z67, z68, z69, z70, z72, z73, z76] at z77
    all_goals
    obtain rfl := so_some h
    refine ⟨0, fun L hL => ?_⟩
    simp only [go_sem, ir7, E_25_l7, R_25_l7, ir7_b2, ir7_k2, ir7_o2, ir7_r2, E_25_l1, R_25_l1, ir7_k0, ir7_o0, ir7_r0, E_25_l3, R_25_l3, ir7_k2, ir7_o2, ir7_r2, E_25_l2, R_25_l2, ir7_k1, ir7_o1, ir7_r1, E_25_l5, R_25_l5, ir7_k2, ir7_o2, ir7_r2, E_25_l4, R_25_l4, ir7_k1, ir7_o1, ir7_r1, z65, lz65, xz65, z66, z67, z68, z69, lz69, xz69, z70, lz70, xz70, fz71, z72, z73, z76, z77]
  ·try simp only [go_sem, n1, n2, n3, n4, z65, z66] at z67
   all_goals
   obtain ⟨z78, h⟩ := ck_some h
   have lz78 := ix_lt z78
   have xz78 := getD_mapD (AV.int .i64) widths lz78
   try simp only [go_sem] at lz78
   try simp only [go_sem] at xz78
   try simp only [go_sem, n1, n2, n3, n4, z65, z66, z67] at z78
   all_goals
   obtain ⟨z79, h⟩ := ck_some h
   have lz79 := ix_lt z79
   have xz79 := getD_mapD AV.str (rows.getD i.toNat default) lz79
   try simp only [go_sem] at lz79
   try simp only [go_sem] at xz79
   try simp only [go_sem, n1, n2, n3, n4, z65, z66, z67, z78] at z79
   all_goals
   obtain ⟨y_80, z80, h⟩ := bd_some h
   have fz80 := Fs_7 z80
   try simp only [go_sem, z65, z66, z67, z78, z79] at fz80
   obtain ⟨z81, h⟩ := ck_some h
   try simp only [go_sem, n1, n2, n3, n4, z65, z66, z67, z78, z79] at z81
   all_goals
   rcases it_some h with ⟨z82, h⟩ | ⟨z82, h⟩
   ·try simp only [go_sem, n1, n2, n3, n4, z65, z66, z67, z78, z79, z81] at z82
    all_goals
    obtain ⟨z83, h⟩ := ck_some h
    try simp only [go_sem, n1, n2, n3, n4, z65, z66, z67, z78, z79, z81, z82] at z83
    all_goals
    obtain ⟨z84, h⟩ := ck_some h
    try simp only [go_sem, n1, n2, n3, n4, z65, z66, z67, z78, z79, z81, z82, z83] at z84
    all_goals
    obtain rfl := so_some h
    refine ⟨0, fun L hL => ?_⟩
    simp only [go_sem, ir7, E_25_l7, R_25_l7, ir7_b2, ir7_k2, ir7_o2, ir7_r2, E_25_l1, R_25_l1, ir7_k0, ir7_o0, ir7_r0, E_25_l3, R_25_l3, ir7_k2, ir7_o2, ir7_r2, E_25_l2, R_25_l2, ir7_k1, ir7_o1, ir7_r1, E_25_l5, R_25_l5, ir7_k2, ir7_o2, ir7_r2, E_25_l4, R_25_l4, ir7_k1, ir7_o1, ir7_r1, z65, lz65, xz65, z66, z67, z78, lz78, xz78, z79, lz79, xz79, fz80, z81, z82, z83, z84]
   ·try simp only [go_sem, n1, n2, n3, n4, z65, z66, z67, z78, z79, z81] at z82
    all_goals
    obtain ⟨z85, h⟩ := ck_some h
    try simp only [go_sem, n1, n2, n3, n4, z65, z66, z67, z78, z79, z81, z82] at z85
    all_goals
    obtain ⟨z86, h⟩ := ck_some h
    try simp only [go_sem, n1, n2, n3, n4, z65, z66, z67, z78, z79, z81, z82, z85] at z86
    all_goals
    obtain rfl := so_some h
    refine ⟨0, fun L hL => ?_⟩
    simp only [go_sem, ir7, E_25_l7, R_25_l7, ir7_b2, ir7_k2, ir7_o2, ir7_r2, E_25_l1, R_25_l1, ir7_k0, ir7_o0, ir7_r0, E_25_l3, R_25_l3, ir7_k2, ir7_o2, ir7_r2, E_25_l2, R_25_l2, ir7_k1, ir7_o1, ir7_r1, E_25_l5, R_25_l5, ir7_k2, ir7_o2, ir7_r2, E_25_l4, R_25_l4, ir7_k1, ir7_o1, ir7_r1, z65, lz65, xz65, z66, z67, z78, lz78, xz78, z79, lz79, xz79, fz80, z81, z82, z85, z86]
 ·try simp only [go_sem, n1, n2, n3, n4, z65] at z66
  all_goals
  obtain rfl := so_some h
  refine ⟨0, fun L hL => ?_⟩
  simp only [go_sem, ir7, E_25_l7, R_25_l7, ir7_b2, ir7_k2, ir7_o2, ir7_r2, E_25_l1, R_25_l1, ir7_k0, ir7_o0, ir7_r0, E_25_l3, R_25_l3, ir7_k2, ir7_o2, ir7_r2, E_25_l2, R_25_l2, ir7_k1, ir7_o1, ir7_r1, E_25_l5, R_25_l5, ir7_k2, ir7_o2, ir7_r2, E_25_l4, R_25_l4, ir7_k1, ir7_o1, ir7_r1, z65, lz65, xz65, z66]

def E_25_l6 (rows : List (List (List UInt8))) (sides : List UInt8) (widths : List Int) : ((List (List UInt8)) × Int) → St
 | (out, i) => ⟨[.sl 1 (List.map (slE 1 AV.str) rows), .str sides, .any, .any, .any, .any, .own 3200000, .own 3200032, .int .i64 i, .any, .any, .any], [], [(3200000, ⟨1, List.map (AV.int .i64) widths⟩), (3200032, ⟨1, List.map AV.str out⟩)], true⟩
def R_25_l6 (rows : List (List (List UInt8))) (sides : List UInt8) (widths : List Int) (y : (List (List UInt8))) : Res := (.exit 2, ⟨[.any, .any, .any, .any, .any, .any, .any, .own 3200000, .any, .any, .any, .any], [], [(3200000, ⟨1, List.map AV.str y⟩)], true⟩)
set_option maxHeartbeats 64000000 in
theorem spec_TableLines_l6_ex {rows : List (List (List UInt8))} {sides : List UInt8} {widths : List Int} {sgm_ : (List (List UInt8)) × Int} {rho_ : (List (List UInt8))} (h : whileE (spec_TableLines_l6 rows sides widths) sgm_ = some rho_) : ∃ L0, ∀ L, L0 ≤ L → iter (exec (look t_25) L ir7_b1) ir7_k1 ir7_o1 ir7_r1 L (E_25_l6 rows sides widths sgm_) = R_25_l6 rows sides widths rho_ := by
 refine loop_ex (E := E_25_l6 rows sides widths) (R := R_25_l6 rows sides widths) (fun y => by first | (intro c; cases c) | (rcases y with y | y <;> (intro c; cases c)) | (rcases y with y | y | y <;> (intro c; cases c))) ?_ h
 clear h
 rintro ⟨out, i⟩ o_ h
 dsimp only [spec_TableLines_l6] at h
 rcases it_some h with ⟨z64, h⟩ | ⟨z64, h⟩
 ·try simp only [go_sem, n1, n2, n3, n4] at z64
  all_goals
  obtain ⟨y_87, z87, h⟩ := bd_some h
  obtain ⟨Lz87, ez87⟩ := spec_TableLines_l7_ex z87
  obtain ⟨z88, h⟩ := ck_some h
  try simp only [go_sem, n1, n2, n3, n4, z64] at z88
  all_goals
  obtain rfl := so_some h
  refine ⟨Lz87, fun L hL => ?_⟩
  have ez87 := ez87 L (by omega)
  try simp only [go_sem, E_25_l6, R_25_l6, ir7_b1, ir7_k1, ir7_o1, ir7_r1, E_25_l1, R_25_l1, ir7_k0, ir7_o0, ir7_r0, E_25_l3, R_25_l3, ir7_k2, ir7_o2, ir7_r2, E_25_l2, R_25_l2, ir7_k1, ir7_o1, ir7_r1, E_25_l5, R_25_l5, ir7_k2, ir7_o2, ir7_r2, E_25_l4, R_25_l4, ir7_k1, ir7_o1, ir7_r1, E_25_l7, R_25_l7, ir7_k2, ir7_o2, ir7_r2, z64, z88] at ez87
  simp only [go_sem, ir7, E_25_l6, R_25_l6, ir7_b1, ir7_k1, ir7_o1, ir7_r1, E_25_l1, R_25_l1, ir7_k0, ir7_o0, ir7_r0, E_25_l3, R_25_l3, ir7_k2, ir7_o2, ir7_r2, E_25_l2, R_25_l2, ir7_k1, ir7_o1, ir7_r1, E_25_l5, R_25_l5, ir7_k2, ir7_o2, ir7_r2, E_25_l4, R_25_l4, ir7_k1, ir7_o1, ir7_r1, E_25_l7, R_25_l7, ir7_k2, ir7_o2, ir7_r2, z64, z88, ez87]
 ·try simp only [go_sem, n1, n2, n3, n4] at z64
  all_goals
  obtain rfl := so_some h
  refine ⟨0, fun L hL => ?_⟩
  simp only [go_sem, ir7, E_25_l6, R_25_l6, ir7_b1, ir7_k1, ir7_o1, ir7_r1, E_25_l1, R_25_l1, ir7_k0, ir7_o0, ir7_r0, E_25_l3, R_25_l3, ir7_k2, ir7_o2, ir7_r2, E_25_l2, R_25_l2, ir7_k1, ir7_o1, ir7_r1, E_25_l5, R_25_l5, ir7_k2, ir7_o2, ir7_r2, E_25_l4, R_25_l4, ir7_k1, ir7_o1, ir7_r1, E_25_l7, R_25_l7, ir7_k2, ir7_o2, ir7_r2, z64]

set_option maxHeartbeats 64000000 in
theorem Fs_25 {rows : List (List (List UInt8))} {sides : List UInt8} {y_ : (List (List UInt8)) × Int} (h : spec_TableLines rows sides = some y_) : c_25.F [.sl 1 (List.map (slE 1 AV.str) rows), .str sides] = ⟨true, .tup [.fresh 1 (List.map AV.str y_.1), .int .i64 y_.2], [.any, .any]⟩ := by
 refine mkF_E (by simp only [flatA, flatB, flat1, List.all_cons, List.all_nil, Bool.and_self, flatE_map (f := AV.str) (fun _ => rfl)]) ?_
 dsimp only [spec_TableLines] at h
 obtain ⟨y_1, z1, h⟩ := bd_some h
 have fz1 := Fs_22 z1
 try simp only [go_sem] at fz1
 obtain ⟨y_5, z5, h⟩ := bd_some h
 obtain ⟨Lz5, ez5⟩ := spec_TableLines_l1_ex z5
 rcases it_some h with ⟨z6, h⟩ | ⟨z6, h⟩
 ·try simp only [go_sem, n1, n2, n3, n4] at z6
  all_goals
  obtain ⟨y_7, z7, h⟩ := bd_some h
  have fz7 := Fs_24 z7
  try simp only [go_sem, z6] at fz7
  rcases it_some h with ⟨z8, h⟩ | ⟨z8, h⟩
  ·try simp only [go_sem, n1, n2, n3, n4, z6] at z8
   all_goals
   rcases it_some h with ⟨z9, h⟩ | ⟨z9, h⟩
   ·try simp only [go_sem, n1, n2, n3, n4, z6, z8] at z9
    all_goals
    obtain rfl := so_some h
    refine ⟨Lz5, fun L hL => ?_⟩
    have ez5 := ez5 L (by omega)
    try simp only [go_sem, E_25_l1, R_25_l1, ir7_k0, ir7_o0, ir7_r0, E_25_l3, R_25_l3, ir7_k2, ir7_o2, ir7_r2, E_25_l2, R_25_l2, ir7_k1, ir7_o1, ir7_r1, E_25_l5, R_25_l5, ir7_k2, ir7_o2, ir7_r2, E_25_l4, R_25_l4, ir7_k1, ir7_o1, ir7_r1, E_25_l7, R_25_l7, ir7_k2, ir7_o2, ir7_r2, E_25_l6, R_25_l6, ir7_k1, ir7_o1, ir7_r1, z6, z8, z9] at ez5
    simp only [go_sem, ir7, E_25_l1, R_25_l1, ir7_k0, ir7_o0, ir7_r0, E_25_l3, R_25_l3, ir7_k2, ir7_o2, ir7_r2, E_25_l2, R_25_l2, ir7_k1, ir7_o1, ir7_r1, E_25_l5, R_25_l5, ir7_k2, ir7_o2, ir7_r2, E_25_l4, R_25_l4, ir7_k1, ir7_o1, ir7_r1, E_25_l7, R_25_l7, ir7_k2, ir7_o2, ir7_r2, E_25_l6, R_25_l6, ir7_k1, ir7_o1, ir7_r1, fz1, z6, fz7, z8, z9, ez5]
   ·try simp only [go_sem, n1, n2, n3, n4, z6, z8] at z9
    all_goals
    obtain ⟨y_35, z35, h⟩ := bd_some h
    obtain ⟨Lz35, ez35⟩ := spec_TableLines_l2_ex z35
    obtain rfl := so_some h
    refine ⟨Lz5 + Lz35, fun L hL => ?_⟩
    have ez5 := ez5 L (by omega)
    have ez35 := ez35 L (by omega)
    try simp only [go_sem, E_25_l1, R_25_l1, ir7_k0, ir7_o0, ir7_r0, E_25_l3, R_25_l3, ir7_k2, ir7_o2, ir7_r2, E_25_l2, R_25_l2, ir7_k1, ir7_o1, ir7_r1, E_25_l5, R_25_l5, ir7_k2, ir7_o2, ir7_r2, E_25_l4, R_25_l4, ir7_k1, ir7_o1, ir7_r1, E_25_l7, R_25_l7, ir7_k2, ir7_o2, ir7_r2, E_25_l6, R_25_l6, ir7_k1, ir7_o1, ir7_r1, z6, z8, z9] at ez5
    try simp only [go_sem, E_25_l1, R_25_l1, ir7_k0, ir7_o0, ir7_r0, E_25_l3, R_25_l3, ir7_k2, ir7_o2, ir7_r2, E_25_l2, R_25_l2, ir7_k1, ir7_o1, ir7_r1, E_25_l5, R_25_l5, ir7_k2, ir7_o2, ir7_r2, E_25_l4, R_25_l4, ir7_k1, ir7_o1, ir7_r1, E_25_l7, R_25_l7, ir7_k2, ir7_o2, ir7_r2, E_25_l6, R_25_l6, ir7_k1, ir7_o1, ir7_r1, z6, z8, z9] at ez35
    simp only [go_sem, ir7, E_25_l1, R_25_l1, ir7_k0, ir7_o0, ir7_r0, E_25_l3, R_25_l3, ir7_k2, ir7_o2, ir7_r2, E_25_l2, R_25_l2, ir7_k1, ir7_o1, ir7_r1, E_25_l5, R_25_l5, ir7_k2, ir7_o2, ir7_r2, E_25_l4, R_25_l4, ir7_k1, ir7_o1, ir7_r1, E_25_l7, R_25_l7, ir7_k2, ir7_o2, ir7_r2, E_25_l6, R_25_l6, ir7_k1, ir7_o1, ir7_r1, fz1, z6, fz7, z8, z9, ez5, ez35]
  ·try simp only [go_sem, n1, n2, n3, n4, z6] at z8
   all_goals
   rcases it_some h with ⟨z36, h⟩ | ⟨z36, h⟩
   ·try simp only [go_sem, n1, n2, n3, n4, z6, z8] at z36
    all_goals
    (simp_all)
   ·try simp only [go_sem, n1, n2, n3, n4, z6, z8] at z36
    all_goals
    obtain ⟨y_62, z62, h⟩ := bd_some h
    obtain ⟨Lz62, ez62⟩ := spec_TableLines_l4_ex z62
    obtain rfl := so_some h
    refine ⟨Lz5 + Lz62, fun L hL => ?_⟩
    have ez5 := ez5 L (by omega)
    have ez62 := ez62 L (by omega)
    try simp only [go_sem, E_25_l1, R_25_l1, ir7_k0, ir7_o0, ir7_r0, E_25_l3, R_25_l3, ir7_k2, ir7_o2, ir7_r2, E_25_l2, R_25_l2, ir7_k1, ir7_o1, ir7_r1, E_25_l5, R_25_l5, ir7_k2, ir7_o2, ir7_r2, E_25_l4, R_25_l4, ir7_k1, ir7_o1, ir7_r1, E_25_l7, R_25_l7, ir7_k2, ir7_o2, ir7_r2, E_25_l6, R_25_l6, ir7_k1, ir7_o1, ir7_r1, z6, z8, z36] at ez5
    try simp only [go_sem, E_25_l1, R_25_l1, ir7_k0, ir7_o0, ir7_r0, E_25_l3, R_25_l3, ir7_k2, ir7_o2, ir7_r2, E_25_l2, R_25_l2, ir7_k1, ir7_o1, ir7_r1, E_25_l5, R_25_l5, ir7_k2, ir7_o2, ir7_r2, E_25_l4, R_25_l4, ir7_k1, ir7_o1, ir7_r1, E_25_l7, R_25_l7, ir7_k2, ir7_o2, ir7_r2, E_25_l6, R_25_l6, ir7_k1, ir7_o1, ir7_r1, z6, z8, z36] at ez62
    simp only [go_sem, ir7, E_25_l1, R_25_l1, ir7_k0, ir7_o0, ir7_r0, E_25_l3, R_25_l3, ir7_k2, ir7_o2, ir7_r2, E_25_l2, R_25_l2, ir7_k1, ir7_o1, ir7_r1, E_25_l5, R_25_l5, ir7_k2, ir7_o2, ir7_r2, E_25_l4, R_25_l4, ir7_k1, ir7_o1, ir7_r1, E_25_l7, R_25_l7, ir7_k2, ir7_o2, ir7_r2, E_25_l6, R_25_l6, ir7_k1, ir7_o1, ir7_r1, fz1, z6, fz7, z8, z36, ez5, ez62]
 ·try simp only [go_sem, n1, n2, n3, n4] at z6
  all_goals
  rcases it_some h with ⟨z63, h⟩ | ⟨z63, h⟩
  ·try simp only [go_sem, n1, n2, n3, n4, z6] at z63
   all_goals
   obtain rfl := so_some h
   refine ⟨Lz5, fun L hL => ?_⟩
   have ez5 := ez5 L (by omega)
   try simp only [go_sem, E_25_l1, R_25_l1, ir7_k0, ir7_o0, ir7_r0, E_25_l3, R_25_l3, ir7_k2, ir7_o2, ir7_r2, E_25_l2, R_25_l2, ir7_k1, ir7_o1, ir7_r1, E_25_l5, R_25_l5, ir7_k2, ir7_o2, ir7_r2, E_25_l4, R_25_l4, ir7_k1, ir7_o1, ir7_r1, E_25_l7, R_25_l7, ir7_k2, ir7_o2, ir7_r2, E_25_l6, R_25_l6, ir7_k1, ir7_o1, ir7_r1, z6, z63] at ez5
   simp only [go_sem, ir7, E_25_l1, R_25_l1, ir7_k0, ir7_o0, ir7_r0, E_25_l3, R_25_l3, ir7_k2, ir7_o2, ir7_r2, E_25_l2, R_25_l2, ir7_k1, ir7_o1, ir7_r1, E_25_l5, R_25_l5, ir7_k2, ir7_o2, ir7_r2, E_25_l4, R_25_l4, ir7_k1, ir7_o1, ir7_r1, E_25_l7, R_25_l7, ir7_k2, ir7_o2, ir7_r2, E_25_l6, R_25_l6, ir7_k1, ir7_o1, ir7_r1, fz1, z6, z63, ez5]
  ·try simp only [go_sem, n1, n2, n3, n4, z6] at z63
   all_goals
   (simp_all)


def ir8_v : List Nat := [0, 2]
def ir8 : AFn := ⟨1, 2, .seq (.region false [ VO 1 2 (.newnil 1)]) (.seq (.region false [ PM 3 0, PO 4 (.call 27 [(.s 0)]), PO 5 (.call 28 [(.s 0)]), VS 1 2 0]) (.ret)), [.t 1]⟩
noncomputable def t_26 : List (Nat × Ctr) := [(27, c_1), (28, c_spec_l24DrawRows)]
theorem lk_26_27 : look t_26 27 = some c_1 := rfl
theorem lk_26_28 : look t_26 28 = some c_spec_l24DrawRows := rfl
noncomputable def c_26 : Ctr := mkN t_26 ir8 [.bor]
theorem s_26 : Sound Tryz.prog 8 c_26 := mkN_sound _ (snd_cons s_1 (snd_cons s_spec_l24DrawRows snd_nil)) (by kernel_rfl : chkFn Tryz.prog 8 ir8 ir8_v = true)
theorem M_26 : c_26.modes = [.bor] := rfl
theorem Fl_26 : c_26.flat = false := rfl
attribute [go_sem] M_26 Fl_26
attribute [go_sem] lk_26_27 lk_26_28
theorem Fs_26 {code : List UInt8} {y_ : (List (List (List UInt8)))} (h : spec_DrawColumnWidths code = some y_) : c_26.F [.sl 1 (List.map byteAV code)] = ⟨true, .fresh 1 (List.map (slE 1 AV.str) y_), [.any]⟩ := by
 refine mkN_E ?_
 dsimp only [spec_DrawColumnWidths] at h
 obtain ⟨y_1, z1, h⟩ := bd_some h
 have fz1 := Fs_1 z1
 try simp only [go_sem] at fz1
 obtain ⟨y_2, z2, h⟩ := bd_some h
 have fz2 := Fs_spec_l24DrawRows z2
 try simp only [go_sem] at fz2
 obtain rfl := so_some h
 refine ⟨0, fun L hL => ?_⟩
 simp only [go_sem, ir8, fz1, fz2]


def ir10_v : List Nat := [0, 2, 3, 4]
def ir10 : AFn := ⟨1, 4, .seq (.region false [ VO 1 2 (.newnil 1), VO 2 3 (.mov (I6 0))]) (.seq (.region false [ PM 5 0, PO 6 (.call 33 [(.s 0)]), VS 3 4 0]) (.seq (.test false [ PM 7 3, PO 8 (.bin false .neq (.s 0) (I6 0))] (.s 0) (.seq (.region false [ PM 9 3, VO 1 2 (.newnil 1), VS 2 3 0]) (.ret)) (.skip)) (.seq (.region false [ PM 10 0, PO 11 (.call 34 [(.s 0)]), VS 1 2 0, VO 2 3 (.mov (I6 0))]) (.ret)))), [.t 1, .t 2]⟩
noncomputable def t_27 : List (Nat × Ctr) := [(33, c_22), (34, c_24)]
theorem lk_27_33 : look t_27 33 = some c_22 := rfl
theorem lk_27_34 : look t_27 34 = some c_24 := rfl
noncomputable def c_27 : Ctr := mkF t_27 ir10 [.bor]
theorem s_27 : Sound Tryz.prog 10 c_27 := mkF_sound _ rfl (snd_cons s_22 (snd_cons s_24 snd_nil)) (by kernel_rfl : chkFn Tryz.prog 10 ir10 ir10_v = true)
theorem M_27 : c_27.modes = [.bor] := rfl
theorem Fl_27 : c_27.flat = true := rfl
attribute [go_sem] M_27 Fl_27
attribute [go_sem] lk_27_33 lk_27_34
theorem Fs_27 {rows : List (List (List UInt8))} {y_ : (List Int) × Int} (h : spec_ColumnWidths rows = some y_) : c_27.F [.sl 1 (List.map (slE 1 AV.str) rows)] = ⟨true, .tup [.fresh 1 (List.map (AV.int .i64) y_.1), .int .i64 y_.2], [.any]⟩ := by
 refine mkF_E (by simp only [flatA, flatB, flat1, List.all_cons, List.all_nil, Bool.and_self, flatE_map (f := (AV.int .i64)) (fun _ => rfl)]) ?_
 dsimp only [spec_ColumnWidths] at h
 obtain ⟨y_1, z1, h⟩ := bd_some h
 have fz1 := Fs_22 z1
 try simp only [go_sem] at fz1
 rcases it_some h with ⟨z2, h⟩ | ⟨z2, h⟩
 ·try simp only [go_sem, n1, n2, n3, n4] at z2
  all_goals
  obtain rfl := so_some h
  refine ⟨0, fun L hL => ?_⟩
  simp only [go_sem, ir10, fz1, z2]
 ·try simp only [go_sem, n1, n2, n3, n4] at z2
  all_goals
  obtain ⟨y_3, z3, h⟩ := bd_some h
  have fz3 := Fs_24 z3
  try simp only [go_sem, z2] at fz3
  obtain rfl := so_some h
  refine ⟨0, fun L hL => ?_⟩
  simp only [go_sem, ir10, fz1, z2, fz3]


def ir38_v : List Nat := [0, 1, 4]
def ir38 : AFn := ⟨2, 3, .seq (.region false [ VO 2 4 (.mov (I6 0))]) (.seq (.region false [ PM 5 1, PM 6 0, PM 7 1, PO 8 (.len false (.s 0)), PO 9 (.call 29 [(.s 2), (.s 0)]), PO 10 (.ixAddr 1 (.s 4) (.s 0)), PO 11 (.load false 1 (.s 0)), VS 2 4 0]) (.ret)), [.t 2]⟩
noncomputable def t_28 : List (Nat × Ctr) := [(29, c_3)]
theorem lk_28_29 : look t_28 29 = some c_3 := rfl
noncomputable def c_28 : Ctr := mkN t_28 ir38 [.io, .bor]
theorem s_28 : Sound Tryz.prog 38 c_28 := mkN_sound _ (snd_cons s_3 snd_nil) (by kernel_rfl : chkFn Tryz.prog 38 ir38 ir38_v = true)
theorem M_28 : c_28.modes = [.io, .bor] := rfl
theorem Fl_28 : c_28.flat = false := rfl
attribute [go_sem] M_28 Fl_28
attribute [go_sem] lk_28_29
theorem Fs_28 {s_ : L00Src} {list : List Int} {y_ : Int × L00Src} (h : spec_l00Src_among s_ list = some y_) : c_28.F [.mem 3 [L00Src_av s_] 0, .sl 1 (List.map (AV.int .i64) list)] = ⟨true, .int .i64 y_.1, [.mem 3 [L00Src_av y_.2] 0, .any]⟩ := by
 refine mkN_E ?_
 dsimp only [spec_l00Src_among] at h
 obtain ⟨y_1, z1, h⟩ := bd_some h
 have fz1 := Fs_3 z1
 try simp only [go_sem] at fz1
 obtain ⟨z2, h⟩ := ck_some h
 have lz2 := ix_lt z2
 have xz2 := getD_mapD (AV.int .i64) list lz2
 try simp only [go_sem] at lz2
 try simp only [go_sem] at xz2
 try simp only [go_sem, n1, n2, n3, n4] at z2
 all_goals
 obtain rfl := so_some h
 refine ⟨0, fun L hL => ?_⟩
 simp only [go_sem, ir38, fz1, z2, lz2, xz2]


def ir11_b0 : IR := .seq (.test false [ PM 11 5, PO 12 (.bin false .gtr (.s 0) (I6 0))] (.s 0) (.skip) (.exit 0)) (.seq (.block 1 (.region false [ PM 15 4, PM 16 3, PO 17 (.call 37 [(.s 0)]), PM 18 3, PO 19 (.call 29 [(.s 0), (I6 2)]), PO 20 (.bin false .add (I6 1) (.s 0)), PO 21 (.call 35 [(.s 0)]), PO 22 (.bin false .add (.s 4) (.s 0)), PO 23 (.bin false .add (.s 7) (.s 0)), VS 4 5 0])) (.region false [ PM 13 5, PO 14 (.bin false .sub (.s 0) (I6 1)), VS 5 6 0]))
def ir11_k0 : List Bool := [false, false, false, true, true, true]
def ir11_o0 : List Bool := [false, false, false, true, true, false]
def ir11_r0 : List Bool := [false, true, true, false, false, false]
def ir11_v : List Nat := [0, 2, 3, 4, 5, 6]
def ir11 : AFn := ⟨1, 6, .seq (.region false [ VO 1 2 (.mov (.c (.str []))), VO 2 3 (.mov (I6 0))]) (.seq (.region false [ PM 7 0, PO 8 (.call 27 [(.s 0)]), VS 3 4 0]) (.seq (.region false [ VO 4 5 (.mov (.c (.str [])))]) (.seq (.seq (.region false [ PM 9 3, PO 10 (.call 29 [(.s 0), (I6 9)]), VS 5 6 0]) (.block 0 (.loop ir11_k0 ir11_o0 ir11_r0 ir11_b0))) (.seq (.test false [ PM 24 3, PO 25 (.call 30 [(.s 0), (I6 20)])] (.s 0) (.region false [ PM 26 3, PO 27 (.call 29 [(.s 0), (I6 2)]), PO 28 (.bin false .add (I6 2000) (.s 0)), PO 29 (.call 35 [(.s 0)]), VS 4 5 0]) (.skip)) (.seq (.test false [
 PM 30 3, PO 31 (.call 30 [(.s 0), (I6 12)])] (.s 0) (.seq (.region false [ PM 32 4, PM 33 3, PO 34 (.mkSl 1 (.int .i64 (0)) 5 [(0, (I6 0)), (1, (I6 1)), (2, (I6 80)), (3, (I6 81)), (4, (.c (.int .i64 (-9223372036854775808))))]), PO 35 (.call 38 [(.s 1), (.s 0)]), VS 1 2 3, VS 2 3 0]) (.ret)) (.skip)) (.seq (.region false [ PM 36 4, PM 37 3, PO 38 (.call 29 [(.s 0), (I6 20)]), PO 39 (.bin false .add (I6 6) (.s 0)), VS 1 2 3, VS 2 3 0]) (.ret))))))), [.t 1, .t 2]⟩
noncomputable def t_29 : List (Nat × Ctr) := [(27, c_1), (29, c_3), (37, c_6), (35, c_7), (30, c_4), (38, c_28)]
theorem lk_29_27 : look t_29 27 = some c_1 := rfl
theorem lk_29_29 : look t_29 29 = some c_3 := rfl
theorem lk_29_37 : look t_29 37 = some c_6 := rfl
theorem lk_29_35 : look t_29 35 = some c_7 := rfl
theorem lk_29_30 : look t_29 30 = some c_4 := rfl
theorem lk_29_38 : look t_29 38 = some c_28 := rfl
noncomputable def c_29 : Ctr := mkF t_29 ir11 [.bor]
theorem s_29 : Sound Tryz.prog 11 c_29 := mkF_sound _ rfl (snd_cons s_1 (snd_cons s_3 (snd_cons s_6 (snd_cons s_7 (snd_cons s_4 (snd_cons s_28 snd_nil)))))) (by kernel_rfl : chkFn Tryz.prog 11 ir11 ir11_v = true)
theorem M_29 : c_29.modes = [.bor] := rfl
theorem Fl_29 : c_29.flat = true := rfl
attribute [go_sem] M_29 Fl_29
attribute [go_sem] lk_29_27 lk_29_29 lk_29_37 lk_29_35 lk_29_30 lk_29_38
def E_29_l1  : (L00Src × (List UInt8) × Int) → St
 | (s_, t, k) => ⟨[.any, .any, .any, .ref 3200000 0 0, .str t, .int .i64 k], [], [(3200000, ⟨3, [L00Src_av s_]⟩)], true⟩
def R_29_l1  (y : L00Src × (List UInt8)) : Res := (.exit 0, ⟨[.any, .any, .any, .ref 3200000 0 0, .str y.2, .any], [], [(3200000, ⟨3, [L00Src_av y.1]⟩)], true⟩)
theorem spec_DrawWrapText_l1_ex  {sgm_ : L00Src × (List UInt8) × Int} {rho_ : L00Src × (List UInt8)} (h : whileE (spec_DrawWrapText_l1) sgm_ = some rho_) : ∃ L0, ∀ L, L0 ≤ L → iter (exec (look t_29) L ir11_b0) ir11_k0 ir11_o0 ir11_r0 L (E_29_l1 sgm_) = R_29_l1 rho_ := by
 refine loop_ex (E := E_29_l1) (R := R_29_l1) (fun y => by first | (intro c; cases c) | (rcases y with y | y <;> (intro c; cases c)) | (rcases y with y | y | y <;> (intro c; cases c))) ?_ h
 clear h
 rintro ⟨s_, t, k⟩ o_ h
 dsimp only [spec_DrawWrapText_l1] at h
 rcases it_some h with ⟨z3, h⟩ | ⟨z3, h⟩
 ·try simp only [go_sem, n1, n2, n3, n4] at z3
  all_goals
  obtain ⟨y_4, z4, h⟩ := bd_some h
  have fz4 := Fs_6 z4
  try simp only [go_sem, z3] at fz4
  obtain ⟨y_5, z5, h⟩ := bd_some h
  have fz5 := Fs_3 z5
  try simp only [go_sem, z3] at fz5
  obtain ⟨y_6, z6, h⟩ := bd_some h
  have fz6 := Fs_7 z6
  try simp only [go_sem, z3] at fz6
  obtain ⟨z7, h⟩ := ck_some h
  try simp only [go_sem, n1, n2, n3, n4, z3] at z7
  all_goals
  obtain ⟨z8, h⟩ := ck_some h
  try simp only [go_sem, n1, n2, n3, n4, z3, z7] at z8
  all_goals
  obtain rfl := so_some h
  refine ⟨0, fun L hL => ?_⟩
  simp only [go_sem, ir11, E_29_l1, R_29_l1, ir11_b0, ir11_k0, ir11_o0, ir11_r0, z3, fz4, fz5, fz6, z7, z8]
 ·try simp only [go_sem, n1, n2, n3, n4] at z3
  all_goals
  obtain rfl := so_some h
  refine ⟨0, fun L hL => ?_⟩
  simp only [go_sem, ir11, E_29_l1, R_29_l1, ir11_b0, ir11_k0, ir11_o0, ir11_r0, z3]

theorem Fs_29 {code : List UInt8} {y_ : (List UInt8) × Int} (h : spec_DrawWrapText code = some y_) : c_29.F [.sl 1 (List.map byteAV code)] = ⟨true, .tup [.str y_.1, .int .i64 y_.2], [.any]⟩ := by
 refine mkF_E rfl ?_
 dsimp only [spec_DrawWrapText] at h
 obtain ⟨y_1, z1, h⟩ := bd_some h
 have fz1 := Fs_1 z1
 try simp only [go_sem] at fz1
 obtain ⟨y_2, z2, h⟩ := bd_some h
 have fz2 := Fs_3 z2
 try simp only [go_sem] at fz2
 obtain ⟨y_9, z9, h⟩ := bd_some h
 obtain ⟨Lz9, ez9⟩ := spec_DrawWrapText_l1_ex z9
 obtain ⟨y_10, z10, h⟩ := bd_some h
 have fz10 := Fs_4 z10
 try simp only [go_sem] at fz10
 rcases it_some h with ⟨z11, h⟩ | ⟨z11, h⟩
 ·try simp only [go_sem, n1, n2, n3, n4] at z11
  all_goals
  obtain ⟨y_12, z12, h⟩ := bd_some h
  have fz12 := Fs_3 z12
  try simp only [go_sem, z11] at fz12
  obtain ⟨y_13, z13, h⟩ := bd_some h
  have fz13 := Fs_7 z13
  try simp only [go_sem, z11] at fz13
  obtain ⟨y_14, z14, h⟩ := bd_some h
  have fz14 := Fs_4 z14
  try simp only [go_sem, z11] at fz14
  rcases it_some h with ⟨z15, h⟩ | ⟨z15, h⟩
  ·try simp only [go_sem, n1, n2, n3, n4, z11] at z15
   all_goals
   obtain ⟨y_16, z16, h⟩ := bd_some h
   have fz16 := Fs_28 z16
   try simp only [go_sem, z11, z15] at fz16
   obtain rfl := so_some h
   refine ⟨Lz9, fun L hL => ?_⟩
   have ez9 := ez9 L (by omega)
   try simp only [go_sem, E_29_l1, R_29_l1, ir11_k0, ir11_o0, ir11_r0, z11, z15] at ez9
   simp only [go_sem, ir11, E_29_l1, R_29_l1, ir11_k0, ir11_o0, ir11_r0, fz1, fz2, fz10, z11, fz12, fz13, fz14, z15, fz16, ez9]
  ·try simp only [go_sem, n1, n2, n3, n4, z11] at z15
   all_goals
   obtain ⟨y_17, z17, h⟩ := bd_some h
   have fz17 := Fs_3 z17
   try simp only [go_sem, z11, z15] at fz17
   obtain rfl := so_some h
   refine ⟨Lz9, fun L hL => ?_⟩
   have ez9 := ez9 L (by omega)
   try simp only [go_sem, E_29_l1, R_29_l1, ir11_k0, ir11_o0, ir11_r0, z11, z15] at ez9
   simp only [go_sem, ir11, E_29_l1, R_29_l1, ir11_k0, ir11_o0, ir11_r0, fz1, fz2, fz10, z11, fz12, fz13, fz14, z15, fz17, ez9]
 ·try simp only [go_sem, n1, n2, n3, n4] at z11
  all_goals
  obtain ⟨y_18, z18, h⟩ := bd_some h
  have fz18 := Fs_4 z18
  try simp only [go_sem, z11] at fz18
  rcases it_some h with ⟨z19, h⟩ | ⟨z19, h⟩
  ·try simp only [go_sem, n1, n2, n3, n4, z11] at z19
   all_goals
   obtain ⟨y_20, z20, h⟩ := bd_some h
   have fz20 := Fs_28 z20
   try simp only [go_sem, z11, z19] at fz20
   obtain rfl := so_some h
   refine ⟨Lz9, fun L hL => ?_⟩
   have ez9 := ez9 L (by omega)
   try simp only [go_sem, E_29_l1, R_29_l1, ir11_k0, ir11_o0, ir11_r0, z11, z19] at ez9
   simp only [go_sem, ir11, E_29_l1, R_29_l1, ir11_k0, ir11_o0, ir11_r0, fz1, fz2, fz10, z11, fz18, z19, fz20, ez9]
  ·try simp only [go_sem, n1, n2, n3, n4, z11] at z19
   all_goals
   obtain ⟨y_21, z21, h⟩ := bd_some h
   have fz21 := Fs_3 z21
   try simp only [go_sem, z11, z19] at fz21
   obtain rfl := so_some h
   refine ⟨Lz9, fun L hL => ?_⟩
   have ez9 := ez9 L (by omega)
   try simp only [go_sem, E_29_l1, R_29_l1, ir11_k0, ir11_o0, ir11_r0, z11, z19] at ez9
   simp only [go_sem, ir11, E_29_l1, R_29_l1, ir11_k0, ir11_o0, ir11_r0, fz1, fz2, fz10, z11, fz18, z19, fz21, ez9]


theorem s_hSplit : Sound Tryz.prog 67 c_hSplit := hSplit_is

def ir41_b0 : IR := .seq (.region false [ VO 7 11 (.bin false .lss (.v 6) (.v 5))]) (.seq (.cond (.v 7) (.skip) (.exit 0)) (.seq (.block 1 (.seq (.region false [ PO 12 (.ixAddr 1 (.v 4) (.v 6)), PO 13 (.load false 1 (.s 0)), VS 3 5 0]) (.test false [ PM 14 3, PO 15 (.bin false .neq (.s 0) (.c (.str [])))] (.s 0) (.region false [ PM 16 2, PM 17 3, PO 18 (.mkSl 1 (.str []) 1 [(0, (.s 0))]), PO 19 (.app 1 16 (.str []) (.s 2) (.s 0)), VS 2 3 0]) (.skip)))) (.region false [ PO 20 (.bin false .add (.v 6) (I6 1)), VS 6 10 0])))
def ir41_k0 : List Bool := [false, false, true, false, true, true, true, false]
def ir41_o0 : List Bool := [false, false, true, false, false, false, false, false]
def ir41_r0 : List Bool := [false, true, false, false, false, false, false, false]
def ir41_v : List Nat := [0, 2, 3, 5, 8, 9, 10, 11]
def ir41 : AFn := ⟨1, 8, .seq (.region false [ VO 1 2 (.newnil 1)]) (.seq (.region false [ PO 6 (.mkSl 1 (.str []) 0 []), VS 2 3 0]) (.seq (.seq (.region false [ PM 7 0, VO 4 8 (.call 67 [(.s 0), (.c (.str [32]))]), VO 5 9 (.len false (.v 4)), VO 6 10 (.mov (I6 0))]) (.block 0 (.loop ir41_k0 ir41_o0 ir41_r0 ir41_b0))) (.seq (.region false [ PM 21 2, VS 1 2 0]) (.ret)))), [.t 1]⟩
noncomputable def t_31 : List (Nat × Ctr) := [(67, c_hSplit)]
theorem lk_31_67 : look t_31 67 = some c_hSplit := rfl
noncomputable def c_31 : Ctr := mkF t_31 ir41 [.bor]
theorem s_31 : Sound Tryz.prog 41 c_31 := mkF_sound _ rfl (snd_cons s_hSplit snd_nil) (by kernel_rfl : chkFn Tryz.prog 41 ir41 ir41_v = true)
theorem M_31 : c_31.modes = [.bor] := rfl
theorem Fl_31 : c_31.flat = true := rfl
attribute [go_sem] M_31 Fl_31
attribute [go_sem] lk_31_67
def E_31_l1 (t8 : List (List UInt8)) (t9 : Int) : ((List (List UInt8)) × Int) → St
 | (words, t10) => ⟨[.any, .any, .own 3200000, .any, .own 3200032, .int .i64 t9, .int .i64 t10, .any], [], [(3200000, ⟨1, List.map AV.str words⟩), (3200032, ⟨1, List.map AV.str t8⟩)], true⟩
def R_31_l1 (t8 : List (List UInt8)) (t9 : Int) (y : (List (List UInt8))) : Res := (.exit 0, ⟨[.any, .any, .own 3200000, .any, .any, .any, .any, .any], [], [(3200000, ⟨1, List.map AV.str y⟩)], true⟩)
theorem impl_SplitWords_l1_ex {t8 : List (List UInt8)} {t9 : Int} {sgm_ : (List (List UInt8)) × Int} {rho_ : (List (List UInt8))} (h : whileE (impl_SplitWords_l1 t8 t9) sgm_ = some rho_) : ∃ L0, ∀ L, L0 ≤ L → iter (exec (look t_31) L ir41_b0) ir41_k0 ir41_o0 ir41_r0 L (E_31_l1 t8 t9 sgm_) = R_31_l1 t8 t9 rho_ := by
 refine loop_ex (E := E_31_l1 t8 t9) (R := R_31_l1 t8 t9) (fun y => by first | (intro c; cases c) | (rcases y with y | y <;> (intro c; cases c)) | (rcases y with y | y | y <;> (intro c; cases c))) ?_ h
 clear h
 rintro ⟨words, t10⟩ o_ h
 dsimp only [impl_SplitWords_l1] at h
 rcases it_some h with ⟨z2, h⟩ | ⟨z2, h⟩
 ·try simp only [go_sem, n1, n2, n3, n4] at z2
  all_goals
  obtain ⟨z3, h⟩ := ck_some h
  have lz3 := ix_lt z3
  have xz3 := getD_mapD AV.str t8 lz3
  try simp only [go_sem] at lz3
  try simp only [go_sem] at xz3
  try simp only [go_sem, n1, n2, n3, n4, z2] at z3
  all_goals
  rcases it_some h with ⟨z4, h⟩ | ⟨z4, h⟩
  ·try simp only [go_sem, n1, n2, n3, n4, z2, z3] at z4
   all_goals
   obtain ⟨z5, h⟩ := ck_some h
   try simp only [go_sem, n1, n2, n3, n4, z2, z3, z4] at z5
   all_goals
   obtain rfl := so_some h
   refine ⟨0, fun L hL => ?_⟩
   simp only [go_sem, ir41, E_31_l1, R_31_l1, ir41_b0, ir41_k0, ir41_o0, ir41_r0, z2, z3, lz3, xz3, z4, z5]
  ·try simp only [go_sem, n1, n2, n3, n4, z2, z3] at z4
   all_goals
   obtain rfl := so_some h
   refine ⟨0, fun L hL => ?_⟩
   simp only [go_sem, ir41, E_31_l1, R_31_l1, ir41_b0, ir41_k0, ir41_o0, ir41_r0, z2, z3, lz3, xz3, z4]
 ·try simp only [go_sem, n1, n2, n3, n4] at z2
  all_goals
  obtain rfl := so_some h
  refine ⟨0, fun L hL => ?_⟩
  simp only [go_sem, ir41, E_31_l1, R_31_l1, ir41_b0, ir41_k0, ir41_o0, ir41_r0, z2]

theorem Fs_31 {s_ : List UInt8} {y_ : (List (List UInt8))} (h : impl_SplitWords s_ = some y_) : c_31.F [.str s_] = ⟨true, .fresh 1 (List.map AV.str y_), [.any]⟩ := by
 refine mkF_E (by simp only [flatA, flatB, flat1, List.all_cons, List.all_nil, Bool.and_self, flatE_map (f := AV.str) (fun _ => rfl)]) ?_
 dsimp only [impl_SplitWords] at h
 obtain ⟨y_1, z1, h⟩ := bd_some h
 have fz1 := Fs_hSplit z1
 try simp only [go_sem] at fz1
 obtain ⟨y_6, z6, h⟩ := bd_some h
 obtain ⟨Lz6, ez6⟩ := impl_SplitWords_l1_ex z6
 obtain rfl := so_some h
 refine ⟨Lz6, fun L hL => ?_⟩
 have ez6 := ez6 L (by omega)
 try simp only [go_sem, E_31_l1, R_31_l1, ir41_k0, ir41_o0, ir41_r0] at ez6
 simp only [go_sem, ir41, E_31_l1, R_31_l1, ir41_k0, ir41_o0, ir41_r0, fz1, ez6]


def ir12_b0 : IR := .seq (.region false [ VO 10 28 (.bin false .lss (.v 9) (.v 8))]) (.seq (.cond (.v 10) (.skip) (.exit 1)) (.seq (.block 2 (.seq (.region false [ PO 29 (.ixAddr 1 (.v 7) (.v 9)), PO 30 (.load false 1 (.s 0)), VS 5 8 0]) (.seq (.region false [ PM 31 4, PO 32 (.len false (.s 0)), PO 33 (.bin false .sub (.s 0) (I6 1)), VS 6 9 0]) (.block 3 (.test false [ PM 39 5, PO 40 (.len true (.s 0)), PM 41 1, PO 42 (.bin false .gtr (.s 1) (.s 0)), PO 38 (.mov (.s 0))] (.s 0) (.seq (.region false [ VO 2 4 (.newnil 1), VO 3 5 (.mov (I6 5))]) (.ret)) (.test false [ PM 44 6, PO 45 (.bin false
 .geq (.s 0) (I6 0)), PO 46 (.mov (.s 0)), ⟨.push, 47, (some ((.s 0), true)), .mov (.v 4)⟩, ⟨.push, 48, (some ((.s 1), true)), .mov (.v 6)⟩, ⟨.push, 49, (some ((.s 2), true)), .ixAddr 1 (.s 1) (.s 0)⟩, ⟨.push, 50, (some ((.s 3), true)), .load false 1 (.s 0)⟩, ⟨.push, 51, (some ((.s 4), true)), .len true (.s 0)⟩, ⟨.push, 52, (some ((.s 5), true)), .bin false .add (.s 0) (I6 1)⟩, ⟨.push, 53, (some ((.s 6), true)), .mov (.v 5)⟩, ⟨.push, 54, (some ((.s 7), true)), .len true (.s 0)⟩, ⟨.push, 55, (some ((.s 8), true)), .bin false .add (.s 2) (.s 0)⟩, ⟨.push, 56, (some ((.s 9), true)), .mov (.v 1)⟩,
 ⟨.push, 57, (some ((.s 10), true)), .bin false .leq (.s 1) (.s 0)⟩, PO 58 (.pick (.s 11) (.s 0) (.c (.bool false))), PO 43 (.mov (.s 0))] (.s 0) (.region false [ PM 59 4, PM 60 6, PO 61 (.ixAddr 1 (.s 1) (.s 0)), PO 62 (.load false 1 (.s 0)), PM 63 5, PO 64 (.bin false .add (.c (.str [32])) (.s 0)), PO 65 (.bin false .add (.s 2) (.s 0)), PO 66 (.ixAddr 1 (.s 6) (.s 5)), ⟨.no, 0, none, .store 1 (.s 0) (.s 1)⟩]) (.region false [ PM 34 4, PM 35 5, PO 36 (.mkSl 1 (.str []) 1 [(0, (.s 0))]), PO 37 (.app 1 16 (.str []) (.s 2) (.s 0)), VS 4 6 0]))))))) (.region false [ PO 67 (.bin false .add (.v 9)
 (I6 1)), VS 9 27 0])))
def ir12_k0 : List Bool := [false, true, false, false, true, false, false, true, true, true, false]
def ir12_o0 : List Bool := [false, false, false, false, true, false, false, false, false, false, false]
def ir12_r0 : List Bool := [false, false, true, true, false, false, false, false, false, false, false]
def ir12_v : List Nat := [0, 1, 4, 5, 6, 8, 9, 25, 26, 27, 28]
def ir12 : AFn := ⟨2, 11, .seq (.region false [ VO 2 4 (.newnil 1), VO 3 5 (.mov (I6 0))]) (.seq (.block 0 (.test false [ PM 11 0, PO 12 (.call 39 [(.s 0)]), PO 13 (.un .not (.s 0)), PO 10 (.mov (.s 0))] (.s 0) (.seq (.region false [ VO 2 4 (.newnil 1), VO 3 5 (.mov (I6 7))]) (.ret)) (.test false [ PM 15 1, PO 16 (.call 40 [(.s 0), (I6 1), (I6 80)]), PO 17 (.un .not (.s 0)), PO 18 (.mov (.s 0)), ⟨.push, 19, (some ((.s 0), false)), .mov (.v 0)⟩, ⟨.push, 20, (some ((.s 1), false)), .len true (.s 0)⟩, ⟨.push, 21, (some ((.s 2), false)), .bin false .gtr (.s 0) (I6 2000)⟩, PO 22 (.pick (.s 3) (.c
 (.bool true)) (.s 0)), PO 14 (.mov (.s 0))] (.s 0) (.seq (.region false [ VO 2 4 (.newnil 1), VO 3 5 (.mov (I6 2))]) (.ret)) (.skip)))) (.seq (.region false [ PO 23 (.mkSl 1 (.str []) 0 []), VS 4 6 0]) (.seq (.seq (.region false [ PM 24 0, VO 7 25 (.call 41 [(.s 0)]), VO 8 26 (.len false (.v 7)), VO 9 27 (.mov (I6 0))]) (.block 1 (.loop ir12_k0 ir12_o0 ir12_r0 ir12_b0))) (.seq (.region false [ PM 68 4, VS 2 4 0, VO 3 5 (.mov (I6 0))]) (.ret))))), [.t 2, .t 3]⟩
noncomputable def t_32 : List (Nat × Ctr) := [(39, c_10), (40, c_14), (41, c_31)]
theorem lk_32_39 : look t_32 39 = some c_10 := rfl
theorem lk_32_40 : look t_32 40 = some c_14 := rfl
theorem lk_32_41 : look t_32 41 = some c_31 := rfl
noncomputable def c_32 : Ctr := mkF t_32 ir12 [.bor, .bor]
theorem s_32 : Sound Tryz.prog 12 c_32 := mkF_sound _ rfl (snd_cons s_10 (snd_cons s_14 (snd_cons s_31 snd_nil))) (by kernel_rfl : chkFn Tryz.prog 12 ir12 ir12_v = true)
theorem M_32 : c_32.modes = [.bor, .bor] := rfl
theorem Fl_32 : c_32.flat = true := rfl
attribute [go_sem] M_32 Fl_32
attribute [go_sem] lk_32_39 lk_32_40 lk_32_41
def E_32_l1 (width : Int) (t25 : List (List UInt8)) (t26 : Int) : ((List (List UInt8)) × Int) → St
 | (lines, t27) => ⟨[.any, .int .i64 width, .any, .any, .own 3200000, .any, .any, .own 3200032, .int .i64 t26, .int .i64 t27, .any], [], [(3200000, ⟨1, List.map AV.str lines⟩), (3200032, ⟨1, List.map AV.str t25⟩)], true⟩
def R_32_l1 (width : Int) (t25 : List (List UInt8)) (t26 : Int) : ((List (List UInt8)) ⊕ ((List (List UInt8)) × Int)) → Res
 | .inl y => (.exit 1, ⟨[.any, .any, .any, .any, .own 3200000, .any, .any, .any, .any, .any, .any], [], [(3200000, ⟨1, List.map AV.str y⟩)], true⟩)
 | .inr y => (.ret, ⟨[.any, .any, .own 3200000, .int .i64 y.2, .any, .any, .any, .any, .any, .any, .any], [], [(3200000, ⟨1, List.map AV.str y.1⟩)], true⟩)
set_option maxHeartbeats 64000000 in
theorem impl_WrapText_l1_ex {width : Int} {t25 : List (List UInt8)} {t26 : Int} {sgm_ : (List (List UInt8)) × Int} {rho_ : (List (List UInt8)) ⊕ ((List (List UInt8)) × Int)} (h : whileE (impl_WrapText_l1 width t25 t26) sgm_ = some rho_) : ∃ L0, ∀ L, L0 ≤ L → iter (exec (look t_32) L ir12_b0) ir12_k0 ir12_o0 ir12_r0 L (E_32_l1 width t25 t26 sgm_) = R_32_l1 width t25 t26 rho_ := by
 refine loop_ex (E := E_32_l1 width t25 t26) (R := R_32_l1 width t25 t26) (fun y => by first | (intro c; cases c) | (rcases y with y | y <;> (intro c; cases c)) | (rcases y with y | y | y <;> (intro c; cases c))) ?_ h
 clear h
 rintro ⟨lines, t27⟩ o_ h
 dsimp only [impl_WrapText_l1] at h
 rcases it_some h with ⟨z6, h⟩ | ⟨z6, h⟩
 ·try simp only [go_sem, n1, n2, n3, n4] at z6
  all_goals
  obtain ⟨z7, h⟩ := ck_some h
  have lz7 := ix_lt z7
  have xz7 := getD_mapD AV.str t25 lz7
  try simp only [go_sem] at lz7
  try simp only [go_sem] at xz7
  try simp only [go_sem, n1, n2, n3, n4, z6] at z7
  all_goals
  rcases it_some h with ⟨z8, h⟩ | ⟨z8, h⟩
  ·try simp only [go_sem, n1, n2, n3, n4, z6, z7] at z8
   all_goals
   obtain rfl := so_some h
   refine ⟨0, fun L hL => ?_⟩
   simp only [go_sem, ir12, E_32_l1, R_32_l1, ir12_b0, ir12_k0, ir12_o0, ir12_r0, z6, z7, lz7, xz7, z8]
  ·try simp only [go_sem, n1, n2, n3, n4, z6, z7] at z8
   all_goals
   obtain ⟨z9, h⟩ := ck_some h
   rcases or_split z9 with ⟨gz9, z9⟩ | gz9
   ·try simp only [go_sem, n1, n2, n3, n4, z6, z7, z8] at gz9
    all_goals
    have lz9 := ix_lt z9
    have xz9 := getD_mapD AV.str lines lz9
    try simp only [go_sem] at lz9
    try simp only [go_sem] at xz9
    try simp only [go_sem, n1, n2, n3, n4, z6, z7, z8, gz9] at z9
    all_goals
    rcases it_some h with ⟨z10, h⟩ | ⟨z10, h⟩
    ·try simp only [go_sem, n1, n2, n3, n4, z6, z7, z8, gz9, z9] at z10
     all_goals
     obtain ⟨z11, h⟩ := ck_some h
     have lz11 := ix_lt z11
     have xz11 := getD_mapD AV.str lines lz11
     try simp only [go_sem] at lz11
     try simp only [go_sem] at xz11
     try simp only [go_sem, n1, n2, n3, n4, z6, z7, z8, gz9, z9, z10] at z11
     all_goals
     obtain ⟨z12, h⟩ := ck_some h
     try simp only [go_sem, n1, n2, n3, n4, z6, z7, z8, gz9, z9, z10, z11] at z12
     all_goals
     obtain ⟨z13, h⟩ := ck_some h
     try simp only [go_sem, n1, n2, n3, n4, z6, z7, z8, gz9, z9, z10, z11, z12] at z13
     all_goals
     obtain rfl := so_some h
     refine ⟨0, fun L hL => ?_⟩
     simp only [go_sem, ir12, E_32_l1, R_32_l1, ir12_b0, ir12_k0, ir12_o0, ir12_r0, z6, z7, lz7, xz7, z8, gz9, z9, lz9, xz9, z10, z11, lz11, xz11, z12, z13]
    ·try simp only [go_sem, n1, n2, n3, n4, z6, z7, z8, gz9, z9] at z10
     all_goals
     obtain ⟨z14, h⟩ := ck_some h
     try simp only [go_sem, n1, n2, n3, n4, z6, z7, z8, gz9, z9, z10] at z14
     all_goals
     obtain rfl := so_some h
     refine ⟨0, fun L hL => ?_⟩
     simp only [go_sem, ir12, E_32_l1, R_32_l1, ir12_b0, ir12_k0, ir12_o0, ir12_r0, z6, z7, lz7, xz7, z8, gz9, z9, lz9, xz9, z10, z14]
   ·try simp only [go_sem, n1, n2, n3, n4, z6, z7, z8] at gz9
    all_goals
    rcases it_some h with ⟨z10, h⟩ | ⟨z10, h⟩
    ·try simp only [go_sem, n1, n2, n3, n4, z6, z7, z8, gz9] at z10
     all_goals
     (simp_all)
    ·try simp only [go_sem, n1, n2, n3, n4, z6, z7, z8, gz9] at z10
     all_goals
     obtain ⟨z14, h⟩ := ck_some h
     try simp only [go_sem, n1, n2, n3, n4, z6, z7, z8, gz9, z10] at z14
     all_goals
     obtain rfl := so_some h
     refine ⟨0, fun L hL => ?_⟩
     simp only [go_sem, ir12, E_32_l1, R_32_l1, ir12_b0, ir12_k0, ir12_o0, ir12_r0, z6, z7, lz7, xz7, z8, gz9, z10, z14]
 ·try simp only [go_sem, n1, n2, n3, n4] at z6
  all_goals
  obtain rfl := so_some h
  refine ⟨0, fun L hL => ?_⟩
  simp only [go_sem, ir12, E_32_l1, R_32_l1, ir12_b0, ir12_k0, ir12_o0, ir12_r0, z6]

set_option maxHeartbeats 64000000 in
theorem Fs_32 {s_ : List UInt8} {width : Int} {y_ : (List (List UInt8)) × Int} (h : impl_WrapText s_ width = some y_) : c_32.F [.str s_, .int .i64 width] = ⟨true, .tup [.fresh 1 (List.map AV.str y_.1), .int .i64 y_.2], [.any, .any]⟩ := by
 refine mkF_E (by simp only [flatA, flatB, flat1, List.all_cons, List.all_nil, Bool.and_self, flatE_map (f := AV.str) (fun _ => rfl)]) ?_
 dsimp only [impl_WrapText] at h
 obtain ⟨y_1, z1, h⟩ := bd_some h
 have fz1 := Fs_10 z1
 try simp only [go_sem] at fz1
 rcases it_some h with ⟨z2, h⟩ | ⟨z2, h⟩
 ·try simp only [go_sem, n1, n2, n3, n4] at z2
  all_goals
  obtain rfl := so_some h
  refine ⟨0, fun L hL => ?_⟩
  simp only [go_sem, ir12, E_32_l1, R_32_l1, ir12_k0, ir12_o0, ir12_r0, fz1, z2]
 ·try simp only [go_sem, n1, n2, n3, n4] at z2
  all_goals
  obtain ⟨y_3, z3, h⟩ := bd_some h
  have fz3 := Fs_14 z3
  try simp only [go_sem, z2] at fz3
  rcases it_some h with ⟨z4, h⟩ | ⟨z4, h⟩
  ·try simp only [go_sem, n1, n2, n3, n4, z2] at z4
   all_goals
   obtain rfl := so_some h
   refine ⟨0, fun L hL => ?_⟩
   simp only [go_sem, ir12, E_32_l1, R_32_l1, ir12_k0, ir12_o0, ir12_r0, fz1, z2, fz3, z4]
  ·try simp only [go_sem, n1, n2, n3, n4, z2] at z4
   all_goals
   obtain ⟨y_5, z5, h⟩ := bd_some h
   have fz5 := Fs_31 z5
   try simp only [go_sem, z2, z4] at fz5
   obtain ⟨y_15, z15, h⟩ := bd_some h
   obtain ⟨Lz15, ez15⟩ := impl_WrapText_l1_ex z15
   rcases y_15 with y_15a | y_15b
   ·dsimp only at h
    obtain rfl := so_some h
    refine ⟨Lz15, fun L hL => ?_⟩
    have ez15 := ez15 L (by omega)
    try simp only [go_sem, E_32_l1, R_32_l1, ir12_k0, ir12_o0, ir12_r0, z2, z4] at ez15
    simp only [go_sem, ir12, E_32_l1, R_32_l1, ir12_k0, ir12_o0, ir12_r0, fz1, z2, fz3, z4, fz5, ez15]
   ·dsimp only at h
    obtain rfl := so_some h
    refine ⟨Lz15, fun L hL => ?_⟩
    have ez15 := ez15 L (by omega)
    try simp only [go_sem, E_32_l1, R_32_l1, ir12_k0, ir12_o0, ir12_r0, z2, z4] at ez15
    simp only [go_sem, ir12, E_32_l1, R_32_l1, ir12_k0, ir12_o0, ir12_r0, fz1, z2, fz3, z4, fz5, ez15]


def ir43_v : List Nat := [0, 1, 2, 6]
def ir43 : AFn := ⟨3, 4, .seq (.region false [ VO 3 6 (.mov (.c (.bool false)))]) (.seq (.region false [ PM 7 0, PM 8 1, PO 9 (.bin false .geq (.s 1) (.s 0)), PO 10 (.mov (.s 0)), ⟨.push, 11, (some ((.s 0), true)), .mov (.v 0)⟩, ⟨.push, 12, (some ((.s 1), true)), .mov (.v 2)⟩, ⟨.push, 13, (some ((.s 2), true)), .bin false .leq (.s 1) (.s 0)⟩, PO 14 (.pick (.s 3) (.s 0) (.c (.bool false))), VS 3 6 0]) (.ret)), [.t 3]⟩
noncomputable def t_33 : List (Nat × Ctr) := []
noncomputable def c_33 : Ctr := mkF t_33 ir43 [.bor, .bor, .bor]
theorem s_33 : Sound Tryz.prog 43 c_33 := mkF_sound _ rfl snd_nil (by kernel_rfl : chkFn Tryz.prog 43 ir43 ir43_v = true)
theorem M_33 : c_33.modes = [.bor, .bor, .bor] := rfl
theorem Fl_33 : c_33.flat = true := rfl
attribute [go_sem] M_33 Fl_33
theorem Fs_33 {n : Int} {low : Int} {high : Int} {y_ : Bool} (h : spec_l00In n low high = some y_) : c_33.F [.int .i64 n, .int .i64 low, .int .i64 high] = ⟨true, .bool y_, [.any, .any, .any]⟩ := by
 refine mkF_E rfl ?_
 dsimp only [spec_l00In] at h
 obtain rfl := so_some h
 refine ⟨0, fun L hL => ?_⟩
 simp only [go_sem, ir43]


def ir53_b0 : IR := .seq (.test false [ PM 9 5, PM 10 0, PO 11 (.len true (.s 0)), PO 12 (.bin false .lss (.s 2) (.s 0))] (.s 0) (.skip) (.exit 0)) (.seq (.block 1 (.test false [ PM 15 0, PM 16 5, PO 17 (.ixStr (.s 1) (.s 0)), PM 18 1, PO 19 (.bin false .eql (.s 1) (.s 0))] (.s 0) (.seq (.region false [ PM 20 3, PM 21 0, PM 22 4, PM 23 5, PO 24 (.slice 0 (.s 2) (some (.s 1)) (some (.s 0))), PO 25 (.mkSl 1 (.str []) 1 [(0, (.s 0))]), PO 26 (.app 1 16 (.str []) (.s 5) (.s 0)), VS 3 5 0]) (.region false [ PM 27 5, PO 28 (.bin false .add (.s 0) (I6 1)), VS 4 6 0])) (.skip))) (.region false [ PM 13
 5, PO 14 (.bin false .add (.s 0) (I6 1)), VS 5 7 0]))
def ir53_k0 : List Bool := [true, true, false, true, true, true]
def ir53_o0 : List Bool := [true, false, false, true, true, false]
def ir53_r0 : List Bool := [false, false, true, false, false, false]
def ir53_v : List Nat := [0, 1, 4, 5, 6, 7]
def ir53 : AFn := ⟨2, 6, .seq (.region false [ VO 2 4 (.newnil 1)]) (.seq (.region false [ PO 8 (.mkSl 1 (.str []) 0 []), VS 3 5 0]) (.seq (.region false [ VO 4 6 (.mov (I6 0))]) (.seq (.seq (.region false [ VO 5 7 (.mov (I6 0))]) (.block 0 (.loop ir53_k0 ir53_o0 ir53_r0 ir53_b0))) (.seq (.region false [ PM 29 3, PM 30 0, PM 31 4, PO 32 (.slice 0 (.s 1) (some (.s 0)) none), PO 33 (.mkSl 1 (.str []) 1 [(0, (.s 0))]), PO 34 (.app 1 16 (.str []) (.s 4) (.s 0)), VS 2 4 0]) (.ret))))), [.t 2]⟩
noncomputable def t_34 : List (Nat × Ctr) := []
noncomputable def c_34 : Ctr := mkF t_34 ir53 [.bor, .bor]
theorem s_34 : Sound Tryz.prog 53 c_34 := mkF_sound _ rfl snd_nil (by kernel_rfl : chkFn Tryz.prog 53 ir53 ir53_v = true)
theorem M_34 : c_34.modes = [.bor, .bor] := rfl
theorem Fl_34 : c_34.flat = true := rfl
attribute [go_sem] M_34 Fl_34
def E_34_l1 (s_ : List UInt8) (by_ : UInt8) : ((List (List UInt8)) × Int × Int) → St
 | (out, from_, i) => ⟨[.str s_, .int .u8 (by_.toNat : Int), .any, .own 3200000, .int .i64 from_, .int .i64 i], [], [(3200000, ⟨1, List.map AV.str out⟩)], true⟩
def R_34_l1 (s_ : List UInt8) (by_ : UInt8) (y : (List (List UInt8)) × Int) : Res := (.exit 0, ⟨[.str s_, .any, .any, .own 3200000, .int .i64 y.2, .any], [], [(3200000, ⟨1, List.map AV.str y.1⟩)], true⟩)
theorem spec_l01Split_l1_ex {s_ : List UInt8} {by_ : UInt8} {sgm_ : (List (List UInt8)) × Int × Int} {rho_ : (List (List UInt8)) × Int} (h : whileE (spec_l01Split_l1 s_ by_) sgm_ = some rho_) : ∃ L0, ∀ L, L0 ≤ L → iter (exec (look t_34) L ir53_b0) ir53_k0 ir53_o0 ir53_r0 L (E_34_l1 s_ by_ sgm_) = R_34_l1 s_ by_ rho_ := by
 refine loop_ex (E := E_34_l1 s_ by_) (R := R_34_l1 s_ by_) (fun y => by first | (intro c; cases c) | (rcases y with y | y <;> (intro c; cases c)) | (rcases y with y | y | y <;> (intro c; cases c))) ?_ h
 clear h
 rintro ⟨out, from_, i⟩ o_ h
 dsimp only [spec_l01Split_l1] at h
 rcases it_some h with ⟨z1, h⟩ | ⟨z1, h⟩
 ·try simp only [go_sem, n1, n2, n3, n4] at z1
  all_goals
  obtain ⟨z2, h⟩ := ck_some h
  try simp only [go_sem, n1, n2, n3, n4, z1] at z2
  all_goals
  rcases it_some h with ⟨z3, h⟩ | ⟨z3, h⟩
  ·try simp only [go_sem, n1, n2, n3, n4, z1, z2] at z3
   all_goals
   obtain ⟨z4, h⟩ := ck_some h
   try simp only [go_sem, n1, n2, n3, n4, z1, z2, z3] at z4
   all_goals
   obtain ⟨z5, h⟩ := ck_some h
   try simp only [go_sem, n1, n2, n3, n4, z1, z2, z3, z4] at z5
   all_goals
   obtain rfl := so_some h
   refine ⟨0, fun L hL => ?_⟩
   simp only [go_sem, ir53, E_34_l1, R_34_l1, ir53_b0, ir53_k0, ir53_o0, ir53_r0, z1, z2, z3, z4, z5]
  ·try simp only [go_sem, n1, n2, n3, n4, z1, z2] at z3
   all_goals
   obtain rfl := so_some h
   refine ⟨0, fun L hL => ?_⟩
   simp only [go_sem, ir53, E_34_l1, R_34_l1, ir53_b0, ir53_k0, ir53_o0, ir53_r0, z1, z2, z3]
 ·try simp only [go_sem, n1, n2, n3, n4] at z1
  all_goals
  obtain rfl := so_some h
  refine ⟨0, fun L hL => ?_⟩
  simp only [go_sem, ir53, E_34_l1, R_34_l1, ir53_b0, ir53_k0, ir53_o0, ir53_r0, z1]

theorem Fs_34 {s_ : List UInt8} {by_ : UInt8} {y_ : (List (List UInt8))} (h : spec_l01Split s_ by_ = some y_) : c_34.F [.str s_, .int .u8 (by_.toNat : Int)] = ⟨true, .fresh 1 (List.map AV.str y_), [.any, .any]⟩ := by
 refine mkF_E (by simp only [flatA, flatB, flat1, List.all_cons, List.all_nil, Bool.and_self, flatE_map (f := AV.str) (fun _ => rfl)]) ?_
 dsimp only [spec_l01Split] at h
 obtain ⟨y_6, z6, h⟩ := bd_some h
 obtain ⟨Lz6, ez6⟩ := spec_l01Split_l1_ex z6
 obtain ⟨z7, h⟩ := ck_some h
 try simp only [go_sem, n1, n2, n3, n4] at z7
 all_goals
 obtain ⟨z8, h⟩ := ck_some h
 try simp only [go_sem, n1, n2, n3, n4, z7] at z8
 all_goals
 obtain rfl := so_some h
 refine ⟨Lz6, fun L hL => ?_⟩
 have ez6 := ez6 L (by omega)
 try simp only [go_sem, E_34_l1, R_34_l1, ir53_k0, ir53_o0, ir53_r0, z7, z8] at ez6
 simp only [go_sem, ir53, E_34_l1, R_34_l1, ir53_k0, ir53_o0, ir53_r0, z7, z8, ez6]


def ir26_b0 : IR := .seq (.test false [ PM 9 4, PM 10 2, PO 11 (.len false (.s 0)), PO 12 (.bin false .lss (.s 2) (.s 0))] (.s 0) (.skip) (.exit 0)) (.seq (.block 1 (.test false [ PM 15 2, PM 16 4, PO 17 (.ixAddr 1 (.s 1) (.s 0)), PO 18 (.load false 1 (.s 0)), PO 19 (.bin false .neq (.s 0) (.c (.str [])))] (.s 0) (.region false [ PM 20 3, PM 21 2, PM 22 4, PO 23 (.ixAddr 1 (.s 1) (.s 0)), PO 24 (.load false 1 (.s 0)), PO 25 (.mkSl 1 (.str []) 1 [(0, (.s 0))]), PO 26 (.app 1 16 (.str []) (.s 5) (.s 0)), VS 3 4 0]) (.skip))) (.region false [ PM 13 4, PO 14 (.bin false .add (.s 0) (I6 1)), VS 4 5
 0]))
def ir26_k0 : List Bool := [false, false, true, true, true]
def ir26_o0 : List Bool := [false, false, false, true, false]
def ir26_r0 : List Bool := [false, true, false, false, false]
def ir26_v : List Nat := [0, 2, 3, 4, 5]
def ir26 : AFn := ⟨1, 5, .seq (.region false [ VO 1 2 (.newnil 1)]) (.seq (.region false [ PM 6 0, PO 7 (.call 53 [(.s 0), (.c (.int .u8 (32)))]), VS 2 3 0]) (.seq (.region false [ PO 8 (.mkSl 1 (.str []) 0 []), VS 3 4 0]) (.seq (.seq (.region false [ VO 4 5 (.mov (I6 0))]) (.block 0 (.loop ir26_k0 ir26_o0 ir26_r0 ir26_b0))) (.seq (.region false [ PM 27 3, VS 1 2 0]) (.ret))))), [.t 1]⟩
noncomputable def t_35 : List (Nat × Ctr) := [(53, c_34)]
theorem lk_35_53 : look t_35 53 = some c_34 := rfl
noncomputable def c_35 : Ctr := mkF t_35 ir26 [.bor]
theorem s_35 : Sound Tryz.prog 26 c_35 := mkF_sound _ rfl (snd_cons s_34 snd_nil) (by kernel_rfl : chkFn Tryz.prog 26 ir26 ir26_v = true)
theorem M_35 : c_35.modes = [.bor] := rfl
theorem Fl_35 : c_35.flat = true := rfl
attribute [go_sem] M_35 Fl_35
attribute [go_sem] lk_35_53
def E_35_l1 (list : List (List UInt8)) : ((List (List UInt8)) × Int) → St
 | (out, i) => ⟨[.any, .any, .own 3200000, .own 3200032, .int .i64 i], [], [(3200000, ⟨1, List.map AV.str list⟩), (3200032, ⟨1, List.map AV.str out⟩)], true⟩
def R_35_l1 (list : List (List UInt8)) (y : (List (List UInt8))) : Res := (.exit 0, ⟨[.any, .any, .any, .own 3200000, .any], [], [(3200000, ⟨1, List.map AV.str y⟩)], true⟩)
theorem spec_SplitWords_l1_ex {list : List (List UInt8)} {sgm_ : (List (List UInt8)) × Int} {rho_ : (List (List UInt8))} (h : whileE (spec_SplitWords_l1 list) sgm_ = some rho_) : ∃ L0, ∀ L, L0 ≤ L → iter (exec (look t_35) L ir26_b0) ir26_k0 ir26_o0 ir26_r0 L (E_35_l1 list sgm_) = R_35_l1 list rho_ := by
 refine loop_ex (E := E_35_l1 list) (R := R_35_l1 list) (fun y => by first | (intro c; cases c) | (rcases y with y | y <;> (intro c; cases c)) | (rcases y with y | y | y <;> (intro c; cases c))) ?_ h
 clear h
 rintro ⟨out, i⟩ o_ h
 dsimp only [spec_SplitWords_l1] at h
 rcases it_some h with ⟨z2, h⟩ | ⟨z2, h⟩
 ·try simp only [go_sem, n1, n2, n3, n4] at z2
  all_goals
  obtain ⟨z3, h⟩ := ck_some h
  have lz3 := ix_lt z3
  have xz3 := getD_mapD AV.str list lz3
  try simp only [go_sem] at lz3
  try simp only [go_sem] at xz3
  try simp only [go_sem, n1, n2, n3, n4, z2] at z3
  all_goals
  rcases it_some h with ⟨z4, h⟩ | ⟨z4, h⟩
  ·try simp only [go_sem, n1, n2, n3, n4, z2, z3] at z4
   all_goals
   obtain ⟨z5, h⟩ := ck_some h
   try simp only [go_sem, n1, n2, n3, n4, z2, z3, z4] at z5
   all_goals
   obtain rfl := so_some h
   refine ⟨0, fun L hL => ?_⟩
   simp only [go_sem, ir26, E_35_l1, R_35_l1, ir26_b0, ir26_k0, ir26_o0, ir26_r0, z2, z3, lz3, xz3, z4, z5]
  ·try simp only [go_sem, n1, n2, n3, n4, z2, z3] at z4
   all_goals
   obtain rfl := so_some h
   refine ⟨0, fun L hL => ?_⟩
   simp only [go_sem, ir26, E_35_l1, R_35_l1, ir26_b0, ir26_k0, ir26_o0, ir26_r0, z2, z3, lz3, xz3, z4]
 ·try simp only [go_sem, n1, n2, n3, n4] at z2
  all_goals
  obtain rfl := so_some h
  refine ⟨0, fun L hL => ?_⟩
  simp only [go_sem, ir26, E_35_l1, R_35_l1, ir26_b0, ir26_k0, ir26_o0, ir26_r0, z2]

theorem Fs_35 {s_ : List UInt8} {y_ : (List (List UInt8))} (h : spec_SplitWords s_ = some y_) : c_35.F [.str s_] = ⟨true, .fresh 1 (List.map AV.str y_), [.any]⟩ := by
 refine mkF_E (by simp only [flatA, flatB, flat1, List.all_cons, List.all_nil, Bool.and_self, flatE_map (f := AV.str) (fun _ => rfl)]) ?_
 dsimp only [spec_SplitWords] at h
 obtain ⟨y_1, z1, h⟩ := bd_some h
 have fz1 := Fs_34 z1
 try simp only [go_sem] at fz1
 obtain ⟨y_6, z6, h⟩ := bd_some h
 obtain ⟨Lz6, ez6⟩ := spec_SplitWords_l1_ex z6
 obtain rfl := so_some h
 refine ⟨Lz6, fun L hL => ?_⟩
 have ez6 := ez6 L (by omega)
 try simp only [go_sem, E_35_l1, R_35_l1, ir26_k0, ir26_o0, ir26_r0] at ez6
 simp only [go_sem, ir26, E_35_l1, R_35_l1, ir26_k0, ir26_o0, ir26_r0, fz1, ez6]


def ir13_b0 : IR := .seq (.test false [ PM 24 6, PM 25 4, PO 26 (.len false (.s 0)), PO 27 (.bin false .lss (.s 2) (.s 0))] (.s 0) (.skip) (.exit 0)) (.seq (.block 1 (.seq (.test false [ PM 30 4, PM 31 6, PO 32 (.ixAddr 1 (.s 1) (.s 0)), PO 33 (.load false 1 (.s 0)), PO 34 (.len true (.s 0)), PM 35 1, PO 36 (.bin false .gtr (.s 1) (.s 0))] (.s 0) (.seq (.region false [ VO 2 4 (.newnil 1), VO 3 5 (.mov (I6 5))]) (.ret)) (.skip)) (.seq (.region false [ PM 37 5, PO 38 (.len false (.s 0)), VS 7 9 0]) (.anyo 19 [ SO 0 39 (.mov (.v 7)), SO 1 40 (.bin false .gtr (.s 0) (I6 0)), SO 2 41 (.mov (.s 1)),
 ⟨.slot 3, 42, (some ((.s 2), true)), .mov (.v 5)⟩, ⟨.slot 4, 43, (some ((.s 2), true)), .mov (.v 7)⟩, ⟨.slot 5, 44, (some ((.s 2), true)), .bin false .sub (.s 4) (I6 1)⟩, ⟨.slot 6, 45, (some ((.s 2), true)), .ixAddr 1 (.s 3) (.s 5)⟩, ⟨.slot 7, 46, (some ((.s 2), true)), .load false 1 (.s 6)⟩, ⟨.slot 8, 47, (some ((.s 2), true)), .len true (.s 7)⟩, ⟨.slot 9, 48, (some ((.s 2), true)), .bin false .add (.s 8) (I6 1)⟩, ⟨.slot 10, 49, (some ((.s 2), true)), .mov (.v 4)⟩, ⟨.slot 11, 50, (some ((.s 2), true)), .mov (.v 6)⟩, ⟨.slot 12, 51, (some ((.s 2), true)), .ixAddr 1 (.s 10) (.s 11)⟩, ⟨.slot 13,
 52, (some ((.s 2), true)), .load false 1 (.s 12)⟩, ⟨.slot 14, 53, (some ((.s 2), true)), .len true (.s 13)⟩, ⟨.slot 15, 54, (some ((.s 2), true)), .bin false .add (.s 9) (.s 14)⟩, ⟨.slot 16, 55, (some ((.s 2), true)), .mov (.v 1)⟩, ⟨.slot 17, 56, (some ((.s 2), true)), .bin false .leq (.s 15) (.s 16)⟩, SO 18 57 (.pick (.s 2) (.s 17) (.c (.bool false)))] [] (.cond (.s 18) (.anyo 12 [ SO 0 58 (.mov (.v 5)), SO 1 59 (.mov (.v 7)), SO 2 60 (.bin false .sub (.s 1) (I6 1)), SO 3 61 (.ixAddr 1 (.s 0) (.s 2)), SO 4 62 (.load false 1 (.s 3)), SO 5 63 (.mov (.v 4)), SO 6 64 (.mov (.v 6)), SO 7 65
 (.ixAddr 1 (.s 5) (.s 6)), SO 8 66 (.load false 1 (.s 7)), SO 9 67 (.bin false .add (.c (.str [32])) (.s 8)), SO 10 68 (.bin false .add (.s 4) (.s 9)), SO 11 69 (.ixAddr 1 (.s 0) (.s 2)), ⟨.no, 0, none, .store 1 (.s 11) (.s 10)⟩] [] .skip) (.region false [ PM 70 5, PM 71 4, PM 72 6, PO 73 (.ixAddr 1 (.s 1) (.s 0)), PO 74 (.load false 1 (.s 0)), PO 75 (.mkSl 1 (.str []) 1 [(0, (.s 0))]), PO 76 (.app 1 16 (.str []) (.s 5) (.s 0)), VS 5 7 0])))))) (.region false [ PM 28 6, PO 29 (.bin false .add (.s 0) (I6 1)), VS 6 8 0]))
def ir13_k0 : List Bool := [false, true, false, false, true, true, true, false]
def ir13_o0 : List Bool := [false, false, false, false, false, true, false, false]
def ir13_r0 : List Bool := [false, false, true, true, false, false, false, false]
def ir13_v : List Nat := [0, 1, 4, 5, 6, 7, 8, 9]
def ir13 : AFn := ⟨2, 8, .seq (.region false [ VO 2 4 (.newnil 1), VO 3 5 (.mov (I6 0))]) (.seq (.test false [ PM 10 0, PO 11 (.call 42 [(.s 0)]), PO 12 (.un .not (.s 0))] (.s 0) (.seq (.region false [ VO 2 4 (.newnil 1), VO 3 5 (.mov (I6 7))]) (.ret)) (.skip)) (.seq (.test false [ PM 13 1, PO 14 (.call 43 [(.s 0), (I6 1), (I6 80)]), PO 15 (.un .not (.s 0)), PO 16 (.mov (.s 0)), ⟨.push, 17, (some ((.s 0), false)), .mov (.v 0)⟩, ⟨.push, 18, (some ((.s 1), false)), .len true (.s 0)⟩, ⟨.push, 19, (some ((.s 2), false)), .bin false .gtr (.s 0) (I6 2000)⟩, PO 20 (.pick (.s 3) (.c (.bool true)) (.s
 0))] (.s 0) (.seq (.region false [ VO 2 4 (.newnil 1), VO 3 5 (.mov (I6 2))]) (.ret)) (.skip)) (.seq (.region false [ PM 21 0, PO 22 (.call 26 [(.s 0)]), VS 4 6 0]) (.seq (.region false [ PO 23 (.mkSl 1 (.str []) 0 []), VS 5 7 0]) (.seq (.seq (.region false [ VO 6 8 (.mov (I6 0))]) (.block 0 (.loop ir13_k0 ir13_o0 ir13_r0 ir13_b0))) (.seq (.region false [ PM 77 5, VS 2 4 0, VO 3 5 (.mov (I6 0))]) (.ret))))))), [.t 2, .t 3]⟩
noncomputable def t_36 : List (Nat × Ctr) := [(42, c_21), (43, c_33), (26, c_35)]
theorem lk_36_42 : look t_36 42 = some c_21 := rfl
theorem lk_36_43 : look t_36 43 = some c_33 := rfl
theorem lk_36_26 : look t_36 26 = some c_35 := rfl
noncomputable def c_36 : Ctr := mkF t_36 ir13 [.bor, .bor]
theorem s_36 : Sound Tryz.prog 13 c_36 := mkF_sound _ rfl (snd_cons s_21 (snd_cons s_33 (snd_cons s_35 snd_nil))) (by kernel_rfl : chkFn Tryz.prog 13 ir13 ir13_v = true)
theorem M_36 : c_36.modes = [.bor, .bor] := rfl
theorem Fl_36 : c_36.flat = true := rfl
attribute [go_sem] M_36 Fl_36
attribute [go_sem] lk_36_42 lk_36_43 lk_36_26
def E_36_l1 (width : Int) (words : List (List UInt8)) : ((List (List UInt8)) × Int) → St
 | (out, i) => ⟨[.any, .int .i64 width, .any, .any, .own 3200000, .own 3200032, .int .i64 i, .any], [], [(3200000, ⟨1, List.map AV.str words⟩), (3200032, ⟨1, List.map AV.str out⟩)], true⟩
def R_36_l1 (width : Int) (words : List (List UInt8)) : ((List (List UInt8)) ⊕ ((List (List UInt8)) × Int)) → Res
 | .inl y => (.exit 0, ⟨[.any, .any, .any, .any, .any, .own 3200000, .any, .any], [], [(3200000, ⟨1, List.map AV.str y⟩)], true⟩)
 | .inr y => (.ret, ⟨[.any, .any, .own 3200000, .int .i64 y.2, .any, .any, .any, .any], [], [(3200000, ⟨1, List.map AV.str y.1⟩)], true⟩)
set_option maxHeartbeats 64000000 in
theorem spec_WrapText_l1_ex {width : Int} {words : List (List UInt8)} {sgm_ : (List (List UInt8)) × Int} {rho_ : (List (List UInt8)) ⊕ ((List (List UInt8)) × Int)} (h : whileE (spec_WrapText_l1 width words) sgm_ = some rho_) : ∃ L0, ∀ L, L0 ≤ L → iter (exec (look t_36) L ir13_b0) ir13_k0 ir13_o0 ir13_r0 L (E_36_l1 width words sgm_) = R_36_l1 width words rho_ := by
 refine loop_ex (E := E_36_l1 width words) (R := R_36_l1 width words) (fun y => by first | (intro c; cases c) | (rcases y with y | y <;> (intro c; cases c)) | (rcases y with y | y | y <;> (intro c; cases c))) ?_ h
 clear h
 rintro ⟨out, i⟩ o_ h
 dsimp only [spec_WrapText_l1] at h
 rcases it_some h with ⟨z6, h⟩ | ⟨z6, h⟩
 ·try simp only [go_sem, n1, n2, n3, n4] at z6
  all_goals
  obtain ⟨z7, h⟩ := ck_some h
  have lz7 := ix_lt z7
  have xz7 := getD_mapD AV.str words lz7
  try simp only [go_sem] at lz7
  try simp only [go_sem] at xz7
  try simp only [go_sem, n1, n2, n3, n4, z6] at z7
  all_goals
  rcases it_some h with ⟨z8, h⟩ | ⟨z8, h⟩
  ·try simp only [go_sem, n1, n2, n3, n4, z6, z7] at z8
   all_goals
   obtain rfl := so_some h
   refine ⟨0, fun L hL => ?_⟩
   simp only [go_sem, ir13, E_36_l1, R_36_l1, ir13_b0, ir13_k0, ir13_o0, ir13_r0, z6, z7, lz7, xz7, z8]
  ·try simp only [go_sem, n1, n2, n3, n4, z6, z7] at z8
   all_goals
   obtain ⟨z9, h⟩ := ck_some h
   rcases or_split z9 with ⟨gz9, z9⟩ | gz9
   ·try simp only [go_sem, n1, n2, n3, n4, z6, z7, z8] at gz9
    all_goals
    have lz9 := ix_lt z9
    have xz9 := getD_mapD AV.str out lz9
    try simp only [go_sem] at lz9
    try simp only [go_sem] at xz9
    try simp only [go_sem, n1, n2, n3, n4, z6, z7, z8, gz9] at z9
    all_goals
    rcases it_some h with ⟨z10, h⟩ | ⟨z10, h⟩
    ·try simp only [go_sem, n1, n2, n3, n4, z6, z7, z8, gz9, z9] at z10
     all_goals
     obtain ⟨z11, h⟩ := ck_some h
     have lz11 := ix_lt z11
     have xz11 := getD_mapD AV.str out lz11
     try simp only [go_sem] at lz11
     try simp only [go_sem] at xz11
     try simp only [go_sem, n1, n2, n3, n4, z6, z7, z8, gz9, z9, z10] at z11
     all_goals
     obtain ⟨z12, h⟩ := ck_some h
     try simp only [go_sem, n1, n2, n3, n4, z6, z7, z8, gz9, z9, z10, z11] at z12
     all_goals
     obtain ⟨z13, h⟩ := ck_some h
     try simp only [go_sem, n1, n2, n3, n4, z6, z7, z8, gz9, z9, z10, z11, z12] at z13
     all_goals
     obtain rfl := so_some h
     refine ⟨0, fun L hL => ?_⟩
     simp only [go_sem, ir13, E_36_l1, R_36_l1, ir13_b0, ir13_k0, ir13_o0, ir13_r0, z6, z7, lz7, xz7, z8, gz9, z9, lz9, xz9, z10, z11, lz11, xz11, z12, z13]
    ·try simp only [go_sem, n1, n2, n3, n4, z6, z7, z8, gz9, z9] at z10
     all_goals
     obtain ⟨z14, h⟩ := ck_some h
     try simp only [go_sem, n1, n2, n3, n4, z6, z7, z8, gz9, z9, z10] at z14
     all_goals
     obtain rfl := so_some h
     refine ⟨0, fun L hL => ?_⟩
     simp only [go_sem, ir13, E_36_l1, R_36_l1, ir13_b0, ir13_k0, ir13_o0, ir13_r0, z6, z7, lz7, xz7, z8, gz9, z9, lz9, xz9, z10, z14]
   ·try simp only [go_sem, n1, n2, n3, n4, z6, z7, z8] at gz9
    all_goals
    rcases it_some h with ⟨z10, h⟩ | ⟨z10, h⟩
    ·try simp only [go_sem, n1, n2, n3, n4, z6, z7, z8, gz9] at z10
     all_goals
     (simp_all)
    ·try simp only [go_sem, n1, n2, n3, n4, z6, z7, z8, gz9] at z10
     all_goals
     obtain ⟨z14, h⟩ := ck_some h
     try simp only [go_sem, n1, n2, n3, n4, z6, z7, z8, gz9, z10] at z14
     all_goals
     obtain rfl := so_some h
     refine ⟨0, fun L hL => ?_⟩
     simp only [go_sem, ir13, E_36_l1, R_36_l1, ir13_b0, ir13_k0, ir13_o0, ir13_r0, z6, z7, lz7, xz7, z8, gz9, z10, z14]
 ·try simp only [go_sem, n1, n2, n3, n4] at z6
  all_goals
  obtain rfl := so_some h
  refine ⟨0, fun L hL => ?_⟩
  simp only [go_sem, ir13, E_36_l1, R_36_l1, ir13_b0, ir13_k0, ir13_o0, ir13_r0, z6]

set_option maxHeartbeats 64000000 in
theorem Fs_36 {s_ : List UInt8} {width : Int} {y_ : (List (List UInt8)) × Int} (h : spec_WrapText s_ width = some y_) : c_36.F [.str s_, .int .i64 width] = ⟨true, .tup [.fresh 1 (List.map AV.str y_.1), .int .i64 y_.2], [.any, .any]⟩ := by
 refine mkF_E (by simp only [flatA, flatB, flat1, List.all_cons, List.all_nil, Bool.and_self, flatE_map (f := AV.str) (fun _ => rfl)]) ?_
 dsimp only [spec_WrapText] at h
 obtain ⟨y_1, z1, h⟩ := bd_some h
 have fz1 := Fs_21 z1
 try simp only [go_sem] at fz1
 rcases it_some h with ⟨z2, h⟩ | ⟨z2, h⟩
 ·try simp only [go_sem, n1, n2, n3, n4] at z2
  all_goals
  obtain rfl := so_some h
  refine ⟨0, fun L hL => ?_⟩
  simp only [go_sem, ir13, E_36_l1, R_36_l1, ir13_k0, ir13_o0, ir13_r0, fz1, z2]
 ·try simp only [go_sem, n1, n2, n3, n4] at z2
  all_goals
  obtain ⟨y_3, z3, h⟩ := bd_some h
  have fz3 := Fs_33 z3
  try simp only [go_sem, z2] at fz3
  rcases it_some h with ⟨z4, h⟩ | ⟨z4, h⟩
  ·try simp only [go_sem, n1, n2, n3, n4, z2] at z4
   all_goals
   obtain rfl := so_some h
   refine ⟨0, fun L hL => ?_⟩
   simp only [go_sem, ir13, E_36_l1, R_36_l1, ir13_k0, ir13_o0, ir13_r0, fz1, z2, fz3, z4]
  ·try simp only [go_sem, n1, n2, n3, n4, z2] at z4
   all_goals
   obtain ⟨y_5, z5, h⟩ := bd_some h
   have fz5 := Fs_35 z5
   try simp only [go_sem, z2, z4] at fz5
   obtain ⟨y_15, z15, h⟩ := bd_some h
   obtain ⟨Lz15, ez15⟩ := spec_WrapText_l1_ex z15
   rcases y_15 with y_15a | y_15b
   ·dsimp only at h
    obtain rfl := so_some h
    refine ⟨Lz15, fun L hL => ?_⟩
    have ez15 := ez15 L (by omega)
    try simp only [go_sem, E_36_l1, R_36_l1, ir13_k0, ir13_o0, ir13_r0, z2, z4] at ez15
    simp only [go_sem, ir13, E_36_l1, R_36_l1, ir13_k0, ir13_o0, ir13_r0, fz1, z2, fz3, z4, fz5, ez15]
   ·dsimp only at h
    obtain rfl := so_some h
    refine ⟨Lz15, fun L hL => ?_⟩
    have ez15 := ez15 L (by omega)
    try simp only [go_sem, E_36_l1, R_36_l1, ir13_k0, ir13_o0, ir13_r0, z2, z4] at ez15
    simp only [go_sem, ir13, E_36_l1, R_36_l1, ir13_k0, ir13_o0, ir13_r0, fz1, z2, fz3, z4, fz5, ez15]


def ir44_b0 : IR := .seq (.test false [ PM 8 3, PO 9 (.bin false .gtr (.s 0) (I6 0))] (.s 0) (.skip) (.exit 0)) (.seq (.block 1 (.region false [ PM 12 2, PM 13 0, PO 14 (.call 37 [(.s 0)]), PO 15 (.mkSl 1 (.str []) 1 [(0, (.s 0))]), PO 16 (.app 1 16 (.str []) (.s 3) (.s 0)), VS 2 3 0])) (.region false [ PM 10 3, PO 11 (.bin false .sub (.s 0) (I6 1)), VS 3 4 0]))
def ir44_k0 : List Bool := [true, false, true, true]
def ir44_o0 : List Bool := [true, false, true, false]
def ir44_r0 : List Bool := [true, true, false, false]
def ir44_v : List Nat := [0, 2, 3, 4]
def ir44 : AFn := ⟨1, 4, .seq (.region false [ VO 1 2 (.newnil 1)]) (.seq (.region false [ PO 5 (.mkSl 1 (.str []) 0 []), VS 2 3 0]) (.seq (.seq (.region false [ PM 6 0, PO 7 (.call 29 [(.s 0), (I6 14)]), VS 3 4 0]) (.block 0 (.loop ir44_k0 ir44_o0 ir44_r0 ir44_b0))) (.seq (.region false [ PM 17 2, VS 1 2 0]) (.ret)))), [.t 1]⟩
noncomputable def t_37 : List (Nat × Ctr) := [(29, c_3), (37, c_6)]
theorem lk_37_29 : look t_37 29 = some c_3 := rfl
theorem lk_37_37 : look t_37 37 = some c_6 := rfl
noncomputable def c_37 : Ctr := mkN t_37 ir44 [.io]
theorem s_37 : Sound Tryz.prog 44 c_37 := mkN_sound _ (snd_cons s_3 (snd_cons s_6 snd_nil)) (by kernel_rfl : chkFn Tryz.prog 44 ir44 ir44_v = true)
theorem M_37 : c_37.modes = [.io] := rfl
theorem Fl_37 : c_37.flat = false := rfl
attribute [go_sem] M_37 Fl_37
attribute [go_sem] lk_37_29 lk_37_37
def E_37_l1  : (L00Src × (List (List UInt8)) × Int) → St
 | (s_, out, k) => ⟨[.ref 31 0 0, .any, .own 3200032, .int .i64 k], [], [(31, ⟨3, [L00Src_av s_]⟩), (3200032, ⟨1, List.map AV.str out⟩)], true⟩
def R_37_l1  (y : L00Src × (List (List UInt8))) : Res := (.exit 0, ⟨[.ref 31 0 0, .any, .own 3200032, .any], [], [(31, ⟨3, [L00Src_av y.1]⟩), (3200032, ⟨1, List.map AV.str y.2⟩)], true⟩)
theorem spec_l24DrawLines_l1_ex  {sgm_ : L00Src × (List (List UInt8)) × Int} {rho_ : L00Src × (List (List UInt8))} (h : whileE (spec_l24DrawLines_l1) sgm_ = some rho_) : ∃ L0, ∀ L, L0 ≤ L → iter (exec (look t_37) L ir44_b0) ir44_k0 ir44_o0 ir44_r0 L (E_37_l1 sgm_) = R_37_l1 rho_ := by
 refine loop_ex (E := E_37_l1) (R := R_37_l1) (fun y => by first | (intro c; cases c) | (rcases y with y | y <;> (intro c; cases c)) | (rcases y with y | y | y <;> (intro c; cases c))) ?_ h
 clear h
 rintro ⟨s_, out, k⟩ o_ h
 dsimp only [spec_l24DrawLines_l1] at h
 rcases it_some h with ⟨z2, h⟩ | ⟨z2, h⟩
 ·try simp only [go_sem, n1, n2, n3, n4] at z2
  all_goals
  obtain ⟨y_3, z3, h⟩ := bd_some h
  have fz3 := Fs_6 z3
  try simp only [go_sem, z2] at fz3
  obtain ⟨z4, h⟩ := ck_some h
  try simp only [go_sem, n1, n2, n3, n4, z2] at z4
  all_goals
  obtain rfl := so_some h
  refine ⟨0, fun L hL => ?_⟩
  simp only [go_sem, ir44, E_37_l1, R_37_l1, ir44_b0, ir44_k0, ir44_o0, ir44_r0, z2, fz3, z4]
 ·try simp only [go_sem, n1, n2, n3, n4] at z2
  all_goals
  obtain rfl := so_some h
  refine ⟨0, fun L hL => ?_⟩
  simp only [go_sem, ir44, E_37_l1, R_37_l1, ir44_b0, ir44_k0, ir44_o0, ir44_r0, z2]

theorem Fs_37 {s_ : L00Src} {y_ : (List (List UInt8)) × L00Src} (h : spec_l24DrawLines s_ = some y_) : c_37.F [.mem 3 [L00Src_av s_] 0] = ⟨true, .fresh 1 (List.map AV.str y_.1), [.mem 3 [L00Src_av y_.2] 0]⟩ := by
 refine mkN_E ?_
 dsimp only [spec_l24DrawLines] at h
 obtain ⟨y_1, z1, h⟩ := bd_some h
 have fz1 := Fs_3 z1
 try simp only [go_sem] at fz1
 obtain ⟨y_5, z5, h⟩ := bd_some h
 obtain ⟨Lz5, ez5⟩ := spec_l24DrawLines_l1_ex z5
 obtain rfl := so_some h
 refine ⟨Lz5, fun L hL => ?_⟩
 have ez5 := ez5 L (by omega)
 try simp only [go_sem, E_37_l1, R_37_l1, ir44_k0, ir44_o0, ir44_r0] at ez5
 simp only [go_sem, ir44, E_37_l1, R_37_l1, ir44_k0, ir44_o0, ir44_r0, fz1, ez5]


def ir14_v : List Nat := [0, 2, 3, 4, 5, 6, 7]
def ir14 : AFn := ⟨1, 7, .seq (.region false [ VO 1 2 (.newnil 1), VO 2 3 (.mov (I6 0)), VO 3 4 (.mov (I6 0))]) (.seq (.region false [ PM 8 0, PO 9 (.call 27 [(.s 0)]), VS 4 5 0]) (.seq (.region false [ PM 10 4, PO 11 (.call 44 [(.s 0)]), VS 5 6 0]) (.seq (.region false [ PM 12 4, PO 13 (.call 29 [(.s 0), (I6 6)]), PO 14 (.bin false .add (I6 1) (.s 0)), VS 6 7 0]) (.seq (.test false [ PM 15 4, PO 16 (.call 30 [(.s 0), (I6 12)])] (.s 0) (.region false [ PM 17 4, PO 18 (.mkSl 1 (.int .i64 (0)) 4 [(0, (.c (.int .i64 (-1)))), (1, (I6 0)), (2, (I6 60)), (3, (I6 61))]), PO 19 (.call 38 [(.s 1), (.s
 0)]), VS 6 7 0]) (.skip)) (.seq (.region false [ PM 20 5, PM 21 6, PM 22 4, PO 23 (.call 29 [(.s 0), (I6 5)]), PM 24 4, PO 25 (.call 29 [(.s 0), (I6 16)]), PO 26 (.bin false .quo (.s 0) (I6 15)), PO 27 (.bin false .sub (.s 3) (.s 0)), VS 1 2 7, VS 2 3 6, VS 3 4 0]) (.ret)))))), [.t 1, .t 2, .t 3]⟩
noncomputable def t_38 : List (Nat × Ctr) := [(27, c_1), (44, c_37), (29, c_3), (30, c_4), (38, c_28)]
theorem lk_38_27 : look t_38 27 = some c_1 := rfl
theorem lk_38_44 : look t_38 44 = some c_37 := rfl
theorem lk_38_29 : look t_38 29 = some c_3 := rfl
theorem lk_38_30 : look t_38 30 = some c_4 := rfl
theorem lk_38_38 : look t_38 38 = some c_28 := rfl
noncomputable def c_38 : Ctr := mkF t_38 ir14 [.bor]
theorem s_38 : Sound Tryz.prog 14 c_38 := mkF_sound _ rfl (snd_cons s_1 (snd_cons s_37 (snd_cons s_3 (snd_cons s_4 (snd_cons s_28 snd_nil))))) (by kernel_rfl : chkFn Tryz.prog 14 ir14 ir14_v = true)
theorem M_38 : c_38.modes = [.bor] := rfl
theorem Fl_38 : c_38.flat = true := rfl
attribute [go_sem] M_38 Fl_38
attribute [go_sem] lk_38_27 lk_38_44 lk_38_29 lk_38_30 lk_38_38
theorem Fs_38 {code : List UInt8} {y_ : (List (List UInt8)) × Int × Int} (h : spec_DrawPageOf code = some y_) : c_38.F [.sl 1 (List.map byteAV code)] = ⟨true, .tup [.fresh 1 (List.map AV.str y_.1), .int .i64 y_.2.1, .int .i64 y_.2.2], [.any]⟩ := by
 refine mkF_E (by simp only [flatA, flatB, flat1, List.all_cons, List.all_nil, Bool.and_self, flatE_map (f := AV.str) (fun _ => rfl)]) ?_
 dsimp only [spec_DrawPageOf] at h
 obtain ⟨y_1, z1, h⟩ := bd_some h
 have fz1 := Fs_1 z1
 try simp only [go_sem] at fz1
 obtain ⟨y_2, z2, h⟩ := bd_some h
 have fz2 := Fs_37 z2
 try simp only [go_sem] at fz2
 obtain ⟨y_3, z3, h⟩ := bd_some h
 have fz3 := Fs_3 z3
 try simp only [go_sem] at fz3
 obtain ⟨y_4, z4, h⟩ := bd_some h
 have fz4 := Fs_4 z4
 try simp only [go_sem] at fz4
 rcases it_some h with ⟨z5, h⟩ | ⟨z5, h⟩
 ·try simp only [go_sem, n1, n2, n3, n4] at z5
  all_goals
  obtain ⟨y_6, z6, h⟩ := bd_some h
  have fz6 := Fs_28 z6
  try simp only [go_sem, z5] at fz6
  obtain ⟨y_7, z7, h⟩ := bd_some h
  have fz7 := Fs_3 z7
  try simp only [go_sem, z5] at fz7
  obtain ⟨y_8, z8, h⟩ := bd_some h
  have fz8 := Fs_3 z8
  try simp only [go_sem, z5] at fz8
  obtain ⟨z9, h⟩ := ck_some h
  try simp only [go_sem, n1, n2, n3, n4, z5] at z9
  all_goals
  obtain rfl := so_some h
  refine ⟨0, fun L hL => ?_⟩
  simp only [go_sem, ir14, fz1, fz2, fz3, fz4, z5, fz6, fz7, fz8, z9]
 ·try simp only [go_sem, n1, n2, n3, n4] at z5
  all_goals
  obtain ⟨y_10, z10, h⟩ := bd_some h
  have fz10 := Fs_3 z10
  try simp only [go_sem, z5] at fz10
  obtain ⟨y_11, z11, h⟩ := bd_some h
  have fz11 := Fs_3 z11
  try simp only [go_sem, z5] at fz11
  obtain ⟨z12, h⟩ := ck_some h
  try simp only [go_sem, n1, n2, n3, n4, z5] at z12
  all_goals
  obtain rfl := so_some h
  refine ⟨0, fun L hL => ?_⟩
  simp only [go_sem, ir14, fz1, fz2, fz3, fz4, z5, fz10, fz11, z12]


def ir46_v : List Nat := [0, 2]
def ir46 : AFn := ⟨1, 2, .seq (.region false [ VO 1 2 (.mov (I6 0))]) (.seq (.region false [ PM 3 0, PO 4 (.len false (.s 0)), VS 1 2 0]) (.ret)), [.t 1]⟩
noncomputable def t_39 : List (Nat × Ctr) := []
noncomputable def c_39 : Ctr := mkF t_39 ir46 [.bor]
theorem s_39 : Sound Tryz.prog 46 c_39 := mkF_sound _ rfl snd_nil (by kernel_rfl : chkFn Tryz.prog 46 ir46 ir46_v = true)
theorem M_39 : c_39.modes = [.bor] := rfl
theorem Fl_39 : c_39.flat = true := rfl
attribute [go_sem] M_39 Fl_39
theorem Fs_39 {list : List (List UInt8)} {y_ : Int} (h : impl_count_string list = some y_) : c_39.F [.sl 1 (List.map AV.str list)] = ⟨true, .int .i64 y_, [.any]⟩ := by
 refine mkF_E rfl ?_
 dsimp only [impl_count_string] at h
 obtain rfl := so_some h
 refine ⟨0, fun L hL => ?_⟩
 simp only [go_sem, ir46]


def ir68_v : List Nat := [0, 1, 4, 5]
def ir68 : AFn := ⟨2, 4, .seq (.region false [ VO 2 4 (.mov (I6 0))]) (.seq (.region false [ PM 6 0, PM 7 1, PO 8 (.bin false .quo (.s 1) (.s 0)), VS 3 5 0]) (.seq (.test false [ PM 9 0, PM 10 1, PO 11 (.bin false .rem (.s 1) (.s 0)), PO 12 (.bin false .lss (.s 0) (I6 0))] (.s 0) (.region false [ PM 13 3, PO 14 (.bin false .sub (.s 0) (I6 1)), VS 3 5 0]) (.skip)) (.seq (.region false [ PM 15 3, VS 2 4 0]) (.ret)))), [.t 2]⟩
noncomputable def t_40 : List (Nat × Ctr) := []
noncomputable def c_40 : Ctr := mkF t_40 ir68 [.bor, .bor]
theorem s_40 : Sound Tryz.prog 68 c_40 := mkF_sound _ rfl snd_nil (by kernel_rfl : chkFn Tryz.prog 68 ir68 ir68_v = true)
theorem M_40 : c_40.modes = [.bor, .bor] := rfl
theorem Fl_40 : c_40.flat = true := rfl
attribute [go_sem] M_40 Fl_40
theorem Fs_40 {a : Int} {b : Int} {y_ : Int} (h : impl_floorDiv a b = some y_) : c_40.F [.int .i64 a, .int .i64 b] = ⟨true, .int .i64 y_, [.any, .any]⟩ := by
 refine mkF_E rfl ?_
 dsimp only [impl_floorDiv] at h
 obtain ⟨z1, h⟩ := ck_some h
 try simp only [go_sem, n1, n2, n3, n4] at z1
 all_goals
 rcases it_some h with ⟨z2, h⟩ | ⟨z2, h⟩
 ·try simp only [go_sem, n1, n2, n3, n4, z1] at z2
  all_goals
  obtain rfl := so_some h
  refine ⟨0, fun L hL => ?_⟩
  simp only [go_sem, ir68, z1, z2]
 ·try simp only [go_sem, n1, n2, n3, n4, z1] at z2
  all_goals
  obtain rfl := so_some h
  refine ⟨0, fun L hL => ?_⟩
  simp only [go_sem, ir68, z1, z2]


def ir49_v : List Nat := [0, 1, 4]
def ir49 : AFn := ⟨2, 3, .seq (.region false [ VO 2 4 (.mov (I6 0))]) (.seq (.region false [ PM 5 0, PO 6 (.un .neg (.s 0)), PM 7 1, PO 8 (.call 68 [(.s 1), (.s 0)]), PO 9 (.un .neg (.s 0)), VS 2 4 0]) (.ret)), [.t 2]⟩
noncomputable def t_41 : List (Nat × Ctr) := [(68, c_40)]
theorem lk_41_68 : look t_41 68 = some c_40 := rfl
noncomputable def c_41 : Ctr := mkF t_41 ir49 [.bor, .bor]
theorem s_41 : Sound Tryz.prog 49 c_41 := mkF_sound _ rfl (snd_cons s_40 snd_nil) (by kernel_rfl : chkFn Tryz.prog 49 ir49 ir49_v = true)
theorem M_41 : c_41.modes = [.bor, .bor] := rfl
theorem Fl_41 : c_41.flat = true := rfl
attribute [go_sem] M_41 Fl_41
attribute [go_sem] lk_41_68
theorem Fs_41 {a : Int} {b : Int} {y_ : Int} (h : impl_ceilDiv a b = some y_) : c_41.F [.int .i64 a, .int .i64 b] = ⟨true, .int .i64 y_, [.any, .any]⟩ := by
 refine mkF_E rfl ?_
 dsimp only [impl_ceilDiv] at h
 obtain ⟨y_1, z1, h⟩ := bd_some h
 have fz1 := Fs_40 z1
 try simp only [go_sem] at fz1
 obtain rfl := so_some h
 refine ⟨0, fun L hL => ?_⟩
 simp only [go_sem, ir49, fz1]


def ir17_v : List Nat := [0, 1, 4, 5]
def ir17 : AFn := ⟨2, 4, .seq (.region false [ VO 2 4 (.mov (I6 0)), VO 3 5 (.mov (I6 0))]) (.seq (.test false [ PM 6 1, PO 7 (.call 40 [(.s 0), (I6 1), (I6 60)]), PO 8 (.un .not (.s 0))] (.s 0) (.seq (.region false [ VO 2 4 (.mov (I6 0)), VO 3 5 (.mov (I6 2))]) (.ret)) (.skip)) (.seq (.region false [ PM 9 0, PO 10 (.call 46 [(.s 0)]), PM 11 1, PO 12 (.call 49 [(.s 1), (.s 0)]), VS 2 4 0, VO 3 5 (.mov (I6 0))]) (.ret))), [.t 2, .t 3]⟩
noncomputable def t_42 : List (Nat × Ctr) := [(40, c_14), (46, c_39), (49, c_41)]
theorem lk_42_40 : look t_42 40 = some c_14 := rfl
theorem lk_42_46 : look t_42 46 = some c_39 := rfl
theorem lk_42_49 : look t_42 49 = some c_41 := rfl
noncomputable def c_42 : Ctr := mkF t_42 ir17 [.bor, .bor]
theorem s_42 : Sound Tryz.prog 17 c_42 := mkF_sound _ rfl (snd_cons s_14 (snd_cons s_39 (snd_cons s_41 snd_nil))) (by kernel_rfl : chkFn Tryz.prog 17 ir17 ir17_v = true)
theorem M_42 : c_42.modes = [.bor, .bor] := rfl
theorem Fl_42 : c_42.flat = true := rfl
attribute [go_sem] M_42 Fl_42
attribute [go_sem] lk_42_40 lk_42_46 lk_42_49
theorem Fs_42 {lines : List (List UInt8)} {each : Int} {y_ : Int × Int} (h : impl_PagesOf lines each = some y_) : c_42.F [.sl 1 (List.map AV.str lines), .int .i64 each] = ⟨true, .tup [.int .i64 y_.1, .int .i64 y_.2], [.any, .any]⟩ := by
 refine mkF_E rfl ?_
 dsimp only [impl_PagesOf] at h
 obtain ⟨y_1, z1, h⟩ := bd_some h
 have fz1 := Fs_14 z1
 try simp only [go_sem] at fz1
 rcases it_some h with ⟨z2, h⟩ | ⟨z2, h⟩
 ·try simp only [go_sem, n1, n2, n3, n4] at z2
  all_goals
  obtain rfl := so_some h
  refine ⟨0, fun L hL => ?_⟩
  simp only [go_sem, ir17, fz1, z2]
 ·try simp only [go_sem, n1, n2, n3, n4] at z2
  all_goals
  obtain ⟨y_3, z3, h⟩ := bd_some h
  have fz3 := Fs_39 z3
  try simp only [go_sem, z2] at fz3
  obtain ⟨y_4, z4, h⟩ := bd_some h
  have fz4 := Fs_41 z4
  try simp only [go_sem, z2] at fz4
  obtain rfl := so_some h
  refine ⟨0, fun L hL => ?_⟩
  simp only [go_sem, ir17, fz1, z2, fz3, fz4]


def ir45_v : List Nat := [0, 2]
def ir45 : AFn := ⟨1, 2, .seq (.region false [ VO 1 2 (.newnil 1)]) (.seq (.region false [ PO 3 (.mkSl 1 (.str []) 0 []), PM 4 0, PO 5 (.app 1 16 (.str []) (.s 1) (.s 0)), VS 1 2 0]) (.ret)), [.t 1]⟩
noncomputable def t_43 : List (Nat × Ctr) := []
noncomputable def c_43 : Ctr := mkF t_43 ir45 [.bor]
theorem s_43 : Sound Tryz.prog 45 c_43 := mkF_sound _ rfl snd_nil (by kernel_rfl : chkFn Tryz.prog 45 ir45 ir45_v = true)
theorem M_43 : c_43.modes = [.bor] := rfl
theorem Fl_43 : c_43.flat = true := rfl
attribute [go_sem] M_43 Fl_43
theorem Fs_43 {list : List (List UInt8)} {y_ : (List (List UInt8))} (h : impl_copyOf_string list = some y_) : c_43.F [.sl 1 (List.map AV.str list)] = ⟨true, .fresh 1 (List.map AV.str y_), [.any]⟩ := by
 refine mkF_E (by simp only [flatA, flatB, flat1, List.all_cons, List.all_nil, Bool.and_self, flatE_map (f := AV.str) (fun _ => rfl)]) ?_
 dsimp only [impl_copyOf_string] at h
 obtain ⟨z1, h⟩ := ck_some h
 try simp only [go_sem, n1, n2, n3, n4] at z1
 all_goals
 obtain rfl := so_some h
 refine ⟨0, fun L hL => ?_⟩
 simp only [go_sem, ir45, z1]


def ir15_v : List Nat := [0, 1, 2, 6, 7, 8, 9]
def ir15 : AFn := ⟨3, 7, .seq (.region false [ VO 3 6 (.newnil 1), VO 4 7 (.mov (I6 0))]) (.seq (.region false [ PM 11 0, PM 12 1, PO 13 (.call 17 [(.s 1), (.s 0)]), PO 10 (.mov (.s 0)), PO 14 (.ext (.s 0) 0), PO 15 (.ext (.s 1) 1), VS 5 8 1, VS 6 9 0]) (.seq (.block 0 (.test false [ PM 17 6, PO 18 (.bin false .neq (.s 0) (I6 0)), PO 16 (.mov (.s 0))] (.s 0) (.seq (.region false [ PM 19 6, VO 3 6 (.newnil 1), VS 4 7 0]) (.ret)) (.test false [ PM 21 2, PM 22 5, PO 23 (.bin false .sub (.s 0) (I6 1)), PO 24 (.call 40 [(.s 2), (I6 0), (.s 0)]), PO 25 (.un .not (.s 0)), PO 20 (.mov (.s 0))] (.s 0)
 (.seq (.region false [ VO 3 6 (.newnil 1), VO 4 7 (.mov (I6 3))]) (.ret)) (.skip)))) (.seq (.region false [ PM 26 0, PM 27 2, PM 28 1, PO 29 (.bin false .mul (.s 1) (.s 0)), PM 30 2, PO 31 (.bin false .add (.s 0) (I6 1)), PM 32 1, PO 33 (.bin false .mul (.s 1) (.s 0)), PM 34 0, PO 35 (.call 46 [(.s 0)]), PO 36 (.minmax false [(.s 2), (.s 0)]), PO 37 (.slice 1 (.s 10) (some (.s 7)) (some (.s 0))), PO 38 (.call 45 [(.s 0)]), VS 3 6 0, VO 4 7 (.mov (I6 0))]) (.ret)))), [.t 3, .t 4]⟩
noncomputable def t_44 : List (Nat × Ctr) := [(17, c_42), (40, c_14), (46, c_39), (45, c_43)]
theorem lk_44_17 : look t_44 17 = some c_42 := rfl
theorem lk_44_40 : look t_44 40 = some c_14 := rfl
theorem lk_44_46 : look t_44 46 = some c_39 := rfl
theorem lk_44_45 : look t_44 45 = some c_43 := rfl
noncomputable def c_44 : Ctr := mkF t_44 ir15 [.bor, .bor, .bor]
theorem s_44 : Sound Tryz.prog 15 c_44 := mkF_sound _ rfl (snd_cons s_42 (snd_cons s_14 (snd_cons s_39 (snd_cons s_43 snd_nil)))) (by kernel_rfl : chkFn Tryz.prog 15 ir15 ir15_v = true)
theorem M_44 : c_44.modes = [.bor, .bor, .bor] := rfl
theorem Fl_44 : c_44.flat = true := rfl
attribute [go_sem] M_44 Fl_44
attribute [go_sem] lk_44_17 lk_44_40 lk_44_46 lk_44_45
theorem Fs_44 {lines : List (List UInt8)} {each : Int} {page : Int} {y_ : (List (List UInt8)) × Int} (h : impl_PageOf lines each page = some y_) : c_44.F [.sl 1 (List.map AV.str lines), .int .i64 each, .int .i64 page] = ⟨true, .tup [.fresh 1 (List.map AV.str y_.1), .int .i64 y_.2], [.any, .any, .any]⟩ := by
 refine mkF_E (by simp only [flatA, flatB, flat1, List.all_cons, List.all_nil, Bool.and_self, flatE_map (f := AV.str) (fun _ => rfl)]) ?_
 dsimp only [impl_PageOf] at h
 obtain ⟨y_1, z1, h⟩ := bd_some h
 have fz1 := Fs_42 z1
 try simp only [go_sem] at fz1
 rcases it_some h with ⟨z2, h⟩ | ⟨z2, h⟩
 ·try simp only [go_sem, n1, n2, n3, n4] at z2
  all_goals
  obtain rfl := so_some h
  refine ⟨0, fun L hL => ?_⟩
  simp only [go_sem, ir15, fz1, z2]
 ·try simp only [go_sem, n1, n2, n3, n4] at z2
  all_goals
  obtain ⟨y_3, z3, h⟩ := bd_some h
  have fz3 := Fs_14 z3
  try simp only [go_sem, z2] at fz3
  rcases it_some h with ⟨z4, h⟩ | ⟨z4, h⟩
  ·try simp only [go_sem, n1, n2, n3, n4, z2] at z4
   all_goals
   obtain rfl := so_some h
   refine ⟨0, fun L hL => ?_⟩
   simp only [go_sem, ir15, fz1, z2, fz3, z4]
  ·try simp only [go_sem, n1, n2, n3, n4, z2] at z4
   all_goals
   obtain ⟨y_5, z5, h⟩ := bd_some h
   have fz5 := Fs_39 z5
   try simp only [go_sem, z2, z4] at fz5
   obtain ⟨z6, h⟩ := ck_some h
   try simp only [go_sem, n1, n2, n3, n4, z2, z4] at z6
   all_goals
   obtain ⟨y_7, z7, h⟩ := bd_some h
   have fz7 := Fs_43 z7
   try simp only [go_sem, z2, z4, z6] at fz7
   obtain rfl := so_some h
   refine ⟨0, fun L hL => ?_⟩
   simp only [go_sem, ir15, fz1, z2, fz3, z4, fz5, z6, fz7]


def ir47_v : List Nat := [0, 1, 4]
def ir47 : AFn := ⟨2, 3, .seq (.region false [ VO 2 4 (.mov (I6 0))]) (.seq (.region false [ PM 5 0, PO 6 (.len false (.s 0)), PM 7 1, PO 8 (.bin false .add (.s 1) (.s 0)), PO 9 (.bin false .sub (.s 0) (I6 1)), PM 10 1, PO 11 (.bin false .quo (.s 1) (.s 0)), VS 2 4 0]) (.ret)), [.t 2]⟩
noncomputable def t_45 : List (Nat × Ctr) := []
noncomputable def c_45 : Ctr := mkF t_45 ir47 [.bor, .bor]
theorem s_45 : Sound Tryz.prog 47 c_45 := mkF_sound _ rfl snd_nil (by kernel_rfl : chkFn Tryz.prog 47 ir47 ir47_v = true)
theorem M_45 : c_45.modes = [.bor, .bor] := rfl
theorem Fl_45 : c_45.flat = true := rfl
attribute [go_sem] M_45 Fl_45
theorem Fs_45 {lines : List (List UInt8)} {each : Int} {y_ : Int} (h : spec_l24Pages lines each = some y_) : c_45.F [.sl 1 (List.map AV.str lines), .int .i64 each] = ⟨true, .int .i64 y_, [.any, .any]⟩ := by
 refine mkF_E rfl ?_
 dsimp only [spec_l24Pages] at h
 obtain ⟨z1, h⟩ := ck_some h
 try simp only [go_sem, n1, n2, n3, n4] at z1
 all_goals
 obtain rfl := so_some h
 refine ⟨0, fun L hL => ?_⟩
 simp only [go_sem, ir47, z1]


def ir48_v : List Nat := [0, 1, 4]
def ir48 : AFn := ⟨2, 3, .seq (.region false [ VO 2 4 (.mov (I6 0))]) (.seq (.test false [ PM 5 0, PM 6 1, PO 7 (.bin false .lss (.s 1) (.s 0))] (.s 0) (.seq (.region false [ PM 8 0, VS 2 4 0]) (.ret)) (.skip)) (.seq (.region false [ PM 9 1, VS 2 4 0]) (.ret))), [.t 2]⟩
noncomputable def t_46 : List (Nat × Ctr) := []
noncomputable def c_46 : Ctr := mkF t_46 ir48 [.bor, .bor]
theorem s_46 : Sound Tryz.prog 48 c_46 := mkF_sound _ rfl snd_nil (by kernel_rfl : chkFn Tryz.prog 48 ir48 ir48_v = true)
theorem M_46 : c_46.modes = [.bor, .bor] := rfl
theorem Fl_46 : c_46.flat = true := rfl
attribute [go_sem] M_46 Fl_46
theorem Fs_46 {a : Int} {b : Int} {y_ : Int} (h : spec_l00Min a b = some y_) : c_46.F [.int .i64 a, .int .i64 b] = ⟨true, .int .i64 y_, [.any, .any]⟩ := by
 refine mkF_E rfl ?_
 dsimp only [spec_l00Min] at h
 rcases it_some h with ⟨z1, h⟩ | ⟨z1, h⟩
 ·try simp only [go_sem, n1, n2, n3, n4] at z1
  all_goals
  obtain rfl := so_some h
  refine ⟨0, fun L hL => ?_⟩
  simp only [go_sem, ir48, z1]
 ·try simp only [go_sem, n1, n2, n3, n4] at z1
  all_goals
  obtain rfl := so_some h
  refine ⟨0, fun L hL => ?_⟩
  simp only [go_sem, ir48, z1]


def ir16_v : List Nat := [0, 1, 2, 6, 7, 8, 9]
def ir16 : AFn := ⟨3, 7, .seq (.region false [ VO 3 6 (.newnil 1), VO 4 7 (.mov (I6 0))]) (.seq (.test false [ PM 10 1, PO 11 (.call 43 [(.s 0), (I6 1), (I6 60)]), PO 12 (.un .not (.s 0))] (.s 0) (.seq (.region false [ VO 3 6 (.newnil 1), VO 4 7 (.mov (I6 2))]) (.ret)) (.skip)) (.seq (.test false [ PM 13 2, PM 14 0, PM 15 1, PO 16 (.call 47 [(.s 1), (.s 0)]), PO 17 (.bin false .sub (.s 0) (I6 1)), PO 18 (.call 43 [(.s 4), (I6 0), (.s 0)]), PO 19 (.un .not (.s 0))] (.s 0) (.seq (.region false [ VO 3 6 (.newnil 1), VO 4 7 (.mov (I6 3))]) (.ret)) (.skip)) (.seq (.region false [ PM 20 2, PM 21 1,
 PO 22 (.bin false .mul (.s 1) (.s 0)), VS 5 8 0]) (.seq (.region false [ PM 23 5, PM 24 1, PO 25 (.bin false .add (.s 1) (.s 0)), PM 26 0, PO 27 (.len false (.s 0)), PO 28 (.call 48 [(.s 2), (.s 0)]), VS 6 9 0]) (.seq (.region false [ PO 29 (.mkSl 1 (.str []) 0 []), PM 30 0, PM 31 5, PM 32 6, PO 33 (.slice 1 (.s 2) (some (.s 1)) (some (.s 0))), PO 34 (.app 1 16 (.str []) (.s 4) (.s 0)), VS 3 6 0, VO 4 7 (.mov (I6 0))]) (.ret)))))), [.t 3, .t 4]⟩
noncomputable def t_47 : List (Nat × Ctr) := [(43, c_33), (47, c_45), (48, c_46)]
theorem lk_47_43 : look t_47 43 = some c_33 := rfl
theorem lk_47_47 : look t_47 47 = some c_45 := rfl
theorem lk_47_48 : look t_47 48 = some c_46 := rfl
noncomputable def c_47 : Ctr := mkF t_47 ir16 [.bor, .bor, .bor]
theorem s_47 : Sound Tryz.prog 16 c_47 := mkF_sound _ rfl (snd_cons s_33 (snd_cons s_45 (snd_cons s_46 snd_nil))) (by kernel_rfl : chkFn Tryz.prog 16 ir16 ir16_v = true)
theorem M_47 : c_47.modes = [.bor, .bor, .bor] := rfl
theorem Fl_47 : c_47.flat = true := rfl
attribute [go_sem] M_47 Fl_47
attribute [go_sem] lk_47_43 lk_47_47 lk_47_48
theorem Fs_47 {lines : List (List UInt8)} {each : Int} {page : Int} {y_ : (List (List UInt8)) × Int} (h : spec_PageOf lines each page = some y_) : c_47.F [.sl 1 (List.map AV.str lines), .int .i64 each, .int .i64 page] = ⟨true, .tup [.fresh 1 (List.map AV.str y_.1), .int .i64 y_.2], [.any, .any, .any]⟩ := by
 refine mkF_E (by simp only [flatA, flatB, flat1, List.all_cons, List.all_nil, Bool.and_self, flatE_map (f := AV.str) (fun _ => rfl)]) ?_
 dsimp only [spec_PageOf] at h
 obtain ⟨y_1, z1, h⟩ := bd_some h
 have fz1 := Fs_33 z1
 try simp only [go_sem] at fz1
 rcases it_some h with ⟨z2, h⟩ | ⟨z2, h⟩
 ·try simp only [go_sem, n1, n2, n3, n4] at z2
  all_goals
  obtain rfl := so_some h
  refine ⟨0, fun L hL => ?_⟩
  simp only [go_sem, ir16, fz1, z2]
 ·try simp only [go_sem, n1, n2, n3, n4] at z2
  all_goals
  obtain ⟨y_3, z3, h⟩ := bd_some h
  have fz3 := Fs_45 z3
  try simp only [go_sem, z2] at fz3
  obtain ⟨y_4, z4, h⟩ := bd_some h
  have fz4 := Fs_33 z4
  try simp only [go_sem, z2] at fz4
  rcases it_some h with ⟨z5, h⟩ | ⟨z5, h⟩
  ·try simp only [go_sem, n1, n2, n3, n4, z2] at z5
   all_goals
   obtain rfl := so_some h
   refine ⟨0, fun L hL => ?_⟩
   simp only [go_sem, ir16, fz1, z2, fz3, fz4, z5]
  ·try simp only [go_sem, n1, n2, n3, n4, z2] at z5
   all_goals
   obtain ⟨y_6, z6, h⟩ := bd_some h
   have fz6 := Fs_46 z6
   try simp only [go_sem, z2, z5] at fz6
   obtain ⟨z7, h⟩ := ck_some h
   try simp only [go_sem, n1, n2, n3, n4, z2, z5] at z7
   all_goals
   obtain ⟨z8, h⟩ := ck_some h
   try simp only [go_sem, n1, n2, n3, n4, z2, z5, z7] at z8
   all_goals
   obtain rfl := so_some h
   refine ⟨0, fun L hL => ?_⟩
   simp only [go_sem, ir16, fz1, z2, fz3, fz4, z5, fz6, z7, z8]


def ir18_v : List Nat := [0, 1, 4, 5]
def ir18 : AFn := ⟨2, 4, .seq (.region false [ VO 2 4 (.mov (I6 0)), VO 3 5 (.mov (I6 0))]) (.seq (.test false [ PM 6 1, PO 7 (.call 43 [(.s 0), (I6 1), (I6 60)]), PO 8 (.un .not (.s 0))] (.s 0) (.seq (.region false [ VO 2 4 (.mov (I6 0)), VO 3 5 (.mov (I6 2))]) (.ret)) (.skip)) (.seq (.region false [ PM 9 0, PM 10 1, PO 11 (.call 47 [(.s 1), (.s 0)]), VS 2 4 0, VO 3 5 (.mov (I6 0))]) (.ret))), [.t 2, .t 3]⟩
noncomputable def t_48 : List (Nat × Ctr) := [(43, c_33), (47, c_45)]
theorem lk_48_43 : look t_48 43 = some c_33 := rfl
theorem lk_48_47 : look t_48 47 = some c_45 := rfl
noncomputable def c_48 : Ctr := mkF t_48 ir18 [.bor, .bor]
theorem s_48 : Sound Tryz.prog 18 c_48 := mkF_sound _ rfl (snd_cons s_33 (snd_cons s_45 snd_nil)) (by kernel_rfl : chkFn Tryz.prog 18 ir18 ir18_v = true)
theorem M_48 : c_48.modes = [.bor, .bor] := rfl
theorem Fl_48 : c_48.flat = true := rfl
attribute [go_sem] M_48 Fl_48
attribute [go_sem] lk_48_43 lk_48_47
theorem Fs_48 {lines : List (List UInt8)} {each : Int} {y_ : Int × Int} (h : spec_PagesOf lines each = some y_) : c_48.F [.sl 1 (List.map AV.str lines), .int .i64 each] = ⟨true, .tup [.int .i64 y_.1, .int .i64 y_.2], [.any, .any]⟩ := by
 refine mkF_E rfl ?_
 dsimp only [spec_PagesOf] at h
 obtain ⟨y_1, z1, h⟩ := bd_some h
 have fz1 := Fs_33 z1
 try simp only [go_sem] at fz1
 rcases it_some h with ⟨z2, h⟩ | ⟨z2, h⟩
 ·try simp only [go_sem, n1, n2, n3, n4] at z2
  all_goals
  obtain rfl := so_some h
  refine ⟨0, fun L hL => ?_⟩
  simp only [go_sem, ir18, fz1, z2]
 ·try simp only [go_sem, n1, n2, n3, n4] at z2
  all_goals
  obtain ⟨y_3, z3, h⟩ := bd_some h
  have fz3 := Fs_45 z3
  try simp only [go_sem, z2] at fz3
  obtain rfl := so_some h
  refine ⟨0, fun L hL => ?_⟩
  simp only [go_sem, ir18, fz1, z2, fz3]


def ir50_v : List Nat := [0, 2, 3, 4, 5]
def ir50 : AFn := ⟨1, 5, .seq (.region false [ VO 1 2 (.mov (.c (.str []))), VO 2 3 (.mov (I6 0))]) (.seq (.region false [ PM 6 0, PO 7 (.call 27 [(.s 0)]), VS 3 4 0]) (.seq (.region false [ PM 8 3, PO 9 (.call 37 [(.s 0)]), VS 4 5 0]) (.seq (.test false [ PM 10 3, PO 11 (.call 30 [(.s 0), (I6 8)])] (.s 0) (.seq (.region false [ PM 12 4, PM 13 3, PM 14 4, PO 15 (.len true (.s 0)), PO 16 (.mkSl 1 (.int .i64 (0)) 6 [(0, (.c (.int .i64 (-1)))), (1, (I6 0)), (2, (.s 0)), (3, (I6 80)), (4, (I6 81)), (5, (I6 9223372036854775807))]), PO 17 (.call 38 [(.s 3), (.s 0)]), VS 1 2 5, VS 2 3 0]) (.ret))
 (.skip)) (.seq (.region false [ PM 18 4, PM 19 3, PO 20 (.call 29 [(.s 0), (I6 14)]), VS 1 2 2, VS 2 3 0]) (.ret))))), [.t 1, .t 2]⟩
noncomputable def t_49 : List (Nat × Ctr) := [(27, c_1), (37, c_6), (30, c_4), (38, c_28), (29, c_3)]
theorem lk_49_27 : look t_49 27 = some c_1 := rfl
theorem lk_49_37 : look t_49 37 = some c_6 := rfl
theorem lk_49_30 : look t_49 30 = some c_4 := rfl
theorem lk_49_38 : look t_49 38 = some c_28 := rfl
theorem lk_49_29 : look t_49 29 = some c_3 := rfl
noncomputable def c_49 : Ctr := mkF t_49 ir50 [.bor]
theorem s_49 : Sound Tryz.prog 50 c_49 := mkF_sound _ rfl (snd_cons s_1 (snd_cons s_6 (snd_cons s_4 (snd_cons s_28 (snd_cons s_3 snd_nil))))) (by kernel_rfl : chkFn Tryz.prog 50 ir50 ir50_v = true)
theorem M_49 : c_49.modes = [.bor] := rfl
theorem Fl_49 : c_49.flat = true := rfl
attribute [go_sem] M_49 Fl_49
attribute [go_sem] lk_49_27 lk_49_37 lk_49_30 lk_49_38 lk_49_29
theorem Fs_49 {code : List UInt8} {y_ : (List UInt8) × Int} (h : spec_l24Pad code = some y_) : c_49.F [.sl 1 (List.map byteAV code)] = ⟨true, .tup [.str y_.1, .int .i64 y_.2], [.any]⟩ := by
 refine mkF_E rfl ?_
 dsimp only [spec_l24Pad] at h
 obtain ⟨y_1, z1, h⟩ := bd_some h
 have fz1 := Fs_1 z1
 try simp only [go_sem] at fz1
 obtain ⟨y_2, z2, h⟩ := bd_some h
 have fz2 := Fs_6 z2
 try simp only [go_sem] at fz2
 obtain ⟨y_3, z3, h⟩ := bd_some h
 have fz3 := Fs_4 z3
 try simp only [go_sem] at fz3
 rcases it_some h with ⟨z4, h⟩ | ⟨z4, h⟩
 ·try simp only [go_sem, n1, n2, n3, n4] at z4
  all_goals
  obtain ⟨y_5, z5, h⟩ := bd_some h
  have fz5 := Fs_28 z5
  try simp only [go_sem, z4] at fz5
  obtain rfl := so_some h
  refine ⟨0, fun L hL => ?_⟩
  simp only [go_sem, ir50, fz1, fz2, fz3, z4, fz5]
 ·try simp only [go_sem, n1, n2, n3, n4] at z4
  all_goals
  obtain ⟨y_6, z6, h⟩ := bd_some h
  have fz6 := Fs_3 z6
  try simp only [go_sem, z4] at fz6
  obtain rfl := so_some h
  refine ⟨0, fun L hL => ?_⟩
  simp only [go_sem, ir50, fz1, fz2, fz3, z4, fz6]


def ir19_v : List Nat := [0, 2, 3]
def ir19 : AFn := ⟨1, 3, .seq (.region false [ VO 1 2 (.mov (.c (.str []))), VO 2 3 (.mov (I6 0))]) (.seq (.region false [ PM 4 0, PO 5 (.call 50 [(.s 0)]), PO 6 (.ext (.s 0) 0), PO 7 (.ext (.s 1) 1), VS 1 2 1, VS 2 3 0]) (.ret)), [.t 1, .t 2]⟩
noncomputable def t_50 : List (Nat × Ctr) := [(50, c_49)]
theorem lk_50_50 : look t_50 50 = some c_49 := rfl
noncomputable def c_50 : Ctr := mkF t_50 ir19 [.bor]
theorem s_50 : Sound Tryz.prog 19 c_50 := mkF_sound _ rfl (snd_cons s_49 snd_nil) (by kernel_rfl : chkFn Tryz.prog 19 ir19 ir19_v = true)
theorem M_50 : c_50.modes = [.bor] := rfl
theorem Fl_50 : c_50.flat = true := rfl
attribute [go_sem] M_50 Fl_50
attribute [go_sem] lk_50_50
theorem Fs_50 {code : List UInt8} {y_ : (List UInt8) × Int} (h : spec_DrawPadLeft code = some y_) : c_50.F [.sl 1 (List.map byteAV code)] = ⟨true, .tup [.str y_.1, .int .i64 y_.2], [.any]⟩ := by
 refine mkF_E rfl ?_
 dsimp only [spec_DrawPadLeft] at h
 obtain ⟨y_1, z1, h⟩ := bd_some h
 have fz1 := Fs_49 z1
 try simp only [go_sem] at fz1
 obtain rfl := so_some h
 refine ⟨0, fun L hL => ?_⟩
 simp only [go_sem, ir19, fz1]


def ir70_v : List Nat := [0, 2]
def ir70 : AFn := ⟨1, 2, .seq (.region false [ VO 1 2 (.mov (.c (.bool false)))]) (.seq (.region false [ PM 3 0, PO 4 (.call 43 [(.s 0), (I6 0), (I6 80)]), VS 1 2 0]) (.ret)), [.t 1]⟩
noncomputable def t_51 : List (Nat × Ctr) := [(43, c_33)]
theorem lk_51_43 : look t_51 43 = some c_33 := rfl
noncomputable def c_51 : Ctr := mkF t_51 ir70 [.bor]
theorem s_51 : Sound Tryz.prog 70 c_51 := mkF_sound _ rfl (snd_cons s_33 snd_nil) (by kernel_rfl : chkFn Tryz.prog 70 ir70 ir70_v = true)
theorem M_51 : c_51.modes = [.bor] := rfl
theorem Fl_51 : c_51.flat = true := rfl
attribute [go_sem] M_51 Fl_51
attribute [go_sem] lk_51_43
theorem Fs_51 {n : Int} {y_ : Bool} (h : spec_l24Width n = some y_) : c_51.F [.int .i64 n] = ⟨true, .bool y_, [.any]⟩ := by
 refine mkF_E rfl ?_
 dsimp only [spec_l24Width] at h
 obtain ⟨y_1, z1, h⟩ := bd_some h
 have fz1 := Fs_33 z1
 try simp only [go_sem] at fz1
 obtain rfl := so_some h
 refine ⟨0, fun L hL => ?_⟩
 simp only [go_sem, ir70, fz1]


def ir52_v : List Nat := [0, 1, 4]
def ir52 : AFn := ⟨2, 3, .seq (.region false [ VO 2 4 (.mov (I6 0))]) (.seq (.test false [ PM 5 0, PO 6 (.call 42 [(.s 0)]), PO 7 (.un .not (.s 0))] (.s 0) (.seq (.region false [ VO 2 4 (.mov (I6 7))]) (.ret)) (.skip)) (.seq (.test false [ PM 8 1, PO 9 (.call 70 [(.s 0)]), PO 10 (.un .not (.s 0))] (.s 0) (.seq (.region false [ VO 2 4 (.mov (I6 2))]) (.ret)) (.skip)) (.seq (.test false [ PM 11 0, PO 12 (.len true (.s 0)), PM 13 1, PO 14 (.bin false .gtr (.s 1) (.s 0))] (.s 0) (.seq (.region false [ VO 2 4 (.mov (I6 5))]) (.ret)) (.skip)) (.seq (.region false [ VO 2 4 (.mov (I6 0))]) (.ret))))),
 [.t 2]⟩
noncomputable def t_52 : List (Nat × Ctr) := [(42, c_21), (70, c_51)]
theorem lk_52_42 : look t_52 42 = some c_21 := rfl
theorem lk_52_70 : look t_52 70 = some c_51 := rfl
noncomputable def c_52 : Ctr := mkF t_52 ir52 [.bor, .bor]
theorem s_52 : Sound Tryz.prog 52 c_52 := mkF_sound _ rfl (snd_cons s_21 (snd_cons s_51 snd_nil)) (by kernel_rfl : chkFn Tryz.prog 52 ir52 ir52_v = true)
theorem M_52 : c_52.modes = [.bor, .bor] := rfl
theorem Fl_52 : c_52.flat = true := rfl
attribute [go_sem] M_52 Fl_52
attribute [go_sem] lk_52_42 lk_52_70
theorem Fs_52 {s_ : List UInt8} {width : Int} {y_ : Int} (h : spec_l24Code s_ width = some y_) : c_52.F [.str s_, .int .i64 width] = ⟨true, .int .i64 y_, [.any, .any]⟩ := by
 refine mkF_E rfl ?_
 dsimp only [spec_l24Code] at h
 obtain ⟨y_1, z1, h⟩ := bd_some h
 have fz1 := Fs_21 z1
 try simp only [go_sem] at fz1
 rcases it_some h with ⟨z2, h⟩ | ⟨z2, h⟩
 ·try simp only [go_sem, n1, n2, n3, n4] at z2
  all_goals
  obtain rfl := so_some h
  refine ⟨0, fun L hL => ?_⟩
  simp only [go_sem, ir52, fz1, z2]
 ·try simp only [go_sem, n1, n2, n3, n4] at z2
  all_goals
  obtain ⟨y_3, z3, h⟩ := bd_some h
  have fz3 := Fs_51 z3
  try simp only [go_sem, z2] at fz3
  rcases it_some h with ⟨z4, h⟩ | ⟨z4, h⟩
  ·try simp only [go_sem, n1, n2, n3, n4, z2] at z4
   all_goals
   obtain rfl := so_some h
   refine ⟨0, fun L hL => ?_⟩
   simp only [go_sem, ir52, fz1, z2, fz3, z4]
  ·try simp only [go_sem, n1, n2, n3, n4, z2] at z4
   all_goals
   rcases it_some h with ⟨z5, h⟩ | ⟨z5, h⟩
   ·try simp only [go_sem, n1, n2, n3, n4, z2, z4] at z5
    all_goals
    obtain rfl := so_some h
    refine ⟨0, fun L hL => ?_⟩
    simp only [go_sem, ir52, fz1, z2, fz3, z4, z5]
   ·try simp only [go_sem, n1, n2, n3, n4, z2, z4] at z5
    all_goals
    obtain rfl := so_some h
    refine ⟨0, fun L hL => ?_⟩
    simp only [go_sem, ir52, fz1, z2, fz3, z4, z5]


def ir21_v : List Nat := [0, 1, 4, 5, 6]
def ir21 : AFn := ⟨2, 5, .seq (.region false [ VO 2 4 (.mov (.c (.str []))), VO 3 5 (.mov (I6 0))]) (.seq (.region false [ PM 7 0, PM 8 1, PO 9 (.call 52 [(.s 1), (.s 0)]), VS 4 6 0]) (.seq (.test false [ PM 10 4, PO 11 (.bin false .neq (.s 0) (I6 0))] (.s 0) (.seq (.region false [ PM 12 4, VO 2 4 (.mov (.c (.str []))), VS 3 5 0]) (.ret)) (.skip)) (.seq (.region false [ PM 13 1, PM 14 0, PO 15 (.len true (.s 0)), PO 16 (.bin false .sub (.s 2) (.s 0)), PO 17 (.call 35 [(.s 0)]), PM 18 0, PO 19 (.bin false .add (.s 1) (.s 0)), VS 2 4 0, VO 3 5 (.mov (I6 0))]) (.ret)))), [.t 2, .t 3]⟩
noncomputable def t_53 : List (Nat × Ctr) := [(52, c_52), (35, c_7)]
theorem lk_53_52 : look t_53 52 = some c_52 := rfl
theorem lk_53_35 : look t_53 35 = some c_7 := rfl
noncomputable def c_53 : Ctr := mkF t_53 ir21 [.bor, .bor]
theorem s_53 : Sound Tryz.prog 21 c_53 := mkF_sound _ rfl (snd_cons s_52 (snd_cons s_7 snd_nil)) (by kernel_rfl : chkFn Tryz.prog 21 ir21 ir21_v = true)
theorem M_53 : c_53.modes = [.bor, .bor] := rfl
theorem Fl_53 : c_53.flat = true := rfl
attribute [go_sem] M_53 Fl_53
attribute [go_sem] lk_53_52 lk_53_35
theorem Fs_53 {s_ : List UInt8} {width : Int} {y_ : (List UInt8) × Int} (h : spec_PadLeft s_ width = some y_) : c_53.F [.str s_, .int .i64 width] = ⟨true, .tup [.str y_.1, .int .i64 y_.2], [.any, .any]⟩ := by
 refine mkF_E rfl ?_
 dsimp only [spec_PadLeft] at h
 obtain ⟨y_1, z1, h⟩ := bd_some h
 have fz1 := Fs_52 z1
 try simp only [go_sem] at fz1
 rcases it_some h with ⟨z2, h⟩ | ⟨z2, h⟩
 ·try simp only [go_sem, n1, n2, n3, n4] at z2
  all_goals
  obtain rfl := so_some h
  refine ⟨0, fun L hL => ?_⟩
  simp only [go_sem, ir21, fz1, z2]
 ·try simp only [go_sem, n1, n2, n3, n4] at z2
  all_goals
  obtain ⟨y_3, z3, h⟩ := bd_some h
  have fz3 := Fs_7 z3
  try simp only [go_sem, z2] at fz3
  obtain ⟨z4, h⟩ := ck_some h
  try simp only [go_sem, n1, n2, n3, n4, z2] at z4
  all_goals
  obtain rfl := so_some h
  refine ⟨0, fun L hL => ?_⟩
  simp only [go_sem, ir21, fz1, z2, fz3, z4]


def ir23_v : List Nat := [0, 1, 4, 5, 6]
def ir23 : AFn := ⟨2, 5, .seq (.region false [ VO 2 4 (.mov (.c (.str []))), VO 3 5 (.mov (I6 0))]) (.seq (.region false [ PM 7 0, PM 8 1, PO 9 (.call 52 [(.s 1), (.s 0)]), VS 4 6 0]) (.seq (.test false [ PM 10 4, PO 11 (.bin false .neq (.s 0) (I6 0))] (.s 0) (.seq (.region false [ PM 12 4, VO 2 4 (.mov (.c (.str []))), VS 3 5 0]) (.ret)) (.skip)) (.seq (.region false [ PM 13 0, PM 14 1, PM 15 0, PO 16 (.len true (.s 0)), PO 17 (.bin false .sub (.s 2) (.s 0)), PO 18 (.call 35 [(.s 0)]), PO 19 (.bin false .add (.s 5) (.s 0)), VS 2 4 0, VO 3 5 (.mov (I6 0))]) (.ret)))), [.t 2, .t 3]⟩
noncomputable def t_54 : List (Nat × Ctr) := [(52, c_52), (35, c_7)]
theorem lk_54_52 : look t_54 52 = some c_52 := rfl
theorem lk_54_35 : look t_54 35 = some c_7 := rfl
noncomputable def c_54 : Ctr := mkF t_54 ir23 [.bor, .bor]
theorem s_54 : Sound Tryz.prog 23 c_54 := mkF_sound _ rfl (snd_cons s_52 (snd_cons s_7 snd_nil)) (by kernel_rfl : chkFn Tryz.prog 23 ir23 ir23_v = true)
theorem M_54 : c_54.modes = [.bor, .bor] := rfl
theorem Fl_54 : c_54.flat = true := rfl
attribute [go_sem] M_54 Fl_54
attribute [go_sem] lk_54_52 lk_54_35
theorem Fs_54 {s_ : List UInt8} {width : Int} {y_ : (List UInt8) × Int} (h : spec_PadRight s_ width = some y_) : c_54.F [.str s_, .int .i64 width] = ⟨true, .tup [.str y_.1, .int .i64 y_.2], [.any, .any]⟩ := by
 refine mkF_E rfl ?_
 dsimp only [spec_PadRight] at h
 obtain ⟨y_1, z1, h⟩ := bd_some h
 have fz1 := Fs_52 z1
 try simp only [go_sem] at fz1
 rcases it_some h with ⟨z2, h⟩ | ⟨z2, h⟩
 ·try simp only [go_sem, n1, n2, n3, n4] at z2
  all_goals
  obtain rfl := so_some h
  refine ⟨0, fun L hL => ?_⟩
  simp only [go_sem, ir23, fz1, z2]
 ·try simp only [go_sem, n1, n2, n3, n4] at z2
  all_goals
  obtain ⟨y_3, z3, h⟩ := bd_some h
  have fz3 := Fs_7 z3
  try simp only [go_sem, z2] at fz3
  obtain ⟨z4, h⟩ := ck_some h
  try simp only [go_sem, n1, n2, n3, n4, z2] at z4
  all_goals
  obtain rfl := so_some h
  refine ⟨0, fun L hL => ?_⟩
  simp only [go_sem, ir23, fz1, z2, fz3, z4]


def ir24_b0 : IR := .seq (.test false [ PM 11 3, PM 12 0, PO 13 (.len false (.s 0)), PO 14 (.bin false .lss (.s 2) (.s 0))] (.s 0) (.skip) (.exit 0)) (.seq (.block 1 (.anyo 9 [ SO 0 17 (.mov (.v 0)), SO 1 18 (.mov (.v 3)), SO 2 19 (.ixAddr 1 (.s 0) (.s 1)), SO 3 20 (.load false 1 (.s 2)), SO 4 21 (.mov (.v 1)), SO 5 22 (.mov (.v 3)), SO 6 23 (.ixAddr 1 (.s 4) (.s 5)), SO 7 24 (.load false 1 (.s 6)), SO 8 25 (.bin false .neq (.s 3) (.s 7))] [] (.cond (.s 8) (.seq (.region false [ VO 2 4 (.mov (.c (.bool false)))]) (.ret)) (.skip)))) (.region false [ PM 15 3, PO 16 (.bin false .add (.s 0) (I6
 1)), VS 3 5 0]))
def ir24_k0 : List Bool := [true, true, false, true]
def ir24_o0 : List Bool := [false, false, false, false]
def ir24_r0 : List Bool := [false, false, true, false]
def ir24_v : List Nat := [0, 1, 4, 5]
def ir24 : AFn := ⟨2, 4, .seq (.region false [ VO 2 4 (.mov (.c (.bool false)))]) (.seq (.test false [ PM 6 0, PO 7 (.len false (.s 0)), PM 8 1, PO 9 (.len false (.s 0)), PO 10 (.bin false .neq (.s 2) (.s 0))] (.s 0) (.seq (.region false [ VO 2 4 (.mov (.c (.bool false)))]) (.ret)) (.skip)) (.seq (.seq (.region false [ VO 3 5 (.mov (I6 0))]) (.block 0 (.loop ir24_k0 ir24_o0 ir24_r0 ir24_b0))) (.seq (.region false [ VO 2 4 (.mov (.c (.bool true)))]) (.ret)))), [.t 2]⟩
noncomputable def t_55 : List (Nat × Ctr) := []
noncomputable def c_55 : Ctr := mkF t_55 ir24 [.bor, .bor]
theorem s_55 : Sound Tryz.prog 24 c_55 := mkF_sound _ rfl snd_nil (by kernel_rfl : chkFn Tryz.prog 24 ir24 ir24_v = true)
theorem M_55 : c_55.modes = [.bor, .bor] := rfl
theorem Fl_55 : c_55.flat = true := rfl
attribute [go_sem] M_55 Fl_55
def E_55_l1 (a : List (List UInt8)) (b : List (List UInt8)) : Int → St
 | i => ⟨[.sl 1 (List.map AV.str a), .sl 1 (List.map AV.str b), .any, .int .i64 i], [], [], true⟩
def R_55_l1 (a : List (List UInt8)) (b : List (List UInt8)) : (Unit ⊕ Bool) → Res
 | .inl y => (.exit 0, ⟨[.any, .any, .any, .any], [], [], true⟩)
 | .inr y => (.ret, ⟨[.any, .any, .bool y, .any], [], [], true⟩)
theorem laws_f6texts_l1_ex {a : List (List UInt8)} {b : List (List UInt8)} {sgm_ : Int} {rho_ : Unit ⊕ Bool} (h : whileE (laws_f6texts_l1 a b) sgm_ = some rho_) : ∃ L0, ∀ L, L0 ≤ L → iter (exec (look t_55) L ir24_b0) ir24_k0 ir24_o0 ir24_r0 L (E_55_l1 a b sgm_) = R_55_l1 a b rho_ := by
 refine loop_ex (E := E_55_l1 a b) (R := R_55_l1 a b) (fun y => by first | (intro c; cases c) | (rcases y with y | y <;> (intro c; cases c)) | (rcases y with y | y | y <;> (intro c; cases c))) ?_ h
 clear h
 intro i o_ h
 dsimp only [laws_f6texts_l1] at h
 rcases it_some h with ⟨z2, h⟩ | ⟨z2, h⟩
 ·try simp only [go_sem, n1, n2, n3, n4] at z2
  all_goals
  obtain ⟨z3, h⟩ := ck_some h
  have lz3 := ix_lt z3
  have xz3 := getD_mapD AV.str a lz3
  try simp only [go_sem] at lz3
  try simp only [go_sem] at xz3
  try simp only [go_sem, n1, n2, n3, n4, z2] at z3
  all_goals
  obtain ⟨z4, h⟩ := ck_some h
  have lz4 := ix_lt z4
  have xz4 := getD_mapD AV.str b lz4
  try simp only [go_sem] at lz4
  try simp only [go_sem] at xz4
  try simp only [go_sem, n1, n2, n3, n4, z2, z3] at z4
  all_goals
  rcases it_some h with ⟨z5, h⟩ | ⟨z5, h⟩
  ·try simp only [go_sem, n1, n2, n3, n4, z2, z3, z4] at z5
   all_goals
   obtain rfl := so_some h
   refine ⟨0, fun L hL => ?_⟩
   simp only [go_sem, ir24, E_55_l1, R_55_l1, ir24_b0, ir24_k0, ir24_o0, ir24_r0, z2, z3, lz3, xz3, z4, lz4, xz4, z5]
  ·try simp only [go_sem, n1, n2, n3, n4, z2, z3, z4] at z5
   all_goals
   obtain rfl := so_some h
   refine ⟨0, fun L hL => ?_⟩
   simp only [go_sem, ir24, E_55_l1, R_55_l1, ir24_b0, ir24_k0, ir24_o0, ir24_r0, z2, z3, lz3, xz3, z4, lz4, xz4, z5]
 ·try simp only [go_sem, n1, n2, n3, n4] at z2
  all_goals
  obtain rfl := so_some h
  refine ⟨0, fun L hL => ?_⟩
  simp only [go_sem, ir24, E_55_l1, R_55_l1, ir24_b0, ir24_k0, ir24_o0, ir24_r0, z2]

theorem Fs_55 {a : List (List UInt8)} {b : List (List UInt8)} {y_ : Bool} (h : laws_f6texts a b = some y_) : c_55.F [.sl 1 (List.map AV.str a), .sl 1 (List.map AV.str b)] = ⟨true, .bool y_, [.any, .any]⟩ := by
 refine mkF_E rfl ?_
 dsimp only [laws_f6texts] at h
 rcases it_some h with ⟨z1, h⟩ | ⟨z1, h⟩
 ·try simp only [go_sem, n1, n2, n3, n4] at z1
  all_goals
  obtain rfl := so_some h
  refine ⟨0, fun L hL => ?_⟩
  simp only [go_sem, ir24, E_55_l1, R_55_l1, ir24_k0, ir24_o0, ir24_r0, z1]
 ·try simp only [go_sem, n1, n2, n3, n4] at z1
  all_goals
  obtain ⟨y_6, z6, h⟩ := bd_some h
  obtain ⟨Lz6, ez6⟩ := laws_f6texts_l1_ex z6
  rcases y_6 with y_6a | y_6b
  ·dsimp only at h
   obtain rfl := so_some h
   refine ⟨Lz6, fun L hL => ?_⟩
   have ez6 := ez6 L (by omega)
   try simp only [go_sem, E_55_l1, R_55_l1, ir24_k0, ir24_o0, ir24_r0, z1] at ez6
   simp only [go_sem, ir24, E_55_l1, R_55_l1, ir24_k0, ir24_o0, ir24_r0, z1, ez6]
  ·dsimp only at h
   obtain rfl := so_some h
   refine ⟨Lz6, fun L hL => ?_⟩
   have ez6 := ez6 L (by omega)
   try simp only [go_sem, E_55_l1, R_55_l1, ir24_k0, ir24_o0, ir24_r0, z1] at ez6
   simp only [go_sem, ir24, E_55_l1, R_55_l1, ir24_k0, ir24_o0, ir24_r0, z1, ez6]


def ir25_b0 : IR := .seq (.test false [ PM 11 3, PM 12 0, PO 13 (.len false (.s 0)), PO 14 (.bin false .lss (.s 2) (.s 0))] (.s 0) (.skip) (.exit 0)) (.seq (.block 1 (.anyo 9 [ SO 0 17 (.mov (.v 0)), SO 1 18 (.mov (.v 3)), SO 2 19 (.ixAddr 1 (.s 0) (.s 1)), SO 3 20 (.load false 1 (.s 2)), SO 4 21 (.mov (.v 1)), SO 5 22 (.mov (.v 3)), SO 6 23 (.ixAddr 1 (.s 4) (.s 5)), SO 7 24 (.load false 1 (.s 6)), SO 8 25 (.bin false .neq (.s 3) (.s 7))] [] (.cond (.s 8) (.seq (.region false [ VO 2 4 (.mov (.c (.bool false)))]) (.ret)) (.skip)))) (.region false [ PM 15 3, PO 16 (.bin false .add (.s 0) (I6
 1)), VS 3 5 0]))
def ir25_k0 : List Bool := [true, true, false, true]
def ir25_o0 : List Bool := [false, false, false, false]
def ir25_r0 : List Bool := [false, false, true, false]
def ir25_v : List Nat := [0, 1, 4, 5]
def ir25 : AFn := ⟨2, 4, .seq (.region false [ VO 2 4 (.mov (.c (.bool false)))]) (.seq (.test false [ PM 6 0, PO 7 (.len false (.s 0)), PM 8 1, PO 9 (.len false (.s 0)), PO 10 (.bin false .neq (.s 2) (.s 0))] (.s 0) (.seq (.region false [ VO 2 4 (.mov (.c (.bool false)))]) (.ret)) (.skip)) (.seq (.seq (.region false [ VO 3 5 (.mov (I6 0))]) (.block 0 (.loop ir25_k0 ir25_o0 ir25_r0 ir25_b0))) (.seq (.region false [ VO 2 4 (.mov (.c (.bool true)))]) (.ret)))), [.t 2]⟩
noncomputable def t_56 : List (Nat × Ctr) := []
noncomputable def c_56 : Ctr := mkF t_56 ir25 [.bor, .bor]
theorem s_56 : Sound Tryz.prog 25 c_56 := mkF_sound _ rfl snd_nil (by kernel_rfl : chkFn Tryz.prog 25 ir25 ir25_v = true)
theorem M_56 : c_56.modes = [.bor, .bor] := rfl
theorem Fl_56 : c_56.flat = true := rfl
attribute [go_sem] M_56 Fl_56
def E_56_l1 (a : List Int) (b : List Int) : Int → St
 | i => ⟨[.sl 1 (List.map (AV.int .i64) a), .sl 1 (List.map (AV.int .i64) b), .any, .int .i64 i], [], [], true⟩
def R_56_l1 (a : List Int) (b : List Int) : (Unit ⊕ Bool) → Res
 | .inl y => (.exit 0, ⟨[.any, .any, .any, .any], [], [], true⟩)
 | .inr y => (.ret, ⟨[.any, .any, .bool y, .any], [], [], true⟩)
theorem laws_f6ints_l1_ex {a : List Int} {b : List Int} {sgm_ : Int} {rho_ : Unit ⊕ Bool} (h : whileE (laws_f6ints_l1 a b) sgm_ = some rho_) : ∃ L0, ∀ L, L0 ≤ L → iter (exec (look t_56) L ir25_b0) ir25_k0 ir25_o0 ir25_r0 L (E_56_l1 a b sgm_) = R_56_l1 a b rho_ := by
 refine loop_ex (E := E_56_l1 a b) (R := R_56_l1 a b) (fun y => by first | (intro c; cases c) | (rcases y with y | y <;> (intro c; cases c)) | (rcases y with y | y | y <;> (intro c; cases c))) ?_ h
 clear h
 intro i o_ h
 dsimp only [laws_f6ints_l1] at h
 rcases it_some h with ⟨z2, h⟩ | ⟨z2, h⟩
 ·try simp only [go_sem, n1, n2, n3, n4] at z2
  all_goals
  obtain ⟨z3, h⟩ := ck_some h
  have lz3 := ix_lt z3
  have xz3 := getD_mapD (AV.int .i64) a lz3
  try simp only [go_sem] at lz3
  try simp only [go_sem] at xz3
  try simp only [go_sem, n1, n2, n3, n4, z2] at z3
  all_goals
  obtain ⟨z4, h⟩ := ck_some h
  have lz4 := ix_lt z4
  have xz4 := getD_mapD (AV.int .i64) b lz4
  try simp only [go_sem] at lz4
  try simp only [go_sem] at xz4
  try simp only [go_sem, n1, n2, n3, n4, z2, z3] at z4
  all_goals
  rcases it_some h with ⟨z5, h⟩ | ⟨z5, h⟩
  ·try simp only [go_sem, n1, n2, n3, n4, z2, z3, z4] at z5
   all_goals
   obtain rfl := so_some h
   refine ⟨0, fun L hL => ?_⟩
   simp only [go_sem, ir25, E_56_l1, R_56_l1, ir25_b0, ir25_k0, ir25_o0, ir25_r0, z2, z3, lz3, xz3, z4, lz4, xz4, z5]
  ·try simp only [go_sem, n1, n2, n3, n4, z2, z3, z4] at z5
   all_goals
   obtain rfl := so_some h
   refine ⟨0, fun L hL => ?_⟩
   simp only [go_sem, ir25, E_56_l1, R_56_l1, ir25_b0, ir25_k0, ir25_o0, ir25_r0, z2, z3, lz3, xz3, z4, lz4, xz4, z5]
 ·try simp only [go_sem, n1, n2, n3, n4] at z2
  all_goals
  obtain rfl := so_some h
  refine ⟨0, fun L hL => ?_⟩
  simp only [go_sem, ir25, E_56_l1, R_56_l1, ir25_b0, ir25_k0, ir25_o0, ir25_r0, z2]

theorem Fs_56 {a : List Int} {b : List Int} {y_ : Bool} (h : laws_f6ints a b = some y_) : c_56.F [.sl 1 (List.map (AV.int .i64) a), .sl 1 (List.map (AV.int .i64) b)] = ⟨true, .bool y_, [.any, .any]⟩ := by
 refine mkF_E rfl ?_
 dsimp only [laws_f6ints] at h
 rcases it_some h with ⟨z1, h⟩ | ⟨z1, h⟩
 ·try simp only [go_sem, n1, n2, n3, n4] at z1
  all_goals
  obtain rfl := so_some h
  refine ⟨0, fun L hL => ?_⟩
  simp only [go_sem, ir25, E_56_l1, R_56_l1, ir25_k0, ir25_o0, ir25_r0, z1]
 ·try simp only [go_sem, n1, n2, n3, n4] at z1
  all_goals
  obtain ⟨y_6, z6, h⟩ := bd_some h
  obtain ⟨Lz6, ez6⟩ := laws_f6ints_l1_ex z6
  rcases y_6 with y_6a | y_6b
  ·dsimp only at h
   obtain rfl := so_some h
   refine ⟨Lz6, fun L hL => ?_⟩
   have ez6 := ez6 L (by omega)
   try simp only [go_sem, E_56_l1, R_56_l1, ir25_k0, ir25_o0, ir25_r0, z1] at ez6
   simp only [go_sem, ir25, E_56_l1, R_56_l1, ir25_k0, ir25_o0, ir25_r0, z1, ez6]
  ·dsimp only at h
   obtain rfl := so_some h
   refine ⟨Lz6, fun L hL => ?_⟩
   have ez6 := ez6 L (by omega)
   try simp only [go_sem, E_56_l1, R_56_l1, ir25_k0, ir25_o0, ir25_r0, z1] at ez6
   simp only [go_sem, ir25, E_56_l1, R_56_l1, ir25_k0, ir25_o0, ir25_r0, z1, ez6]


end Go.Proofs.YtambhaccpbhnhaaGreatDoor
