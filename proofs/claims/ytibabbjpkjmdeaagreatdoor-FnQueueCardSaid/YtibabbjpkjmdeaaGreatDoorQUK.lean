/- Codes and contracts of the functions that QU reaches, and that their typed forms say what they do. No condition. -/
import Derived.Test.YtibabbjpkjmdeaaGreatDoorQUKa
import Derived.Test.YtibabbjpkjmdeaaGreatDoorRows
import Derived.WalkKit
namespace Go.Proofs.YtibabbjpkjmdeaaGreatDoor
open Go Go.RowKit
set_option linter.unusedVariables false
set_option linter.unusedSimpArgs false
set_option maxRecDepth 10000

def ir48_v : List Nat := [0, 2, 3, 4, 5, 6]
def ir48 : AFn := ⟨1, 6, .seq (.region false [ VO 1 2 (.newnil 6), VO 2 3 (.newnil 6)]) (.seq (.region false [ PM 7 0, PO 8 (.call 54 [(.s 0)]), VS 3 4 0]) (.seq (.region false [ PM 9 3, PO 10 (.call 98 [(.s 0)]), VS 4 5 0]) (.seq (.region false [ PO 11 (.mkSl 6 (.agg [.str [], .int .i64 (0), .int .i64 (0), .int .i64 (0), .int .i64 (0), .int .i64 (0)]) 0 []), PM 12 4, PO 13 (.app 6 56 (.agg [.str [], .int .i64 (0), .int .i64 (0), .int .i64 (0), .int .i64 (0), .int .i64 (0)]) (.s 1) (.s 0)), VS 5 6 0]) (.seq (.test false [ PM 14 5, PO 15 (.len false (.s 0)), PO 16 (.bin false .gtr (.s 0) (I6
 0)), PO 17 (.mov (.s 0)), ⟨.push, 18, (some ((.s 0), true)), .mov (.v 3)⟩, ⟨.push, 19, (some ((.s 1), true)), .callw 58 [(.s 0), (I6 2)]⟩, PO 20 (.pick (.s 2) (.s 0) (.c (.bool false)))] (.s 0) (.anyo 9 [ SO 0 21 (.mov (.v 5)), SO 1 22 (.ixAddr 6 (.s 0) (I6 0)), SO 2 23 (.fldAddr 4 (.s 1)), SO 3 24 (.load false 1 (.s 2)), SO 4 25 (.mov (.v 3)), SO 5 26 (.call 70 [(.s 4), (I6 2)]), SO 6 27 (.flat (.bin false .add (.s 3) (.s 5))), SO 7 28 (.ixAddr 6 (.s 0) (I6 0)), SO 8 29 (.fldAddr 4 (.s 7)), ⟨.no, 0, none, .store 1 (.s 8) (.s 6)⟩] [[4, 0, 1, 2, 3, 5, 6, 7, 8, 9], [4, 0, 1, 2, 5, 3, 6, 7, 8,
 9], [4, 0, 1, 5, 2, 3, 6, 7, 8, 9], [4, 0, 5, 1, 2, 3, 6, 7, 8, 9], [4, 5, 0, 1, 2, 3, 6, 7, 8, 9]] .skip) (.skip)) (.seq (.test false [ PM 30 3, PO 31 (.call 58 [(.s 0), (I6 5)])] (.s 0) (.region false [ PM 32 5, PO 33 (.build [.str [], .int .i64 (0), .int .i64 (0), .int .i64 (0), .int .i64 (0), .int .i64 (0)] []), PO 34 (.mkSl 6 (.agg [.str [], .int .i64 (0), .int .i64 (0), .int .i64 (0), .int .i64 (0), .int .i64 (0)]) 1 [(0, (.s 0))]), PO 35 (.app 6 56 (.agg [.str [], .int .i64 (0), .int .i64 (0), .int .i64 (0), .int .i64 (0), .int .i64 (0)]) (.s 2) (.s 0)), VS 5 6 0]) (.skip)) (.seq
 (.region false [ PM 36 4, PM 37 5, VS 1 2 1, VS 2 3 0]) (.ret))))))), [.t 1, .t 2]⟩
noncomputable def t_74 : List (Nat × Ctr) := [(54, c_1), (98, c_10), (58, c_4), (70, c_3)]
theorem lk_74_54 : look t_74 54 = some c_1 := rfl
theorem lk_74_98 : look t_74 98 = some c_10 := rfl
theorem lk_74_58 : look t_74 58 = some c_4 := rfl
theorem lk_74_70 : look t_74 70 = some c_3 := rfl
noncomputable def c_74 : Ctr := mkF t_74 ir48 [.bor]
theorem s_74 : Sound Tryz.prog 48 c_74 := mkF_sound _ rfl (snd_cons s_1 (snd_cons s_10 (snd_cons s_4 (snd_cons s_3 snd_nil)))) (by kernel_rfl : chkFn Tryz.prog 48 ir48 ir48_v = true)
theorem M_74 : c_74.modes = [.bor] := rfl
theorem Fl_74 : c_74.flat = true := rfl
attribute [go_sem] M_74 Fl_74
attribute [go_sem] lk_74_54 lk_74_98 lk_74_58 lk_74_70
theorem Fs_74 {code : List UInt8} {y_ : (List Request) × (List Request)} (h : spec_DrawSameRequests code = some y_) : c_74.F [.sl 1 (List.map byteAV code)] = ⟨true, .tup [.fresh 6 (List.map Request_av y_.1), .fresh 6 (List.map Request_av y_.2)], [.any]⟩ := by
 refine mkF_E (by simp only [flatA, flatB, flat1, List.all_cons, List.all_nil, Bool.and_self, flatE_map (f := Request_av) (fun _ => rfl), flatE_map (f := Request_av) (fun _ => rfl)]) ?_
 dsimp only [spec_DrawSameRequests] at h
 obtain ⟨y_1, z1, h⟩ := bd_some h
 have fz1 := Fs_1 z1
 try simp only [go_sem] at fz1
 obtain ⟨y_2, z2, h⟩ := bd_some h
 have fz2 := Fs_10 z2
 try simp only [go_sem] at fz2
 obtain ⟨z3, h⟩ := ck_some h
 try simp only [go_sem, n1, n2, n3, n4] at z3
 all_goals
 rcases it_some h with ⟨z4, h⟩ | ⟨z4, h⟩
 ·try simp only [go_sem, n1, n2, n3, n4, z3] at z4
  all_goals
  obtain ⟨y_5, z5, h⟩ := bd_some h
  have fz5 := Fs_4 z5
  try simp only [go_sem, z3, z4] at fz5
  rcases it_some h with ⟨z6, h⟩ | ⟨z6, h⟩
  ·try simp only [go_sem, n1, n2, n3, n4, z3, z4] at z6
   all_goals
   obtain ⟨z7, h⟩ := ck_some h
   have lz7 := ix_lt z7
   have xz7 := getD_mapD Request_av (([] : List Request) ++ y_2.1) lz7
   try simp only [go_sem] at lz7
   try simp only [go_sem] at xz7
   try simp only [go_sem, n1, n2, n3, n4, z3, z4, z6] at z7
   all_goals
   obtain ⟨y_8, z8, h⟩ := bd_some h
   have fz8 := Fs_3 z8
   try simp only [go_sem, z3, z4, z6, z7] at fz8
   obtain ⟨y_9, z9, h⟩ := bd_some h
   have fz9 := Fs_4 z9
   try simp only [go_sem, z3, z4, z6, z7] at fz9
   rcases it_some h with ⟨z10, h⟩ | ⟨z10, h⟩
   ·try simp only [go_sem, n1, n2, n3, n4, z3, z4, z6, z7] at z10
    all_goals
    obtain ⟨z11, h⟩ := ck_some h
    try simp only [go_sem, n1, n2, n3, n4, z3, z4, z6, z7, z10] at z11
    all_goals
    obtain rfl := so_some h
    refine ⟨0, fun L hL => ?_⟩
    simp only [go_sem, ir48, fz1, fz2, z3, z4, fz5, z6, z7, lz7, xz7, fz8, fz9, z10, z11]
   ·try simp only [go_sem, n1, n2, n3, n4, z3, z4, z6, z7] at z10
    all_goals
    obtain rfl := so_some h
    refine ⟨0, fun L hL => ?_⟩
    simp only [go_sem, ir48, fz1, fz2, z3, z4, fz5, z6, z7, lz7, xz7, fz8, fz9, z10]
  ·try simp only [go_sem, n1, n2, n3, n4, z3, z4] at z6
   all_goals
   obtain ⟨y_12, z12, h⟩ := bd_some h
   have fz12 := Fs_4 z12
   try simp only [go_sem, z3, z4, z6] at fz12
   rcases it_some h with ⟨z13, h⟩ | ⟨z13, h⟩
   ·try simp only [go_sem, n1, n2, n3, n4, z3, z4, z6] at z13
    all_goals
    obtain ⟨z14, h⟩ := ck_some h
    try simp only [go_sem, n1, n2, n3, n4, z3, z4, z6, z13] at z14
    all_goals
    obtain rfl := so_some h
    refine ⟨0, fun L hL => ?_⟩
    simp only [go_sem, ir48, fz1, fz2, z3, z4, fz5, z6, fz12, z13, z14]
   ·try simp only [go_sem, n1, n2, n3, n4, z3, z4, z6] at z13
    all_goals
    obtain rfl := so_some h
    refine ⟨0, fun L hL => ?_⟩
    simp only [go_sem, ir48, fz1, fz2, z3, z4, fz5, z6, fz12, z13]
 ·try simp only [go_sem, n1, n2, n3, n4, z3] at z4
  all_goals
  obtain ⟨y_15, z15, h⟩ := bd_some h
  have fz15 := Fs_4 z15
  try simp only [go_sem, z3, z4] at fz15
  rcases it_some h with ⟨z16, h⟩ | ⟨z16, h⟩
  ·try simp only [go_sem, n1, n2, n3, n4, z3, z4] at z16
   all_goals
   obtain ⟨z17, h⟩ := ck_some h
   try simp only [go_sem, n1, n2, n3, n4, z3, z4, z16] at z17
   all_goals
   obtain rfl := so_some h
   refine ⟨0, fun L hL => ?_⟩
   simp only [go_sem, ir48, fz1, fz2, z3, z4, fz15, z16, z17]
  ·try simp only [go_sem, n1, n2, n3, n4, z3, z4] at z16
   all_goals
   obtain rfl := so_some h
   refine ⟨0, fun L hL => ?_⟩
   simp only [go_sem, ir48, fz1, fz2, z3, z4, fz15, z16]


def ir26_b0 : IR := .seq (.test false [ PM 11 3, PM 12 0, PO 13 (.len false (.s 0)), PO 14 (.bin false .lss (.s 2) (.s 0))] (.s 0) (.skip) (.exit 0)) (.seq (.block 1 (.anyo 9 [ SO 0 17 (.mov (.v 0)), SO 1 18 (.mov (.v 3)), SO 2 19 (.ixAddr 1 (.s 0) (.s 1)), SO 3 20 (.load false 1 (.s 2)), SO 4 21 (.mov (.v 1)), SO 5 22 (.mov (.v 3)), SO 6 23 (.ixAddr 1 (.s 4) (.s 5)), SO 7 24 (.load false 1 (.s 6)), SO 8 25 (.bin false .neq (.s 3) (.s 7))] [] (.cond (.s 8) (.seq (.region false [ VO 2 4 (.mov (.c (.bool false)))]) (.ret)) (.skip)))) (.region false [ PM 15 3, PO 16 (.bin false .add (.s 0) (I6
 1)), VS 3 5 0]))
def ir26_k0 : List Bool := [true, true, false, true]
def ir26_o0 : List Bool := [false, false, false, false]
def ir26_r0 : List Bool := [false, false, true, false]
def ir26_v : List Nat := [0, 1, 4, 5]
def ir26 : AFn := ⟨2, 4, .seq (.region false [ VO 2 4 (.mov (.c (.bool false)))]) (.seq (.test false [ PM 6 0, PO 7 (.len false (.s 0)), PM 8 1, PO 9 (.len false (.s 0)), PO 10 (.bin false .neq (.s 2) (.s 0))] (.s 0) (.seq (.region false [ VO 2 4 (.mov (.c (.bool false)))]) (.ret)) (.skip)) (.seq (.seq (.region false [ VO 3 5 (.mov (I6 0))]) (.block 0 (.loop ir26_k0 ir26_o0 ir26_r0 ir26_b0))) (.seq (.region false [ VO 2 4 (.mov (.c (.bool true)))]) (.ret)))), [.t 2]⟩
noncomputable def t_75 : List (Nat × Ctr) := []
noncomputable def c_75 : Ctr := mkF t_75 ir26 [.bor, .bor]
theorem s_75 : Sound Tryz.prog 26 c_75 := mkF_sound _ rfl snd_nil (by kernel_rfl : chkFn Tryz.prog 26 ir26 ir26_v = true)
theorem M_75 : c_75.modes = [.bor, .bor] := rfl
theorem Fl_75 : c_75.flat = true := rfl
attribute [go_sem] M_75 Fl_75
def E_75_l1 (a : List Int) (b : List Int) : Int → St
 | i => ⟨[.sl 1 (List.map (AV.int .i64) a), .sl 1 (List.map (AV.int .i64) b), .any, .int .i64 i], [], [], true⟩
def R_75_l1 (a : List Int) (b : List Int) : (Unit ⊕ Bool) → Res
 | .inl y => (.exit 0, ⟨[.any, .any, .any, .any], [], [], true⟩)
 | .inr y => (.ret, ⟨[.any, .any, .bool y, .any], [], [], true⟩)
theorem laws_f6ints_l1_ex {a : List Int} {b : List Int} {sgm_ : Int} {rho_ : Unit ⊕ Bool} (h : whileE (laws_f6ints_l1 a b) sgm_ = some rho_) : ∃ L0, ∀ L, L0 ≤ L → iter (exec (look t_75) L ir26_b0) ir26_k0 ir26_o0 ir26_r0 L (E_75_l1 a b sgm_) = R_75_l1 a b rho_ := by
 refine loop_ex (E := E_75_l1 a b) (R := R_75_l1 a b) (fun y => by first | (intro c; cases c) | (rcases y with y | y <;> (intro c; cases c)) | (rcases y with y | y | y <;> (intro c; cases c))) ?_ h
 clear h
 intro i o_ h
 dsimp only [laws_f6ints_l1] at h
 rcases it_some h with ⟨z2, h⟩ | ⟨z2, h⟩
 ·try simp only [go_sem, n1, n2, n3, n4] at z2
  all_goals
  obtain ⟨z3, h⟩ := ck_some h
  have lz3 := ix_lt z3
  have xz3 := getD_mapD (AV.int .i64) a lz3
  try simp only [go_sem] at lz3
  try simp only [go_sem] at xz3
  try simp only [go_sem, n1, n2, n3, n4, z2] at z3
  all_goals
  obtain ⟨z4, h⟩ := ck_some h
  have lz4 := ix_lt z4
  have xz4 := getD_mapD (AV.int .i64) b lz4
  try simp only [go_sem] at lz4
  try simp only [go_sem] at xz4
  try simp only [go_sem, n1, n2, n3, n4, z2, z3] at z4
  all_goals
  rcases it_some h with ⟨z5, h⟩ | ⟨z5, h⟩
  ·try simp only [go_sem, n1, n2, n3, n4, z2, z3, z4] at z5
   all_goals
   obtain rfl := so_some h
   refine ⟨0, fun L hL => ?_⟩
   simp only [go_sem, ir26, E_75_l1, R_75_l1, ir26_b0, ir26_k0, ir26_o0, ir26_r0, z2, z3, lz3, xz3, z4, lz4, xz4, z5]
  ·try simp only [go_sem, n1, n2, n3, n4, z2, z3, z4] at z5
   all_goals
   obtain rfl := so_some h
   refine ⟨0, fun L hL => ?_⟩
   simp only [go_sem, ir26, E_75_l1, R_75_l1, ir26_b0, ir26_k0, ir26_o0, ir26_r0, z2, z3, lz3, xz3, z4, lz4, xz4, z5]
 ·try simp only [go_sem, n1, n2, n3, n4] at z2
  all_goals
  obtain rfl := so_some h
  refine ⟨0, fun L hL => ?_⟩
  simp only [go_sem, ir26, E_75_l1, R_75_l1, ir26_b0, ir26_k0, ir26_o0, ir26_r0, z2]

theorem Fs_75 {a : List Int} {b : List Int} {y_ : Bool} (h : laws_f6ints a b = some y_) : c_75.F [.sl 1 (List.map (AV.int .i64) a), .sl 1 (List.map (AV.int .i64) b)] = ⟨true, .bool y_, [.any, .any]⟩ := by
 refine mkF_E rfl ?_
 dsimp only [laws_f6ints] at h
 rcases it_some h with ⟨z1, h⟩ | ⟨z1, h⟩
 ·try simp only [go_sem, n1, n2, n3, n4] at z1
  all_goals
  obtain rfl := so_some h
  refine ⟨0, fun L hL => ?_⟩
  simp only [go_sem, ir26, E_75_l1, R_75_l1, ir26_k0, ir26_o0, ir26_r0, z1]
 ·try simp only [go_sem, n1, n2, n3, n4] at z1
  all_goals
  obtain ⟨y_6, z6, h⟩ := bd_some h
  obtain ⟨Lz6, ez6⟩ := laws_f6ints_l1_ex z6
  rcases y_6 with y_6a | y_6b
  ·dsimp only at h
   obtain rfl := so_some h
   refine ⟨Lz6, fun L hL => ?_⟩
   have ez6 := ez6 L (by omega)
   try simp only [go_sem, E_75_l1, R_75_l1, ir26_k0, ir26_o0, ir26_r0, z1] at ez6
   simp only [go_sem, ir26, E_75_l1, R_75_l1, ir26_k0, ir26_o0, ir26_r0, z1, ez6]
  ·dsimp only at h
   obtain rfl := so_some h
   refine ⟨Lz6, fun L hL => ?_⟩
   have ez6 := ez6 L (by omega)
   try simp only [go_sem, E_75_l1, R_75_l1, ir26_k0, ir26_o0, ir26_r0, z1] at ez6
   simp only [go_sem, ir26, E_75_l1, R_75_l1, ir26_k0, ir26_o0, ir26_r0, z1, ez6]


def ir49_b0 : IR := .seq (.test false [ PM 11 3, PM 12 0, PO 13 (.len false (.s 0)), PO 14 (.bin false .lss (.s 2) (.s 0))] (.s 0) (.skip) (.exit 0)) (.seq (.block 1 (.anyo 9 [ SO 0 17 (.mov (.v 0)), SO 1 18 (.mov (.v 3)), SO 2 19 (.ixAddr 6 (.s 0) (.s 1)), SO 3 20 (.load true 6 (.s 2)), SO 4 21 (.mov (.v 1)), SO 5 22 (.mov (.v 3)), SO 6 23 (.ixAddr 6 (.s 4) (.s 5)), SO 7 24 (.load true 6 (.s 6)), SO 8 25 (.eqA true [2, 1, 1, 1, 1, 1] (.s 3) (.s 7))] [] (.cond (.s 8) (.seq (.region false [ VO 2 4 (.mov (.c (.bool false)))]) (.ret)) (.skip)))) (.region false [ PM 15 3, PO 16 (.bin false .add (.s
 0) (I6 1)), VS 3 5 0]))
def ir49_k0 : List Bool := [true, true, false, true]
def ir49_o0 : List Bool := [false, false, false, false]
def ir49_r0 : List Bool := [false, false, true, false]
def ir49_v : List Nat := [0, 1, 4, 5]
def ir49 : AFn := ⟨2, 4, .seq (.region false [ VO 2 4 (.mov (.c (.bool false)))]) (.seq (.test false [ PM 6 0, PO 7 (.len false (.s 0)), PM 8 1, PO 9 (.len false (.s 0)), PO 10 (.bin false .neq (.s 2) (.s 0))] (.s 0) (.seq (.region false [ VO 2 4 (.mov (.c (.bool false)))]) (.ret)) (.skip)) (.seq (.seq (.region false [ VO 3 5 (.mov (I6 0))]) (.block 0 (.loop ir49_k0 ir49_o0 ir49_r0 ir49_b0))) (.seq (.region false [ VO 2 4 (.mov (.c (.bool true)))]) (.ret)))), [.t 2]⟩
noncomputable def t_76 : List (Nat × Ctr) := []
noncomputable def c_76 : Ctr := mkF t_76 ir49 [.bor, .bor]
theorem s_76 : Sound Tryz.prog 49 c_76 := mkF_sound _ rfl snd_nil (by kernel_rfl : chkFn Tryz.prog 49 ir49 ir49_v = true)
theorem M_76 : c_76.modes = [.bor, .bor] := rfl
theorem Fl_76 : c_76.flat = true := rfl
attribute [go_sem] M_76 Fl_76
def E_76_l1 (a : List Request) (b : List Request) : Int → St
 | i => ⟨[.sl 6 (List.map Request_av a), .sl 6 (List.map Request_av b), .any, .int .i64 i], [], [], true⟩
def R_76_l1 (a : List Request) (b : List Request) : (Unit ⊕ Bool) → Res
 | .inl y => (.exit 0, ⟨[.any, .any, .any, .any], [], [], true⟩)
 | .inr y => (.ret, ⟨[.any, .any, .bool y, .any], [], [], true⟩)
theorem spec_SameRequests_l1_ex {a : List Request} {b : List Request} {sgm_ : Int} {rho_ : Unit ⊕ Bool} (h : whileE (spec_SameRequests_l1 a b) sgm_ = some rho_) : ∃ L0, ∀ L, L0 ≤ L → iter (exec (look t_76) L ir49_b0) ir49_k0 ir49_o0 ir49_r0 L (E_76_l1 a b sgm_) = R_76_l1 a b rho_ := by
 refine loop_ex (E := E_76_l1 a b) (R := R_76_l1 a b) (fun y => by first | (intro c; cases c) | (rcases y with y | y <;> (intro c; cases c)) | (rcases y with y | y | y <;> (intro c; cases c))) ?_ h
 clear h
 intro i o_ h
 dsimp only [spec_SameRequests_l1] at h
 rcases it_some h with ⟨z2, h⟩ | ⟨z2, h⟩
 ·try simp only [go_sem, n1, n2, n3, n4] at z2
  all_goals
  obtain ⟨z3, h⟩ := ck_some h
  have lz3 := ix_lt z3
  have xz3 := getD_mapD Request_av a lz3
  try simp only [go_sem] at lz3
  try simp only [go_sem] at xz3
  try simp only [go_sem, n1, n2, n3, n4, z2] at z3
  all_goals
  obtain ⟨z4, h⟩ := ck_some h
  have lz4 := ix_lt z4
  have xz4 := getD_mapD Request_av b lz4
  try simp only [go_sem] at lz4
  try simp only [go_sem] at xz4
  try simp only [go_sem, n1, n2, n3, n4, z2, z3] at z4
  all_goals
  rcases it_some h with ⟨z5, h⟩ | ⟨z5, h⟩
  ·try simp only [go_sem, n1, n2, n3, n4, z2, z3, z4] at z5
   all_goals
   obtain rfl := so_some h
   refine ⟨0, fun L hL => ?_⟩
   simp only [go_sem, ir49, E_76_l1, R_76_l1, ir49_b0, ir49_k0, ir49_o0, ir49_r0, z2, z3, lz3, xz3, z4, lz4, xz4, z5]
  ·try simp only [go_sem, n1, n2, n3, n4, z2, z3, z4] at z5
   all_goals
   obtain rfl := so_some h
   refine ⟨0, fun L hL => ?_⟩
   simp only [go_sem, ir49, E_76_l1, R_76_l1, ir49_b0, ir49_k0, ir49_o0, ir49_r0, z2, z3, lz3, xz3, z4, lz4, xz4, z5]
 ·try simp only [go_sem, n1, n2, n3, n4] at z2
  all_goals
  obtain rfl := so_some h
  refine ⟨0, fun L hL => ?_⟩
  simp only [go_sem, ir49, E_76_l1, R_76_l1, ir49_b0, ir49_k0, ir49_o0, ir49_r0, z2]

theorem Fs_76 {a : List Request} {b : List Request} {y_ : Bool} (h : spec_SameRequests a b = some y_) : c_76.F [.sl 6 (List.map Request_av a), .sl 6 (List.map Request_av b)] = ⟨true, .bool y_, [.any, .any]⟩ := by
 refine mkF_E rfl ?_
 dsimp only [spec_SameRequests] at h
 rcases it_some h with ⟨z1, h⟩ | ⟨z1, h⟩
 ·try simp only [go_sem, n1, n2, n3, n4] at z1
  all_goals
  obtain rfl := so_some h
  refine ⟨0, fun L hL => ?_⟩
  simp only [go_sem, ir49, E_76_l1, R_76_l1, ir49_k0, ir49_o0, ir49_r0, z1]
 ·try simp only [go_sem, n1, n2, n3, n4] at z1
  all_goals
  obtain ⟨y_6, z6, h⟩ := bd_some h
  obtain ⟨Lz6, ez6⟩ := spec_SameRequests_l1_ex z6
  rcases y_6 with y_6a | y_6b
  ·dsimp only at h
   obtain rfl := so_some h
   refine ⟨Lz6, fun L hL => ?_⟩
   have ez6 := ez6 L (by omega)
   try simp only [go_sem, E_76_l1, R_76_l1, ir49_k0, ir49_o0, ir49_r0, z1] at ez6
   simp only [go_sem, ir49, E_76_l1, R_76_l1, ir49_k0, ir49_o0, ir49_r0, z1, ez6]
  ·dsimp only at h
   obtain rfl := so_some h
   refine ⟨Lz6, fun L hL => ?_⟩
   have ez6 := ez6 L (by omega)
   try simp only [go_sem, E_76_l1, R_76_l1, ir49_k0, ir49_o0, ir49_r0, z1] at ez6
   simp only [go_sem, ir49, E_76_l1, R_76_l1, ir49_k0, ir49_o0, ir49_r0, z1, ez6]


def ir50_v : List Nat := [0, 1, 2]
def ir50 : AFn := ⟨1, 3, .seq (.region false [ VO 1 1 (.box (.v 0)), VO 2 2 (.mov (.c (.str [])))]) (.seq (.test false [ PO 3 (.call 106 [(.v 1)]), PO 4 (.un .not (.s 0))] (.s 0) (.seq (.region false [ VO 2 2 (.mov (.c (.str [])))]) (.ret)) (.skip)) (.seq (.region false [ PO 5 (.call 112 [(.v 1)]), VS 2 2 0]) (.ret))), [.t 2]⟩
noncomputable def t_77 : List (Nat × Ctr) := [(106, c_31), (112, c_67)]
theorem lk_77_106 : look t_77 106 = some c_31 := rfl
theorem lk_77_112 : look t_77 112 = some c_67 := rfl
noncomputable def c_77 : Ctr := mkF t_77 ir50 [.bor]
theorem s_77 : Sound Tryz.prog 50 c_77 := mkF_sound _ rfl (snd_cons s_31 (snd_cons s_67 snd_nil)) (by kernel_rfl : chkFn Tryz.prog 50 ir50 ir50_v = true)
theorem M_77 : c_77.modes = [.bor] := rfl
theorem Fl_77 : c_77.flat = true := rfl
attribute [go_sem] M_77 Fl_77
attribute [go_sem] lk_77_106 lk_77_112
theorem Fs_77 {x : Request} {y_ : (List UInt8)} (h : spec_RequestText x = some y_) : c_77.F [Request_av x] = ⟨true, .str y_, [.any]⟩ := by
 refine mkF_E rfl ?_
 dsimp only [spec_RequestText] at h
 obtain ⟨y_1, z1, h⟩ := bd_some h
 have fz1 := Fs_31 z1
 try simp only [go_sem] at fz1
 rcases it_some h with ⟨z2, h⟩ | ⟨z2, h⟩
 ·try simp only [go_sem, n1, n2, n3, n4] at z2
  all_goals
  obtain rfl := so_some h
  refine ⟨0, fun L hL => ?_⟩
  simp only [go_sem, ir50, fz1, z2]
 ·try simp only [go_sem, n1, n2, n3, n4] at z2
  all_goals
  obtain ⟨y_3, z3, h⟩ := bd_some h
  have fz3 := Fs_67 z3
  try simp only [go_sem, z2] at fz3
  obtain rfl := so_some h
  refine ⟨0, fun L hL => ?_⟩
  simp only [go_sem, ir50, fz1, z2, fz3]


def ir117_b0 : IR := .seq (.region false [ VO 6 14 (.bin false .lss (.v 5) (.v 4))]) (.seq (.cond (.v 6) (.skip) (.exit 0)) (.seq (.block 1 (.seq (.region false [ PM 15 5, VS 3 5 0]) (.anyo 9 [ SO 0 16 (.mov (.v 0)), SO 1 17 (.mov (.v 3)), SO 2 18 (.ixAddr 6 (.s 0) (.s 1)), SO 3 19 (.load true 6 (.s 2)), SO 4 20 (.mov (.v 1)), SO 5 21 (.mov (.v 3)), SO 6 22 (.ixAddr 6 (.s 4) (.s 5)), SO 7 23 (.load true 6 (.s 6)), SO 8 24 (.eqA true [2, 1, 1, 1, 1, 1] (.s 3) (.s 7))] [] (.cond (.s 8) (.seq (.region false [ VO 2 4 (.mov (.c (.bool false)))]) (.ret)) (.skip))))) (.region false [ PO 25 (.bin false
 .add (.v 5) (I6 1)), VS 5 13 0])))
def ir117_k0 : List Bool := [true, true, false, false, true, true, false]
def ir117_o0 : List Bool := [false, false, false, false, false, false, false]
def ir117_r0 : List Bool := [false, false, true, false, false, false, false]
def ir117_v : List Nat := [0, 1, 4, 5, 12, 13, 14]
def ir117 : AFn := ⟨2, 7, .seq (.region false [ VO 2 4 (.mov (.c (.bool false)))]) (.seq (.test false [ PM 6 0, PO 7 (.len false (.s 0)), PM 8 1, PO 9 (.len false (.s 0)), PO 10 (.bin false .neq (.s 2) (.s 0))] (.s 0) (.seq (.region false [ VO 2 4 (.mov (.c (.bool false)))]) (.ret)) (.skip)) (.seq (.seq (.region false [ PM 11 0, VO 4 12 (.len false (.s 0)), VO 5 13 (.mov (I6 0))]) (.block 0 (.loop ir117_k0 ir117_o0 ir117_r0 ir117_b0))) (.seq (.region false [ VO 2 4 (.mov (.c (.bool true)))]) (.ret)))), [.t 2]⟩
noncomputable def t_78 : List (Nat × Ctr) := []
noncomputable def c_78 : Ctr := mkF t_78 ir117 [.bor, .bor]
theorem s_78 : Sound Tryz.prog 117 c_78 := mkF_sound _ rfl snd_nil (by kernel_rfl : chkFn Tryz.prog 117 ir117 ir117_v = true)
theorem M_78 : c_78.modes = [.bor, .bor] := rfl
theorem Fl_78 : c_78.flat = true := rfl
attribute [go_sem] M_78 Fl_78
def E_78_l1 (s1 : List Request) (s2 : List Request) (t12 : Int) : Int → St
 | t13 => ⟨[.sl 6 (List.map Request_av s1), .sl 6 (List.map Request_av s2), .any, .any, .int .i64 t12, .int .i64 t13, .any], [], [], true⟩
def R_78_l1 (s1 : List Request) (s2 : List Request) (t12 : Int) : (Unit ⊕ Bool) → Res
 | .inl y => (.exit 0, ⟨[.any, .any, .any, .any, .any, .any, .any], [], [], true⟩)
 | .inr y => (.ret, ⟨[.any, .any, .bool y, .any, .any, .any, .any], [], [], true⟩)
theorem slices_Equal_impl_Request_impl_Request_l1_ex {s1 : List Request} {s2 : List Request} {t12 : Int} {sgm_ : Int} {rho_ : Unit ⊕ Bool} (h : whileE (slices_Equal_impl_Request_impl_Request_l1 s1 s2 t12) sgm_ = some rho_) : ∃ L0, ∀ L, L0 ≤ L → iter (exec (look t_78) L ir117_b0) ir117_k0 ir117_o0 ir117_r0 L (E_78_l1 s1 s2 t12 sgm_) = R_78_l1 s1 s2 t12 rho_ := by
 refine loop_ex (E := E_78_l1 s1 s2 t12) (R := R_78_l1 s1 s2 t12) (fun y => by first | (intro c; cases c) | (rcases y with y | y <;> (intro c; cases c)) | (rcases y with y | y | y <;> (intro c; cases c))) ?_ h
 clear h
 intro t13 o_ h
 dsimp only [slices_Equal_impl_Request_impl_Request_l1] at h
 rcases it_some h with ⟨z2, h⟩ | ⟨z2, h⟩
 ·try simp only [go_sem, n1, n2, n3, n4] at z2
  all_goals
  obtain ⟨z3, h⟩ := ck_some h
  have lz3 := ix_lt z3
  have xz3 := getD_mapD Request_av s1 lz3
  try simp only [go_sem] at lz3
  try simp only [go_sem] at xz3
  try simp only [go_sem, n1, n2, n3, n4, z2] at z3
  all_goals
  obtain ⟨z4, h⟩ := ck_some h
  have lz4 := ix_lt z4
  have xz4 := getD_mapD Request_av s2 lz4
  try simp only [go_sem] at lz4
  try simp only [go_sem] at xz4
  try simp only [go_sem, n1, n2, n3, n4, z2, z3] at z4
  all_goals
  rcases it_some h with ⟨z5, h⟩ | ⟨z5, h⟩
  ·try simp only [go_sem, n1, n2, n3, n4, z2, z3, z4] at z5
   all_goals
   obtain rfl := so_some h
   refine ⟨0, fun L hL => ?_⟩
   simp only [go_sem, ir117, E_78_l1, R_78_l1, ir117_b0, ir117_k0, ir117_o0, ir117_r0, z2, z3, lz3, xz3, z4, lz4, xz4, z5]
  ·try simp only [go_sem, n1, n2, n3, n4, z2, z3, z4] at z5
   all_goals
   obtain rfl := so_some h
   refine ⟨0, fun L hL => ?_⟩
   simp only [go_sem, ir117, E_78_l1, R_78_l1, ir117_b0, ir117_k0, ir117_o0, ir117_r0, z2, z3, lz3, xz3, z4, lz4, xz4, z5]
 ·try simp only [go_sem, n1, n2, n3, n4] at z2
  all_goals
  obtain rfl := so_some h
  refine ⟨0, fun L hL => ?_⟩
  simp only [go_sem, ir117, E_78_l1, R_78_l1, ir117_b0, ir117_k0, ir117_o0, ir117_r0, z2]

theorem Fs_78 {s1 : List Request} {s2 : List Request} {y_ : Bool} (h : slices_Equal_impl_Request_impl_Request s1 s2 = some y_) : c_78.F [.sl 6 (List.map Request_av s1), .sl 6 (List.map Request_av s2)] = ⟨true, .bool y_, [.any, .any]⟩ := by
 refine mkF_E rfl ?_
 dsimp only [slices_Equal_impl_Request_impl_Request] at h
 rcases it_some h with ⟨z1, h⟩ | ⟨z1, h⟩
 ·try simp only [go_sem, n1, n2, n3, n4] at z1
  all_goals
  obtain rfl := so_some h
  refine ⟨0, fun L hL => ?_⟩
  simp only [go_sem, ir117, E_78_l1, R_78_l1, ir117_k0, ir117_o0, ir117_r0, z1]
 ·try simp only [go_sem, n1, n2, n3, n4] at z1
  all_goals
  obtain ⟨y_6, z6, h⟩ := bd_some h
  obtain ⟨Lz6, ez6⟩ := slices_Equal_impl_Request_impl_Request_l1_ex z6
  rcases y_6 with y_6a | y_6b
  ·dsimp only at h
   obtain rfl := so_some h
   refine ⟨Lz6, fun L hL => ?_⟩
   have ez6 := ez6 L (by omega)
   try simp only [go_sem, E_78_l1, R_78_l1, ir117_k0, ir117_o0, ir117_r0, z1] at ez6
   simp only [go_sem, ir117, E_78_l1, R_78_l1, ir117_k0, ir117_o0, ir117_r0, z1, ez6]
  ·dsimp only at h
   obtain rfl := so_some h
   refine ⟨Lz6, fun L hL => ?_⟩
   have ez6 := ez6 L (by omega)
   try simp only [go_sem, E_78_l1, R_78_l1, ir117_k0, ir117_o0, ir117_r0, z1] at ez6
   simp only [go_sem, ir117, E_78_l1, R_78_l1, ir117_k0, ir117_o0, ir117_r0, z1, ez6]


def ir51_v : List Nat := [0, 1, 4]
def ir51 : AFn := ⟨2, 3, .seq (.region false [ VO 2 4 (.mov (.c (.bool false)))]) (.seq (.region false [ PM 5 0, PM 6 1, PO 7 (.call 117 [(.s 1), (.s 0)]), VS 2 4 0]) (.ret)), [.t 2]⟩
noncomputable def t_79 : List (Nat × Ctr) := [(117, c_78)]
theorem lk_79_117 : look t_79 117 = some c_78 := rfl
noncomputable def c_79 : Ctr := mkF t_79 ir51 [.bor, .bor]
theorem s_79 : Sound Tryz.prog 51 c_79 := mkF_sound _ rfl (snd_cons s_78 snd_nil) (by kernel_rfl : chkFn Tryz.prog 51 ir51 ir51_v = true)
theorem M_79 : c_79.modes = [.bor, .bor] := rfl
theorem Fl_79 : c_79.flat = true := rfl
attribute [go_sem] M_79 Fl_79
attribute [go_sem] lk_79_117
theorem Fs_79 {a : List Request} {b : List Request} {y_ : Bool} (h : impl_SameRequests a b = some y_) : c_79.F [.sl 6 (List.map Request_av a), .sl 6 (List.map Request_av b)] = ⟨true, .bool y_, [.any, .any]⟩ := by
 refine mkF_E rfl ?_
 dsimp only [impl_SameRequests] at h
 obtain ⟨y_1, z1, h⟩ := bd_some h
 have fz1 := Fs_78 z1
 try simp only [go_sem] at fz1
 obtain rfl := so_some h
 refine ⟨0, fun L hL => ?_⟩
 simp only [go_sem, ir51, fz1]


def ir53_v : List Nat := [0, 2]
def ir53 : AFn := ⟨1, 2, .seq (.region false [ VO 1 2 (.mov (.c (.bool false)))]) (.seq (.region false [ PM 3 0, PO 4 (.call 101 [(.s 0)]), VS 1 2 0]) (.ret)), [.t 1]⟩
noncomputable def t_80 : List (Nat × Ctr) := [(101, c_32)]
theorem lk_80_101 : look t_80 101 = some c_32 := rfl
noncomputable def c_80 : Ctr := mkF t_80 ir53 [.bor]
theorem s_80 : Sound Tryz.prog 53 c_80 := mkF_sound _ rfl (snd_cons s_32 snd_nil) (by kernel_rfl : chkFn Tryz.prog 53 ir53 ir53_v = true)
theorem M_80 : c_80.modes = [.bor] := rfl
theorem Fl_80 : c_80.flat = true := rfl
attribute [go_sem] M_80 Fl_80
attribute [go_sem] lk_80_101
theorem Fs_80 {list : List Request} {y_ : Bool} (h : spec_ValidRequests list = some y_) : c_80.F [.sl 6 (List.map Request_av list)] = ⟨true, .bool y_, [.any]⟩ := by
 refine mkF_E rfl ?_
 dsimp only [spec_ValidRequests] at h
 obtain ⟨y_1, z1, h⟩ := bd_some h
 have fz1 := Fs_32 z1
 try simp only [go_sem] at fz1
 obtain rfl := so_some h
 refine ⟨0, fun L hL => ?_⟩
 simp only [go_sem, ir53, fz1]


def ir4_b0 : IR := .seq (.test false [ PM 224 36, PM 225 16, PO 226 (.len false (.s 0)), PO 227 (.bin false .lss (.s 2) (.s 0))] (.s 0) (.skip) (.exit 0)) (.seq (.block 1 (.seq (.test false [ PM 230 16, PM 231 36, PO 232 (.ixAddr 1 (.s 1) (.s 0)), PO 233 (.load false 1 (.s 0)), PO 234 (.bin false .lss (.s 0) (I6 0))] (.s 0) (.exit 1) (.skip)) (.seq (.region false [ PM 235 12, PM 236 16, PM 237 36, PO 238 (.ixAddr 1 (.s 1) (.s 0)), PO 239 (.load false 1 (.s 0)), PO 240 (.ixAddr 6 (.s 4) (.s 0)), VS 37 38 0]) (.seq (.region false [ PM 241 35, PM 242 16, PM 243 36, PO 244 (.ixAddr 1 (.s 1) (.s
 0)), PO 245 (.load false 1 (.s 0)), PO 246 (.ixAddr 1 (.s 4) (.s 0)), PO 247 (.load false 1 (.s 0)), PO 248 (.bin false .add (.s 0) (I6 1)), PO 249 (.ixAddr 1 (.s 7) (.s 3)), ⟨.no, 0, none, .store 1 (.s 0) (.s 1)⟩]) (.anyo 39 [ SO 0 250 (.mov (.v 13)), SO 1 251 (.mov (.v 36)), SO 2 252 (.ixAddr 1 (.s 0) (.s 1)), SO 3 253 (.load false 1 (.s 2)), SO 4 254 (.mov (.v 37)), SO 5 255 (.nilck (.s 4)), SO 6 256 (.fldAddr 1 (.s 5)), SO 7 257 (.load false 1 (.s 6)), SO 8 258 (.bin false .lss (.s 3) (.s 7)), SO 9 259 (.mov (.s 8)), ⟨.slot 10, 260, (some ((.s 9), false)), .mov (.v 13)⟩, ⟨.slot 11, 261,
 (some ((.s 9), false)), .mov (.v 36)⟩, ⟨.slot 12, 262, (some ((.s 9), false)), .ixAddr 1 (.s 10) (.s 11)⟩, ⟨.slot 13, 263, (some ((.s 9), false)), .load false 1 (.s 12)⟩, ⟨.slot 14, 264, (some ((.s 9), false)), .mov (.v 37)⟩, ⟨.slot 15, 265, (some ((.s 9), false)), .nilck (.s 14)⟩, ⟨.slot 16, 266, (some ((.s 9), false)), .fldAddr 2 (.s 15)⟩, ⟨.slot 17, 267, (some ((.s 9), false)), .load false 1 (.s 16)⟩, ⟨.slot 18, 268, (some ((.s 9), false)), .bin false .gtr (.s 13) (.s 17)⟩, SO 19 269 (.pick (.s 9) (.c (.bool true)) (.s 18)), SO 20 270 (.mov (.s 19)), ⟨.slot 21, 271, (some ((.s 20), false)),
 .mov (.v 37)⟩, ⟨.slot 22, 272, (some ((.s 20), false)), .nilck (.s 21)⟩, ⟨.slot 23, 273, (some ((.s 20), false)), .fldAddr 4 (.s 22)⟩, ⟨.slot 24, 274, (some ((.s 20), false)), .load false 1 (.s 23)⟩, ⟨.slot 25, 275, (some ((.s 20), false)), .mov (.v 35)⟩, ⟨.slot 26, 276, (some ((.s 20), false)), .mov (.v 16)⟩, ⟨.slot 27, 277, (some ((.s 20), false)), .mov (.v 36)⟩, ⟨.slot 28, 278, (some ((.s 20), false)), .ixAddr 1 (.s 26) (.s 27)⟩, ⟨.slot 29, 279, (some ((.s 20), false)), .load false 1 (.s 28)⟩, ⟨.slot 30, 280, (some ((.s 20), false)), .ixAddr 1 (.s 25) (.s 29)⟩, ⟨.slot 31, 281, (some ((.s
 20), false)), .load false 1 (.s 30)⟩, ⟨.slot 32, 282, (some ((.s 20), false)), .bin false .add (.s 24) (.s 31)⟩, ⟨.slot 33, 283, (some ((.s 20), false)), .mov (.v 37)⟩, ⟨.slot 34, 284, (some ((.s 20), false)), .nilck (.s 33)⟩, ⟨.slot 35, 285, (some ((.s 20), false)), .fldAddr 3 (.s 34)⟩, ⟨.slot 36, 286, (some ((.s 20), false)), .load false 1 (.s 35)⟩, ⟨.slot 37, 287, (some ((.s 20), false)), .bin false .gtr (.s 32) (.s 36)⟩, SO 38 288 (.pick (.s 20) (.c (.bool true)) (.s 37))] [] (.cond (.s 38) (.seq (.region false [ VO 1 2 (.mov (.c (.bool false)))]) (.ret)) (.skip))))))) (.region false [ PM
 228 36, PO 229 (.bin false .add (.s 0) (I6 1)), VS 36 37 0]))
def ir4_k0 : List Bool := [false, false, true, false, true, true, true, false, false, true, true, false, true, true, false, false, true, false, false, false, false, false, false, false, false, false, false, false, false, false, false, false, false, false, false, true, true, false, false, false]
def ir4_o0 : List Bool := [false, false, true, false, true, true, true, false, false, true, true, false, false, false, false, false, false, false, false, false, false, false, false, false, false, false, false, false, false, false, false, false, false, false, false, false, false, false, false, false]
def ir4_r0 : List Bool := [false, true, false, false, false, false, false, false, false, false, false, false, false, false, false, false, false, false, false, false, false, false, false, false, false, false, false, false, false, false, false, false, false, false, false, false, false, false, false, false]
def ir4_b1 : IR := .seq (.test false [ PM 296 39, PM 297 10, PO 298 (.len false (.s 0)), PO 299 (.bin false .lss (.s 2) (.s 0))] (.s 0) (.skip) (.exit 2)) (.seq (.block 3 (.seq (.region false [ PM 302 38, PO 303 (.mov (.s 0)), ⟨.push, 304, (some ((.s 0), false)), .mov (.v 10)⟩, ⟨.push, 305, (some ((.s 1), false)), .mov (.v 39)⟩, ⟨.push, 306, (some ((.s 2), false)), .ixAddr 1 (.s 1) (.s 0)⟩, ⟨.push, 307, (some ((.s 3), false)), .load false 1 (.s 0)⟩, ⟨.push, 308, (some ((.s 4), false)), .mov (.v 4)⟩, ⟨.push, 309, (some ((.s 5), false)), .bin false .eql (.s 1) (.s 0)⟩, PO 310 (.pick (.s 6) (.c
 (.bool true)) (.s 0)), VS 38 39 0]) (.anyo 14 [ SO 0 311 (.mov (.v 2)), SO 1 312 (.mov (.v 10)), SO 2 313 (.mov (.v 39)), SO 3 314 (.ixAddr 1 (.s 1) (.s 2)), SO 4 315 (.load false 1 (.s 3)), SO 5 316 (.ixAddr 6 (.s 0) (.s 4)), SO 6 317 (.fldAddr 5 (.s 5)), SO 7 318 (.load false 1 (.s 6)), SO 8 319 (.mov (.v 2)), SO 9 320 (.mov (.v 6)), SO 10 321 (.ixAddr 6 (.s 8) (.s 9)), SO 11 322 (.fldAddr 5 (.s 10)), SO 12 323 (.load false 1 (.s 11)), SO 13 324 (.bin false .gtr (.s 7) (.s 12))] [] (.cond (.s 13) (.seq (.region false [ VO 1 2 (.mov (.c (.bool false)))]) (.ret)) (.skip))))) (.region false [
 PM 300 39, PO 301 (.bin false .add (.s 0) (I6 1)), VS 39 40 0]))
def ir4_k1 : List Bool := [false, false, true, false, true, false, true, false, false, false, true, false, false, false, false, false, false, false, false, false, false, false, false, false, false, false, false, false, false, false, false, false, false, false, false, false, false, false, true, true]
def ir4_o1 : List Bool := [false, false, false, false, false, false, false, false, false, false, false, false, false, false, false, false, false, false, false, false, false, false, false, false, false, false, false, false, false, false, false, false, false, false, false, false, false, false, true, false]
def ir4_r1 : List Bool := [false, true, false, false, false, false, false, false, false, false, false, false, false, false, false, false, false, false, false, false, false, false, false, false, false, false, false, false, false, false, false, false, false, false, false, false, false, false, false, false]
def ir4_v : List Nat := [0, 2, 3, 4, 5, 6, 7, 8, 9, 10, 11, 12, 13, 14, 15, 16, 17, 18, 19, 20, 21, 22, 23, 24, 25, 26, 27, 28, 29, 30, 31, 32, 33, 34, 35, 36, 37, 38, 39, 40]
def ir4 : AFn := ⟨1, 40, .seq (.region false [ VO 1 2 (.mov (.c (.bool false)))]) (.seq (.test false [ PM 41 0, PO 42 (.call 5 [(.s 0)])] (.s 0) (.seq (.region false [ VO 1 2 (.mov (.c (.bool true)))]) (.ret)) (.skip)) (.seq (.region false [ PM 44 0, PO 45 (.call 32 [(.s 0)]), PO 43 (.mov (.s 0)), PO 46 (.ext (.s 0) 0), PO 47 (.ext (.s 1) 1), VS 2 3 1, VS 3 4 0]) (.seq (.region false [ PM 49 2, PM 50 3, PO 51 (.call 33 [(.s 1), (.s 0)]), PO 48 (.mov (.s 0)), PO 52 (.ext (.s 0) 0), PO 53 (.ext (.s 1) 1), VS 4 5 1, VS 5 6 0]) (.seq (.region false [ PM 55 2, PM 56 3, PO 57 (.call 34 [(.s 1), (.s
 0)]), PO 54 (.mov (.s 0)), PO 58 (.ext (.s 0) 0), PO 59 (.ext (.s 1) 1), VS 6 7 1, VS 7 8 0]) (.seq (.region false [ PM 61 2, PM 62 3, PO 63 (.call 35 [(.s 1), (.s 0)]), PO 60 (.mov (.s 0)), PO 64 (.ext (.s 0) 0), PO 65 (.ext (.s 1) 1), VS 8 9 1, VS 9 10 0]) (.seq (.region false [ PM 67 2, PM 68 3, PO 69 (.call 36 [(.s 1), (.s 0)]), PO 66 (.mov (.s 0)), PO 70 (.ext (.s 0) 0), PO 71 (.ext (.s 1) 1), VS 10 11 1, VS 11 12 0]) (.seq (.region false [ PM 73 0, PO 74 (.call 37 [(.s 0)]), PO 72 (.mov (.s 0)), PO 75 (.ext (.s 0) 0), PO 76 (.ext (.s 1) 1), VS 12 13 1, VS 13 14 0]) (.seq (.region false [
 PM 78 12, PM 79 13, PO 80 (.call 38 [(.s 1), (.s 0)]), PO 77 (.mov (.s 0)), PO 81 (.ext (.s 0) 0), PO 82 (.ext (.s 1) 1), VS 14 15 1, VS 15 16 0]) (.seq (.region false [ PM 84 12, PM 85 13, PO 86 (.call 39 [(.s 1), (.s 0)]), PO 83 (.mov (.s 0)), PO 87 (.ext (.s 0) 0), PO 88 (.ext (.s 1) 1), VS 16 17 1, VS 17 18 0]) (.seq (.region false [ PM 90 0, PO 91 (.call 40 [(.s 0)]), PO 89 (.mov (.s 0)), PO 92 (.ext (.s 0) 0), PO 93 (.ext (.s 1) 1), VO 19 20 (.alloc (.agg [.str [], .int .i64 (0), .int .i64 (0), .int .i64 (0), .int .i64 (0), .int .i64 (0)])), VS 18 19 1, ⟨.no, 0, none, .store 6 (.v 19)
 (.s 0)⟩]) (.seq (.region false [ PM 95 18, PO 96 (.load true 6 (.v 19)), PO 97 (.call 41 [(.s 1), (.s 0)]), PO 94 (.mov (.s 0)), PO 98 (.ext (.s 0) 0), PO 99 (.ext (.s 1) 1), VS 20 21 1, VS 21 22 0]) (.seq (.region false [ PM 101 18, PO 102 (.load true 6 (.v 19)), PO 103 (.call 42 [(.s 1), (.s 0)]), PO 100 (.mov (.s 0)), PO 104 (.ext (.s 0) 0), PO 105 (.ext (.s 1) 1), VS 22 23 1, VS 23 24 0]) (.seq (.region false [ PM 106 0, PO 107 (.call 43 [(.s 0)]), VO 24 25 (.alloc (.agg [.str [], .int .i64 (0), .int .i64 (0), .int .i64 (0), .int .i64 (0), .int .i64 (0)])), ⟨.no, 0, none, .store 6 (.v 24)
 (.s 0)⟩]) (.seq (.region false [ PO 108 (.load true 6 (.v 24)), PO 109 (.call 44 [(.s 0)]), VS 25 26 0]) (.seq (.region false [ PM 111 25, PO 112 (.call 45 [(.s 0)]), PO 110 (.mov (.s 0)), PO 113 (.ext (.s 0) 0), PO 114 (.ext (.s 1) 1), VO 26 27 (.alloc (.agg [.str [], .int .i64 (0), .int .i64 (0), .int .i64 (0), .int .i64 (0), .int .i64 (0)])), ⟨.no, 0, none, .store 6 (.v 26) (.s 1)⟩, VS 27 28 0]) (.seq (.region false [ PM 115 0, PO 116 (.call 46 [(.s 0)]), VS 28 29 0]) (.seq (.region false [ PM 118 28, PO 119 (.call 45 [(.s 0)]), PO 117 (.mov (.s 0)), PO 120 (.ext (.s 0) 0), PO 121 (.ext (.s
 1) 1), VO 29 30 (.alloc (.agg [.str [], .int .i64 (0), .int .i64 (0), .int .i64 (0), .int .i64 (0), .int .i64 (0)])), ⟨.no, 0, none, .store 6 (.v 29) (.s 1)⟩, VS 30 31 0]) (.seq (.region false [ PM 123 28, PO 124 (.call 47 [(.s 0)]), PO 122 (.mov (.s 0)), PO 125 (.ext (.s 0) 0), PO 126 (.ext (.s 1) 1), VO 31 32 (.alloc (.agg [.str [], .int .i64 (0), .int .i64 (0), .int .i64 (0), .int .i64 (0), .int .i64 (0)])), ⟨.no, 0, none, .store 6 (.v 31) (.s 1)⟩, VS 32 33 0]) (.seq (.region false [ PM 128 0, PO 129 (.call 48 [(.s 0)]), PO 127 (.mov (.s 0)), PO 130 (.ext (.s 0) 0), PO 131 (.ext (.s 1) 1),
 VS 33 34 1, VS 34 35 0]) (.seq (.test false [ PM 132 5, PM 133 7, PO 134 (.bin false .neq (.s 1) (.s 0)), PO 135 (.mov (.s 0)), ⟨.push, 136, (some ((.s 0), false)), .mov (.v 4)⟩, ⟨.push, 137, (some ((.s 1), false)), .mov (.v 6)⟩, ⟨.push, 138, (some ((.s 2), false)), .bin false .neq (.s 1) (.s 0)⟩, PO 139 (.pick (.s 3) (.c (.bool true)) (.s 0)), PO 140 (.mov (.s 0)), ⟨.push, 141, (some ((.s 0), false)), .mov (.v 9)⟩, ⟨.push, 142, (some ((.s 1), false)), .mov (.v 11)⟩, ⟨.push, 143, (some ((.s 2), false)), .bin false .neq (.s 1) (.s 0)⟩, PO 144 (.pick (.s 3) (.c (.bool true)) (.s 0)), PO 145
 (.mov (.s 0)), ⟨.push, 146, (some ((.s 0), false)), .mov (.v 8)⟩, ⟨.push, 147, (some ((.s 1), false)), .mov (.v 10)⟩, ⟨.push, 148, (some ((.s 2), false)), .call 26 [(.s 1), (.s 0)]⟩, ⟨.push, 149, (some ((.s 3), false)), .un .not (.s 0)⟩, PO 150 (.pick (.s 4) (.c (.bool true)) (.s 0)), PO 151 (.mov (.s 0)), ⟨.push, 152, (some ((.s 0), false)), .mov (.v 15)⟩, ⟨.push, 153, (some ((.s 1), false)), .mov (.v 17)⟩, ⟨.push, 154, (some ((.s 2), false)), .bin false .neq (.s 1) (.s 0)⟩, PO 155 (.pick (.s 3) (.c (.bool true)) (.s 0)), PO 156 (.mov (.s 0)), ⟨.push, 157, (some ((.s 0), false)), .mov (.v
 14)⟩, ⟨.push, 158, (some ((.s 1), false)), .mov (.v 16)⟩, ⟨.push, 159, (some ((.s 2), false)), .call 26 [(.s 1), (.s 0)]⟩, ⟨.push, 160, (some ((.s 3), false)), .un .not (.s 0)⟩, PO 161 (.pick (.s 4) (.c (.bool true)) (.s 0)), PO 162 (.mov (.s 0)), ⟨.push, 163, (some ((.s 0), false)), .mov (.v 21)⟩, ⟨.push, 164, (some ((.s 1), false)), .mov (.v 23)⟩, ⟨.push, 165, (some ((.s 2), false)), .bin false .neq (.s 1) (.s 0)⟩, PO 166 (.pick (.s 3) (.c (.bool true)) (.s 0)), PO 167 (.mov (.s 0)), ⟨.push, 168, (some ((.s 0), false)), .mov (.v 20)⟩, ⟨.push, 169, (some ((.s 1), false)), .mov (.v 22)⟩,
 ⟨.push, 170, (some ((.s 2), false)), .call 49 [(.s 1), (.s 0)]⟩, ⟨.push, 171, (some ((.s 3), false)), .un .not (.s 0)⟩, PO 172 (.pick (.s 4) (.c (.bool true)) (.s 0)), PO 173 (.mov (.s 0)), ⟨.push, 174, (some ((.s 0), false)), .mov (.v 25)⟩, ⟨.push, 175, (some ((.s 1), false)), .load true 6 (.v 24)⟩, ⟨.push, 176, (some ((.s 2), false)), .call 50 [(.s 0)]⟩, ⟨.push, 177, (some ((.s 3), false)), .bin false .neq (.s 2) (.s 0)⟩, PO 178 (.pick (.s 4) (.c (.bool true)) (.s 0)), PO 179 (.mov (.s 0)), ⟨.push, 180, (some ((.s 0), false)), .mov (.v 27)⟩, ⟨.push, 181, (some ((.s 1), false)), .mov (.v
 25)⟩, ⟨.push, 182, (some ((.s 2), false)), .bin false .neq (.s 0) (.c (.str []))⟩, ⟨.push, 183, (some ((.s 3), false)), .bin true .neq (.s 2) (.s 0)⟩, PO 184 (.pick (.s 4) (.c (.bool true)) (.s 0)), PO 185 (.mov (.s 0)), ⟨.push, 186, (some ((.s 0), false)), .mov (.v 27)⟩, ⟨.push, 187, (some ((.s 1), false)), .mov (.s 0)⟩, ⟨.push, 188, (some ((.s 0), true)), .load true 6 (.v 26)⟩, ⟨.push, 189, (some ((.s 1), true)), .load true 6 (.v 24)⟩, ⟨.push, 190, (some ((.s 2), true)), .eqA true [2, 1, 1, 1, 1, 1] (.s 1) (.s 0)⟩, ⟨.push, 191, (some ((.s 5), false)), .pick (.s 3) (.s 0) (.c (.bool false))⟩,
 PO 192 (.pick (.s 6) (.c (.bool true)) (.s 0)), PO 193 (.mov (.s 0)), ⟨.push, 194, (some ((.s 0), false)), .mov (.v 30)⟩, ⟨.push, 195, (some ((.s 1), false)), .mov (.v 32)⟩, ⟨.push, 196, (some ((.s 2), false)), .bin true .neq (.s 1) (.s 0)⟩, PO 197 (.pick (.s 3) (.c (.bool true)) (.s 0)), PO 198 (.mov (.s 0)), ⟨.push, 199, (some ((.s 0), false)), .load true 6 (.v 29)⟩, ⟨.push, 200, (some ((.s 1), false)), .load true 6 (.v 31)⟩, ⟨.push, 201, (some ((.s 2), false)), .eqA true [2, 1, 1, 1, 1, 1] (.s 1) (.s 0)⟩, PO 202 (.pick (.s 3) (.c (.bool true)) (.s 0)), PO 203 (.mov (.s 0)), ⟨.push, 204,
 (some ((.s 0), false)), .mov (.v 33)⟩, ⟨.push, 205, (some ((.s 1), false)), .mov (.v 34)⟩, ⟨.push, 206, (some ((.s 2), false)), .call 51 [(.s 1), (.s 0)]⟩, ⟨.push, 207, (some ((.s 3), false)), .mov (.v 33)⟩, ⟨.push, 208, (some ((.s 4), false)), .mov (.v 34)⟩, ⟨.push, 209, (some ((.s 5), false)), .call 49 [(.s 1), (.s 0)]⟩, ⟨.push, 210, (some ((.s 6), false)), .bin true .neq (.s 3) (.s 0)⟩, PO 211 (.pick (.s 7) (.c (.bool true)) (.s 0)), PO 212 (.mov (.s 0)), ⟨.push, 213, (some ((.s 0), false)), .mov (.v 2)⟩, ⟨.push, 214, (some ((.s 1), false)), .call 52 [(.s 0)]⟩, ⟨.push, 215, (some ((.s 2),
 false)), .mov (.v 2)⟩, ⟨.push, 216, (some ((.s 3), false)), .call 53 [(.s 0)]⟩, ⟨.push, 217, (some ((.s 4), false)), .bin true .neq (.s 2) (.s 0)⟩, PO 218 (.pick (.s 5) (.c (.bool true)) (.s 0))] (.s 0) (.seq (.region false [ VO 1 2 (.mov (.c (.bool false)))]) (.ret)) (.skip)) (.seq (.test false [ PM 219 15, PO 220 (.bin false .eql (.s 0) (I6 0))] (.s 0) (.seq (.region false [ PM 221 12, PO 222 (.len false (.s 0)), PO 223 (.make 1 8 (.int .i64 (0)) (.s 0) (.s 0)), VS 35 36 0]) (.seq (.region false [ VO 36 37 (.mov (I6 0))]) (.block 0 (.loop ir4_k0 ir4_o0 ir4_r0 ir4_b0)))) (.skip)) (.seq (.test
 false [ PM 289 9, PO 290 (.bin false .neq (.s 0) (I6 0))] (.s 0) (.seq (.region false [ VO 1 2 (.mov (.c (.bool true)))]) (.ret)) (.skip)) (.seq (.test false [ PM 291 5, PO 292 (.bin false .neq (.s 0) (I6 0))] (.s 0) (.seq (.region false [ PM 293 10, PO 294 (.len false (.s 0)), PO 295 (.bin false .eql (.s 0) (I6 0)), VS 1 2 0]) (.ret)) (.skip)) (.seq (.region false [ VO 38 39 (.mov (.c (.bool false)))]) (.seq (.seq (.region false [ VO 39 40 (.mov (I6 0))]) (.block 2 (.loop ir4_k1 ir4_o1 ir4_r1 ir4_b1))) (.seq (.region false [ PM 325 38, VS 1 2 0]) (.ret))))))))))))))))))))))))))), [.t 1]⟩
noncomputable def t_laws_FnQueue : List (Nat × Ctr) := [(5, c_0), (32, c_13), (33, c_25), (34, c_37), (35, c_40), (36, c_41), (37, c_42), (38, c_49), (39, c_51), (40, c_52), (41, c_53), (42, c_54), (43, c_55), (44, c_60), (45, c_65), (46, c_69), (47, c_73), (48, c_74), (26, c_75), (49, c_76), (50, c_77), (51, c_79), (52, c_21), (53, c_80)]
theorem lk_laws_FnQueue_5 : look t_laws_FnQueue 5 = some c_0 := rfl
theorem lk_laws_FnQueue_32 : look t_laws_FnQueue 32 = some c_13 := rfl
theorem lk_laws_FnQueue_33 : look t_laws_FnQueue 33 = some c_25 := rfl
theorem lk_laws_FnQueue_34 : look t_laws_FnQueue 34 = some c_37 := rfl
theorem lk_laws_FnQueue_35 : look t_laws_FnQueue 35 = some c_40 := rfl
theorem lk_laws_FnQueue_36 : look t_laws_FnQueue 36 = some c_41 := rfl
theorem lk_laws_FnQueue_37 : look t_laws_FnQueue 37 = some c_42 := rfl
theorem lk_laws_FnQueue_38 : look t_laws_FnQueue 38 = some c_49 := rfl
theorem lk_laws_FnQueue_39 : look t_laws_FnQueue 39 = some c_51 := rfl
theorem lk_laws_FnQueue_40 : look t_laws_FnQueue 40 = some c_52 := rfl
theorem lk_laws_FnQueue_41 : look t_laws_FnQueue 41 = some c_53 := rfl
theorem lk_laws_FnQueue_42 : look t_laws_FnQueue 42 = some c_54 := rfl
theorem lk_laws_FnQueue_43 : look t_laws_FnQueue 43 = some c_55 := rfl
theorem lk_laws_FnQueue_44 : look t_laws_FnQueue 44 = some c_60 := rfl
theorem lk_laws_FnQueue_45 : look t_laws_FnQueue 45 = some c_65 := rfl
theorem lk_laws_FnQueue_46 : look t_laws_FnQueue 46 = some c_69 := rfl
theorem lk_laws_FnQueue_47 : look t_laws_FnQueue 47 = some c_73 := rfl
theorem lk_laws_FnQueue_48 : look t_laws_FnQueue 48 = some c_74 := rfl
theorem lk_laws_FnQueue_26 : look t_laws_FnQueue 26 = some c_75 := rfl
theorem lk_laws_FnQueue_49 : look t_laws_FnQueue 49 = some c_76 := rfl
theorem lk_laws_FnQueue_50 : look t_laws_FnQueue 50 = some c_77 := rfl
theorem lk_laws_FnQueue_51 : look t_laws_FnQueue 51 = some c_79 := rfl
theorem lk_laws_FnQueue_52 : look t_laws_FnQueue 52 = some c_21 := rfl
theorem lk_laws_FnQueue_53 : look t_laws_FnQueue 53 = some c_80 := rfl
noncomputable def c_laws_FnQueue : Ctr := mkF t_laws_FnQueue ir4 [.bor]
theorem s_laws_FnQueue : Sound Tryz.prog 4 c_laws_FnQueue := mkF_sound _ rfl (snd_cons s_0 (snd_cons s_13 (snd_cons s_25 (snd_cons s_37 (snd_cons s_40 (snd_cons s_41 (snd_cons s_42 (snd_cons s_49 (snd_cons s_51 (snd_cons s_52 (snd_cons s_53 (snd_cons s_54 (snd_cons s_55 (snd_cons s_60 (snd_cons s_65 (snd_cons s_69 (snd_cons s_73 (snd_cons s_74 (snd_cons s_75 (snd_cons s_76 (snd_cons s_77 (snd_cons s_79 (snd_cons s_21 (snd_cons s_80 snd_nil)))))))))))))))))))))))) (by kernel_rfl : chkFn Tryz.prog 4 ir4 ir4_v = true)
theorem M_laws_FnQueue : c_laws_FnQueue.modes = [.bor] := rfl
theorem Fl_laws_FnQueue : c_laws_FnQueue.flat = true := rfl
attribute [go_sem] M_laws_FnQueue Fl_laws_FnQueue
attribute [go_sem] lk_laws_FnQueue_5 lk_laws_FnQueue_32 lk_laws_FnQueue_33 lk_laws_FnQueue_34 lk_laws_FnQueue_35 lk_laws_FnQueue_36 lk_laws_FnQueue_37 lk_laws_FnQueue_38 lk_laws_FnQueue_39 lk_laws_FnQueue_40 lk_laws_FnQueue_41 lk_laws_FnQueue_42 lk_laws_FnQueue_43 lk_laws_FnQueue_44 lk_laws_FnQueue_45 lk_laws_FnQueue_46 lk_laws_FnQueue_47 lk_laws_FnQueue_48 lk_laws_FnQueue_26 lk_laws_FnQueue_49 lk_laws_FnQueue_50 lk_laws_FnQueue_51 lk_laws_FnQueue_52 lk_laws_FnQueue_53
def E_laws_FnQueue_l1 (list : List Request) (k : Int) (bad : Int) (model : Int) (one : Int) (some_ : List Int) (a : List Request) (slots : List Int) (right_ : List Int) : ((List Int) × Int) → St
 | (counts, i) => ⟨[.any, .any, .own 3200000, .any, .int .i64 k, .int .i64 bad, .int .i64 model, .any, .any, .int .i64 one, .own 3200032, .any, .own 3200064, .own 3200096, .any, .any, .own 3200128, .any, .any, .any, .any, .any, .any, .any, .any, .any, .any, .any, .any, .any, .any, .any, .any, .any, .any, .own 3200160, .int .i64 i, .any, .any, .any], [], [(3200000, ⟨6, List.map Request_av list⟩), (3200032, ⟨1, List.map (AV.int .i64) some_⟩), (3200064, ⟨6, List.map Request_av a⟩), (3200096, ⟨1, List.map (AV.int .i64) slots⟩), (3200128, ⟨1, List.map (AV.int .i64) right_⟩), (3200160, ⟨1, List.map (AV.int .i64) counts⟩)], true⟩
def R_laws_FnQueue_l1 (list : List Request) (k : Int) (bad : Int) (model : Int) (one : Int) (some_ : List Int) (a : List Request) (slots : List Int) (right_ : List Int) : (Unit ⊕ Bool) → Res
 | .inl y => (.exit 0, ⟨[.any, .any, .own 3200000, .any, .int .i64 k, .int .i64 bad, .int .i64 model, .any, .any, .int .i64 one, .own 3200032, .any, .any, .any, .any, .any, .any, .any, .any, .any, .any, .any, .any, .any, .any, .any, .any, .any, .any, .any, .any, .any, .any, .any, .any, .any, .any, .any, .any, .any], [], [(3200000, ⟨6, List.map Request_av list⟩), (3200032, ⟨1, List.map (AV.int .i64) some_⟩)], true⟩)
 | .inr y => (.ret, ⟨[.any, .bool y, .any, .any, .any, .any, .any, .any, .any, .any, .any, .any, .any, .any, .any, .any, .any, .any, .any, .any, .any, .any, .any, .any, .any, .any, .any, .any, .any, .any, .any, .any, .any, .any, .any, .any, .any, .any, .any, .any], [], [], true⟩)
theorem laws_FnQueue_l1_ex {list : List Request} {k : Int} {bad : Int} {model : Int} {one : Int} {some_ : List Int} {a : List Request} {slots : List Int} {right_ : List Int} {sgm_ : (List Int) × Int} {rho_ : Unit ⊕ Bool} (h : whileE (laws_FnQueue_l1 list k bad model one some_ a slots right_) sgm_ = some rho_) : ∃ L0, ∀ L, L0 ≤ L → iter (exec (look t_laws_FnQueue) L ir4_b0) ir4_k0 ir4_o0 ir4_r0 L (E_laws_FnQueue_l1 list k bad model one some_ a slots right_ sgm_) = R_laws_FnQueue_l1 list k bad model one some_ a slots right_ rho_ := by
 refine loop_ex (E := E_laws_FnQueue_l1 list k bad model one some_ a slots right_) (R := R_laws_FnQueue_l1 list k bad model one some_ a slots right_) (fun y => by first | (intro c; cases c) | (rcases y with y | y <;> (intro c; cases c)) | (rcases y with y | y | y <;> (intro c; cases c))) ?_ h
 clear h
 rintro ⟨counts, i⟩ o_ h
 dsimp only [laws_FnQueue_l1] at h
 rcases it_some h with ⟨z32, h⟩ | ⟨z32, h⟩
 ·try simp only [go_sem, n1, n2, n3, n4] at z32
  all_goals
  obtain ⟨z33, h⟩ := ck_some h
  have lz33 := ix_lt z33
  have xz33 := getD_mapD (AV.int .i64) right_ lz33
  try simp only [go_sem] at lz33
  try simp only [go_sem] at xz33
  try simp only [go_sem, n1, n2, n3, n4, z32] at z33
  all_goals
  rcases it_some h with ⟨z34, h⟩ | ⟨z34, h⟩
  ·try simp only [go_sem, n1, n2, n3, n4, z32, z33] at z34
   all_goals
   obtain rfl := so_some h
   refine ⟨0, fun L hL => ?_⟩
   simp only [go_sem, ir4, E_laws_FnQueue_l1, R_laws_FnQueue_l1, ir4_b0, ir4_k0, ir4_o0, ir4_r0, z32, z33, lz33, xz33, z34]
  ·try simp only [go_sem, n1, n2, n3, n4, z32, z33] at z34
   all_goals
   obtain ⟨z35, h⟩ := ck_some h
   have lz35 := ix_lt z35
   have xz35 := getD_mapD Request_av a lz35
   try simp only [go_sem] at lz35
   try simp only [go_sem] at xz35
   try simp only [go_sem, n1, n2, n3, n4, z32, z33, z34] at z35
   all_goals
   obtain ⟨z36, h⟩ := ck_some h
   have lz36 := ix_lt z36
   have xz36 := getD_mapD (AV.int .i64) counts lz36
   try simp only [go_sem] at lz36
   try simp only [go_sem] at xz36
   try simp only [go_sem, n1, n2, n3, n4, z32, z33, z34, z35] at z36
   all_goals
   obtain ⟨z37, h⟩ := ck_some h
   have lz37 := ix_lt z37
   have xz37 := getD_mapD (AV.int .i64) slots lz37
   try simp only [go_sem] at lz37
   try simp only [go_sem] at xz37
   try simp only [go_sem, n1, n2, n3, n4, z32, z33, z34, z35, z36] at z37
   all_goals
   rcases it_some h with ⟨z38, h⟩ | ⟨z38, h⟩
   ·try simp only [go_sem, n1, n2, n3, n4, z32, z33, z34, z35, z36, z37] at z38
    all_goals
    obtain rfl := so_some h
    refine ⟨0, fun L hL => ?_⟩
    simp only [go_sem, ir4, E_laws_FnQueue_l1, R_laws_FnQueue_l1, ir4_b0, ir4_k0, ir4_o0, ir4_r0, z32, z33, lz33, xz33, z34, z35, lz35, xz35, z36, lz36, xz36, z37, lz37, xz37, z38]
   ·try simp only [go_sem, n1, n2, n3, n4, z32, z33, z34, z35, z36, z37] at z38
    all_goals
    obtain rfl := so_some h
    refine ⟨0, fun L hL => ?_⟩
    simp only [go_sem, ir4, E_laws_FnQueue_l1, R_laws_FnQueue_l1, ir4_b0, ir4_k0, ir4_o0, ir4_r0, z32, z33, lz33, xz33, z34, z35, lz35, xz35, z36, lz36, xz36, z37, lz37, xz37, z38]
 ·try simp only [go_sem, n1, n2, n3, n4] at z32
  all_goals
  obtain rfl := so_some h
  refine ⟨0, fun L hL => ?_⟩
  simp only [go_sem, ir4, E_laws_FnQueue_l1, R_laws_FnQueue_l1, ir4_b0, ir4_k0, ir4_o0, ir4_r0, z32]

def E_laws_FnQueue_l2 (list : List Request) (k : Int) (model : Int) (some_ : List Int) : (Bool × Int) → St
 | (found, i) => ⟨[.any, .any, .own 3200000, .any, .int .i64 k, .any, .int .i64 model, .any, .any, .any, .own 3200032, .any, .any, .any, .any, .any, .any, .any, .any, .any, .any, .any, .any, .any, .any, .any, .any, .any, .any, .any, .any, .any, .any, .any, .any, .any, .any, .any, .bool found, .int .i64 i], [], [(3200000, ⟨6, List.map Request_av list⟩), (3200032, ⟨1, List.map (AV.int .i64) some_⟩)], true⟩
def R_laws_FnQueue_l2 (list : List Request) (k : Int) (model : Int) (some_ : List Int) : (Bool ⊕ Bool) → Res
 | .inl y => (.exit 2, ⟨[.any, .any, .any, .any, .any, .any, .any, .any, .any, .any, .any, .any, .any, .any, .any, .any, .any, .any, .any, .any, .any, .any, .any, .any, .any, .any, .any, .any, .any, .any, .any, .any, .any, .any, .any, .any, .any, .any, .bool y, .any], [], [], true⟩)
 | .inr y => (.ret, ⟨[.any, .bool y, .any, .any, .any, .any, .any, .any, .any, .any, .any, .any, .any, .any, .any, .any, .any, .any, .any, .any, .any, .any, .any, .any, .any, .any, .any, .any, .any, .any, .any, .any, .any, .any, .any, .any, .any, .any, .any, .any], [], [], true⟩)
theorem laws_FnQueue_l2_ex {list : List Request} {k : Int} {model : Int} {some_ : List Int} {sgm_ : Bool × Int} {rho_ : Bool ⊕ Bool} (h : whileE (laws_FnQueue_l2 list k model some_) sgm_ = some rho_) : ∃ L0, ∀ L, L0 ≤ L → iter (exec (look t_laws_FnQueue) L ir4_b1) ir4_k1 ir4_o1 ir4_r1 L (E_laws_FnQueue_l2 list k model some_ sgm_) = R_laws_FnQueue_l2 list k model some_ rho_ := by
 refine loop_ex (E := E_laws_FnQueue_l2 list k model some_) (R := R_laws_FnQueue_l2 list k model some_) (fun y => by first | (intro c; cases c) | (rcases y with y | y <;> (intro c; cases c)) | (rcases y with y | y | y <;> (intro c; cases c))) ?_ h
 clear h
 rintro ⟨found, i⟩ o_ h
 dsimp only [laws_FnQueue_l2] at h
 rcases it_some h with ⟨z42, h⟩ | ⟨z42, h⟩
 ·try simp only [go_sem, n1, n2, n3, n4] at z42
  all_goals
  obtain ⟨z43, h⟩ := ck_some h
  rcases or_split z43 with ⟨gz43, z43⟩ | gz43
  ·try simp only [go_sem, n1, n2, n3, n4, z42] at gz43
   all_goals
   have lz43 := ix_lt z43
   have xz43 := getD_mapD (AV.int .i64) some_ lz43
   try simp only [go_sem] at lz43
   try simp only [go_sem] at xz43
   try simp only [go_sem, n1, n2, n3, n4, z42, gz43] at z43
   all_goals
   obtain ⟨z44, h⟩ := ck_some h
   have lz44 := ix_lt z44
   have xz44 := getD_mapD (AV.int .i64) some_ lz44
   try simp only [go_sem] at lz44
   try simp only [go_sem] at xz44
   try simp only [go_sem, n1, n2, n3, n4, z42, gz43, z43] at z44
   all_goals
   obtain ⟨z45, h⟩ := ck_some h
   have lz45 := ix_lt z45
   have xz45 := getD_mapD Request_av list lz45
   try simp only [go_sem] at lz45
   try simp only [go_sem] at xz45
   try simp only [go_sem, n1, n2, n3, n4, z42, gz43, z43, z44] at z45
   all_goals
   obtain ⟨z46, h⟩ := ck_some h
   have lz46 := ix_lt z46
   have xz46 := getD_mapD Request_av list lz46
   try simp only [go_sem] at lz46
   try simp only [go_sem] at xz46
   try simp only [go_sem, n1, n2, n3, n4, z42, gz43, z43, z44, z45] at z46
   all_goals
   rcases it_some h with ⟨z47, h⟩ | ⟨z47, h⟩
   ·try simp only [go_sem, n1, n2, n3, n4, z42, gz43, z43, z44, z45, z46] at z47
    all_goals
    obtain rfl := so_some h
    refine ⟨0, fun L hL => ?_⟩
    simp only [go_sem, ir4, E_laws_FnQueue_l2, R_laws_FnQueue_l2, ir4_b1, ir4_k1, ir4_o1, ir4_r1, E_laws_FnQueue_l1, R_laws_FnQueue_l1, ir4_k0, ir4_o0, ir4_r0, z42, gz43, z43, lz43, xz43, z44, lz44, xz44, z45, lz45, xz45, z46, lz46, xz46, z47]
   ·try simp only [go_sem, n1, n2, n3, n4, z42, gz43, z43, z44, z45, z46] at z47
    all_goals
    obtain rfl := so_some h
    refine ⟨0, fun L hL => ?_⟩
    simp only [go_sem, ir4, E_laws_FnQueue_l2, R_laws_FnQueue_l2, ir4_b1, ir4_k1, ir4_o1, ir4_r1, E_laws_FnQueue_l1, R_laws_FnQueue_l1, ir4_k0, ir4_o0, ir4_r0, z42, gz43, z43, lz43, xz43, z44, lz44, xz44, z45, lz45, xz45, z46, lz46, xz46, z47]
  ·have gz43n := no_f gz43
   try simp only [go_sem, n1, n2, n3, n4, z42] at gz43n
   all_goals
   obtain ⟨z44, h⟩ := ck_some h
   have lz44 := ix_lt z44
   have xz44 := getD_mapD (AV.int .i64) some_ lz44
   try simp only [go_sem] at lz44
   try simp only [go_sem] at xz44
   try simp only [go_sem, n1, n2, n3, n4, z42, gz43n] at z44
   all_goals
   obtain ⟨z45, h⟩ := ck_some h
   have lz45 := ix_lt z45
   have xz45 := getD_mapD Request_av list lz45
   try simp only [go_sem] at lz45
   try simp only [go_sem] at xz45
   try simp only [go_sem, n1, n2, n3, n4, z42, gz43n, z44] at z45
   all_goals
   obtain ⟨z46, h⟩ := ck_some h
   have lz46 := ix_lt z46
   have xz46 := getD_mapD Request_av list lz46
   try simp only [go_sem] at lz46
   try simp only [go_sem] at xz46
   try simp only [go_sem, n1, n2, n3, n4, z42, gz43n, z44, z45] at z46
   all_goals
   rcases it_some h with ⟨z47, h⟩ | ⟨z47, h⟩
   ·try simp only [go_sem, n1, n2, n3, n4, z42, gz43n, z44, z45, z46] at z47
    all_goals
    obtain rfl := so_some h
    refine ⟨0, fun L hL => ?_⟩
    simp only [go_sem, ir4, E_laws_FnQueue_l2, R_laws_FnQueue_l2, ir4_b1, ir4_k1, ir4_o1, ir4_r1, E_laws_FnQueue_l1, R_laws_FnQueue_l1, ir4_k0, ir4_o0, ir4_r0, z42, gz43n, z44, lz44, xz44, z45, lz45, xz45, z46, lz46, xz46, z47]
   ·try simp only [go_sem, n1, n2, n3, n4, z42, gz43n, z44, z45, z46] at z47
    all_goals
    obtain rfl := so_some h
    refine ⟨0, fun L hL => ?_⟩
    simp only [go_sem, ir4, E_laws_FnQueue_l2, R_laws_FnQueue_l2, ir4_b1, ir4_k1, ir4_o1, ir4_r1, E_laws_FnQueue_l1, R_laws_FnQueue_l1, ir4_k0, ir4_o0, ir4_r0, z42, gz43n, z44, lz44, xz44, z45, lz45, xz45, z46, lz46, xz46, z47]
 ·try simp only [go_sem, n1, n2, n3, n4] at z42
  all_goals
  obtain rfl := so_some h
  refine ⟨0, fun L hL => ?_⟩
  simp only [go_sem, ir4, E_laws_FnQueue_l2, R_laws_FnQueue_l2, ir4_b1, ir4_k1, ir4_o1, ir4_r1, E_laws_FnQueue_l1, R_laws_FnQueue_l1, ir4_k0, ir4_o0, ir4_r0, z42]

def E_laws_FnQueue_l3 (list : List Request) (k : Int) (model : Int) (some_ : List Int) : (Bool × Int) → St
 | (found, i) => ⟨[.any, .any, .own 3200000, .any, .int .i64 k, .any, .int .i64 model, .any, .any, .any, .own 3200032, .any, .any, .any, .any, .any, .any, .any, .any, .any, .any, .any, .any, .any, .any, .any, .any, .any, .any, .any, .any, .any, .any, .any, .any, .any, .any, .any, .bool found, .int .i64 i], [], [(3200000, ⟨6, List.map Request_av list⟩), (3200032, ⟨1, List.map (AV.int .i64) some_⟩)], true⟩
def R_laws_FnQueue_l3 (list : List Request) (k : Int) (model : Int) (some_ : List Int) : (Bool ⊕ Bool) → Res
 | .inl y => (.exit 2, ⟨[.any, .any, .any, .any, .any, .any, .any, .any, .any, .any, .any, .any, .any, .any, .any, .any, .any, .any, .any, .any, .any, .any, .any, .any, .any, .any, .any, .any, .any, .any, .any, .any, .any, .any, .any, .any, .any, .any, .bool y, .any], [], [], true⟩)
 | .inr y => (.ret, ⟨[.any, .bool y, .any, .any, .any, .any, .any, .any, .any, .any, .any, .any, .any, .any, .any, .any, .any, .any, .any, .any, .any, .any, .any, .any, .any, .any, .any, .any, .any, .any, .any, .any, .any, .any, .any, .any, .any, .any, .any, .any], [], [], true⟩)
theorem laws_FnQueue_l3_ex {list : List Request} {k : Int} {model : Int} {some_ : List Int} {sgm_ : Bool × Int} {rho_ : Bool ⊕ Bool} (h : whileE (laws_FnQueue_l3 list k model some_) sgm_ = some rho_) : ∃ L0, ∀ L, L0 ≤ L → iter (exec (look t_laws_FnQueue) L ir4_b1) ir4_k1 ir4_o1 ir4_r1 L (E_laws_FnQueue_l3 list k model some_ sgm_) = R_laws_FnQueue_l3 list k model some_ rho_ := by
 refine loop_ex (E := E_laws_FnQueue_l3 list k model some_) (R := R_laws_FnQueue_l3 list k model some_) (fun y => by first | (intro c; cases c) | (rcases y with y | y <;> (intro c; cases c)) | (rcases y with y | y | y <;> (intro c; cases c))) ?_ h
 clear h
 rintro ⟨found, i⟩ o_ h
 dsimp only [laws_FnQueue_l3] at h
 rcases it_some h with ⟨z51, h⟩ | ⟨z51, h⟩
 ·try simp only [go_sem, n1, n2, n3, n4] at z51
  all_goals
  obtain ⟨z52, h⟩ := ck_some h
  rcases or_split z52 with ⟨gz52, z52⟩ | gz52
  ·try simp only [go_sem, n1, n2, n3, n4, z51] at gz52
   all_goals
   have lz52 := ix_lt z52
   have xz52 := getD_mapD (AV.int .i64) some_ lz52
   try simp only [go_sem] at lz52
   try simp only [go_sem] at xz52
   try simp only [go_sem, n1, n2, n3, n4, z51, gz52] at z52
   all_goals
   obtain ⟨z53, h⟩ := ck_some h
   have lz53 := ix_lt z53
   have xz53 := getD_mapD (AV.int .i64) some_ lz53
   try simp only [go_sem] at lz53
   try simp only [go_sem] at xz53
   try simp only [go_sem, n1, n2, n3, n4, z51, gz52, z52] at z53
   all_goals
   obtain ⟨z54, h⟩ := ck_some h
   have lz54 := ix_lt z54
   have xz54 := getD_mapD Request_av list lz54
   try simp only [go_sem] at lz54
   try simp only [go_sem] at xz54
   try simp only [go_sem, n1, n2, n3, n4, z51, gz52, z52, z53] at z54
   all_goals
   obtain ⟨z55, h⟩ := ck_some h
   have lz55 := ix_lt z55
   have xz55 := getD_mapD Request_av list lz55
   try simp only [go_sem] at lz55
   try simp only [go_sem] at xz55
   try simp only [go_sem, n1, n2, n3, n4, z51, gz52, z52, z53, z54] at z55
   all_goals
   rcases it_some h with ⟨z56, h⟩ | ⟨z56, h⟩
   ·try simp only [go_sem, n1, n2, n3, n4, z51, gz52, z52, z53, z54, z55] at z56
    all_goals
    obtain rfl := so_some h
    refine ⟨0, fun L hL => ?_⟩
    simp only [go_sem, ir4, E_laws_FnQueue_l3, R_laws_FnQueue_l3, ir4_b1, ir4_k1, ir4_o1, ir4_r1, E_laws_FnQueue_l1, R_laws_FnQueue_l1, ir4_k0, ir4_o0, ir4_r0, E_laws_FnQueue_l2, R_laws_FnQueue_l2, ir4_k1, ir4_o1, ir4_r1, z51, gz52, z52, lz52, xz52, z53, lz53, xz53, z54, lz54, xz54, z55, lz55, xz55, z56]
   ·try simp only [go_sem, n1, n2, n3, n4, z51, gz52, z52, z53, z54, z55] at z56
    all_goals
    obtain rfl := so_some h
    refine ⟨0, fun L hL => ?_⟩
    simp only [go_sem, ir4, E_laws_FnQueue_l3, R_laws_FnQueue_l3, ir4_b1, ir4_k1, ir4_o1, ir4_r1, E_laws_FnQueue_l1, R_laws_FnQueue_l1, ir4_k0, ir4_o0, ir4_r0, E_laws_FnQueue_l2, R_laws_FnQueue_l2, ir4_k1, ir4_o1, ir4_r1, z51, gz52, z52, lz52, xz52, z53, lz53, xz53, z54, lz54, xz54, z55, lz55, xz55, z56]
  ·have gz52n := no_f gz52
   try simp only [go_sem, n1, n2, n3, n4, z51] at gz52n
   all_goals
   obtain ⟨z53, h⟩ := ck_some h
   have lz53 := ix_lt z53
   have xz53 := getD_mapD (AV.int .i64) some_ lz53
   try simp only [go_sem] at lz53
   try simp only [go_sem] at xz53
   try simp only [go_sem, n1, n2, n3, n4, z51, gz52n] at z53
   all_goals
   obtain ⟨z54, h⟩ := ck_some h
   have lz54 := ix_lt z54
   have xz54 := getD_mapD Request_av list lz54
   try simp only [go_sem] at lz54
   try simp only [go_sem] at xz54
   try simp only [go_sem, n1, n2, n3, n4, z51, gz52n, z53] at z54
   all_goals
   obtain ⟨z55, h⟩ := ck_some h
   have lz55 := ix_lt z55
   have xz55 := getD_mapD Request_av list lz55
   try simp only [go_sem] at lz55
   try simp only [go_sem] at xz55
   try simp only [go_sem, n1, n2, n3, n4, z51, gz52n, z53, z54] at z55
   all_goals
   rcases it_some h with ⟨z56, h⟩ | ⟨z56, h⟩
   ·try simp only [go_sem, n1, n2, n3, n4, z51, gz52n, z53, z54, z55] at z56
    all_goals
    obtain rfl := so_some h
    refine ⟨0, fun L hL => ?_⟩
    simp only [go_sem, ir4, E_laws_FnQueue_l3, R_laws_FnQueue_l3, ir4_b1, ir4_k1, ir4_o1, ir4_r1, E_laws_FnQueue_l1, R_laws_FnQueue_l1, ir4_k0, ir4_o0, ir4_r0, E_laws_FnQueue_l2, R_laws_FnQueue_l2, ir4_k1, ir4_o1, ir4_r1, z51, gz52n, z53, lz53, xz53, z54, lz54, xz54, z55, lz55, xz55, z56]
   ·try simp only [go_sem, n1, n2, n3, n4, z51, gz52n, z53, z54, z55] at z56
    all_goals
    obtain rfl := so_some h
    refine ⟨0, fun L hL => ?_⟩
    simp only [go_sem, ir4, E_laws_FnQueue_l3, R_laws_FnQueue_l3, ir4_b1, ir4_k1, ir4_o1, ir4_r1, E_laws_FnQueue_l1, R_laws_FnQueue_l1, ir4_k0, ir4_o0, ir4_r0, E_laws_FnQueue_l2, R_laws_FnQueue_l2, ir4_k1, ir4_o1, ir4_r1, z51, gz52n, z53, lz53, xz53, z54, lz54, xz54, z55, lz55, xz55, z56]
 ·try simp only [go_sem, n1, n2, n3, n4] at z51
  all_goals
  obtain rfl := so_some h
  refine ⟨0, fun L hL => ?_⟩
  simp only [go_sem, ir4, E_laws_FnQueue_l3, R_laws_FnQueue_l3, ir4_b1, ir4_k1, ir4_o1, ir4_r1, E_laws_FnQueue_l1, R_laws_FnQueue_l1, ir4_k0, ir4_o0, ir4_r0, E_laws_FnQueue_l2, R_laws_FnQueue_l2, ir4_k1, ir4_o1, ir4_r1, z51]

set_option maxHeartbeats 8000000 in
theorem Fs_laws_FnQueue {code : List UInt8} {y_ : Bool} (h : laws_FnQueue code = some y_) : c_laws_FnQueue.F [.sl 1 (List.map byteAV code)] = ⟨true, .bool y_, [.any]⟩ := by
 refine mkF_E rfl ?_
 dsimp only [laws_FnQueue] at h
 obtain ⟨y_1, z1, h⟩ := bd_some h
 have fz1 := Fs_0 z1
 try simp only [go_sem] at fz1
 rcases it_some h with ⟨z2, h⟩ | ⟨z2, h⟩
 ·try simp only [go_sem, n1, n2, n3, n4] at z2
  all_goals
  obtain rfl := so_some h
  refine ⟨0, fun L hL => ?_⟩
  simp only [go_sem, ir4, E_laws_FnQueue_l1, R_laws_FnQueue_l1, ir4_k0, ir4_o0, ir4_r0, E_laws_FnQueue_l2, R_laws_FnQueue_l2, ir4_k1, ir4_o1, ir4_r1, E_laws_FnQueue_l3, R_laws_FnQueue_l3, ir4_k1, ir4_o1, ir4_r1, fz1, z2]
 ·try simp only [go_sem, n1, n2, n3, n4] at z2
  all_goals
  obtain ⟨y_3, z3, h⟩ := bd_some h
  have fz3 := Fs_13 z3
  try simp only [go_sem, z2] at fz3
  obtain ⟨y_4, z4, h⟩ := bd_some h
  have fz4 := Fs_25 z4
  try simp only [go_sem, z2] at fz4
  obtain ⟨y_5, z5, h⟩ := bd_some h
  have fz5 := Fs_37 z5
  try simp only [go_sem, z2] at fz5
  obtain ⟨y_6, z6, h⟩ := bd_some h
  have fz6 := Fs_40 z6
  try simp only [go_sem, z2] at fz6
  obtain ⟨y_7, z7, h⟩ := bd_some h
  have fz7 := Fs_41 z7
  try simp only [go_sem, z2] at fz7
  obtain ⟨y_8, z8, h⟩ := bd_some h
  have fz8 := Fs_42 z8
  try simp only [go_sem, z2] at fz8
  obtain ⟨y_9, z9, h⟩ := bd_some h
  have fz9 := Fs_49 z9
  try simp only [go_sem, z2] at fz9
  obtain ⟨y_10, z10, h⟩ := bd_some h
  have fz10 := Fs_51 z10
  try simp only [go_sem, z2] at fz10
  obtain ⟨y_11, z11, h⟩ := bd_some h
  have fz11 := Fs_52 z11
  try simp only [go_sem, z2] at fz11
  obtain ⟨y_12, z12, h⟩ := bd_some h
  have fz12 := Fs_53 z12
  try simp only [go_sem, z2] at fz12
  obtain ⟨y_13, z13, h⟩ := bd_some h
  have fz13 := Fs_54 z13
  try simp only [go_sem, z2] at fz13
  obtain ⟨y_14, z14, h⟩ := bd_some h
  have fz14 := Fs_55 z14
  try simp only [go_sem, z2] at fz14
  obtain ⟨y_15, z15, h⟩ := bd_some h
  have fz15 := Fs_60 z15
  try simp only [go_sem, z2] at fz15
  obtain ⟨y_16, z16, h⟩ := bd_some h
  have fz16 := Fs_65 z16
  try simp only [go_sem, z2] at fz16
  obtain ⟨y_17, z17, h⟩ := bd_some h
  have fz17 := Fs_69 z17
  try simp only [go_sem, z2] at fz17
  obtain ⟨y_18, z18, h⟩ := bd_some h
  have fz18 := Fs_65 z18
  try simp only [go_sem, z2] at fz18
  obtain ⟨y_19, z19, h⟩ := bd_some h
  have fz19 := Fs_73 z19
  try simp only [go_sem, z2] at fz19
  obtain ⟨y_20, z20, h⟩ := bd_some h
  have fz20 := Fs_74 z20
  try simp only [go_sem, z2] at fz20
  obtain ⟨z21, h⟩ := ck_some h
  rcases or_split z21 with ⟨gz21, z21⟩ | gz21
  ·try simp only [go_sem, n1, n2, n3, n4, z2] at gz21
   all_goals
   obtain ⟨y_21, hz21⟩ := Option.isSome_iff_exists.1 z21
   have fz21 := Fs_75 hz21
   try simp only [go_sem, n1, n2, n3, n4, z2, gz21] at hz21
   all_goals
   try simp only [go_sem, z2, gz21] at fz21
   obtain ⟨z22, h⟩ := ck_some h
   rcases or_split z22 with ⟨gz22, z22⟩ | gz22
   ·try simp only [go_sem, n1, n2, n3, n4, z2, gz21, hz21] at gz22
    all_goals
    obtain ⟨y_22, hz22⟩ := Option.isSome_iff_exists.1 z22
    have fz22 := Fs_75 hz22
    try simp only [go_sem, n1, n2, n3, n4, z2, gz21, hz21, gz22] at hz22
    all_goals
    try simp only [go_sem, z2, gz21, hz21, gz22] at fz22
    obtain ⟨z23, h⟩ := ck_some h
    rcases or_split z23 with ⟨gz23, z23⟩ | gz23
    ·try simp only [go_sem, n1, n2, n3, n4, z2, gz21, hz21, gz22, hz22] at gz23
     all_goals
     obtain ⟨y_23, hz23⟩ := Option.isSome_iff_exists.1 z23
     have fz23 := Fs_76 hz23
     try simp only [go_sem, n1, n2, n3, n4, z2, gz21, hz21, gz22, hz22, gz23] at hz23
     all_goals
     try simp only [go_sem, z2, gz21, hz21, gz22, hz22, gz23] at fz23
     obtain ⟨z24, h⟩ := ck_some h
     rcases or_split z24 with ⟨gz24, z24⟩ | gz24
     ·try simp only [go_sem, n1, n2, n3, n4, z2, gz21, hz21, gz22, hz22, gz23, hz23] at gz24
      all_goals
      obtain ⟨y_24, hz24⟩ := Option.isSome_iff_exists.1 z24
      have fz24 := Fs_77 hz24
      try simp only [go_sem, n1, n2, n3, n4, z2, gz21, hz21, gz22, hz22, gz23, hz23, gz24] at hz24
      all_goals
      try simp only [go_sem, z2, gz21, hz21, gz22, hz22, gz23, hz23, gz24] at fz24
      obtain ⟨z25, h⟩ := ck_some h
      rcases or_split z25 with ⟨gz25, z25⟩ | gz25
      ·try simp only [go_sem, n1, n2, n3, n4, z2, gz21, hz21, gz22, hz22, gz23, hz23, gz24, hz24] at gz25
       all_goals
       obtain ⟨y_25, hz25⟩ := Option.isSome_iff_exists.1 z25
       have fz25 := Fs_79 hz25
       try simp only [go_sem, n1, n2, n3, n4, z2, gz21, hz21, gz22, hz22, gz23, hz23, gz24, hz24, gz25] at hz25
       all_goals
       try simp only [go_sem, z2, gz21, hz21, gz22, hz22, gz23, hz23, gz24, hz24, gz25] at fz25
       obtain ⟨z26, h⟩ := ck_some h
       rcases or_split z26 with ⟨gz26, z26⟩ | gz26
       ·try simp only [go_sem, n1, n2, n3, n4, z2, gz21, hz21, gz22, hz22, gz23, hz23, gz24, hz24, gz25, hz25] at gz26
        all_goals
        obtain ⟨y_26, hz26⟩ := Option.isSome_iff_exists.1 z26
        have fz26 := Fs_76 hz26
        try simp only [go_sem, n1, n2, n3, n4, z2, gz21, hz21, gz22, hz22, gz23, hz23, gz24, hz24, gz25, hz25, gz26] at hz26
        all_goals
        try simp only [go_sem, z2, gz21, hz21, gz22, hz22, gz23, hz23, gz24, hz24, gz25, hz25, gz26] at fz26
        obtain ⟨z27, h⟩ := ck_some h
        rcases or_split z27 with ⟨gz27, z27⟩ | gz27
        ·try simp only [go_sem, n1, n2, n3, n4, z2, gz21, hz21, gz22, hz22, gz23, hz23, gz24, hz24, gz25, hz25, gz26, hz26] at gz27
         all_goals
         obtain ⟨y_27, hz27⟩ := Option.isSome_iff_exists.1 z27
         have fz27 := Fs_21 hz27
         try simp only [go_sem, n1, n2, n3, n4, z2, gz21, hz21, gz22, hz22, gz23, hz23, gz24, hz24, gz25, hz25, gz26, hz26, gz27] at hz27
         all_goals
         try simp only [go_sem, z2, gz21, hz21, gz22, hz22, gz23, hz23, gz24, hz24, gz25, hz25, gz26, hz26, gz27] at fz27
         obtain ⟨z28, h⟩ := ck_some h
         rcases or_split z28 with ⟨gz28, z28⟩ | gz28
         ·try simp only [go_sem, n1, n2, n3, n4, z2, gz21, hz21, gz22, hz22, gz23, hz23, gz24, hz24, gz25, hz25, gz26, hz26, gz27, hz27] at gz28
          all_goals
          obtain ⟨y_28, hz28⟩ := Option.isSome_iff_exists.1 z28
          have fz28 := Fs_80 hz28
          try simp only [go_sem, n1, n2, n3, n4, z2, gz21, hz21, gz22, hz22, gz23, hz23, gz24, hz24, gz25, hz25, gz26, hz26, gz27, hz27, gz28] at hz28
          all_goals
          try simp only [go_sem, z2, gz21, hz21, gz22, hz22, gz23, hz23, gz24, hz24, gz25, hz25, gz26, hz26, gz27, hz27, gz28] at fz28
          rcases it_some h with ⟨z29, h⟩ | ⟨z29, h⟩
          ·try simp only [go_sem, n1, n2, n3, n4, z2, gz21, hz21, gz22, hz22, gz23, hz23, gz24, hz24, gz25, hz25, gz26, hz26, gz27, hz27, gz28, hz28] at z29
           all_goals
           obtain rfl := so_some h
           refine ⟨0, fun L hL => ?_⟩
           simp only [go_sem, ir4, E_laws_FnQueue_l1, R_laws_FnQueue_l1, ir4_k0, ir4_o0, ir4_r0, E_laws_FnQueue_l2, R_laws_FnQueue_l2, ir4_k1, ir4_o1, ir4_r1, E_laws_FnQueue_l3, R_laws_FnQueue_l3, ir4_k1, ir4_o1, ir4_r1, fz1, z2, fz3, fz4, fz5, fz6, fz7, fz8, fz9, fz10, fz11, fz12, fz13, fz14, fz15, fz16, fz17, fz18, fz19, fz20, gz21, hz21, fz21, gz22, hz22, fz22, gz23, hz23, fz23, gz24, hz24, fz24, gz25, hz25, fz25, gz26, hz26, fz26, gz27, hz27, fz27, gz28, hz28, fz28, z29]
          ·try simp only [go_sem, n1, n2, n3, n4, z2, gz21, hz21, gz22, hz22, gz23, hz23, gz24, hz24, gz25, hz25, gz26, hz26, gz27, hz27, gz28, hz28] at z29
           all_goals
           rcases it_some h with ⟨z30, h⟩ | ⟨z30, h⟩
           ·try simp only [go_sem, n1, n2, n3, n4, z2, gz21, hz21, gz22, hz22, gz23, hz23, gz24, hz24, gz25, hz25, gz26, hz26, gz27, hz27, gz28, hz28, z29] at z30
            all_goals
            obtain ⟨z31, h⟩ := ck_some h
            try simp only [go_sem, n1, n2, n3, n4, z2, gz21, hz21, gz22, hz22, gz23, hz23, gz24, hz24, gz25, hz25, gz26, hz26, gz27, hz27, gz28, hz28, z29, z30] at z31
            all_goals
            obtain ⟨y_39, z39, h⟩ := bd_some h
            obtain ⟨Lz39, ez39⟩ := laws_FnQueue_l1_ex z39
            rcases y_39 with y_39a | y_39b
            ·dsimp only at h
             rcases it_some h with ⟨z40, h⟩ | ⟨z40, h⟩
             ·try simp only [go_sem, n1, n2, n3, n4, z2, gz21, hz21, gz22, hz22, gz23, hz23, gz24, hz24, gz25, hz25, gz26, hz26, gz27, hz27, gz28, hz28, z29, z30, z31] at z40
              all_goals
              obtain rfl := so_some h
              refine ⟨Lz39, fun L hL => ?_⟩
              have ez39 := ez39 L (by omega)
              try simp only [go_sem, E_laws_FnQueue_l1, R_laws_FnQueue_l1, ir4_k0, ir4_o0, ir4_r0, E_laws_FnQueue_l2, R_laws_FnQueue_l2, ir4_k1, ir4_o1, ir4_r1, E_laws_FnQueue_l3, R_laws_FnQueue_l3, ir4_k1, ir4_o1, ir4_r1, z2, gz21, hz21, gz22, hz22, gz23, hz23, gz24, hz24, gz25, hz25, gz26, hz26, gz27, hz27, gz28, hz28, z29, z30, z31, z40] at ez39
              simp only [go_sem, ir4, E_laws_FnQueue_l1, R_laws_FnQueue_l1, ir4_k0, ir4_o0, ir4_r0, E_laws_FnQueue_l2, R_laws_FnQueue_l2, ir4_k1, ir4_o1, ir4_r1, E_laws_FnQueue_l3, R_laws_FnQueue_l3, ir4_k1, ir4_o1, ir4_r1, fz1, z2, fz3, fz4, fz5, fz6, fz7, fz8, fz9, fz10, fz11, fz12, fz13, fz14, fz15, fz16, fz17, fz18, fz19, fz20, gz21, hz21, fz21, gz22, hz22, fz22, gz23, hz23, fz23, gz24, hz24, fz24, gz25, hz25, fz25, gz26, hz26, fz26, gz27, hz27, fz27, gz28, hz28, fz28, z29, z30, z31, z40, ez39]
             ·try simp only [go_sem, n1, n2, n3, n4, z2, gz21, hz21, gz22, hz22, gz23, hz23, gz24, hz24, gz25, hz25, gz26, hz26, gz27, hz27, gz28, hz28, z29, z30, z31] at z40
              all_goals
              rcases it_some h with ⟨z41, h⟩ | ⟨z41, h⟩
              ·try simp only [go_sem, n1, n2, n3, n4, z2, gz21, hz21, gz22, hz22, gz23, hz23, gz24, hz24, gz25, hz25, gz26, hz26, gz27, hz27, gz28, hz28, z29, z30, z31, z40] at z41
               all_goals
               obtain rfl := so_some h
               refine ⟨Lz39, fun L hL => ?_⟩
               have ez39 := ez39 L (by omega)
               try simp only [go_sem, E_laws_FnQueue_l1, R_laws_FnQueue_l1, ir4_k0, ir4_o0, ir4_r0, E_laws_FnQueue_l2, R_laws_FnQueue_l2, ir4_k1, ir4_o1, ir4_r1, E_laws_FnQueue_l3, R_laws_FnQueue_l3, ir4_k1, ir4_o1, ir4_r1, z2, gz21, hz21, gz22, hz22, gz23, hz23, gz24, hz24, gz25, hz25, gz26, hz26, gz27, hz27, gz28, hz28, z29, z30, z31, z40, z41] at ez39
               simp only [go_sem, ir4, E_laws_FnQueue_l1, R_laws_FnQueue_l1, ir4_k0, ir4_o0, ir4_r0, E_laws_FnQueue_l2, R_laws_FnQueue_l2, ir4_k1, ir4_o1, ir4_r1, E_laws_FnQueue_l3, R_laws_FnQueue_l3, ir4_k1, ir4_o1, ir4_r1, fz1, z2, fz3, fz4, fz5, fz6, fz7, fz8, fz9, fz10, fz11, fz12, fz13, fz14, fz15, fz16, fz17, fz18, fz19, fz20, gz21, hz21, fz21, gz22, hz22, fz22, gz23, hz23, fz23, gz24, hz24, fz24, gz25, hz25, fz25, gz26, hz26, fz26, gz27, hz27, fz27, gz28, hz28, fz28, z29, z30, z31, z40, z41, ez39]
              ·try simp only [go_sem, n1, n2, n3, n4, z2, gz21, hz21, gz22, hz22, gz23, hz23, gz24, hz24, gz25, hz25, gz26, hz26, gz27, hz27, gz28, hz28, z29, z30, z31, z40] at z41
               all_goals
               obtain ⟨y_48, z48, h⟩ := bd_some h
               obtain ⟨Lz48, ez48⟩ := laws_FnQueue_l2_ex z48
               rcases y_48 with y_48a | y_48b
               ·dsimp only at h
                obtain rfl := so_some h
                refine ⟨Lz39 + Lz48, fun L hL => ?_⟩
                have ez39 := ez39 L (by omega)
                have ez48 := ez48 L (by omega)
                try simp only [go_sem, E_laws_FnQueue_l1, R_laws_FnQueue_l1, ir4_k0, ir4_o0, ir4_r0, E_laws_FnQueue_l2, R_laws_FnQueue_l2, ir4_k1, ir4_o1, ir4_r1, E_laws_FnQueue_l3, R_laws_FnQueue_l3, ir4_k1, ir4_o1, ir4_r1, z2, gz21, hz21, gz22, hz22, gz23, hz23, gz24, hz24, gz25, hz25, gz26, hz26, gz27, hz27, gz28, hz28, z29, z30, z31, z40, z41] at ez39
                try simp only [go_sem, E_laws_FnQueue_l1, R_laws_FnQueue_l1, ir4_k0, ir4_o0, ir4_r0, E_laws_FnQueue_l2, R_laws_FnQueue_l2, ir4_k1, ir4_o1, ir4_r1, E_laws_FnQueue_l3, R_laws_FnQueue_l3, ir4_k1, ir4_o1, ir4_r1, z2, gz21, hz21, gz22, hz22, gz23, hz23, gz24, hz24, gz25, hz25, gz26, hz26, gz27, hz27, gz28, hz28, z29, z30, z31, z40, z41] at ez48
                simp only [go_sem, ir4, E_laws_FnQueue_l1, R_laws_FnQueue_l1, ir4_k0, ir4_o0, ir4_r0, E_laws_FnQueue_l2, R_laws_FnQueue_l2, ir4_k1, ir4_o1, ir4_r1, E_laws_FnQueue_l3, R_laws_FnQueue_l3, ir4_k1, ir4_o1, ir4_r1, fz1, z2, fz3, fz4, fz5, fz6, fz7, fz8, fz9, fz10, fz11, fz12, fz13, fz14, fz15, fz16, fz17, fz18, fz19, fz20, gz21, hz21, fz21, gz22, hz22, fz22, gz23, hz23, fz23, gz24, hz24, fz24, gz25, hz25, fz25, gz26, hz26, fz26, gz27, hz27, fz27, gz28, hz28, fz28, z29, z30, z31, z40, z41, ez39, ez48]
               ·dsimp only at h
                obtain rfl := so_some h
                refine ⟨Lz39 + Lz48, fun L hL => ?_⟩
                have ez39 := ez39 L (by omega)
                have ez48 := ez48 L (by omega)
                try simp only [go_sem, E_laws_FnQueue_l1, R_laws_FnQueue_l1, ir4_k0, ir4_o0, ir4_r0, E_laws_FnQueue_l2, R_laws_FnQueue_l2, ir4_k1, ir4_o1, ir4_r1, E_laws_FnQueue_l3, R_laws_FnQueue_l3, ir4_k1, ir4_o1, ir4_r1, z2, gz21, hz21, gz22, hz22, gz23, hz23, gz24, hz24, gz25, hz25, gz26, hz26, gz27, hz27, gz28, hz28, z29, z30, z31, z40, z41] at ez39
                try simp only [go_sem, E_laws_FnQueue_l1, R_laws_FnQueue_l1, ir4_k0, ir4_o0, ir4_r0, E_laws_FnQueue_l2, R_laws_FnQueue_l2, ir4_k1, ir4_o1, ir4_r1, E_laws_FnQueue_l3, R_laws_FnQueue_l3, ir4_k1, ir4_o1, ir4_r1, z2, gz21, hz21, gz22, hz22, gz23, hz23, gz24, hz24, gz25, hz25, gz26, hz26, gz27, hz27, gz28, hz28, z29, z30, z31, z40, z41] at ez48
                simp only [go_sem, ir4, E_laws_FnQueue_l1, R_laws_FnQueue_l1, ir4_k0, ir4_o0, ir4_r0, E_laws_FnQueue_l2, R_laws_FnQueue_l2, ir4_k1, ir4_o1, ir4_r1, E_laws_FnQueue_l3, R_laws_FnQueue_l3, ir4_k1, ir4_o1, ir4_r1, fz1, z2, fz3, fz4, fz5, fz6, fz7, fz8, fz9, fz10, fz11, fz12, fz13, fz14, fz15, fz16, fz17, fz18, fz19, fz20, gz21, hz21, fz21, gz22, hz22, fz22, gz23, hz23, fz23, gz24, hz24, fz24, gz25, hz25, fz25, gz26, hz26, fz26, gz27, hz27, fz27, gz28, hz28, fz28, z29, z30, z31, z40, z41, ez39, ez48]
            ·dsimp only at h
             obtain rfl := so_some h
             refine ⟨Lz39, fun L hL => ?_⟩
             have ez39 := ez39 L (by omega)
             try simp only [go_sem, E_laws_FnQueue_l1, R_laws_FnQueue_l1, ir4_k0, ir4_o0, ir4_r0, E_laws_FnQueue_l2, R_laws_FnQueue_l2, ir4_k1, ir4_o1, ir4_r1, E_laws_FnQueue_l3, R_laws_FnQueue_l3, ir4_k1, ir4_o1, ir4_r1, z2, gz21, hz21, gz22, hz22, gz23, hz23, gz24, hz24, gz25, hz25, gz26, hz26, gz27, hz27, gz28, hz28, z29, z30, z31] at ez39
             simp only [go_sem, ir4, E_laws_FnQueue_l1, R_laws_FnQueue_l1, ir4_k0, ir4_o0, ir4_r0, E_laws_FnQueue_l2, R_laws_FnQueue_l2, ir4_k1, ir4_o1, ir4_r1, E_laws_FnQueue_l3, R_laws_FnQueue_l3, ir4_k1, ir4_o1, ir4_r1, fz1, z2, fz3, fz4, fz5, fz6, fz7, fz8, fz9, fz10, fz11, fz12, fz13, fz14, fz15, fz16, fz17, fz18, fz19, fz20, gz21, hz21, fz21, gz22, hz22, fz22, gz23, hz23, fz23, gz24, hz24, fz24, gz25, hz25, fz25, gz26, hz26, fz26, gz27, hz27, fz27, gz28, hz28, fz28, z29, z30, z31, ez39]
           ·try simp only [go_sem, n1, n2, n3, n4, z2, gz21, hz21, gz22, hz22, gz23, hz23, gz24, hz24, gz25, hz25, gz26, hz26, gz27, hz27, gz28, hz28, z29] at z30
            all_goals
            rcases it_some h with ⟨z49, h⟩ | ⟨z49, h⟩
            ·try simp only [go_sem, n1, n2, n3, n4, z2, gz21, hz21, gz22, hz22, gz23, hz23, gz24, hz24, gz25, hz25, gz26, hz26, gz27, hz27, gz28, hz28, z29, z30] at z49
             all_goals
             obtain rfl := so_some h
             refine ⟨0, fun L hL => ?_⟩
             simp only [go_sem, ir4, E_laws_FnQueue_l1, R_laws_FnQueue_l1, ir4_k0, ir4_o0, ir4_r0, E_laws_FnQueue_l2, R_laws_FnQueue_l2, ir4_k1, ir4_o1, ir4_r1, E_laws_FnQueue_l3, R_laws_FnQueue_l3, ir4_k1, ir4_o1, ir4_r1, fz1, z2, fz3, fz4, fz5, fz6, fz7, fz8, fz9, fz10, fz11, fz12, fz13, fz14, fz15, fz16, fz17, fz18, fz19, fz20, gz21, hz21, fz21, gz22, hz22, fz22, gz23, hz23, fz23, gz24, hz24, fz24, gz25, hz25, fz25, gz26, hz26, fz26, gz27, hz27, fz27, gz28, hz28, fz28, z29, z30, z49]
            ·try simp only [go_sem, n1, n2, n3, n4, z2, gz21, hz21, gz22, hz22, gz23, hz23, gz24, hz24, gz25, hz25, gz26, hz26, gz27, hz27, gz28, hz28, z29, z30] at z49
             all_goals
             rcases it_some h with ⟨z50, h⟩ | ⟨z50, h⟩
             ·try simp only [go_sem, n1, n2, n3, n4, z2, gz21, hz21, gz22, hz22, gz23, hz23, gz24, hz24, gz25, hz25, gz26, hz26, gz27, hz27, gz28, hz28, z29, z30, z49] at z50
              all_goals
              obtain rfl := so_some h
              refine ⟨0, fun L hL => ?_⟩
              simp only [go_sem, ir4, E_laws_FnQueue_l1, R_laws_FnQueue_l1, ir4_k0, ir4_o0, ir4_r0, E_laws_FnQueue_l2, R_laws_FnQueue_l2, ir4_k1, ir4_o1, ir4_r1, E_laws_FnQueue_l3, R_laws_FnQueue_l3, ir4_k1, ir4_o1, ir4_r1, fz1, z2, fz3, fz4, fz5, fz6, fz7, fz8, fz9, fz10, fz11, fz12, fz13, fz14, fz15, fz16, fz17, fz18, fz19, fz20, gz21, hz21, fz21, gz22, hz22, fz22, gz23, hz23, fz23, gz24, hz24, fz24, gz25, hz25, fz25, gz26, hz26, fz26, gz27, hz27, fz27, gz28, hz28, fz28, z29, z30, z49, z50]
             ·try simp only [go_sem, n1, n2, n3, n4, z2, gz21, hz21, gz22, hz22, gz23, hz23, gz24, hz24, gz25, hz25, gz26, hz26, gz27, hz27, gz28, hz28, z29, z30, z49] at z50
              all_goals
              obtain ⟨y_57, z57, h⟩ := bd_some h
              obtain ⟨Lz57, ez57⟩ := laws_FnQueue_l3_ex z57
              rcases y_57 with y_57a | y_57b
              ·dsimp only at h
               obtain rfl := so_some h
               refine ⟨Lz57, fun L hL => ?_⟩
               have ez57 := ez57 L (by omega)
               try simp only [go_sem, E_laws_FnQueue_l1, R_laws_FnQueue_l1, ir4_k0, ir4_o0, ir4_r0, E_laws_FnQueue_l2, R_laws_FnQueue_l2, ir4_k1, ir4_o1, ir4_r1, E_laws_FnQueue_l3, R_laws_FnQueue_l3, ir4_k1, ir4_o1, ir4_r1, z2, gz21, hz21, gz22, hz22, gz23, hz23, gz24, hz24, gz25, hz25, gz26, hz26, gz27, hz27, gz28, hz28, z29, z30, z49, z50] at ez57
               simp only [go_sem, ir4, E_laws_FnQueue_l1, R_laws_FnQueue_l1, ir4_k0, ir4_o0, ir4_r0, E_laws_FnQueue_l2, R_laws_FnQueue_l2, ir4_k1, ir4_o1, ir4_r1, E_laws_FnQueue_l3, R_laws_FnQueue_l3, ir4_k1, ir4_o1, ir4_r1, fz1, z2, fz3, fz4, fz5, fz6, fz7, fz8, fz9, fz10, fz11, fz12, fz13, fz14, fz15, fz16, fz17, fz18, fz19, fz20, gz21, hz21, fz21, gz22, hz22, fz22, gz23, hz23, fz23, gz24, hz24, fz24, gz25, hz25, fz25, gz26, hz26, fz26, gz27, hz27, fz27, gz28, hz28, fz28, z29, z30, z49, z50, ez57]
              ·dsimp only at h
               obtain rfl := so_some h
               refine ⟨Lz57, fun L hL => ?_⟩
               have ez57 := ez57 L (by omega)
               try simp only [go_sem, E_laws_FnQueue_l1, R_laws_FnQueue_l1, ir4_k0, ir4_o0, ir4_r0, E_laws_FnQueue_l2, R_laws_FnQueue_l2, ir4_k1, ir4_o1, ir4_r1, E_laws_FnQueue_l3, R_laws_FnQueue_l3, ir4_k1, ir4_o1, ir4_r1, z2, gz21, hz21, gz22, hz22, gz23, hz23, gz24, hz24, gz25, hz25, gz26, hz26, gz27, hz27, gz28, hz28, z29, z30, z49, z50] at ez57
               simp only [go_sem, ir4, E_laws_FnQueue_l1, R_laws_FnQueue_l1, ir4_k0, ir4_o0, ir4_r0, E_laws_FnQueue_l2, R_laws_FnQueue_l2, ir4_k1, ir4_o1, ir4_r1, E_laws_FnQueue_l3, R_laws_FnQueue_l3, ir4_k1, ir4_o1, ir4_r1, fz1, z2, fz3, fz4, fz5, fz6, fz7, fz8, fz9, fz10, fz11, fz12, fz13, fz14, fz15, fz16, fz17, fz18, fz19, fz20, gz21, hz21, fz21, gz22, hz22, fz22, gz23, hz23, fz23, gz24, hz24, fz24, gz25, hz25, fz25, gz26, hz26, fz26, gz27, hz27, fz27, gz28, hz28, fz28, z29, z30, z49, z50, ez57]
         ·have gz28n := no_f gz28
          try simp only [go_sem, n1, n2, n3, n4, z2, gz21, hz21, gz22, hz22, gz23, hz23, gz24, hz24, gz25, hz25, gz26, hz26, gz27, hz27] at gz28n
          all_goals
          rcases it_some h with ⟨z29, h⟩ | ⟨z29, h⟩
          ·try simp only [go_sem, n1, n2, n3, n4, z2, gz21, hz21, gz22, hz22, gz23, hz23, gz24, hz24, gz25, hz25, gz26, hz26, gz27, hz27, gz28n] at z29
           all_goals
           obtain rfl := so_some h
           refine ⟨0, fun L hL => ?_⟩
           simp only [go_sem, ir4, E_laws_FnQueue_l1, R_laws_FnQueue_l1, ir4_k0, ir4_o0, ir4_r0, E_laws_FnQueue_l2, R_laws_FnQueue_l2, ir4_k1, ir4_o1, ir4_r1, E_laws_FnQueue_l3, R_laws_FnQueue_l3, ir4_k1, ir4_o1, ir4_r1, fz1, z2, fz3, fz4, fz5, fz6, fz7, fz8, fz9, fz10, fz11, fz12, fz13, fz14, fz15, fz16, fz17, fz18, fz19, fz20, gz21, hz21, fz21, gz22, hz22, fz22, gz23, hz23, fz23, gz24, hz24, fz24, gz25, hz25, fz25, gz26, hz26, fz26, gz27, hz27, fz27, gz28n, z29]
          ·try simp only [go_sem, n1, n2, n3, n4, z2, gz21, hz21, gz22, hz22, gz23, hz23, gz24, hz24, gz25, hz25, gz26, hz26, gz27, hz27, gz28n] at z29
           all_goals
           (simp_all)
        ·have gz27n := no_f gz27
         try simp only [go_sem, n1, n2, n3, n4, z2, gz21, hz21, gz22, hz22, gz23, hz23, gz24, hz24, gz25, hz25, gz26, hz26] at gz27n
         all_goals
         obtain ⟨z28, h⟩ := ck_some h
         rcases it_some h with ⟨z29, h⟩ | ⟨z29, h⟩
         ·try simp only [go_sem, n1, n2, n3, n4, z2, gz21, hz21, gz22, hz22, gz23, hz23, gz24, hz24, gz25, hz25, gz26, hz26, gz27n] at z29
          all_goals
          obtain rfl := so_some h
          refine ⟨0, fun L hL => ?_⟩
          simp only [go_sem, ir4, E_laws_FnQueue_l1, R_laws_FnQueue_l1, ir4_k0, ir4_o0, ir4_r0, E_laws_FnQueue_l2, R_laws_FnQueue_l2, ir4_k1, ir4_o1, ir4_r1, E_laws_FnQueue_l3, R_laws_FnQueue_l3, ir4_k1, ir4_o1, ir4_r1, fz1, z2, fz3, fz4, fz5, fz6, fz7, fz8, fz9, fz10, fz11, fz12, fz13, fz14, fz15, fz16, fz17, fz18, fz19, fz20, gz21, hz21, fz21, gz22, hz22, fz22, gz23, hz23, fz23, gz24, hz24, fz24, gz25, hz25, fz25, gz26, hz26, fz26, gz27n, z29]
         ·try simp only [go_sem, n1, n2, n3, n4, z2, gz21, hz21, gz22, hz22, gz23, hz23, gz24, hz24, gz25, hz25, gz26, hz26, gz27n] at z29
          all_goals
          (simp_all)
       ·have gz26n := no_f gz26
        try simp only [go_sem, n1, n2, n3, n4, z2, gz21, hz21, gz22, hz22, gz23, hz23, gz24, hz24, gz25, hz25] at gz26n
        all_goals
        obtain ⟨z27, h⟩ := ck_some h
        obtain ⟨z28, h⟩ := ck_some h
        rcases it_some h with ⟨z29, h⟩ | ⟨z29, h⟩
        ·try simp only [go_sem, n1, n2, n3, n4, z2, gz21, hz21, gz22, hz22, gz23, hz23, gz24, hz24, gz25, hz25, gz26n] at z29
         all_goals
         obtain rfl := so_some h
         refine ⟨0, fun L hL => ?_⟩
         simp only [go_sem, ir4, E_laws_FnQueue_l1, R_laws_FnQueue_l1, ir4_k0, ir4_o0, ir4_r0, E_laws_FnQueue_l2, R_laws_FnQueue_l2, ir4_k1, ir4_o1, ir4_r1, E_laws_FnQueue_l3, R_laws_FnQueue_l3, ir4_k1, ir4_o1, ir4_r1, fz1, z2, fz3, fz4, fz5, fz6, fz7, fz8, fz9, fz10, fz11, fz12, fz13, fz14, fz15, fz16, fz17, fz18, fz19, fz20, gz21, hz21, fz21, gz22, hz22, fz22, gz23, hz23, fz23, gz24, hz24, fz24, gz25, hz25, fz25, gz26n, z29]
        ·try simp only [go_sem, n1, n2, n3, n4, z2, gz21, hz21, gz22, hz22, gz23, hz23, gz24, hz24, gz25, hz25, gz26n] at z29
         all_goals
         (simp_all)
      ·have gz25n := no_f gz25
       try simp only [go_sem, n1, n2, n3, n4, z2, gz21, hz21, gz22, hz22, gz23, hz23, gz24, hz24] at gz25n
       all_goals
       obtain ⟨z26, h⟩ := ck_some h
       obtain ⟨z27, h⟩ := ck_some h
       obtain ⟨z28, h⟩ := ck_some h
       rcases it_some h with ⟨z29, h⟩ | ⟨z29, h⟩
       ·try simp only [go_sem, n1, n2, n3, n4, z2, gz21, hz21, gz22, hz22, gz23, hz23, gz24, hz24, gz25n] at z29
        all_goals
        obtain rfl := so_some h
        refine ⟨0, fun L hL => ?_⟩
        simp only [go_sem, ir4, E_laws_FnQueue_l1, R_laws_FnQueue_l1, ir4_k0, ir4_o0, ir4_r0, E_laws_FnQueue_l2, R_laws_FnQueue_l2, ir4_k1, ir4_o1, ir4_r1, E_laws_FnQueue_l3, R_laws_FnQueue_l3, ir4_k1, ir4_o1, ir4_r1, fz1, z2, fz3, fz4, fz5, fz6, fz7, fz8, fz9, fz10, fz11, fz12, fz13, fz14, fz15, fz16, fz17, fz18, fz19, fz20, gz21, hz21, fz21, gz22, hz22, fz22, gz23, hz23, fz23, gz24, hz24, fz24, gz25n, z29]
       ·try simp only [go_sem, n1, n2, n3, n4, z2, gz21, hz21, gz22, hz22, gz23, hz23, gz24, hz24, gz25n] at z29
        all_goals
        (simp_all)
     ·have gz24n := no_f gz24
      try simp only [go_sem, n1, n2, n3, n4, z2, gz21, hz21, gz22, hz22, gz23, hz23] at gz24n
      all_goals
      obtain ⟨z25, h⟩ := ck_some h
      obtain ⟨z26, h⟩ := ck_some h
      obtain ⟨z27, h⟩ := ck_some h
      obtain ⟨z28, h⟩ := ck_some h
      rcases it_some h with ⟨z29, h⟩ | ⟨z29, h⟩
      ·try simp only [go_sem, n1, n2, n3, n4, z2, gz21, hz21, gz22, hz22, gz23, hz23, gz24n] at z29
       all_goals
       obtain rfl := so_some h
       refine ⟨0, fun L hL => ?_⟩
       simp only [go_sem, ir4, E_laws_FnQueue_l1, R_laws_FnQueue_l1, ir4_k0, ir4_o0, ir4_r0, E_laws_FnQueue_l2, R_laws_FnQueue_l2, ir4_k1, ir4_o1, ir4_r1, E_laws_FnQueue_l3, R_laws_FnQueue_l3, ir4_k1, ir4_o1, ir4_r1, fz1, z2, fz3, fz4, fz5, fz6, fz7, fz8, fz9, fz10, fz11, fz12, fz13, fz14, fz15, fz16, fz17, fz18, fz19, fz20, gz21, hz21, fz21, gz22, hz22, fz22, gz23, hz23, fz23, gz24n, z29]
      ·try simp only [go_sem, n1, n2, n3, n4, z2, gz21, hz21, gz22, hz22, gz23, hz23, gz24n] at z29
       all_goals
       (simp_all)
    ·have gz23n := no_f gz23
     try simp only [go_sem, n1, n2, n3, n4, z2, gz21, hz21, gz22, hz22] at gz23n
     all_goals
     obtain ⟨z24, h⟩ := ck_some h
     obtain ⟨z25, h⟩ := ck_some h
     obtain ⟨z26, h⟩ := ck_some h
     obtain ⟨z27, h⟩ := ck_some h
     obtain ⟨z28, h⟩ := ck_some h
     rcases it_some h with ⟨z29, h⟩ | ⟨z29, h⟩
     ·try simp only [go_sem, n1, n2, n3, n4, z2, gz21, hz21, gz22, hz22, gz23n] at z29
      all_goals
      obtain rfl := so_some h
      refine ⟨0, fun L hL => ?_⟩
      simp only [go_sem, ir4, E_laws_FnQueue_l1, R_laws_FnQueue_l1, ir4_k0, ir4_o0, ir4_r0, E_laws_FnQueue_l2, R_laws_FnQueue_l2, ir4_k1, ir4_o1, ir4_r1, E_laws_FnQueue_l3, R_laws_FnQueue_l3, ir4_k1, ir4_o1, ir4_r1, fz1, z2, fz3, fz4, fz5, fz6, fz7, fz8, fz9, fz10, fz11, fz12, fz13, fz14, fz15, fz16, fz17, fz18, fz19, fz20, gz21, hz21, fz21, gz22, hz22, fz22, gz23n, z29]
     ·try simp only [go_sem, n1, n2, n3, n4, z2, gz21, hz21, gz22, hz22, gz23n] at z29
      all_goals
      (simp_all)
   ·have gz22n := no_f gz22
    try simp only [go_sem, n1, n2, n3, n4, z2, gz21, hz21] at gz22n
    all_goals
    obtain ⟨z23, h⟩ := ck_some h
    obtain ⟨z24, h⟩ := ck_some h
    obtain ⟨z25, h⟩ := ck_some h
    obtain ⟨z26, h⟩ := ck_some h
    obtain ⟨z27, h⟩ := ck_some h
    obtain ⟨z28, h⟩ := ck_some h
    rcases it_some h with ⟨z29, h⟩ | ⟨z29, h⟩
    ·try simp only [go_sem, n1, n2, n3, n4, z2, gz21, hz21, gz22n] at z29
     all_goals
     obtain rfl := so_some h
     refine ⟨0, fun L hL => ?_⟩
     simp only [go_sem, ir4, E_laws_FnQueue_l1, R_laws_FnQueue_l1, ir4_k0, ir4_o0, ir4_r0, E_laws_FnQueue_l2, R_laws_FnQueue_l2, ir4_k1, ir4_o1, ir4_r1, E_laws_FnQueue_l3, R_laws_FnQueue_l3, ir4_k1, ir4_o1, ir4_r1, fz1, z2, fz3, fz4, fz5, fz6, fz7, fz8, fz9, fz10, fz11, fz12, fz13, fz14, fz15, fz16, fz17, fz18, fz19, fz20, gz21, hz21, fz21, gz22n, z29]
    ·try simp only [go_sem, n1, n2, n3, n4, z2, gz21, hz21, gz22n] at z29
     all_goals
     (simp_all)
  ·have gz21n := no_f gz21
   rcases or_t gz21n with gz21na | ⟨gz21na, gz21nb⟩
   ·rcases or_t gz21na with gz21naa | ⟨gz21naa, gz21nab⟩
    ·have gz21naan := no_t gz21naa
     try simp only [go_sem, n1, n2, n3, n4, z2] at gz21naan
     all_goals
     obtain ⟨z22, h⟩ := ck_some h
     obtain ⟨z23, h⟩ := ck_some h
     obtain ⟨z24, h⟩ := ck_some h
     obtain ⟨z25, h⟩ := ck_some h
     obtain ⟨z26, h⟩ := ck_some h
     obtain ⟨z27, h⟩ := ck_some h
     obtain ⟨z28, h⟩ := ck_some h
     rcases it_some h with ⟨z29, h⟩ | ⟨z29, h⟩
     ·try simp only [go_sem, n1, n2, n3, n4, z2, gz21naan] at z29
      all_goals
      obtain rfl := so_some h
      refine ⟨0, fun L hL => ?_⟩
      simp only [go_sem, ir4, E_laws_FnQueue_l1, R_laws_FnQueue_l1, ir4_k0, ir4_o0, ir4_r0, E_laws_FnQueue_l2, R_laws_FnQueue_l2, ir4_k1, ir4_o1, ir4_r1, E_laws_FnQueue_l3, R_laws_FnQueue_l3, ir4_k1, ir4_o1, ir4_r1, fz1, z2, fz3, fz4, fz5, fz6, fz7, fz8, fz9, fz10, fz11, fz12, fz13, fz14, fz15, fz16, fz17, fz18, fz19, fz20, gz21naan, z29]
     ·try simp only [go_sem, n1, n2, n3, n4, z2, gz21naan] at z29
      all_goals
      (simp_all)
    ·have gz21naan := no_f gz21naa
     have gz21nabn := no_t gz21nab
     try simp only [go_sem, n1, n2, n3, n4, z2] at gz21naan
     all_goals
     try simp only [go_sem, n1, n2, n3, n4, z2, gz21naan] at gz21nabn
     all_goals
     obtain ⟨z22, h⟩ := ck_some h
     obtain ⟨z23, h⟩ := ck_some h
     obtain ⟨z24, h⟩ := ck_some h
     obtain ⟨z25, h⟩ := ck_some h
     obtain ⟨z26, h⟩ := ck_some h
     obtain ⟨z27, h⟩ := ck_some h
     obtain ⟨z28, h⟩ := ck_some h
     rcases it_some h with ⟨z29, h⟩ | ⟨z29, h⟩
     ·try simp only [go_sem, n1, n2, n3, n4, z2, gz21naan, gz21nabn] at z29
      all_goals
      obtain rfl := so_some h
      refine ⟨0, fun L hL => ?_⟩
      simp only [go_sem, ir4, E_laws_FnQueue_l1, R_laws_FnQueue_l1, ir4_k0, ir4_o0, ir4_r0, E_laws_FnQueue_l2, R_laws_FnQueue_l2, ir4_k1, ir4_o1, ir4_r1, E_laws_FnQueue_l3, R_laws_FnQueue_l3, ir4_k1, ir4_o1, ir4_r1, fz1, z2, fz3, fz4, fz5, fz6, fz7, fz8, fz9, fz10, fz11, fz12, fz13, fz14, fz15, fz16, fz17, fz18, fz19, fz20, gz21naan, gz21nabn, z29]
     ·try simp only [go_sem, n1, n2, n3, n4, z2, gz21naan, gz21nabn] at z29
      all_goals
      (simp_all)
   ·obtain ⟨gz21naa, gz21nab⟩ := or_f gz21na
    have gz21naan := no_f gz21naa
    have gz21nabn := no_f gz21nab
    have gz21nbn := no_t gz21nb
    try simp only [go_sem, n1, n2, n3, n4, z2] at gz21naan
    all_goals
    try simp only [go_sem, n1, n2, n3, n4, z2, gz21naan] at gz21nabn
    all_goals
    try simp only [go_sem, n1, n2, n3, n4, z2, gz21naan, gz21nabn] at gz21nbn
    all_goals
    obtain ⟨z22, h⟩ := ck_some h
    obtain ⟨z23, h⟩ := ck_some h
    obtain ⟨z24, h⟩ := ck_some h
    obtain ⟨z25, h⟩ := ck_some h
    obtain ⟨z26, h⟩ := ck_some h
    obtain ⟨z27, h⟩ := ck_some h
    obtain ⟨z28, h⟩ := ck_some h
    rcases it_some h with ⟨z29, h⟩ | ⟨z29, h⟩
    ·try simp only [go_sem, n1, n2, n3, n4, z2, gz21naan, gz21nabn, gz21nbn] at z29
     all_goals
     obtain rfl := so_some h
     refine ⟨0, fun L hL => ?_⟩
     simp only [go_sem, ir4, E_laws_FnQueue_l1, R_laws_FnQueue_l1, ir4_k0, ir4_o0, ir4_r0, E_laws_FnQueue_l2, R_laws_FnQueue_l2, ir4_k1, ir4_o1, ir4_r1, E_laws_FnQueue_l3, R_laws_FnQueue_l3, ir4_k1, ir4_o1, ir4_r1, fz1, z2, fz3, fz4, fz5, fz6, fz7, fz8, fz9, fz10, fz11, fz12, fz13, fz14, fz15, fz16, fz17, fz18, fz19, fz20, gz21naan, gz21nabn, gz21nbn, z29]
    ·try simp only [go_sem, n1, n2, n3, n4, z2, gz21naan, gz21nabn, gz21nbn] at z29
     all_goals
     (simp_all)


end Go.Proofs.YtibabbjpkjmdeaaGreatDoor
