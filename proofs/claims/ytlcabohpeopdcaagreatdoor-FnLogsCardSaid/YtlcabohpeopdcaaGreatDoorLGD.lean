/- Codes and contracts of the functions that LG reaches, and that their typed forms say what they do. No condition. -/
import Derived.Test.YtlcabohpeopdcaaGreatDoorEngLogOf
import Derived.Test.YtlcabohpeopdcaaGreatDoorRows
import Derived.WalkKit
namespace Go.Proofs.YtlcabohpeopdcaaGreatDoor
open Go Go.RowKit
set_option linter.unusedVariables false
set_option linter.unusedSimpArgs false
set_option maxRecDepth 10000

theorem s_hCut : Sound Tryz.prog 35 c_hCut := hCut_is

theorem s_hSplit : Sound Tryz.prog 47 c_hSplit := hSplit_is

theorem s_hRdDec : Sound Tryz.prog 48 c_hRdDec := hRdDec_is

def ir36_v : List Nat := [0, 2, 3, 4, 5, 6, 7, 8, 9, 10, 11, 12]
def ir36 : AFn := ⟨1, 12, .seq (.region false [ VO 1 2 (.alloc (.agg [.int .i64 (0), .str [], .int .i64 (0)])), VO 2 3 (.mov (I6 0)), VO 3 4 (.mov (.c (.bool false)))]) (.seq (.region false [ PM 13 0, PO 14 (.call 47 [(.s 0), (.c (.str [32]))]), VS 4 5 0]) (.seq (.test false [ PM 15 4, PO 16 (.len false (.s 0)), PO 17 (.bin false .neq (.s 0) (I6 4))] (.s 0) (.seq (.region false [ PO 18 (.build [.int .i64 (0), .str [], .int .i64 (0)] []), ⟨.no, 0, none, .store 3 (.v 1) (.s 0)⟩, VO 2 3 (.mov (I6 0)), VO 3 4 (.mov (.c (.bool false)))]) (.ret)) (.skip)) (.seq (.region false [ PM 20 4, PO 21
 (.ixAddr 1 (.s 0) (I6 0)), PO 22 (.load false 1 (.s 0)), PO 23 (.call 48 [(.s 0)]), PO 19 (.mov (.s 0)), PO 24 (.ext (.s 0) 0), PO 25 (.ext (.s 1) 1), VS 5 6 1, VS 6 7 0]) (.seq (.region false [ PM 27 4, PO 28 (.ixAddr 1 (.s 0) (I6 2)), PO 29 (.load false 1 (.s 0)), PO 30 (.call 48 [(.s 0)]), PO 26 (.mov (.s 0)), PO 31 (.ext (.s 0) 0), PO 32 (.ext (.s 1) 1), VS 7 8 1, VS 8 9 0]) (.seq (.region false [ PM 34 4, PO 35 (.ixAddr 1 (.s 0) (I6 3)), PO 36 (.load false 1 (.s 0)), PO 37 (.call 48 [(.s 0)]), PO 33 (.mov (.s 0)), PO 38 (.ext (.s 0) 0), PO 39 (.ext (.s 1) 1), VS 9 10 1, VS 10 11 0]) (.seq
 (.region false [ PM 40 5, PM 41 4, PO 42 (.ixAddr 1 (.s 0) (I6 1)), PO 43 (.load false 1 (.s 0)), PM 44 7, PO 45 (.build [.int .i64 (0), .str [], .int .i64 (0)] [(0, 1, (.s 4)), (1, 1, (.s 1)), (2, 1, (.s 0))]), VO 11 12 (.alloc (.agg [.int .i64 (0), .str [], .int .i64 (0)])), ⟨.no, 0, none, .store 3 (.v 11) (.s 0)⟩]) (.seq (.anyo 13 [ SO 0 46 (.load true 3 (.v 11)), SO 1 47 (.flat (.mov (.v 9))), SO 2 48 (.flat (.mov (.v 6))), SO 3 49 (.flat (.mov (.s 2))), ⟨.slot 4, 50, (some ((.s 3), true)), .mov (.v 8)⟩, SO 5 51 (.pick (.s 3) (.s 4) (.c (.bool false))), SO 6 52 (.flat (.mov (.s 5))),
 ⟨.slot 7, 53, (some ((.s 6), true)), .mov (.v 10)⟩, SO 8 54 (.pick (.s 6) (.s 7) (.c (.bool false))), SO 9 55 (.flat (.mov (.s 8))), ⟨.slot 10, 56, (some ((.s 9), true)), .load true 3 (.v 11)⟩, ⟨.slot 11, 57, (some ((.s 9), true)), .call 17 [(.s 10)]⟩, SO 12 58 (.pick (.s 9) (.s 11) (.c (.bool false))), ⟨.no, 0, none, .store 3 (.v 1) (.s 0)⟩, VO 2 3 (.flat (.mov (.s 1))), VO 3 4 (.flat (.mov (.s 12)))] [[0, 1, 2, 3, 4, 5, 6, 7, 8, 9, 10, 11, 13, 12, 14, 15]] .skip) (.ret)))))))), [.cell true 3 1, .t 2, .t 3]⟩
noncomputable def t_31 : List (Nat × Ctr) := [(47, c_hSplit), (48, c_hRdDec), (17, c_17)]
theorem lk_31_47 : look t_31 47 = some c_hSplit := rfl
theorem lk_31_48 : look t_31 48 = some c_hRdDec := rfl
theorem lk_31_17 : look t_31 17 = some c_17 := rfl
noncomputable def c_31 : Ctr := mkN t_31 ir36 [.bor]
theorem s_31 : Sound Tryz.prog 36 c_31 := mkN_sound _ (snd_cons s_hSplit (snd_cons s_hRdDec (snd_cons s_17 snd_nil))) (by kernel_rfl : chkFn Tryz.prog 36 ir36 ir36_v = true)
theorem M_31 : c_31.modes = [.bor] := rfl
theorem Fl_31 : c_31.flat = false := rfl
attribute [go_sem] M_31 Fl_31
attribute [go_sem] lk_31_47 lk_31_48 lk_31_17
theorem Fs_31 {line : List UInt8} {y_ : Entry × Int × Bool} (h : impl_readEntry line = some y_) : c_31.F [.str line] = ⟨true, .tup [Entry_av y_.1, .int .i64 y_.2.1, .bool y_.2.2], [.any]⟩ := by
 refine mkN_E ?_
 dsimp only [impl_readEntry] at h
 obtain ⟨y_1, z1, h⟩ := bd_some h
 have fz1 := Fs_hSplit z1
 try simp only [go_sem] at fz1
 rcases it_some h with ⟨z2, h⟩ | ⟨z2, h⟩
 ·try simp only [go_sem, n1, n2, n3, n4] at z2
  all_goals
  obtain rfl := so_some h
  refine ⟨0, fun L hL => ?_⟩
  simp only [go_sem, ir36, fz1, z2]
 ·try simp only [go_sem, n1, n2, n3, n4] at z2
  all_goals
  obtain ⟨z3, h⟩ := ck_some h
  have lz3 := ix_lt z3
  have xz3 := getD_mapD AV.str y_1 lz3
  try simp only [go_sem] at lz3
  try simp only [go_sem] at xz3
  try simp only [go_sem, n1, n2, n3, n4, z2] at z3
  all_goals
  obtain ⟨y_4, z4, h⟩ := bd_some h
  have fz4 := Fs_hRdDec z4
  try simp only [go_sem, z2, z3] at fz4
  obtain ⟨z5, h⟩ := ck_some h
  have lz5 := ix_lt z5
  have xz5 := getD_mapD AV.str y_1 lz5
  try simp only [go_sem] at lz5
  try simp only [go_sem] at xz5
  try simp only [go_sem, n1, n2, n3, n4, z2, z3] at z5
  all_goals
  obtain ⟨y_6, z6, h⟩ := bd_some h
  have fz6 := Fs_hRdDec z6
  try simp only [go_sem, z2, z3, z5] at fz6
  obtain ⟨z7, h⟩ := ck_some h
  have lz7 := ix_lt z7
  have xz7 := getD_mapD AV.str y_1 lz7
  try simp only [go_sem] at lz7
  try simp only [go_sem] at xz7
  try simp only [go_sem, n1, n2, n3, n4, z2, z3, z5] at z7
  all_goals
  obtain ⟨y_8, z8, h⟩ := bd_some h
  have fz8 := Fs_hRdDec z8
  try simp only [go_sem, z2, z3, z5, z7] at fz8
  obtain ⟨z9, h⟩ := ck_some h
  have lz9 := ix_lt z9
  have xz9 := getD_mapD AV.str y_1 lz9
  try simp only [go_sem] at lz9
  try simp only [go_sem] at xz9
  try simp only [go_sem, n1, n2, n3, n4, z2, z3, z5, z7] at z9
  all_goals
  obtain ⟨z10, h⟩ := ck_some h
  rcases or_split z10 with ⟨gz10, z10⟩ | gz10
  ·try simp only [go_sem, n1, n2, n3, n4, z2, z3, z5, z7, z9] at gz10
   all_goals
   obtain ⟨y_10, hz10⟩ := Option.isSome_iff_exists.1 z10
   have fz10 := Fs_17 hz10
   try simp only [go_sem, n1, n2, n3, n4, z2, z3, z5, z7, z9, gz10] at hz10
   all_goals
   try simp only [go_sem, z2, z3, z5, z7, z9, gz10] at fz10
   obtain rfl := so_some h
   refine ⟨0, fun L hL => ?_⟩
   simp only [go_sem, ir36, fz1, z2, z3, lz3, xz3, fz4, z5, lz5, xz5, fz6, z7, lz7, xz7, fz8, z9, lz9, xz9, gz10, hz10, fz10]
  ·rcases and_f gz10 with gz10a | ⟨gz10a, gz10b⟩
   ·rcases and_f gz10a with gz10aa | ⟨gz10aa, gz10ab⟩
    ·try simp only [go_sem, n1, n2, n3, n4, z2, z3, z5, z7, z9] at gz10aa
     all_goals
     obtain rfl := so_some h
     refine ⟨0, fun L hL => ?_⟩
     simp only [go_sem, ir36, fz1, z2, z3, lz3, xz3, fz4, z5, lz5, xz5, fz6, z7, lz7, xz7, fz8, z9, lz9, xz9, gz10aa]
    ·try simp only [go_sem, n1, n2, n3, n4, z2, z3, z5, z7, z9] at gz10aa
     all_goals
     try simp only [go_sem, n1, n2, n3, n4, z2, z3, z5, z7, z9, gz10aa] at gz10ab
     all_goals
     obtain rfl := so_some h
     refine ⟨0, fun L hL => ?_⟩
     simp only [go_sem, ir36, fz1, z2, z3, lz3, xz3, fz4, z5, lz5, xz5, fz6, z7, lz7, xz7, fz8, z9, lz9, xz9, gz10aa, gz10ab]
   ·obtain ⟨gz10aa, gz10ab⟩ := and_t gz10a
    try simp only [go_sem, n1, n2, n3, n4, z2, z3, z5, z7, z9] at gz10aa
    all_goals
    try simp only [go_sem, n1, n2, n3, n4, z2, z3, z5, z7, z9, gz10aa] at gz10ab
    all_goals
    try simp only [go_sem, n1, n2, n3, n4, z2, z3, z5, z7, z9, gz10aa, gz10ab] at gz10b
    all_goals
    obtain rfl := so_some h
    refine ⟨0, fun L hL => ?_⟩
    simp only [go_sem, ir36, fz1, z2, z3, lz3, xz3, fz4, z5, lz5, xz5, fz6, z7, lz7, xz7, fz8, z9, lz9, xz9, gz10aa, gz10ab, gz10b]


def ir24_b0 : IR := .block 1 (.seq (.region false [ PM 17 0, PM 18 5, PO 19 (.slice 0 (.s 1) (some (.s 0)) none), PO 20 (.call 35 [(.s 0), (.c (.str [10]))]), PO 16 (.mov (.s 0)), PO 21 (.ext (.s 0) 0), PO 22 (.ext (.s 1) 1), PO 23 (.ext (.s 2) 2), VS 8 9 2, PO 10 (.mov (.s 1)), VS 9 11 1]) (.seq (.region false [ PM 25 8, PO 26 (.call 36 [(.s 0)]), PO 24 (.mov (.s 0)), PO 27 (.ext (.s 0) 0), PO 28 (.ext (.s 1) 1), PO 29 (.ext (.s 2) 2), VO 10 12 (.alloc (.agg [.int .i64 (0), .str [], .int .i64 (0)])), ⟨.no, 0, none, .store 3 (.v 10) (.s 2)⟩, VS 11 13 1, VS 12 14 0]) (.seq (.test false [ PM 30
 9, PO 31 (.un .not (.s 0)), PO 32 (.mov (.s 0)), ⟨.push, 33, (some ((.s 0), false)), .mov (.v 12)⟩, ⟨.push, 34, (some ((.s 1), false)), .un .not (.s 0)⟩, PO 35 (.pick (.s 2) (.c (.bool true)) (.s 0)), PO 36 (.mov (.s 0)), ⟨.push, 37, (some ((.s 0), false)), .fldAddr 0 (.v 10)⟩, ⟨.push, 38, (some ((.s 1), false)), .load false 1 (.s 0)⟩, ⟨.push, 39, (some ((.s 2), false)), .mov (.v 7)⟩, ⟨.push, 40, (some ((.s 3), false)), .bin false .lss (.s 1) (.s 0)⟩, PO 41 (.pick (.s 4) (.c (.bool true)) (.s 0)), PO 42 (.mov (.s 0)), ⟨.push, 43, (some ((.s 0), false)), .mov (.v 11)⟩, ⟨.push, 44, (some ((.s
 1), false)), .mov (.v 6)⟩, ⟨.push, 45, (some ((.s 2), false)), .load true 3 (.v 10)⟩, ⟨.push, 46, (some ((.s 3), false)), .call 18 [(.s 1), (.s 0)]⟩, ⟨.push, 47, (some ((.s 4), false)), .bin false .neq (.s 3) (.s 0)⟩, PO 48 (.pick (.s 5) (.c (.bool true)) (.s 0))] (.s 0) (.seq (.region false [ PM 49 4, PM 50 5, PM 51 6, VS 1 2 2, VS 2 3 1, VS 3 4 0]) (.ret)) (.skip)) (.seq (.region false [ PM 52 4, PO 53 (.load true 3 (.v 10)), PO 54 (.mkSl 3 (.agg [.int .i64 (0), .str [], .int .i64 (0)]) 1 [(0, (.s 0))]), PO 55 (.app 3 32 (.agg [.int .i64 (0), .str [], .int .i64 (0)]) (.s 2) (.s 0)), VS 4 5
 0]) (.seq (.region false [ PM 56 5, PM 57 8, PO 58 (.len true (.s 0)), PO 59 (.bin false .add (.s 0) (I6 1)), PO 60 (.bin false .add (.s 3) (.s 0)), VS 5 6 0]) (.anyo 3 [ SO 0 61 (.mov (.v 11)), SO 1 62 (.fldAddr 0 (.v 10)), SO 2 63 (.load false 1 (.s 1)), VS 6 7 0, VS 7 8 2] [] .skip))))))
def ir24_k0 : List Bool := [true, false, false, false, true, true, true, true, false, false, false, false, false]
def ir24_o0 : List Bool := [false, false, false, false, false, false, false, false, false, false, false, false, false]
def ir24_r0 : List Bool := [false, true, true, true, false, false, false, false, false, false, false, false, false]
def ir24_v : List Nat := [0, 2, 3, 4, 5, 6, 7, 8, 9, 11, 12, 13, 14]
def ir24 : AFn := ⟨1, 13, .seq (.region false [ VO 1 2 (.newnil 3), VO 2 3 (.mov (I6 0)), VO 3 4 (.mov (I6 0))]) (.seq (.region false [ PO 15 (.mkSl 3 (.agg [.int .i64 (0), .str [], .int .i64 (0)]) 0 []), VS 4 5 0, VO 5 6 (.mov (I6 0)), VO 6 7 (.mov (I6 0)), VO 7 8 (.mov (I6 0))]) (.block 0 (.loop ir24_k0 ir24_o0 ir24_r0 ir24_b0))), [.t 1, .t 2, .t 3]⟩
noncomputable def t_32 : List (Nat × Ctr) := [(35, c_hCut), (36, c_31), (18, c_25)]
theorem lk_32_35 : look t_32 35 = some c_hCut := rfl
theorem lk_32_36 : look t_32 36 = some c_31 := rfl
theorem lk_32_18 : look t_32 18 = some c_25 := rfl
noncomputable def c_32 : Ctr := mkF t_32 ir24 [.bor]
theorem s_32 : Sound Tryz.prog 24 c_32 := mkF_sound _ rfl (snd_cons s_hCut (snd_cons s_31 (snd_cons s_25 snd_nil))) (by kernel_rfl : chkFn Tryz.prog 24 ir24 ir24_v = true)
theorem M_32 : c_32.modes = [.bor] := rfl
theorem Fl_32 : c_32.flat = true := rfl
attribute [go_sem] M_32 Fl_32
attribute [go_sem] lk_32_35 lk_32_36 lk_32_18
def E_32_l1 (log : List UInt8) : ((List Entry) × Int × Int × Int) → St
 | (entries, used, last, day) => ⟨[.str log, .any, .any, .any, .own 3200000, .int .i64 used, .int .i64 last, .int .i64 day, .any, .any, .any, .any, .any], [], [(3200000, ⟨3, List.map Entry_av entries⟩)], true⟩
def R_32_l1 (log : List UInt8) (y : (List Entry) × Int × Int) : Res := (.ret, ⟨[.any, .own 3200000, .int .i64 y.2.1, .int .i64 y.2.2, .any, .any, .any, .any, .any, .any, .any, .any, .any], [], [(3200000, ⟨3, List.map Entry_av y.1⟩)], true⟩)
theorem impl_readLog_l1_ex {log : List UInt8} {sgm_ : (List Entry) × Int × Int × Int} {rho_ : (List Entry) × Int × Int} (h : whileE (impl_readLog_l1 log) sgm_ = some rho_) : ∃ L0, ∀ L, L0 ≤ L → iter (exec (look t_32) L ir24_b0) ir24_k0 ir24_o0 ir24_r0 L (E_32_l1 log sgm_) = R_32_l1 log rho_ := by
 refine loop_ex (E := E_32_l1 log) (R := R_32_l1 log) (fun y => by first | (intro c; cases c) | (rcases y with y | y <;> (intro c; cases c)) | (rcases y with y | y | y <;> (intro c; cases c))) ?_ h
 clear h
 rintro ⟨entries, used, last, day⟩ o_ h
 dsimp only [impl_readLog_l1] at h
 obtain ⟨z1, h⟩ := ck_some h
 try simp only [go_sem, n1, n2, n3, n4] at z1
 all_goals
 obtain ⟨y_2, z2, h⟩ := bd_some h
 have fz2 := Fs_hCut z2
 try simp only [go_sem, z1] at fz2
 obtain ⟨y_3, z3, h⟩ := bd_some h
 have fz3 := Fs_31 z3
 try simp only [go_sem, z1] at fz3
 obtain ⟨z4, h⟩ := ck_some h
 rcases or_split z4 with ⟨gz4, z4⟩ | gz4
 ·try simp only [go_sem, n1, n2, n3, n4, z1] at gz4
  all_goals
  obtain ⟨y_4, hz4⟩ := Option.isSome_iff_exists.1 z4
  have fz4 := Fs_25 hz4
  try simp only [go_sem, n1, n2, n3, n4, z1, gz4] at hz4
  all_goals
  try simp only [go_sem, z1, gz4] at fz4
  rcases it_some h with ⟨z5, h⟩ | ⟨z5, h⟩
  ·try simp only [go_sem, n1, n2, n3, n4, z1, gz4, hz4] at z5
   all_goals
   obtain rfl := so_some h
   refine ⟨0, fun L hL => ?_⟩
   simp only [go_sem, ir24, E_32_l1, R_32_l1, ir24_b0, ir24_k0, ir24_o0, ir24_r0, z1, fz2, fz3, gz4, hz4, fz4, z5]
  ·try simp only [go_sem, n1, n2, n3, n4, z1, gz4, hz4] at z5
   all_goals
   obtain ⟨z6, h⟩ := ck_some h
   try simp only [go_sem, n1, n2, n3, n4, z1, gz4, hz4, z5] at z6
   all_goals
   obtain rfl := so_some h
   refine ⟨0, fun L hL => ?_⟩
   simp only [go_sem, ir24, E_32_l1, R_32_l1, ir24_b0, ir24_k0, ir24_o0, ir24_r0, z1, fz2, fz3, gz4, hz4, fz4, z5, z6]
 ·have gz4n := no_f gz4
  rcases or_t gz4n with gz4na | ⟨gz4na, gz4nb⟩
  ·rcases or_t gz4na with gz4naa | ⟨gz4naa, gz4nab⟩
   ·have gz4naan := no_t gz4naa
    try simp only [go_sem, n1, n2, n3, n4, z1] at gz4naan
    all_goals
    rcases it_some h with ⟨z5, h⟩ | ⟨z5, h⟩
    ·try simp only [go_sem, n1, n2, n3, n4, z1, gz4naan] at z5
     all_goals
     obtain rfl := so_some h
     refine ⟨0, fun L hL => ?_⟩
     simp only [go_sem, ir24, E_32_l1, R_32_l1, ir24_b0, ir24_k0, ir24_o0, ir24_r0, z1, fz2, fz3, gz4naan, z5]
    ·try simp only [go_sem, n1, n2, n3, n4, z1, gz4naan] at z5
     all_goals
     (simp_all)
   ·have gz4naan := no_f gz4naa
    have gz4nabn := no_t gz4nab
    try simp only [go_sem, n1, n2, n3, n4, z1] at gz4naan
    all_goals
    try simp only [go_sem, n1, n2, n3, n4, z1, gz4naan] at gz4nabn
    all_goals
    rcases it_some h with ⟨z5, h⟩ | ⟨z5, h⟩
    ·try simp only [go_sem, n1, n2, n3, n4, z1, gz4naan, gz4nabn] at z5
     all_goals
     obtain rfl := so_some h
     refine ⟨0, fun L hL => ?_⟩
     simp only [go_sem, ir24, E_32_l1, R_32_l1, ir24_b0, ir24_k0, ir24_o0, ir24_r0, z1, fz2, fz3, gz4naan, gz4nabn, z5]
    ·try simp only [go_sem, n1, n2, n3, n4, z1, gz4naan, gz4nabn] at z5
     all_goals
     (simp_all)
  ·obtain ⟨gz4naa, gz4nab⟩ := or_f gz4na
   have gz4naan := no_f gz4naa
   have gz4nabn := no_f gz4nab
   try simp only [go_sem, n1, n2, n3, n4, z1] at gz4naan
   all_goals
   try simp only [go_sem, n1, n2, n3, n4, z1, gz4naan] at gz4nabn
   all_goals
   try simp only [go_sem, n1, n2, n3, n4, z1, gz4naan, gz4nabn] at gz4nb
   all_goals
   rcases it_some h with ⟨z5, h⟩ | ⟨z5, h⟩
   ·try simp only [go_sem, n1, n2, n3, n4, z1, gz4naan, gz4nabn, gz4nb] at z5
    all_goals
    obtain rfl := so_some h
    refine ⟨0, fun L hL => ?_⟩
    simp only [go_sem, ir24, E_32_l1, R_32_l1, ir24_b0, ir24_k0, ir24_o0, ir24_r0, z1, fz2, fz3, gz4naan, gz4nabn, gz4nb, z5]
   ·try simp only [go_sem, n1, n2, n3, n4, z1, gz4naan, gz4nabn, gz4nb] at z5
    all_goals
    (simp_all)

theorem Fs_32 {log : List UInt8} {y_ : (List Entry) × Int × Int} (h : impl_readLog log = some y_) : c_32.F [.str log] = ⟨true, .tup [.fresh 3 (List.map Entry_av y_.1), .int .i64 y_.2.1, .int .i64 y_.2.2], [.any]⟩ := by
 refine mkF_E (by simp only [flatA, flatB, flat1, List.all_cons, List.all_nil, Bool.and_self, flatE_map (f := Entry_av) (fun _ => rfl)]) ?_
 dsimp only [impl_readLog] at h
 obtain ⟨y_7, z7, h⟩ := bd_some h
 obtain ⟨Lz7, ez7⟩ := impl_readLog_l1_ex z7
 obtain rfl := so_some h
 refine ⟨Lz7, fun L hL => ?_⟩
 have ez7 := ez7 L (by omega)
 try simp only [go_sem, E_32_l1, R_32_l1, ir24_k0, ir24_o0, ir24_r0] at ez7
 simp only [go_sem, ir24, E_32_l1, R_32_l1, ir24_k0, ir24_o0, ir24_r0, ez7]


def ir23_v : List Nat := [0, 2, 3, 4, 5, 6, 7]
def ir23 : AFn := ⟨1, 7, .seq (.region false [ VO 1 2 (.newnil 3), VO 2 3 (.mov (I6 0)), VO 3 4 (.mov (I6 0))]) (.seq (.test false [ PM 8 0, PO 9 (.len true (.s 0)), PO 10 (.bin false .gtr (.s 0) (I6 4000))] (.s 0) (.seq (.region false [ VO 1 2 (.newnil 3), VO 2 3 (.mov (I6 0)), VO 3 4 (.mov (I6 5))]) (.ret)) (.skip)) (.seq (.region false [ PM 12 0, PO 13 (.call 24 [(.s 0)]), PO 11 (.mov (.s 0)), PO 14 (.ext (.s 0) 0), PO 15 (.ext (.s 1) 1), PO 16 (.ext (.s 2) 2), VS 4 5 2, VS 5 6 1, VS 6 7 0]) (.seq (.test false [ PM 17 5, PM 18 0, PO 19 (.len true (.s 0)), PO 20 (.bin false .lss (.s 2) (.s
 0))] (.s 0) (.seq (.region false [ VO 1 2 (.newnil 3), VO 2 3 (.mov (I6 0)), VO 3 4 (.mov (I6 8))]) (.ret)) (.skip)) (.seq (.region false [ PM 21 4, PM 22 6, VS 1 2 1, VS 2 3 0, VO 3 4 (.mov (I6 0))]) (.ret))))), [.t 1, .t 2, .t 3]⟩
noncomputable def t_33 : List (Nat × Ctr) := [(24, c_32)]
theorem lk_33_24 : look t_33 24 = some c_32 := rfl
noncomputable def c_33 : Ctr := mkF t_33 ir23 [.bor]
theorem s_33 : Sound Tryz.prog 23 c_33 := mkF_sound _ rfl (snd_cons s_32 snd_nil) (by kernel_rfl : chkFn Tryz.prog 23 ir23 ir23_v = true)
theorem M_33 : c_33.modes = [.bor] := rfl
theorem Fl_33 : c_33.flat = true := rfl
attribute [go_sem] M_33 Fl_33
attribute [go_sem] lk_33_24
theorem Fs_33 {log : List UInt8} {y_ : (List Entry) × Int × Int} (h : impl_wholeLog log = some y_) : c_33.F [.str log] = ⟨true, .tup [.fresh 3 (List.map Entry_av y_.1), .int .i64 y_.2.1, .int .i64 y_.2.2], [.any]⟩ := by
 refine mkF_E (by simp only [flatA, flatB, flat1, List.all_cons, List.all_nil, Bool.and_self, flatE_map (f := Entry_av) (fun _ => rfl)]) ?_
 dsimp only [impl_wholeLog] at h
 rcases it_some h with ⟨z1, h⟩ | ⟨z1, h⟩
 ·try simp only [go_sem, n1, n2, n3, n4] at z1
  all_goals
  obtain rfl := so_some h
  refine ⟨0, fun L hL => ?_⟩
  simp only [go_sem, ir23, z1]
 ·try simp only [go_sem, n1, n2, n3, n4] at z1
  all_goals
  obtain ⟨y_2, z2, h⟩ := bd_some h
  have fz2 := Fs_32 z2
  try simp only [go_sem, z1] at fz2
  rcases it_some h with ⟨z3, h⟩ | ⟨z3, h⟩
  ·try simp only [go_sem, n1, n2, n3, n4, z1] at z3
   all_goals
   obtain rfl := so_some h
   refine ⟨0, fun L hL => ?_⟩
   simp only [go_sem, ir23, z1, fz2, z3]
  ·try simp only [go_sem, n1, n2, n3, n4, z1] at z3
   all_goals
   obtain rfl := so_some h
   refine ⟨0, fun L hL => ?_⟩
   simp only [go_sem, ir23, z1, fz2, z3]


def ir7_v : List Nat := [0, 2, 3, 4, 6]
def ir7 : AFn := ⟨1, 5, .seq (.region false [ VO 1 2 (.newnil 3), VO 2 3 (.mov (I6 0))]) (.seq (.region false [ PM 8 0, PO 9 (.call 23 [(.s 0)]), PO 7 (.mov (.s 0)), PO 10 (.ext (.s 0) 0), PO 11 (.ext (.s 1) 1), PO 12 (.ext (.s 2) 2), VS 3 4 2, PO 5 (.mov (.s 1)), VS 4 6 1]) (.seq (.region false [ PM 13 3, PM 14 4, VS 1 2 1, VS 2 3 0]) (.ret))), [.t 1, .t 2]⟩
noncomputable def t_34 : List (Nat × Ctr) := [(23, c_33)]
theorem lk_34_23 : look t_34 23 = some c_33 := rfl
noncomputable def c_34 : Ctr := mkF t_34 ir7 [.bor]
theorem s_34 : Sound Tryz.prog 7 c_34 := mkF_sound _ rfl (snd_cons s_33 snd_nil) (by kernel_rfl : chkFn Tryz.prog 7 ir7 ir7_v = true)
theorem M_34 : c_34.modes = [.bor] := rfl
theorem Fl_34 : c_34.flat = true := rfl
attribute [go_sem] M_34 Fl_34
attribute [go_sem] lk_34_23
theorem Fs_34 {log : List UInt8} {y_ : (List Entry) × Int} (h : impl_EntriesOf log = some y_) : c_34.F [.str log] = ⟨true, .tup [.fresh 3 (List.map Entry_av y_.1), .int .i64 y_.2], [.any]⟩ := by
 refine mkF_E (by simp only [flatA, flatB, flat1, List.all_cons, List.all_nil, Bool.and_self, flatE_map (f := Entry_av) (fun _ => rfl)]) ?_
 dsimp only [impl_EntriesOf] at h
 obtain ⟨y_1, z1, h⟩ := bd_some h
 have fz1 := Fs_33 z1
 try simp only [go_sem] at fz1
 obtain rfl := so_some h
 refine ⟨0, fun L hL => ?_⟩
 simp only [go_sem, ir7, fz1]


def ir8_v : List Nat := [0, 1, 3, 4, 5, 6, 7, 8]
def ir8 : AFn := ⟨2, 8, .seq (.region false [ VO 2 3 (.box (.v 1)), VO 3 4 (.mov (.c (.str []))), VO 4 5 (.mov (I6 0))]) (.seq (.region false [ PM 10 0, PO 11 (.call 23 [(.s 0)]), PO 9 (.mov (.s 0)), PO 12 (.ext (.s 0) 0), PO 13 (.ext (.s 1) 1), PO 14 (.ext (.s 2) 2), VS 5 6 2, VS 6 7 1, VS 7 8 0]) (.seq (.block 0 (.test false [ PM 16 7, PO 17 (.bin false .neq (.s 0) (I6 0)), PO 15 (.mov (.s 0))] (.s 0) (.seq (.region false [ PM 18 7, VO 3 4 (.mov (.c (.str []))), VS 4 5 0]) (.ret)) (.test false [ PO 20 (.load true 3 (.v 2)), PO 21 (.call 17 [(.s 0)]), PO 22 (.un .not (.s 0)), PO 19 (.mov (.s
 0))] (.s 0) (.seq (.region false [ VO 3 4 (.mov (.c (.str []))), VO 4 5 (.mov (I6 7))]) (.ret)) (.anyo 16 [ SO 0 24 (.mov (.v 5)), SO 1 25 (.len false (.s 0)), SO 2 26 (.bin false .gtr (.s 1) (I6 0)), SO 3 27 (.mov (.s 2)), ⟨.slot 4, 28, (some ((.s 3), true)), .fldAddr 0 (.v 2)⟩, ⟨.slot 5, 29, (some ((.s 3), true)), .load false 1 (.s 4)⟩, ⟨.slot 6, 30, (some ((.s 3), true)), .mov (.v 5)⟩, ⟨.slot 7, 31, (some ((.s 3), true)), .mov (.v 5)⟩, ⟨.slot 8, 32, (some ((.s 3), true)), .len false (.s 7)⟩, ⟨.slot 9, 33, (some ((.s 3), true)), .bin false .sub (.s 8) (I6 1)⟩, ⟨.slot 10, 34, (some ((.s 3),
 true)), .ixAddr 3 (.s 6) (.s 9)⟩, ⟨.slot 11, 35, (some ((.s 3), true)), .fldAddr 0 (.s 10)⟩, ⟨.slot 12, 36, (some ((.s 3), true)), .load false 1 (.s 11)⟩, ⟨.slot 13, 37, (some ((.s 3), true)), .bin false .lss (.s 5) (.s 12)⟩, SO 14 38 (.pick (.s 3) (.s 13) (.c (.bool false))), SO 15 23 (.mov (.s 14))] [] (.cond (.s 15) (.seq (.region false [ VO 3 4 (.mov (.c (.str []))), VO 4 5 (.mov (I6 6))]) (.ret)) (.skip)))))) (.seq (.anyo 7 [ SO 0 39 (.mov (.v 0)), SO 1 40 (.load true 3 (.v 2)), SO 2 41 (.mov (.v 6)), SO 3 42 (.load true 3 (.v 2)), SO 4 43 (.callp 18 [(.s 2), (.s 3)]), SO 5 44 (.callp 20
 [(.s 1), (.s 4)]), SO 6 45 (.bin false .add (.s 0) (.s 5)), VS 0 0 6] [] .skip) (.seq (.test false [ PM 46 0, PO 47 (.len true (.s 0)), PO 48 (.bin false .gtr (.s 0) (I6 4000))] (.s 0) (.seq (.region false [ VO 3 4 (.mov (.c (.str []))), VO 4 5 (.mov (I6 5))]) (.ret)) (.skip)) (.seq (.region false [ PM 49 0, VS 3 4 0, VO 4 5 (.mov (I6 0))]) (.ret)))))), [.t 3, .t 4]⟩
noncomputable def t_35 : List (Nat × Ctr) := [(23, c_33), (17, c_17), (18, c_25), (20, c_26)]
theorem lk_35_23 : look t_35 23 = some c_33 := rfl
theorem lk_35_17 : look t_35 17 = some c_17 := rfl
theorem lk_35_18 : look t_35 18 = some c_25 := rfl
theorem lk_35_20 : look t_35 20 = some c_26 := rfl
noncomputable def c_35 : Ctr := mkF t_35 ir8 [.bor, .bor]
theorem s_35 : Sound Tryz.prog 8 c_35 := mkF_sound _ rfl (snd_cons s_33 (snd_cons s_17 (snd_cons s_25 (snd_cons s_26 snd_nil)))) (by kernel_rfl : chkFn Tryz.prog 8 ir8 ir8_v = true)
theorem M_35 : c_35.modes = [.bor, .bor] := rfl
theorem Fl_35 : c_35.flat = true := rfl
attribute [go_sem] M_35 Fl_35
attribute [go_sem] lk_35_23 lk_35_17 lk_35_18 lk_35_20
theorem Fs_35 {log : List UInt8} {e_ : Entry} {y_ : (List UInt8) × Int} (h : impl_AddEntry log e_ = some y_) : c_35.F [.str log, Entry_av e_] = ⟨true, .tup [.str y_.1, .int .i64 y_.2], [.any, .any]⟩ := by
 refine mkF_E rfl ?_
 dsimp only [impl_AddEntry] at h
 obtain ⟨y_1, z1, h⟩ := bd_some h
 have fz1 := Fs_33 z1
 try simp only [go_sem] at fz1
 rcases it_some h with ⟨z2, h⟩ | ⟨z2, h⟩
 ·try simp only [go_sem, n1, n2, n3, n4] at z2
  all_goals
  obtain rfl := so_some h
  refine ⟨0, fun L hL => ?_⟩
  simp only [go_sem, ir8, fz1, z2]
 ·try simp only [go_sem, n1, n2, n3, n4] at z2
  all_goals
  obtain ⟨y_3, z3, h⟩ := bd_some h
  have fz3 := Fs_17 z3
  try simp only [go_sem, z2] at fz3
  rcases it_some h with ⟨z4, h⟩ | ⟨z4, h⟩
  ·try simp only [go_sem, n1, n2, n3, n4, z2] at z4
   all_goals
   obtain rfl := so_some h
   refine ⟨0, fun L hL => ?_⟩
   simp only [go_sem, ir8, fz1, z2, fz3, z4]
  ·try simp only [go_sem, n1, n2, n3, n4, z2] at z4
   all_goals
   obtain ⟨z5, h⟩ := ck_some h
   rcases or_split z5 with ⟨gz5, z5⟩ | gz5
   ·try simp only [go_sem, n1, n2, n3, n4, z2, z4] at gz5
    all_goals
    have lz5 := ix_lt z5
    have xz5 := getD_mapD Entry_av y_1.1 lz5
    try simp only [go_sem] at lz5
    try simp only [go_sem] at xz5
    try simp only [go_sem, n1, n2, n3, n4, z2, z4, gz5] at z5
    all_goals
    rcases it_some h with ⟨z6, h⟩ | ⟨z6, h⟩
    ·try simp only [go_sem, n1, n2, n3, n4, z2, z4, gz5, z5] at z6
     all_goals
     obtain rfl := so_some h
     refine ⟨0, fun L hL => ?_⟩
     simp only [go_sem, ir8, fz1, z2, fz3, z4, gz5, z5, lz5, xz5, z6]
    ·try simp only [go_sem, n1, n2, n3, n4, z2, z4, gz5, z5] at z6
     all_goals
     obtain ⟨y_7, z7, h⟩ := bd_some h
     have fz7 := Fs_25 z7
     try simp only [go_sem, z2, z4, gz5, z5, z6] at fz7
     obtain ⟨y_8, z8, h⟩ := bd_some h
     have fz8 := Fs_26 z8
     try simp only [go_sem, z2, z4, gz5, z5, z6] at fz8
     obtain ⟨z9, h⟩ := ck_some h
     try simp only [go_sem, n1, n2, n3, n4, z2, z4, gz5, z5, z6] at z9
     all_goals
     rcases it_some h with ⟨z10, h⟩ | ⟨z10, h⟩
     ·try simp only [go_sem, n1, n2, n3, n4, z2, z4, gz5, z5, z6, z9] at z10
      all_goals
      obtain rfl := so_some h
      refine ⟨0, fun L hL => ?_⟩
      simp only [go_sem, ir8, fz1, z2, fz3, z4, gz5, z5, lz5, xz5, z6, fz7, fz8, z9, z10]
     ·try simp only [go_sem, n1, n2, n3, n4, z2, z4, gz5, z5, z6, z9] at z10
      all_goals
      obtain rfl := so_some h
      refine ⟨0, fun L hL => ?_⟩
      simp only [go_sem, ir8, fz1, z2, fz3, z4, gz5, z5, lz5, xz5, z6, fz7, fz8, z9, z10]
   ·try simp only [go_sem, n1, n2, n3, n4, z2, z4] at gz5
    all_goals
    rcases it_some h with ⟨z6, h⟩ | ⟨z6, h⟩
    ·try simp only [go_sem, n1, n2, n3, n4, z2, z4, gz5] at z6
     all_goals
     (simp_all)
    ·try simp only [go_sem, n1, n2, n3, n4, z2, z4, gz5] at z6
     all_goals
     obtain ⟨y_7, z7, h⟩ := bd_some h
     have fz7 := Fs_25 z7
     try simp only [go_sem, z2, z4, gz5, z6] at fz7
     obtain ⟨y_8, z8, h⟩ := bd_some h
     have fz8 := Fs_26 z8
     try simp only [go_sem, z2, z4, gz5, z6] at fz8
     obtain ⟨z9, h⟩ := ck_some h
     try simp only [go_sem, n1, n2, n3, n4, z2, z4, gz5, z6] at z9
     all_goals
     rcases it_some h with ⟨z10, h⟩ | ⟨z10, h⟩
     ·try simp only [go_sem, n1, n2, n3, n4, z2, z4, gz5, z6, z9] at z10
      all_goals
      obtain rfl := so_some h
      refine ⟨0, fun L hL => ?_⟩
      simp only [go_sem, ir8, fz1, z2, fz3, z4, gz5, z6, fz7, fz8, z9, z10]
     ·try simp only [go_sem, n1, n2, n3, n4, z2, z4, gz5, z6, z9] at z10
      all_goals
      obtain rfl := so_some h
      refine ⟨0, fun L hL => ?_⟩
      simp only [go_sem, ir8, fz1, z2, fz3, z4, gz5, z6, fz7, fz8, z9, z10]


def ir9_v : List Nat := [0, 1, 2, 6]
def ir9 : AFn := ⟨3, 4, .seq (.region false [ VO 3 6 (.mov (I6 0))]) (.seq (.test false [ PM 7 1, PM 8 0, PO 9 (.len false (.s 0)), PO 10 (.bin false .geq (.s 2) (.s 0)), PO 11 (.mov (.s 0)), ⟨.push, 12, (some ((.s 0), false)), .mov (.v 2)⟩, ⟨.push, 13, (some ((.s 1), false)), .bin false .lss (.s 0) (I6 1)⟩, PO 14 (.pick (.s 2) (.c (.bool true)) (.s 0))] (.s 0) (.seq (.region false [ VO 3 6 (.mov (I6 0))]) (.ret)) (.skip)) (.seq (.region false [ PM 15 0, PM 16 1, PO 17 (.ixAddr 1 (.s 1) (.s 0)), PO 18 (.load false 1 (.s 0)), PO 19 (.conv .i64 (.s 0)), PM 20 2, PO 21 (.bin false .rem (.s 1) (.s
 0)), VS 3 6 0]) (.ret))), [.t 3]⟩
noncomputable def t_36 : List (Nat × Ctr) := []
noncomputable def c_36 : Ctr := mkF t_36 ir9 [.bor, .bor, .bor]
theorem s_36 : Sound Tryz.prog 9 c_36 := mkF_sound _ rfl snd_nil (by kernel_rfl : chkFn Tryz.prog 9 ir9 ir9_v = true)
theorem M_36 : c_36.modes = [.bor, .bor, .bor] := rfl
theorem Fl_36 : c_36.flat = true := rfl
attribute [go_sem] M_36 Fl_36
theorem Fs_36 {code : List UInt8} {at_ : Int} {n : Int} {y_ : Int} (h : laws_a2At code at_ n = some y_) : c_36.F [.sl 1 (List.map byteAV code), .int .i64 at_, .int .i64 n] = ⟨true, .int .i64 y_, [.any, .any, .any]⟩ := by
 refine mkF_E rfl ?_
 dsimp only [laws_a2At] at h
 rcases it_some h with ⟨z1, h⟩ | ⟨z1, h⟩
 ·try simp only [go_sem, n1, n2, n3, n4] at z1
  all_goals
  obtain rfl := so_some h
  refine ⟨0, fun L hL => ?_⟩
  simp only [go_sem, ir9, z1]
 ·try simp only [go_sem, n1, n2, n3, n4] at z1
  all_goals
  obtain ⟨z2, h⟩ := ck_some h
  have lz2 := ix_lt z2
  have xz2 := getD_mapD byteAV code lz2
  try simp only [go_sem] at lz2
  try simp only [go_sem] at xz2
  try simp only [go_sem, n1, n2, n3, n4, z1] at z2
  all_goals
  obtain ⟨z3, h⟩ := ck_some h
  try simp only [go_sem, n1, n2, n3, n4, z1, z2] at z3
  all_goals
  obtain rfl := so_some h
  refine ⟨0, fun L hL => ?_⟩
  simp only [go_sem, ir9, z1, z2, lz2, xz2, z3]


def ir11_v : List Nat := [0, 2, 3, 5]
def ir11 : AFn := ⟨1, 4, .seq (.region false [ VO 1 2 (.mov (I6 0)), VO 2 3 (.mov (I6 0))]) (.seq (.test false [ PM 7 0, PO 8 (.len true (.s 0)), PO 9 (.bin false .gtr (.s 0) (I6 4000))] (.s 0) (.seq (.region false [ VO 1 2 (.mov (I6 0)), VO 2 3 (.mov (I6 5))]) (.ret)) (.skip)) (.seq (.region false [ PM 11 0, PO 12 (.call 24 [(.s 0)]), PO 10 (.mov (.s 0)), PO 13 (.ext (.s 0) 0), PO 14 (.ext (.s 1) 1), PO 15 (.ext (.s 2) 2), PO 4 (.mov (.s 2)), VS 3 5 2, PO 6 (.mov (.s 1))]) (.seq (.region false [ PM 16 3, VS 1 2 0, VO 2 3 (.mov (I6 0))]) (.ret)))), [.t 1, .t 2]⟩
noncomputable def t_37 : List (Nat × Ctr) := [(24, c_32)]
theorem lk_37_24 : look t_37 24 = some c_32 := rfl
noncomputable def c_37 : Ctr := mkF t_37 ir11 [.bor]
theorem s_37 : Sound Tryz.prog 11 c_37 := mkF_sound _ rfl (snd_cons s_32 snd_nil) (by kernel_rfl : chkFn Tryz.prog 11 ir11 ir11_v = true)
theorem M_37 : c_37.modes = [.bor] := rfl
theorem Fl_37 : c_37.flat = true := rfl
attribute [go_sem] M_37 Fl_37
attribute [go_sem] lk_37_24
theorem Fs_37 {log : List UInt8} {y_ : Int × Int} (h : impl_CheckLog log = some y_) : c_37.F [.str log] = ⟨true, .tup [.int .i64 y_.1, .int .i64 y_.2], [.any]⟩ := by
 refine mkF_E rfl ?_
 dsimp only [impl_CheckLog] at h
 rcases it_some h with ⟨z1, h⟩ | ⟨z1, h⟩
 ·try simp only [go_sem, n1, n2, n3, n4] at z1
  all_goals
  obtain rfl := so_some h
  refine ⟨0, fun L hL => ?_⟩
  simp only [go_sem, ir11, z1]
 ·try simp only [go_sem, n1, n2, n3, n4] at z1
  all_goals
  obtain ⟨y_2, z2, h⟩ := bd_some h
  have fz2 := Fs_32 z2
  try simp only [go_sem, z1] at fz2
  obtain rfl := so_some h
  refine ⟨0, fun L hL => ?_⟩
  simp only [go_sem, ir11, z1, fz2]


def ir10_v : List Nat := [0, 2, 3, 4, 5, 6]
def ir10 : AFn := ⟨1, 6, .seq (.region false [ VO 1 2 (.mov (.c (.str []))), VO 2 3 (.mov (I6 0)), VO 3 4 (.mov (I6 0))]) (.seq (.region false [ PM 8 0, PO 9 (.call 11 [(.s 0)]), PO 7 (.mov (.s 0)), PO 10 (.ext (.s 0) 0), PO 11 (.ext (.s 1) 1), VS 4 5 1, VS 5 6 0]) (.seq (.test false [ PM 12 5, PO 13 (.bin false .neq (.s 0) (I6 0))] (.s 0) (.seq (.region false [ PM 14 5, VO 1 2 (.mov (.c (.str []))), VO 2 3 (.mov (I6 0)), VS 3 4 0]) (.ret)) (.skip)) (.seq (.region false [ PM 15 0, PM 16 4, PO 17 (.slice 0 (.s 1) none (some (.s 0))), PM 18 0, PO 19 (.len true (.s 0)), PM 20 4, PO 21 (.bin false
 .sub (.s 1) (.s 0)), VS 1 2 4, VS 2 3 0, VO 3 4 (.mov (I6 0))]) (.ret)))), [.t 1, .t 2, .t 3]⟩
noncomputable def t_38 : List (Nat × Ctr) := [(11, c_37)]
theorem lk_38_11 : look t_38 11 = some c_37 := rfl
noncomputable def c_38 : Ctr := mkF t_38 ir10 [.bor]
theorem s_38 : Sound Tryz.prog 10 c_38 := mkF_sound _ rfl (snd_cons s_37 snd_nil) (by kernel_rfl : chkFn Tryz.prog 10 ir10 ir10_v = true)
theorem M_38 : c_38.modes = [.bor] := rfl
theorem Fl_38 : c_38.flat = true := rfl
attribute [go_sem] M_38 Fl_38
attribute [go_sem] lk_38_11
theorem Fs_38 {log : List UInt8} {y_ : (List UInt8) × Int × Int} (h : impl_RecoverLog log = some y_) : c_38.F [.str log] = ⟨true, .tup [.str y_.1, .int .i64 y_.2.1, .int .i64 y_.2.2], [.any]⟩ := by
 refine mkF_E rfl ?_
 dsimp only [impl_RecoverLog] at h
 obtain ⟨y_1, z1, h⟩ := bd_some h
 have fz1 := Fs_37 z1
 try simp only [go_sem] at fz1
 rcases it_some h with ⟨z2, h⟩ | ⟨z2, h⟩
 ·try simp only [go_sem, n1, n2, n3, n4] at z2
  all_goals
  obtain rfl := so_some h
  refine ⟨0, fun L hL => ?_⟩
  simp only [go_sem, ir10, fz1, z2]
 ·try simp only [go_sem, n1, n2, n3, n4] at z2
  all_goals
  obtain ⟨z3, h⟩ := ck_some h
  try simp only [go_sem, n1, n2, n3, n4, z2] at z3
  all_goals
  obtain rfl := so_some h
  refine ⟨0, fun L hL => ?_⟩
  simp only [go_sem, ir10, fz1, z2, z3]


def ir57_b0 : IR := .seq (.test false [ PM 9 5, PM 10 0, PO 11 (.len true (.s 0)), PO 12 (.bin false .lss (.s 2) (.s 0))] (.s 0) (.skip) (.exit 0)) (.seq (.block 1 (.test false [ PM 15 0, PM 16 5, PO 17 (.ixStr (.s 1) (.s 0)), PM 18 1, PO 19 (.bin false .eql (.s 1) (.s 0))] (.s 0) (.seq (.region false [ PM 20 3, PM 21 0, PM 22 4, PM 23 5, PO 24 (.slice 0 (.s 2) (some (.s 1)) (some (.s 0))), PO 25 (.mkSl 1 (.str []) 1 [(0, (.s 0))]), PO 26 (.app 1 16 (.str []) (.s 5) (.s 0)), VS 3 5 0]) (.region false [ PM 27 5, PO 28 (.bin false .add (.s 0) (I6 1)), VS 4 6 0])) (.skip))) (.region false [ PM 13
 5, PO 14 (.bin false .add (.s 0) (I6 1)), VS 5 7 0]))
def ir57_k0 : List Bool := [true, true, false, true, true, true]
def ir57_o0 : List Bool := [true, false, false, true, true, false]
def ir57_r0 : List Bool := [false, false, true, false, false, false]
def ir57_v : List Nat := [0, 1, 4, 5, 6, 7]
def ir57 : AFn := ⟨2, 6, .seq (.region false [ VO 2 4 (.newnil 1)]) (.seq (.region false [ PO 8 (.mkSl 1 (.str []) 0 []), VS 3 5 0]) (.seq (.region false [ VO 4 6 (.mov (I6 0))]) (.seq (.seq (.region false [ VO 5 7 (.mov (I6 0))]) (.block 0 (.loop ir57_k0 ir57_o0 ir57_r0 ir57_b0))) (.seq (.region false [ PM 29 3, PM 30 0, PM 31 4, PO 32 (.slice 0 (.s 1) (some (.s 0)) none), PO 33 (.mkSl 1 (.str []) 1 [(0, (.s 0))]), PO 34 (.app 1 16 (.str []) (.s 4) (.s 0)), VS 2 4 0]) (.ret))))), [.t 2]⟩
noncomputable def t_39 : List (Nat × Ctr) := []
noncomputable def c_39 : Ctr := mkF t_39 ir57 [.bor, .bor]
theorem s_39 : Sound Tryz.prog 57 c_39 := mkF_sound _ rfl snd_nil (by kernel_rfl : chkFn Tryz.prog 57 ir57 ir57_v = true)
theorem M_39 : c_39.modes = [.bor, .bor] := rfl
theorem Fl_39 : c_39.flat = true := rfl
attribute [go_sem] M_39 Fl_39
def E_39_l1 (s_ : List UInt8) (by_ : UInt8) : ((List (List UInt8)) × Int × Int) → St
 | (out, from_, i) => ⟨[.str s_, .int .u8 (by_.toNat : Int), .any, .own 3200000, .int .i64 from_, .int .i64 i], [], [(3200000, ⟨1, List.map AV.str out⟩)], true⟩
def R_39_l1 (s_ : List UInt8) (by_ : UInt8) (y : (List (List UInt8)) × Int) : Res := (.exit 0, ⟨[.str s_, .any, .any, .own 3200000, .int .i64 y.2, .any], [], [(3200000, ⟨1, List.map AV.str y.1⟩)], true⟩)
theorem spec_l01Split_l1_ex {s_ : List UInt8} {by_ : UInt8} {sgm_ : (List (List UInt8)) × Int × Int} {rho_ : (List (List UInt8)) × Int} (h : whileE (spec_l01Split_l1 s_ by_) sgm_ = some rho_) : ∃ L0, ∀ L, L0 ≤ L → iter (exec (look t_39) L ir57_b0) ir57_k0 ir57_o0 ir57_r0 L (E_39_l1 s_ by_ sgm_) = R_39_l1 s_ by_ rho_ := by
 refine loop_ex (E := E_39_l1 s_ by_) (R := R_39_l1 s_ by_) (fun y => by first | (intro c; cases c) | (rcases y with y | y <;> (intro c; cases c)) | (rcases y with y | y | y <;> (intro c; cases c))) ?_ h
 clear h
 rintro ⟨out, from_, i⟩ o_ h
 dsimp only [spec_l01Split_l1] at h
 rcases it_some h with ⟨z1, h⟩ | ⟨z1, h⟩
 ·try simp only [go_sem, n1, n2, n3, n4] at z1
  all_goals
  obtain ⟨z2, h⟩ := ck_some h
  try simp only [go_sem, n1, n2, n3, n4, z1] at z2
  all_goals
  rcases it_some h with ⟨z3, h⟩ | ⟨z3, h⟩
  ·try simp only [go_sem, n1, n2, n3, n4, z1, z2] at z3
   all_goals
   obtain ⟨z4, h⟩ := ck_some h
   try simp only [go_sem, n1, n2, n3, n4, z1, z2, z3] at z4
   all_goals
   obtain ⟨z5, h⟩ := ck_some h
   try simp only [go_sem, n1, n2, n3, n4, z1, z2, z3, z4] at z5
   all_goals
   obtain rfl := so_some h
   refine ⟨0, fun L hL => ?_⟩
   simp only [go_sem, ir57, E_39_l1, R_39_l1, ir57_b0, ir57_k0, ir57_o0, ir57_r0, z1, z2, z3, z4, z5]
  ·try simp only [go_sem, n1, n2, n3, n4, z1, z2] at z3
   all_goals
   obtain rfl := so_some h
   refine ⟨0, fun L hL => ?_⟩
   simp only [go_sem, ir57, E_39_l1, R_39_l1, ir57_b0, ir57_k0, ir57_o0, ir57_r0, z1, z2, z3]
 ·try simp only [go_sem, n1, n2, n3, n4] at z1
  all_goals
  obtain rfl := so_some h
  refine ⟨0, fun L hL => ?_⟩
  simp only [go_sem, ir57, E_39_l1, R_39_l1, ir57_b0, ir57_k0, ir57_o0, ir57_r0, z1]

theorem Fs_39 {s_ : List UInt8} {by_ : UInt8} {y_ : (List (List UInt8))} (h : spec_l01Split s_ by_ = some y_) : c_39.F [.str s_, .int .u8 (by_.toNat : Int)] = ⟨true, .fresh 1 (List.map AV.str y_), [.any, .any]⟩ := by
 refine mkF_E (by simp only [flatA, flatB, flat1, List.all_cons, List.all_nil, Bool.and_self, flatE_map (f := AV.str) (fun _ => rfl)]) ?_
 dsimp only [spec_l01Split] at h
 obtain ⟨y_6, z6, h⟩ := bd_some h
 obtain ⟨Lz6, ez6⟩ := spec_l01Split_l1_ex z6
 obtain ⟨z7, h⟩ := ck_some h
 try simp only [go_sem, n1, n2, n3, n4] at z7
 all_goals
 obtain ⟨z8, h⟩ := ck_some h
 try simp only [go_sem, n1, n2, n3, n4, z7] at z8
 all_goals
 obtain rfl := so_some h
 refine ⟨Lz6, fun L hL => ?_⟩
 have ez6 := ez6 L (by omega)
 try simp only [go_sem, E_39_l1, R_39_l1, ir57_k0, ir57_o0, ir57_r0, z7, z8] at ez6
 simp only [go_sem, ir57, E_39_l1, R_39_l1, ir57_k0, ir57_o0, ir57_r0, z7, z8, ez6]


def ir77_b0 : IR := .seq (.test false [ PM 8 3, PO 9 (.bin false .neq (.s 0) (I6 0))] (.s 0) (.skip) (.exit 0)) (.seq (.block 1 (.seq (.region false [ PM 12 3, PO 13 (.bin false .rem (.s 0) (I6 10)), VS 4 5 0]) (.seq (.test false [ PM 14 4, PO 15 (.bin false .lss (.s 0) (I6 0))] (.s 0) (.region false [ PM 16 4, PO 17 (.un .neg (.s 0)), VS 4 5 0]) (.skip)) (.region false [ PM 18 4, PO 19 (.bin false .add (I6 48) (.s 0)), PO 20 (.conv .u8 (.s 0)), PO 21 (.mkSl 1 (.int .u8 (0)) 1 [(0, (.s 0))]), PM 22 2, PO 23 (.app 1 1 (.int .u8 (0)) (.s 1) (.s 0)), VS 2 3 0])))) (.region false [ PM 10 3, PO 11
 (.bin false .quo (.s 0) (I6 10)), VS 3 4 0]))
def ir77_k0 : List Bool := [true, false, true, true, false]
def ir77_o0 : List Bool := [true, false, true, false, false]
def ir77_r0 : List Bool := [false, true, false, false, false]
def ir77_v : List Nat := [0, 2, 3, 4, 5]
def ir77 : AFn := ⟨1, 5, .seq (.region false [ VO 1 2 (.mov (.c (.str [])))]) (.seq (.region false [ PO 6 (.mkSl 1 (.int .u8 (0)) 0 []), VS 2 3 0]) (.seq (.seq (.region false [ PM 7 0, VS 3 4 0]) (.block 0 (.loop ir77_k0 ir77_o0 ir77_r0 ir77_b0))) (.seq (.test false [ PM 24 2, PO 25 (.len false (.s 0)), PO 26 (.bin false .eql (.s 0) (I6 0))] (.s 0) (.seq (.region false [ VO 1 2 (.mov (.c (.str [48])))]) (.ret)) (.skip)) (.seq (.test false [ PM 27 0, PO 28 (.bin false .lss (.s 0) (I6 0))] (.s 0) (.seq (.region false [ PM 29 2, PO 30 (.b2s (.s 0)), PO 31 (.bin false .add (.c (.str [45])) (.s 0)),
 VS 1 2 0]) (.ret)) (.skip)) (.seq (.region false [ PM 32 2, PO 33 (.b2s (.s 0)), VS 1 2 0]) (.ret)))))), [.t 1]⟩
noncomputable def t_40 : List (Nat × Ctr) := []
noncomputable def c_40 : Ctr := mkF t_40 ir77 [.bor]
theorem s_40 : Sound Tryz.prog 77 c_40 := mkF_sound _ rfl snd_nil (by kernel_rfl : chkFn Tryz.prog 77 ir77 ir77_v = true)
theorem M_40 : c_40.modes = [.bor] := rfl
theorem Fl_40 : c_40.flat = true := rfl
attribute [go_sem] M_40 Fl_40
def E_40_l1 (n : Int) : ((List UInt8) × Int) → St
 | (out, k) => ⟨[.int .i64 n, .any, .own 3200000, .int .i64 k, .any], [], [(3200000, ⟨1, List.map byteAV out⟩)], true⟩
def R_40_l1 (n : Int) (y : (List UInt8)) : Res := (.exit 0, ⟨[.int .i64 n, .any, .own 3200000, .any, .any], [], [(3200000, ⟨1, List.map byteAV y⟩)], true⟩)
theorem spec_l01Dec_l1_ex {n : Int} {sgm_ : (List UInt8) × Int} {rho_ : (List UInt8)} (h : whileE (spec_l01Dec_l1 n) sgm_ = some rho_) : ∃ L0, ∀ L, L0 ≤ L → iter (exec (look t_40) L ir77_b0) ir77_k0 ir77_o0 ir77_r0 L (E_40_l1 n sgm_) = R_40_l1 n rho_ := by
 refine loop_ex (E := E_40_l1 n) (R := R_40_l1 n) (fun y => by first | (intro c; cases c) | (rcases y with y | y <;> (intro c; cases c)) | (rcases y with y | y | y <;> (intro c; cases c))) ?_ h
 clear h
 rintro ⟨out, k⟩ o_ h
 dsimp only [spec_l01Dec_l1] at h
 rcases it_some h with ⟨z1, h⟩ | ⟨z1, h⟩
 ·try simp only [go_sem, n1, n2, n3, n4] at z1
  all_goals
  obtain ⟨z2, h⟩ := ck_some h
  try simp only [go_sem, n1, n2, n3, n4, z1] at z2
  all_goals
  rcases it_some h with ⟨z3, h⟩ | ⟨z3, h⟩
  ·try simp only [go_sem, n1, n2, n3, n4, z1, z2] at z3
   all_goals
   obtain ⟨z4, h⟩ := ck_some h
   try simp only [go_sem, n1, n2, n3, n4, z1, z2, z3] at z4
   all_goals
   obtain rfl := so_some h
   refine ⟨0, fun L hL => ?_⟩
   simp only [go_sem, ir77, E_40_l1, R_40_l1, ir77_b0, ir77_k0, ir77_o0, ir77_r0, z1, z2, z3, z4]
  ·try simp only [go_sem, n1, n2, n3, n4, z1, z2] at z3
   all_goals
   obtain ⟨z5, h⟩ := ck_some h
   try simp only [go_sem, n1, n2, n3, n4, z1, z2, z3] at z5
   all_goals
   obtain rfl := so_some h
   refine ⟨0, fun L hL => ?_⟩
   simp only [go_sem, ir77, E_40_l1, R_40_l1, ir77_b0, ir77_k0, ir77_o0, ir77_r0, z1, z2, z3, z5]
 ·try simp only [go_sem, n1, n2, n3, n4] at z1
  all_goals
  obtain rfl := so_some h
  refine ⟨0, fun L hL => ?_⟩
  simp only [go_sem, ir77, E_40_l1, R_40_l1, ir77_b0, ir77_k0, ir77_o0, ir77_r0, z1]

theorem Fs_40 {n : Int} {y_ : (List UInt8)} (h : spec_l01Dec n = some y_) : c_40.F [.int .i64 n] = ⟨true, .str y_, [.any]⟩ := by
 refine mkF_E rfl ?_
 dsimp only [spec_l01Dec] at h
 obtain ⟨y_6, z6, h⟩ := bd_some h
 obtain ⟨Lz6, ez6⟩ := spec_l01Dec_l1_ex z6
 rcases it_some h with ⟨z7, h⟩ | ⟨z7, h⟩
 ·try simp only [go_sem, n1, n2, n3, n4] at z7
  all_goals
  obtain rfl := so_some h
  refine ⟨Lz6, fun L hL => ?_⟩
  have ez6 := ez6 L (by omega)
  try simp only [go_sem, E_40_l1, R_40_l1, ir77_k0, ir77_o0, ir77_r0, z7] at ez6
  simp only [go_sem, ir77, E_40_l1, R_40_l1, ir77_k0, ir77_o0, ir77_r0, z7, ez6]
 ·try simp only [go_sem, n1, n2, n3, n4] at z7
  all_goals
  rcases it_some h with ⟨z8, h⟩ | ⟨z8, h⟩
  ·try simp only [go_sem, n1, n2, n3, n4, z7] at z8
   all_goals
   obtain ⟨z9, h⟩ := ck_some h
   try simp only [go_sem, n1, n2, n3, n4, z7, z8] at z9
   all_goals
   obtain rfl := so_some h
   refine ⟨Lz6, fun L hL => ?_⟩
   have ez6 := ez6 L (by omega)
   try simp only [go_sem, E_40_l1, R_40_l1, ir77_k0, ir77_o0, ir77_r0, z7, z8, z9] at ez6
   simp only [go_sem, ir77, E_40_l1, R_40_l1, ir77_k0, ir77_o0, ir77_r0, z7, z8, z9, ez6]
  ·try simp only [go_sem, n1, n2, n3, n4, z7] at z8
   all_goals
   obtain rfl := so_some h
   refine ⟨Lz6, fun L hL => ?_⟩
   have ez6 := ez6 L (by omega)
   try simp only [go_sem, E_40_l1, R_40_l1, ir77_k0, ir77_o0, ir77_r0, z7, z8] at ez6
   simp only [go_sem, ir77, E_40_l1, R_40_l1, ir77_k0, ir77_o0, ir77_r0, z7, z8, ez6]


def ir61_v : List Nat := [0, 2]
def ir61 : AFn := ⟨1, 2, .seq (.region false [ VO 1 2 (.mov (.c (.str [])))]) (.seq (.anyo 18 [ SO 0 3 (.mov (.v 0)), SO 1 4 (.nilck (.s 0)), SO 2 5 (.fldAddr 0 (.s 1)), SO 3 6 (.load false 1 (.s 2)), SO 4 7 (.callp 77 [(.s 3)]), SO 5 8 (.bin false .add (.s 4) (.c (.str [32]))), SO 6 9 (.mov (.v 0)), SO 7 10 (.nilck (.s 6)), SO 8 11 (.fldAddr 1 (.s 7)), SO 9 12 (.load false 1 (.s 8)), SO 10 13 (.bin false .add (.s 5) (.s 9)), SO 11 14 (.bin false .add (.s 10) (.c (.str [32]))), SO 12 15 (.mov (.v 0)), SO 13 16 (.nilck (.s 12)), SO 14 17 (.fldAddr 2 (.s 13)), SO 15 18 (.load false 1 (.s 14)), SO
 16 19 (.callp 77 [(.s 15)]), SO 17 20 (.bin false .add (.s 11) (.s 16)), VS 1 2 17] [] .skip) (.ret)), [.t 1]⟩
noncomputable def t_41 : List (Nat × Ctr) := [(77, c_40)]
theorem lk_41_77 : look t_41 77 = some c_40 := rfl
noncomputable def c_41 : Ctr := mkF t_41 ir61 [.bor]
theorem s_41 : Sound Tryz.prog 61 c_41 := mkF_sound _ rfl (snd_cons s_40 snd_nil) (by kernel_rfl : chkFn Tryz.prog 61 ir61 ir61_v = true)
theorem M_41 : c_41.modes = [.bor] := rfl
theorem Fl_41 : c_41.flat = true := rfl
attribute [go_sem] M_41 Fl_41
attribute [go_sem] lk_41_77
theorem Fs_41 {e_ : Entry} {y_ : (List UInt8)} (h : spec_l27Words e_ = some y_) : c_41.F [.ptr 3 [Entry_av e_] 0 0] = ⟨true, .str y_, [.any]⟩ := by
 refine mkF_E rfl ?_
 dsimp only [spec_l27Words] at h
 obtain ⟨y_1, z1, h⟩ := bd_some h
 have fz1 := Fs_40 z1
 try simp only [go_sem] at fz1
 obtain ⟨z2, h⟩ := ck_some h
 try simp only [go_sem, n1, n2, n3, n4] at z2
 all_goals
 obtain ⟨z3, h⟩ := ck_some h
 try simp only [go_sem, n1, n2, n3, n4, z2] at z3
 all_goals
 obtain ⟨z4, h⟩ := ck_some h
 try simp only [go_sem, n1, n2, n3, n4, z2, z3] at z4
 all_goals
 obtain ⟨y_5, z5, h⟩ := bd_some h
 have fz5 := Fs_40 z5
 try simp only [go_sem, z2, z3, z4] at fz5
 obtain ⟨z6, h⟩ := ck_some h
 try simp only [go_sem, n1, n2, n3, n4, z2, z3, z4] at z6
 all_goals
 obtain rfl := so_some h
 refine ⟨0, fun L hL => ?_⟩
 simp only [go_sem, ir61, fz1, z2, z3, z4, fz5, z6]


def ir60_b0 : IR := .seq (.test false [ PM 10 4, PM 11 1, PO 12 (.len true (.s 0)), PO 13 (.bin false .lss (.s 2) (.s 0))] (.s 0) (.skip) (.exit 0)) (.seq (.block 1 (.region false [ PM 16 3, PO 17 (.bin false .mul (I6 31) (.s 0)), PM 18 1, PM 19 4, PO 20 (.ixStr (.s 1) (.s 0)), PO 21 (.conv .i64 (.s 0)), PO 22 (.bin false .add (.s 4) (.s 0)), PO 23 (.bin false .rem (.s 0) (I6 65521)), VS 3 5 0])) (.region false [ PM 14 4, PO 15 (.bin false .add (.s 0) (I6 1)), VS 4 6 0]))
def ir60_k0 : List Bool := [false, true, false, true, true]
def ir60_o0 : List Bool := [false, false, false, true, false]
def ir60_r0 : List Bool := [false, false, true, false, false]
def ir60_v : List Nat := [0, 1, 4, 5, 6]
def ir60 : AFn := ⟨2, 5, .seq (.region false [ VO 2 4 (.mov (I6 0))]) (.seq (.region false [ PM 7 0, PO 8 (.bin false .add (.s 0) (I6 23)), PO 9 (.bin false .rem (.s 0) (I6 65521)), VS 3 5 0]) (.seq (.seq (.region false [ VO 4 6 (.mov (I6 0))]) (.block 0 (.loop ir60_k0 ir60_o0 ir60_r0 ir60_b0))) (.seq (.region false [ PM 24 3, VS 2 4 0]) (.ret)))), [.t 2]⟩
noncomputable def t_42 : List (Nat × Ctr) := []
noncomputable def c_42 : Ctr := mkF t_42 ir60 [.bor, .bor]
theorem s_42 : Sound Tryz.prog 60 c_42 := mkF_sound _ rfl snd_nil (by kernel_rfl : chkFn Tryz.prog 60 ir60 ir60_v = true)
theorem M_42 : c_42.modes = [.bor, .bor] := rfl
theorem Fl_42 : c_42.flat = true := rfl
attribute [go_sem] M_42 Fl_42
def E_42_l1 (words : List UInt8) : (Int × Int) → St
 | (sum, i) => ⟨[.any, .str words, .any, .int .i64 sum, .int .i64 i], [], [], true⟩
def R_42_l1 (words : List UInt8) (y : Int) : Res := (.exit 0, ⟨[.any, .any, .any, .int .i64 y, .any], [], [], true⟩)
theorem spec_l27Stamp_l1_ex {words : List UInt8} {sgm_ : Int × Int} {rho_ : Int} (h : whileE (spec_l27Stamp_l1 words) sgm_ = some rho_) : ∃ L0, ∀ L, L0 ≤ L → iter (exec (look t_42) L ir60_b0) ir60_k0 ir60_o0 ir60_r0 L (E_42_l1 words sgm_) = R_42_l1 words rho_ := by
 refine loop_ex (E := E_42_l1 words) (R := R_42_l1 words) (fun y => by first | (intro c; cases c) | (rcases y with y | y <;> (intro c; cases c)) | (rcases y with y | y | y <;> (intro c; cases c))) ?_ h
 clear h
 rintro ⟨sum, i⟩ o_ h
 dsimp only [spec_l27Stamp_l1] at h
 rcases it_some h with ⟨z2, h⟩ | ⟨z2, h⟩
 ·try simp only [go_sem, n1, n2, n3, n4] at z2
  all_goals
  obtain ⟨z3, h⟩ := ck_some h
  try simp only [go_sem, n1, n2, n3, n4, z2] at z3
  all_goals
  obtain ⟨z4, h⟩ := ck_some h
  try simp only [go_sem, n1, n2, n3, n4, z2, z3] at z4
  all_goals
  obtain rfl := so_some h
  refine ⟨0, fun L hL => ?_⟩
  simp only [go_sem, ir60, E_42_l1, R_42_l1, ir60_b0, ir60_k0, ir60_o0, ir60_r0, z2, z3, z4]
 ·try simp only [go_sem, n1, n2, n3, n4] at z2
  all_goals
  obtain rfl := so_some h
  refine ⟨0, fun L hL => ?_⟩
  simp only [go_sem, ir60, E_42_l1, R_42_l1, ir60_b0, ir60_k0, ir60_o0, ir60_r0, z2]

theorem Fs_42 {before : Int} {words : List UInt8} {y_ : Int} (h : spec_l27Stamp before words = some y_) : c_42.F [.int .i64 before, .str words] = ⟨true, .int .i64 y_, [.any, .any]⟩ := by
 refine mkF_E rfl ?_
 dsimp only [spec_l27Stamp] at h
 obtain ⟨z1, h⟩ := ck_some h
 try simp only [go_sem, n1, n2, n3, n4] at z1
 all_goals
 obtain ⟨y_5, z5, h⟩ := bd_some h
 obtain ⟨Lz5, ez5⟩ := spec_l27Stamp_l1_ex z5
 obtain rfl := so_some h
 refine ⟨Lz5, fun L hL => ?_⟩
 have ez5 := ez5 L (by omega)
 try simp only [go_sem, E_42_l1, R_42_l1, ir60_k0, ir60_o0, ir60_r0, z1] at ez5
 simp only [go_sem, ir60, E_42_l1, R_42_l1, ir60_k0, ir60_o0, ir60_r0, z1, ez5]


def ir62_v : List Nat := [0, 1, 4]
def ir62 : AFn := ⟨2, 3, .seq (.region false [ VO 2 4 (.mov (.c (.str [])))]) (.seq (.region false [ PM 5 1, PO 6 (.call 61 [(.s 0)]), PO 7 (.bin false .add (.s 0) (.c (.str [32]))), PM 8 0, PO 9 (.call 77 [(.s 0)]), PO 10 (.bin false .add (.s 2) (.s 0)), PO 11 (.bin false .add (.s 0) (.c (.str [10]))), VS 2 4 0]) (.ret)), [.t 2]⟩
noncomputable def t_43 : List (Nat × Ctr) := [(61, c_41), (77, c_40)]
theorem lk_43_61 : look t_43 61 = some c_41 := rfl
theorem lk_43_77 : look t_43 77 = some c_40 := rfl
noncomputable def c_43 : Ctr := mkF t_43 ir62 [.bor, .bor]
theorem s_43 : Sound Tryz.prog 62 c_43 := mkF_sound _ rfl (snd_cons s_41 (snd_cons s_40 snd_nil)) (by kernel_rfl : chkFn Tryz.prog 62 ir62 ir62_v = true)
theorem M_43 : c_43.modes = [.bor, .bor] := rfl
theorem Fl_43 : c_43.flat = true := rfl
attribute [go_sem] M_43 Fl_43
attribute [go_sem] lk_43_61 lk_43_77
theorem Fs_43 {stamp : Int} {e_ : Entry} {y_ : (List UInt8)} (h : spec_l27Line stamp e_ = some y_) : c_43.F [.int .i64 stamp, .ptr 3 [Entry_av e_] 0 0] = ⟨true, .str y_, [.any, .any]⟩ := by
 refine mkF_E rfl ?_
 dsimp only [spec_l27Line] at h
 obtain ⟨y_1, z1, h⟩ := bd_some h
 have fz1 := Fs_41 z1
 try simp only [go_sem] at fz1
 obtain ⟨z2, h⟩ := ck_some h
 try simp only [go_sem, n1, n2, n3, n4] at z2
 all_goals
 obtain ⟨y_3, z3, h⟩ := bd_some h
 have fz3 := Fs_40 z3
 try simp only [go_sem, z2] at fz3
 obtain ⟨z4, h⟩ := ck_some h
 try simp only [go_sem, n1, n2, n3, n4, z2] at z4
 all_goals
 obtain ⟨z5, h⟩ := ck_some h
 try simp only [go_sem, n1, n2, n3, n4, z2, z4] at z5
 all_goals
 obtain rfl := so_some h
 refine ⟨0, fun L hL => ?_⟩
 simp only [go_sem, ir62, fz1, z2, fz3, z4, z5]


def ir58_b0 : IR := .seq (.test false [ PM 25 5, PM 26 3, PO 27 (.len true (.s 0)), PO 28 (.bin false .lss (.s 2) (.s 0))] (.s 0) (.skip) (.exit 0)) (.seq (.block 1 (.seq (.test false [ PM 31 3, PM 32 5, PO 33 (.ixStr (.s 1) (.s 0)), PO 34 (.call 51 [(.s 0)]), PO 35 (.un .not (.s 0))] (.s 0) (.seq (.region false [ VO 1 2 (.mov (I6 0)), VO 2 3 (.mov (.c (.bool false)))]) (.ret)) (.skip)) (.region false [ PM 36 4, PO 37 (.bin false .mul (I6 10) (.s 0)), PM 38 3, PM 39 5, PO 40 (.ixStr (.s 1) (.s 0)), PO 41 (.bin false .sub (.s 0) (.c (.int .u8 (48)))), PO 42 (.conv .i64 (.s 0)), PO 43 (.bin false
 .add (.s 5) (.s 0)), VS 4 5 0]))) (.region false [ PM 29 5, PO 30 (.bin false .add (.s 0) (I6 1)), VS 5 6 0]))
def ir58_k0 : List Bool := [true, false, false, true, true, true]
def ir58_o0 : List Bool := [true, false, false, true, true, false]
def ir58_r0 : List Bool := [false, true, true, false, false, false]
def ir58_v : List Nat := [0, 2, 3, 4, 5, 6]
def ir58 : AFn := ⟨1, 6, .seq (.region false [ VO 1 2 (.mov (I6 0)), VO 2 3 (.mov (.c (.bool false)))]) (.seq (.region false [ PM 7 0, VS 3 4 0]) (.seq (.test false [ PM 8 3, PO 9 (.bin false .neq (.s 0) (.c (.str []))), PO 10 (.mov (.s 0)), ⟨.push, 11, (some ((.s 0), true)), .mov (.v 3)⟩, ⟨.push, 12, (some ((.s 1), true)), .ixStr (.s 0) (I6 0)⟩, ⟨.push, 13, (some ((.s 2), true)), .bin false .eql (.s 0) (.c (.int .u8 (45)))⟩, PO 14 (.pick (.s 3) (.s 0) (.c (.bool false)))] (.s 0) (.region false [ PM 15 3, PO 16 (.slice 0 (.s 0) (some (I6 1)) none), VS 3 4 0]) (.skip)) (.seq (.test false [ PM 17
 3, PO 18 (.len true (.s 0)), PO 19 (.bin false .lss (.s 0) (I6 1)), PO 20 (.mov (.s 0)), ⟨.push, 21, (some ((.s 0), false)), .mov (.v 3)⟩, ⟨.push, 22, (some ((.s 1), false)), .len true (.s 0)⟩, ⟨.push, 23, (some ((.s 2), false)), .bin false .gtr (.s 0) (I6 18)⟩, PO 24 (.pick (.s 3) (.c (.bool true)) (.s 0))] (.s 0) (.seq (.region false [ VO 1 2 (.mov (I6 0)), VO 2 3 (.mov (.c (.bool false)))]) (.ret)) (.skip)) (.seq (.region false [ VO 4 5 (.mov (I6 0))]) (.seq (.seq (.region false [ VO 5 6 (.mov (I6 0))]) (.block 0 (.loop ir58_k0 ir58_o0 ir58_r0 ir58_b0))) (.seq (.test false [ PM 44 3, PO 45
 (.len true (.s 0)), PM 46 0, PO 47 (.len true (.s 0)), PO 48 (.bin false .lss (.s 2) (.s 0))] (.s 0) (.region false [ PM 49 4, PO 50 (.un .neg (.s 0)), VS 4 5 0]) (.skip)) (.seq (.test false [ PM 51 4, PO 52 (.call 77 [(.s 0)]), PM 53 0, PO 54 (.bin false .neq (.s 1) (.s 0))] (.s 0) (.seq (.region false [ VO 1 2 (.mov (I6 0)), VO 2 3 (.mov (.c (.bool false)))]) (.ret)) (.skip)) (.seq (.region false [ PM 55 4, VS 1 2 0, VO 2 3 (.mov (.c (.bool true)))]) (.ret))))))))), [.t 1, .t 2]⟩
noncomputable def t_44 : List (Nat × Ctr) := [(51, c_10), (77, c_40)]
theorem lk_44_51 : look t_44 51 = some c_10 := rfl
theorem lk_44_77 : look t_44 77 = some c_40 := rfl
noncomputable def c_44 : Ctr := mkF t_44 ir58 [.bor]
theorem s_44 : Sound Tryz.prog 58 c_44 := mkF_sound _ rfl (snd_cons s_10 (snd_cons s_40 snd_nil)) (by kernel_rfl : chkFn Tryz.prog 58 ir58 ir58_v = true)
theorem M_44 : c_44.modes = [.bor] := rfl
theorem Fl_44 : c_44.flat = true := rfl
attribute [go_sem] M_44 Fl_44
attribute [go_sem] lk_44_51 lk_44_77
def E_44_l1 (s_ : List UInt8) (t : List UInt8) : (Int × Int) → St
 | (n, i) => ⟨[.str s_, .any, .any, .str t, .int .i64 n, .int .i64 i], [], [], true⟩
def R_44_l1 (s_ : List UInt8) (t : List UInt8) : (Int ⊕ (Int × Bool)) → Res
 | .inl y => (.exit 0, ⟨[.str s_, .any, .any, .str t, .int .i64 y, .any], [], [], true⟩)
 | .inr y => (.ret, ⟨[.any, .int .i64 y.1, .bool y.2, .any, .any, .any], [], [], true⟩)
set_option maxHeartbeats 64000000 in
theorem spec_l01Number_l1_ex {s_ : List UInt8} {t : List UInt8} {sgm_ : Int × Int} {rho_ : Int ⊕ (Int × Bool)} (h : whileE (spec_l01Number_l1 s_ t) sgm_ = some rho_) : ∃ L0, ∀ L, L0 ≤ L → iter (exec (look t_44) L ir58_b0) ir58_k0 ir58_o0 ir58_r0 L (E_44_l1 s_ t sgm_) = R_44_l1 s_ t rho_ := by
 refine loop_ex (E := E_44_l1 s_ t) (R := R_44_l1 s_ t) (fun y => by first | (intro c; cases c) | (rcases y with y | y <;> (intro c; cases c)) | (rcases y with y | y | y <;> (intro c; cases c))) ?_ h
 clear h
 rintro ⟨n, i⟩ o_ h
 dsimp only [spec_l01Number_l1] at h
 rcases it_some h with ⟨z5, h⟩ | ⟨z5, h⟩
 ·try simp only [go_sem, n1, n2, n3, n4] at z5
  all_goals
  obtain ⟨z6, h⟩ := ck_some h
  try simp only [go_sem, n1, n2, n3, n4, z5] at z6
  all_goals
  obtain ⟨y_7, z7, h⟩ := bd_some h
  have fz7 := Fs_10 z7
  try simp only [go_sem, z5, z6] at fz7
  rcases it_some h with ⟨z8, h⟩ | ⟨z8, h⟩
  ·try simp only [go_sem, n1, n2, n3, n4, z5, z6] at z8
   all_goals
   obtain rfl := so_some h
   refine ⟨0, fun L hL => ?_⟩
   simp only [go_sem, ir58, E_44_l1, R_44_l1, ir58_b0, ir58_k0, ir58_o0, ir58_r0, z5, z6, fz7, z8]
  ·try simp only [go_sem, n1, n2, n3, n4, z5, z6] at z8
   all_goals
   obtain rfl := so_some h
   refine ⟨0, fun L hL => ?_⟩
   simp only [go_sem, ir58, E_44_l1, R_44_l1, ir58_b0, ir58_k0, ir58_o0, ir58_r0, z5, z6, fz7, z8]
 ·try simp only [go_sem, n1, n2, n3, n4] at z5
  all_goals
  obtain rfl := so_some h
  refine ⟨0, fun L hL => ?_⟩
  simp only [go_sem, ir58, E_44_l1, R_44_l1, ir58_b0, ir58_k0, ir58_o0, ir58_r0, z5]

def E_44_l2 (s_ : List UInt8) (t : List UInt8) : (Int × Int) → St
 | (n, i) => ⟨[.str s_, .any, .any, .str t, .int .i64 n, .int .i64 i], [], [], true⟩
def R_44_l2 (s_ : List UInt8) (t : List UInt8) : (Int ⊕ (Int × Bool)) → Res
 | .inl y => (.exit 0, ⟨[.str s_, .any, .any, .str t, .int .i64 y, .any], [], [], true⟩)
 | .inr y => (.ret, ⟨[.any, .int .i64 y.1, .bool y.2, .any, .any, .any], [], [], true⟩)
set_option maxHeartbeats 64000000 in
theorem spec_l01Number_l2_ex {s_ : List UInt8} {t : List UInt8} {sgm_ : Int × Int} {rho_ : Int ⊕ (Int × Bool)} (h : whileE (spec_l01Number_l2 s_ t) sgm_ = some rho_) : ∃ L0, ∀ L, L0 ≤ L → iter (exec (look t_44) L ir58_b0) ir58_k0 ir58_o0 ir58_r0 L (E_44_l2 s_ t sgm_) = R_44_l2 s_ t rho_ := by
 refine loop_ex (E := E_44_l2 s_ t) (R := R_44_l2 s_ t) (fun y => by first | (intro c; cases c) | (rcases y with y | y <;> (intro c; cases c)) | (rcases y with y | y | y <;> (intro c; cases c))) ?_ h
 clear h
 rintro ⟨n, i⟩ o_ h
 dsimp only [spec_l01Number_l2] at h
 rcases it_some h with ⟨z16, h⟩ | ⟨z16, h⟩
 ·try simp only [go_sem, n1, n2, n3, n4] at z16
  all_goals
  obtain ⟨z17, h⟩ := ck_some h
  try simp only [go_sem, n1, n2, n3, n4, z16] at z17
  all_goals
  obtain ⟨y_18, z18, h⟩ := bd_some h
  have fz18 := Fs_10 z18
  try simp only [go_sem, z16, z17] at fz18
  rcases it_some h with ⟨z19, h⟩ | ⟨z19, h⟩
  ·try simp only [go_sem, n1, n2, n3, n4, z16, z17] at z19
   all_goals
   obtain rfl := so_some h
   refine ⟨0, fun L hL => ?_⟩
   simp only [go_sem, ir58, E_44_l2, R_44_l2, ir58_b0, ir58_k0, ir58_o0, ir58_r0, E_44_l1, R_44_l1, ir58_k0, ir58_o0, ir58_r0, z16, z17, fz18, z19]
  ·try simp only [go_sem, n1, n2, n3, n4, z16, z17] at z19
   all_goals
   obtain rfl := so_some h
   refine ⟨0, fun L hL => ?_⟩
   simp only [go_sem, ir58, E_44_l2, R_44_l2, ir58_b0, ir58_k0, ir58_o0, ir58_r0, E_44_l1, R_44_l1, ir58_k0, ir58_o0, ir58_r0, z16, z17, fz18, z19]
 ·try simp only [go_sem, n1, n2, n3, n4] at z16
  all_goals
  obtain rfl := so_some h
  refine ⟨0, fun L hL => ?_⟩
  simp only [go_sem, ir58, E_44_l2, R_44_l2, ir58_b0, ir58_k0, ir58_o0, ir58_r0, E_44_l1, R_44_l1, ir58_k0, ir58_o0, ir58_r0, z16]

set_option maxHeartbeats 64000000 in
theorem Fs_44 {s_ : List UInt8} {y_ : Int × Bool} (h : spec_l01Number s_ = some y_) : c_44.F [.str s_] = ⟨true, .tup [.int .i64 y_.1, .bool y_.2], [.any]⟩ := by
 refine mkF_E rfl ?_
 dsimp only [spec_l01Number] at h
 obtain ⟨z1, h⟩ := ck_some h
 rcases or_split z1 with ⟨gz1, z1⟩ | gz1
 ·try simp only [go_sem, n1, n2, n3, n4] at gz1
  all_goals
  try simp only [go_sem, n1, n2, n3, n4, gz1] at z1
  all_goals
  rcases it_some h with ⟨z2, h⟩ | ⟨z2, h⟩
  ·try simp only [go_sem, n1, n2, n3, n4, gz1, z1] at z2
   all_goals
   obtain ⟨z3, h⟩ := ck_some h
   try simp only [go_sem, n1, n2, n3, n4, gz1, z1, z2] at z3
   all_goals
   rcases it_some h with ⟨z4, h⟩ | ⟨z4, h⟩
   ·try simp only [go_sem, n1, n2, n3, n4, gz1, z1, z2, z3] at z4
    all_goals
    obtain rfl := so_some h
    refine ⟨0, fun L hL => ?_⟩
    simp only [go_sem, ir58, E_44_l1, R_44_l1, ir58_k0, ir58_o0, ir58_r0, E_44_l2, R_44_l2, ir58_k0, ir58_o0, ir58_r0, gz1, z1, z2, z3, z4]
   ·try simp only [go_sem, n1, n2, n3, n4, gz1, z1, z2, z3] at z4
    all_goals
    obtain ⟨y_9, z9, h⟩ := bd_some h
    obtain ⟨Lz9, ez9⟩ := spec_l01Number_l1_ex z9
    rcases y_9 with y_9a | y_9b
    ·dsimp only at h
     rcases it_some h with ⟨z10, h⟩ | ⟨z10, h⟩
     ·try simp only [go_sem, n1, n2, n3, n4, gz1, z1, z2, z3, z4] at z10
      all_goals
      obtain ⟨y_11, z11, h⟩ := bd_some h
      have fz11 := Fs_40 z11
      try simp only [go_sem, gz1, z1, z2, z3, z4, z10] at fz11
      rcases it_some h with ⟨z12, h⟩ | ⟨z12, h⟩
      ·try simp only [go_sem, n1, n2, n3, n4, gz1, z1, z2, z3, z4, z10] at z12
       all_goals
       obtain rfl := so_some h
       refine ⟨Lz9, fun L hL => ?_⟩
       have ez9 := ez9 L (by omega)
       try simp only [go_sem, E_44_l1, R_44_l1, ir58_k0, ir58_o0, ir58_r0, E_44_l2, R_44_l2, ir58_k0, ir58_o0, ir58_r0, gz1, z1, z2, z3, z4, z10, z12] at ez9
       simp only [go_sem, ir58, E_44_l1, R_44_l1, ir58_k0, ir58_o0, ir58_r0, E_44_l2, R_44_l2, ir58_k0, ir58_o0, ir58_r0, gz1, z1, z2, z3, z4, z10, fz11, z12, ez9]
      ·try simp only [go_sem, n1, n2, n3, n4, gz1, z1, z2, z3, z4, z10] at z12
       all_goals
       obtain rfl := so_some h
       refine ⟨Lz9, fun L hL => ?_⟩
       have ez9 := ez9 L (by omega)
       try simp only [go_sem, E_44_l1, R_44_l1, ir58_k0, ir58_o0, ir58_r0, E_44_l2, R_44_l2, ir58_k0, ir58_o0, ir58_r0, gz1, z1, z2, z3, z4, z10, z12] at ez9
       simp only [go_sem, ir58, E_44_l1, R_44_l1, ir58_k0, ir58_o0, ir58_r0, E_44_l2, R_44_l2, ir58_k0, ir58_o0, ir58_r0, gz1, z1, z2, z3, z4, z10, fz11, z12, ez9]
     ·try simp only [go_sem, n1, n2, n3, n4, gz1, z1, z2, z3, z4] at z10
      all_goals
      obtain ⟨y_13, z13, h⟩ := bd_some h
      have fz13 := Fs_40 z13
      try simp only [go_sem, gz1, z1, z2, z3, z4, z10] at fz13
      rcases it_some h with ⟨z14, h⟩ | ⟨z14, h⟩
      ·try simp only [go_sem, n1, n2, n3, n4, gz1, z1, z2, z3, z4, z10] at z14
       all_goals
       obtain rfl := so_some h
       refine ⟨Lz9, fun L hL => ?_⟩
       have ez9 := ez9 L (by omega)
       try simp only [go_sem, E_44_l1, R_44_l1, ir58_k0, ir58_o0, ir58_r0, E_44_l2, R_44_l2, ir58_k0, ir58_o0, ir58_r0, gz1, z1, z2, z3, z4, z10, z14] at ez9
       simp only [go_sem, ir58, E_44_l1, R_44_l1, ir58_k0, ir58_o0, ir58_r0, E_44_l2, R_44_l2, ir58_k0, ir58_o0, ir58_r0, gz1, z1, z2, z3, z4, z10, fz13, z14, ez9]
      ·try simp only [go_sem, n1, n2, n3, n4, gz1, z1, z2, z3, z4, z10] at z14
       all_goals
       obtain rfl := so_some h
       refine ⟨Lz9, fun L hL => ?_⟩
       have ez9 := ez9 L (by omega)
       try simp only [go_sem, E_44_l1, R_44_l1, ir58_k0, ir58_o0, ir58_r0, E_44_l2, R_44_l2, ir58_k0, ir58_o0, ir58_r0, gz1, z1, z2, z3, z4, z10, z14] at ez9
       simp only [go_sem, ir58, E_44_l1, R_44_l1, ir58_k0, ir58_o0, ir58_r0, E_44_l2, R_44_l2, ir58_k0, ir58_o0, ir58_r0, gz1, z1, z2, z3, z4, z10, fz13, z14, ez9]
    ·dsimp only at h
     obtain rfl := so_some h
     refine ⟨Lz9, fun L hL => ?_⟩
     have ez9 := ez9 L (by omega)
     try simp only [go_sem, E_44_l1, R_44_l1, ir58_k0, ir58_o0, ir58_r0, E_44_l2, R_44_l2, ir58_k0, ir58_o0, ir58_r0, gz1, z1, z2, z3, z4] at ez9
     simp only [go_sem, ir58, E_44_l1, R_44_l1, ir58_k0, ir58_o0, ir58_r0, E_44_l2, R_44_l2, ir58_k0, ir58_o0, ir58_r0, gz1, z1, z2, z3, z4, ez9]
  ·try simp only [go_sem, n1, n2, n3, n4, gz1, z1] at z2
   all_goals
   rcases it_some h with ⟨z15, h⟩ | ⟨z15, h⟩
   ·try simp only [go_sem, n1, n2, n3, n4, gz1, z1, z2] at z15
    all_goals
    obtain rfl := so_some h
    refine ⟨0, fun L hL => ?_⟩
    simp only [go_sem, ir58, E_44_l1, R_44_l1, ir58_k0, ir58_o0, ir58_r0, E_44_l2, R_44_l2, ir58_k0, ir58_o0, ir58_r0, gz1, z1, z2, z15]
   ·try simp only [go_sem, n1, n2, n3, n4, gz1, z1, z2] at z15
    all_goals
    obtain ⟨y_20, z20, h⟩ := bd_some h
    obtain ⟨Lz20, ez20⟩ := spec_l01Number_l2_ex z20
    rcases y_20 with y_20a | y_20b
    ·dsimp only at h
     rcases it_some h with ⟨z21, h⟩ | ⟨z21, h⟩
     ·try simp only [go_sem, n1, n2, n3, n4, gz1, z1, z2, z15] at z21
      all_goals
      obtain ⟨y_22, z22, h⟩ := bd_some h
      have fz22 := Fs_40 z22
      try simp only [go_sem, gz1, z1, z2, z15, z21] at fz22
      rcases it_some h with ⟨z23, h⟩ | ⟨z23, h⟩
      ·try simp only [go_sem, n1, n2, n3, n4, gz1, z1, z2, z15, z21] at z23
       all_goals
       obtain rfl := so_some h
       refine ⟨Lz20, fun L hL => ?_⟩
       have ez20 := ez20 L (by omega)
       try simp only [go_sem, E_44_l1, R_44_l1, ir58_k0, ir58_o0, ir58_r0, E_44_l2, R_44_l2, ir58_k0, ir58_o0, ir58_r0, gz1, z1, z2, z15, z21, z23] at ez20
       simp only [go_sem, ir58, E_44_l1, R_44_l1, ir58_k0, ir58_o0, ir58_r0, E_44_l2, R_44_l2, ir58_k0, ir58_o0, ir58_r0, gz1, z1, z2, z15, z21, fz22, z23, ez20]
      ·try simp only [go_sem, n1, n2, n3, n4, gz1, z1, z2, z15, z21] at z23
       all_goals
       obtain rfl := so_some h
       refine ⟨Lz20, fun L hL => ?_⟩
       have ez20 := ez20 L (by omega)
       try simp only [go_sem, E_44_l1, R_44_l1, ir58_k0, ir58_o0, ir58_r0, E_44_l2, R_44_l2, ir58_k0, ir58_o0, ir58_r0, gz1, z1, z2, z15, z21, z23] at ez20
       simp only [go_sem, ir58, E_44_l1, R_44_l1, ir58_k0, ir58_o0, ir58_r0, E_44_l2, R_44_l2, ir58_k0, ir58_o0, ir58_r0, gz1, z1, z2, z15, z21, fz22, z23, ez20]
     ·try simp only [go_sem, n1, n2, n3, n4, gz1, z1, z2, z15] at z21
      all_goals
      obtain ⟨y_24, z24, h⟩ := bd_some h
      have fz24 := Fs_40 z24
      try simp only [go_sem, gz1, z1, z2, z15, z21] at fz24
      rcases it_some h with ⟨z25, h⟩ | ⟨z25, h⟩
      ·try simp only [go_sem, n1, n2, n3, n4, gz1, z1, z2, z15, z21] at z25
       all_goals
       obtain rfl := so_some h
       refine ⟨Lz20, fun L hL => ?_⟩
       have ez20 := ez20 L (by omega)
       try simp only [go_sem, E_44_l1, R_44_l1, ir58_k0, ir58_o0, ir58_r0, E_44_l2, R_44_l2, ir58_k0, ir58_o0, ir58_r0, gz1, z1, z2, z15, z21, z25] at ez20
       simp only [go_sem, ir58, E_44_l1, R_44_l1, ir58_k0, ir58_o0, ir58_r0, E_44_l2, R_44_l2, ir58_k0, ir58_o0, ir58_r0, gz1, z1, z2, z15, z21, fz24, z25, ez20]
      ·try simp only [go_sem, n1, n2, n3, n4, gz1, z1, z2, z15, z21] at z25
       all_goals
       obtain rfl := so_some h
       refine ⟨Lz20, fun L hL => ?_⟩
       have ez20 := ez20 L (by omega)
       try simp only [go_sem, E_44_l1, R_44_l1, ir58_k0, ir58_o0, ir58_r0, E_44_l2, R_44_l2, ir58_k0, ir58_o0, ir58_r0, gz1, z1, z2, z15, z21, z25] at ez20
       simp only [go_sem, ir58, E_44_l1, R_44_l1, ir58_k0, ir58_o0, ir58_r0, E_44_l2, R_44_l2, ir58_k0, ir58_o0, ir58_r0, gz1, z1, z2, z15, z21, fz24, z25, ez20]
    ·dsimp only at h
     obtain rfl := so_some h
     refine ⟨Lz20, fun L hL => ?_⟩
     have ez20 := ez20 L (by omega)
     try simp only [go_sem, E_44_l1, R_44_l1, ir58_k0, ir58_o0, ir58_r0, E_44_l2, R_44_l2, ir58_k0, ir58_o0, ir58_r0, gz1, z1, z2, z15] at ez20
     simp only [go_sem, ir58, E_44_l1, R_44_l1, ir58_k0, ir58_o0, ir58_r0, E_44_l2, R_44_l2, ir58_k0, ir58_o0, ir58_r0, gz1, z1, z2, z15, ez20]
 ·have gz1n := no_f gz1
  try simp only [go_sem, n1, n2, n3, n4] at gz1n
  all_goals
  rcases it_some h with ⟨z2, h⟩ | ⟨z2, h⟩
  ·try simp only [go_sem, n1, n2, n3, n4, gz1n] at z2
   all_goals
   (simp_all)
  ·try simp only [go_sem, n1, n2, n3, n4, gz1n] at z2
   all_goals
   rcases it_some h with ⟨z15, h⟩ | ⟨z15, h⟩
   ·try simp only [go_sem, n1, n2, n3, n4, gz1n, z2] at z15
    all_goals
    obtain rfl := so_some h
    refine ⟨0, fun L hL => ?_⟩
    simp only [go_sem, ir58, E_44_l1, R_44_l1, ir58_k0, ir58_o0, ir58_r0, E_44_l2, R_44_l2, ir58_k0, ir58_o0, ir58_r0, gz1n, z2, z15]
   ·try simp only [go_sem, n1, n2, n3, n4, gz1n, z2] at z15
    all_goals
    obtain ⟨y_20, z20, h⟩ := bd_some h
    obtain ⟨Lz20, ez20⟩ := spec_l01Number_l2_ex z20
    rcases y_20 with y_20a | y_20b
    ·dsimp only at h
     rcases it_some h with ⟨z21, h⟩ | ⟨z21, h⟩
     ·try simp only [go_sem, n1, n2, n3, n4, gz1n, z2, z15] at z21
      all_goals
      obtain ⟨y_22, z22, h⟩ := bd_some h
      have fz22 := Fs_40 z22
      try simp only [go_sem, gz1n, z2, z15, z21] at fz22
      rcases it_some h with ⟨z23, h⟩ | ⟨z23, h⟩
      ·try simp only [go_sem, n1, n2, n3, n4, gz1n, z2, z15, z21] at z23
       all_goals
       obtain rfl := so_some h
       refine ⟨Lz20, fun L hL => ?_⟩
       have ez20 := ez20 L (by omega)
       try simp only [go_sem, E_44_l1, R_44_l1, ir58_k0, ir58_o0, ir58_r0, E_44_l2, R_44_l2, ir58_k0, ir58_o0, ir58_r0, gz1n, z2, z15, z21, z23] at ez20
       simp only [go_sem, ir58, E_44_l1, R_44_l1, ir58_k0, ir58_o0, ir58_r0, E_44_l2, R_44_l2, ir58_k0, ir58_o0, ir58_r0, gz1n, z2, z15, z21, fz22, z23, ez20]
      ·try simp only [go_sem, n1, n2, n3, n4, gz1n, z2, z15, z21] at z23
       all_goals
       obtain rfl := so_some h
       refine ⟨Lz20, fun L hL => ?_⟩
       have ez20 := ez20 L (by omega)
       try simp only [go_sem, E_44_l1, R_44_l1, ir58_k0, ir58_o0, ir58_r0, E_44_l2, R_44_l2, ir58_k0, ir58_o0, ir58_r0, gz1n, z2, z15, z21, z23] at ez20
       simp only [go_sem, ir58, E_44_l1, R_44_l1, ir58_k0, ir58_o0, ir58_r0, E_44_l2, R_44_l2, ir58_k0, ir58_o0, ir58_r0, gz1n, z2, z15, z21, fz22, z23, ez20]
     ·try simp only [go_sem, n1, n2, n3, n4, gz1n, z2, z15] at z21
      all_goals
      obtain ⟨y_24, z24, h⟩ := bd_some h
      have fz24 := Fs_40 z24
      try simp only [go_sem, gz1n, z2, z15, z21] at fz24
      rcases it_some h with ⟨z25, h⟩ | ⟨z25, h⟩
      ·try simp only [go_sem, n1, n2, n3, n4, gz1n, z2, z15, z21] at z25
       all_goals
       obtain rfl := so_some h
       refine ⟨Lz20, fun L hL => ?_⟩
       have ez20 := ez20 L (by omega)
       try simp only [go_sem, E_44_l1, R_44_l1, ir58_k0, ir58_o0, ir58_r0, E_44_l2, R_44_l2, ir58_k0, ir58_o0, ir58_r0, gz1n, z2, z15, z21, z25] at ez20
       simp only [go_sem, ir58, E_44_l1, R_44_l1, ir58_k0, ir58_o0, ir58_r0, E_44_l2, R_44_l2, ir58_k0, ir58_o0, ir58_r0, gz1n, z2, z15, z21, fz24, z25, ez20]
      ·try simp only [go_sem, n1, n2, n3, n4, gz1n, z2, z15, z21] at z25
       all_goals
       obtain rfl := so_some h
       refine ⟨Lz20, fun L hL => ?_⟩
       have ez20 := ez20 L (by omega)
       try simp only [go_sem, E_44_l1, R_44_l1, ir58_k0, ir58_o0, ir58_r0, E_44_l2, R_44_l2, ir58_k0, ir58_o0, ir58_r0, gz1n, z2, z15, z21, z25] at ez20
       simp only [go_sem, ir58, E_44_l1, R_44_l1, ir58_k0, ir58_o0, ir58_r0, E_44_l2, R_44_l2, ir58_k0, ir58_o0, ir58_r0, gz1n, z2, z15, z21, fz24, z25, ez20]
    ·dsimp only at h
     obtain rfl := so_some h
     refine ⟨Lz20, fun L hL => ?_⟩
     have ez20 := ez20 L (by omega)
     try simp only [go_sem, E_44_l1, R_44_l1, ir58_k0, ir58_o0, ir58_r0, E_44_l2, R_44_l2, ir58_k0, ir58_o0, ir58_r0, gz1n, z2, z15] at ez20
     simp only [go_sem, ir58, E_44_l1, R_44_l1, ir58_k0, ir58_o0, ir58_r0, E_44_l2, R_44_l2, ir58_k0, ir58_o0, ir58_r0, gz1n, z2, z15, ez20]


def ir59_v : List Nat := [0, 2]
def ir59 : AFn := ⟨1, 2, .seq (.region false [ VO 1 2 (.mov (I6 0))]) (.seq (.test false [ PM 3 0, PO 4 (.nilck (.s 0)), PO 5 (.fldAddr 3 (.s 0)), PO 6 (.load false 1 (.s 0)), PO 7 (.len false (.s 0)), PO 8 (.bin false .eql (.s 0) (I6 0))] (.s 0) (.seq (.region false [ VO 1 2 (.mov (I6 0))]) (.ret)) (.skip)) (.seq (.anyo 13 [ SO 0 9 (.mov (.v 0)), SO 1 10 (.nilck (.s 0)), SO 2 11 (.fldAddr 3 (.s 1)), SO 3 12 (.load false 1 (.s 2)), SO 4 13 (.mov (.v 0)), SO 5 14 (.nilck (.s 4)), SO 6 15 (.fldAddr 3 (.s 5)), SO 7 16 (.load false 1 (.s 6)), SO 8 17 (.len false (.s 7)), SO 9 18 (.bin false .sub
 (.s 8) (I6 1)), SO 10 19 (.ixAddr 3 (.s 3) (.s 9)), SO 11 20 (.fldAddr 0 (.s 10)), SO 12 21 (.load false 1 (.s 11)), VS 1 2 12] [] .skip) (.ret))), [.t 1]⟩
noncomputable def t_spec_l27R_day : List (Nat × Ctr) := []
noncomputable def c_spec_l27R_day : Ctr := mkF t_spec_l27R_day ir59 [.bor]
theorem s_spec_l27R_day : Sound Tryz.prog 59 c_spec_l27R_day := mkF_sound _ rfl snd_nil (by kernel_rfl : chkFn Tryz.prog 59 ir59 ir59_v = true)
theorem M_spec_l27R_day : c_spec_l27R_day.modes = [.bor] := rfl
theorem Fl_spec_l27R_day : c_spec_l27R_day.flat = true := rfl
attribute [go_sem] M_spec_l27R_day Fl_spec_l27R_day
theorem Fs_spec_l27R_day {r : L27R} {y_ : Int} (h : spec_l27R_day r = some y_) : c_spec_l27R_day.F [.ptr 4 [L27R_av r] 0 0] = ⟨true, .int .i64 y_, [.any]⟩ := by
 refine mkF_E rfl ?_
 dsimp only [spec_l27R_day] at h
 rcases it_some h with ⟨z1, h⟩ | ⟨z1, h⟩
 ·try simp only [go_sem, n1, n2, n3, n4] at z1
  all_goals
  obtain rfl := so_some h
  refine ⟨0, fun L hL => ?_⟩
  simp only [go_sem, ir59, z1]
 ·try simp only [go_sem, n1, n2, n3, n4] at z1
  all_goals
  obtain ⟨z2, h⟩ := ck_some h
  have lz2 := ix_lt z2
  have xz2 := getD_mapD Entry_av r.list_ lz2
  try simp only [go_sem] at lz2
  try simp only [go_sem] at xz2
  try simp only [go_sem, n1, n2, n3, n4, z1] at z2
  all_goals
  obtain rfl := so_some h
  refine ⟨0, fun L hL => ?_⟩
  simp only [go_sem, ir59, z1, z2, lz2, xz2]


section
variable (PINV : Value)
def ir49_b0 : IR := .seq (.test false [ PM 15 2, PM 16 0, PO 17 (.nilck (.s 0)), PO 18 (.fldAddr 0 (.s 0)), PO 19 (.load false 1 (.s 0)), PO 20 (.len true (.s 0)), PO 21 (.bin false .lss (.s 5) (.s 0)), PO 22 (.mov (.s 0)), ⟨.push, 23, (some ((.s 0), true)), .mov (.v 0)⟩, ⟨.push, 24, (some ((.s 1), true)), .nilck (.s 0)⟩, ⟨.push, 25, (some ((.s 2), true)), .fldAddr 0 (.s 0)⟩, ⟨.push, 26, (some ((.s 3), true)), .load false 1 (.s 0)⟩, ⟨.push, 27, (some ((.s 4), true)), .mov (.v 2)⟩, ⟨.push, 28, (some ((.s 5), true)), .ixStr (.s 1) (.s 0)⟩, ⟨.push, 29, (some ((.s 6), true)), .bin false .neq (.s 0)
 (.c (.int .u8 (10)))⟩, PO 30 (.pick (.s 7) (.s 0) (.c (.bool false)))] (.s 0) (.skip) (.exit 0)) (.block 1 (.region false [ PM 31 2, PO 32 (.bin false .add (.s 0) (I6 1)), VS 2 3 0]))
def ir49_k0 : List Bool := [true, true, true, false, false, false, false, false, true, true, true]
def ir49_o0 : List Bool := [true, true, true, false, false, false, false, false, true, true, true]
def ir49_r0 : List Bool := [false, true, true, false, false, false, false, false, true, true, true]
def ir49_v : List Nat := [0, 2, 3, 4, 5, 6, 7, 8, 9, 10, 0]
def ir49 : AFn := ⟨1, 11, .seq (.region false [ VO 1 2 (.mov (.c (.bool false)))]) (.seq (.region false [ PM 11 0, PO 12 (.nilck (.s 0)), PO 13 (.fldAddr 1 (.s 0)), PO 14 (.load false 1 (.s 0)), VS 2 3 0]) (.seq (.block 0 (.loop ir49_k0 ir49_o0 ir49_r0 ir49_b0)) (.seq (.test false [ PM 33 2, PM 34 0, PO 35 (.nilck (.s 0)), PO 36 (.fldAddr 0 (.s 0)), PO 37 (.load false 1 (.s 0)), PO 38 (.len true (.s 0)), PO 39 (.bin false .geq (.s 5) (.s 0))] (.s 0) (.seq (.region false [ VO 1 2 (.mov (.c (.bool false)))]) (.ret)) (.skip)) (.seq (.anyo 11 [ SO 0 40 (.mov (.v 0)), SO 1 41 (.nilck (.s 0)), SO 2
 42 (.fldAddr 0 (.s 1)), SO 3 43 (.load false 1 (.s 2)), SO 4 44 (.mov (.v 0)), SO 5 45 (.nilck (.s 4)), SO 6 46 (.fldAddr 1 (.s 5)), SO 7 47 (.load false 1 (.s 6)), SO 8 48 (.mov (.v 2)), SO 9 49 (.pur (.slice 0 (.s 3) (some (.s 7)) (some (.s 8)))), SO 10 50 (.pur (.call 57 [(.s 9), (.c (.int .u8 (32)))])), VS 3 4 10] [] .skip) (.seq (.test false [ PM 51 3, PO 52 (.len false (.s 0)), PO 53 (.bin false .neq (.s 0) (I6 4))] (.s 0) (.seq (.region false [ VO 1 2 (.mov (.c (.bool false)))]) (.ret)) (.skip)) (.seq (.region false [ PM 55 3, PO 56 (.ixAddr 1 (.s 0) (I6 0)), PO 57 (.load false 1 (.s
 0)), PO 58 (.call 58 [(.s 0)]), PO 54 (.mov (.s 0)), PO 59 (.ext (.s 0) 0), PO 60 (.ext (.s 1) 1), VS 4 5 1, VS 5 6 0]) (.seq (.region false [ PM 62 3, PO 63 (.ixAddr 1 (.s 0) (I6 2)), PO 64 (.load false 1 (.s 0)), PO 65 (.call 58 [(.s 0)]), PO 61 (.mov (.s 0)), PO 66 (.ext (.s 0) 0), PO 67 (.ext (.s 1) 1), VS 6 7 1, VS 7 8 0]) (.seq (.region false [ PM 68 4, PM 69 3, PO 70 (.ixAddr 1 (.s 0) (I6 1)), PO 71 (.load false 1 (.s 0)), PM 72 6, PO 73 (.build [.int .i64 (0), .str [], .int .i64 (0)] [(0, 1, (.s 4)), (1, 1, (.s 1)), (2, 1, (.s 0))]), VO 8 9 (.alloc (.agg [.int .i64 (0), .str [], .int
 .i64 (0)])), ⟨.no, 0, none, .store 3 (.v 8) (.s 0)⟩]) (.seq (.anyo 17 [ SO 0 74 (.mov (.v 5)), SO 1 75 (.un .not (.s 0)), SO 2 76 (.mov (.s 1)), ⟨.slot 3, 77, (some ((.s 2), false)), .mov (.v 7)⟩, ⟨.slot 4, 78, (some ((.s 2), false)), .un .not (.s 3)⟩, SO 5 79 (.pick (.s 2) (.c (.bool true)) (.s 4)), SO 6 80 (.mov (.s 5)), ⟨.slot 7, 81, (some ((.s 6), false)), .call 28 [(.v 8)]⟩, ⟨.slot 8, 82, (some ((.s 6), false)), .un .not (.s 7)⟩, SO 9 83 (.pick (.s 6) (.c (.bool true)) (.s 8)), SO 10 84 (.mov (.s 9)), ⟨.slot 11, 85, (some ((.s 10), false)), .fldAddr 0 (.v 8)⟩, ⟨.slot 12, 86, (some ((.s
 10), false)), .load false 1 (.s 11)⟩, ⟨.slot 13, 87, (some ((.s 10), false)), .mov (.v 0)⟩, ⟨.slot 14, 88, (some ((.s 10), false)), .call 59 [(.s 13)]⟩, ⟨.slot 15, 89, (some ((.s 10), false)), .bin false .lss (.s 12) (.s 14)⟩, SO 16 90 (.pick (.s 10) (.c (.bool true)) (.s 15))] [] (.cond (.s 16) (.seq (.region false [ VO 1 2 (.mov (.c (.bool false)))]) (.ret)) (.skip))) (.seq (.anyo 6 [ SO 0 91 (.mov (.v 0)), SO 1 92 (.nilck (.s 0)), SO 2 93 (.fldAddr 2 (.s 1)), SO 3 94 (.load false 1 (.s 2)), SO 4 95 (.callp 61 [(.v 8)]), SO 5 96 (.callp 60 [(.s 3), (.s 4)]), VS 9 10 5] [] .skip) (.seq (.anyo
 14 [ SO 0 97 (.mov (.v 9)), SO 1 98 (.callp 62 [(.s 0), (.v 8)]), SO 2 99 (.mov (.v 0)), SO 3 100 (.nilck (.s 2)), SO 4 101 (.fldAddr 0 (.s 3)), SO 5 102 (.load false 1 (.s 4)), SO 6 103 (.mov (.v 0)), SO 7 104 (.nilck (.s 6)), SO 8 105 (.fldAddr 1 (.s 7)), SO 9 106 (.load false 1 (.s 8)), SO 10 107 (.mov (.v 2)), SO 11 108 (.bin false .add (.s 10) (I6 1)), SO 12 109 (.pur (.slice 0 (.s 5) (some (.s 9)) (some (.s 11)))), SO 13 110 (.bin false .neq (.s 1) (.s 12))] [] (.cond (.s 13) (.seq (.region false [ VO 1 2 (.mov (.c (.bool false)))]) (.ret)) (.skip))) (.skip)))))))))))), [.t 1, .t 2, .t
 8, .t 9]⟩
noncomputable def t_spec_l27R_lineA : List (Nat × Ctr) := [(57, c_39), (58, c_44), (28, c_12), (59, c_spec_l27R_day), (61, c_41), (60, c_42), (62, c_43)]
theorem lk_spec_l27R_lineA_57 : look t_spec_l27R_lineA 57 = some c_39 := rfl
theorem lk_spec_l27R_lineA_58 : look t_spec_l27R_lineA 58 = some c_44 := rfl
theorem lk_spec_l27R_lineA_28 : look t_spec_l27R_lineA 28 = some c_12 := rfl
theorem lk_spec_l27R_lineA_59 : look t_spec_l27R_lineA 59 = some c_spec_l27R_day := rfl
theorem lk_spec_l27R_lineA_61 : look t_spec_l27R_lineA 61 = some c_41 := rfl
theorem lk_spec_l27R_lineA_60 : look t_spec_l27R_lineA 60 = some c_42 := rfl
theorem lk_spec_l27R_lineA_62 : look t_spec_l27R_lineA 62 = some c_43 := rfl
attribute [go_sem] lk_spec_l27R_lineA_57 lk_spec_l27R_lineA_58 lk_spec_l27R_lineA_28 lk_spec_l27R_lineA_59 lk_spec_l27R_lineA_61 lk_spec_l27R_lineA_60 lk_spec_l27R_lineA_62
def E_spec_l27R_lineA_l1 (r : L27R) (t2 : Bool) : Int → St
 | end_ => ⟨[.ptr 4 [L27R_av r] 0 0, .bool t2, .int .i64 end_, .any, .any, .any, .any, .any, .any, .any, .cv PINV], [], [], true⟩
def R_spec_l27R_lineA_l1 (r : L27R) (t2 : Bool) (y : Int) : Res := (.exit 0, ⟨[.ptr 4 [L27R_av r] 0 0, .bool t2, .int .i64 y, .any, .any, .any, .any, .any, .any, .any, .cv PINV], [], [], true⟩)
set_option maxHeartbeats 64000000 in
theorem spec_l27R_lineA_l1_ex {r : L27R} {t2 : Bool} {sgm_ : Int} {rho_ : Int} (h : whileE (spec_l27R_lineA_l1 r t2) sgm_ = some rho_) : ∃ L0, ∀ L, L0 ≤ L → iter (exec (look t_spec_l27R_lineA) L ir49_b0) ir49_k0 ir49_o0 ir49_r0 L (E_spec_l27R_lineA_l1 PINV r t2 sgm_) = R_spec_l27R_lineA_l1 PINV r t2 rho_ := by
 refine loop_ex (E := E_spec_l27R_lineA_l1 PINV r t2) (R := R_spec_l27R_lineA_l1 PINV r t2) (fun y => by first | (intro c; cases c) | (rcases y with y | y <;> (intro c; cases c)) | (rcases y with y | y | y <;> (intro c; cases c))) ?_ h
 clear h
 intro end_ o_ h
 dsimp only [spec_l27R_lineA_l1] at h
 obtain ⟨z1, h⟩ := ck_some h
 rcases or_split z1 with ⟨gz1, z1⟩ | gz1
 ·try simp only [go_sem, n1, n2, n3, n4] at gz1
  all_goals
  try simp only [go_sem, n1, n2, n3, n4, gz1] at z1
  all_goals
  rcases it_some h with ⟨z2, h⟩ | ⟨z2, h⟩
  ·try simp only [go_sem, n1, n2, n3, n4, gz1, z1] at z2
   all_goals
   obtain rfl := so_some h
   refine ⟨0, fun L hL => ?_⟩
   simp only [go_sem, ir49, E_spec_l27R_lineA_l1, R_spec_l27R_lineA_l1, ir49_b0, ir49_k0, ir49_o0, ir49_r0, gz1, z1, z2]
  ·try simp only [go_sem, n1, n2, n3, n4, gz1, z1] at z2
   all_goals
   obtain rfl := so_some h
   refine ⟨0, fun L hL => ?_⟩
   simp only [go_sem, ir49, E_spec_l27R_lineA_l1, R_spec_l27R_lineA_l1, ir49_b0, ir49_k0, ir49_o0, ir49_r0, gz1, z1, z2]
 ·try simp only [go_sem, n1, n2, n3, n4] at gz1
  all_goals
  rcases it_some h with ⟨z2, h⟩ | ⟨z2, h⟩
  ·try simp only [go_sem, n1, n2, n3, n4, gz1] at z2
   all_goals
   (simp_all)
  ·try simp only [go_sem, n1, n2, n3, n4, gz1] at z2
   all_goals
   obtain rfl := so_some h
   refine ⟨0, fun L hL => ?_⟩
   simp only [go_sem, ir49, E_spec_l27R_lineA_l1, R_spec_l27R_lineA_l1, ir49_b0, ir49_k0, ir49_o0, ir49_r0, gz1, z2]

def CutEnd (q : Res) (y : Option (Int × Int × Entry)) : Prop := match y with
 | none => q.1 = .ret ∧ (q.2.ok = true ∧ q.2.vs.getD 1 .any = .bool false)
 | some p => q.1 = .norm ∧ (q.2.ok = true ∧ (q.2.vs.getD 2 .any = .int .i64 p.1 ∧ (q.2.vs.getD 9 .any = .int .i64 p.2.1 ∧ q.2.vs.getD 10 .any = .cv PINV ∧ ∃ k, q.2.vs.getD 8 .any = .ref k 0 0 ∧ obGet k q.2.ob = some ⟨3, [Entry_av p.2.2]⟩)))
theorem lineA_pre {r : L27R} {y_ : Option (Int × Int × Entry)} (h : spec_l27R_lineA r = some y_) : ∃ L0, ∀ L, L0 ≤ L → CutEnd PINV (exec (look t_spec_l27R_lineA) L ir49.body ⟨[.ptr 4 [L27R_av r] 0 0, .any, .any, .any, .any, .any, .any, .any, .any, .any, .cv PINV], [], [], true⟩) y_ := by
 dsimp only [spec_l27R_lineA] at h
 obtain ⟨y_3, z3, h⟩ := bd_some h
 obtain ⟨Lz3, ez3⟩ := spec_l27R_lineA_l1_ex PINV z3
 rcases it_some h with ⟨z4, h⟩ | ⟨z4, h⟩
 ·try simp only [go_sem, n1, n2, n3, n4] at z4
  all_goals
  obtain rfl := so_some h
  refine ⟨Lz3, fun L hL => ?_⟩
  have ez3 := ez3 L (by omega)
  try simp only [go_sem, E_spec_l27R_lineA_l1, R_spec_l27R_lineA_l1, ir49_k0, ir49_o0, ir49_r0, z4] at ez3
  simp only [go_sem, ir49, E_spec_l27R_lineA_l1, R_spec_l27R_lineA_l1, ir49_k0, ir49_o0, ir49_r0, z4, ez3]
  exact ⟨rfl, rfl, rfl⟩
 ·try simp only [go_sem, n1, n2, n3, n4] at z4
  all_goals
  obtain ⟨z5, h⟩ := ck_some h
  try simp only [go_sem, n1, n2, n3, n4, z4] at z5
  all_goals
  obtain ⟨y_6, z6, h⟩ := bd_some h
  have fz6 := Fs_39 z6
  try simp only [go_sem, z4, z5] at fz6
  rcases it_some h with ⟨z7, h⟩ | ⟨z7, h⟩
  ·try simp only [go_sem, n1, n2, n3, n4, z4, z5] at z7
   all_goals
   obtain rfl := so_some h
   refine ⟨Lz3, fun L hL => ?_⟩
   have ez3 := ez3 L (by omega)
   try simp only [go_sem, E_spec_l27R_lineA_l1, R_spec_l27R_lineA_l1, ir49_k0, ir49_o0, ir49_r0, z4, z5, z7] at ez3
   simp only [go_sem, ir49, E_spec_l27R_lineA_l1, R_spec_l27R_lineA_l1, ir49_k0, ir49_o0, ir49_r0, z4, z5, fz6, z7, ez3]
   exact ⟨rfl, rfl, rfl⟩
  ·try simp only [go_sem, n1, n2, n3, n4, z4, z5] at z7
   all_goals
   obtain ⟨z8, h⟩ := ck_some h
   have lz8 := ix_lt z8
   have xz8 := getD_mapD AV.str y_6 lz8
   try simp only [go_sem] at lz8
   try simp only [go_sem] at xz8
   try simp only [go_sem, n1, n2, n3, n4, z4, z5, z7] at z8
   all_goals
   obtain ⟨y_9, z9, h⟩ := bd_some h
   have fz9 := Fs_44 z9
   try simp only [go_sem, z4, z5, z7, z8] at fz9
   obtain ⟨z10, h⟩ := ck_some h
   have lz10 := ix_lt z10
   have xz10 := getD_mapD AV.str y_6 lz10
   try simp only [go_sem] at lz10
   try simp only [go_sem] at xz10
   try simp only [go_sem, n1, n2, n3, n4, z4, z5, z7, z8] at z10
   all_goals
   obtain ⟨y_11, z11, h⟩ := bd_some h
   have fz11 := Fs_44 z11
   try simp only [go_sem, z4, z5, z7, z8, z10] at fz11
   obtain ⟨z12, h⟩ := ck_some h
   have lz12 := ix_lt z12
   have xz12 := getD_mapD AV.str y_6 lz12
   try simp only [go_sem] at lz12
   try simp only [go_sem] at xz12
   try simp only [go_sem, n1, n2, n3, n4, z4, z5, z7, z8, z10] at z12
   all_goals
   obtain ⟨z13, h⟩ := ck_some h
   rcases or_split z13 with ⟨gz13, z13⟩ | gz13
   ·try simp only [go_sem, n1, n2, n3, n4, z4, z5, z7, z8, z10, z12] at gz13
    all_goals
    obtain ⟨y_13, hz13⟩ := Option.isSome_iff_exists.1 z13
    have fz13 := Fs_12 hz13
    try simp only [go_sem, n1, n2, n3, n4, z4, z5, z7, z8, z10, z12, gz13] at hz13
    all_goals
    try simp only [go_sem, z4, z5, z7, z8, z10, z12, gz13] at fz13
    obtain ⟨z14, h⟩ := ck_some h
    rcases or_split z14 with ⟨gz14, z14⟩ | gz14
    ·try simp only [go_sem, n1, n2, n3, n4, z4, z5, z7, z8, z10, z12, gz13, hz13] at gz14
     all_goals
     obtain ⟨y_14, hz14⟩ := Option.isSome_iff_exists.1 z14
     have fz14 := Fs_spec_l27R_day hz14
     try simp only [go_sem, n1, n2, n3, n4, z4, z5, z7, z8, z10, z12, gz13, hz13, gz14] at hz14
     all_goals
     try simp only [go_sem, z4, z5, z7, z8, z10, z12, gz13, hz13, gz14] at fz14
     rcases it_some h with ⟨z15, h⟩ | ⟨z15, h⟩
     ·try simp only [go_sem, n1, n2, n3, n4, z4, z5, z7, z8, z10, z12, gz13, hz13, gz14, hz14] at z15
      all_goals
      obtain rfl := so_some h
      refine ⟨Lz3, fun L hL => ?_⟩
      have ez3 := ez3 L (by omega)
      try simp only [go_sem, E_spec_l27R_lineA_l1, R_spec_l27R_lineA_l1, ir49_k0, ir49_o0, ir49_r0, z4, z5, z7, z8, z10, z12, gz13, hz13, gz14, hz14, z15] at ez3
      simp only [go_sem, ir49, E_spec_l27R_lineA_l1, R_spec_l27R_lineA_l1, ir49_k0, ir49_o0, ir49_r0, z4, z5, fz6, z7, z8, lz8, xz8, fz9, z10, lz10, xz10, fz11, z12, lz12, xz12, gz13, hz13, fz13, gz14, hz14, fz14, z15, ez3]
      exact ⟨rfl, rfl, rfl⟩
     ·try simp only [go_sem, n1, n2, n3, n4, z4, z5, z7, z8, z10, z12, gz13, hz13, gz14, hz14] at z15
      all_goals
      obtain ⟨y_16, z16, h⟩ := bd_some h
      have fz16 := Fs_41 z16
      try simp only [go_sem, z4, z5, z7, z8, z10, z12, gz13, hz13, gz14, hz14, z15] at fz16
      obtain ⟨y_17, z17, h⟩ := bd_some h
      have fz17 := Fs_42 z17
      try simp only [go_sem, z4, z5, z7, z8, z10, z12, gz13, hz13, gz14, hz14, z15] at fz17
      obtain ⟨y_18, z18, h⟩ := bd_some h
      have fz18 := Fs_43 z18
      try simp only [go_sem, z4, z5, z7, z8, z10, z12, gz13, hz13, gz14, hz14, z15] at fz18
      obtain ⟨z19, h⟩ := ck_some h
      try simp only [go_sem, n1, n2, n3, n4, z4, z5, z7, z8, z10, z12, gz13, hz13, gz14, hz14, z15] at z19
      all_goals
      rcases it_some h with ⟨z20, h⟩ | ⟨z20, h⟩
      ·try simp only [go_sem, n1, n2, n3, n4, z4, z5, z7, z8, z10, z12, gz13, hz13, gz14, hz14, z15, z19] at z20
       all_goals
       obtain rfl := so_some h
       refine ⟨Lz3, fun L hL => ?_⟩
       have ez3 := ez3 L (by omega)
       try simp only [go_sem, E_spec_l27R_lineA_l1, R_spec_l27R_lineA_l1, ir49_k0, ir49_o0, ir49_r0, z4, z5, z7, z8, z10, z12, gz13, hz13, gz14, hz14, z15, z19, z20] at ez3
       simp only [go_sem, ir49, E_spec_l27R_lineA_l1, R_spec_l27R_lineA_l1, ir49_k0, ir49_o0, ir49_r0, z4, z5, fz6, z7, z8, lz8, xz8, fz9, z10, lz10, xz10, fz11, z12, lz12, xz12, gz13, hz13, fz13, gz14, hz14, fz14, z15, fz16, fz17, fz18, z19, z20, ez3]
       exact ⟨rfl, rfl, rfl⟩
      ·try simp only [go_sem, n1, n2, n3, n4, z4, z5, z7, z8, z10, z12, gz13, hz13, gz14, hz14, z15, z19] at z20
       all_goals
       obtain rfl := so_some h
       refine ⟨Lz3, fun L hL => ?_⟩
       have ez3 := ez3 L (by omega)
       try simp only [go_sem, E_spec_l27R_lineA_l1, R_spec_l27R_lineA_l1, ir49_k0, ir49_o0, ir49_r0, z4, z5, z7, z8, z10, z12, gz13, hz13, gz14, hz14, z15, z19, z20] at ez3
       simp only [go_sem, ir49, E_spec_l27R_lineA_l1, R_spec_l27R_lineA_l1, ir49_k0, ir49_o0, ir49_r0, z4, z5, fz6, z7, z8, lz8, xz8, fz9, z10, lz10, xz10, fz11, z12, lz12, xz12, gz13, hz13, fz13, gz14, hz14, fz14, z15, fz16, fz17, fz18, z19, z20, ez3]
       exact ⟨rfl, rfl, rfl, rfl, rfl, _, rfl, rfl⟩
    ·have gz14n := no_f gz14
     rcases or_t gz14n with gz14na | ⟨gz14na, gz14nb⟩
     ·try simp only [go_sem, n1, n2, n3, n4, z4, z5, z7, z8, z10, z12, gz13, hz13] at gz14na
      all_goals
      (simp_all)
     ·obtain ⟨gz14naa, gz14nab⟩ := or_f gz14na
      have gz14naan := no_f gz14naa
      have gz14nabn := no_f gz14nab
      have gz14nbn := no_t gz14nb
      try simp only [go_sem, n1, n2, n3, n4, z4, z5, z7, z8, z10, z12, gz13, hz13] at gz14naan
      all_goals
      try simp only [go_sem, n1, n2, n3, n4, z4, z5, z7, z8, z10, z12, gz13, hz13, gz14naan] at gz14nabn
      all_goals
      try simp only [go_sem, n1, n2, n3, n4, z4, z5, z7, z8, z10, z12, gz13, hz13, gz14naan, gz14nabn] at gz14nbn
      all_goals
      rcases it_some h with ⟨z15, h⟩ | ⟨z15, h⟩
      ·try simp only [go_sem, n1, n2, n3, n4, z4, z5, z7, z8, z10, z12, gz13, hz13, gz14naan, gz14nabn, gz14nbn] at z15
       all_goals
       obtain rfl := so_some h
       refine ⟨Lz3, fun L hL => ?_⟩
       have ez3 := ez3 L (by omega)
       try simp only [go_sem, E_spec_l27R_lineA_l1, R_spec_l27R_lineA_l1, ir49_k0, ir49_o0, ir49_r0, z4, z5, z7, z8, z10, z12, gz13, hz13, gz14naan, gz14nabn, gz14nbn, z15] at ez3
       simp only [go_sem, ir49, E_spec_l27R_lineA_l1, R_spec_l27R_lineA_l1, ir49_k0, ir49_o0, ir49_r0, z4, z5, fz6, z7, z8, lz8, xz8, fz9, z10, lz10, xz10, fz11, z12, lz12, xz12, gz13, hz13, fz13, gz14naan, gz14nabn, gz14nbn, z15, ez3]
       exact ⟨rfl, rfl, rfl⟩
      ·try simp only [go_sem, n1, n2, n3, n4, z4, z5, z7, z8, z10, z12, gz13, hz13, gz14naan, gz14nabn, gz14nbn] at z15
       all_goals
       (simp_all)
   ·have gz13n := no_f gz13
    rcases or_t gz13n with gz13na | ⟨gz13na, gz13nb⟩
    ·have gz13nan := no_t gz13na
     try simp only [go_sem, n1, n2, n3, n4, z4, z5, z7, z8, z10, z12] at gz13nan
     all_goals
     obtain ⟨z14, h⟩ := ck_some h
     rcases it_some h with ⟨z15, h⟩ | ⟨z15, h⟩
     ·try simp only [go_sem, n1, n2, n3, n4, z4, z5, z7, z8, z10, z12, gz13nan] at z15
      all_goals
      obtain rfl := so_some h
      refine ⟨Lz3, fun L hL => ?_⟩
      have ez3 := ez3 L (by omega)
      try simp only [go_sem, E_spec_l27R_lineA_l1, R_spec_l27R_lineA_l1, ir49_k0, ir49_o0, ir49_r0, z4, z5, z7, z8, z10, z12, gz13nan, z15] at ez3
      simp only [go_sem, ir49, E_spec_l27R_lineA_l1, R_spec_l27R_lineA_l1, ir49_k0, ir49_o0, ir49_r0, z4, z5, fz6, z7, z8, lz8, xz8, fz9, z10, lz10, xz10, fz11, z12, lz12, xz12, gz13nan, z15, ez3]
      exact ⟨rfl, rfl, rfl⟩
     ·try simp only [go_sem, n1, n2, n3, n4, z4, z5, z7, z8, z10, z12, gz13nan] at z15
      all_goals
      (simp_all)
    ·have gz13nan := no_f gz13na
     have gz13nbn := no_t gz13nb
     try simp only [go_sem, n1, n2, n3, n4, z4, z5, z7, z8, z10, z12] at gz13nan
     all_goals
     try simp only [go_sem, n1, n2, n3, n4, z4, z5, z7, z8, z10, z12, gz13nan] at gz13nbn
     all_goals
     obtain ⟨z14, h⟩ := ck_some h
     rcases it_some h with ⟨z15, h⟩ | ⟨z15, h⟩
     ·try simp only [go_sem, n1, n2, n3, n4, z4, z5, z7, z8, z10, z12, gz13nan, gz13nbn] at z15
      all_goals
      obtain rfl := so_some h
      refine ⟨Lz3, fun L hL => ?_⟩
      have ez3 := ez3 L (by omega)
      try simp only [go_sem, E_spec_l27R_lineA_l1, R_spec_l27R_lineA_l1, ir49_k0, ir49_o0, ir49_r0, z4, z5, z7, z8, z10, z12, gz13nan, gz13nbn, z15] at ez3
      simp only [go_sem, ir49, E_spec_l27R_lineA_l1, R_spec_l27R_lineA_l1, ir49_k0, ir49_o0, ir49_r0, z4, z5, fz6, z7, z8, lz8, xz8, fz9, z10, lz10, xz10, fz11, z12, lz12, xz12, gz13nan, gz13nbn, z15, ez3]
      exact ⟨rfl, rfl, rfl⟩
     ·try simp only [go_sem, n1, n2, n3, n4, z4, z5, z7, z8, z10, z12, gz13nan, gz13nbn] at z15
      all_goals
      (simp_all)

end

end Go.Proofs.YtlcabohpeopdcaaGreatDoor
