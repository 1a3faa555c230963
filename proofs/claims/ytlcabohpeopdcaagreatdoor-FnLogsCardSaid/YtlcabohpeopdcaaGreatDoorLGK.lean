/- Codes and contracts of the functions that LG reaches, and that their typed forms say what they do. No condition. -/
import Derived.Test.YtlcabohpeopdcaaGreatDoorEngLR
import Derived.Test.YtlcabohpeopdcaaGreatDoorRows
import Derived.WalkKit
namespace Go.Proofs.YtlcabohpeopdcaaGreatDoor
open Go Go.RowKit
set_option linter.unusedVariables false
set_option linter.unusedSimpArgs false
set_option maxRecDepth 10000

def ir25_v : List Nat := [0, 2, 3, 4]
def ir25 : AFn := ⟨1, 4, .seq (.region false [ VO 1 2 (.mov (.c (.cv (.pointer none)))), VO 2 3 (.mov (I6 0))]) (.seq (.test false [ PM 5 0, PO 6 (.len true (.s 0)), PO 7 (.bin false .gtr (.s 0) (I6 4000))] (.s 0) (.seq (.region false [ PO 8 (.build [.str [], .int .i64 (0), .int .i64 (0), .sl 3 []] []), PO 9 (.box (.s 0)), VS 1 2 0, VO 2 3 (.mov (I6 5))]) (.ret)) (.skip)) (.seq (.region false [ PM 10 0, PO 11 (.call 37 [(.s 0)]), VS 3 4 0]) (.seq (.test false [ PM 12 3, PO 13 (.nilck (.s 0)), PO 14 (.fldAddr 1 (.s 0)), PO 15 (.load false 1 (.s 0)), PM 16 0, PO 17 (.len true (.s 0)), PO 18 (.bin
 false .neq (.s 2) (.s 0))] (.s 0) (.seq (.region false [ PM 19 3, VS 1 2 0, VO 2 3 (.mov (I6 8))]) (.ret)) (.skip)) (.seq (.region false [ PM 20 3, VS 1 2 0, VO 2 3 (.mov (I6 0))]) (.ret))))), [.t 1, .t 2]⟩
noncomputable def t_47 : List (Nat × Ctr) := [(37, c_spec_l27Read)]
theorem lk_47_37 : look t_47 37 = some c_spec_l27Read := rfl
noncomputable def c_47 : Ctr := mkN t_47 ir25 [.bor]
theorem s_47 : Sound Tryz.prog 25 c_47 := mkN_sound _ (snd_cons s_spec_l27Read snd_nil) (by kernel_rfl : chkFn Tryz.prog 25 ir25 ir25_v = true)
theorem M_47 : c_47.modes = [.bor] := rfl
theorem Fl_47 : c_47.flat = false := rfl
attribute [go_sem] M_47 Fl_47
attribute [go_sem] lk_47_37
theorem Fs_47 {s_ : List UInt8} {y_ : L27R × Int} (h : spec_l27Code s_ = some y_) : c_47.F [.str s_] = ⟨true, .tup [.mem 4 [L27R_av y_.1] 0, .int .i64 y_.2], [.any]⟩ := by
 refine mkN_E ?_
 dsimp only [spec_l27Code] at h
 rcases it_some h with ⟨z1, h⟩ | ⟨z1, h⟩
 ·try simp only [go_sem, n1, n2, n3, n4] at z1
  all_goals
  obtain rfl := so_some h
  refine ⟨0, fun L hL => ?_⟩
  simp only [go_sem, ir25, z1]
 ·try simp only [go_sem, n1, n2, n3, n4] at z1
  all_goals
  obtain ⟨y_2, z2, h⟩ := bd_some h
  have fz2 := Fs_spec_l27Read z2
  try simp only [go_sem, z1] at fz2
  rcases it_some h with ⟨z3, h⟩ | ⟨z3, h⟩
  ·try simp only [go_sem, n1, n2, n3, n4, z1] at z3
   all_goals
   obtain rfl := so_some h
   refine ⟨0, fun L hL => ?_⟩
   simp only [go_sem, ir25, z1, fz2, z3]
  ·try simp only [go_sem, n1, n2, n3, n4, z1] at z3
   all_goals
   obtain rfl := so_some h
   refine ⟨0, fun L hL => ?_⟩
   simp only [go_sem, ir25, z1, fz2, z3]


def ir12_v : List Nat := [0, 2, 3, 4, 5]
def ir12 : AFn := ⟨1, 5, .seq (.region false [ VO 1 2 (.newnil 3), VO 2 3 (.mov (I6 0))]) (.seq (.region false [ PM 7 0, PO 8 (.call 25 [(.s 0)]), PO 6 (.mov (.s 0)), PO 9 (.ext (.s 0) 0), PO 10 (.ext (.s 1) 1), VS 3 4 1, VS 4 5 0]) (.seq (.test false [ PM 11 4, PO 12 (.bin false .neq (.s 0) (I6 0))] (.s 0) (.seq (.region false [ PM 13 4, VO 1 2 (.newnil 3), VS 2 3 0]) (.ret)) (.skip)) (.seq (.region false [ PM 14 3, PO 15 (.nilck (.s 0)), PO 16 (.fldAddr 3 (.s 0)), PO 17 (.load false 1 (.s 0)), VS 1 2 0, VO 2 3 (.mov (I6 0))]) (.ret)))), [.t 1, .t 2]⟩
noncomputable def t_48 : List (Nat × Ctr) := [(25, c_47)]
theorem lk_48_25 : look t_48 25 = some c_47 := rfl
noncomputable def c_48 : Ctr := mkZ t_48 ir12 [.bor]
theorem s_48 : Sound Tryz.prog 12 c_48 := mkZ_sound _ (snd_cons s_47 snd_nil) (by kernel_rfl : chkFn Tryz.prog 12 ir12 ir12_v = true)
theorem M_48 : c_48.modes = [.bor] := rfl
theorem Fl_48 : c_48.flat = false := rfl
attribute [go_sem] M_48 Fl_48
attribute [go_sem] lk_48_25
theorem Fs_48 {log : List UInt8} {y_ : (List Entry) × Int} (h : spec_EntriesOf log = some y_) : c_48.F [.str log] = ⟨true, .tup [.sl 3 (List.map Entry_av y_.1), .int .i64 y_.2], [.any]⟩ := by
 refine mkZ_E ?_
 dsimp only [spec_EntriesOf] at h
 obtain ⟨y_1, z1, h⟩ := bd_some h
 have fz1 := Fs_47 z1
 try simp only [go_sem] at fz1
 rcases it_some h with ⟨z2, h⟩ | ⟨z2, h⟩
 ·try simp only [go_sem, n1, n2, n3, n4] at z2
  all_goals
  obtain rfl := so_some h
  refine ⟨0, fun L hL => ?_⟩
  simp only [go_sem, ir12, fz1, z2]
 ·try simp only [go_sem, n1, n2, n3, n4] at z2
  all_goals
  obtain rfl := so_some h
  refine ⟨0, fun L hL => ?_⟩
  simp only [go_sem, ir12, fz1, z2]


def ir3_b0 : IR := .seq (.test false [ PM 50 9, PM 51 3, PO 52 (.len false (.s 0)), PO 53 (.bin false .lss (.s 2) (.s 0))] (.s 0) (.skip) (.exit 0)) (.seq (.block 1 (.seq (.anyo 9 [ SO 0 56 (.mov (.v 6)), SO 1 57 (.mov (.v 9)), SO 2 58 (.ixAddr 3 (.s 0) (.s 1)), SO 3 59 (.load true 3 (.s 2)), SO 4 60 (.mov (.v 3)), SO 5 61 (.mov (.v 9)), SO 6 62 (.ixAddr 3 (.s 4) (.s 5)), SO 7 63 (.load true 3 (.s 6)), SO 8 64 (.eqA true [1, 2, 1] (.s 3) (.s 7))] [] (.cond (.s 8) (.seq (.region false [ VO 2 4 (.mov (.c (.bool false)))]) (.ret)) (.skip))) (.seq (.region false [ PM 66 8, PM 67 3, PM 68 9, PO 69
 (.ixAddr 3 (.s 1) (.s 0)), PO 70 (.load true 3 (.s 0)), PO 71 (.call 8 [(.s 4), (.s 0)]), PO 65 (.mov (.s 0)), PO 72 (.ext (.s 0) 0), PO 73 (.ext (.s 1) 1), VS 10 12 1, VS 11 13 0]) (.seq (.test false [ PM 74 11, PO 75 (.bin false .neq (.s 0) (I6 0)), PO 76 (.mov (.s 0)), ⟨.push, 77, (some ((.s 0), false)), .mov (.v 10)⟩, ⟨.push, 78, (some ((.s 1), false)), .len true (.s 0)⟩, ⟨.push, 79, (some ((.s 2), false)), .mov (.v 4)⟩, ⟨.push, 80, (some ((.s 3), false)), .len true (.s 0)⟩, ⟨.push, 81, (some ((.s 4), false)), .bin false .gtr (.s 2) (.s 0)⟩, PO 82 (.pick (.s 5) (.c (.bool true)) (.s 0)),
 PO 83 (.mov (.s 0)), ⟨.push, 84, (some ((.s 0), false)), .mov (.v 10)⟩, ⟨.push, 85, (some ((.s 1), false)), .mov (.v 4)⟩, ⟨.push, 86, (some ((.s 2), false)), .mov (.v 10)⟩, ⟨.push, 87, (some ((.s 3), false)), .len true (.s 0)⟩, ⟨.push, 88, (some ((.s 4), false)), .slice 0 (.s 2) none (some (.s 0))⟩, ⟨.push, 89, (some ((.s 5), false)), .bin false .neq (.s 4) (.s 0)⟩, PO 90 (.pick (.s 6) (.c (.bool true)) (.s 0))] (.s 0) (.seq (.region false [ VO 2 4 (.mov (.c (.bool false)))]) (.ret)) (.skip)) (.region false [ PM 91 10, VS 8 10 0]))))) (.region false [ PM 54 9, PO 55 (.bin false .add (.s 0) (I6
 1)), VS 9 11 0]))
def ir3_k0 : List Bool := [false, true, false, true, true, false, true, false, true, true, false, false, false, false, false, false, false, false, false, false]
def ir3_o0 : List Bool := [false, true, false, true, true, false, false, false, true, false, false, false, false, false, false, false, false, false, false, false]
def ir3_r0 : List Bool := [false, false, true, false, false, false, false, false, false, false, false, false, false, false, false, false, false, false, false, false]
def ir3_v : List Nat := [0, 1, 4, 5, 6, 7, 8, 9, 10, 11, 12, 13, 14, 15, 16, 17, 18, 19, 20, 21]
def ir3 : AFn := ⟨2, 20, .seq (.region false [ VO 2 4 (.mov (.c (.bool false)))]) (.seq (.test false [ PM 22 0, PM 23 1, PO 24 (.call 4 [(.s 1), (.s 0)])] (.s 0) (.seq (.region false [ VO 2 4 (.mov (.c (.bool true)))]) (.ret)) (.skip)) (.seq (.region false [ PM 25 0, PO 26 (.call 5 [(.s 0)]), VS 3 5 0]) (.seq (.region false [ PM 28 3, PO 29 (.call 6 [(.s 0)]), PO 27 (.mov (.s 0)), PO 30 (.ext (.s 0) 0), PO 31 (.ext (.s 1) 1), VS 4 6 1, VS 5 7 0]) (.seq (.region false [ PM 33 4, PO 34 (.call 7 [(.s 0)]), PO 32 (.mov (.s 0)), PO 35 (.ext (.s 0) 0), PO 36 (.ext (.s 1) 1), VS 6 8 1, VS 7 9 0])
 (.seq (.test false [ PM 37 5, PO 38 (.bin false .neq (.s 0) (I6 0)), PO 39 (.mov (.s 0)), ⟨.push, 40, (some ((.s 0), false)), .mov (.v 7)⟩, ⟨.push, 41, (some ((.s 1), false)), .bin false .neq (.s 0) (I6 0)⟩, PO 42 (.pick (.s 2) (.c (.bool true)) (.s 0)), PO 43 (.mov (.s 0)), ⟨.push, 44, (some ((.s 0), false)), .mov (.v 6)⟩, ⟨.push, 45, (some ((.s 1), false)), .len false (.s 0)⟩, ⟨.push, 46, (some ((.s 2), false)), .mov (.v 3)⟩, ⟨.push, 47, (some ((.s 3), false)), .len false (.s 0)⟩, ⟨.push, 48, (some ((.s 4), false)), .bin false .neq (.s 2) (.s 0)⟩, PO 49 (.pick (.s 5) (.c (.bool true)) (.s
 0))] (.s 0) (.seq (.region false [ VO 2 4 (.mov (.c (.bool false)))]) (.ret)) (.skip)) (.seq (.region false [ VO 8 10 (.mov (.c (.str [])))]) (.seq (.seq (.region false [ VO 9 11 (.mov (I6 0))]) (.block 0 (.loop ir3_k0 ir3_o0 ir3_r0 ir3_b0))) (.seq (.region false [ PM 92 1, PO 93 (.call 9 [(.s 0), (I6 0), (I6 256)]), PM 94 1, PO 95 (.call 9 [(.s 0), (I6 1), (I6 256)]), PO 96 (.bin false .add (.s 2) (.s 0)), PM 97 4, PO 98 (.len true (.s 0)), PO 99 (.minmax false [(.s 2), (.s 0)]), VS 12 14 0]) (.seq (.region false [ PM 101 4, PM 102 12, PO 103 (.slice 0 (.s 1) none (some (.s 0))), PO 104
 (.call 10 [(.s 0)]), PO 100 (.mov (.s 0)), PO 105 (.ext (.s 0) 0), PO 106 (.ext (.s 1) 1), PO 107 (.ext (.s 2) 2), VS 13 15 2, VS 14 16 1, VS 15 17 0]) (.seq (.region false [ PM 109 4, PM 110 12, PO 111 (.slice 0 (.s 1) none (some (.s 0))), PO 112 (.call 11 [(.s 0)]), PO 108 (.mov (.s 0)), PO 113 (.ext (.s 0) 0), PO 114 (.ext (.s 1) 1), VS 16 18 1, VS 17 19 0]) (.seq (.test false [ PM 115 8, PM 116 4, PO 117 (.bin false .neq (.s 1) (.s 0)), PO 118 (.mov (.s 0)), ⟨.push, 119, (some ((.s 0), false)), .mov (.v 15)⟩, ⟨.push, 120, (some ((.s 1), false)), .bin false .neq (.s 0) (I6 0)⟩, PO 121
 (.pick (.s 2) (.c (.bool true)) (.s 0)), PO 122 (.mov (.s 0)), ⟨.push, 123, (some ((.s 0), false)), .mov (.v 17)⟩, ⟨.push, 124, (some ((.s 1), false)), .bin false .neq (.s 0) (I6 0)⟩, PO 125 (.pick (.s 2) (.c (.bool true)) (.s 0)), PO 126 (.mov (.s 0)), ⟨.push, 127, (some ((.s 0), false)), .mov (.v 16)⟩, ⟨.push, 128, (some ((.s 1), false)), .mov (.v 13)⟩, ⟨.push, 129, (some ((.s 2), false)), .len true (.s 0)⟩, ⟨.push, 130, (some ((.s 3), false)), .bin false .neq (.s 2) (.s 0)⟩, PO 131 (.pick (.s 4) (.c (.bool true)) (.s 0)), PO 132 (.mov (.s 0)), ⟨.push, 133, (some ((.s 0), false)), .mov (.v
 16)⟩, ⟨.push, 134, (some ((.s 1), false)), .mov (.v 12)⟩, ⟨.push, 135, (some ((.s 2), false)), .bin false .gtr (.s 1) (.s 0)⟩, PO 136 (.pick (.s 3) (.c (.bool true)) (.s 0)), PO 137 (.mov (.s 0)), ⟨.push, 138, (some ((.s 0), false)), .mov (.v 13)⟩, ⟨.push, 139, (some ((.s 1), false)), .mov (.v 4)⟩, ⟨.push, 140, (some ((.s 2), false)), .mov (.v 16)⟩, ⟨.push, 141, (some ((.s 3), false)), .slice 0 (.s 1) none (some (.s 0))⟩, ⟨.push, 142, (some ((.s 4), false)), .bin false .neq (.s 3) (.s 0)⟩, PO 143 (.pick (.s 5) (.c (.bool true)) (.s 0)), PO 144 (.mov (.s 0)), ⟨.push, 145, (some ((.s 0),
 false)), .mov (.v 14)⟩, ⟨.push, 146, (some ((.s 1), false)), .mov (.v 12)⟩, ⟨.push, 147, (some ((.s 2), false)), .mov (.v 16)⟩, ⟨.push, 148, (some ((.s 3), false)), .bin false .sub (.s 1) (.s 0)⟩, ⟨.push, 149, (some ((.s 4), false)), .bin false .neq (.s 3) (.s 0)⟩, PO 150 (.pick (.s 5) (.c (.bool true)) (.s 0))] (.s 0) (.seq (.region false [ VO 2 4 (.mov (.c (.bool false)))]) (.ret)) (.skip)) (.seq (.region false [ PM 152 13, PO 153 (.call 12 [(.s 0)]), PO 151 (.mov (.s 0)), PO 154 (.ext (.s 0) 0), PO 155 (.ext (.s 1) 1), VS 18 20 1, VS 19 21 0]) (.seq (.region false [ PM 156 19, PO 157 (.bin
 false .eql (.s 0) (I6 0)), PO 158 (.mov (.s 0)), ⟨.push, 159, (some ((.s 0), true)), .mov (.v 18)⟩, ⟨.push, 160, (some ((.s 1), true)), .len false (.s 0)⟩, ⟨.push, 161, (some ((.s 2), true)), .mov (.v 3)⟩, ⟨.push, 162, (some ((.s 3), true)), .len false (.s 0)⟩, ⟨.push, 163, (some ((.s 4), true)), .bin false .leq (.s 2) (.s 0)⟩, PO 164 (.pick (.s 5) (.s 0) (.c (.bool false))), VS 2 4 0]) (.ret)))))))))))))), [.t 2]⟩
noncomputable def t_laws_FnLogs : List (Nat × Ctr) := [(4, c_0), (5, c_14), (6, c_impl_LogOf), (7, c_34), (8, c_35), (9, c_36), (10, c_38), (11, c_37), (12, c_48)]
theorem lk_laws_FnLogs_4 : look t_laws_FnLogs 4 = some c_0 := rfl
theorem lk_laws_FnLogs_5 : look t_laws_FnLogs 5 = some c_14 := rfl
theorem lk_laws_FnLogs_6 : look t_laws_FnLogs 6 = some c_impl_LogOf := rfl
theorem lk_laws_FnLogs_7 : look t_laws_FnLogs 7 = some c_34 := rfl
theorem lk_laws_FnLogs_8 : look t_laws_FnLogs 8 = some c_35 := rfl
theorem lk_laws_FnLogs_9 : look t_laws_FnLogs 9 = some c_36 := rfl
theorem lk_laws_FnLogs_10 : look t_laws_FnLogs 10 = some c_38 := rfl
theorem lk_laws_FnLogs_11 : look t_laws_FnLogs 11 = some c_37 := rfl
theorem lk_laws_FnLogs_12 : look t_laws_FnLogs 12 = some c_48 := rfl
noncomputable def c_laws_FnLogs : Ctr := mkF t_laws_FnLogs ir3 [.bor, .bor]
theorem s_laws_FnLogs : Sound Tryz.prog 3 c_laws_FnLogs := mkF_sound _ rfl (snd_cons s_0 (snd_cons s_14 (snd_cons s_impl_LogOf (snd_cons s_34 (snd_cons s_35 (snd_cons s_36 (snd_cons s_38 (snd_cons s_37 (snd_cons s_48 snd_nil))))))))) (by kernel_rfl : chkFn Tryz.prog 3 ir3 ir3_v = true)
theorem M_laws_FnLogs : c_laws_FnLogs.modes = [.bor, .bor] := rfl
theorem Fl_laws_FnLogs : c_laws_FnLogs.flat = true := rfl
attribute [go_sem] M_laws_FnLogs Fl_laws_FnLogs
attribute [go_sem] lk_laws_FnLogs_4 lk_laws_FnLogs_5 lk_laws_FnLogs_6 lk_laws_FnLogs_7 lk_laws_FnLogs_8 lk_laws_FnLogs_9 lk_laws_FnLogs_10 lk_laws_FnLogs_11 lk_laws_FnLogs_12
def E_laws_FnLogs_l1 (more : List UInt8) (list : List Entry) (log : List UInt8) (back : List Entry) : ((List UInt8) × Int) → St
 | (step, i) => ⟨[.any, .sl 1 (List.map byteAV more), .any, .sl 3 (List.map Entry_av list), .str log, .any, .own 3200000, .any, .str step, .int .i64 i, .any, .any, .any, .any, .any, .any, .any, .any, .any, .any], [], [(3200000, ⟨3, List.map Entry_av back⟩)], true⟩
def R_laws_FnLogs_l1 (more : List UInt8) (list : List Entry) (log : List UInt8) (back : List Entry) : ((List UInt8) ⊕ Bool) → Res
 | .inl y => (.exit 0, ⟨[.any, .sl 1 (List.map byteAV more), .any, .sl 3 (List.map Entry_av list), .str log, .any, .any, .any, .str y, .any, .any, .any, .any, .any, .any, .any, .any, .any, .any, .any], [], [], true⟩)
 | .inr y => (.ret, ⟨[.any, .any, .bool y, .any, .any, .any, .any, .any, .any, .any, .any, .any, .any, .any, .any, .any, .any, .any, .any, .any], [], [], true⟩)
set_option maxHeartbeats 64000000 in
theorem laws_FnLogs_l1_ex {more : List UInt8} {list : List Entry} {log : List UInt8} {back : List Entry} {sgm_ : (List UInt8) × Int} {rho_ : (List UInt8) ⊕ Bool} (h : whileE (laws_FnLogs_l1 more list log back) sgm_ = some rho_) : ∃ L0, ∀ L, L0 ≤ L → iter (exec (look t_laws_FnLogs) L ir3_b0) ir3_k0 ir3_o0 ir3_r0 L (E_laws_FnLogs_l1 more list log back sgm_) = R_laws_FnLogs_l1 more list log back rho_ := by
 refine loop_ex (E := E_laws_FnLogs_l1 more list log back) (R := R_laws_FnLogs_l1 more list log back) (fun y => by first | (intro c; cases c) | (rcases y with y | y <;> (intro c; cases c)) | (rcases y with y | y | y <;> (intro c; cases c))) ?_ h
 clear h
 rintro ⟨step, i⟩ o_ h
 dsimp only [laws_FnLogs_l1] at h
 rcases it_some h with ⟨z7, h⟩ | ⟨z7, h⟩
 ·try simp only [go_sem, n1, n2, n3, n4] at z7
  all_goals
  obtain ⟨z8, h⟩ := ck_some h
  have lz8 := ix_lt z8
  have xz8 := getD_mapD Entry_av back lz8
  try simp only [go_sem] at lz8
  try simp only [go_sem] at xz8
  try simp only [go_sem, n1, n2, n3, n4, z7] at z8
  all_goals
  obtain ⟨z9, h⟩ := ck_some h
  have lz9 := ix_lt z9
  have xz9 := getD_mapD Entry_av list lz9
  try simp only [go_sem] at lz9
  try simp only [go_sem] at xz9
  try simp only [go_sem, n1, n2, n3, n4, z7, z8] at z9
  all_goals
  rcases it_some h with ⟨z10, h⟩ | ⟨z10, h⟩
  ·try simp only [go_sem, n1, n2, n3, n4, z7, z8, z9] at z10
   all_goals
   obtain rfl := so_some h
   refine ⟨0, fun L hL => ?_⟩
   simp only [go_sem, ir3, E_laws_FnLogs_l1, R_laws_FnLogs_l1, ir3_b0, ir3_k0, ir3_o0, ir3_r0, z7, z8, lz8, xz8, z9, lz9, xz9, z10]
  ·try simp only [go_sem, n1, n2, n3, n4, z7, z8, z9] at z10
   all_goals
   obtain ⟨y_11, z11, h⟩ := bd_some h
   have fz11 := Fs_35 z11
   try simp only [go_sem, z7, z8, z9, z10] at fz11
   obtain ⟨z12, h⟩ := ck_some h
   rcases or_split z12 with ⟨gz12, z12⟩ | gz12
   ·try simp only [go_sem, n1, n2, n3, n4, z7, z8, z9, z10] at gz12
    all_goals
    try simp only [go_sem, n1, n2, n3, n4, z7, z8, z9, z10, gz12] at z12
    all_goals
    rcases it_some h with ⟨z13, h⟩ | ⟨z13, h⟩
    ·try simp only [go_sem, n1, n2, n3, n4, z7, z8, z9, z10, gz12, z12] at z13
     all_goals
     obtain rfl := so_some h
     refine ⟨0, fun L hL => ?_⟩
     simp only [go_sem, ir3, E_laws_FnLogs_l1, R_laws_FnLogs_l1, ir3_b0, ir3_k0, ir3_o0, ir3_r0, z7, z8, lz8, xz8, z9, lz9, xz9, z10, fz11, gz12, z12, z13]
    ·try simp only [go_sem, n1, n2, n3, n4, z7, z8, z9, z10, gz12, z12] at z13
     all_goals
     obtain rfl := so_some h
     refine ⟨0, fun L hL => ?_⟩
     simp only [go_sem, ir3, E_laws_FnLogs_l1, R_laws_FnLogs_l1, ir3_b0, ir3_k0, ir3_o0, ir3_r0, z7, z8, lz8, xz8, z9, lz9, xz9, z10, fz11, gz12, z12, z13]
   ·have gz12n := no_f gz12
    rcases or_t gz12n with gz12na | ⟨gz12na, gz12nb⟩
    ·have gz12nan := no_t gz12na
     try simp only [go_sem, n1, n2, n3, n4, z7, z8, z9, z10] at gz12nan
     all_goals
     rcases it_some h with ⟨z13, h⟩ | ⟨z13, h⟩
     ·try simp only [go_sem, n1, n2, n3, n4, z7, z8, z9, z10, gz12nan] at z13
      all_goals
      obtain rfl := so_some h
      refine ⟨0, fun L hL => ?_⟩
      simp only [go_sem, ir3, E_laws_FnLogs_l1, R_laws_FnLogs_l1, ir3_b0, ir3_k0, ir3_o0, ir3_r0, z7, z8, lz8, xz8, z9, lz9, xz9, z10, fz11, gz12nan, z13]
     ·try simp only [go_sem, n1, n2, n3, n4, z7, z8, z9, z10, gz12nan] at z13
      all_goals
      (simp_all)
    ·have gz12nan := no_f gz12na
     try simp only [go_sem, n1, n2, n3, n4, z7, z8, z9, z10] at gz12nan
     all_goals
     try simp only [go_sem, n1, n2, n3, n4, z7, z8, z9, z10, gz12nan] at gz12nb
     all_goals
     rcases it_some h with ⟨z13, h⟩ | ⟨z13, h⟩
     ·try simp only [go_sem, n1, n2, n3, n4, z7, z8, z9, z10, gz12nan, gz12nb] at z13
      all_goals
      obtain rfl := so_some h
      refine ⟨0, fun L hL => ?_⟩
      simp only [go_sem, ir3, E_laws_FnLogs_l1, R_laws_FnLogs_l1, ir3_b0, ir3_k0, ir3_o0, ir3_r0, z7, z8, lz8, xz8, z9, lz9, xz9, z10, fz11, gz12nan, gz12nb, z13]
     ·try simp only [go_sem, n1, n2, n3, n4, z7, z8, z9, z10, gz12nan, gz12nb] at z13
      all_goals
      (simp_all)
 ·try simp only [go_sem, n1, n2, n3, n4] at z7
  all_goals
  obtain rfl := so_some h
  refine ⟨0, fun L hL => ?_⟩
  simp only [go_sem, ir3, E_laws_FnLogs_l1, R_laws_FnLogs_l1, ir3_b0, ir3_k0, ir3_o0, ir3_r0, z7]

set_option maxHeartbeats 64000000 in
theorem Fs_laws_FnLogs {code : List UInt8} {more : List UInt8} {y_ : Bool} (h : laws_FnLogs code more = some y_) : c_laws_FnLogs.F [.sl 1 (List.map byteAV code), .sl 1 (List.map byteAV more)] = ⟨true, .bool y_, [.any, .any]⟩ := by
 refine mkF_E rfl ?_
 dsimp only [laws_FnLogs] at h
 obtain ⟨y_1, z1, h⟩ := bd_some h
 have fz1 := Fs_0 z1
 try simp only [go_sem] at fz1
 rcases it_some h with ⟨z2, h⟩ | ⟨z2, h⟩
 ·try simp only [go_sem, n1, n2, n3, n4] at z2
  all_goals
  obtain rfl := so_some h
  refine ⟨0, fun L hL => ?_⟩
  simp only [go_sem, ir3, E_laws_FnLogs_l1, R_laws_FnLogs_l1, ir3_k0, ir3_o0, ir3_r0, fz1, z2]
 ·try simp only [go_sem, n1, n2, n3, n4] at z2
  all_goals
  obtain ⟨y_3, z3, h⟩ := bd_some h
  have fz3 := Fs_14 z3
  try simp only [go_sem, z2] at fz3
  obtain ⟨y_4, z4, h⟩ := bd_some h
  have fz4 := Fs_impl_LogOf z4
  try simp only [go_sem, z2] at fz4
  obtain ⟨y_5, z5, h⟩ := bd_some h
  have fz5 := Fs_34 z5
  try simp only [go_sem, z2] at fz5
  rcases it_some h with ⟨z6, h⟩ | ⟨z6, h⟩
  ·try simp only [go_sem, n1, n2, n3, n4, z2] at z6
   all_goals
   obtain rfl := so_some h
   refine ⟨0, fun L hL => ?_⟩
   simp only [go_sem, ir3, E_laws_FnLogs_l1, R_laws_FnLogs_l1, ir3_k0, ir3_o0, ir3_r0, fz1, z2, fz3, fz4, fz5, z6]
  ·try simp only [go_sem, n1, n2, n3, n4, z2] at z6
   all_goals
   obtain ⟨y_14, z14, h⟩ := bd_some h
   obtain ⟨Lz14, ez14⟩ := laws_FnLogs_l1_ex z14
   rcases y_14 with y_14a | y_14b
   ·dsimp only at h
    obtain ⟨y_15, z15, h⟩ := bd_some h
    have fz15 := Fs_36 z15
    try simp only [go_sem, z2, z6] at fz15
    obtain ⟨y_16, z16, h⟩ := bd_some h
    have fz16 := Fs_36 z16
    try simp only [go_sem, z2, z6] at fz16
    obtain ⟨z17, h⟩ := ck_some h
    try simp only [go_sem, n1, n2, n3, n4, z2, z6] at z17
    all_goals
    obtain ⟨y_18, z18, h⟩ := bd_some h
    have fz18 := Fs_38 z18
    try simp only [go_sem, z2, z6, z17] at fz18
    obtain ⟨y_19, z19, h⟩ := bd_some h
    have fz19 := Fs_37 z19
    try simp only [go_sem, z2, z6, z17] at fz19
    obtain ⟨z20, h⟩ := ck_some h
    rcases or_split z20 with ⟨gz20, z20⟩ | gz20
    ·try simp only [go_sem, n1, n2, n3, n4, z2, z6, z17] at gz20
     all_goals
     try simp only [go_sem, n1, n2, n3, n4, z2, z6, z17, gz20] at z20
     all_goals
     rcases it_some h with ⟨z21, h⟩ | ⟨z21, h⟩
     ·try simp only [go_sem, n1, n2, n3, n4, z2, z6, z17, gz20, z20] at z21
      all_goals
      obtain rfl := so_some h
      refine ⟨Lz14, fun L hL => ?_⟩
      have ez14 := ez14 L (by omega)
      try simp only [go_sem, E_laws_FnLogs_l1, R_laws_FnLogs_l1, ir3_k0, ir3_o0, ir3_r0, z2, z6, z17, gz20, z20, z21] at ez14
      simp only [go_sem, ir3, E_laws_FnLogs_l1, R_laws_FnLogs_l1, ir3_k0, ir3_o0, ir3_r0, fz1, z2, fz3, fz4, fz5, z6, fz15, fz16, z17, fz18, fz19, gz20, z20, z21, ez14]
     ·try simp only [go_sem, n1, n2, n3, n4, z2, z6, z17, gz20, z20] at z21
      all_goals
      obtain ⟨y_22, z22, h⟩ := bd_some h
      have fz22 := Fs_48 z22
      try simp only [go_sem, z2, z6, z17, gz20, z20, z21] at fz22
      obtain rfl := so_some h
      refine ⟨Lz14, fun L hL => ?_⟩
      have ez14 := ez14 L (by omega)
      try simp only [go_sem, E_laws_FnLogs_l1, R_laws_FnLogs_l1, ir3_k0, ir3_o0, ir3_r0, z2, z6, z17, gz20, z20, z21] at ez14
      simp only [go_sem, ir3, E_laws_FnLogs_l1, R_laws_FnLogs_l1, ir3_k0, ir3_o0, ir3_r0, fz1, z2, fz3, fz4, fz5, z6, fz15, fz16, z17, fz18, fz19, gz20, z20, z21, fz22, ez14]
    ·have gz20n := no_f gz20
     try simp only [go_sem, n1, n2, n3, n4, z2, z6, z17] at gz20n
     all_goals
     rcases it_some h with ⟨z21, h⟩ | ⟨z21, h⟩
     ·try simp only [go_sem, n1, n2, n3, n4, z2, z6, z17, gz20n] at z21
      all_goals
      obtain rfl := so_some h
      refine ⟨Lz14, fun L hL => ?_⟩
      have ez14 := ez14 L (by omega)
      try simp only [go_sem, E_laws_FnLogs_l1, R_laws_FnLogs_l1, ir3_k0, ir3_o0, ir3_r0, z2, z6, z17, gz20n, z21] at ez14
      simp only [go_sem, ir3, E_laws_FnLogs_l1, R_laws_FnLogs_l1, ir3_k0, ir3_o0, ir3_r0, fz1, z2, fz3, fz4, fz5, z6, fz15, fz16, z17, fz18, fz19, gz20n, z21, ez14]
     ·try simp only [go_sem, n1, n2, n3, n4, z2, z6, z17, gz20n] at z21
      all_goals
      (simp_all)
   ·dsimp only at h
    obtain rfl := so_some h
    refine ⟨Lz14, fun L hL => ?_⟩
    have ez14 := ez14 L (by omega)
    try simp only [go_sem, E_laws_FnLogs_l1, R_laws_FnLogs_l1, ir3_k0, ir3_o0, ir3_r0, z2, z6] at ez14
    simp only [go_sem, ir3, E_laws_FnLogs_l1, R_laws_FnLogs_l1, ir3_k0, ir3_o0, ir3_r0, fz1, z2, fz3, fz4, fz5, z6, ez14]


end Go.Proofs.YtlcabohpeopdcaaGreatDoor
