/- Codes and contracts of the functions that RP reaches, and that their typed forms say what they do. No condition. -/
import Derived.Test.YtbobhejdijcofaaGreatDoorEngPlot
import Derived.Test.YtbobhejdijcofaaGreatDoorRows
import Derived.WalkKit
namespace Go.Proofs.YtbobhejdijcofaaGreatDoor
open Go Go.RowKit
set_option linter.unusedVariables false
set_option linter.unusedSimpArgs false
set_option maxRecDepth 10000

def ir3_b0 : IR := .seq (.test false [ PM 112 20, PM 113 3, PO 114 (.len false (.s 0)), PO 115 (.bin false .lss (.s 2) (.s 0))] (.s 0) (.skip) (.exit 0)) (.seq (.block 1 (.anyo 10 [ SO 0 118 (.mov (.v 3)), SO 1 119 (.mov (.v 20)), SO 2 120 (.ixAddr 1 (.s 0) (.s 1)), SO 3 121 (.load false 1 (.s 2)), SO 4 122 (.mov (.v 5)), SO 5 123 (.mov (.v 20)), SO 6 124 (.ixAddr 1 (.s 4) (.s 5)), SO 7 125 (.load false 1 (.s 6)), SO 8 126 (.callp 14 [(.s 3), (.s 7)]), SO 9 127 (.un .not (.s 8))] [] (.cond (.s 9) (.seq (.region false [ VO 1 2 (.mov (.c (.bool false)))]) (.ret)) (.skip)))) (.region false [ PM
 116 20, PO 117 (.bin false .add (.s 0) (I6 1)), VS 20 21 0]))
def ir3_k0 : List Bool := [false, false, true, true, true, true, false, false, false, false, false, false, false, true, false, true, false, true, true, false, true, false, false, false, false, false, false, false]
def ir3_o0 : List Bool := [false, false, true, false, true, true, false, false, false, false, false, false, false, true, false, true, false, true, true, false, false, false, false, false, false, false, false, false]
def ir3_r0 : List Bool := [false, true, false, false, false, false, false, false, false, false, false, false, false, false, false, false, false, false, false, false, false, false, false, false, false, false, false, false]
def ir3_b2 : IR := .seq (.test false [ PM 136 24, PM 137 18, PM 138 23, PO 139 (.ixAddr 1 (.s 1) (.s 0)), PO 140 (.load false 1 (.s 0)), PO 141 (.len true (.s 0)), PO 142 (.bin false .lss (.s 5) (.s 0))] (.s 0) (.skip) (.exit 4)) (.seq (.block 5 (.test false [ PM 145 18, PM 146 23, PO 147 (.ixAddr 1 (.s 1) (.s 0)), PO 148 (.load false 1 (.s 0)), PM 149 24, PO 150 (.ixStr (.s 1) (.s 0)), PO 151 (.bin false .eql (.s 0) (.c (.int .u8 (42))))] (.s 0) (.seq (.region false [ PM 152 21, PO 153 (.bin false .add (.s 0) (I6 1)), VS 21 22 0]) (.region false [ PM 154 22, PO 155 (.mov (.s 0)), ⟨.push, 156,
 (some ((.s 0), false)), .mov (.v 24)⟩, ⟨.push, 157, (some ((.s 1), false)), .bin false .eql (.s 0) (I6 0)⟩, PO 158 (.pick (.s 2) (.c (.bool true)) (.s 0)), VS 22 23 0])) (.skip))) (.region false [ PM 143 24, PO 144 (.bin false .add (.s 0) (I6 1)), VS 24 25 0]))
def ir3_k2 : List Bool := [false, false, true, false, true, true, false, false, false, false, false, false, false, true, false, true, false, false, true, false, false, true, true, true, true, false, false, false]
def ir3_o2 : List Bool := [false, false, true, false, true, true, false, false, false, false, false, false, false, true, false, true, false, false, true, false, false, true, true, true, false, false, false, false]
def ir3_r2 : List Bool := [false, true, false, false, false, false, false, false, false, false, false, false, false, false, false, false, false, false, false, false, false, false, false, false, false, false, false, false]
def ir3_b1 : IR := .seq (.test false [ PM 130 23, PM 131 18, PO 132 (.len false (.s 0)), PO 133 (.bin false .lss (.s 2) (.s 0))] (.s 0) (.skip) (.exit 2)) (.seq (.block 3 (.seq (.region false [ VO 24 25 (.mov (I6 0))]) (.block 4 (.loop ir3_k2 ir3_o2 ir3_r2 ir3_b2)))) (.region false [ PM 134 23, PO 135 (.bin false .add (.s 0) (I6 1)), VS 23 24 0]))
def ir3_k1 : List Bool := [false, false, true, false, true, true, false, false, false, false, false, false, false, true, false, true, false, false, true, false, false, true, true, true, false, false, false, false]
def ir3_o1 : List Bool := [false, false, true, false, true, true, false, false, false, false, false, false, false, true, false, true, false, false, true, false, false, true, true, false, false, false, false, false]
def ir3_r1 : List Bool := [false, true, false, false, false, false, false, false, false, false, false, false, false, false, false, false, false, false, false, false, false, false, false, false, false, false, false, false]
def ir3_b3 : IR := .seq (.test false [ PM 192 27, PM 193 5, PO 194 (.len false (.s 0)), PO 195 (.bin false .lss (.s 2) (.s 0))] (.s 0) (.skip) (.exit 6)) (.seq (.block 7 (.anyo 19 [ SO 0 198 (.mov (.v 5)), SO 1 199 (.mov (.v 27)), SO 2 200 (.ixAddr 1 (.s 0) (.s 1)), SO 3 201 (.load false 1 (.s 2)), SO 4 202 (.len false (.s 3)), SO 5 203 (.bin false .neq (.s 4) (I6 4)), SO 6 204 (.mov (.s 5)), ⟨.slot 7, 205, (some ((.s 6), false)), .mov (.v 5)⟩, ⟨.slot 8, 206, (some ((.s 6), false)), .mov (.v 27)⟩, ⟨.slot 9, 207, (some ((.s 6), false)), .ixAddr 1 (.s 7) (.s 8)⟩, ⟨.slot 10, 208, (some ((.s 6),
 false)), .load false 1 (.s 9)⟩, ⟨.slot 11, 209, (some ((.s 6), false)), .ixAddr 1 (.s 10) (I6 0)⟩, ⟨.slot 12, 210, (some ((.s 6), false)), .load false 1 (.s 11)⟩, ⟨.slot 13, 211, (some ((.s 6), false)), .mov (.v 25)⟩, ⟨.slot 14, 212, (some ((.s 6), false)), .mov (.v 27)⟩, ⟨.slot 15, 213, (some ((.s 6), false)), .ixAddr 1 (.s 13) (.s 14)⟩, ⟨.slot 16, 214, (some ((.s 6), false)), .load false 1 (.s 15)⟩, ⟨.slot 17, 215, (some ((.s 6), false)), .bin false .neq (.s 12) (.s 16)⟩, SO 18 216 (.pick (.s 6) (.c (.bool true)) (.s 17))] [] (.cond (.s 18) (.seq (.region false [ VO 1 2 (.mov (.c (.bool
 false)))]) (.ret)) (.skip)))) (.region false [ PM 196 27, PO 197 (.bin false .add (.s 0) (I6 1)), VS 27 28 0]))
def ir3_k3 : List Bool := [false, false, false, false, false, true, false, false, false, false, false, false, false, false, false, false, false, false, false, false, false, false, false, false, false, true, false, true]
def ir3_o3 : List Bool := [false, false, false, false, false, false, false, false, false, false, false, false, false, false, false, false, false, false, false, false, false, false, false, false, false, false, false, false]
def ir3_r3 : List Bool := [false, true, false, false, false, false, false, false, false, false, false, false, false, false, false, false, false, false, false, false, false, false, false, false, false, false, false, false]
def ir3_v : List Nat := [0, 2, 3, 4, 5, 6, 7, 8, 9, 10, 11, 12, 13, 14, 15, 16, 17, 18, 19, 20, 21, 22, 23, 24, 25, 26, 27, 28]
def ir3 : AFn := ⟨1, 28, .seq (.region false [ VO 1 2 (.mov (.c (.bool false)))]) (.seq (.test false [ PM 29 0, PO 30 (.call 4 [(.s 0)])] (.s 0) (.seq (.region false [ VO 1 2 (.mov (.c (.bool true)))]) (.ret)) (.skip)) (.seq (.region false [ PM 31 0, PO 32 (.call 5 [(.s 0)]), VS 2 3 0]) (.seq (.region false [ PM 34 2, PO 35 (.call 6 [(.s 0)]), PO 33 (.mov (.s 0)), PO 36 (.ext (.s 0) 0), PO 37 (.ext (.s 1) 1), VS 3 4 1, VS 4 5 0]) (.seq (.region false [ PM 39 2, PO 40 (.call 7 [(.s 0)]), PO 38 (.mov (.s 0)), PO 41 (.ext (.s 0) 0), PO 42 (.ext (.s 1) 1), VS 5 6 1, VS 6 7 0]) (.seq (.region false
 [ PM 44 0, PO 45 (.call 8 [(.s 0)]), PO 43 (.mov (.s 0)), PO 46 (.ext (.s 0) 0), PO 47 (.ext (.s 1) 1), VS 7 8 1, VS 8 9 0]) (.seq (.region false [ PM 49 7, PM 50 8, PO 51 (.call 9 [(.s 1), (.s 0)]), PO 48 (.mov (.s 0)), PO 52 (.ext (.s 0) 0), PO 53 (.ext (.s 1) 1), VS 9 10 1, VS 10 11 0]) (.seq (.region false [ PM 55 7, PM 56 8, PO 57 (.call 10 [(.s 1), (.s 0)]), PO 54 (.mov (.s 0)), PO 58 (.ext (.s 0) 0), PO 59 (.ext (.s 1) 1), VS 11 12 1, VS 12 13 0]) (.seq (.region false [ PM 61 0, PO 62 (.call 11 [(.s 0)]), PO 60 (.mov (.s 0)), PO 63 (.ext (.s 0) 0), PO 64 (.ext (.s 1) 1), PO 65 (.ext (.s
 2) 2), VS 13 14 2, VS 14 15 1, VS 15 16 0]) (.seq (.region false [ PM 67 13, PM 68 14, PM 69 15, PO 70 (.call 12 [(.s 2), (.s 1), (.s 0)]), PO 66 (.mov (.s 0)), PO 71 (.ext (.s 0) 0), PO 72 (.ext (.s 1) 1), VS 16 17 1, VS 17 18 0]) (.seq (.region false [ PM 74 13, PM 75 14, PM 76 15, PO 77 (.call 13 [(.s 2), (.s 1), (.s 0)]), PO 73 (.mov (.s 0)), PO 78 (.ext (.s 0) 0), PO 79 (.ext (.s 1) 1), VS 18 19 1, VS 19 20 0]) (.seq (.test false [ PM 80 4, PM 81 6, PO 82 (.bin false .neq (.s 1) (.s 0)), PO 83 (.mov (.s 0)), ⟨.push, 84, (some ((.s 0), false)), .mov (.v 3)⟩, ⟨.push, 85, (some ((.s 1),
 false)), .len false (.s 0)⟩, ⟨.push, 86, (some ((.s 2), false)), .mov (.v 5)⟩, ⟨.push, 87, (some ((.s 3), false)), .len false (.s 0)⟩, ⟨.push, 88, (some ((.s 4), false)), .bin false .neq (.s 2) (.s 0)⟩, PO 89 (.pick (.s 5) (.c (.bool true)) (.s 0)), PO 90 (.mov (.s 0)), ⟨.push, 91, (some ((.s 0), false)), .mov (.v 10)⟩, ⟨.push, 92, (some ((.s 1), false)), .mov (.v 12)⟩, ⟨.push, 93, (some ((.s 2), false)), .bin false .neq (.s 1) (.s 0)⟩, PO 94 (.pick (.s 3) (.c (.bool true)) (.s 0)), PO 95 (.mov (.s 0)), ⟨.push, 96, (some ((.s 0), false)), .mov (.v 9)⟩, ⟨.push, 97, (some ((.s 1), false)), .mov
 (.v 11)⟩, ⟨.push, 98, (some ((.s 2), false)), .call 14 [(.s 1), (.s 0)]⟩, ⟨.push, 99, (some ((.s 3), false)), .un .not (.s 0)⟩, PO 100 (.pick (.s 4) (.c (.bool true)) (.s 0)), PO 101 (.mov (.s 0)), ⟨.push, 102, (some ((.s 0), false)), .mov (.v 17)⟩, ⟨.push, 103, (some ((.s 1), false)), .mov (.v 19)⟩, ⟨.push, 104, (some ((.s 2), false)), .bin false .neq (.s 1) (.s 0)⟩, PO 105 (.pick (.s 3) (.c (.bool true)) (.s 0)), PO 106 (.mov (.s 0)), ⟨.push, 107, (some ((.s 0), false)), .mov (.v 16)⟩, ⟨.push, 108, (some ((.s 1), false)), .mov (.v 18)⟩, ⟨.push, 109, (some ((.s 2), false)), .call 14 [(.s 1),
 (.s 0)]⟩, ⟨.push, 110, (some ((.s 3), false)), .un .not (.s 0)⟩, PO 111 (.pick (.s 4) (.c (.bool true)) (.s 0))] (.s 0) (.seq (.region false [ VO 1 2 (.mov (.c (.bool false)))]) (.ret)) (.skip)) (.seq (.seq (.region false [ VO 20 21 (.mov (I6 0))]) (.block 0 (.loop ir3_k0 ir3_o0 ir3_r0 ir3_b0))) (.seq (.test false [ PM 128 17, PO 129 (.bin false .eql (.s 0) (I6 0))] (.s 0) (.seq (.region false [ VO 21 22 (.mov (I6 0))]) (.seq (.region false [ VO 22 23 (.mov (.c (.bool false)))]) (.seq (.seq (.region false [ VO 23 24 (.mov (I6 0))]) (.block 2 (.loop ir3_k1 ir3_o1 ir3_r1 ir3_b1))) (.test false [
 PM 159 18, PO 160 (.len false (.s 0)), PM 161 15, PO 162 (.bin false .neq (.s 1) (.s 0)), PO 163 (.mov (.s 0)), ⟨.push, 164, (some ((.s 0), false)), .mov (.v 21)⟩, ⟨.push, 165, (some ((.s 1), false)), .mov (.v 13)⟩, ⟨.push, 166, (some ((.s 2), false)), .len false (.s 0)⟩, ⟨.push, 167, (some ((.s 3), false)), .bin false .gtr (.s 2) (.s 0)⟩, PO 168 (.pick (.s 4) (.c (.bool true)) (.s 0)), PO 169 (.mov (.s 0)), ⟨.push, 170, (some ((.s 0), false)), .mov (.v 13)⟩, ⟨.push, 171, (some ((.s 1), false)), .len false (.s 0)⟩, ⟨.push, 172, (some ((.s 2), false)), .bin false .gtr (.s 0) (I6 0)⟩, ⟨.push,
 173, (some ((.s 3), false)), .mov (.v 22)⟩, ⟨.push, 174, (some ((.s 4), false)), .bin true .neq (.s 1) (.s 0)⟩, PO 175 (.pick (.s 5) (.c (.bool true)) (.s 0))] (.s 0) (.seq (.region false [ VO 1 2 (.mov (.c (.bool false)))]) (.ret)) (.skip))))) (.skip)) (.seq (.test false [ PM 176 4, PO 177 (.bin false .neq (.s 0) (I6 0))] (.s 0) (.seq (.region false [ VO 1 2 (.mov (.c (.bool true)))]) (.ret)) (.skip)) (.seq (.region false [ PM 179 2, PO 180 (.call 15 [(.s 0)]), PO 178 (.mov (.s 0)), PO 181 (.ext (.s 0) 0), PO 182 (.ext (.s 1) 1), VS 25 26 1, VS 26 27 0]) (.seq (.test false [ PM 183 26, PO 184
 (.bin false .neq (.s 0) (I6 0)), PO 185 (.mov (.s 0)), ⟨.push, 186, (some ((.s 0), false)), .mov (.v 25)⟩, ⟨.push, 187, (some ((.s 1), false)), .len false (.s 0)⟩, ⟨.push, 188, (some ((.s 2), false)), .mov (.v 5)⟩, ⟨.push, 189, (some ((.s 3), false)), .len false (.s 0)⟩, ⟨.push, 190, (some ((.s 4), false)), .bin false .neq (.s 2) (.s 0)⟩, PO 191 (.pick (.s 5) (.c (.bool true)) (.s 0))] (.s 0) (.seq (.region false [ VO 1 2 (.mov (.c (.bool false)))]) (.ret)) (.skip)) (.seq (.seq (.region false [ VO 27 28 (.mov (I6 0))]) (.block 6 (.loop ir3_k3 ir3_o3 ir3_r3 ir3_b3))) (.seq (.region false [ VO 1
 2 (.mov (.c (.bool true)))]) (.ret))))))))))))))))))), [.t 1]⟩
noncomputable def t_laws_FnReports : List (Nat × Ctr) := [(4, c_1), (5, c_17), (6, c_55), (7, c_72), (8, c_74), (9, c_75), (10, c_76), (11, c_79), (12, c_impl_PlotLines), (13, c_spec_PlotLines), (14, c_0), (15, c_35)]
theorem lk_laws_FnReports_4 : look t_laws_FnReports 4 = some c_1 := rfl
theorem lk_laws_FnReports_5 : look t_laws_FnReports 5 = some c_17 := rfl
theorem lk_laws_FnReports_6 : look t_laws_FnReports 6 = some c_55 := rfl
theorem lk_laws_FnReports_7 : look t_laws_FnReports 7 = some c_72 := rfl
theorem lk_laws_FnReports_8 : look t_laws_FnReports 8 = some c_74 := rfl
theorem lk_laws_FnReports_9 : look t_laws_FnReports 9 = some c_75 := rfl
theorem lk_laws_FnReports_10 : look t_laws_FnReports 10 = some c_76 := rfl
theorem lk_laws_FnReports_11 : look t_laws_FnReports 11 = some c_79 := rfl
theorem lk_laws_FnReports_12 : look t_laws_FnReports 12 = some c_impl_PlotLines := rfl
theorem lk_laws_FnReports_13 : look t_laws_FnReports 13 = some c_spec_PlotLines := rfl
theorem lk_laws_FnReports_14 : look t_laws_FnReports 14 = some c_0 := rfl
theorem lk_laws_FnReports_15 : look t_laws_FnReports 15 = some c_35 := rfl
noncomputable def c_laws_FnReports : Ctr := mkF t_laws_FnReports ir3 [.bor]
theorem s_laws_FnReports : Sound Tryz.prog 3 c_laws_FnReports := mkF_sound _ rfl (snd_cons s_1 (snd_cons s_17 (snd_cons s_55 (snd_cons s_72 (snd_cons s_74 (snd_cons s_75 (snd_cons s_76 (snd_cons s_79 (snd_cons s_impl_PlotLines (snd_cons s_spec_PlotLines (snd_cons s_0 (snd_cons s_35 snd_nil)))))))))))) (by kernel_rfl : chkFn Tryz.prog 3 ir3 ir3_v = true)
theorem M_laws_FnReports : c_laws_FnReports.modes = [.bor] := rfl
theorem Fl_laws_FnReports : c_laws_FnReports.flat = true := rfl
attribute [go_sem] M_laws_FnReports Fl_laws_FnReports
attribute [go_sem] lk_laws_FnReports_4 lk_laws_FnReports_5 lk_laws_FnReports_6 lk_laws_FnReports_7 lk_laws_FnReports_8 lk_laws_FnReports_9 lk_laws_FnReports_10 lk_laws_FnReports_11 lk_laws_FnReports_12 lk_laws_FnReports_13 lk_laws_FnReports_14 lk_laws_FnReports_15
def E_laws_FnReports_l1 (list : List Estimate) (rows : List (List (List UInt8))) (bad : Int) (model : List (List (List UInt8))) (curve : List Point) (n : Int) (three : Int) (lines : List (List UInt8)) : Int → St
 | i => ⟨[.any, .any, .sl 5 (List.map Estimate_av list), .own 3200000, .int .i64 bad, .own 3200032, .any, .any, .any, .any, .any, .any, .any, .sl 2 (List.map Point_av curve), .any, .int .i64 n, .any, .int .i64 three, .sl 1 (List.map AV.str lines), .any, .int .i64 i, .any, .any, .any, .any, .any, .any, .any], [], [(3200000, ⟨1, List.map (slE 1 AV.str) rows⟩), (3200032, ⟨1, List.map (slE 1 AV.str) model⟩)], true⟩
def R_laws_FnReports_l1 (list : List Estimate) (rows : List (List (List UInt8))) (bad : Int) (model : List (List (List UInt8))) (curve : List Point) (n : Int) (three : Int) (lines : List (List UInt8)) : (Unit ⊕ Bool) → Res
 | .inl y => (.exit 0, ⟨[.any, .any, .sl 5 (List.map Estimate_av list), .any, .int .i64 bad, .own 3200000, .any, .any, .any, .any, .any, .any, .any, .sl 2 (List.map Point_av curve), .any, .int .i64 n, .any, .int .i64 three, .sl 1 (List.map AV.str lines), .any, .any, .any, .any, .any, .any, .any, .any, .any], [], [(3200000, ⟨1, List.map (slE 1 AV.str) model⟩)], true⟩)
 | .inr y => (.ret, ⟨[.any, .bool y, .any, .any, .any, .any, .any, .any, .any, .any, .any, .any, .any, .any, .any, .any, .any, .any, .any, .any, .any, .any, .any, .any, .any, .any, .any, .any], [], [], true⟩)
set_option maxHeartbeats 64000000 in
theorem laws_FnReports_l1_ex {list : List Estimate} {rows : List (List (List UInt8))} {bad : Int} {model : List (List (List UInt8))} {curve : List Point} {n : Int} {three : Int} {lines : List (List UInt8)} {sgm_ : Int} {rho_ : Unit ⊕ Bool} (h : whileE (laws_FnReports_l1 list rows bad model curve n three lines) sgm_ = some rho_) : ∃ L0, ∀ L, L0 ≤ L → iter (exec (look t_laws_FnReports) L ir3_b0) ir3_k0 ir3_o0 ir3_r0 L (E_laws_FnReports_l1 list rows bad model curve n three lines sgm_) = R_laws_FnReports_l1 list rows bad model curve n three lines rho_ := by
 refine loop_ex (E := E_laws_FnReports_l1 list rows bad model curve n three lines) (R := R_laws_FnReports_l1 list rows bad model curve n three lines) (fun y => by first | (intro c; cases c) | (rcases y with y | y <;> (intro c; cases c)) | (rcases y with y | y | y <;> (intro c; cases c))) ?_ h
 clear h
 intro i o_ h
 dsimp only [laws_FnReports_l1] at h
 rcases it_some h with ⟨z15, h⟩ | ⟨z15, h⟩
 ·try simp only [go_sem, n1, n2, n3, n4] at z15
  all_goals
  obtain ⟨z16, h⟩ := ck_some h
  have lz16 := ix_lt z16
  have xz16 := getD_mapD (slE 1 AV.str) rows lz16
  try simp only [go_sem] at lz16
  try simp only [go_sem] at xz16
  try simp only [go_sem, n1, n2, n3, n4, z15] at z16
  all_goals
  obtain ⟨z17, h⟩ := ck_some h
  have lz17 := ix_lt z17
  have xz17 := getD_mapD (slE 1 AV.str) model lz17
  try simp only [go_sem] at lz17
  try simp only [go_sem] at xz17
  try simp only [go_sem, n1, n2, n3, n4, z15, z16] at z17
  all_goals
  obtain ⟨y_18, z18, h⟩ := bd_some h
  have fz18 := Fs_0 z18
  try simp only [go_sem, z15, z16, z17] at fz18
  rcases it_some h with ⟨z19, h⟩ | ⟨z19, h⟩
  ·try simp only [go_sem, n1, n2, n3, n4, z15, z16, z17] at z19
   all_goals
   obtain rfl := so_some h
   refine ⟨0, fun L hL => ?_⟩
   simp only [go_sem, ir3, E_laws_FnReports_l1, R_laws_FnReports_l1, ir3_b0, ir3_k0, ir3_o0, ir3_r0, z15, z16, lz16, xz16, z17, lz17, xz17, fz18, z19]
  ·try simp only [go_sem, n1, n2, n3, n4, z15, z16, z17] at z19
   all_goals
   obtain rfl := so_some h
   refine ⟨0, fun L hL => ?_⟩
   simp only [go_sem, ir3, E_laws_FnReports_l1, R_laws_FnReports_l1, ir3_b0, ir3_k0, ir3_o0, ir3_r0, z15, z16, lz16, xz16, z17, lz17, xz17, fz18, z19]
 ·try simp only [go_sem, n1, n2, n3, n4] at z15
  all_goals
  obtain rfl := so_some h
  refine ⟨0, fun L hL => ?_⟩
  simp only [go_sem, ir3, E_laws_FnReports_l1, R_laws_FnReports_l1, ir3_b0, ir3_k0, ir3_o0, ir3_r0, z15]

def E_laws_FnReports_l3 (list : List Estimate) (bad : Int) (model : List (List (List UInt8))) (curve : List Point) (n : Int) (lines : List (List UInt8)) (i : Int) : (Int × Bool × Int) → St
 | (stars, first, k) => ⟨[.any, .any, .sl 5 (List.map Estimate_av list), .any, .int .i64 bad, .own 3200000, .any, .any, .any, .any, .any, .any, .any, .sl 2 (List.map Point_av curve), .any, .int .i64 n, .any, .any, .sl 1 (List.map AV.str lines), .any, .any, .int .i64 stars, .bool first, .int .i64 i, .int .i64 k, .any, .any, .any], [], [(3200000, ⟨1, List.map (slE 1 AV.str) model⟩)], true⟩
def R_laws_FnReports_l3 (list : List Estimate) (bad : Int) (model : List (List (List UInt8))) (curve : List Point) (n : Int) (lines : List (List UInt8)) (i : Int) (y : Int × Bool) : Res := (.exit 4, ⟨[.any, .any, .sl 5 (List.map Estimate_av list), .any, .int .i64 bad, .own 3200000, .any, .any, .any, .any, .any, .any, .any, .sl 2 (List.map Point_av curve), .any, .int .i64 n, .any, .any, .sl 1 (List.map AV.str lines), .any, .any, .int .i64 y.1, .bool y.2, .int .i64 i, .any, .any, .any, .any], [], [(3200000, ⟨1, List.map (slE 1 AV.str) model⟩)], true⟩)
set_option maxHeartbeats 64000000 in
theorem laws_FnReports_l3_ex {list : List Estimate} {bad : Int} {model : List (List (List UInt8))} {curve : List Point} {n : Int} {lines : List (List UInt8)} {i : Int} {sgm_ : Int × Bool × Int} {rho_ : Int × Bool} (h : whileE (laws_FnReports_l3 list bad model curve n lines i) sgm_ = some rho_) : ∃ L0, ∀ L, L0 ≤ L → iter (exec (look t_laws_FnReports) L ir3_b2) ir3_k2 ir3_o2 ir3_r2 L (E_laws_FnReports_l3 list bad model curve n lines i sgm_) = R_laws_FnReports_l3 list bad model curve n lines i rho_ := by
 refine loop_ex (E := E_laws_FnReports_l3 list bad model curve n lines i) (R := R_laws_FnReports_l3 list bad model curve n lines i) (fun y => by first | (intro c; cases c) | (rcases y with y | y <;> (intro c; cases c)) | (rcases y with y | y | y <;> (intro c; cases c))) ?_ h
 clear h
 rintro ⟨stars, first, k⟩ o_ h
 dsimp only [laws_FnReports_l3] at h
 obtain ⟨z23, h⟩ := ck_some h
 have lz23 := ix_lt z23
 have xz23 := getD_mapD AV.str lines lz23
 try simp only [go_sem] at lz23
 try simp only [go_sem] at xz23
 try simp only [go_sem, n1, n2, n3, n4] at z23
 all_goals
 rcases it_some h with ⟨z24, h⟩ | ⟨z24, h⟩
 ·try simp only [go_sem, n1, n2, n3, n4, z23] at z24
  all_goals
  obtain ⟨z25, h⟩ := ck_some h
  try simp only [go_sem, n1, n2, n3, n4, z23, z24] at z25
  all_goals
  rcases it_some h with ⟨z26, h⟩ | ⟨z26, h⟩
  ·try simp only [go_sem, n1, n2, n3, n4, z23, z24, z25] at z26
   all_goals
   obtain rfl := so_some h
   refine ⟨0, fun L hL => ?_⟩
   simp only [go_sem, ir3, E_laws_FnReports_l3, R_laws_FnReports_l3, ir3_b2, ir3_k2, ir3_o2, ir3_r2, E_laws_FnReports_l1, R_laws_FnReports_l1, ir3_k0, ir3_o0, ir3_r0, z23, lz23, xz23, z24, z25, z26]
  ·try simp only [go_sem, n1, n2, n3, n4, z23, z24, z25] at z26
   all_goals
   obtain rfl := so_some h
   refine ⟨0, fun L hL => ?_⟩
   simp only [go_sem, ir3, E_laws_FnReports_l3, R_laws_FnReports_l3, ir3_b2, ir3_k2, ir3_o2, ir3_r2, E_laws_FnReports_l1, R_laws_FnReports_l1, ir3_k0, ir3_o0, ir3_r0, z23, lz23, xz23, z24, z25, z26]
 ·try simp only [go_sem, n1, n2, n3, n4, z23] at z24
  all_goals
  obtain rfl := so_some h
  refine ⟨0, fun L hL => ?_⟩
  simp only [go_sem, ir3, E_laws_FnReports_l3, R_laws_FnReports_l3, ir3_b2, ir3_k2, ir3_o2, ir3_r2, E_laws_FnReports_l1, R_laws_FnReports_l1, ir3_k0, ir3_o0, ir3_r0, z23, lz23, xz23, z24]

def E_laws_FnReports_l2 (list : List Estimate) (bad : Int) (model : List (List (List UInt8))) (curve : List Point) (n : Int) (lines : List (List UInt8)) : (Int × Bool × Int) → St
 | (stars, first, i) => ⟨[.any, .any, .sl 5 (List.map Estimate_av list), .any, .int .i64 bad, .own 3200000, .any, .any, .any, .any, .any, .any, .any, .sl 2 (List.map Point_av curve), .any, .int .i64 n, .any, .any, .sl 1 (List.map AV.str lines), .any, .any, .int .i64 stars, .bool first, .int .i64 i, .any, .any, .any, .any], [], [(3200000, ⟨1, List.map (slE 1 AV.str) model⟩)], true⟩
def R_laws_FnReports_l2 (list : List Estimate) (bad : Int) (model : List (List (List UInt8))) (curve : List Point) (n : Int) (lines : List (List UInt8)) (y : Int × Bool) : Res := (.exit 2, ⟨[.any, .any, .sl 5 (List.map Estimate_av list), .any, .int .i64 bad, .own 3200000, .any, .any, .any, .any, .any, .any, .any, .sl 2 (List.map Point_av curve), .any, .int .i64 n, .any, .any, .sl 1 (List.map AV.str lines), .any, .any, .int .i64 y.1, .bool y.2, .any, .any, .any, .any, .any], [], [(3200000, ⟨1, List.map (slE 1 AV.str) model⟩)], true⟩)
set_option maxHeartbeats 64000000 in
theorem laws_FnReports_l2_ex {list : List Estimate} {bad : Int} {model : List (List (List UInt8))} {curve : List Point} {n : Int} {lines : List (List UInt8)} {sgm_ : Int × Bool × Int} {rho_ : Int × Bool} (h : whileE (laws_FnReports_l2 list bad model curve n lines) sgm_ = some rho_) : ∃ L0, ∀ L, L0 ≤ L → iter (exec (look t_laws_FnReports) L ir3_b1) ir3_k1 ir3_o1 ir3_r1 L (E_laws_FnReports_l2 list bad model curve n lines sgm_) = R_laws_FnReports_l2 list bad model curve n lines rho_ := by
 refine loop_ex (E := E_laws_FnReports_l2 list bad model curve n lines) (R := R_laws_FnReports_l2 list bad model curve n lines) (fun y => by first | (intro c; cases c) | (rcases y with y | y <;> (intro c; cases c)) | (rcases y with y | y | y <;> (intro c; cases c))) ?_ h
 clear h
 rintro ⟨stars, first, i⟩ o_ h
 dsimp only [laws_FnReports_l2] at h
 rcases it_some h with ⟨z22, h⟩ | ⟨z22, h⟩
 ·try simp only [go_sem, n1, n2, n3, n4] at z22
  all_goals
  obtain ⟨y_27, z27, h⟩ := bd_some h
  obtain ⟨Lz27, ez27⟩ := laws_FnReports_l3_ex z27
  obtain rfl := so_some h
  refine ⟨Lz27, fun L hL => ?_⟩
  have ez27 := ez27 L (by omega)
  try simp only [go_sem, E_laws_FnReports_l2, R_laws_FnReports_l2, ir3_b1, ir3_k1, ir3_o1, ir3_r1, E_laws_FnReports_l1, R_laws_FnReports_l1, ir3_k0, ir3_o0, ir3_r0, E_laws_FnReports_l3, R_laws_FnReports_l3, ir3_k2, ir3_o2, ir3_r2, z22] at ez27
  simp only [go_sem, ir3, E_laws_FnReports_l2, R_laws_FnReports_l2, ir3_b1, ir3_k1, ir3_o1, ir3_r1, E_laws_FnReports_l1, R_laws_FnReports_l1, ir3_k0, ir3_o0, ir3_r0, E_laws_FnReports_l3, R_laws_FnReports_l3, ir3_k2, ir3_o2, ir3_r2, z22, ez27]
 ·try simp only [go_sem, n1, n2, n3, n4] at z22
  all_goals
  obtain rfl := so_some h
  refine ⟨0, fun L hL => ?_⟩
  simp only [go_sem, ir3, E_laws_FnReports_l2, R_laws_FnReports_l2, ir3_b1, ir3_k1, ir3_o1, ir3_r1, E_laws_FnReports_l1, R_laws_FnReports_l1, ir3_k0, ir3_o0, ir3_r0, E_laws_FnReports_l3, R_laws_FnReports_l3, ir3_k2, ir3_o2, ir3_r2, z22]

def E_laws_FnReports_l4 (model : List (List (List UInt8))) (names : List (List UInt8)) : Int → St
 | i => ⟨[.any, .any, .any, .any, .any, .own 3200000, .any, .any, .any, .any, .any, .any, .any, .any, .any, .any, .any, .any, .any, .any, .any, .any, .any, .any, .any, .own 3200032, .any, .int .i64 i], [], [(3200000, ⟨1, List.map (slE 1 AV.str) model⟩), (3200032, ⟨1, List.map AV.str names⟩)], true⟩
def R_laws_FnReports_l4 (model : List (List (List UInt8))) (names : List (List UInt8)) : (Unit ⊕ Bool) → Res
 | .inl y => (.exit 6, ⟨[.any, .any, .any, .any, .any, .any, .any, .any, .any, .any, .any, .any, .any, .any, .any, .any, .any, .any, .any, .any, .any, .any, .any, .any, .any, .any, .any, .any], [], [], true⟩)
 | .inr y => (.ret, ⟨[.any, .bool y, .any, .any, .any, .any, .any, .any, .any, .any, .any, .any, .any, .any, .any, .any, .any, .any, .any, .any, .any, .any, .any, .any, .any, .any, .any, .any], [], [], true⟩)
set_option maxHeartbeats 64000000 in
theorem laws_FnReports_l4_ex {model : List (List (List UInt8))} {names : List (List UInt8)} {sgm_ : Int} {rho_ : Unit ⊕ Bool} (h : whileE (laws_FnReports_l4 model names) sgm_ = some rho_) : ∃ L0, ∀ L, L0 ≤ L → iter (exec (look t_laws_FnReports) L ir3_b3) ir3_k3 ir3_o3 ir3_r3 L (E_laws_FnReports_l4 model names sgm_) = R_laws_FnReports_l4 model names rho_ := by
 refine loop_ex (E := E_laws_FnReports_l4 model names) (R := R_laws_FnReports_l4 model names) (fun y => by first | (intro c; cases c) | (rcases y with y | y <;> (intro c; cases c)) | (rcases y with y | y | y <;> (intro c; cases c))) ?_ h
 clear h
 intro i o_ h
 dsimp only [laws_FnReports_l4] at h
 rcases it_some h with ⟨z33, h⟩ | ⟨z33, h⟩
 ·try simp only [go_sem, n1, n2, n3, n4] at z33
  all_goals
  obtain ⟨z34, h⟩ := ck_some h
  have lz34 := ix_lt z34
  have xz34 := getD_mapD (slE 1 AV.str) model lz34
  try simp only [go_sem] at lz34
  try simp only [go_sem] at xz34
  try simp only [go_sem, n1, n2, n3, n4, z33] at z34
  all_goals
  obtain ⟨z35, h⟩ := ck_some h
  rcases or_split z35 with ⟨gz35, z35⟩ | gz35
  ·try simp only [go_sem, n1, n2, n3, n4, z33, z34] at gz35
   all_goals
   have lz35 := ix_lt z35
   have xz35 := getD_mapD AV.str (model.getD i.toNat default) lz35
   try simp only [go_sem] at lz35
   try simp only [go_sem] at xz35
   try simp only [go_sem, n1, n2, n3, n4, z33, z34, gz35] at z35
   all_goals
   obtain ⟨z36, h⟩ := ck_some h
   rcases or_split z36 with ⟨gz36, z36⟩ | gz36
   ·try simp only [go_sem, n1, n2, n3, n4, z33, z34, gz35, z35] at gz36
    all_goals
    have lz36 := ix_lt z36
    have xz36 := getD_mapD AV.str names lz36
    try simp only [go_sem] at lz36
    try simp only [go_sem] at xz36
    try simp only [go_sem, n1, n2, n3, n4, z33, z34, gz35, z35, gz36] at z36
    all_goals
    rcases it_some h with ⟨z37, h⟩ | ⟨z37, h⟩
    ·try simp only [go_sem, n1, n2, n3, n4, z33, z34, gz35, z35, gz36, z36] at z37
     all_goals
     obtain rfl := so_some h
     refine ⟨0, fun L hL => ?_⟩
     simp only [go_sem, ir3, E_laws_FnReports_l4, R_laws_FnReports_l4, ir3_b3, ir3_k3, ir3_o3, ir3_r3, E_laws_FnReports_l1, R_laws_FnReports_l1, ir3_k0, ir3_o0, ir3_r0, E_laws_FnReports_l3, R_laws_FnReports_l3, ir3_k2, ir3_o2, ir3_r2, E_laws_FnReports_l2, R_laws_FnReports_l2, ir3_k1, ir3_o1, ir3_r1, z33, z34, lz34, xz34, gz35, z35, lz35, xz35, gz36, z36, lz36, xz36, z37]
    ·try simp only [go_sem, n1, n2, n3, n4, z33, z34, gz35, z35, gz36, z36] at z37
     all_goals
     obtain rfl := so_some h
     refine ⟨0, fun L hL => ?_⟩
     simp only [go_sem, ir3, E_laws_FnReports_l4, R_laws_FnReports_l4, ir3_b3, ir3_k3, ir3_o3, ir3_r3, E_laws_FnReports_l1, R_laws_FnReports_l1, ir3_k0, ir3_o0, ir3_r0, E_laws_FnReports_l3, R_laws_FnReports_l3, ir3_k2, ir3_o2, ir3_r2, E_laws_FnReports_l2, R_laws_FnReports_l2, ir3_k1, ir3_o1, ir3_r1, z33, z34, lz34, xz34, gz35, z35, lz35, xz35, gz36, z36, lz36, xz36, z37]
   ·have gz36n := no_f gz36
    have gz36nn := no_t gz36n
    try simp only [go_sem, n1, n2, n3, n4, z33, z34, gz35, z35] at gz36nn
    all_goals
    rcases it_some h with ⟨z37, h⟩ | ⟨z37, h⟩
    ·try simp only [go_sem, n1, n2, n3, n4, z33, z34, gz35, z35, gz36nn] at z37
     all_goals
     obtain rfl := so_some h
     refine ⟨0, fun L hL => ?_⟩
     simp only [go_sem, ir3, E_laws_FnReports_l4, R_laws_FnReports_l4, ir3_b3, ir3_k3, ir3_o3, ir3_r3, E_laws_FnReports_l1, R_laws_FnReports_l1, ir3_k0, ir3_o0, ir3_r0, E_laws_FnReports_l3, R_laws_FnReports_l3, ir3_k2, ir3_o2, ir3_r2, E_laws_FnReports_l2, R_laws_FnReports_l2, ir3_k1, ir3_o1, ir3_r1, z33, z34, lz34, xz34, gz35, z35, lz35, xz35, gz36nn, z37]
    ·try simp only [go_sem, n1, n2, n3, n4, z33, z34, gz35, z35, gz36nn] at z37
     all_goals
     obtain rfl := so_some h
     refine ⟨0, fun L hL => ?_⟩
     simp only [go_sem, ir3, E_laws_FnReports_l4, R_laws_FnReports_l4, ir3_b3, ir3_k3, ir3_o3, ir3_r3, E_laws_FnReports_l1, R_laws_FnReports_l1, ir3_k0, ir3_o0, ir3_r0, E_laws_FnReports_l3, R_laws_FnReports_l3, ir3_k2, ir3_o2, ir3_r2, E_laws_FnReports_l2, R_laws_FnReports_l2, ir3_k1, ir3_o1, ir3_r1, z33, z34, lz34, xz34, gz35, z35, lz35, xz35, gz36nn, z37]
  ·have gz35n := no_f gz35
   have gz35nn := no_t gz35n
   try simp only [go_sem, n1, n2, n3, n4, z33, z34] at gz35nn
   all_goals
   obtain ⟨z36, h⟩ := ck_some h
   rcases it_some h with ⟨z37, h⟩ | ⟨z37, h⟩
   ·try simp only [go_sem, n1, n2, n3, n4, z33, z34, gz35nn] at z37
    all_goals
    obtain rfl := so_some h
    refine ⟨0, fun L hL => ?_⟩
    simp only [go_sem, ir3, E_laws_FnReports_l4, R_laws_FnReports_l4, ir3_b3, ir3_k3, ir3_o3, ir3_r3, E_laws_FnReports_l1, R_laws_FnReports_l1, ir3_k0, ir3_o0, ir3_r0, E_laws_FnReports_l3, R_laws_FnReports_l3, ir3_k2, ir3_o2, ir3_r2, E_laws_FnReports_l2, R_laws_FnReports_l2, ir3_k1, ir3_o1, ir3_r1, z33, z34, lz34, xz34, gz35nn, z37]
   ·try simp only [go_sem, n1, n2, n3, n4, z33, z34, gz35nn] at z37
    all_goals
    (simp_all)
 ·try simp only [go_sem, n1, n2, n3, n4] at z33
  all_goals
  obtain rfl := so_some h
  refine ⟨0, fun L hL => ?_⟩
  simp only [go_sem, ir3, E_laws_FnReports_l4, R_laws_FnReports_l4, ir3_b3, ir3_k3, ir3_o3, ir3_r3, E_laws_FnReports_l1, R_laws_FnReports_l1, ir3_k0, ir3_o0, ir3_r0, E_laws_FnReports_l3, R_laws_FnReports_l3, ir3_k2, ir3_o2, ir3_r2, E_laws_FnReports_l2, R_laws_FnReports_l2, ir3_k1, ir3_o1, ir3_r1, z33]

def E_laws_FnReports_l5 (model : List (List (List UInt8))) (names : List (List UInt8)) : Int → St
 | i => ⟨[.any, .any, .any, .any, .any, .own 3200000, .any, .any, .any, .any, .any, .any, .any, .any, .any, .any, .any, .any, .any, .any, .any, .any, .any, .any, .any, .own 3200032, .any, .int .i64 i], [], [(3200000, ⟨1, List.map (slE 1 AV.str) model⟩), (3200032, ⟨1, List.map AV.str names⟩)], true⟩
def R_laws_FnReports_l5 (model : List (List (List UInt8))) (names : List (List UInt8)) : (Unit ⊕ Bool) → Res
 | .inl y => (.exit 6, ⟨[.any, .any, .any, .any, .any, .any, .any, .any, .any, .any, .any, .any, .any, .any, .any, .any, .any, .any, .any, .any, .any, .any, .any, .any, .any, .any, .any, .any], [], [], true⟩)
 | .inr y => (.ret, ⟨[.any, .bool y, .any, .any, .any, .any, .any, .any, .any, .any, .any, .any, .any, .any, .any, .any, .any, .any, .any, .any, .any, .any, .any, .any, .any, .any, .any, .any], [], [], true⟩)
set_option maxHeartbeats 64000000 in
theorem laws_FnReports_l5_ex {model : List (List (List UInt8))} {names : List (List UInt8)} {sgm_ : Int} {rho_ : Unit ⊕ Bool} (h : whileE (laws_FnReports_l5 model names) sgm_ = some rho_) : ∃ L0, ∀ L, L0 ≤ L → iter (exec (look t_laws_FnReports) L ir3_b3) ir3_k3 ir3_o3 ir3_r3 L (E_laws_FnReports_l5 model names sgm_) = R_laws_FnReports_l5 model names rho_ := by
 refine loop_ex (E := E_laws_FnReports_l5 model names) (R := R_laws_FnReports_l5 model names) (fun y => by first | (intro c; cases c) | (rcases y with y | y <;> (intro c; cases c)) | (rcases y with y | y | y <;> (intro c; cases c))) ?_ h
 clear h
 intro i o_ h
 dsimp only [laws_FnReports_l5] at h
 rcases it_some h with ⟨z42, h⟩ | ⟨z42, h⟩
 ·try simp only [go_sem, n1, n2, n3, n4] at z42
  all_goals
  obtain ⟨z43, h⟩ := ck_some h
  have lz43 := ix_lt z43
  have xz43 := getD_mapD (slE 1 AV.str) model lz43
  try simp only [go_sem] at lz43
  try simp only [go_sem] at xz43
  try simp only [go_sem, n1, n2, n3, n4, z42] at z43
  all_goals
  obtain ⟨z44, h⟩ := ck_some h
  rcases or_split z44 with ⟨gz44, z44⟩ | gz44
  ·try simp only [go_sem, n1, n2, n3, n4, z42, z43] at gz44
   all_goals
   have lz44 := ix_lt z44
   have xz44 := getD_mapD AV.str (model.getD i.toNat default) lz44
   try simp only [go_sem] at lz44
   try simp only [go_sem] at xz44
   try simp only [go_sem, n1, n2, n3, n4, z42, z43, gz44] at z44
   all_goals
   obtain ⟨z45, h⟩ := ck_some h
   rcases or_split z45 with ⟨gz45, z45⟩ | gz45
   ·try simp only [go_sem, n1, n2, n3, n4, z42, z43, gz44, z44] at gz45
    all_goals
    have lz45 := ix_lt z45
    have xz45 := getD_mapD AV.str names lz45
    try simp only [go_sem] at lz45
    try simp only [go_sem] at xz45
    try simp only [go_sem, n1, n2, n3, n4, z42, z43, gz44, z44, gz45] at z45
    all_goals
    rcases it_some h with ⟨z46, h⟩ | ⟨z46, h⟩
    ·try simp only [go_sem, n1, n2, n3, n4, z42, z43, gz44, z44, gz45, z45] at z46
     all_goals
     obtain rfl := so_some h
     refine ⟨0, fun L hL => ?_⟩
     simp only [go_sem, ir3, E_laws_FnReports_l5, R_laws_FnReports_l5, ir3_b3, ir3_k3, ir3_o3, ir3_r3, E_laws_FnReports_l1, R_laws_FnReports_l1, ir3_k0, ir3_o0, ir3_r0, E_laws_FnReports_l3, R_laws_FnReports_l3, ir3_k2, ir3_o2, ir3_r2, E_laws_FnReports_l2, R_laws_FnReports_l2, ir3_k1, ir3_o1, ir3_r1, E_laws_FnReports_l4, R_laws_FnReports_l4, ir3_k3, ir3_o3, ir3_r3, z42, z43, lz43, xz43, gz44, z44, lz44, xz44, gz45, z45, lz45, xz45, z46]
    ·try simp only [go_sem, n1, n2, n3, n4, z42, z43, gz44, z44, gz45, z45] at z46
     all_goals
     obtain rfl := so_some h
     refine ⟨0, fun L hL => ?_⟩
     simp only [go_sem, ir3, E_laws_FnReports_l5, R_laws_FnReports_l5, ir3_b3, ir3_k3, ir3_o3, ir3_r3, E_laws_FnReports_l1, R_laws_FnReports_l1, ir3_k0, ir3_o0, ir3_r0, E_laws_FnReports_l3, R_laws_FnReports_l3, ir3_k2, ir3_o2, ir3_r2, E_laws_FnReports_l2, R_laws_FnReports_l2, ir3_k1, ir3_o1, ir3_r1, E_laws_FnReports_l4, R_laws_FnReports_l4, ir3_k3, ir3_o3, ir3_r3, z42, z43, lz43, xz43, gz44, z44, lz44, xz44, gz45, z45, lz45, xz45, z46]
   ·have gz45n := no_f gz45
    have gz45nn := no_t gz45n
    try simp only [go_sem, n1, n2, n3, n4, z42, z43, gz44, z44] at gz45nn
    all_goals
    rcases it_some h with ⟨z46, h⟩ | ⟨z46, h⟩
    ·try simp only [go_sem, n1, n2, n3, n4, z42, z43, gz44, z44, gz45nn] at z46
     all_goals
     obtain rfl := so_some h
     refine ⟨0, fun L hL => ?_⟩
     simp only [go_sem, ir3, E_laws_FnReports_l5, R_laws_FnReports_l5, ir3_b3, ir3_k3, ir3_o3, ir3_r3, E_laws_FnReports_l1, R_laws_FnReports_l1, ir3_k0, ir3_o0, ir3_r0, E_laws_FnReports_l3, R_laws_FnReports_l3, ir3_k2, ir3_o2, ir3_r2, E_laws_FnReports_l2, R_laws_FnReports_l2, ir3_k1, ir3_o1, ir3_r1, E_laws_FnReports_l4, R_laws_FnReports_l4, ir3_k3, ir3_o3, ir3_r3, z42, z43, lz43, xz43, gz44, z44, lz44, xz44, gz45nn, z46]
    ·try simp only [go_sem, n1, n2, n3, n4, z42, z43, gz44, z44, gz45nn] at z46
     all_goals
     obtain rfl := so_some h
     refine ⟨0, fun L hL => ?_⟩
     simp only [go_sem, ir3, E_laws_FnReports_l5, R_laws_FnReports_l5, ir3_b3, ir3_k3, ir3_o3, ir3_r3, E_laws_FnReports_l1, R_laws_FnReports_l1, ir3_k0, ir3_o0, ir3_r0, E_laws_FnReports_l3, R_laws_FnReports_l3, ir3_k2, ir3_o2, ir3_r2, E_laws_FnReports_l2, R_laws_FnReports_l2, ir3_k1, ir3_o1, ir3_r1, E_laws_FnReports_l4, R_laws_FnReports_l4, ir3_k3, ir3_o3, ir3_r3, z42, z43, lz43, xz43, gz44, z44, lz44, xz44, gz45nn, z46]
  ·have gz44n := no_f gz44
   have gz44nn := no_t gz44n
   try simp only [go_sem, n1, n2, n3, n4, z42, z43] at gz44nn
   all_goals
   obtain ⟨z45, h⟩ := ck_some h
   rcases it_some h with ⟨z46, h⟩ | ⟨z46, h⟩
   ·try simp only [go_sem, n1, n2, n3, n4, z42, z43, gz44nn] at z46
    all_goals
    obtain rfl := so_some h
    refine ⟨0, fun L hL => ?_⟩
    simp only [go_sem, ir3, E_laws_FnReports_l5, R_laws_FnReports_l5, ir3_b3, ir3_k3, ir3_o3, ir3_r3, E_laws_FnReports_l1, R_laws_FnReports_l1, ir3_k0, ir3_o0, ir3_r0, E_laws_FnReports_l3, R_laws_FnReports_l3, ir3_k2, ir3_o2, ir3_r2, E_laws_FnReports_l2, R_laws_FnReports_l2, ir3_k1, ir3_o1, ir3_r1, E_laws_FnReports_l4, R_laws_FnReports_l4, ir3_k3, ir3_o3, ir3_r3, z42, z43, lz43, xz43, gz44nn, z46]
   ·try simp only [go_sem, n1, n2, n3, n4, z42, z43, gz44nn] at z46
    all_goals
    (simp_all)
 ·try simp only [go_sem, n1, n2, n3, n4] at z42
  all_goals
  obtain rfl := so_some h
  refine ⟨0, fun L hL => ?_⟩
  simp only [go_sem, ir3, E_laws_FnReports_l5, R_laws_FnReports_l5, ir3_b3, ir3_k3, ir3_o3, ir3_r3, E_laws_FnReports_l1, R_laws_FnReports_l1, ir3_k0, ir3_o0, ir3_r0, E_laws_FnReports_l3, R_laws_FnReports_l3, ir3_k2, ir3_o2, ir3_r2, E_laws_FnReports_l2, R_laws_FnReports_l2, ir3_k1, ir3_o1, ir3_r1, E_laws_FnReports_l4, R_laws_FnReports_l4, ir3_k3, ir3_o3, ir3_r3, z42]

set_option maxHeartbeats 64000000 in
theorem Fs_laws_FnReports {code : List UInt8} {y_ : Bool} (h : laws_FnReports code = some y_) : c_laws_FnReports.F [.sl 1 (List.map byteAV code)] = ⟨true, .bool y_, [.any]⟩ := by
 refine mkF_E rfl ?_
 dsimp only [laws_FnReports] at h
 obtain ⟨y_1, z1, h⟩ := bd_some h
 have fz1 := Fs_1 z1
 try simp only [go_sem] at fz1
 rcases it_some h with ⟨z2, h⟩ | ⟨z2, h⟩
 ·try simp only [go_sem, n1, n2, n3, n4] at z2
  all_goals
  obtain rfl := so_some h
  refine ⟨0, fun L hL => ?_⟩
  simp only [go_sem, ir3, E_laws_FnReports_l1, R_laws_FnReports_l1, ir3_k0, ir3_o0, ir3_r0, E_laws_FnReports_l3, R_laws_FnReports_l3, ir3_k2, ir3_o2, ir3_r2, E_laws_FnReports_l2, R_laws_FnReports_l2, ir3_k1, ir3_o1, ir3_r1, E_laws_FnReports_l4, R_laws_FnReports_l4, ir3_k3, ir3_o3, ir3_r3, E_laws_FnReports_l5, R_laws_FnReports_l5, ir3_k3, ir3_o3, ir3_r3, fz1, z2]
 ·try simp only [go_sem, n1, n2, n3, n4] at z2
  all_goals
  obtain ⟨y_3, z3, h⟩ := bd_some h
  have fz3 := Fs_17 z3
  try simp only [go_sem, z2] at fz3
  obtain ⟨y_4, z4, h⟩ := bd_some h
  have fz4 := Fs_55 z4
  try simp only [go_sem, z2] at fz4
  obtain ⟨y_5, z5, h⟩ := bd_some h
  have fz5 := Fs_72 z5
  try simp only [go_sem, z2] at fz5
  obtain ⟨y_6, z6, h⟩ := bd_some h
  have fz6 := Fs_74 z6
  try simp only [go_sem, z2] at fz6
  obtain ⟨y_7, z7, h⟩ := bd_some h
  have fz7 := Fs_75 z7
  try simp only [go_sem, z2] at fz7
  obtain ⟨y_8, z8, h⟩ := bd_some h
  have fz8 := Fs_76 z8
  try simp only [go_sem, z2] at fz8
  obtain ⟨y_9, z9, h⟩ := bd_some h
  have fz9 := Fs_79 z9
  try simp only [go_sem, z2] at fz9
  obtain ⟨y_10, z10, h⟩ := bd_some h
  have fz10 := Fs_impl_PlotLines z10
  try simp only [go_sem, z2] at fz10
  obtain ⟨y_11, z11, h⟩ := bd_some h
  have fz11 := Fs_spec_PlotLines z11
  try simp only [go_sem, z2] at fz11
  obtain ⟨z12, h⟩ := ck_some h
  rcases or_split z12 with ⟨gz12, z12⟩ | gz12
  ·try simp only [go_sem, n1, n2, n3, n4, z2] at gz12
   all_goals
   obtain ⟨y_12, hz12⟩ := Option.isSome_iff_exists.1 z12
   have fz12 := Fs_0 hz12
   try simp only [go_sem, n1, n2, n3, n4, z2, gz12] at hz12
   all_goals
   try simp only [go_sem, z2, gz12] at fz12
   obtain ⟨z13, h⟩ := ck_some h
   rcases or_split z13 with ⟨gz13, z13⟩ | gz13
   ·try simp only [go_sem, n1, n2, n3, n4, z2, gz12, hz12] at gz13
    all_goals
    obtain ⟨y_13, hz13⟩ := Option.isSome_iff_exists.1 z13
    have fz13 := Fs_0 hz13
    try simp only [go_sem, n1, n2, n3, n4, z2, gz12, hz12, gz13] at hz13
    all_goals
    try simp only [go_sem, z2, gz12, hz12, gz13] at fz13
    rcases it_some h with ⟨z14, h⟩ | ⟨z14, h⟩
    ·try simp only [go_sem, n1, n2, n3, n4, z2, gz12, hz12, gz13, hz13] at z14
     all_goals
     obtain rfl := so_some h
     refine ⟨0, fun L hL => ?_⟩
     simp only [go_sem, ir3, E_laws_FnReports_l1, R_laws_FnReports_l1, ir3_k0, ir3_o0, ir3_r0, E_laws_FnReports_l3, R_laws_FnReports_l3, ir3_k2, ir3_o2, ir3_r2, E_laws_FnReports_l2, R_laws_FnReports_l2, ir3_k1, ir3_o1, ir3_r1, E_laws_FnReports_l4, R_laws_FnReports_l4, ir3_k3, ir3_o3, ir3_r3, E_laws_FnReports_l5, R_laws_FnReports_l5, ir3_k3, ir3_o3, ir3_r3, fz1, z2, fz3, fz4, fz5, fz6, fz7, fz8, fz9, fz10, fz11, gz12, hz12, fz12, gz13, hz13, fz13, z14]
    ·try simp only [go_sem, n1, n2, n3, n4, z2, gz12, hz12, gz13, hz13] at z14
     all_goals
     obtain ⟨y_20, z20, h⟩ := bd_some h
     obtain ⟨Lz20, ez20⟩ := laws_FnReports_l1_ex z20
     rcases y_20 with y_20a | y_20b
     ·dsimp only at h
      rcases it_some h with ⟨z21, h⟩ | ⟨z21, h⟩
      ·try simp only [go_sem, n1, n2, n3, n4, z2, gz12, hz12, gz13, hz13, z14] at z21
       all_goals
       obtain ⟨y_28, z28, h⟩ := bd_some h
       obtain ⟨Lz28, ez28⟩ := laws_FnReports_l2_ex z28
       rcases it_some h with ⟨z29, h⟩ | ⟨z29, h⟩
       ·try simp only [go_sem, n1, n2, n3, n4, z2, gz12, hz12, gz13, hz13, z14, z21] at z29
        all_goals
        obtain rfl := so_some h
        refine ⟨Lz20 + Lz28, fun L hL => ?_⟩
        have ez20 := ez20 L (by omega)
        have ez28 := ez28 L (by omega)
        try simp only [go_sem, E_laws_FnReports_l1, R_laws_FnReports_l1, ir3_k0, ir3_o0, ir3_r0, E_laws_FnReports_l3, R_laws_FnReports_l3, ir3_k2, ir3_o2, ir3_r2, E_laws_FnReports_l2, R_laws_FnReports_l2, ir3_k1, ir3_o1, ir3_r1, E_laws_FnReports_l4, R_laws_FnReports_l4, ir3_k3, ir3_o3, ir3_r3, E_laws_FnReports_l5, R_laws_FnReports_l5, ir3_k3, ir3_o3, ir3_r3, z2, gz12, hz12, gz13, hz13, z14, z21, z29] at ez20
        try simp only [go_sem, E_laws_FnReports_l1, R_laws_FnReports_l1, ir3_k0, ir3_o0, ir3_r0, E_laws_FnReports_l3, R_laws_FnReports_l3, ir3_k2, ir3_o2, ir3_r2, E_laws_FnReports_l2, R_laws_FnReports_l2, ir3_k1, ir3_o1, ir3_r1, E_laws_FnReports_l4, R_laws_FnReports_l4, ir3_k3, ir3_o3, ir3_r3, E_laws_FnReports_l5, R_laws_FnReports_l5, ir3_k3, ir3_o3, ir3_r3, z2, gz12, hz12, gz13, hz13, z14, z21, z29] at ez28
        simp only [go_sem, ir3, E_laws_FnReports_l1, R_laws_FnReports_l1, ir3_k0, ir3_o0, ir3_r0, E_laws_FnReports_l3, R_laws_FnReports_l3, ir3_k2, ir3_o2, ir3_r2, E_laws_FnReports_l2, R_laws_FnReports_l2, ir3_k1, ir3_o1, ir3_r1, E_laws_FnReports_l4, R_laws_FnReports_l4, ir3_k3, ir3_o3, ir3_r3, E_laws_FnReports_l5, R_laws_FnReports_l5, ir3_k3, ir3_o3, ir3_r3, fz1, z2, fz3, fz4, fz5, fz6, fz7, fz8, fz9, fz10, fz11, gz12, hz12, fz12, gz13, hz13, fz13, z14, z21, z29, ez20, ez28]
       ·try simp only [go_sem, n1, n2, n3, n4, z2, gz12, hz12, gz13, hz13, z14, z21] at z29
        all_goals
        rcases it_some h with ⟨z30, h⟩ | ⟨z30, h⟩
        ·try simp only [go_sem, n1, n2, n3, n4, z2, gz12, hz12, gz13, hz13, z14, z21, z29] at z30
         all_goals
         obtain rfl := so_some h
         refine ⟨Lz20 + Lz28, fun L hL => ?_⟩
         have ez20 := ez20 L (by omega)
         have ez28 := ez28 L (by omega)
         try simp only [go_sem, E_laws_FnReports_l1, R_laws_FnReports_l1, ir3_k0, ir3_o0, ir3_r0, E_laws_FnReports_l3, R_laws_FnReports_l3, ir3_k2, ir3_o2, ir3_r2, E_laws_FnReports_l2, R_laws_FnReports_l2, ir3_k1, ir3_o1, ir3_r1, E_laws_FnReports_l4, R_laws_FnReports_l4, ir3_k3, ir3_o3, ir3_r3, E_laws_FnReports_l5, R_laws_FnReports_l5, ir3_k3, ir3_o3, ir3_r3, z2, gz12, hz12, gz13, hz13, z14, z21, z29, z30] at ez20
         try simp only [go_sem, E_laws_FnReports_l1, R_laws_FnReports_l1, ir3_k0, ir3_o0, ir3_r0, E_laws_FnReports_l3, R_laws_FnReports_l3, ir3_k2, ir3_o2, ir3_r2, E_laws_FnReports_l2, R_laws_FnReports_l2, ir3_k1, ir3_o1, ir3_r1, E_laws_FnReports_l4, R_laws_FnReports_l4, ir3_k3, ir3_o3, ir3_r3, E_laws_FnReports_l5, R_laws_FnReports_l5, ir3_k3, ir3_o3, ir3_r3, z2, gz12, hz12, gz13, hz13, z14, z21, z29, z30] at ez28
         simp only [go_sem, ir3, E_laws_FnReports_l1, R_laws_FnReports_l1, ir3_k0, ir3_o0, ir3_r0, E_laws_FnReports_l3, R_laws_FnReports_l3, ir3_k2, ir3_o2, ir3_r2, E_laws_FnReports_l2, R_laws_FnReports_l2, ir3_k1, ir3_o1, ir3_r1, E_laws_FnReports_l4, R_laws_FnReports_l4, ir3_k3, ir3_o3, ir3_r3, E_laws_FnReports_l5, R_laws_FnReports_l5, ir3_k3, ir3_o3, ir3_r3, fz1, z2, fz3, fz4, fz5, fz6, fz7, fz8, fz9, fz10, fz11, gz12, hz12, fz12, gz13, hz13, fz13, z14, z21, z29, z30, ez20, ez28]
        ·try simp only [go_sem, n1, n2, n3, n4, z2, gz12, hz12, gz13, hz13, z14, z21, z29] at z30
         all_goals
         obtain ⟨y_31, z31, h⟩ := bd_some h
         have fz31 := Fs_35 z31
         try simp only [go_sem, z2, gz12, hz12, gz13, hz13, z14, z21, z29, z30] at fz31
         rcases it_some h with ⟨z32, h⟩ | ⟨z32, h⟩
         ·try simp only [go_sem, n1, n2, n3, n4, z2, gz12, hz12, gz13, hz13, z14, z21, z29, z30] at z32
          all_goals
          obtain rfl := so_some h
          refine ⟨Lz20 + Lz28, fun L hL => ?_⟩
          have ez20 := ez20 L (by omega)
          have ez28 := ez28 L (by omega)
          try simp only [go_sem, E_laws_FnReports_l1, R_laws_FnReports_l1, ir3_k0, ir3_o0, ir3_r0, E_laws_FnReports_l3, R_laws_FnReports_l3, ir3_k2, ir3_o2, ir3_r2, E_laws_FnReports_l2, R_laws_FnReports_l2, ir3_k1, ir3_o1, ir3_r1, E_laws_FnReports_l4, R_laws_FnReports_l4, ir3_k3, ir3_o3, ir3_r3, E_laws_FnReports_l5, R_laws_FnReports_l5, ir3_k3, ir3_o3, ir3_r3, z2, gz12, hz12, gz13, hz13, z14, z21, z29, z30, z32] at ez20
          try simp only [go_sem, E_laws_FnReports_l1, R_laws_FnReports_l1, ir3_k0, ir3_o0, ir3_r0, E_laws_FnReports_l3, R_laws_FnReports_l3, ir3_k2, ir3_o2, ir3_r2, E_laws_FnReports_l2, R_laws_FnReports_l2, ir3_k1, ir3_o1, ir3_r1, E_laws_FnReports_l4, R_laws_FnReports_l4, ir3_k3, ir3_o3, ir3_r3, E_laws_FnReports_l5, R_laws_FnReports_l5, ir3_k3, ir3_o3, ir3_r3, z2, gz12, hz12, gz13, hz13, z14, z21, z29, z30, z32] at ez28
          simp only [go_sem, ir3, E_laws_FnReports_l1, R_laws_FnReports_l1, ir3_k0, ir3_o0, ir3_r0, E_laws_FnReports_l3, R_laws_FnReports_l3, ir3_k2, ir3_o2, ir3_r2, E_laws_FnReports_l2, R_laws_FnReports_l2, ir3_k1, ir3_o1, ir3_r1, E_laws_FnReports_l4, R_laws_FnReports_l4, ir3_k3, ir3_o3, ir3_r3, E_laws_FnReports_l5, R_laws_FnReports_l5, ir3_k3, ir3_o3, ir3_r3, fz1, z2, fz3, fz4, fz5, fz6, fz7, fz8, fz9, fz10, fz11, gz12, hz12, fz12, gz13, hz13, fz13, z14, z21, z29, z30, fz31, z32, ez20, ez28]
         ·try simp only [go_sem, n1, n2, n3, n4, z2, gz12, hz12, gz13, hz13, z14, z21, z29, z30] at z32
          all_goals
          obtain ⟨y_38, z38, h⟩ := bd_some h
          obtain ⟨Lz38, ez38⟩ := laws_FnReports_l4_ex z38
          rcases y_38 with y_38a | y_38b
          ·dsimp only at h
           obtain rfl := so_some h
           refine ⟨Lz20 + Lz28 + Lz38, fun L hL => ?_⟩
           have ez20 := ez20 L (by omega)
           have ez28 := ez28 L (by omega)
           have ez38 := ez38 L (by omega)
           try simp only [go_sem, E_laws_FnReports_l1, R_laws_FnReports_l1, ir3_k0, ir3_o0, ir3_r0, E_laws_FnReports_l3, R_laws_FnReports_l3, ir3_k2, ir3_o2, ir3_r2, E_laws_FnReports_l2, R_laws_FnReports_l2, ir3_k1, ir3_o1, ir3_r1, E_laws_FnReports_l4, R_laws_FnReports_l4, ir3_k3, ir3_o3, ir3_r3, E_laws_FnReports_l5, R_laws_FnReports_l5, ir3_k3, ir3_o3, ir3_r3, z2, gz12, hz12, gz13, hz13, z14, z21, z29, z30, z32] at ez20
           try simp only [go_sem, E_laws_FnReports_l1, R_laws_FnReports_l1, ir3_k0, ir3_o0, ir3_r0, E_laws_FnReports_l3, R_laws_FnReports_l3, ir3_k2, ir3_o2, ir3_r2, E_laws_FnReports_l2, R_laws_FnReports_l2, ir3_k1, ir3_o1, ir3_r1, E_laws_FnReports_l4, R_laws_FnReports_l4, ir3_k3, ir3_o3, ir3_r3, E_laws_FnReports_l5, R_laws_FnReports_l5, ir3_k3, ir3_o3, ir3_r3, z2, gz12, hz12, gz13, hz13, z14, z21, z29, z30, z32] at ez28
           try simp only [go_sem, E_laws_FnReports_l1, R_laws_FnReports_l1, ir3_k0, ir3_o0, ir3_r0, E_laws_FnReports_l3, R_laws_FnReports_l3, ir3_k2, ir3_o2, ir3_r2, E_laws_FnReports_l2, R_laws_FnReports_l2, ir3_k1, ir3_o1, ir3_r1, E_laws_FnReports_l4, R_laws_FnReports_l4, ir3_k3, ir3_o3, ir3_r3, E_laws_FnReports_l5, R_laws_FnReports_l5, ir3_k3, ir3_o3, ir3_r3, z2, gz12, hz12, gz13, hz13, z14, z21, z29, z30, z32] at ez38
           simp only [go_sem, ir3, E_laws_FnReports_l1, R_laws_FnReports_l1, ir3_k0, ir3_o0, ir3_r0, E_laws_FnReports_l3, R_laws_FnReports_l3, ir3_k2, ir3_o2, ir3_r2, E_laws_FnReports_l2, R_laws_FnReports_l2, ir3_k1, ir3_o1, ir3_r1, E_laws_FnReports_l4, R_laws_FnReports_l4, ir3_k3, ir3_o3, ir3_r3, E_laws_FnReports_l5, R_laws_FnReports_l5, ir3_k3, ir3_o3, ir3_r3, fz1, z2, fz3, fz4, fz5, fz6, fz7, fz8, fz9, fz10, fz11, gz12, hz12, fz12, gz13, hz13, fz13, z14, z21, z29, z30, fz31, z32, ez20, ez28, ez38]
          ·dsimp only at h
           obtain rfl := so_some h
           refine ⟨Lz20 + Lz28 + Lz38, fun L hL => ?_⟩
           have ez20 := ez20 L (by omega)
           have ez28 := ez28 L (by omega)
           have ez38 := ez38 L (by omega)
           try simp only [go_sem, E_laws_FnReports_l1, R_laws_FnReports_l1, ir3_k0, ir3_o0, ir3_r0, E_laws_FnReports_l3, R_laws_FnReports_l3, ir3_k2, ir3_o2, ir3_r2, E_laws_FnReports_l2, R_laws_FnReports_l2, ir3_k1, ir3_o1, ir3_r1, E_laws_FnReports_l4, R_laws_FnReports_l4, ir3_k3, ir3_o3, ir3_r3, E_laws_FnReports_l5, R_laws_FnReports_l5, ir3_k3, ir3_o3, ir3_r3, z2, gz12, hz12, gz13, hz13, z14, z21, z29, z30, z32] at ez20
           try simp only [go_sem, E_laws_FnReports_l1, R_laws_FnReports_l1, ir3_k0, ir3_o0, ir3_r0, E_laws_FnReports_l3, R_laws_FnReports_l3, ir3_k2, ir3_o2, ir3_r2, E_laws_FnReports_l2, R_laws_FnReports_l2, ir3_k1, ir3_o1, ir3_r1, E_laws_FnReports_l4, R_laws_FnReports_l4, ir3_k3, ir3_o3, ir3_r3, E_laws_FnReports_l5, R_laws_FnReports_l5, ir3_k3, ir3_o3, ir3_r3, z2, gz12, hz12, gz13, hz13, z14, z21, z29, z30, z32] at ez28
           try simp only [go_sem, E_laws_FnReports_l1, R_laws_FnReports_l1, ir3_k0, ir3_o0, ir3_r0, E_laws_FnReports_l3, R_laws_FnReports_l3, ir3_k2, ir3_o2, ir3_r2, E_laws_FnReports_l2, R_laws_FnReports_l2, ir3_k1, ir3_o1, ir3_r1, E_laws_FnReports_l4, R_laws_FnReports_l4, ir3_k3, ir3_o3, ir3_r3, E_laws_FnReports_l5, R_laws_FnReports_l5, ir3_k3, ir3_o3, ir3_r3, z2, gz12, hz12, gz13, hz13, z14, z21, z29, z30, z32] at ez38
           simp only [go_sem, ir3, E_laws_FnReports_l1, R_laws_FnReports_l1, ir3_k0, ir3_o0, ir3_r0, E_laws_FnReports_l3, R_laws_FnReports_l3, ir3_k2, ir3_o2, ir3_r2, E_laws_FnReports_l2, R_laws_FnReports_l2, ir3_k1, ir3_o1, ir3_r1, E_laws_FnReports_l4, R_laws_FnReports_l4, ir3_k3, ir3_o3, ir3_r3, E_laws_FnReports_l5, R_laws_FnReports_l5, ir3_k3, ir3_o3, ir3_r3, fz1, z2, fz3, fz4, fz5, fz6, fz7, fz8, fz9, fz10, fz11, gz12, hz12, fz12, gz13, hz13, fz13, z14, z21, z29, z30, fz31, z32, ez20, ez28, ez38]
      ·try simp only [go_sem, n1, n2, n3, n4, z2, gz12, hz12, gz13, hz13, z14] at z21
       all_goals
       rcases it_some h with ⟨z39, h⟩ | ⟨z39, h⟩
       ·try simp only [go_sem, n1, n2, n3, n4, z2, gz12, hz12, gz13, hz13, z14, z21] at z39
        all_goals
        obtain rfl := so_some h
        refine ⟨Lz20, fun L hL => ?_⟩
        have ez20 := ez20 L (by omega)
        try simp only [go_sem, E_laws_FnReports_l1, R_laws_FnReports_l1, ir3_k0, ir3_o0, ir3_r0, E_laws_FnReports_l3, R_laws_FnReports_l3, ir3_k2, ir3_o2, ir3_r2, E_laws_FnReports_l2, R_laws_FnReports_l2, ir3_k1, ir3_o1, ir3_r1, E_laws_FnReports_l4, R_laws_FnReports_l4, ir3_k3, ir3_o3, ir3_r3, E_laws_FnReports_l5, R_laws_FnReports_l5, ir3_k3, ir3_o3, ir3_r3, z2, gz12, hz12, gz13, hz13, z14, z21, z39] at ez20
        simp only [go_sem, ir3, E_laws_FnReports_l1, R_laws_FnReports_l1, ir3_k0, ir3_o0, ir3_r0, E_laws_FnReports_l3, R_laws_FnReports_l3, ir3_k2, ir3_o2, ir3_r2, E_laws_FnReports_l2, R_laws_FnReports_l2, ir3_k1, ir3_o1, ir3_r1, E_laws_FnReports_l4, R_laws_FnReports_l4, ir3_k3, ir3_o3, ir3_r3, E_laws_FnReports_l5, R_laws_FnReports_l5, ir3_k3, ir3_o3, ir3_r3, fz1, z2, fz3, fz4, fz5, fz6, fz7, fz8, fz9, fz10, fz11, gz12, hz12, fz12, gz13, hz13, fz13, z14, z21, z39, ez20]
       ·try simp only [go_sem, n1, n2, n3, n4, z2, gz12, hz12, gz13, hz13, z14, z21] at z39
        all_goals
        obtain ⟨y_40, z40, h⟩ := bd_some h
        have fz40 := Fs_35 z40
        try simp only [go_sem, z2, gz12, hz12, gz13, hz13, z14, z21, z39] at fz40
        rcases it_some h with ⟨z41, h⟩ | ⟨z41, h⟩
        ·try simp only [go_sem, n1, n2, n3, n4, z2, gz12, hz12, gz13, hz13, z14, z21, z39] at z41
         all_goals
         obtain rfl := so_some h
         refine ⟨Lz20, fun L hL => ?_⟩
         have ez20 := ez20 L (by omega)
         try simp only [go_sem, E_laws_FnReports_l1, R_laws_FnReports_l1, ir3_k0, ir3_o0, ir3_r0, E_laws_FnReports_l3, R_laws_FnReports_l3, ir3_k2, ir3_o2, ir3_r2, E_laws_FnReports_l2, R_laws_FnReports_l2, ir3_k1, ir3_o1, ir3_r1, E_laws_FnReports_l4, R_laws_FnReports_l4, ir3_k3, ir3_o3, ir3_r3, E_laws_FnReports_l5, R_laws_FnReports_l5, ir3_k3, ir3_o3, ir3_r3, z2, gz12, hz12, gz13, hz13, z14, z21, z39, z41] at ez20
         simp only [go_sem, ir3, E_laws_FnReports_l1, R_laws_FnReports_l1, ir3_k0, ir3_o0, ir3_r0, E_laws_FnReports_l3, R_laws_FnReports_l3, ir3_k2, ir3_o2, ir3_r2, E_laws_FnReports_l2, R_laws_FnReports_l2, ir3_k1, ir3_o1, ir3_r1, E_laws_FnReports_l4, R_laws_FnReports_l4, ir3_k3, ir3_o3, ir3_r3, E_laws_FnReports_l5, R_laws_FnReports_l5, ir3_k3, ir3_o3, ir3_r3, fz1, z2, fz3, fz4, fz5, fz6, fz7, fz8, fz9, fz10, fz11, gz12, hz12, fz12, gz13, hz13, fz13, z14, z21, z39, fz40, z41, ez20]
        ·try simp only [go_sem, n1, n2, n3, n4, z2, gz12, hz12, gz13, hz13, z14, z21, z39] at z41
         all_goals
         obtain ⟨y_47, z47, h⟩ := bd_some h
         obtain ⟨Lz47, ez47⟩ := laws_FnReports_l5_ex z47
         rcases y_47 with y_47a | y_47b
         ·dsimp only at h
          obtain rfl := so_some h
          refine ⟨Lz20 + Lz47, fun L hL => ?_⟩
          have ez20 := ez20 L (by omega)
          have ez47 := ez47 L (by omega)
          try simp only [go_sem, E_laws_FnReports_l1, R_laws_FnReports_l1, ir3_k0, ir3_o0, ir3_r0, E_laws_FnReports_l3, R_laws_FnReports_l3, ir3_k2, ir3_o2, ir3_r2, E_laws_FnReports_l2, R_laws_FnReports_l2, ir3_k1, ir3_o1, ir3_r1, E_laws_FnReports_l4, R_laws_FnReports_l4, ir3_k3, ir3_o3, ir3_r3, E_laws_FnReports_l5, R_laws_FnReports_l5, ir3_k3, ir3_o3, ir3_r3, z2, gz12, hz12, gz13, hz13, z14, z21, z39, z41] at ez20
          try simp only [go_sem, E_laws_FnReports_l1, R_laws_FnReports_l1, ir3_k0, ir3_o0, ir3_r0, E_laws_FnReports_l3, R_laws_FnReports_l3, ir3_k2, ir3_o2, ir3_r2, E_laws_FnReports_l2, R_laws_FnReports_l2, ir3_k1, ir3_o1, ir3_r1, E_laws_FnReports_l4, R_laws_FnReports_l4, ir3_k3, ir3_o3, ir3_r3, E_laws_FnReports_l5, R_laws_FnReports_l5, ir3_k3, ir3_o3, ir3_r3, z2, gz12, hz12, gz13, hz13, z14, z21, z39, z41] at ez47
          simp only [go_sem, ir3, E_laws_FnReports_l1, R_laws_FnReports_l1, ir3_k0, ir3_o0, ir3_r0, E_laws_FnReports_l3, R_laws_FnReports_l3, ir3_k2, ir3_o2, ir3_r2, E_laws_FnReports_l2, R_laws_FnReports_l2, ir3_k1, ir3_o1, ir3_r1, E_laws_FnReports_l4, R_laws_FnReports_l4, ir3_k3, ir3_o3, ir3_r3, E_laws_FnReports_l5, R_laws_FnReports_l5, ir3_k3, ir3_o3, ir3_r3, fz1, z2, fz3, fz4, fz5, fz6, fz7, fz8, fz9, fz10, fz11, gz12, hz12, fz12, gz13, hz13, fz13, z14, z21, z39, fz40, z41, ez20, ez47]
         ·dsimp only at h
          obtain rfl := so_some h
          refine ⟨Lz20 + Lz47, fun L hL => ?_⟩
          have ez20 := ez20 L (by omega)
          have ez47 := ez47 L (by omega)
          try simp only [go_sem, E_laws_FnReports_l1, R_laws_FnReports_l1, ir3_k0, ir3_o0, ir3_r0, E_laws_FnReports_l3, R_laws_FnReports_l3, ir3_k2, ir3_o2, ir3_r2, E_laws_FnReports_l2, R_laws_FnReports_l2, ir3_k1, ir3_o1, ir3_r1, E_laws_FnReports_l4, R_laws_FnReports_l4, ir3_k3, ir3_o3, ir3_r3, E_laws_FnReports_l5, R_laws_FnReports_l5, ir3_k3, ir3_o3, ir3_r3, z2, gz12, hz12, gz13, hz13, z14, z21, z39, z41] at ez20
          try simp only [go_sem, E_laws_FnReports_l1, R_laws_FnReports_l1, ir3_k0, ir3_o0, ir3_r0, E_laws_FnReports_l3, R_laws_FnReports_l3, ir3_k2, ir3_o2, ir3_r2, E_laws_FnReports_l2, R_laws_FnReports_l2, ir3_k1, ir3_o1, ir3_r1, E_laws_FnReports_l4, R_laws_FnReports_l4, ir3_k3, ir3_o3, ir3_r3, E_laws_FnReports_l5, R_laws_FnReports_l5, ir3_k3, ir3_o3, ir3_r3, z2, gz12, hz12, gz13, hz13, z14, z21, z39, z41] at ez47
          simp only [go_sem, ir3, E_laws_FnReports_l1, R_laws_FnReports_l1, ir3_k0, ir3_o0, ir3_r0, E_laws_FnReports_l3, R_laws_FnReports_l3, ir3_k2, ir3_o2, ir3_r2, E_laws_FnReports_l2, R_laws_FnReports_l2, ir3_k1, ir3_o1, ir3_r1, E_laws_FnReports_l4, R_laws_FnReports_l4, ir3_k3, ir3_o3, ir3_r3, E_laws_FnReports_l5, R_laws_FnReports_l5, ir3_k3, ir3_o3, ir3_r3, fz1, z2, fz3, fz4, fz5, fz6, fz7, fz8, fz9, fz10, fz11, gz12, hz12, fz12, gz13, hz13, fz13, z14, z21, z39, fz40, z41, ez20, ez47]
     ·dsimp only at h
      obtain rfl := so_some h
      refine ⟨Lz20, fun L hL => ?_⟩
      have ez20 := ez20 L (by omega)
      try simp only [go_sem, E_laws_FnReports_l1, R_laws_FnReports_l1, ir3_k0, ir3_o0, ir3_r0, E_laws_FnReports_l3, R_laws_FnReports_l3, ir3_k2, ir3_o2, ir3_r2, E_laws_FnReports_l2, R_laws_FnReports_l2, ir3_k1, ir3_o1, ir3_r1, E_laws_FnReports_l4, R_laws_FnReports_l4, ir3_k3, ir3_o3, ir3_r3, E_laws_FnReports_l5, R_laws_FnReports_l5, ir3_k3, ir3_o3, ir3_r3, z2, gz12, hz12, gz13, hz13, z14] at ez20
      simp only [go_sem, ir3, E_laws_FnReports_l1, R_laws_FnReports_l1, ir3_k0, ir3_o0, ir3_r0, E_laws_FnReports_l3, R_laws_FnReports_l3, ir3_k2, ir3_o2, ir3_r2, E_laws_FnReports_l2, R_laws_FnReports_l2, ir3_k1, ir3_o1, ir3_r1, E_laws_FnReports_l4, R_laws_FnReports_l4, ir3_k3, ir3_o3, ir3_r3, E_laws_FnReports_l5, R_laws_FnReports_l5, ir3_k3, ir3_o3, ir3_r3, fz1, z2, fz3, fz4, fz5, fz6, fz7, fz8, fz9, fz10, fz11, gz12, hz12, fz12, gz13, hz13, fz13, z14, ez20]
   ·have gz13n := no_f gz13
    try simp only [go_sem, n1, n2, n3, n4, z2, gz12, hz12] at gz13n
    all_goals
    rcases it_some h with ⟨z14, h⟩ | ⟨z14, h⟩
    ·try simp only [go_sem, n1, n2, n3, n4, z2, gz12, hz12, gz13n] at z14
     all_goals
     obtain rfl := so_some h
     refine ⟨0, fun L hL => ?_⟩
     simp only [go_sem, ir3, E_laws_FnReports_l1, R_laws_FnReports_l1, ir3_k0, ir3_o0, ir3_r0, E_laws_FnReports_l3, R_laws_FnReports_l3, ir3_k2, ir3_o2, ir3_r2, E_laws_FnReports_l2, R_laws_FnReports_l2, ir3_k1, ir3_o1, ir3_r1, E_laws_FnReports_l4, R_laws_FnReports_l4, ir3_k3, ir3_o3, ir3_r3, E_laws_FnReports_l5, R_laws_FnReports_l5, ir3_k3, ir3_o3, ir3_r3, fz1, z2, fz3, fz4, fz5, fz6, fz7, fz8, fz9, fz10, fz11, gz12, hz12, fz12, gz13n, z14]
    ·try simp only [go_sem, n1, n2, n3, n4, z2, gz12, hz12, gz13n] at z14
     all_goals
     (simp_all)
  ·have gz12n := no_f gz12
   rcases or_t gz12n with gz12na | ⟨gz12na, gz12nb⟩
   ·rcases or_t gz12na with gz12naa | ⟨gz12naa, gz12nab⟩
    ·have gz12naan := no_t gz12naa
     try simp only [go_sem, n1, n2, n3, n4, z2] at gz12naan
     all_goals
     obtain ⟨z13, h⟩ := ck_some h
     rcases it_some h with ⟨z14, h⟩ | ⟨z14, h⟩
     ·try simp only [go_sem, n1, n2, n3, n4, z2, gz12naan] at z14
      all_goals
      obtain rfl := so_some h
      refine ⟨0, fun L hL => ?_⟩
      simp only [go_sem, ir3, E_laws_FnReports_l1, R_laws_FnReports_l1, ir3_k0, ir3_o0, ir3_r0, E_laws_FnReports_l3, R_laws_FnReports_l3, ir3_k2, ir3_o2, ir3_r2, E_laws_FnReports_l2, R_laws_FnReports_l2, ir3_k1, ir3_o1, ir3_r1, E_laws_FnReports_l4, R_laws_FnReports_l4, ir3_k3, ir3_o3, ir3_r3, E_laws_FnReports_l5, R_laws_FnReports_l5, ir3_k3, ir3_o3, ir3_r3, fz1, z2, fz3, fz4, fz5, fz6, fz7, fz8, fz9, fz10, fz11, gz12naan, z14]
     ·try simp only [go_sem, n1, n2, n3, n4, z2, gz12naan] at z14
      all_goals
      (simp_all)
    ·have gz12naan := no_f gz12naa
     have gz12nabn := no_t gz12nab
     try simp only [go_sem, n1, n2, n3, n4, z2] at gz12naan
     all_goals
     try simp only [go_sem, n1, n2, n3, n4, z2, gz12naan] at gz12nabn
     all_goals
     obtain ⟨z13, h⟩ := ck_some h
     rcases it_some h with ⟨z14, h⟩ | ⟨z14, h⟩
     ·try simp only [go_sem, n1, n2, n3, n4, z2, gz12naan, gz12nabn] at z14
      all_goals
      obtain rfl := so_some h
      refine ⟨0, fun L hL => ?_⟩
      simp only [go_sem, ir3, E_laws_FnReports_l1, R_laws_FnReports_l1, ir3_k0, ir3_o0, ir3_r0, E_laws_FnReports_l3, R_laws_FnReports_l3, ir3_k2, ir3_o2, ir3_r2, E_laws_FnReports_l2, R_laws_FnReports_l2, ir3_k1, ir3_o1, ir3_r1, E_laws_FnReports_l4, R_laws_FnReports_l4, ir3_k3, ir3_o3, ir3_r3, E_laws_FnReports_l5, R_laws_FnReports_l5, ir3_k3, ir3_o3, ir3_r3, fz1, z2, fz3, fz4, fz5, fz6, fz7, fz8, fz9, fz10, fz11, gz12naan, gz12nabn, z14]
     ·try simp only [go_sem, n1, n2, n3, n4, z2, gz12naan, gz12nabn] at z14
      all_goals
      (simp_all)
   ·obtain ⟨gz12naa, gz12nab⟩ := or_f gz12na
    have gz12naan := no_f gz12naa
    have gz12nabn := no_f gz12nab
    have gz12nbn := no_t gz12nb
    try simp only [go_sem, n1, n2, n3, n4, z2] at gz12naan
    all_goals
    try simp only [go_sem, n1, n2, n3, n4, z2, gz12naan] at gz12nabn
    all_goals
    try simp only [go_sem, n1, n2, n3, n4, z2, gz12naan, gz12nabn] at gz12nbn
    all_goals
    obtain ⟨z13, h⟩ := ck_some h
    rcases it_some h with ⟨z14, h⟩ | ⟨z14, h⟩
    ·try simp only [go_sem, n1, n2, n3, n4, z2, gz12naan, gz12nabn, gz12nbn] at z14
     all_goals
     obtain rfl := so_some h
     refine ⟨0, fun L hL => ?_⟩
     simp only [go_sem, ir3, E_laws_FnReports_l1, R_laws_FnReports_l1, ir3_k0, ir3_o0, ir3_r0, E_laws_FnReports_l3, R_laws_FnReports_l3, ir3_k2, ir3_o2, ir3_r2, E_laws_FnReports_l2, R_laws_FnReports_l2, ir3_k1, ir3_o1, ir3_r1, E_laws_FnReports_l4, R_laws_FnReports_l4, ir3_k3, ir3_o3, ir3_r3, E_laws_FnReports_l5, R_laws_FnReports_l5, ir3_k3, ir3_o3, ir3_r3, fz1, z2, fz3, fz4, fz5, fz6, fz7, fz8, fz9, fz10, fz11, gz12naan, gz12nabn, gz12nbn, z14]
    ·try simp only [go_sem, n1, n2, n3, n4, z2, gz12naan, gz12nabn, gz12nbn] at z14
     all_goals
     (simp_all)


end Go.Proofs.YtbobhejdijcofaaGreatDoor
