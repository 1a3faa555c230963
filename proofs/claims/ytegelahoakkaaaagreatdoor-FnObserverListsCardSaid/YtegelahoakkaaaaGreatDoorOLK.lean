/- Codes and contracts of the functions that OL reaches, and that their typed forms say what they do. No condition. -/
import Derived.Test.YtegelahoakkaaaaGreatDoorOLKa
import Derived.Test.YtegelahoakkaaaaGreatDoorRows
import Derived.WalkKit
namespace Go.Proofs.YtegelahoakkaaaaGreatDoor
open Go Go.RowKit
set_option linter.unusedVariables false
set_option linter.unusedSimpArgs false
set_option maxRecDepth 10000

def ir3_v : List Nat := [0, 2, 3, 4, 5, 6, 7, 8, 9, 10, 11, 12, 13, 14, 15, 16, 17, 18, 19, 20, 21, 22, 23, 24, 25, 26, 27, 28, 29, 30, 31, 32, 33, 34, 35, 36, 37, 38, 39, 40, 41, 42]
def ir3 : AFn := ⟨1, 42, .seq (.region false [ VO 1 2 (.mov (.c (.bool false)))]) (.seq (.test false [ PM 43 0, PO 44 (.call 4 [(.s 0)])] (.s 0) (.seq (.region false [ VO 1 2 (.mov (.c (.bool true)))]) (.ret)) (.skip)) (.seq (.region false [ PM 46 0, PO 47 (.call 5 [(.s 0)]), PO 45 (.mov (.s 0)), PO 48 (.ext (.s 0) 0), PO 49 (.ext (.s 1) 1), VO 3 4 (.alloc (.agg [.str [], .int .i64 (0)])), VS 2 3 1, ⟨.no, 0, none, .store 2 (.v 3) (.s 0)⟩]) (.seq (.region false [ PM 51 2, PO 52 (.load true 2 (.v 3)), PO 53 (.call 6 [(.s 1), (.s 0)]), PO 50 (.mov (.s 0)), PO 54 (.ext (.s 0) 0), PO 55 (.ext (.s 1)
 1), VS 4 5 1, VS 5 6 0]) (.seq (.region false [ PM 57 2, PO 58 (.load true 2 (.v 3)), PO 59 (.call 7 [(.s 1), (.s 0)]), PO 56 (.mov (.s 0)), PO 60 (.ext (.s 0) 0), PO 61 (.ext (.s 1) 1), VS 6 7 1, VS 7 8 0]) (.seq (.region false [ PM 63 0, PO 64 (.call 8 [(.s 0)]), PO 62 (.mov (.s 0)), PO 65 (.ext (.s 0) 0), PO 66 (.ext (.s 1) 1), VS 8 9 1, VS 9 10 0]) (.seq (.region false [ PM 68 8, PM 69 9, PO 70 (.call 9 [(.s 1), (.s 0)]), PO 67 (.mov (.s 0)), PO 71 (.ext (.s 0) 0), PO 72 (.ext (.s 1) 1), VS 10 11 1, VS 11 12 0]) (.seq (.region false [ PM 74 8, PM 75 9, PO 76 (.call 10 [(.s 1), (.s 0)]), PO
 73 (.mov (.s 0)), PO 77 (.ext (.s 0) 0), PO 78 (.ext (.s 1) 1), VS 12 13 1, VS 13 14 0]) (.seq (.region false [ PM 80 0, PO 81 (.call 11 [(.s 0)]), PO 79 (.mov (.s 0)), PO 82 (.ext (.s 0) 0), PO 83 (.ext (.s 1) 1), PO 84 (.ext (.s 2) 2), VS 14 15 2, VS 15 16 1, VS 16 17 0]) (.seq (.region false [ PM 86 14, PM 87 15, PM 88 16, PO 89 (.call 12 [(.s 2), (.s 1), (.s 0)]), PO 85 (.mov (.s 0)), PO 90 (.ext (.s 0) 0), PO 91 (.ext (.s 1) 1), VS 17 18 1, VS 18 19 0]) (.seq (.region false [ PM 93 14, PM 94 15, PM 95 16, PO 96 (.call 13 [(.s 2), (.s 1), (.s 0)]), PO 92 (.mov (.s 0)), PO 97 (.ext (.s 0)
 0), PO 98 (.ext (.s 1) 1), VS 19 20 1, VS 20 21 0]) (.seq (.region false [ PM 100 0, PO 101 (.call 14 [(.s 0)]), PO 99 (.mov (.s 0)), PO 102 (.ext (.s 0) 0), PO 103 (.ext (.s 1) 1), VS 21 22 1, VS 22 23 0]) (.seq (.region false [ PM 105 21, PM 106 22, PO 107 (.call 15 [(.s 1), (.s 0)]), PO 104 (.mov (.s 0)), PO 108 (.ext (.s 0) 0), PO 109 (.ext (.s 1) 1), VS 23 24 1, VS 24 25 0]) (.seq (.region false [ PM 111 21, PM 112 22, PO 113 (.call 16 [(.s 1), (.s 0)]), PO 110 (.mov (.s 0)), PO 114 (.ext (.s 0) 0), PO 115 (.ext (.s 1) 1), VS 25 26 1, VS 26 27 0]) (.seq (.region false [ PM 116 0, PO 117
 (.call 17 [(.s 0)]), VO 27 28 (.alloc (.agg [.str [], .int .i64 (0)])), ⟨.no, 0, none, .store 2 (.v 27) (.s 0)⟩]) (.seq (.region false [ PO 118 (.load true 2 (.v 27)), PO 119 (.call 18 [(.s 0)]), VS 28 29 0]) (.seq (.region false [ PM 121 28, PO 122 (.call 19 [(.s 0)]), PO 120 (.mov (.s 0)), PO 123 (.ext (.s 0) 0), PO 124 (.ext (.s 1) 1), VO 29 30 (.alloc (.agg [.str [], .int .i64 (0)])), ⟨.no, 0, none, .store 2 (.v 29) (.s 1)⟩, VS 30 31 0]) (.seq (.region false [ PM 125 0, PO 126 (.call 20 [(.s 0)]), VS 31 32 0]) (.seq (.region false [ PM 128 31, PO 129 (.call 19 [(.s 0)]), PO 127 (.mov (.s
 0)), PO 130 (.ext (.s 0) 0), PO 131 (.ext (.s 1) 1), VO 32 33 (.alloc (.agg [.str [], .int .i64 (0)])), ⟨.no, 0, none, .store 2 (.v 32) (.s 1)⟩, VS 33 34 0]) (.seq (.region false [ PM 133 31, PO 134 (.call 21 [(.s 0)]), PO 132 (.mov (.s 0)), PO 135 (.ext (.s 0) 0), PO 136 (.ext (.s 1) 1), VO 34 35 (.alloc (.agg [.str [], .int .i64 (0)])), ⟨.no, 0, none, .store 2 (.v 34) (.s 1)⟩, VS 35 36 0]) (.seq (.region false [ PM 138 0, PO 139 (.call 22 [(.s 0)]), PO 137 (.mov (.s 0)), PO 140 (.ext (.s 0) 0), PO 141 (.ext (.s 1) 1), VS 36 37 1, VS 37 38 0]) (.seq (.test false [ PM 142 5, PM 143 7, PO 144
 (.bin false .neq (.s 1) (.s 0)), PO 145 (.mov (.s 0)), ⟨.push, 146, (some ((.s 0), false)), .mov (.v 4)⟩, ⟨.push, 147, (some ((.s 1), false)), .mov (.v 6)⟩, ⟨.push, 148, (some ((.s 2), false)), .call 23 [(.s 1), (.s 0)]⟩, ⟨.push, 149, (some ((.s 3), false)), .un .not (.s 0)⟩, PO 150 (.pick (.s 4) (.c (.bool true)) (.s 0)), PO 151 (.mov (.s 0)), ⟨.push, 152, (some ((.s 0), false)), .mov (.v 11)⟩, ⟨.push, 153, (some ((.s 1), false)), .mov (.v 13)⟩, ⟨.push, 154, (some ((.s 2), false)), .bin false .neq (.s 1) (.s 0)⟩, PO 155 (.pick (.s 3) (.c (.bool true)) (.s 0)), PO 156 (.mov (.s 0)), ⟨.push,
 157, (some ((.s 0), false)), .mov (.v 10)⟩, ⟨.push, 158, (some ((.s 1), false)), .mov (.v 12)⟩, ⟨.push, 159, (some ((.s 2), false)), .bin false .neq (.s 1) (.s 0)⟩, PO 160 (.pick (.s 3) (.c (.bool true)) (.s 0)), PO 161 (.mov (.s 0)), ⟨.push, 162, (some ((.s 0), false)), .mov (.v 18)⟩, ⟨.push, 163, (some ((.s 1), false)), .mov (.v 20)⟩, ⟨.push, 164, (some ((.s 2), false)), .bin false .neq (.s 1) (.s 0)⟩, PO 165 (.pick (.s 3) (.c (.bool true)) (.s 0)), PO 166 (.mov (.s 0)), ⟨.push, 167, (some ((.s 0), false)), .mov (.v 17)⟩, ⟨.push, 168, (some ((.s 1), false)), .mov (.v 19)⟩, ⟨.push, 169, (some
 ((.s 2), false)), .bin false .neq (.s 1) (.s 0)⟩, PO 170 (.pick (.s 3) (.c (.bool true)) (.s 0)), PO 171 (.mov (.s 0)), ⟨.push, 172, (some ((.s 0), false)), .mov (.v 24)⟩, ⟨.push, 173, (some ((.s 1), false)), .mov (.v 26)⟩, ⟨.push, 174, (some ((.s 2), false)), .bin false .neq (.s 1) (.s 0)⟩, PO 175 (.pick (.s 3) (.c (.bool true)) (.s 0)), PO 176 (.mov (.s 0)), ⟨.push, 177, (some ((.s 0), false)), .mov (.v 23)⟩, ⟨.push, 178, (some ((.s 1), false)), .mov (.v 25)⟩, ⟨.push, 179, (some ((.s 2), false)), .call 23 [(.s 1), (.s 0)]⟩, ⟨.push, 180, (some ((.s 3), false)), .un .not (.s 0)⟩, PO 181 (.pick
 (.s 4) (.c (.bool true)) (.s 0)), PO 182 (.mov (.s 0)), ⟨.push, 183, (some ((.s 0), false)), .mov (.v 28)⟩, ⟨.push, 184, (some ((.s 1), false)), .load true 2 (.v 27)⟩, ⟨.push, 185, (some ((.s 2), false)), .call 24 [(.s 0)]⟩, ⟨.push, 186, (some ((.s 3), false)), .bin false .neq (.s 2) (.s 0)⟩, PO 187 (.pick (.s 4) (.c (.bool true)) (.s 0)), PO 188 (.mov (.s 0)), ⟨.push, 189, (some ((.s 0), false)), .mov (.v 30)⟩, ⟨.push, 190, (some ((.s 1), false)), .mov (.v 28)⟩, ⟨.push, 191, (some ((.s 2), false)), .bin false .neq (.s 0) (.c (.str []))⟩, ⟨.push, 192, (some ((.s 3), false)), .bin true .neq (.s
 2) (.s 0)⟩, PO 193 (.pick (.s 4) (.c (.bool true)) (.s 0)), PO 194 (.mov (.s 0)), ⟨.push, 195, (some ((.s 0), false)), .mov (.v 30)⟩, ⟨.push, 196, (some ((.s 1), false)), .mov (.s 0)⟩, ⟨.push, 197, (some ((.s 0), true)), .load true 2 (.v 29)⟩, ⟨.push, 198, (some ((.s 1), true)), .load true 2 (.v 27)⟩, ⟨.push, 199, (some ((.s 2), true)), .eqA true [2, 1] (.s 1) (.s 0)⟩, ⟨.push, 200, (some ((.s 5), false)), .pick (.s 3) (.s 0) (.c (.bool false))⟩, PO 201 (.pick (.s 6) (.c (.bool true)) (.s 0)), PO 202 (.mov (.s 0)), ⟨.push, 203, (some ((.s 0), false)), .mov (.v 33)⟩, ⟨.push, 204, (some ((.s 1),
 false)), .mov (.v 35)⟩, ⟨.push, 205, (some ((.s 2), false)), .bin true .neq (.s 1) (.s 0)⟩, PO 206 (.pick (.s 3) (.c (.bool true)) (.s 0)), PO 207 (.mov (.s 0)), ⟨.push, 208, (some ((.s 0), false)), .load true 2 (.v 32)⟩, ⟨.push, 209, (some ((.s 1), false)), .load true 2 (.v 34)⟩, ⟨.push, 210, (some ((.s 2), false)), .eqA true [2, 1] (.s 1) (.s 0)⟩, PO 211 (.pick (.s 3) (.c (.bool true)) (.s 0)), PO 212 (.mov (.s 0)), ⟨.push, 213, (some ((.s 0), false)), .mov (.v 36)⟩, ⟨.push, 214, (some ((.s 1), false)), .mov (.v 37)⟩, ⟨.push, 215, (some ((.s 2), false)), .call 25 [(.s 1), (.s 0)]⟩, ⟨.push,
 216, (some ((.s 3), false)), .mov (.v 36)⟩, ⟨.push, 217, (some ((.s 4), false)), .mov (.v 37)⟩, ⟨.push, 218, (some ((.s 5), false)), .call 23 [(.s 1), (.s 0)]⟩, ⟨.push, 219, (some ((.s 6), false)), .bin true .neq (.s 3) (.s 0)⟩, PO 220 (.pick (.s 7) (.c (.bool true)) (.s 0)), PO 221 (.mov (.s 0)), ⟨.push, 222, (some ((.s 0), false)), .mov (.v 2)⟩, ⟨.push, 223, (some ((.s 1), false)), .call 26 [(.s 0)]⟩, ⟨.push, 224, (some ((.s 2), false)), .mov (.v 2)⟩, ⟨.push, 225, (some ((.s 3), false)), .call 27 [(.s 0)]⟩, ⟨.push, 226, (some ((.s 4), false)), .bin true .neq (.s 2) (.s 0)⟩, PO 227 (.pick (.s
 5) (.c (.bool true)) (.s 0))] (.s 0) (.seq (.region false [ VO 1 2 (.mov (.c (.bool false)))]) (.ret)) (.skip)) (.seq (.test false [ PM 228 5, PO 229 (.bin false .neq (.s 0) (I6 0))] (.s 0) (.seq (.region false [ VO 1 2 (.mov (.c (.bool true)))]) (.ret)) (.skip)) (.seq (.region false [ PM 231 4, PO 232 (.fldAddr 0 (.v 3)), PO 233 (.load false 1 (.s 0)), PO 234 (.call 9 [(.s 2), (.s 0)]), PO 230 (.mov (.s 0)), PO 235 (.ext (.s 0) 0), PO 236 (.ext (.s 1) 1), VS 38 39 1, VS 39 40 0]) (.seq (.region false [ PM 238 4, PO 239 (.fldAddr 0 (.v 3)), PO 240 (.load false 1 (.s 0)), PO 241 (.call 12 [(.s
 2), (.s 0), (I6 9000)]), PO 237 (.mov (.s 0)), PO 242 (.ext (.s 0) 0), PO 243 (.ext (.s 1) 1), VS 40 41 1, VS 41 42 0]) (.seq (.anyo 35 [ SO 0 244 (.mov (.v 39)), SO 1 245 (.bin false .eql (.s 0) (I6 0)), SO 2 246 (.mov (.s 1)), ⟨.slot 3, 247, (some ((.s 2), true)), .mov (.v 38)⟩, ⟨.slot 4, 248, (some ((.s 2), true)), .bin false .geq (.s 3) (I6 0)⟩, SO 5 249 (.pick (.s 2) (.s 4) (.c (.bool false))), SO 6 250 (.mov (.s 5)), ⟨.slot 7, 251, (some ((.s 6), true)), .mov (.v 38)⟩, ⟨.slot 8, 252, (some ((.s 6), true)), .mov (.v 6)⟩, ⟨.slot 9, 253, (some ((.s 6), true)), .len false (.s 8)⟩, ⟨.slot 10,
 254, (some ((.s 6), true)), .bin false .lss (.s 7) (.s 9)⟩, SO 11 255 (.pick (.s 6) (.s 10) (.c (.bool false))), SO 12 256 (.mov (.s 11)), ⟨.slot 13, 257, (some ((.s 12), true)), .mov (.v 6)⟩, ⟨.slot 14, 258, (some ((.s 12), true)), .mov (.v 38)⟩, ⟨.slot 15, 259, (some ((.s 12), true)), .ixAddr 2 (.s 13) (.s 14)⟩, ⟨.slot 16, 260, (some ((.s 12), true)), .load true 2 (.s 15)⟩, ⟨.slot 17, 261, (some ((.s 12), true)), .load true 2 (.v 3)⟩, ⟨.slot 18, 262, (some ((.s 12), true)), .eqA false [2, 1] (.s 16) (.s 17)⟩, SO 19 263 (.pick (.s 12) (.s 18) (.c (.bool false))), SO 20 264 (.mov (.s 19)),
 ⟨.slot 21, 265, (some ((.s 20), true)), .mov (.v 41)⟩, ⟨.slot 22, 266, (some ((.s 20), true)), .bin false .eql (.s 21) (I6 0)⟩, SO 23 267 (.pick (.s 20) (.s 22) (.c (.bool false))), SO 24 268 (.mov (.s 23)), ⟨.slot 25, 269, (some ((.s 24), true)), .mov (.v 40)⟩, ⟨.slot 26, 270, (some ((.s 24), true)), .fldAddr 1 (.v 3)⟩, ⟨.slot 27, 271, (some ((.s 24), true)), .load false 1 (.s 26)⟩, ⟨.slot 28, 272, (some ((.s 24), true)), .bin false .add (I6 9000) (.s 27)⟩, ⟨.slot 29, 273, (some ((.s 24), true)), .bin false .eql (.s 25) (.s 28)⟩, SO 30 274 (.pick (.s 24) (.s 29) (.c (.bool false))), SO 31 275
 (.mov (.s 30)), ⟨.slot 32, 276, (some ((.s 31), true)), .mov (.v 4)⟩, ⟨.slot 33, 277, (some ((.s 31), true)), .call 26 [(.s 32)]⟩, SO 34 278 (.pick (.s 31) (.s 33) (.c (.bool false))), VS 1 2 34] [] .skip) (.ret)))))))))))))))))))))))))), [.t 1]⟩
noncomputable def t_laws_FnObserverLists : List (Nat × Ctr) := [(4, c_0), (5, c_11), (6, c_25), (7, c_33), (8, c_34), (9, c_35), (10, c_36), (11, c_38), (12, c_40), (13, c_42), (14, c_43), (15, c_48), (16, c_50), (17, c_52), (18, c_57), (19, c_63), (20, c_67), (21, c_70), (22, c_71), (23, c_72), (24, c_73), (25, c_75), (26, c_17), (27, c_76)]
theorem lk_laws_FnObserverLists_4 : look t_laws_FnObserverLists 4 = some c_0 := rfl
theorem lk_laws_FnObserverLists_5 : look t_laws_FnObserverLists 5 = some c_11 := rfl
theorem lk_laws_FnObserverLists_6 : look t_laws_FnObserverLists 6 = some c_25 := rfl
theorem lk_laws_FnObserverLists_7 : look t_laws_FnObserverLists 7 = some c_33 := rfl
theorem lk_laws_FnObserverLists_8 : look t_laws_FnObserverLists 8 = some c_34 := rfl
theorem lk_laws_FnObserverLists_9 : look t_laws_FnObserverLists 9 = some c_35 := rfl
theorem lk_laws_FnObserverLists_10 : look t_laws_FnObserverLists 10 = some c_36 := rfl
theorem lk_laws_FnObserverLists_11 : look t_laws_FnObserverLists 11 = some c_38 := rfl
theorem lk_laws_FnObserverLists_12 : look t_laws_FnObserverLists 12 = some c_40 := rfl
theorem lk_laws_FnObserverLists_13 : look t_laws_FnObserverLists 13 = some c_42 := rfl
theorem lk_laws_FnObserverLists_14 : look t_laws_FnObserverLists 14 = some c_43 := rfl
theorem lk_laws_FnObserverLists_15 : look t_laws_FnObserverLists 15 = some c_48 := rfl
theorem lk_laws_FnObserverLists_16 : look t_laws_FnObserverLists 16 = some c_50 := rfl
theorem lk_laws_FnObserverLists_17 : look t_laws_FnObserverLists 17 = some c_52 := rfl
theorem lk_laws_FnObserverLists_18 : look t_laws_FnObserverLists 18 = some c_57 := rfl
theorem lk_laws_FnObserverLists_19 : look t_laws_FnObserverLists 19 = some c_63 := rfl
theorem lk_laws_FnObserverLists_20 : look t_laws_FnObserverLists 20 = some c_67 := rfl
theorem lk_laws_FnObserverLists_21 : look t_laws_FnObserverLists 21 = some c_70 := rfl
theorem lk_laws_FnObserverLists_22 : look t_laws_FnObserverLists 22 = some c_71 := rfl
theorem lk_laws_FnObserverLists_23 : look t_laws_FnObserverLists 23 = some c_72 := rfl
theorem lk_laws_FnObserverLists_24 : look t_laws_FnObserverLists 24 = some c_73 := rfl
theorem lk_laws_FnObserverLists_25 : look t_laws_FnObserverLists 25 = some c_75 := rfl
theorem lk_laws_FnObserverLists_26 : look t_laws_FnObserverLists 26 = some c_17 := rfl
theorem lk_laws_FnObserverLists_27 : look t_laws_FnObserverLists 27 = some c_76 := rfl
noncomputable def c_laws_FnObserverLists : Ctr := mkF t_laws_FnObserverLists ir3 [.bor]
theorem s_laws_FnObserverLists : Sound Tryz.prog 3 c_laws_FnObserverLists := mkF_sound _ rfl (snd_cons s_0 (snd_cons s_11 (snd_cons s_25 (snd_cons s_33 (snd_cons s_34 (snd_cons s_35 (snd_cons s_36 (snd_cons s_38 (snd_cons s_40 (snd_cons s_42 (snd_cons s_43 (snd_cons s_48 (snd_cons s_50 (snd_cons s_52 (snd_cons s_57 (snd_cons s_63 (snd_cons s_67 (snd_cons s_70 (snd_cons s_71 (snd_cons s_72 (snd_cons s_73 (snd_cons s_75 (snd_cons s_17 (snd_cons s_76 snd_nil)))))))))))))))))))))))) (by kernel_rfl : chkFn Tryz.prog 3 ir3 ir3_v = true)
theorem M_laws_FnObserverLists : c_laws_FnObserverLists.modes = [.bor] := rfl
theorem Fl_laws_FnObserverLists : c_laws_FnObserverLists.flat = true := rfl
attribute [go_sem] M_laws_FnObserverLists Fl_laws_FnObserverLists
attribute [go_sem] lk_laws_FnObserverLists_4 lk_laws_FnObserverLists_5 lk_laws_FnObserverLists_6 lk_laws_FnObserverLists_7 lk_laws_FnObserverLists_8 lk_laws_FnObserverLists_9 lk_laws_FnObserverLists_10 lk_laws_FnObserverLists_11 lk_laws_FnObserverLists_12 lk_laws_FnObserverLists_13 lk_laws_FnObserverLists_14 lk_laws_FnObserverLists_15 lk_laws_FnObserverLists_16 lk_laws_FnObserverLists_17 lk_laws_FnObserverLists_18 lk_laws_FnObserverLists_19 lk_laws_FnObserverLists_20 lk_laws_FnObserverLists_21 lk_laws_FnObserverLists_22 lk_laws_FnObserverLists_23 lk_laws_FnObserverLists_24 lk_laws_FnObserverLists_25 lk_laws_FnObserverLists_26 lk_laws_FnObserverLists_27
set_option maxHeartbeats 8000000 in
theorem Fs_laws_FnObserverLists {code : List UInt8} {y_ : Bool} (h : laws_FnObserverLists code = some y_) : c_laws_FnObserverLists.F [.sl 1 (List.map byteAV code)] = ⟨true, .bool y_, [.any]⟩ := by
 refine mkF_E rfl ?_
 dsimp only [laws_FnObserverLists] at h
 obtain ⟨y_1, z1, h⟩ := bd_some h
 have fz1 := Fs_0 z1
 try simp only [go_sem] at fz1
 rcases it_some h with ⟨z2, h⟩ | ⟨z2, h⟩
 ·try simp only [go_sem, n1, n2, n3, n4] at z2
  all_goals
  obtain rfl := so_some h
  refine ⟨0, fun L hL => ?_⟩
  simp only [go_sem, ir3, fz1, z2]
 ·try simp only [go_sem, n1, n2, n3, n4] at z2
  all_goals
  obtain ⟨y_3, z3, h⟩ := bd_some h
  have fz3 := Fs_11 z3
  try simp only [go_sem, z2] at fz3
  obtain ⟨y_4, z4, h⟩ := bd_some h
  have fz4 := Fs_25 z4
  try simp only [go_sem, z2] at fz4
  obtain ⟨y_5, z5, h⟩ := bd_some h
  have fz5 := Fs_33 z5
  try simp only [go_sem, z2] at fz5
  obtain ⟨y_6, z6, h⟩ := bd_some h
  have fz6 := Fs_34 z6
  try simp only [go_sem, z2] at fz6
  obtain ⟨y_7, z7, h⟩ := bd_some h
  have fz7 := Fs_35 z7
  try simp only [go_sem, z2] at fz7
  obtain ⟨y_8, z8, h⟩ := bd_some h
  have fz8 := Fs_36 z8
  try simp only [go_sem, z2] at fz8
  obtain ⟨y_9, z9, h⟩ := bd_some h
  have fz9 := Fs_38 z9
  try simp only [go_sem, z2] at fz9
  obtain ⟨y_10, z10, h⟩ := bd_some h
  have fz10 := Fs_40 z10
  try simp only [go_sem, z2] at fz10
  obtain ⟨y_11, z11, h⟩ := bd_some h
  have fz11 := Fs_42 z11
  try simp only [go_sem, z2] at fz11
  obtain ⟨y_12, z12, h⟩ := bd_some h
  have fz12 := Fs_43 z12
  try simp only [go_sem, z2] at fz12
  obtain ⟨y_13, z13, h⟩ := bd_some h
  have fz13 := Fs_48 z13
  try simp only [go_sem, z2] at fz13
  obtain ⟨y_14, z14, h⟩ := bd_some h
  have fz14 := Fs_50 z14
  try simp only [go_sem, z2] at fz14
  obtain ⟨y_15, z15, h⟩ := bd_some h
  have fz15 := Fs_52 z15
  try simp only [go_sem, z2] at fz15
  obtain ⟨y_16, z16, h⟩ := bd_some h
  have fz16 := Fs_57 z16
  try simp only [go_sem, z2] at fz16
  obtain ⟨y_17, z17, h⟩ := bd_some h
  have fz17 := Fs_63 z17
  try simp only [go_sem, z2] at fz17
  obtain ⟨y_18, z18, h⟩ := bd_some h
  have fz18 := Fs_67 z18
  try simp only [go_sem, z2] at fz18
  obtain ⟨y_19, z19, h⟩ := bd_some h
  have fz19 := Fs_63 z19
  try simp only [go_sem, z2] at fz19
  obtain ⟨y_20, z20, h⟩ := bd_some h
  have fz20 := Fs_70 z20
  try simp only [go_sem, z2] at fz20
  obtain ⟨y_21, z21, h⟩ := bd_some h
  have fz21 := Fs_71 z21
  try simp only [go_sem, z2] at fz21
  obtain ⟨z22, h⟩ := ck_some h
  rcases or_split z22 with ⟨gz22, z22⟩ | gz22
  ·try simp only [go_sem, n1, n2, n3, n4, z2] at gz22
   all_goals
   obtain ⟨y_22, hz22⟩ := Option.isSome_iff_exists.1 z22
   have fz22 := Fs_72 hz22
   try simp only [go_sem, n1, n2, n3, n4, z2, gz22] at hz22
   all_goals
   try simp only [go_sem, z2, gz22] at fz22
   obtain ⟨z23, h⟩ := ck_some h
   rcases or_split z23 with ⟨gz23, z23⟩ | gz23
   ·try simp only [go_sem, n1, n2, n3, n4, z2, gz22, hz22] at gz23
    all_goals
    obtain ⟨y_23, hz23⟩ := Option.isSome_iff_exists.1 z23
    have fz23 := Fs_72 hz23
    try simp only [go_sem, n1, n2, n3, n4, z2, gz22, hz22, gz23] at hz23
    all_goals
    try simp only [go_sem, z2, gz22, hz22, gz23] at fz23
    obtain ⟨z24, h⟩ := ck_some h
    rcases or_split z24 with ⟨gz24, z24⟩ | gz24
    ·try simp only [go_sem, n1, n2, n3, n4, z2, gz22, hz22, gz23, hz23] at gz24
     all_goals
     obtain ⟨y_24, hz24⟩ := Option.isSome_iff_exists.1 z24
     have fz24 := Fs_73 hz24
     try simp only [go_sem, n1, n2, n3, n4, z2, gz22, hz22, gz23, hz23, gz24] at hz24
     all_goals
     try simp only [go_sem, z2, gz22, hz22, gz23, hz23, gz24] at fz24
     obtain ⟨z25, h⟩ := ck_some h
     rcases or_split z25 with ⟨gz25, z25⟩ | gz25
     ·try simp only [go_sem, n1, n2, n3, n4, z2, gz22, hz22, gz23, hz23, gz24, hz24] at gz25
      all_goals
      obtain ⟨y_25, hz25⟩ := Option.isSome_iff_exists.1 z25
      have fz25 := Fs_75 hz25
      try simp only [go_sem, n1, n2, n3, n4, z2, gz22, hz22, gz23, hz23, gz24, hz24, gz25] at hz25
      all_goals
      try simp only [go_sem, z2, gz22, hz22, gz23, hz23, gz24, hz24, gz25] at fz25
      obtain ⟨z26, h⟩ := ck_some h
      rcases or_split z26 with ⟨gz26, z26⟩ | gz26
      ·try simp only [go_sem, n1, n2, n3, n4, z2, gz22, hz22, gz23, hz23, gz24, hz24, gz25, hz25] at gz26
       all_goals
       obtain ⟨y_26, hz26⟩ := Option.isSome_iff_exists.1 z26
       have fz26 := Fs_72 hz26
       try simp only [go_sem, n1, n2, n3, n4, z2, gz22, hz22, gz23, hz23, gz24, hz24, gz25, hz25, gz26] at hz26
       all_goals
       try simp only [go_sem, z2, gz22, hz22, gz23, hz23, gz24, hz24, gz25, hz25, gz26] at fz26
       obtain ⟨z27, h⟩ := ck_some h
       rcases or_split z27 with ⟨gz27, z27⟩ | gz27
       ·try simp only [go_sem, n1, n2, n3, n4, z2, gz22, hz22, gz23, hz23, gz24, hz24, gz25, hz25, gz26, hz26] at gz27
        all_goals
        obtain ⟨y_27, hz27⟩ := Option.isSome_iff_exists.1 z27
        have fz27 := Fs_17 hz27
        try simp only [go_sem, n1, n2, n3, n4, z2, gz22, hz22, gz23, hz23, gz24, hz24, gz25, hz25, gz26, hz26, gz27] at hz27
        all_goals
        try simp only [go_sem, z2, gz22, hz22, gz23, hz23, gz24, hz24, gz25, hz25, gz26, hz26, gz27] at fz27
        obtain ⟨z28, h⟩ := ck_some h
        rcases or_split z28 with ⟨gz28, z28⟩ | gz28
        ·try simp only [go_sem, n1, n2, n3, n4, z2, gz22, hz22, gz23, hz23, gz24, hz24, gz25, hz25, gz26, hz26, gz27, hz27] at gz28
         all_goals
         obtain ⟨y_28, hz28⟩ := Option.isSome_iff_exists.1 z28
         have fz28 := Fs_76 hz28
         try simp only [go_sem, n1, n2, n3, n4, z2, gz22, hz22, gz23, hz23, gz24, hz24, gz25, hz25, gz26, hz26, gz27, hz27, gz28] at hz28
         all_goals
         try simp only [go_sem, z2, gz22, hz22, gz23, hz23, gz24, hz24, gz25, hz25, gz26, hz26, gz27, hz27, gz28] at fz28
         rcases it_some h with ⟨z29, h⟩ | ⟨z29, h⟩
         ·try simp only [go_sem, n1, n2, n3, n4, z2, gz22, hz22, gz23, hz23, gz24, hz24, gz25, hz25, gz26, hz26, gz27, hz27, gz28, hz28] at z29
          all_goals
          obtain rfl := so_some h
          refine ⟨0, fun L hL => ?_⟩
          simp only [go_sem, ir3, fz1, z2, fz3, fz4, fz5, fz6, fz7, fz8, fz9, fz10, fz11, fz12, fz13, fz14, fz15, fz16, fz17, fz18, fz19, fz20, fz21, gz22, hz22, fz22, gz23, hz23, fz23, gz24, hz24, fz24, gz25, hz25, fz25, gz26, hz26, fz26, gz27, hz27, fz27, gz28, hz28, fz28, z29]
         ·try simp only [go_sem, n1, n2, n3, n4, z2, gz22, hz22, gz23, hz23, gz24, hz24, gz25, hz25, gz26, hz26, gz27, hz27, gz28, hz28] at z29
          all_goals
          rcases it_some h with ⟨z30, h⟩ | ⟨z30, h⟩
          ·try simp only [go_sem, n1, n2, n3, n4, z2, gz22, hz22, gz23, hz23, gz24, hz24, gz25, hz25, gz26, hz26, gz27, hz27, gz28, hz28, z29] at z30
           all_goals
           obtain rfl := so_some h
           refine ⟨0, fun L hL => ?_⟩
           simp only [go_sem, ir3, fz1, z2, fz3, fz4, fz5, fz6, fz7, fz8, fz9, fz10, fz11, fz12, fz13, fz14, fz15, fz16, fz17, fz18, fz19, fz20, fz21, gz22, hz22, fz22, gz23, hz23, fz23, gz24, hz24, fz24, gz25, hz25, fz25, gz26, hz26, fz26, gz27, hz27, fz27, gz28, hz28, fz28, z29, z30]
          ·try simp only [go_sem, n1, n2, n3, n4, z2, gz22, hz22, gz23, hz23, gz24, hz24, gz25, hz25, gz26, hz26, gz27, hz27, gz28, hz28, z29] at z30
           all_goals
           obtain ⟨y_31, z31, h⟩ := bd_some h
           have fz31 := Fs_35 z31
           try simp only [go_sem, z2, gz22, hz22, gz23, hz23, gz24, hz24, gz25, hz25, gz26, hz26, gz27, hz27, gz28, hz28, z29, z30] at fz31
           obtain ⟨y_32, z32, h⟩ := bd_some h
           have fz32 := Fs_40 z32
           try simp only [go_sem, z2, gz22, hz22, gz23, hz23, gz24, hz24, gz25, hz25, gz26, hz26, gz27, hz27, gz28, hz28, z29, z30] at fz32
           obtain ⟨z33, h⟩ := ck_some h
           rcases or_split z33 with ⟨gz33, z33⟩ | gz33
           ·try simp only [go_sem, n1, n2, n3, n4, z2, gz22, hz22, gz23, hz23, gz24, hz24, gz25, hz25, gz26, hz26, gz27, hz27, gz28, hz28, z29, z30] at gz33
            all_goals
            have lz33 := ix_lt z33
            have xz33 := getD_mapD Observer_av y_5.1 lz33
            try simp only [go_sem] at lz33
            try simp only [go_sem] at xz33
            try simp only [go_sem, n1, n2, n3, n4, z2, gz22, hz22, gz23, hz23, gz24, hz24, gz25, hz25, gz26, hz26, gz27, hz27, gz28, hz28, z29, z30, gz33] at z33
            all_goals
            obtain ⟨z34, h⟩ := ck_some h
            rcases or_split z34 with ⟨gz34, z34⟩ | gz34
            ·try simp only [go_sem, n1, n2, n3, n4, z2, gz22, hz22, gz23, hz23, gz24, hz24, gz25, hz25, gz26, hz26, gz27, hz27, gz28, hz28, z29, z30, gz33, z33] at gz34
             all_goals
             obtain ⟨y_34, hz34⟩ := Option.isSome_iff_exists.1 z34
             have fz34 := Fs_17 hz34
             try simp only [go_sem, n1, n2, n3, n4, z2, gz22, hz22, gz23, hz23, gz24, hz24, gz25, hz25, gz26, hz26, gz27, hz27, gz28, hz28, z29, z30, gz33, z33, gz34] at hz34
             all_goals
             try simp only [go_sem, z2, gz22, hz22, gz23, hz23, gz24, hz24, gz25, hz25, gz26, hz26, gz27, hz27, gz28, hz28, z29, z30, gz33, z33, gz34] at fz34
             obtain rfl := so_some h
             refine ⟨0, fun L hL => ?_⟩
             simp only [go_sem, ir3, fz1, z2, fz3, fz4, fz5, fz6, fz7, fz8, fz9, fz10, fz11, fz12, fz13, fz14, fz15, fz16, fz17, fz18, fz19, fz20, fz21, gz22, hz22, fz22, gz23, hz23, fz23, gz24, hz24, fz24, gz25, hz25, fz25, gz26, hz26, fz26, gz27, hz27, fz27, gz28, hz28, fz28, z29, z30, fz31, fz32, gz33, z33, lz33, xz33, gz34, hz34, fz34]
            ·try simp only [go_sem, n1, n2, n3, n4, z2, gz22, hz22, gz23, hz23, gz24, hz24, gz25, hz25, gz26, hz26, gz27, hz27, gz28, hz28, z29, z30, gz33, z33] at gz34
             all_goals
             obtain rfl := so_some h
             refine ⟨0, fun L hL => ?_⟩
             simp only [go_sem, ir3, fz1, z2, fz3, fz4, fz5, fz6, fz7, fz8, fz9, fz10, fz11, fz12, fz13, fz14, fz15, fz16, fz17, fz18, fz19, fz20, fz21, gz22, hz22, fz22, gz23, hz23, fz23, gz24, hz24, fz24, gz25, hz25, fz25, gz26, hz26, fz26, gz27, hz27, fz27, gz28, hz28, fz28, z29, z30, fz31, fz32, gz33, z33, lz33, xz33, gz34]
           ·rcases and_f gz33 with gz33a | ⟨gz33a, gz33b⟩
            ·rcases and_f gz33a with gz33aa | ⟨gz33aa, gz33ab⟩
             ·try simp only [go_sem, n1, n2, n3, n4, z2, gz22, hz22, gz23, hz23, gz24, hz24, gz25, hz25, gz26, hz26, gz27, hz27, gz28, hz28, z29, z30] at gz33aa
              all_goals
              obtain ⟨z34, h⟩ := ck_some h
              obtain rfl := so_some h
              refine ⟨0, fun L hL => ?_⟩
              simp only [go_sem, ir3, fz1, z2, fz3, fz4, fz5, fz6, fz7, fz8, fz9, fz10, fz11, fz12, fz13, fz14, fz15, fz16, fz17, fz18, fz19, fz20, fz21, gz22, hz22, fz22, gz23, hz23, fz23, gz24, hz24, fz24, gz25, hz25, fz25, gz26, hz26, fz26, gz27, hz27, fz27, gz28, hz28, fz28, z29, z30, fz31, fz32, gz33aa]
             ·try simp only [go_sem, n1, n2, n3, n4, z2, gz22, hz22, gz23, hz23, gz24, hz24, gz25, hz25, gz26, hz26, gz27, hz27, gz28, hz28, z29, z30] at gz33aa
              all_goals
              try simp only [go_sem, n1, n2, n3, n4, z2, gz22, hz22, gz23, hz23, gz24, hz24, gz25, hz25, gz26, hz26, gz27, hz27, gz28, hz28, z29, z30, gz33aa] at gz33ab
              all_goals
              obtain ⟨z34, h⟩ := ck_some h
              obtain rfl := so_some h
              refine ⟨0, fun L hL => ?_⟩
              simp only [go_sem, ir3, fz1, z2, fz3, fz4, fz5, fz6, fz7, fz8, fz9, fz10, fz11, fz12, fz13, fz14, fz15, fz16, fz17, fz18, fz19, fz20, fz21, gz22, hz22, fz22, gz23, hz23, fz23, gz24, hz24, fz24, gz25, hz25, fz25, gz26, hz26, fz26, gz27, hz27, fz27, gz28, hz28, fz28, z29, z30, fz31, fz32, gz33aa, gz33ab]
            ·obtain ⟨gz33aa, gz33ab⟩ := and_t gz33a
             try simp only [go_sem, n1, n2, n3, n4, z2, gz22, hz22, gz23, hz23, gz24, hz24, gz25, hz25, gz26, hz26, gz27, hz27, gz28, hz28, z29, z30] at gz33aa
             all_goals
             try simp only [go_sem, n1, n2, n3, n4, z2, gz22, hz22, gz23, hz23, gz24, hz24, gz25, hz25, gz26, hz26, gz27, hz27, gz28, hz28, z29, z30, gz33aa] at gz33ab
             all_goals
             try simp only [go_sem, n1, n2, n3, n4, z2, gz22, hz22, gz23, hz23, gz24, hz24, gz25, hz25, gz26, hz26, gz27, hz27, gz28, hz28, z29, z30, gz33aa, gz33ab] at gz33b
             all_goals
             obtain ⟨z34, h⟩ := ck_some h
             obtain rfl := so_some h
             refine ⟨0, fun L hL => ?_⟩
             simp only [go_sem, ir3, fz1, z2, fz3, fz4, fz5, fz6, fz7, fz8, fz9, fz10, fz11, fz12, fz13, fz14, fz15, fz16, fz17, fz18, fz19, fz20, fz21, gz22, hz22, fz22, gz23, hz23, fz23, gz24, hz24, fz24, gz25, hz25, fz25, gz26, hz26, fz26, gz27, hz27, fz27, gz28, hz28, fz28, z29, z30, fz31, fz32, gz33aa, gz33ab, gz33b]
        ·have gz28n := no_f gz28
         try simp only [go_sem, n1, n2, n3, n4, z2, gz22, hz22, gz23, hz23, gz24, hz24, gz25, hz25, gz26, hz26, gz27, hz27] at gz28n
         all_goals
         rcases it_some h with ⟨z29, h⟩ | ⟨z29, h⟩
         ·try simp only [go_sem, n1, n2, n3, n4, z2, gz22, hz22, gz23, hz23, gz24, hz24, gz25, hz25, gz26, hz26, gz27, hz27, gz28n] at z29
          all_goals
          obtain rfl := so_some h
          refine ⟨0, fun L hL => ?_⟩
          simp only [go_sem, ir3, fz1, z2, fz3, fz4, fz5, fz6, fz7, fz8, fz9, fz10, fz11, fz12, fz13, fz14, fz15, fz16, fz17, fz18, fz19, fz20, fz21, gz22, hz22, fz22, gz23, hz23, fz23, gz24, hz24, fz24, gz25, hz25, fz25, gz26, hz26, fz26, gz27, hz27, fz27, gz28n, z29]
         ·try simp only [go_sem, n1, n2, n3, n4, z2, gz22, hz22, gz23, hz23, gz24, hz24, gz25, hz25, gz26, hz26, gz27, hz27, gz28n] at z29
          all_goals
          (simp_all)
       ·have gz27n := no_f gz27
        try simp only [go_sem, n1, n2, n3, n4, z2, gz22, hz22, gz23, hz23, gz24, hz24, gz25, hz25, gz26, hz26] at gz27n
        all_goals
        obtain ⟨z28, h⟩ := ck_some h
        rcases it_some h with ⟨z29, h⟩ | ⟨z29, h⟩
        ·try simp only [go_sem, n1, n2, n3, n4, z2, gz22, hz22, gz23, hz23, gz24, hz24, gz25, hz25, gz26, hz26, gz27n] at z29
         all_goals
         obtain rfl := so_some h
         refine ⟨0, fun L hL => ?_⟩
         simp only [go_sem, ir3, fz1, z2, fz3, fz4, fz5, fz6, fz7, fz8, fz9, fz10, fz11, fz12, fz13, fz14, fz15, fz16, fz17, fz18, fz19, fz20, fz21, gz22, hz22, fz22, gz23, hz23, fz23, gz24, hz24, fz24, gz25, hz25, fz25, gz26, hz26, fz26, gz27n, z29]
        ·try simp only [go_sem, n1, n2, n3, n4, z2, gz22, hz22, gz23, hz23, gz24, hz24, gz25, hz25, gz26, hz26, gz27n] at z29
         all_goals
         (simp_all)
      ·have gz26n := no_f gz26
       try simp only [go_sem, n1, n2, n3, n4, z2, gz22, hz22, gz23, hz23, gz24, hz24, gz25, hz25] at gz26n
       all_goals
       obtain ⟨z27, h⟩ := ck_some h
       obtain ⟨z28, h⟩ := ck_some h
       rcases it_some h with ⟨z29, h⟩ | ⟨z29, h⟩
       ·try simp only [go_sem, n1, n2, n3, n4, z2, gz22, hz22, gz23, hz23, gz24, hz24, gz25, hz25, gz26n] at z29
        all_goals
        obtain rfl := so_some h
        refine ⟨0, fun L hL => ?_⟩
        simp only [go_sem, ir3, fz1, z2, fz3, fz4, fz5, fz6, fz7, fz8, fz9, fz10, fz11, fz12, fz13, fz14, fz15, fz16, fz17, fz18, fz19, fz20, fz21, gz22, hz22, fz22, gz23, hz23, fz23, gz24, hz24, fz24, gz25, hz25, fz25, gz26n, z29]
       ·try simp only [go_sem, n1, n2, n3, n4, z2, gz22, hz22, gz23, hz23, gz24, hz24, gz25, hz25, gz26n] at z29
        all_goals
        (simp_all)
     ·have gz25n := no_f gz25
      try simp only [go_sem, n1, n2, n3, n4, z2, gz22, hz22, gz23, hz23, gz24, hz24] at gz25n
      all_goals
      obtain ⟨z26, h⟩ := ck_some h
      obtain ⟨z27, h⟩ := ck_some h
      obtain ⟨z28, h⟩ := ck_some h
      rcases it_some h with ⟨z29, h⟩ | ⟨z29, h⟩
      ·try simp only [go_sem, n1, n2, n3, n4, z2, gz22, hz22, gz23, hz23, gz24, hz24, gz25n] at z29
       all_goals
       obtain rfl := so_some h
       refine ⟨0, fun L hL => ?_⟩
       simp only [go_sem, ir3, fz1, z2, fz3, fz4, fz5, fz6, fz7, fz8, fz9, fz10, fz11, fz12, fz13, fz14, fz15, fz16, fz17, fz18, fz19, fz20, fz21, gz22, hz22, fz22, gz23, hz23, fz23, gz24, hz24, fz24, gz25n, z29]
      ·try simp only [go_sem, n1, n2, n3, n4, z2, gz22, hz22, gz23, hz23, gz24, hz24, gz25n] at z29
       all_goals
       (simp_all)
    ·have gz24n := no_f gz24
     try simp only [go_sem, n1, n2, n3, n4, z2, gz22, hz22, gz23, hz23] at gz24n
     all_goals
     obtain ⟨z25, h⟩ := ck_some h
     obtain ⟨z26, h⟩ := ck_some h
     obtain ⟨z27, h⟩ := ck_some h
     obtain ⟨z28, h⟩ := ck_some h
     rcases it_some h with ⟨z29, h⟩ | ⟨z29, h⟩
     ·try simp only [go_sem, n1, n2, n3, n4, z2, gz22, hz22, gz23, hz23, gz24n] at z29
      all_goals
      obtain rfl := so_some h
      refine ⟨0, fun L hL => ?_⟩
      simp only [go_sem, ir3, fz1, z2, fz3, fz4, fz5, fz6, fz7, fz8, fz9, fz10, fz11, fz12, fz13, fz14, fz15, fz16, fz17, fz18, fz19, fz20, fz21, gz22, hz22, fz22, gz23, hz23, fz23, gz24n, z29]
     ·try simp only [go_sem, n1, n2, n3, n4, z2, gz22, hz22, gz23, hz23, gz24n] at z29
      all_goals
      (simp_all)
   ·have gz23n := no_f gz23
    try simp only [go_sem, n1, n2, n3, n4, z2, gz22, hz22] at gz23n
    all_goals
    obtain ⟨z24, h⟩ := ck_some h
    obtain ⟨z25, h⟩ := ck_some h
    obtain ⟨z26, h⟩ := ck_some h
    obtain ⟨z27, h⟩ := ck_some h
    obtain ⟨z28, h⟩ := ck_some h
    rcases it_some h with ⟨z29, h⟩ | ⟨z29, h⟩
    ·try simp only [go_sem, n1, n2, n3, n4, z2, gz22, hz22, gz23n] at z29
     all_goals
     obtain rfl := so_some h
     refine ⟨0, fun L hL => ?_⟩
     simp only [go_sem, ir3, fz1, z2, fz3, fz4, fz5, fz6, fz7, fz8, fz9, fz10, fz11, fz12, fz13, fz14, fz15, fz16, fz17, fz18, fz19, fz20, fz21, gz22, hz22, fz22, gz23n, z29]
    ·try simp only [go_sem, n1, n2, n3, n4, z2, gz22, hz22, gz23n] at z29
     all_goals
     (simp_all)
  ·have gz22n := no_f gz22
   have gz22nn := no_t gz22n
   try simp only [go_sem, n1, n2, n3, n4, z2] at gz22nn
   all_goals
   obtain ⟨z23, h⟩ := ck_some h
   obtain ⟨z24, h⟩ := ck_some h
   obtain ⟨z25, h⟩ := ck_some h
   obtain ⟨z26, h⟩ := ck_some h
   obtain ⟨z27, h⟩ := ck_some h
   obtain ⟨z28, h⟩ := ck_some h
   rcases it_some h with ⟨z29, h⟩ | ⟨z29, h⟩
   ·try simp only [go_sem, n1, n2, n3, n4, z2, gz22nn] at z29
    all_goals
    obtain rfl := so_some h
    refine ⟨0, fun L hL => ?_⟩
    simp only [go_sem, ir3, fz1, z2, fz3, fz4, fz5, fz6, fz7, fz8, fz9, fz10, fz11, fz12, fz13, fz14, fz15, fz16, fz17, fz18, fz19, fz20, fz21, gz22nn, z29]
   ·try simp only [go_sem, n1, n2, n3, n4, z2, gz22nn] at z29
    all_goals
    (simp_all)


end Go.Proofs.YtegelahoakkaaaaGreatDoor
