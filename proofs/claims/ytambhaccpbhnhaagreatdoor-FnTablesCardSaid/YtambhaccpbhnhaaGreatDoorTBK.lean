/- Codes and contracts of the functions that TB reaches, and that their typed forms say what they do. No condition. -/
import Derived.Test.YtambhaccpbhnhaaGreatDoorTBKa
import Derived.Test.YtambhaccpbhnhaaGreatDoorRows
import Derived.WalkKit
namespace Go.Proofs.YtambhaccpbhnhaaGreatDoor
open Go Go.RowKit
set_option linter.unusedVariables false
set_option linter.unusedSimpArgs false
set_option maxRecDepth 10000

def ir3_b0 : IR := .seq (.test false [ PM 229 40, PM 230 6, PO 231 (.len false (.s 0)), PO 232 (.bin false .lss (.s 2) (.s 0))] (.s 0) (.skip) (.exit 0)) (.seq (.block 1 (.anyo 10 [ SO 0 235 (.mov (.v 4)), SO 1 236 (.mov (.v 40)), SO 2 237 (.ixAddr 1 (.s 0) (.s 1)), SO 3 238 (.load false 1 (.s 2)), SO 4 239 (.len true (.s 3)), SO 5 240 (.mov (.v 4)), SO 6 241 (.ixAddr 1 (.s 5) (I6 0)), SO 7 242 (.load false 1 (.s 6)), SO 8 243 (.len true (.s 7)), SO 9 244 (.bin false .neq (.s 4) (.s 8))] [] (.cond (.s 9) (.seq (.region false [ VO 1 2 (.mov (.c (.bool false)))]) (.ret)) (.skip)))) (.region false
 [ PM 233 40, PO 234 (.bin false .add (.s 0) (I6 1)), VS 40 41 0]))
def ir3_k0 : List Bool := [false, false, false, false, true, false, true, false, false, false, false, false, false, true, true, true, true, false, false, true, true, false, false, false, false, false, false, true, true, false, false, true, true, true, false, false, true, false, false, false, true, false, false, false, false, false, false]
def ir3_o0 : List Bool := [false, false, false, false, false, false, false, false, false, false, false, false, false, true, true, true, true, false, false, true, true, false, false, false, false, false, false, true, true, false, false, true, true, true, false, false, true, false, false, false, false, false, false, false, false, false, false]
def ir3_r0 : List Bool := [false, true, false, false, false, false, false, false, false, false, false, false, false, false, false, false, false, false, false, false, false, false, false, false, false, false, false, false, false, false, false, false, false, false, false, false, false, false, false, false, false, false, false, false, false, false, false]
def ir3_b1 : IR := .seq (.test false [ PM 247 42, PM 248 15, PO 249 (.len false (.s 0)), PO 250 (.bin false .lss (.s 2) (.s 0))] (.s 0) (.skip) (.exit 2)) (.seq (.block 3 (.seq (.test false [ PM 253 15, PM 254 42, PO 255 (.ixAddr 1 (.s 1) (.s 0)), PO 256 (.load false 1 (.s 0)), PO 257 (.len true (.s 0)), PM 258 14, PO 259 (.bin false .gtr (.s 1) (.s 0))] (.s 0) (.seq (.region false [ VO 1 2 (.mov (.c (.bool false)))]) (.ret)) (.skip)) (.region false [ PM 260 41, PM 261 15, PM 262 42, PO 263 (.ixAddr 1 (.s 1) (.s 0)), PO 264 (.load false 1 (.s 0)), PO 265 (.bin false .add (.s 4) (.s 0)), PO 266
 (.bin false .add (.s 0) (.c (.str [32]))), VS 41 42 0]))) (.region false [ PM 251 42, PO 252 (.bin false .add (.s 0) (I6 1)), VS 42 43 0]))
def ir3_k1 : List Bool := [false, false, false, false, false, false, false, false, false, false, false, false, false, true, true, true, false, false, false, true, true, false, false, false, false, false, false, true, true, false, false, true, true, true, false, false, true, false, false, false, false, true, true, false, false, false, false]
def ir3_o1 : List Bool := [false, false, false, false, false, false, false, false, false, false, false, false, false, true, false, false, false, false, false, true, true, false, false, false, false, false, false, true, true, false, false, true, true, true, false, false, true, false, false, false, false, true, false, false, false, false, false]
def ir3_r1 : List Bool := [false, true, false, false, false, false, false, false, false, false, false, false, false, false, false, false, false, false, false, false, false, false, false, false, false, false, false, false, false, false, false, false, false, false, false, false, false, false, false, false, false, false, false, false, false, false, false]
def ir3_b2 : IR := .seq (.test false [ PM 279 44, PM 280 28, PO 281 (.bin false .lss (.s 1) (.s 0))] (.s 0) (.skip) (.exit 4)) (.seq (.block 5 (.seq (.region false [ PM 285 19, PM 286 20, PM 287 44, PO 288 (.call 15 [(.s 2), (.s 1), (.s 0)]), PO 284 (.mov (.s 0)), PO 289 (.ext (.s 0) 0), PO 290 (.ext (.s 1) 1), VS 45 46 1, VS 46 47 0]) (.seq (.test false [ PM 291 46, PO 292 (.bin false .neq (.s 0) (I6 0)), PO 293 (.mov (.s 0)), ⟨.push, 294, (some ((.s 0), false)), .mov (.v 45)⟩, ⟨.push, 295, (some ((.s 1), false)), .len false (.s 0)⟩, ⟨.push, 296, (some ((.s 2), false)), .bin false .eql (.s 0)
 (I6 0)⟩, PO 297 (.pick (.s 3) (.c (.bool true)) (.s 0))] (.s 0) (.seq (.region false [ VO 1 2 (.mov (.c (.bool false)))]) (.ret)) (.skip)) (.region false [ PM 298 43, PM 299 45, PO 300 (.len false (.s 0)), PO 301 (.bin false .add (.s 2) (.s 0)), VS 43 44 0])))) (.region false [ PM 282 44, PO 283 (.bin false .add (.s 0) (I6 1)), VS 44 45 0]))
def ir3_k2 : List Bool := [false, false, false, false, false, false, false, false, false, false, false, false, false, false, false, false, false, false, false, true, true, false, false, false, false, false, false, false, true, false, false, true, true, true, false, false, true, false, false, false, false, false, false, true, true, false, false]
def ir3_o2 : List Bool := [false, false, false, false, false, false, false, false, false, false, false, false, false, false, false, false, false, false, false, true, false, false, false, false, false, false, false, false, false, false, false, true, true, true, false, false, true, false, false, false, false, false, false, true, false, false, false]
def ir3_r2 : List Bool := [false, true, false, false, false, false, false, false, false, false, false, false, false, false, false, false, false, false, false, false, false, false, false, false, false, false, false, false, false, false, false, false, false, false, false, false, false, false, false, false, false, false, false, false, false, false, false]
def ir3_v : List Nat := [0, 2, 3, 4, 5, 6, 7, 8, 9, 10, 11, 12, 13, 14, 15, 16, 17, 18, 19, 20, 21, 22, 23, 24, 25, 26, 27, 28, 29, 30, 31, 32, 33, 34, 35, 36, 37, 38, 39, 40, 41, 42, 43, 44, 45, 46, 47]
def ir3 : AFn := ⟨1, 47, .seq (.region false [ VO 1 2 (.mov (.c (.bool false)))]) (.seq (.test false [ PM 48 0, PO 49 (.call 4 [(.s 0)])] (.s 0) (.seq (.region false [ VO 1 2 (.mov (.c (.bool true)))]) (.ret)) (.skip)) (.seq (.region false [ PM 51 0, PO 52 (.call 5 [(.s 0)]), PO 50 (.mov (.s 0)), PO 53 (.ext (.s 0) 0), PO 54 (.ext (.s 1) 1), VS 2 3 1, VS 3 4 0]) (.seq (.region false [ PM 56 2, PM 57 3, PO 58 (.call 6 [(.s 1), (.s 0)]), PO 55 (.mov (.s 0)), PO 59 (.ext (.s 0) 0), PO 60 (.ext (.s 1) 1), VS 4 5 1, VS 5 6 0]) (.seq (.region false [ PM 62 2, PM 63 3, PO 64 (.call 7 [(.s 1), (.s
 0)]), PO 61 (.mov (.s 0)), PO 65 (.ext (.s 0) 0), PO 66 (.ext (.s 1) 1), VS 6 7 1, VS 7 8 0]) (.seq (.region false [ PM 67 0, PO 68 (.call 8 [(.s 0)]), VS 8 9 0]) (.seq (.region false [ PM 70 8, PO 71 (.call 9 [(.s 0)]), PO 69 (.mov (.s 0)), PO 72 (.ext (.s 0) 0), PO 73 (.ext (.s 1) 1), VS 9 10 1, VS 10 11 0]) (.seq (.region false [ PM 75 8, PO 76 (.call 10 [(.s 0)]), PO 74 (.mov (.s 0)), PO 77 (.ext (.s 0) 0), PO 78 (.ext (.s 1) 1), VS 11 12 1, VS 12 13 0]) (.seq (.region false [ PM 80 0, PO 81 (.call 11 [(.s 0)]), PO 79 (.mov (.s 0)), PO 82 (.ext (.s 0) 0), PO 83 (.ext (.s 1) 1), VS 13 14 1,
 VS 14 15 0]) (.seq (.region false [ PM 85 13, PM 86 14, PO 87 (.call 12 [(.s 1), (.s 0)]), PO 84 (.mov (.s 0)), PO 88 (.ext (.s 0) 0), PO 89 (.ext (.s 1) 1), VS 15 16 1, VS 16 17 0]) (.seq (.region false [ PM 91 13, PM 92 14, PO 93 (.call 13 [(.s 1), (.s 0)]), PO 90 (.mov (.s 0)), PO 94 (.ext (.s 0) 0), PO 95 (.ext (.s 1) 1), VS 17 18 1, VS 18 19 0]) (.seq (.region false [ PM 97 0, PO 98 (.call 14 [(.s 0)]), PO 96 (.mov (.s 0)), PO 99 (.ext (.s 0) 0), PO 100 (.ext (.s 1) 1), PO 101 (.ext (.s 2) 2), VS 19 20 2, VS 20 21 1, VS 21 22 0]) (.seq (.region false [ PM 103 19, PM 104 20, PM 105 21, PO
 106 (.call 15 [(.s 2), (.s 1), (.s 0)]), PO 102 (.mov (.s 0)), PO 107 (.ext (.s 0) 0), PO 108 (.ext (.s 1) 1), VS 22 23 1, VS 23 24 0]) (.seq (.region false [ PM 110 19, PM 111 20, PM 112 21, PO 113 (.call 16 [(.s 2), (.s 1), (.s 0)]), PO 109 (.mov (.s 0)), PO 114 (.ext (.s 0) 0), PO 115 (.ext (.s 1) 1), VS 24 25 1, VS 25 26 0]) (.seq (.region false [ PM 117 19, PM 118 20, PO 119 (.call 17 [(.s 1), (.s 0)]), PO 116 (.mov (.s 0)), PO 120 (.ext (.s 0) 0), PO 121 (.ext (.s 1) 1), VS 26 27 1, VS 27 28 0]) (.seq (.region false [ PM 123 19, PM 124 20, PO 125 (.call 18 [(.s 1), (.s 0)]), PO 122 (.mov
 (.s 0)), PO 126 (.ext (.s 0) 0), PO 127 (.ext (.s 1) 1), VS 28 29 1, VS 29 30 0]) (.seq (.region false [ PM 129 0, PO 130 (.call 19 [(.s 0)]), PO 128 (.mov (.s 0)), PO 131 (.ext (.s 0) 0), PO 132 (.ext (.s 1) 1), VS 30 31 1, VS 31 32 0]) (.seq (.region false [ PM 134 30, PM 135 31, PO 136 (.call 20 [(.s 1), (.s 0)]), PO 133 (.mov (.s 0)), PO 137 (.ext (.s 0) 0), PO 138 (.ext (.s 1) 1), VS 32 33 1, VS 33 34 0]) (.seq (.region false [ PM 140 30, PM 141 31, PO 142 (.call 21 [(.s 1), (.s 0)]), PO 139 (.mov (.s 0)), PO 143 (.ext (.s 0) 0), PO 144 (.ext (.s 1) 1), VS 34 35 1, VS 35 36 0]) (.seq
 (.region false [ PM 146 30, PM 147 31, PO 148 (.call 22 [(.s 1), (.s 0)]), PO 145 (.mov (.s 0)), PO 149 (.ext (.s 0) 0), PO 150 (.ext (.s 1) 1), VS 36 37 1, VS 37 38 0]) (.seq (.region false [ PM 152 30, PM 153 31, PO 154 (.call 23 [(.s 1), (.s 0)]), PO 151 (.mov (.s 0)), PO 155 (.ext (.s 0) 0), PO 156 (.ext (.s 1) 1), VS 38 39 1, VS 39 40 0]) (.seq (.test false [ PM 157 5, PM 158 7, PO 159 (.bin false .neq (.s 1) (.s 0)), PO 160 (.mov (.s 0)), ⟨.push, 161, (some ((.s 0), false)), .mov (.v 4)⟩, ⟨.push, 162, (some ((.s 1), false)), .mov (.v 6)⟩, ⟨.push, 163, (some ((.s 2), false)), .call 24
 [(.s 1), (.s 0)]⟩, ⟨.push, 164, (some ((.s 3), false)), .un .not (.s 0)⟩, PO 165 (.pick (.s 4) (.c (.bool true)) (.s 0)), PO 166 (.mov (.s 0)), ⟨.push, 167, (some ((.s 0), false)), .mov (.v 10)⟩, ⟨.push, 168, (some ((.s 1), false)), .mov (.v 12)⟩, ⟨.push, 169, (some ((.s 2), false)), .bin false .neq (.s 1) (.s 0)⟩, PO 170 (.pick (.s 3) (.c (.bool true)) (.s 0)), PO 171 (.mov (.s 0)), ⟨.push, 172, (some ((.s 0), false)), .mov (.v 9)⟩, ⟨.push, 173, (some ((.s 1), false)), .mov (.v 11)⟩, ⟨.push, 174, (some ((.s 2), false)), .call 25 [(.s 1), (.s 0)]⟩, ⟨.push, 175, (some ((.s 3), false)), .un .not
 (.s 0)⟩, PO 176 (.pick (.s 4) (.c (.bool true)) (.s 0)), PO 177 (.mov (.s 0)), ⟨.push, 178, (some ((.s 0), false)), .mov (.v 16)⟩, ⟨.push, 179, (some ((.s 1), false)), .mov (.v 18)⟩, ⟨.push, 180, (some ((.s 2), false)), .bin false .neq (.s 1) (.s 0)⟩, PO 181 (.pick (.s 3) (.c (.bool true)) (.s 0)), PO 182 (.mov (.s 0)), ⟨.push, 183, (some ((.s 0), false)), .mov (.v 15)⟩, ⟨.push, 184, (some ((.s 1), false)), .mov (.v 17)⟩, ⟨.push, 185, (some ((.s 2), false)), .call 24 [(.s 1), (.s 0)]⟩, ⟨.push, 186, (some ((.s 3), false)), .un .not (.s 0)⟩, PO 187 (.pick (.s 4) (.c (.bool true)) (.s 0)), PO 188
 (.mov (.s 0)), ⟨.push, 189, (some ((.s 0), false)), .mov (.v 23)⟩, ⟨.push, 190, (some ((.s 1), false)), .mov (.v 25)⟩, ⟨.push, 191, (some ((.s 2), false)), .bin false .neq (.s 1) (.s 0)⟩, PO 192 (.pick (.s 3) (.c (.bool true)) (.s 0)), PO 193 (.mov (.s 0)), ⟨.push, 194, (some ((.s 0), false)), .mov (.v 22)⟩, ⟨.push, 195, (some ((.s 1), false)), .mov (.v 24)⟩, ⟨.push, 196, (some ((.s 2), false)), .call 24 [(.s 1), (.s 0)]⟩, ⟨.push, 197, (some ((.s 3), false)), .un .not (.s 0)⟩, PO 198 (.pick (.s 4) (.c (.bool true)) (.s 0)), PO 199 (.mov (.s 0)), ⟨.push, 200, (some ((.s 0), false)), .mov (.v
 27)⟩, ⟨.push, 201, (some ((.s 1), false)), .mov (.v 29)⟩, ⟨.push, 202, (some ((.s 2), false)), .bin false .neq (.s 1) (.s 0)⟩, PO 203 (.pick (.s 3) (.c (.bool true)) (.s 0)), PO 204 (.mov (.s 0)), ⟨.push, 205, (some ((.s 0), false)), .mov (.v 26)⟩, ⟨.push, 206, (some ((.s 1), false)), .mov (.v 28)⟩, ⟨.push, 207, (some ((.s 2), false)), .bin false .neq (.s 1) (.s 0)⟩, PO 208 (.pick (.s 3) (.c (.bool true)) (.s 0)), PO 209 (.mov (.s 0)), ⟨.push, 210, (some ((.s 0), false)), .mov (.v 33)⟩, ⟨.push, 211, (some ((.s 1), false)), .mov (.v 35)⟩, ⟨.push, 212, (some ((.s 2), false)), .bin false .neq (.s
 1) (.s 0)⟩, PO 213 (.pick (.s 3) (.c (.bool true)) (.s 0)), PO 214 (.mov (.s 0)), ⟨.push, 215, (some ((.s 0), false)), .mov (.v 32)⟩, ⟨.push, 216, (some ((.s 1), false)), .mov (.v 34)⟩, ⟨.push, 217, (some ((.s 2), false)), .bin false .neq (.s 1) (.s 0)⟩, PO 218 (.pick (.s 3) (.c (.bool true)) (.s 0)), PO 219 (.mov (.s 0)), ⟨.push, 220, (some ((.s 0), false)), .mov (.v 37)⟩, ⟨.push, 221, (some ((.s 1), false)), .mov (.v 39)⟩, ⟨.push, 222, (some ((.s 2), false)), .bin false .neq (.s 1) (.s 0)⟩, PO 223 (.pick (.s 3) (.c (.bool true)) (.s 0)), PO 224 (.mov (.s 0)), ⟨.push, 225, (some ((.s 0),
 false)), .mov (.v 36)⟩, ⟨.push, 226, (some ((.s 1), false)), .mov (.v 38)⟩, ⟨.push, 227, (some ((.s 2), false)), .bin false .neq (.s 1) (.s 0)⟩, PO 228 (.pick (.s 3) (.c (.bool true)) (.s 0))] (.s 0) (.seq (.region false [ VO 1 2 (.mov (.c (.bool false)))]) (.ret)) (.skip)) (.seq (.seq (.region false [ VO 40 41 (.mov (I6 1))]) (.block 0 (.loop ir3_k0 ir3_o0 ir3_r0 ir3_b0))) (.seq (.test false [ PM 245 16, PO 246 (.bin false .eql (.s 0) (I6 0))] (.s 0) (.seq (.region false [ VO 41 42 (.mov (.c (.str [])))]) (.seq (.seq (.region false [ VO 42 43 (.mov (I6 0))]) (.block 2 (.loop ir3_k1 ir3_o1
 ir3_r1 ir3_b1))) (.test false [ PM 267 41, PO 268 (.call 26 [(.s 0)]), PM 269 13, PO 270 (.call 26 [(.s 0)]), PO 271 (.call 24 [(.s 2), (.s 0)]), PO 272 (.un .not (.s 0))] (.s 0) (.seq (.region false [ VO 1 2 (.mov (.c (.bool false)))]) (.ret)) (.skip)))) (.skip)) (.seq (.test false [ PM 273 27, PO 274 (.bin false .eql (.s 0) (I6 0)), PO 275 (.mov (.s 0)), ⟨.push, 276, (some ((.s 0), true)), .mov (.v 28)⟩, ⟨.push, 277, (some ((.s 1), true)), .bin false .lss (.s 0) (I6 100)⟩, PO 278 (.pick (.s 2) (.s 0) (.c (.bool false)))] (.s 0) (.seq (.region false [ VO 43 44 (.mov (I6 0))]) (.seq (.seq
 (.region false [ VO 44 45 (.mov (I6 0))]) (.block 4 (.loop ir3_k2 ir3_o2 ir3_r2 ir3_b2))) (.test false [ PM 302 43, PM 303 19, PO 304 (.len false (.s 0)), PO 305 (.bin false .neq (.s 2) (.s 0))] (.s 0) (.seq (.region false [ VO 1 2 (.mov (.c (.bool false)))]) (.ret)) (.skip)))) (.skip)) (.seq (.region false [ PM 306 33, PO 307 (.bin false .neq (.s 0) (I6 0)), PO 308 (.mov (.s 0)), ⟨.push, 309, (some ((.s 0), false)), .mov (.v 32)⟩, ⟨.push, 310, (some ((.s 1), false)), .len true (.s 0)⟩, ⟨.push, 311, (some ((.s 2), false)), .mov (.v 31)⟩, ⟨.push, 312, (some ((.s 3), false)), .bin false .eql (.s
 1) (.s 0)⟩, ⟨.push, 313, (some ((.s 4), false)), .mov (.s 0)⟩, ⟨.push, 314, (some ((.s 0), true)), .mov (.v 36)⟩, ⟨.push, 315, (some ((.s 1), true)), .len true (.s 0)⟩, ⟨.push, 316, (some ((.s 2), true)), .mov (.v 31)⟩, ⟨.push, 317, (some ((.s 3), true)), .bin false .eql (.s 1) (.s 0)⟩, ⟨.push, 318, (some ((.s 9), false)), .pick (.s 4) (.s 0) (.c (.bool false))⟩, PO 319 (.pick (.s 10) (.c (.bool true)) (.s 0)), VS 1 2 0]) (.ret)))))))))))))))))))))))))), [.t 1]⟩
noncomputable def t_laws_FnTables : List (Nat × Ctr) := [(4, c_0), (5, c_9), (6, c_20), (7, c_25), (8, c_26), (9, c_12), (10, c_27), (11, c_29), (12, c_32), (13, c_36), (14, c_38), (15, c_44), (16, c_47), (17, c_42), (18, c_48), (19, c_50), (20, c_18), (21, c_53), (22, c_17), (23, c_54), (24, c_55), (25, c_56), (26, c_35)]
theorem lk_laws_FnTables_4 : look t_laws_FnTables 4 = some c_0 := rfl
theorem lk_laws_FnTables_5 : look t_laws_FnTables 5 = some c_9 := rfl
theorem lk_laws_FnTables_6 : look t_laws_FnTables 6 = some c_20 := rfl
theorem lk_laws_FnTables_7 : look t_laws_FnTables 7 = some c_25 := rfl
theorem lk_laws_FnTables_8 : look t_laws_FnTables 8 = some c_26 := rfl
theorem lk_laws_FnTables_9 : look t_laws_FnTables 9 = some c_12 := rfl
theorem lk_laws_FnTables_10 : look t_laws_FnTables 10 = some c_27 := rfl
theorem lk_laws_FnTables_11 : look t_laws_FnTables 11 = some c_29 := rfl
theorem lk_laws_FnTables_12 : look t_laws_FnTables 12 = some c_32 := rfl
theorem lk_laws_FnTables_13 : look t_laws_FnTables 13 = some c_36 := rfl
theorem lk_laws_FnTables_14 : look t_laws_FnTables 14 = some c_38 := rfl
theorem lk_laws_FnTables_15 : look t_laws_FnTables 15 = some c_44 := rfl
theorem lk_laws_FnTables_16 : look t_laws_FnTables 16 = some c_47 := rfl
theorem lk_laws_FnTables_17 : look t_laws_FnTables 17 = some c_42 := rfl
theorem lk_laws_FnTables_18 : look t_laws_FnTables 18 = some c_48 := rfl
theorem lk_laws_FnTables_19 : look t_laws_FnTables 19 = some c_50 := rfl
theorem lk_laws_FnTables_20 : look t_laws_FnTables 20 = some c_18 := rfl
theorem lk_laws_FnTables_21 : look t_laws_FnTables 21 = some c_53 := rfl
theorem lk_laws_FnTables_22 : look t_laws_FnTables 22 = some c_17 := rfl
theorem lk_laws_FnTables_23 : look t_laws_FnTables 23 = some c_54 := rfl
theorem lk_laws_FnTables_24 : look t_laws_FnTables 24 = some c_55 := rfl
theorem lk_laws_FnTables_25 : look t_laws_FnTables 25 = some c_56 := rfl
theorem lk_laws_FnTables_26 : look t_laws_FnTables 26 = some c_35 := rfl
noncomputable def c_laws_FnTables : Ctr := mkF t_laws_FnTables ir3 [.bor]
theorem s_laws_FnTables : Sound Tryz.prog 3 c_laws_FnTables := mkF_sound _ rfl (snd_cons s_0 (snd_cons s_9 (snd_cons s_20 (snd_cons s_25 (snd_cons s_26 (snd_cons s_12 (snd_cons s_27 (snd_cons s_29 (snd_cons s_32 (snd_cons s_36 (snd_cons s_38 (snd_cons s_44 (snd_cons s_47 (snd_cons s_42 (snd_cons s_48 (snd_cons s_50 (snd_cons s_18 (snd_cons s_53 (snd_cons s_17 (snd_cons s_54 (snd_cons s_55 (snd_cons s_56 (snd_cons s_35 snd_nil))))))))))))))))))))))) (by kernel_rfl : chkFn Tryz.prog 3 ir3 ir3_v = true)
theorem M_laws_FnTables : c_laws_FnTables.modes = [.bor] := rfl
theorem Fl_laws_FnTables : c_laws_FnTables.flat = true := rfl
attribute [go_sem] M_laws_FnTables Fl_laws_FnTables
attribute [go_sem] lk_laws_FnTables_4 lk_laws_FnTables_5 lk_laws_FnTables_6 lk_laws_FnTables_7 lk_laws_FnTables_8 lk_laws_FnTables_9 lk_laws_FnTables_10 lk_laws_FnTables_11 lk_laws_FnTables_12 lk_laws_FnTables_13 lk_laws_FnTables_14 lk_laws_FnTables_15 lk_laws_FnTables_16 lk_laws_FnTables_17 lk_laws_FnTables_18 lk_laws_FnTables_19 lk_laws_FnTables_20 lk_laws_FnTables_21 lk_laws_FnTables_22 lk_laws_FnTables_23 lk_laws_FnTables_24 lk_laws_FnTables_25 lk_laws_FnTables_26
def E_laws_FnTables_l1 (lines : List (List UInt8)) (model : List (List UInt8)) (s_ : List UInt8) (width : Int) (wrapped : List (List UInt8)) (three : Int) (l : List (List UInt8)) (each : Int) (seven : Int) (many : Int) (w : Int) (left_ : List UInt8) (nine : Int) (behind : List UInt8) : Int → St
 | i => ⟨[.any, .any, .any, .any, .own 3200000, .any, .own 3200032, .any, .any, .any, .any, .any, .any, .str s_, .int .i64 width, .own 3200064, .int .i64 three, .any, .any, .own 3200096, .int .i64 each, .any, .any, .any, .any, .any, .any, .int .i64 seven, .int .i64 many, .any, .any, .int .i64 w, .str left_, .int .i64 nine, .any, .any, .str behind, .any, .any, .any, .int .i64 i, .any, .any, .any, .any, .any, .any], [], [(3200000, ⟨1, List.map AV.str lines⟩), (3200032, ⟨1, List.map AV.str model⟩), (3200064, ⟨1, List.map AV.str wrapped⟩), (3200096, ⟨1, List.map AV.str l⟩)], true⟩
def R_laws_FnTables_l1 (lines : List (List UInt8)) (model : List (List UInt8)) (s_ : List UInt8) (width : Int) (wrapped : List (List UInt8)) (three : Int) (l : List (List UInt8)) (each : Int) (seven : Int) (many : Int) (w : Int) (left_ : List UInt8) (nine : Int) (behind : List UInt8) : (Unit ⊕ Bool) → Res
 | .inl y => (.exit 0, ⟨[.any, .any, .any, .any, .any, .any, .any, .any, .any, .any, .any, .any, .any, .str s_, .int .i64 width, .own 3200000, .int .i64 three, .any, .any, .own 3200032, .int .i64 each, .any, .any, .any, .any, .any, .any, .int .i64 seven, .int .i64 many, .any, .any, .int .i64 w, .str left_, .int .i64 nine, .any, .any, .str behind, .any, .any, .any, .any, .any, .any, .any, .any, .any, .any], [], [(3200000, ⟨1, List.map AV.str wrapped⟩), (3200032, ⟨1, List.map AV.str l⟩)], true⟩)
 | .inr y => (.ret, ⟨[.any, .bool y, .any, .any, .any, .any, .any, .any, .any, .any, .any, .any, .any, .any, .any, .any, .any, .any, .any, .any, .any, .any, .any, .any, .any, .any, .any, .any, .any, .any, .any, .any, .any, .any, .any, .any, .any, .any, .any, .any, .any, .any, .any, .any, .any, .any, .any], [], [], true⟩)
set_option maxHeartbeats 64000000 in
theorem laws_FnTables_l1_ex {lines : List (List UInt8)} {model : List (List UInt8)} {s_ : List UInt8} {width : Int} {wrapped : List (List UInt8)} {three : Int} {l : List (List UInt8)} {each : Int} {seven : Int} {many : Int} {w : Int} {left_ : List UInt8} {nine : Int} {behind : List UInt8} {sgm_ : Int} {rho_ : Unit ⊕ Bool} (h : whileE (laws_FnTables_l1 lines model s_ width wrapped three l each seven many w left_ nine behind) sgm_ = some rho_) : ∃ L0, ∀ L, L0 ≤ L → iter (exec (look t_laws_FnTables) L ir3_b0) ir3_k0 ir3_o0 ir3_r0 L (E_laws_FnTables_l1 lines model s_ width wrapped three l each seven many w left_ nine behind sgm_) = R_laws_FnTables_l1 lines model s_ width wrapped three l each seven many w left_ nine behind rho_ := by
 refine loop_ex (E := E_laws_FnTables_l1 lines model s_ width wrapped three l each seven many w left_ nine behind) (R := R_laws_FnTables_l1 lines model s_ width wrapped three l each seven many w left_ nine behind) (fun y => by first | (intro c; cases c) | (rcases y with y | y <;> (intro c; cases c)) | (rcases y with y | y | y <;> (intro c; cases c))) ?_ h
 clear h
 intro i o_ h
 dsimp only [laws_FnTables_l1] at h
 rcases it_some h with ⟨z27, h⟩ | ⟨z27, h⟩
 ·try simp only [go_sem, n1, n2, n3, n4] at z27
  all_goals
  obtain ⟨z28, h⟩ := ck_some h
  have lz28 := ix_lt z28
  have xz28 := getD_mapD AV.str lines lz28
  try simp only [go_sem] at lz28
  try simp only [go_sem] at xz28
  try simp only [go_sem, n1, n2, n3, n4, z27] at z28
  all_goals
  obtain ⟨z29, h⟩ := ck_some h
  have lz29 := ix_lt z29
  have xz29 := getD_mapD AV.str lines lz29
  try simp only [go_sem] at lz29
  try simp only [go_sem] at xz29
  try simp only [go_sem, n1, n2, n3, n4, z27, z28] at z29
  all_goals
  rcases it_some h with ⟨z30, h⟩ | ⟨z30, h⟩
  ·try simp only [go_sem, n1, n2, n3, n4, z27, z28, z29] at z30
   all_goals
   obtain rfl := so_some h
   refine ⟨0, fun L hL => ?_⟩
   simp only [go_sem, ir3, E_laws_FnTables_l1, R_laws_FnTables_l1, ir3_b0, ir3_k0, ir3_o0, ir3_r0, z27, z28, lz28, xz28, z29, lz29, xz29, z30]
  ·try simp only [go_sem, n1, n2, n3, n4, z27, z28, z29] at z30
   all_goals
   obtain rfl := so_some h
   refine ⟨0, fun L hL => ?_⟩
   simp only [go_sem, ir3, E_laws_FnTables_l1, R_laws_FnTables_l1, ir3_b0, ir3_k0, ir3_o0, ir3_r0, z27, z28, lz28, xz28, z29, lz29, xz29, z30]
 ·try simp only [go_sem, n1, n2, n3, n4] at z27
  all_goals
  obtain rfl := so_some h
  refine ⟨0, fun L hL => ?_⟩
  simp only [go_sem, ir3, E_laws_FnTables_l1, R_laws_FnTables_l1, ir3_b0, ir3_k0, ir3_o0, ir3_r0, z27]

def E_laws_FnTables_l2 (s_ : List UInt8) (width : Int) (wrapped : List (List UInt8)) (l : List (List UInt8)) (each : Int) (seven : Int) (many : Int) (w : Int) (left_ : List UInt8) (nine : Int) (behind : List UInt8) : ((List UInt8) × Int) → St
 | (all, i) => ⟨[.any, .any, .any, .any, .any, .any, .any, .any, .any, .any, .any, .any, .any, .str s_, .int .i64 width, .own 3200000, .any, .any, .any, .own 3200032, .int .i64 each, .any, .any, .any, .any, .any, .any, .int .i64 seven, .int .i64 many, .any, .any, .int .i64 w, .str left_, .int .i64 nine, .any, .any, .str behind, .any, .any, .any, .any, .str all, .int .i64 i, .any, .any, .any, .any], [], [(3200000, ⟨1, List.map AV.str wrapped⟩), (3200032, ⟨1, List.map AV.str l⟩)], true⟩
def R_laws_FnTables_l2 (s_ : List UInt8) (width : Int) (wrapped : List (List UInt8)) (l : List (List UInt8)) (each : Int) (seven : Int) (many : Int) (w : Int) (left_ : List UInt8) (nine : Int) (behind : List UInt8) : ((List UInt8) ⊕ Bool) → Res
 | .inl y => (.exit 2, ⟨[.any, .any, .any, .any, .any, .any, .any, .any, .any, .any, .any, .any, .any, .str s_, .any, .any, .any, .any, .any, .own 3200000, .int .i64 each, .any, .any, .any, .any, .any, .any, .int .i64 seven, .int .i64 many, .any, .any, .int .i64 w, .str left_, .int .i64 nine, .any, .any, .str behind, .any, .any, .any, .any, .str y, .any, .any, .any, .any, .any], [], [(3200000, ⟨1, List.map AV.str l⟩)], true⟩)
 | .inr y => (.ret, ⟨[.any, .bool y, .any, .any, .any, .any, .any, .any, .any, .any, .any, .any, .any, .any, .any, .any, .any, .any, .any, .any, .any, .any, .any, .any, .any, .any, .any, .any, .any, .any, .any, .any, .any, .any, .any, .any, .any, .any, .any, .any, .any, .any, .any, .any, .any, .any, .any], [], [], true⟩)
set_option maxHeartbeats 64000000 in
theorem laws_FnTables_l2_ex {s_ : List UInt8} {width : Int} {wrapped : List (List UInt8)} {l : List (List UInt8)} {each : Int} {seven : Int} {many : Int} {w : Int} {left_ : List UInt8} {nine : Int} {behind : List UInt8} {sgm_ : (List UInt8) × Int} {rho_ : (List UInt8) ⊕ Bool} (h : whileE (laws_FnTables_l2 s_ width wrapped l each seven many w left_ nine behind) sgm_ = some rho_) : ∃ L0, ∀ L, L0 ≤ L → iter (exec (look t_laws_FnTables) L ir3_b1) ir3_k1 ir3_o1 ir3_r1 L (E_laws_FnTables_l2 s_ width wrapped l each seven many w left_ nine behind sgm_) = R_laws_FnTables_l2 s_ width wrapped l each seven many w left_ nine behind rho_ := by
 refine loop_ex (E := E_laws_FnTables_l2 s_ width wrapped l each seven many w left_ nine behind) (R := R_laws_FnTables_l2 s_ width wrapped l each seven many w left_ nine behind) (fun y => by first | (intro c; cases c) | (rcases y with y | y <;> (intro c; cases c)) | (rcases y with y | y | y <;> (intro c; cases c))) ?_ h
 clear h
 rintro ⟨all, i⟩ o_ h
 dsimp only [laws_FnTables_l2] at h
 rcases it_some h with ⟨z33, h⟩ | ⟨z33, h⟩
 ·try simp only [go_sem, n1, n2, n3, n4] at z33
  all_goals
  obtain ⟨z34, h⟩ := ck_some h
  have lz34 := ix_lt z34
  have xz34 := getD_mapD AV.str wrapped lz34
  try simp only [go_sem] at lz34
  try simp only [go_sem] at xz34
  try simp only [go_sem, n1, n2, n3, n4, z33] at z34
  all_goals
  rcases it_some h with ⟨z35, h⟩ | ⟨z35, h⟩
  ·try simp only [go_sem, n1, n2, n3, n4, z33, z34] at z35
   all_goals
   obtain rfl := so_some h
   refine ⟨0, fun L hL => ?_⟩
   simp only [go_sem, ir3, E_laws_FnTables_l2, R_laws_FnTables_l2, ir3_b1, ir3_k1, ir3_o1, ir3_r1, E_laws_FnTables_l1, R_laws_FnTables_l1, ir3_k0, ir3_o0, ir3_r0, z33, z34, lz34, xz34, z35]
  ·try simp only [go_sem, n1, n2, n3, n4, z33, z34] at z35
   all_goals
   obtain ⟨z36, h⟩ := ck_some h
   try simp only [go_sem, n1, n2, n3, n4, z33, z34, z35] at z36
   all_goals
   obtain ⟨z37, h⟩ := ck_some h
   try simp only [go_sem, n1, n2, n3, n4, z33, z34, z35, z36] at z37
   all_goals
   obtain rfl := so_some h
   refine ⟨0, fun L hL => ?_⟩
   simp only [go_sem, ir3, E_laws_FnTables_l2, R_laws_FnTables_l2, ir3_b1, ir3_k1, ir3_o1, ir3_r1, E_laws_FnTables_l1, R_laws_FnTables_l1, ir3_k0, ir3_o0, ir3_r0, z33, z34, lz34, xz34, z35, z36, z37]
 ·try simp only [go_sem, n1, n2, n3, n4] at z33
  all_goals
  obtain rfl := so_some h
  refine ⟨0, fun L hL => ?_⟩
  simp only [go_sem, ir3, E_laws_FnTables_l2, R_laws_FnTables_l2, ir3_b1, ir3_k1, ir3_o1, ir3_r1, E_laws_FnTables_l1, R_laws_FnTables_l1, ir3_k0, ir3_o0, ir3_r0, z33]

def E_laws_FnTables_l3 (l : List (List UInt8)) (each : Int) (many : Int) (w : Int) (left_ : List UInt8) (nine : Int) (behind : List UInt8) : (Int × Int) → St
 | (sum, p) => ⟨[.any, .any, .any, .any, .any, .any, .any, .any, .any, .any, .any, .any, .any, .any, .any, .any, .any, .any, .any, .own 3200000, .int .i64 each, .any, .any, .any, .any, .any, .any, .any, .int .i64 many, .any, .any, .int .i64 w, .str left_, .int .i64 nine, .any, .any, .str behind, .any, .any, .any, .any, .any, .any, .int .i64 sum, .int .i64 p, .any, .any], [], [(3200000, ⟨1, List.map AV.str l⟩)], true⟩
def R_laws_FnTables_l3 (l : List (List UInt8)) (each : Int) (many : Int) (w : Int) (left_ : List UInt8) (nine : Int) (behind : List UInt8) : (Int ⊕ Bool) → Res
 | .inl y => (.exit 4, ⟨[.any, .any, .any, .any, .any, .any, .any, .any, .any, .any, .any, .any, .any, .any, .any, .any, .any, .any, .any, .own 3200000, .any, .any, .any, .any, .any, .any, .any, .any, .any, .any, .any, .int .i64 w, .str left_, .int .i64 nine, .any, .any, .str behind, .any, .any, .any, .any, .any, .any, .int .i64 y, .any, .any, .any], [], [(3200000, ⟨1, List.map AV.str l⟩)], true⟩)
 | .inr y => (.ret, ⟨[.any, .bool y, .any, .any, .any, .any, .any, .any, .any, .any, .any, .any, .any, .any, .any, .any, .any, .any, .any, .any, .any, .any, .any, .any, .any, .any, .any, .any, .any, .any, .any, .any, .any, .any, .any, .any, .any, .any, .any, .any, .any, .any, .any, .any, .any, .any, .any], [], [], true⟩)
set_option maxHeartbeats 64000000 in
theorem laws_FnTables_l3_ex {l : List (List UInt8)} {each : Int} {many : Int} {w : Int} {left_ : List UInt8} {nine : Int} {behind : List UInt8} {sgm_ : Int × Int} {rho_ : Int ⊕ Bool} (h : whileE (laws_FnTables_l3 l each many w left_ nine behind) sgm_ = some rho_) : ∃ L0, ∀ L, L0 ≤ L → iter (exec (look t_laws_FnTables) L ir3_b2) ir3_k2 ir3_o2 ir3_r2 L (E_laws_FnTables_l3 l each many w left_ nine behind sgm_) = R_laws_FnTables_l3 l each many w left_ nine behind rho_ := by
 refine loop_ex (E := E_laws_FnTables_l3 l each many w left_ nine behind) (R := R_laws_FnTables_l3 l each many w left_ nine behind) (fun y => by first | (intro c; cases c) | (rcases y with y | y <;> (intro c; cases c)) | (rcases y with y | y | y <;> (intro c; cases c))) ?_ h
 clear h
 rintro ⟨sum, p⟩ o_ h
 dsimp only [laws_FnTables_l3] at h
 rcases it_some h with ⟨z44, h⟩ | ⟨z44, h⟩
 ·try simp only [go_sem, n1, n2, n3, n4] at z44
  all_goals
  obtain ⟨y_45, z45, h⟩ := bd_some h
  have fz45 := Fs_44 z45
  try simp only [go_sem, z44] at fz45
  rcases it_some h with ⟨z46, h⟩ | ⟨z46, h⟩
  ·try simp only [go_sem, n1, n2, n3, n4, z44] at z46
   all_goals
   obtain rfl := so_some h
   refine ⟨0, fun L hL => ?_⟩
   simp only [go_sem, ir3, E_laws_FnTables_l3, R_laws_FnTables_l3, ir3_b2, ir3_k2, ir3_o2, ir3_r2, E_laws_FnTables_l1, R_laws_FnTables_l1, ir3_k0, ir3_o0, ir3_r0, E_laws_FnTables_l2, R_laws_FnTables_l2, ir3_k1, ir3_o1, ir3_r1, z44, fz45, z46]
  ·try simp only [go_sem, n1, n2, n3, n4, z44] at z46
   all_goals
   obtain rfl := so_some h
   refine ⟨0, fun L hL => ?_⟩
   simp only [go_sem, ir3, E_laws_FnTables_l3, R_laws_FnTables_l3, ir3_b2, ir3_k2, ir3_o2, ir3_r2, E_laws_FnTables_l1, R_laws_FnTables_l1, ir3_k0, ir3_o0, ir3_r0, E_laws_FnTables_l2, R_laws_FnTables_l2, ir3_k1, ir3_o1, ir3_r1, z44, fz45, z46]
 ·try simp only [go_sem, n1, n2, n3, n4] at z44
  all_goals
  obtain rfl := so_some h
  refine ⟨0, fun L hL => ?_⟩
  simp only [go_sem, ir3, E_laws_FnTables_l3, R_laws_FnTables_l3, ir3_b2, ir3_k2, ir3_o2, ir3_r2, E_laws_FnTables_l1, R_laws_FnTables_l1, ir3_k0, ir3_o0, ir3_r0, E_laws_FnTables_l2, R_laws_FnTables_l2, ir3_k1, ir3_o1, ir3_r1, z44]

def E_laws_FnTables_l4 (l : List (List UInt8)) (each : Int) (many : Int) (w : Int) (left_ : List UInt8) (nine : Int) (behind : List UInt8) : (Int × Int) → St
 | (sum, p) => ⟨[.any, .any, .any, .any, .any, .any, .any, .any, .any, .any, .any, .any, .any, .any, .any, .any, .any, .any, .any, .own 3200000, .int .i64 each, .any, .any, .any, .any, .any, .any, .any, .int .i64 many, .any, .any, .int .i64 w, .str left_, .int .i64 nine, .any, .any, .str behind, .any, .any, .any, .any, .any, .any, .int .i64 sum, .int .i64 p, .any, .any], [], [(3200000, ⟨1, List.map AV.str l⟩)], true⟩
def R_laws_FnTables_l4 (l : List (List UInt8)) (each : Int) (many : Int) (w : Int) (left_ : List UInt8) (nine : Int) (behind : List UInt8) : (Int ⊕ Bool) → Res
 | .inl y => (.exit 4, ⟨[.any, .any, .any, .any, .any, .any, .any, .any, .any, .any, .any, .any, .any, .any, .any, .any, .any, .any, .any, .own 3200000, .any, .any, .any, .any, .any, .any, .any, .any, .any, .any, .any, .int .i64 w, .str left_, .int .i64 nine, .any, .any, .str behind, .any, .any, .any, .any, .any, .any, .int .i64 y, .any, .any, .any], [], [(3200000, ⟨1, List.map AV.str l⟩)], true⟩)
 | .inr y => (.ret, ⟨[.any, .bool y, .any, .any, .any, .any, .any, .any, .any, .any, .any, .any, .any, .any, .any, .any, .any, .any, .any, .any, .any, .any, .any, .any, .any, .any, .any, .any, .any, .any, .any, .any, .any, .any, .any, .any, .any, .any, .any, .any, .any, .any, .any, .any, .any, .any, .any], [], [], true⟩)
set_option maxHeartbeats 64000000 in
theorem laws_FnTables_l4_ex {l : List (List UInt8)} {each : Int} {many : Int} {w : Int} {left_ : List UInt8} {nine : Int} {behind : List UInt8} {sgm_ : Int × Int} {rho_ : Int ⊕ Bool} (h : whileE (laws_FnTables_l4 l each many w left_ nine behind) sgm_ = some rho_) : ∃ L0, ∀ L, L0 ≤ L → iter (exec (look t_laws_FnTables) L ir3_b2) ir3_k2 ir3_o2 ir3_r2 L (E_laws_FnTables_l4 l each many w left_ nine behind sgm_) = R_laws_FnTables_l4 l each many w left_ nine behind rho_ := by
 refine loop_ex (E := E_laws_FnTables_l4 l each many w left_ nine behind) (R := R_laws_FnTables_l4 l each many w left_ nine behind) (fun y => by first | (intro c; cases c) | (rcases y with y | y <;> (intro c; cases c)) | (rcases y with y | y | y <;> (intro c; cases c))) ?_ h
 clear h
 rintro ⟨sum, p⟩ o_ h
 dsimp only [laws_FnTables_l4] at h
 rcases it_some h with ⟨z50, h⟩ | ⟨z50, h⟩
 ·try simp only [go_sem, n1, n2, n3, n4] at z50
  all_goals
  obtain ⟨y_51, z51, h⟩ := bd_some h
  have fz51 := Fs_44 z51
  try simp only [go_sem, z50] at fz51
  rcases it_some h with ⟨z52, h⟩ | ⟨z52, h⟩
  ·try simp only [go_sem, n1, n2, n3, n4, z50] at z52
   all_goals
   obtain rfl := so_some h
   refine ⟨0, fun L hL => ?_⟩
   simp only [go_sem, ir3, E_laws_FnTables_l4, R_laws_FnTables_l4, ir3_b2, ir3_k2, ir3_o2, ir3_r2, E_laws_FnTables_l1, R_laws_FnTables_l1, ir3_k0, ir3_o0, ir3_r0, E_laws_FnTables_l2, R_laws_FnTables_l2, ir3_k1, ir3_o1, ir3_r1, E_laws_FnTables_l3, R_laws_FnTables_l3, ir3_k2, ir3_o2, ir3_r2, z50, fz51, z52]
  ·try simp only [go_sem, n1, n2, n3, n4, z50] at z52
   all_goals
   obtain rfl := so_some h
   refine ⟨0, fun L hL => ?_⟩
   simp only [go_sem, ir3, E_laws_FnTables_l4, R_laws_FnTables_l4, ir3_b2, ir3_k2, ir3_o2, ir3_r2, E_laws_FnTables_l1, R_laws_FnTables_l1, ir3_k0, ir3_o0, ir3_r0, E_laws_FnTables_l2, R_laws_FnTables_l2, ir3_k1, ir3_o1, ir3_r1, E_laws_FnTables_l3, R_laws_FnTables_l3, ir3_k2, ir3_o2, ir3_r2, z50, fz51, z52]
 ·try simp only [go_sem, n1, n2, n3, n4] at z50
  all_goals
  obtain rfl := so_some h
  refine ⟨0, fun L hL => ?_⟩
  simp only [go_sem, ir3, E_laws_FnTables_l4, R_laws_FnTables_l4, ir3_b2, ir3_k2, ir3_o2, ir3_r2, E_laws_FnTables_l1, R_laws_FnTables_l1, ir3_k0, ir3_o0, ir3_r0, E_laws_FnTables_l2, R_laws_FnTables_l2, ir3_k1, ir3_o1, ir3_r1, E_laws_FnTables_l3, R_laws_FnTables_l3, ir3_k2, ir3_o2, ir3_r2, z50]

set_option maxHeartbeats 64000000 in
theorem Fs_laws_FnTables {code : List UInt8} {y_ : Bool} (h : laws_FnTables code = some y_) : c_laws_FnTables.F [.sl 1 (List.map byteAV code)] = ⟨true, .bool y_, [.any]⟩ := by
 refine mkF_E rfl ?_
 dsimp only [laws_FnTables] at h
 obtain ⟨y_1, z1, h⟩ := bd_some h
 have fz1 := Fs_0 z1
 try simp only [go_sem] at fz1
 rcases it_some h with ⟨z2, h⟩ | ⟨z2, h⟩
 ·try simp only [go_sem, n1, n2, n3, n4] at z2
  all_goals
  obtain rfl := so_some h
  refine ⟨0, fun L hL => ?_⟩
  simp only [go_sem, ir3, E_laws_FnTables_l1, R_laws_FnTables_l1, ir3_k0, ir3_o0, ir3_r0, E_laws_FnTables_l2, R_laws_FnTables_l2, ir3_k1, ir3_o1, ir3_r1, E_laws_FnTables_l3, R_laws_FnTables_l3, ir3_k2, ir3_o2, ir3_r2, E_laws_FnTables_l4, R_laws_FnTables_l4, ir3_k2, ir3_o2, ir3_r2, fz1, z2]
 ·try simp only [go_sem, n1, n2, n3, n4] at z2
  all_goals
  obtain ⟨y_3, z3, h⟩ := bd_some h
  have fz3 := Fs_9 z3
  try simp only [go_sem, z2] at fz3
  obtain ⟨y_4, z4, h⟩ := bd_some h
  have fz4 := Fs_20 z4
  try simp only [go_sem, z2] at fz4
  obtain ⟨y_5, z5, h⟩ := bd_some h
  have fz5 := Fs_25 z5
  try simp only [go_sem, z2] at fz5
  obtain ⟨y_6, z6, h⟩ := bd_some h
  have fz6 := Fs_26 z6
  try simp only [go_sem, z2] at fz6
  obtain ⟨y_7, z7, h⟩ := bd_some h
  have fz7 := Fs_12 z7
  try simp only [go_sem, z2] at fz7
  obtain ⟨y_8, z8, h⟩ := bd_some h
  have fz8 := Fs_27 z8
  try simp only [go_sem, z2] at fz8
  obtain ⟨y_9, z9, h⟩ := bd_some h
  have fz9 := Fs_29 z9
  try simp only [go_sem, z2] at fz9
  obtain ⟨y_10, z10, h⟩ := bd_some h
  have fz10 := Fs_32 z10
  try simp only [go_sem, z2] at fz10
  obtain ⟨y_11, z11, h⟩ := bd_some h
  have fz11 := Fs_36 z11
  try simp only [go_sem, z2] at fz11
  obtain ⟨y_12, z12, h⟩ := bd_some h
  have fz12 := Fs_38 z12
  try simp only [go_sem, z2] at fz12
  obtain ⟨y_13, z13, h⟩ := bd_some h
  have fz13 := Fs_44 z13
  try simp only [go_sem, z2] at fz13
  obtain ⟨y_14, z14, h⟩ := bd_some h
  have fz14 := Fs_47 z14
  try simp only [go_sem, z2] at fz14
  obtain ⟨y_15, z15, h⟩ := bd_some h
  have fz15 := Fs_42 z15
  try simp only [go_sem, z2] at fz15
  obtain ⟨y_16, z16, h⟩ := bd_some h
  have fz16 := Fs_48 z16
  try simp only [go_sem, z2] at fz16
  obtain ⟨y_17, z17, h⟩ := bd_some h
  have fz17 := Fs_50 z17
  try simp only [go_sem, z2] at fz17
  obtain ⟨y_18, z18, h⟩ := bd_some h
  have fz18 := Fs_18 z18
  try simp only [go_sem, z2] at fz18
  obtain ⟨y_19, z19, h⟩ := bd_some h
  have fz19 := Fs_53 z19
  try simp only [go_sem, z2] at fz19
  obtain ⟨y_20, z20, h⟩ := bd_some h
  have fz20 := Fs_17 z20
  try simp only [go_sem, z2] at fz20
  obtain ⟨y_21, z21, h⟩ := bd_some h
  have fz21 := Fs_54 z21
  try simp only [go_sem, z2] at fz21
  obtain ⟨z22, h⟩ := ck_some h
  rcases or_split z22 with ⟨gz22, z22⟩ | gz22
  ·try simp only [go_sem, n1, n2, n3, n4, z2] at gz22
   all_goals
   obtain ⟨y_22, hz22⟩ := Option.isSome_iff_exists.1 z22
   have fz22 := Fs_55 hz22
   try simp only [go_sem, n1, n2, n3, n4, z2, gz22] at hz22
   all_goals
   try simp only [go_sem, z2, gz22] at fz22
   obtain ⟨z23, h⟩ := ck_some h
   rcases or_split z23 with ⟨gz23, z23⟩ | gz23
   ·try simp only [go_sem, n1, n2, n3, n4, z2, gz22, hz22] at gz23
    all_goals
    obtain ⟨y_23, hz23⟩ := Option.isSome_iff_exists.1 z23
    have fz23 := Fs_56 hz23
    try simp only [go_sem, n1, n2, n3, n4, z2, gz22, hz22, gz23] at hz23
    all_goals
    try simp only [go_sem, z2, gz22, hz22, gz23] at fz23
    obtain ⟨z24, h⟩ := ck_some h
    rcases or_split z24 with ⟨gz24, z24⟩ | gz24
    ·try simp only [go_sem, n1, n2, n3, n4, z2, gz22, hz22, gz23, hz23] at gz24
     all_goals
     obtain ⟨y_24, hz24⟩ := Option.isSome_iff_exists.1 z24
     have fz24 := Fs_55 hz24
     try simp only [go_sem, n1, n2, n3, n4, z2, gz22, hz22, gz23, hz23, gz24] at hz24
     all_goals
     try simp only [go_sem, z2, gz22, hz22, gz23, hz23, gz24] at fz24
     obtain ⟨z25, h⟩ := ck_some h
     rcases or_split z25 with ⟨gz25, z25⟩ | gz25
     ·try simp only [go_sem, n1, n2, n3, n4, z2, gz22, hz22, gz23, hz23, gz24, hz24] at gz25
      all_goals
      obtain ⟨y_25, hz25⟩ := Option.isSome_iff_exists.1 z25
      have fz25 := Fs_55 hz25
      try simp only [go_sem, n1, n2, n3, n4, z2, gz22, hz22, gz23, hz23, gz24, hz24, gz25] at hz25
      all_goals
      try simp only [go_sem, z2, gz22, hz22, gz23, hz23, gz24, hz24, gz25] at fz25
      rcases it_some h with ⟨z26, h⟩ | ⟨z26, h⟩
      ·try simp only [go_sem, n1, n2, n3, n4, z2, gz22, hz22, gz23, hz23, gz24, hz24, gz25, hz25] at z26
       all_goals
       obtain rfl := so_some h
       refine ⟨0, fun L hL => ?_⟩
       simp only [go_sem, ir3, E_laws_FnTables_l1, R_laws_FnTables_l1, ir3_k0, ir3_o0, ir3_r0, E_laws_FnTables_l2, R_laws_FnTables_l2, ir3_k1, ir3_o1, ir3_r1, E_laws_FnTables_l3, R_laws_FnTables_l3, ir3_k2, ir3_o2, ir3_r2, E_laws_FnTables_l4, R_laws_FnTables_l4, ir3_k2, ir3_o2, ir3_r2, fz1, z2, fz3, fz4, fz5, fz6, fz7, fz8, fz9, fz10, fz11, fz12, fz13, fz14, fz15, fz16, fz17, fz18, fz19, fz20, fz21, gz22, hz22, fz22, gz23, hz23, fz23, gz24, hz24, fz24, gz25, hz25, fz25, z26]
      ·try simp only [go_sem, n1, n2, n3, n4, z2, gz22, hz22, gz23, hz23, gz24, hz24, gz25, hz25] at z26
       all_goals
       obtain ⟨y_31, z31, h⟩ := bd_some h
       obtain ⟨Lz31, ez31⟩ := laws_FnTables_l1_ex z31
       rcases y_31 with y_31a | y_31b
       ·dsimp only at h
        rcases it_some h with ⟨z32, h⟩ | ⟨z32, h⟩
        ·try simp only [go_sem, n1, n2, n3, n4, z2, gz22, hz22, gz23, hz23, gz24, hz24, gz25, hz25, z26] at z32
         all_goals
         obtain ⟨y_38, z38, h⟩ := bd_some h
         obtain ⟨Lz38, ez38⟩ := laws_FnTables_l2_ex z38
         rcases y_38 with y_38a | y_38b
         ·dsimp only at h
          obtain ⟨y_39, z39, h⟩ := bd_some h
          have fz39 := Fs_35 z39
          try simp only [go_sem, z2, gz22, hz22, gz23, hz23, gz24, hz24, gz25, hz25, z26, z32] at fz39
          obtain ⟨y_40, z40, h⟩ := bd_some h
          have fz40 := Fs_35 z40
          try simp only [go_sem, z2, gz22, hz22, gz23, hz23, gz24, hz24, gz25, hz25, z26, z32] at fz40
          obtain ⟨y_41, z41, h⟩ := bd_some h
          have fz41 := Fs_55 z41
          try simp only [go_sem, z2, gz22, hz22, gz23, hz23, gz24, hz24, gz25, hz25, z26, z32] at fz41
          rcases it_some h with ⟨z42, h⟩ | ⟨z42, h⟩
          ·try simp only [go_sem, n1, n2, n3, n4, z2, gz22, hz22, gz23, hz23, gz24, hz24, gz25, hz25, z26, z32] at z42
           all_goals
           obtain rfl := so_some h
           refine ⟨Lz31 + Lz38, fun L hL => ?_⟩
           have ez31 := ez31 L (by omega)
           have ez38 := ez38 L (by omega)
           try simp only [go_sem, E_laws_FnTables_l1, R_laws_FnTables_l1, ir3_k0, ir3_o0, ir3_r0, E_laws_FnTables_l2, R_laws_FnTables_l2, ir3_k1, ir3_o1, ir3_r1, E_laws_FnTables_l3, R_laws_FnTables_l3, ir3_k2, ir3_o2, ir3_r2, E_laws_FnTables_l4, R_laws_FnTables_l4, ir3_k2, ir3_o2, ir3_r2, z2, gz22, hz22, gz23, hz23, gz24, hz24, gz25, hz25, z26, z32, z42] at ez31
           try simp only [go_sem, E_laws_FnTables_l1, R_laws_FnTables_l1, ir3_k0, ir3_o0, ir3_r0, E_laws_FnTables_l2, R_laws_FnTables_l2, ir3_k1, ir3_o1, ir3_r1, E_laws_FnTables_l3, R_laws_FnTables_l3, ir3_k2, ir3_o2, ir3_r2, E_laws_FnTables_l4, R_laws_FnTables_l4, ir3_k2, ir3_o2, ir3_r2, z2, gz22, hz22, gz23, hz23, gz24, hz24, gz25, hz25, z26, z32, z42] at ez38
           simp only [go_sem, ir3, E_laws_FnTables_l1, R_laws_FnTables_l1, ir3_k0, ir3_o0, ir3_r0, E_laws_FnTables_l2, R_laws_FnTables_l2, ir3_k1, ir3_o1, ir3_r1, E_laws_FnTables_l3, R_laws_FnTables_l3, ir3_k2, ir3_o2, ir3_r2, E_laws_FnTables_l4, R_laws_FnTables_l4, ir3_k2, ir3_o2, ir3_r2, fz1, z2, fz3, fz4, fz5, fz6, fz7, fz8, fz9, fz10, fz11, fz12, fz13, fz14, fz15, fz16, fz17, fz18, fz19, fz20, fz21, gz22, hz22, fz22, gz23, hz23, fz23, gz24, hz24, fz24, gz25, hz25, fz25, z26, z32, fz39, fz40, fz41, z42, ez31, ez38]
          ·try simp only [go_sem, n1, n2, n3, n4, z2, gz22, hz22, gz23, hz23, gz24, hz24, gz25, hz25, z26, z32] at z42
           all_goals
           rcases it_some h with ⟨z43, h⟩ | ⟨z43, h⟩
           ·try simp only [go_sem, n1, n2, n3, n4, z2, gz22, hz22, gz23, hz23, gz24, hz24, gz25, hz25, z26, z32, z42] at z43
            all_goals
            obtain ⟨y_47, z47, h⟩ := bd_some h
            obtain ⟨Lz47, ez47⟩ := laws_FnTables_l3_ex z47
            rcases y_47 with y_47a | y_47b
            ·dsimp only at h
             rcases it_some h with ⟨z48, h⟩ | ⟨z48, h⟩
             ·try simp only [go_sem, n1, n2, n3, n4, z2, gz22, hz22, gz23, hz23, gz24, hz24, gz25, hz25, z26, z32, z42, z43] at z48
              all_goals
              obtain rfl := so_some h
              refine ⟨Lz31 + Lz38 + Lz47, fun L hL => ?_⟩
              have ez31 := ez31 L (by omega)
              have ez38 := ez38 L (by omega)
              have ez47 := ez47 L (by omega)
              try simp only [go_sem, E_laws_FnTables_l1, R_laws_FnTables_l1, ir3_k0, ir3_o0, ir3_r0, E_laws_FnTables_l2, R_laws_FnTables_l2, ir3_k1, ir3_o1, ir3_r1, E_laws_FnTables_l3, R_laws_FnTables_l3, ir3_k2, ir3_o2, ir3_r2, E_laws_FnTables_l4, R_laws_FnTables_l4, ir3_k2, ir3_o2, ir3_r2, z2, gz22, hz22, gz23, hz23, gz24, hz24, gz25, hz25, z26, z32, z42, z43, z48] at ez31
              try simp only [go_sem, E_laws_FnTables_l1, R_laws_FnTables_l1, ir3_k0, ir3_o0, ir3_r0, E_laws_FnTables_l2, R_laws_FnTables_l2, ir3_k1, ir3_o1, ir3_r1, E_laws_FnTables_l3, R_laws_FnTables_l3, ir3_k2, ir3_o2, ir3_r2, E_laws_FnTables_l4, R_laws_FnTables_l4, ir3_k2, ir3_o2, ir3_r2, z2, gz22, hz22, gz23, hz23, gz24, hz24, gz25, hz25, z26, z32, z42, z43, z48] at ez38
              try simp only [go_sem, E_laws_FnTables_l1, R_laws_FnTables_l1, ir3_k0, ir3_o0, ir3_r0, E_laws_FnTables_l2, R_laws_FnTables_l2, ir3_k1, ir3_o1, ir3_r1, E_laws_FnTables_l3, R_laws_FnTables_l3, ir3_k2, ir3_o2, ir3_r2, E_laws_FnTables_l4, R_laws_FnTables_l4, ir3_k2, ir3_o2, ir3_r2, z2, gz22, hz22, gz23, hz23, gz24, hz24, gz25, hz25, z26, z32, z42, z43, z48] at ez47
              simp only [go_sem, ir3, E_laws_FnTables_l1, R_laws_FnTables_l1, ir3_k0, ir3_o0, ir3_r0, E_laws_FnTables_l2, R_laws_FnTables_l2, ir3_k1, ir3_o1, ir3_r1, E_laws_FnTables_l3, R_laws_FnTables_l3, ir3_k2, ir3_o2, ir3_r2, E_laws_FnTables_l4, R_laws_FnTables_l4, ir3_k2, ir3_o2, ir3_r2, fz1, z2, fz3, fz4, fz5, fz6, fz7, fz8, fz9, fz10, fz11, fz12, fz13, fz14, fz15, fz16, fz17, fz18, fz19, fz20, fz21, gz22, hz22, fz22, gz23, hz23, fz23, gz24, hz24, fz24, gz25, hz25, fz25, z26, z32, fz39, fz40, fz41, z42, z43, z48, ez31, ez38, ez47]
             ·try simp only [go_sem, n1, n2, n3, n4, z2, gz22, hz22, gz23, hz23, gz24, hz24, gz25, hz25, z26, z32, z42, z43] at z48
              all_goals
              obtain rfl := so_some h
              refine ⟨Lz31 + Lz38 + Lz47, fun L hL => ?_⟩
              have ez31 := ez31 L (by omega)
              have ez38 := ez38 L (by omega)
              have ez47 := ez47 L (by omega)
              try simp only [go_sem, E_laws_FnTables_l1, R_laws_FnTables_l1, ir3_k0, ir3_o0, ir3_r0, E_laws_FnTables_l2, R_laws_FnTables_l2, ir3_k1, ir3_o1, ir3_r1, E_laws_FnTables_l3, R_laws_FnTables_l3, ir3_k2, ir3_o2, ir3_r2, E_laws_FnTables_l4, R_laws_FnTables_l4, ir3_k2, ir3_o2, ir3_r2, z2, gz22, hz22, gz23, hz23, gz24, hz24, gz25, hz25, z26, z32, z42, z43, z48] at ez31
              try simp only [go_sem, E_laws_FnTables_l1, R_laws_FnTables_l1, ir3_k0, ir3_o0, ir3_r0, E_laws_FnTables_l2, R_laws_FnTables_l2, ir3_k1, ir3_o1, ir3_r1, E_laws_FnTables_l3, R_laws_FnTables_l3, ir3_k2, ir3_o2, ir3_r2, E_laws_FnTables_l4, R_laws_FnTables_l4, ir3_k2, ir3_o2, ir3_r2, z2, gz22, hz22, gz23, hz23, gz24, hz24, gz25, hz25, z26, z32, z42, z43, z48] at ez38
              try simp only [go_sem, E_laws_FnTables_l1, R_laws_FnTables_l1, ir3_k0, ir3_o0, ir3_r0, E_laws_FnTables_l2, R_laws_FnTables_l2, ir3_k1, ir3_o1, ir3_r1, E_laws_FnTables_l3, R_laws_FnTables_l3, ir3_k2, ir3_o2, ir3_r2, E_laws_FnTables_l4, R_laws_FnTables_l4, ir3_k2, ir3_o2, ir3_r2, z2, gz22, hz22, gz23, hz23, gz24, hz24, gz25, hz25, z26, z32, z42, z43, z48] at ez47
              simp only [go_sem, ir3, E_laws_FnTables_l1, R_laws_FnTables_l1, ir3_k0, ir3_o0, ir3_r0, E_laws_FnTables_l2, R_laws_FnTables_l2, ir3_k1, ir3_o1, ir3_r1, E_laws_FnTables_l3, R_laws_FnTables_l3, ir3_k2, ir3_o2, ir3_r2, E_laws_FnTables_l4, R_laws_FnTables_l4, ir3_k2, ir3_o2, ir3_r2, fz1, z2, fz3, fz4, fz5, fz6, fz7, fz8, fz9, fz10, fz11, fz12, fz13, fz14, fz15, fz16, fz17, fz18, fz19, fz20, fz21, gz22, hz22, fz22, gz23, hz23, fz23, gz24, hz24, fz24, gz25, hz25, fz25, z26, z32, fz39, fz40, fz41, z42, z43, z48, ez31, ez38, ez47]
            ·dsimp only at h
             obtain rfl := so_some h
             refine ⟨Lz31 + Lz38 + Lz47, fun L hL => ?_⟩
             have ez31 := ez31 L (by omega)
             have ez38 := ez38 L (by omega)
             have ez47 := ez47 L (by omega)
             try simp only [go_sem, E_laws_FnTables_l1, R_laws_FnTables_l1, ir3_k0, ir3_o0, ir3_r0, E_laws_FnTables_l2, R_laws_FnTables_l2, ir3_k1, ir3_o1, ir3_r1, E_laws_FnTables_l3, R_laws_FnTables_l3, ir3_k2, ir3_o2, ir3_r2, E_laws_FnTables_l4, R_laws_FnTables_l4, ir3_k2, ir3_o2, ir3_r2, z2, gz22, hz22, gz23, hz23, gz24, hz24, gz25, hz25, z26, z32, z42, z43] at ez31
             try simp only [go_sem, E_laws_FnTables_l1, R_laws_FnTables_l1, ir3_k0, ir3_o0, ir3_r0, E_laws_FnTables_l2, R_laws_FnTables_l2, ir3_k1, ir3_o1, ir3_r1, E_laws_FnTables_l3, R_laws_FnTables_l3, ir3_k2, ir3_o2, ir3_r2, E_laws_FnTables_l4, R_laws_FnTables_l4, ir3_k2, ir3_o2, ir3_r2, z2, gz22, hz22, gz23, hz23, gz24, hz24, gz25, hz25, z26, z32, z42, z43] at ez38
             try simp only [go_sem, E_laws_FnTables_l1, R_laws_FnTables_l1, ir3_k0, ir3_o0, ir3_r0, E_laws_FnTables_l2, R_laws_FnTables_l2, ir3_k1, ir3_o1, ir3_r1, E_laws_FnTables_l3, R_laws_FnTables_l3, ir3_k2, ir3_o2, ir3_r2, E_laws_FnTables_l4, R_laws_FnTables_l4, ir3_k2, ir3_o2, ir3_r2, z2, gz22, hz22, gz23, hz23, gz24, hz24, gz25, hz25, z26, z32, z42, z43] at ez47
             simp only [go_sem, ir3, E_laws_FnTables_l1, R_laws_FnTables_l1, ir3_k0, ir3_o0, ir3_r0, E_laws_FnTables_l2, R_laws_FnTables_l2, ir3_k1, ir3_o1, ir3_r1, E_laws_FnTables_l3, R_laws_FnTables_l3, ir3_k2, ir3_o2, ir3_r2, E_laws_FnTables_l4, R_laws_FnTables_l4, ir3_k2, ir3_o2, ir3_r2, fz1, z2, fz3, fz4, fz5, fz6, fz7, fz8, fz9, fz10, fz11, fz12, fz13, fz14, fz15, fz16, fz17, fz18, fz19, fz20, fz21, gz22, hz22, fz22, gz23, hz23, fz23, gz24, hz24, fz24, gz25, hz25, fz25, z26, z32, fz39, fz40, fz41, z42, z43, ez31, ez38, ez47]
           ·try simp only [go_sem, n1, n2, n3, n4, z2, gz22, hz22, gz23, hz23, gz24, hz24, gz25, hz25, z26, z32, z42] at z43
            all_goals
            obtain rfl := so_some h
            refine ⟨Lz31 + Lz38, fun L hL => ?_⟩
            have ez31 := ez31 L (by omega)
            have ez38 := ez38 L (by omega)
            try simp only [go_sem, E_laws_FnTables_l1, R_laws_FnTables_l1, ir3_k0, ir3_o0, ir3_r0, E_laws_FnTables_l2, R_laws_FnTables_l2, ir3_k1, ir3_o1, ir3_r1, E_laws_FnTables_l3, R_laws_FnTables_l3, ir3_k2, ir3_o2, ir3_r2, E_laws_FnTables_l4, R_laws_FnTables_l4, ir3_k2, ir3_o2, ir3_r2, z2, gz22, hz22, gz23, hz23, gz24, hz24, gz25, hz25, z26, z32, z42, z43] at ez31
            try simp only [go_sem, E_laws_FnTables_l1, R_laws_FnTables_l1, ir3_k0, ir3_o0, ir3_r0, E_laws_FnTables_l2, R_laws_FnTables_l2, ir3_k1, ir3_o1, ir3_r1, E_laws_FnTables_l3, R_laws_FnTables_l3, ir3_k2, ir3_o2, ir3_r2, E_laws_FnTables_l4, R_laws_FnTables_l4, ir3_k2, ir3_o2, ir3_r2, z2, gz22, hz22, gz23, hz23, gz24, hz24, gz25, hz25, z26, z32, z42, z43] at ez38
            simp only [go_sem, ir3, E_laws_FnTables_l1, R_laws_FnTables_l1, ir3_k0, ir3_o0, ir3_r0, E_laws_FnTables_l2, R_laws_FnTables_l2, ir3_k1, ir3_o1, ir3_r1, E_laws_FnTables_l3, R_laws_FnTables_l3, ir3_k2, ir3_o2, ir3_r2, E_laws_FnTables_l4, R_laws_FnTables_l4, ir3_k2, ir3_o2, ir3_r2, fz1, z2, fz3, fz4, fz5, fz6, fz7, fz8, fz9, fz10, fz11, fz12, fz13, fz14, fz15, fz16, fz17, fz18, fz19, fz20, fz21, gz22, hz22, fz22, gz23, hz23, fz23, gz24, hz24, fz24, gz25, hz25, fz25, z26, z32, fz39, fz40, fz41, z42, z43, ez31, ez38]
         ·dsimp only at h
          obtain rfl := so_some h
          refine ⟨Lz31 + Lz38, fun L hL => ?_⟩
          have ez31 := ez31 L (by omega)
          have ez38 := ez38 L (by omega)
          try simp only [go_sem, E_laws_FnTables_l1, R_laws_FnTables_l1, ir3_k0, ir3_o0, ir3_r0, E_laws_FnTables_l2, R_laws_FnTables_l2, ir3_k1, ir3_o1, ir3_r1, E_laws_FnTables_l3, R_laws_FnTables_l3, ir3_k2, ir3_o2, ir3_r2, E_laws_FnTables_l4, R_laws_FnTables_l4, ir3_k2, ir3_o2, ir3_r2, z2, gz22, hz22, gz23, hz23, gz24, hz24, gz25, hz25, z26, z32] at ez31
          try simp only [go_sem, E_laws_FnTables_l1, R_laws_FnTables_l1, ir3_k0, ir3_o0, ir3_r0, E_laws_FnTables_l2, R_laws_FnTables_l2, ir3_k1, ir3_o1, ir3_r1, E_laws_FnTables_l3, R_laws_FnTables_l3, ir3_k2, ir3_o2, ir3_r2, E_laws_FnTables_l4, R_laws_FnTables_l4, ir3_k2, ir3_o2, ir3_r2, z2, gz22, hz22, gz23, hz23, gz24, hz24, gz25, hz25, z26, z32] at ez38
          simp only [go_sem, ir3, E_laws_FnTables_l1, R_laws_FnTables_l1, ir3_k0, ir3_o0, ir3_r0, E_laws_FnTables_l2, R_laws_FnTables_l2, ir3_k1, ir3_o1, ir3_r1, E_laws_FnTables_l3, R_laws_FnTables_l3, ir3_k2, ir3_o2, ir3_r2, E_laws_FnTables_l4, R_laws_FnTables_l4, ir3_k2, ir3_o2, ir3_r2, fz1, z2, fz3, fz4, fz5, fz6, fz7, fz8, fz9, fz10, fz11, fz12, fz13, fz14, fz15, fz16, fz17, fz18, fz19, fz20, fz21, gz22, hz22, fz22, gz23, hz23, fz23, gz24, hz24, fz24, gz25, hz25, fz25, z26, z32, ez31, ez38]
        ·try simp only [go_sem, n1, n2, n3, n4, z2, gz22, hz22, gz23, hz23, gz24, hz24, gz25, hz25, z26] at z32
         all_goals
         rcases it_some h with ⟨z49, h⟩ | ⟨z49, h⟩
         ·try simp only [go_sem, n1, n2, n3, n4, z2, gz22, hz22, gz23, hz23, gz24, hz24, gz25, hz25, z26, z32] at z49
          all_goals
          obtain ⟨y_53, z53, h⟩ := bd_some h
          obtain ⟨Lz53, ez53⟩ := laws_FnTables_l4_ex z53
          rcases y_53 with y_53a | y_53b
          ·dsimp only at h
           rcases it_some h with ⟨z54, h⟩ | ⟨z54, h⟩
           ·try simp only [go_sem, n1, n2, n3, n4, z2, gz22, hz22, gz23, hz23, gz24, hz24, gz25, hz25, z26, z32, z49] at z54
            all_goals
            obtain rfl := so_some h
            refine ⟨Lz31 + Lz53, fun L hL => ?_⟩
            have ez31 := ez31 L (by omega)
            have ez53 := ez53 L (by omega)
            try simp only [go_sem, E_laws_FnTables_l1, R_laws_FnTables_l1, ir3_k0, ir3_o0, ir3_r0, E_laws_FnTables_l2, R_laws_FnTables_l2, ir3_k1, ir3_o1, ir3_r1, E_laws_FnTables_l3, R_laws_FnTables_l3, ir3_k2, ir3_o2, ir3_r2, E_laws_FnTables_l4, R_laws_FnTables_l4, ir3_k2, ir3_o2, ir3_r2, z2, gz22, hz22, gz23, hz23, gz24, hz24, gz25, hz25, z26, z32, z49, z54] at ez31
            try simp only [go_sem, E_laws_FnTables_l1, R_laws_FnTables_l1, ir3_k0, ir3_o0, ir3_r0, E_laws_FnTables_l2, R_laws_FnTables_l2, ir3_k1, ir3_o1, ir3_r1, E_laws_FnTables_l3, R_laws_FnTables_l3, ir3_k2, ir3_o2, ir3_r2, E_laws_FnTables_l4, R_laws_FnTables_l4, ir3_k2, ir3_o2, ir3_r2, z2, gz22, hz22, gz23, hz23, gz24, hz24, gz25, hz25, z26, z32, z49, z54] at ez53
            simp only [go_sem, ir3, E_laws_FnTables_l1, R_laws_FnTables_l1, ir3_k0, ir3_o0, ir3_r0, E_laws_FnTables_l2, R_laws_FnTables_l2, ir3_k1, ir3_o1, ir3_r1, E_laws_FnTables_l3, R_laws_FnTables_l3, ir3_k2, ir3_o2, ir3_r2, E_laws_FnTables_l4, R_laws_FnTables_l4, ir3_k2, ir3_o2, ir3_r2, fz1, z2, fz3, fz4, fz5, fz6, fz7, fz8, fz9, fz10, fz11, fz12, fz13, fz14, fz15, fz16, fz17, fz18, fz19, fz20, fz21, gz22, hz22, fz22, gz23, hz23, fz23, gz24, hz24, fz24, gz25, hz25, fz25, z26, z32, z49, z54, ez31, ez53]
           ·try simp only [go_sem, n1, n2, n3, n4, z2, gz22, hz22, gz23, hz23, gz24, hz24, gz25, hz25, z26, z32, z49] at z54
            all_goals
            obtain rfl := so_some h
            refine ⟨Lz31 + Lz53, fun L hL => ?_⟩
            have ez31 := ez31 L (by omega)
            have ez53 := ez53 L (by omega)
            try simp only [go_sem, E_laws_FnTables_l1, R_laws_FnTables_l1, ir3_k0, ir3_o0, ir3_r0, E_laws_FnTables_l2, R_laws_FnTables_l2, ir3_k1, ir3_o1, ir3_r1, E_laws_FnTables_l3, R_laws_FnTables_l3, ir3_k2, ir3_o2, ir3_r2, E_laws_FnTables_l4, R_laws_FnTables_l4, ir3_k2, ir3_o2, ir3_r2, z2, gz22, hz22, gz23, hz23, gz24, hz24, gz25, hz25, z26, z32, z49, z54] at ez31
            try simp only [go_sem, E_laws_FnTables_l1, R_laws_FnTables_l1, ir3_k0, ir3_o0, ir3_r0, E_laws_FnTables_l2, R_laws_FnTables_l2, ir3_k1, ir3_o1, ir3_r1, E_laws_FnTables_l3, R_laws_FnTables_l3, ir3_k2, ir3_o2, ir3_r2, E_laws_FnTables_l4, R_laws_FnTables_l4, ir3_k2, ir3_o2, ir3_r2, z2, gz22, hz22, gz23, hz23, gz24, hz24, gz25, hz25, z26, z32, z49, z54] at ez53
            simp only [go_sem, ir3, E_laws_FnTables_l1, R_laws_FnTables_l1, ir3_k0, ir3_o0, ir3_r0, E_laws_FnTables_l2, R_laws_FnTables_l2, ir3_k1, ir3_o1, ir3_r1, E_laws_FnTables_l3, R_laws_FnTables_l3, ir3_k2, ir3_o2, ir3_r2, E_laws_FnTables_l4, R_laws_FnTables_l4, ir3_k2, ir3_o2, ir3_r2, fz1, z2, fz3, fz4, fz5, fz6, fz7, fz8, fz9, fz10, fz11, fz12, fz13, fz14, fz15, fz16, fz17, fz18, fz19, fz20, fz21, gz22, hz22, fz22, gz23, hz23, fz23, gz24, hz24, fz24, gz25, hz25, fz25, z26, z32, z49, z54, ez31, ez53]
          ·dsimp only at h
           obtain rfl := so_some h
           refine ⟨Lz31 + Lz53, fun L hL => ?_⟩
           have ez31 := ez31 L (by omega)
           have ez53 := ez53 L (by omega)
           try simp only [go_sem, E_laws_FnTables_l1, R_laws_FnTables_l1, ir3_k0, ir3_o0, ir3_r0, E_laws_FnTables_l2, R_laws_FnTables_l2, ir3_k1, ir3_o1, ir3_r1, E_laws_FnTables_l3, R_laws_FnTables_l3, ir3_k2, ir3_o2, ir3_r2, E_laws_FnTables_l4, R_laws_FnTables_l4, ir3_k2, ir3_o2, ir3_r2, z2, gz22, hz22, gz23, hz23, gz24, hz24, gz25, hz25, z26, z32, z49] at ez31
           try simp only [go_sem, E_laws_FnTables_l1, R_laws_FnTables_l1, ir3_k0, ir3_o0, ir3_r0, E_laws_FnTables_l2, R_laws_FnTables_l2, ir3_k1, ir3_o1, ir3_r1, E_laws_FnTables_l3, R_laws_FnTables_l3, ir3_k2, ir3_o2, ir3_r2, E_laws_FnTables_l4, R_laws_FnTables_l4, ir3_k2, ir3_o2, ir3_r2, z2, gz22, hz22, gz23, hz23, gz24, hz24, gz25, hz25, z26, z32, z49] at ez53
           simp only [go_sem, ir3, E_laws_FnTables_l1, R_laws_FnTables_l1, ir3_k0, ir3_o0, ir3_r0, E_laws_FnTables_l2, R_laws_FnTables_l2, ir3_k1, ir3_o1, ir3_r1, E_laws_FnTables_l3, R_laws_FnTables_l3, ir3_k2, ir3_o2, ir3_r2, E_laws_FnTables_l4, R_laws_FnTables_l4, ir3_k2, ir3_o2, ir3_r2, fz1, z2, fz3, fz4, fz5, fz6, fz7, fz8, fz9, fz10, fz11, fz12, fz13, fz14, fz15, fz16, fz17, fz18, fz19, fz20, fz21, gz22, hz22, fz22, gz23, hz23, fz23, gz24, hz24, fz24, gz25, hz25, fz25, z26, z32, z49, ez31, ez53]
         ·try simp only [go_sem, n1, n2, n3, n4, z2, gz22, hz22, gz23, hz23, gz24, hz24, gz25, hz25, z26, z32] at z49
          all_goals
          obtain rfl := so_some h
          refine ⟨Lz31, fun L hL => ?_⟩
          have ez31 := ez31 L (by omega)
          try simp only [go_sem, E_laws_FnTables_l1, R_laws_FnTables_l1, ir3_k0, ir3_o0, ir3_r0, E_laws_FnTables_l2, R_laws_FnTables_l2, ir3_k1, ir3_o1, ir3_r1, E_laws_FnTables_l3, R_laws_FnTables_l3, ir3_k2, ir3_o2, ir3_r2, E_laws_FnTables_l4, R_laws_FnTables_l4, ir3_k2, ir3_o2, ir3_r2, z2, gz22, hz22, gz23, hz23, gz24, hz24, gz25, hz25, z26, z32, z49] at ez31
          simp only [go_sem, ir3, E_laws_FnTables_l1, R_laws_FnTables_l1, ir3_k0, ir3_o0, ir3_r0, E_laws_FnTables_l2, R_laws_FnTables_l2, ir3_k1, ir3_o1, ir3_r1, E_laws_FnTables_l3, R_laws_FnTables_l3, ir3_k2, ir3_o2, ir3_r2, E_laws_FnTables_l4, R_laws_FnTables_l4, ir3_k2, ir3_o2, ir3_r2, fz1, z2, fz3, fz4, fz5, fz6, fz7, fz8, fz9, fz10, fz11, fz12, fz13, fz14, fz15, fz16, fz17, fz18, fz19, fz20, fz21, gz22, hz22, fz22, gz23, hz23, fz23, gz24, hz24, fz24, gz25, hz25, fz25, z26, z32, z49, ez31]
       ·dsimp only at h
        obtain rfl := so_some h
        refine ⟨Lz31, fun L hL => ?_⟩
        have ez31 := ez31 L (by omega)
        try simp only [go_sem, E_laws_FnTables_l1, R_laws_FnTables_l1, ir3_k0, ir3_o0, ir3_r0, E_laws_FnTables_l2, R_laws_FnTables_l2, ir3_k1, ir3_o1, ir3_r1, E_laws_FnTables_l3, R_laws_FnTables_l3, ir3_k2, ir3_o2, ir3_r2, E_laws_FnTables_l4, R_laws_FnTables_l4, ir3_k2, ir3_o2, ir3_r2, z2, gz22, hz22, gz23, hz23, gz24, hz24, gz25, hz25, z26] at ez31
        simp only [go_sem, ir3, E_laws_FnTables_l1, R_laws_FnTables_l1, ir3_k0, ir3_o0, ir3_r0, E_laws_FnTables_l2, R_laws_FnTables_l2, ir3_k1, ir3_o1, ir3_r1, E_laws_FnTables_l3, R_laws_FnTables_l3, ir3_k2, ir3_o2, ir3_r2, E_laws_FnTables_l4, R_laws_FnTables_l4, ir3_k2, ir3_o2, ir3_r2, fz1, z2, fz3, fz4, fz5, fz6, fz7, fz8, fz9, fz10, fz11, fz12, fz13, fz14, fz15, fz16, fz17, fz18, fz19, fz20, fz21, gz22, hz22, fz22, gz23, hz23, fz23, gz24, hz24, fz24, gz25, hz25, fz25, z26, ez31]
     ·have gz25n := no_f gz25
      try simp only [go_sem, n1, n2, n3, n4, z2, gz22, hz22, gz23, hz23, gz24, hz24] at gz25n
      all_goals
      rcases it_some h with ⟨z26, h⟩ | ⟨z26, h⟩
      ·try simp only [go_sem, n1, n2, n3, n4, z2, gz22, hz22, gz23, hz23, gz24, hz24, gz25n] at z26
       all_goals
       obtain rfl := so_some h
       refine ⟨0, fun L hL => ?_⟩
       simp only [go_sem, ir3, E_laws_FnTables_l1, R_laws_FnTables_l1, ir3_k0, ir3_o0, ir3_r0, E_laws_FnTables_l2, R_laws_FnTables_l2, ir3_k1, ir3_o1, ir3_r1, E_laws_FnTables_l3, R_laws_FnTables_l3, ir3_k2, ir3_o2, ir3_r2, E_laws_FnTables_l4, R_laws_FnTables_l4, ir3_k2, ir3_o2, ir3_r2, fz1, z2, fz3, fz4, fz5, fz6, fz7, fz8, fz9, fz10, fz11, fz12, fz13, fz14, fz15, fz16, fz17, fz18, fz19, fz20, fz21, gz22, hz22, fz22, gz23, hz23, fz23, gz24, hz24, fz24, gz25n, z26]
      ·try simp only [go_sem, n1, n2, n3, n4, z2, gz22, hz22, gz23, hz23, gz24, hz24, gz25n] at z26
       all_goals
       (simp_all)
    ·have gz24n := no_f gz24
     try simp only [go_sem, n1, n2, n3, n4, z2, gz22, hz22, gz23, hz23] at gz24n
     all_goals
     obtain ⟨z25, h⟩ := ck_some h
     rcases it_some h with ⟨z26, h⟩ | ⟨z26, h⟩
     ·try simp only [go_sem, n1, n2, n3, n4, z2, gz22, hz22, gz23, hz23, gz24n] at z26
      all_goals
      obtain rfl := so_some h
      refine ⟨0, fun L hL => ?_⟩
      simp only [go_sem, ir3, E_laws_FnTables_l1, R_laws_FnTables_l1, ir3_k0, ir3_o0, ir3_r0, E_laws_FnTables_l2, R_laws_FnTables_l2, ir3_k1, ir3_o1, ir3_r1, E_laws_FnTables_l3, R_laws_FnTables_l3, ir3_k2, ir3_o2, ir3_r2, E_laws_FnTables_l4, R_laws_FnTables_l4, ir3_k2, ir3_o2, ir3_r2, fz1, z2, fz3, fz4, fz5, fz6, fz7, fz8, fz9, fz10, fz11, fz12, fz13, fz14, fz15, fz16, fz17, fz18, fz19, fz20, fz21, gz22, hz22, fz22, gz23, hz23, fz23, gz24n, z26]
     ·try simp only [go_sem, n1, n2, n3, n4, z2, gz22, hz22, gz23, hz23, gz24n] at z26
      all_goals
      (simp_all)
   ·have gz23n := no_f gz23
    rcases or_t gz23n with gz23na | ⟨gz23na, gz23nb⟩
    ·rcases or_t gz23na with gz23naa | ⟨gz23naa, gz23nab⟩
     ·try simp only [go_sem, n1, n2, n3, n4, z2, gz22, hz22] at gz23naa
      all_goals
      (simp_all)
     ·have gz23naan := no_f gz23naa
      have gz23nabn := no_t gz23nab
      try simp only [go_sem, n1, n2, n3, n4, z2, gz22, hz22] at gz23naan
      all_goals
      try simp only [go_sem, n1, n2, n3, n4, z2, gz22, hz22, gz23naan] at gz23nabn
      all_goals
      obtain ⟨z24, h⟩ := ck_some h
      obtain ⟨z25, h⟩ := ck_some h
      rcases it_some h with ⟨z26, h⟩ | ⟨z26, h⟩
      ·try simp only [go_sem, n1, n2, n3, n4, z2, gz22, hz22, gz23naan, gz23nabn] at z26
       all_goals
       obtain rfl := so_some h
       refine ⟨0, fun L hL => ?_⟩
       simp only [go_sem, ir3, E_laws_FnTables_l1, R_laws_FnTables_l1, ir3_k0, ir3_o0, ir3_r0, E_laws_FnTables_l2, R_laws_FnTables_l2, ir3_k1, ir3_o1, ir3_r1, E_laws_FnTables_l3, R_laws_FnTables_l3, ir3_k2, ir3_o2, ir3_r2, E_laws_FnTables_l4, R_laws_FnTables_l4, ir3_k2, ir3_o2, ir3_r2, fz1, z2, fz3, fz4, fz5, fz6, fz7, fz8, fz9, fz10, fz11, fz12, fz13, fz14, fz15, fz16, fz17, fz18, fz19, fz20, fz21, gz22, hz22, fz22, gz23naan, gz23nabn, z26]
      ·try simp only [go_sem, n1, n2, n3, n4, z2, gz22, hz22, gz23naan, gz23nabn] at z26
       all_goals
       (simp_all)
    ·obtain ⟨gz23naa, gz23nab⟩ := or_f gz23na
     have gz23naan := no_f gz23naa
     have gz23nabn := no_f gz23nab
     have gz23nbn := no_t gz23nb
     try simp only [go_sem, n1, n2, n3, n4, z2, gz22, hz22] at gz23naan
     all_goals
     try simp only [go_sem, n1, n2, n3, n4, z2, gz22, hz22, gz23naan] at gz23nabn
     all_goals
     try simp only [go_sem, n1, n2, n3, n4, z2, gz22, hz22, gz23naan, gz23nabn] at gz23nbn
     all_goals
     obtain ⟨z24, h⟩ := ck_some h
     obtain ⟨z25, h⟩ := ck_some h
     rcases it_some h with ⟨z26, h⟩ | ⟨z26, h⟩
     ·try simp only [go_sem, n1, n2, n3, n4, z2, gz22, hz22, gz23naan, gz23nabn, gz23nbn] at z26
      all_goals
      obtain rfl := so_some h
      refine ⟨0, fun L hL => ?_⟩
      simp only [go_sem, ir3, E_laws_FnTables_l1, R_laws_FnTables_l1, ir3_k0, ir3_o0, ir3_r0, E_laws_FnTables_l2, R_laws_FnTables_l2, ir3_k1, ir3_o1, ir3_r1, E_laws_FnTables_l3, R_laws_FnTables_l3, ir3_k2, ir3_o2, ir3_r2, E_laws_FnTables_l4, R_laws_FnTables_l4, ir3_k2, ir3_o2, ir3_r2, fz1, z2, fz3, fz4, fz5, fz6, fz7, fz8, fz9, fz10, fz11, fz12, fz13, fz14, fz15, fz16, fz17, fz18, fz19, fz20, fz21, gz22, hz22, fz22, gz23naan, gz23nabn, gz23nbn, z26]
     ·try simp only [go_sem, n1, n2, n3, n4, z2, gz22, hz22, gz23naan, gz23nabn, gz23nbn] at z26
      all_goals
      (simp_all)
  ·have gz22n := no_f gz22
   have gz22nn := no_t gz22n
   try simp only [go_sem, n1, n2, n3, n4, z2] at gz22nn
   all_goals
   obtain ⟨z23, h⟩ := ck_some h
   obtain ⟨z24, h⟩ := ck_some h
   obtain ⟨z25, h⟩ := ck_some h
   rcases it_some h with ⟨z26, h⟩ | ⟨z26, h⟩
   ·try simp only [go_sem, n1, n2, n3, n4, z2, gz22nn] at z26
    all_goals
    obtain rfl := so_some h
    refine ⟨0, fun L hL => ?_⟩
    simp only [go_sem, ir3, E_laws_FnTables_l1, R_laws_FnTables_l1, ir3_k0, ir3_o0, ir3_r0, E_laws_FnTables_l2, R_laws_FnTables_l2, ir3_k1, ir3_o1, ir3_r1, E_laws_FnTables_l3, R_laws_FnTables_l3, ir3_k2, ir3_o2, ir3_r2, E_laws_FnTables_l4, R_laws_FnTables_l4, ir3_k2, ir3_o2, ir3_r2, fz1, z2, fz3, fz4, fz5, fz6, fz7, fz8, fz9, fz10, fz11, fz12, fz13, fz14, fz15, fz16, fz17, fz18, fz19, fz20, fz21, gz22nn, z26]
   ·try simp only [go_sem, n1, n2, n3, n4, z2, gz22nn] at z26
    all_goals
    (simp_all)


end Go.Proofs.YtambhaccpbhnhaaGreatDoor
