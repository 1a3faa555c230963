/- Codes and contracts of the functions that SV reaches, and that their typed forms say what they do. No condition. -/
import Derived.Test.YtibabbjpkjmdeaaSVKa
import Derived.Test.YtibabbjpkjmdeaaRows
import Derived.WalkKit
namespace Go.Proofs.Ytibabbjpkjmdeaa
open Go Go.RowKit
set_option linter.unusedVariables false
set_option linter.unusedSimpArgs false
set_option maxRecDepth 10000

def ir3_b0 : IR := .seq (.test false [ PM 197 33, PM 198 2, PO 199 (.len false (.s 0)), PO 200 (.bin false .lss (.s 2) (.s 0))] (.s 0) (.skip) (.exit 0)) (.seq (.block 1 (.anyo 13 [ SO 0 203 (.mov (.v 32)), SO 1 204 (.mov (.v 7)), SO 2 205 (.mov (.v 33)), SO 3 206 (.ixAddr 6 (.s 1) (.s 2)), SO 4 207 (.fldAddr 4 (.s 3)), SO 5 208 (.load false 1 (.s 4)), SO 6 209 (.bin false .add (.s 0) (.s 5)), SO 7 210 (.mov (.v 2)), SO 8 211 (.mov (.v 33)), SO 9 212 (.ixAddr 6 (.s 7) (.s 8)), SO 10 213 (.fldAddr 4 (.s 9)), SO 11 214 (.load false 1 (.s 10)), SO 12 215 (.bin false .sub (.s 6) (.s 11)), VS 32 33
 12] [] .skip)) (.region false [ PM 201 33, PO 202 (.bin false .add (.s 0) (I6 1)), VS 33 34 0]))
def ir3_k0 : List Bool := [false, false, true, true, false, false, false, true, false, false, false, false, false, false, false, false, false, false, false, false, false, false, false, false, false, false, false, false, false, false, true, false, true, true, false, false]
def ir3_o0 : List Bool := [false, false, true, true, false, false, false, true, false, false, false, false, false, false, false, false, false, false, false, false, false, false, false, false, false, false, false, false, false, false, true, false, true, false, false, false]
def ir3_r0 : List Bool := [false, true, false, false, false, false, false, false, false, false, false, false, false, false, false, false, false, false, false, false, false, false, false, false, false, false, false, false, false, false, false, false, false, false, false, false]
def ir3_b1 : IR := .seq (.test false [ PM 216 35, PM 217 30, PO 218 (.len false (.s 0)), PO 219 (.bin false .lss (.s 2) (.s 0))] (.s 0) (.skip) (.exit 2)) (.seq (.block 3 (.seq (.test false [ PM 222 30, PM 223 35, PO 224 (.ixAddr 1 (.s 1) (.s 0)), PO 225 (.load false 1 (.s 0)), PO 226 (.bin false .lss (.s 0) (I6 0)), PO 227 (.mov (.s 0)), ⟨.push, 228, (some ((.s 0), false)), .mov (.v 30)⟩, ⟨.push, 229, (some ((.s 1), false)), .mov (.v 35)⟩, ⟨.push, 230, (some ((.s 2), false)), .ixAddr 1 (.s 1) (.s 0)⟩, ⟨.push, 231, (some ((.s 3), false)), .load false 1 (.s 0)⟩, ⟨.push, 232, (some ((.s 4),
 false)), .mov (.v 2)⟩, ⟨.push, 233, (some ((.s 5), false)), .len false (.s 0)⟩, ⟨.push, 234, (some ((.s 6), false)), .bin false .geq (.s 2) (.s 0)⟩, PO 235 (.pick (.s 7) (.c (.bool true)) (.s 0))] (.s 0) (.seq (.region false [ VO 1 2 (.mov (.c (.bool false)))]) (.ret)) (.skip)) (.test false [ PM 236 2, PM 237 30, PM 238 35, PO 239 (.ixAddr 1 (.s 1) (.s 0)), PO 240 (.load false 1 (.s 0)), PO 241 (.ixAddr 6 (.s 4) (.s 0)), PO 242 (.fldAddr 0 (.s 0)), PO 243 (.load false 1 (.s 0)), PM 244 3, PO 245 (.bin false .eql (.s 1) (.s 0))] (.s 0) (.region false [ PM 246 34, PO 247 (.bin false .add (.s 0)
 (I6 1)), VS 34 35 0]) (.skip)))) (.region false [ PM 220 35, PO 221 (.bin false .add (.s 0) (I6 1)), VS 35 36 0]))
def ir3_k1 : List Bool := [false, false, true, true, false, false, false, true, false, false, false, false, false, false, false, false, false, false, false, false, false, false, false, false, false, false, false, false, false, false, true, false, true, false, true, true]
def ir3_o1 : List Bool := [false, false, false, false, false, false, false, true, false, false, false, false, false, false, false, false, false, false, false, false, false, false, false, false, false, false, false, false, false, false, false, false, true, false, true, false]
def ir3_r1 : List Bool := [false, true, false, false, false, false, false, false, false, false, false, false, false, false, false, false, false, false, false, false, false, false, false, false, false, false, false, false, false, false, false, false, false, false, false, false]
def ir3_v : List Nat := [0, 2, 3, 4, 5, 6, 7, 8, 9, 10, 11, 12, 13, 14, 15, 16, 17, 18, 19, 20, 21, 22, 23, 24, 25, 26, 27, 28, 29, 30, 31, 32, 33, 34, 35, 36]
def ir3 : AFn := ⟨1, 36, .seq (.region false [ VO 1 2 (.mov (.c (.bool false)))]) (.seq (.test false [ PM 37 0, PO 38 (.call 5 [(.s 0)])] (.s 0) (.seq (.region false [ VO 1 2 (.mov (.c (.bool true)))]) (.ret)) (.skip)) (.seq (.region false [ PM 40 0, PO 41 (.call 6 [(.s 0)]), PO 39 (.mov (.s 0)), PO 42 (.ext (.s 0) 0), PO 43 (.ext (.s 1) 1), PO 44 (.ext (.s 2) 2), VS 2 3 2, VS 3 4 1, VS 4 5 0]) (.seq (.region false [ PM 46 2, PM 47 3, PM 48 4, PO 49 (.call 7 [(.s 2), (.s 1), (.s 0)]), PO 45 (.mov (.s 0)), PO 50 (.ext (.s 0) 0), PO 51 (.ext (.s 1) 1), VS 5 6 1, VS 6 7 0]) (.seq (.region false [
 PM 53 2, PM 54 3, PM 55 4, PO 56 (.call 8 [(.s 2), (.s 1), (.s 0)]), PO 52 (.mov (.s 0)), PO 57 (.ext (.s 0) 0), PO 58 (.ext (.s 1) 1), VS 7 8 1, VS 8 9 0]) (.seq (.region false [ PM 60 0, PO 61 (.call 9 [(.s 0)]), PO 59 (.mov (.s 0)), PO 62 (.ext (.s 0) 0), PO 63 (.ext (.s 1) 1), VS 9 10 1, VS 10 11 0]) (.seq (.region false [ PM 65 9, PM 66 10, PO 67 (.call 10 [(.s 1), (.s 0)]), PO 64 (.mov (.s 0)), PO 68 (.ext (.s 0) 0), PO 69 (.ext (.s 1) 1), VS 11 12 1, VS 12 13 0]) (.seq (.region false [ PM 71 9, PM 72 10, PO 73 (.call 11 [(.s 1), (.s 0)]), PO 70 (.mov (.s 0)), PO 74 (.ext (.s 0) 0), PO
 75 (.ext (.s 1) 1), VS 13 14 1, VS 14 15 0]) (.seq (.region false [ PM 77 0, PO 78 (.call 12 [(.s 0)]), PO 76 (.mov (.s 0)), PO 79 (.ext (.s 0) 0), PO 80 (.ext (.s 1) 1), VS 15 16 1, VS 16 17 0]) (.seq (.region false [ PM 82 15, PM 83 16, PO 84 (.call 13 [(.s 1), (.s 0)]), PO 81 (.mov (.s 0)), PO 85 (.ext (.s 0) 0), PO 86 (.ext (.s 1) 1), VS 17 18 1, VS 18 19 0]) (.seq (.region false [ PM 88 15, PM 89 16, PO 90 (.call 14 [(.s 1), (.s 0)]), PO 87 (.mov (.s 0)), PO 91 (.ext (.s 0) 0), PO 92 (.ext (.s 1) 1), VS 19 20 1, VS 20 21 0]) (.seq (.region false [ PM 93 0, PO 94 (.call 15 [(.s 0)]), VS 21
 22 0]) (.seq (.region false [ PM 96 21, PO 97 (.call 16 [(.s 0)]), PO 95 (.mov (.s 0)), PO 98 (.ext (.s 0) 0), PO 99 (.ext (.s 1) 1), VO 22 23 (.alloc (.agg [.int .i64 (0), .int .i64 (0)])), ⟨.no, 0, none, .store 2 (.v 22) (.s 1)⟩, VS 23 24 0]) (.seq (.region false [ PM 101 21, PO 102 (.call 17 [(.s 0)]), PO 100 (.mov (.s 0)), PO 103 (.ext (.s 0) 0), PO 104 (.ext (.s 1) 1), VO 24 25 (.alloc (.agg [.int .i64 (0), .int .i64 (0)])), ⟨.no, 0, none, .store 2 (.v 24) (.s 1)⟩, VS 25 26 0]) (.seq (.test false [ PM 105 6, PM 106 8, PO 107 (.bin false .neq (.s 1) (.s 0)), PO 108 (.mov (.s 0)), ⟨.push,
 109, (some ((.s 0), false)), .mov (.v 5)⟩, ⟨.push, 110, (some ((.s 1), false)), .mov (.v 7)⟩, ⟨.push, 111, (some ((.s 2), false)), .call 18 [(.s 1), (.s 0)]⟩, ⟨.push, 112, (some ((.s 3), false)), .un .not (.s 0)⟩, PO 113 (.pick (.s 4) (.c (.bool true)) (.s 0)), PO 114 (.mov (.s 0)), ⟨.push, 115, (some ((.s 0), false)), .mov (.v 12)⟩, ⟨.push, 116, (some ((.s 1), false)), .mov (.v 14)⟩, ⟨.push, 117, (some ((.s 2), false)), .bin false .neq (.s 1) (.s 0)⟩, PO 118 (.pick (.s 3) (.c (.bool true)) (.s 0)), PO 119 (.mov (.s 0)), ⟨.push, 120, (some ((.s 0), false)), .mov (.v 11)⟩, ⟨.push, 121, (some
 ((.s 1), false)), .mov (.v 13)⟩, ⟨.push, 122, (some ((.s 2), false)), .call 18 [(.s 1), (.s 0)]⟩, ⟨.push, 123, (some ((.s 3), false)), .un .not (.s 0)⟩, PO 124 (.pick (.s 4) (.c (.bool true)) (.s 0)), PO 125 (.mov (.s 0)), ⟨.push, 126, (some ((.s 0), false)), .mov (.v 18)⟩, ⟨.push, 127, (some ((.s 1), false)), .mov (.v 20)⟩, ⟨.push, 128, (some ((.s 2), false)), .bin false .neq (.s 1) (.s 0)⟩, PO 129 (.pick (.s 3) (.c (.bool true)) (.s 0)), PO 130 (.mov (.s 0)), ⟨.push, 131, (some ((.s 0), false)), .mov (.v 17)⟩, ⟨.push, 132, (some ((.s 1), false)), .mov (.v 19)⟩, ⟨.push, 133, (some ((.s 2),
 false)), .call 18 [(.s 1), (.s 0)]⟩, ⟨.push, 134, (some ((.s 3), false)), .un .not (.s 0)⟩, PO 135 (.pick (.s 4) (.c (.bool true)) (.s 0)), PO 136 (.mov (.s 0)), ⟨.push, 137, (some ((.s 0), false)), .mov (.v 23)⟩, ⟨.push, 138, (some ((.s 1), false)), .mov (.v 25)⟩, ⟨.push, 139, (some ((.s 2), false)), .bin false .neq (.s 1) (.s 0)⟩, PO 140 (.pick (.s 3) (.c (.bool true)) (.s 0)), PO 141 (.mov (.s 0)), ⟨.push, 142, (some ((.s 0), false)), .load true 2 (.v 22)⟩, ⟨.push, 143, (some ((.s 1), false)), .load true 2 (.v 24)⟩, ⟨.push, 144, (some ((.s 2), false)), .eqA true [1, 1] (.s 1) (.s 0)⟩, PO
 145 (.pick (.s 3) (.c (.bool true)) (.s 0))] (.s 0) (.seq (.region false [ VO 1 2 (.mov (.c (.bool false)))]) (.ret)) (.skip)) (.seq (.test false [ PM 146 23, PO 147 (.bin false .eql (.s 0) (I6 0)), PO 148 (.mov (.s 0)), ⟨.push, 149, (some ((.s 0), true)), .fldAddr 0 (.v 22)⟩, ⟨.push, 150, (some ((.s 1), true)), .load false 1 (.s 0)⟩, ⟨.push, 151, (some ((.s 2), true)), .bin false .lss (.s 0) (I6 0)⟩, ⟨.push, 152, (some ((.s 3), true)), .mov (.s 0)⟩, ⟨.push, 153, (some ((.s 0), false)), .fldAddr 0 (.v 22)⟩, ⟨.push, 154, (some ((.s 1), false)), .load false 1 (.s 0)⟩, ⟨.push, 155, (some ((.s 2),
 false)), .fldAddr 1 (.v 22)⟩, ⟨.push, 156, (some ((.s 3), false)), .load false 1 (.s 0)⟩, ⟨.push, 157, (some ((.s 4), false)), .bin false .gtr (.s 2) (.s 0)⟩, ⟨.push, 158, (some ((.s 9), true)), .pick (.s 5) (.c (.bool true)) (.s 0)⟩, PO 159 (.pick (.s 10) (.s 0) (.c (.bool false)))] (.s 0) (.seq (.region false [ VO 1 2 (.mov (.c (.bool false)))]) (.ret)) (.skip)) (.seq (.test false [ PM 160 18, PO 161 (.bin false .eql (.s 0) (I6 0))] (.s 0) (.seq (.region false [ PM 163 15, PM 164 16, PO 165 (.call 19 [(.s 1), (.s 0)]), PO 162 (.mov (.s 0)), PO 166 (.ext (.s 0) 0), PO 167 (.ext (.s 1) 1), VS
 26 27 1, VS 27 28 0]) (.seq (.region false [ PM 169 19, PM 170 16, PO 171 (.call 19 [(.s 1), (.s 0)]), PO 168 (.mov (.s 0)), PO 172 (.ext (.s 0) 0), PO 173 (.ext (.s 1) 1), VS 28 29 1, VS 29 30 0]) (.test false [ PM 174 27, PO 175 (.bin false .neq (.s 0) (I6 0)), PO 176 (.mov (.s 0)), ⟨.push, 177, (some ((.s 0), false)), .mov (.v 29)⟩, ⟨.push, 178, (some ((.s 1), false)), .bin false .neq (.s 0) (I6 0)⟩, PO 179 (.pick (.s 2) (.c (.bool true)) (.s 0)), PO 180 (.mov (.s 0)), ⟨.push, 181, (some ((.s 0), false)), .mov (.v 26)⟩, ⟨.push, 182, (some ((.s 1), false)), .len false (.s 0)⟩, ⟨.push, 183,
 (some ((.s 2), false)), .mov (.v 28)⟩, ⟨.push, 184, (some ((.s 3), false)), .len false (.s 0)⟩, ⟨.push, 185, (some ((.s 4), false)), .bin false .neq (.s 2) (.s 0)⟩, PO 186 (.pick (.s 5) (.c (.bool true)) (.s 0))] (.s 0) (.seq (.region false [ VO 1 2 (.mov (.c (.bool false)))]) (.ret)) (.skip)))) (.skip)) (.seq (.test false [ PM 187 6, PO 188 (.bin false .neq (.s 0) (I6 0))] (.s 0) (.seq (.region false [ VO 1 2 (.mov (.c (.bool true)))]) (.ret)) (.skip)) (.seq (.region false [ PM 190 2, PM 191 4, PO 192 (.call 19 [(.s 1), (.s 0)]), PO 189 (.mov (.s 0)), PO 193 (.ext (.s 0) 0), PO 194 (.ext (.s
 1) 1), VS 30 31 1, VS 31 32 0]) (.seq (.test false [ PM 195 31, PO 196 (.bin false .neq (.s 0) (I6 0))] (.s 0) (.seq (.region false [ VO 1 2 (.mov (.c (.bool false)))]) (.ret)) (.skip)) (.seq (.region false [ VO 32 33 (.mov (I6 0))]) (.seq (.seq (.region false [ VO 33 34 (.mov (I6 0))]) (.block 0 (.loop ir3_k0 ir3_o0 ir3_r0 ir3_b0))) (.seq (.region false [ VO 34 35 (.mov (I6 0))]) (.seq (.seq (.region false [ VO 35 36 (.mov (I6 0))]) (.block 2 (.loop ir3_k1 ir3_o1 ir3_r1 ir3_b1))) (.seq (.region false [ PM 248 32, PM 249 34, PO 250 (.bin false .eql (.s 1) (.s 0)), PO 251 (.mov (.s 0)), ⟨.push,
 252, (some ((.s 0), true)), .mov (.v 7)⟩, ⟨.push, 253, (some ((.s 1), true)), .call 20 [(.s 0)]⟩, PO 254 (.pick (.s 2) (.s 0) (.c (.bool false))), VS 1 2 0]) (.ret))))))))))))))))))))))))), [.t 1]⟩
noncomputable def t_laws_FnServed : List (Nat × Ctr) := [(5, c_0), (6, c_12), (7, c_24), (8, c_35), (9, c_45), (10, c_56), (11, c_61), (12, c_63), (13, c_67), (14, c_68), (15, c_69), (16, c_73), (17, c_77), (18, c_78), (19, c_81), (20, c_20)]
theorem lk_laws_FnServed_5 : look t_laws_FnServed 5 = some c_0 := rfl
theorem lk_laws_FnServed_6 : look t_laws_FnServed 6 = some c_12 := rfl
theorem lk_laws_FnServed_7 : look t_laws_FnServed 7 = some c_24 := rfl
theorem lk_laws_FnServed_8 : look t_laws_FnServed 8 = some c_35 := rfl
theorem lk_laws_FnServed_9 : look t_laws_FnServed 9 = some c_45 := rfl
theorem lk_laws_FnServed_10 : look t_laws_FnServed 10 = some c_56 := rfl
theorem lk_laws_FnServed_11 : look t_laws_FnServed 11 = some c_61 := rfl
theorem lk_laws_FnServed_12 : look t_laws_FnServed 12 = some c_63 := rfl
theorem lk_laws_FnServed_13 : look t_laws_FnServed 13 = some c_67 := rfl
theorem lk_laws_FnServed_14 : look t_laws_FnServed 14 = some c_68 := rfl
theorem lk_laws_FnServed_15 : look t_laws_FnServed 15 = some c_69 := rfl
theorem lk_laws_FnServed_16 : look t_laws_FnServed 16 = some c_73 := rfl
theorem lk_laws_FnServed_17 : look t_laws_FnServed 17 = some c_77 := rfl
theorem lk_laws_FnServed_18 : look t_laws_FnServed 18 = some c_78 := rfl
theorem lk_laws_FnServed_19 : look t_laws_FnServed 19 = some c_81 := rfl
theorem lk_laws_FnServed_20 : look t_laws_FnServed 20 = some c_20 := rfl
noncomputable def c_laws_FnServed : Ctr := mkF t_laws_FnServed ir3 [.bor]
theorem s_laws_FnServed : Sound Try.prog 3 c_laws_FnServed := mkF_sound _ rfl (snd_cons s_0 (snd_cons s_12 (snd_cons s_24 (snd_cons s_35 (snd_cons s_45 (snd_cons s_56 (snd_cons s_61 (snd_cons s_63 (snd_cons s_67 (snd_cons s_68 (snd_cons s_69 (snd_cons s_73 (snd_cons s_77 (snd_cons s_78 (snd_cons s_81 (snd_cons s_20 snd_nil)))))))))))))))) (by kernel_rfl : chkFn Try.prog 3 ir3 ir3_v = true)
theorem M_laws_FnServed : c_laws_FnServed.modes = [.bor] := rfl
theorem Fl_laws_FnServed : c_laws_FnServed.flat = true := rfl
attribute [go_sem] M_laws_FnServed Fl_laws_FnServed
attribute [go_sem] lk_laws_FnServed_5 lk_laws_FnServed_6 lk_laws_FnServed_7 lk_laws_FnServed_8 lk_laws_FnServed_9 lk_laws_FnServed_10 lk_laws_FnServed_11 lk_laws_FnServed_12 lk_laws_FnServed_13 lk_laws_FnServed_14 lk_laws_FnServed_15 lk_laws_FnServed_16 lk_laws_FnServed_17 lk_laws_FnServed_18 lk_laws_FnServed_19 lk_laws_FnServed_20
def E_laws_FnServed_l1 (list : List Request) (star : List UInt8) (model : List Request) (open_ : List Int) : (Int × Int) → St
 | (more, i) => ⟨[.any, .any, .own 3200000, .str star, .any, .any, .any, .own 3200032, .any, .any, .any, .any, .any, .any, .any, .any, .any, .any, .any, .any, .any, .any, .any, .any, .any, .any, .any, .any, .any, .any, .own 3200064, .any, .int .i64 more, .int .i64 i, .any, .any], [], [(3200000, ⟨6, List.map Request_av list⟩), (3200032, ⟨6, List.map Request_av model⟩), (3200064, ⟨1, List.map (AV.int .i64) open_⟩)], true⟩
def R_laws_FnServed_l1 (list : List Request) (star : List UInt8) (model : List Request) (open_ : List Int) (y : Int) : Res := (.exit 0, ⟨[.any, .any, .own 3200000, .str star, .any, .any, .any, .own 3200032, .any, .any, .any, .any, .any, .any, .any, .any, .any, .any, .any, .any, .any, .any, .any, .any, .any, .any, .any, .any, .any, .any, .own 3200064, .any, .int .i64 y, .any, .any, .any], [], [(3200000, ⟨6, List.map Request_av list⟩), (3200032, ⟨6, List.map Request_av model⟩), (3200064, ⟨1, List.map (AV.int .i64) open_⟩)], true⟩)
theorem laws_FnServed_l1_ex {list : List Request} {star : List UInt8} {model : List Request} {open_ : List Int} {sgm_ : Int × Int} {rho_ : Int} (h : whileE (laws_FnServed_l1 list star model open_) sgm_ = some rho_) : ∃ L0, ∀ L, L0 ≤ L → iter (exec (look t_laws_FnServed) L ir3_b0) ir3_k0 ir3_o0 ir3_r0 L (E_laws_FnServed_l1 list star model open_ sgm_) = R_laws_FnServed_l1 list star model open_ rho_ := by
 refine loop_ex (E := E_laws_FnServed_l1 list star model open_) (R := R_laws_FnServed_l1 list star model open_) (fun y => by first | (intro c; cases c) | (rcases y with y | y <;> (intro c; cases c)) | (rcases y with y | y | y <;> (intro c; cases c))) ?_ h
 clear h
 rintro ⟨more, i⟩ o_ h
 dsimp only [laws_FnServed_l1] at h
 rcases it_some h with ⟨z27, h⟩ | ⟨z27, h⟩
 ·try simp only [go_sem, n1, n2, n3, n4] at z27
  all_goals
  obtain ⟨z28, h⟩ := ck_some h
  have lz28 := ix_lt z28
  have xz28 := getD_mapD Request_av model lz28
  try simp only [go_sem] at lz28
  try simp only [go_sem] at xz28
  try simp only [go_sem, n1, n2, n3, n4, z27] at z28
  all_goals
  obtain ⟨z29, h⟩ := ck_some h
  have lz29 := ix_lt z29
  have xz29 := getD_mapD Request_av list lz29
  try simp only [go_sem] at lz29
  try simp only [go_sem] at xz29
  try simp only [go_sem, n1, n2, n3, n4, z27, z28] at z29
  all_goals
  obtain rfl := so_some h
  refine ⟨0, fun L hL => ?_⟩
  simp only [go_sem, ir3, E_laws_FnServed_l1, R_laws_FnServed_l1, ir3_b0, ir3_k0, ir3_o0, ir3_r0, z27, z28, lz28, xz28, z29, lz29, xz29]
 ·try simp only [go_sem, n1, n2, n3, n4] at z27
  all_goals
  obtain rfl := so_some h
  refine ⟨0, fun L hL => ?_⟩
  simp only [go_sem, ir3, E_laws_FnServed_l1, R_laws_FnServed_l1, ir3_b0, ir3_k0, ir3_o0, ir3_r0, z27]

def E_laws_FnServed_l2 (list : List Request) (star : List UInt8) (model : List Request) (open_ : List Int) (more : Int) : (Int × Int) → St
 | (mine, i) => ⟨[.any, .any, .own 3200000, .str star, .any, .any, .any, .own 3200032, .any, .any, .any, .any, .any, .any, .any, .any, .any, .any, .any, .any, .any, .any, .any, .any, .any, .any, .any, .any, .any, .any, .own 3200064, .any, .int .i64 more, .any, .int .i64 mine, .int .i64 i], [], [(3200000, ⟨6, List.map Request_av list⟩), (3200032, ⟨6, List.map Request_av model⟩), (3200064, ⟨1, List.map (AV.int .i64) open_⟩)], true⟩
def R_laws_FnServed_l2 (list : List Request) (star : List UInt8) (model : List Request) (open_ : List Int) (more : Int) : (Int ⊕ Bool) → Res
 | .inl y => (.exit 2, ⟨[.any, .any, .any, .any, .any, .any, .any, .own 3200000, .any, .any, .any, .any, .any, .any, .any, .any, .any, .any, .any, .any, .any, .any, .any, .any, .any, .any, .any, .any, .any, .any, .any, .any, .int .i64 more, .any, .int .i64 y, .any], [], [(3200000, ⟨6, List.map Request_av model⟩)], true⟩)
 | .inr y => (.ret, ⟨[.any, .bool y, .any, .any, .any, .any, .any, .any, .any, .any, .any, .any, .any, .any, .any, .any, .any, .any, .any, .any, .any, .any, .any, .any, .any, .any, .any, .any, .any, .any, .any, .any, .any, .any, .any, .any], [], [], true⟩)
theorem laws_FnServed_l2_ex {list : List Request} {star : List UInt8} {model : List Request} {open_ : List Int} {more : Int} {sgm_ : Int × Int} {rho_ : Int ⊕ Bool} (h : whileE (laws_FnServed_l2 list star model open_ more) sgm_ = some rho_) : ∃ L0, ∀ L, L0 ≤ L → iter (exec (look t_laws_FnServed) L ir3_b1) ir3_k1 ir3_o1 ir3_r1 L (E_laws_FnServed_l2 list star model open_ more sgm_) = R_laws_FnServed_l2 list star model open_ more rho_ := by
 refine loop_ex (E := E_laws_FnServed_l2 list star model open_ more) (R := R_laws_FnServed_l2 list star model open_ more) (fun y => by first | (intro c; cases c) | (rcases y with y | y <;> (intro c; cases c)) | (rcases y with y | y | y <;> (intro c; cases c))) ?_ h
 clear h
 rintro ⟨mine, i⟩ o_ h
 dsimp only [laws_FnServed_l2] at h
 rcases it_some h with ⟨z31, h⟩ | ⟨z31, h⟩
 ·try simp only [go_sem, n1, n2, n3, n4] at z31
  all_goals
  obtain ⟨z32, h⟩ := ck_some h
  have lz32 := ix_lt z32
  have xz32 := getD_mapD (AV.int .i64) open_ lz32
  try simp only [go_sem] at lz32
  try simp only [go_sem] at xz32
  try simp only [go_sem, n1, n2, n3, n4, z31] at z32
  all_goals
  rcases it_some h with ⟨z33, h⟩ | ⟨z33, h⟩
  ·try simp only [go_sem, n1, n2, n3, n4, z31, z32] at z33
   all_goals
   obtain rfl := so_some h
   refine ⟨0, fun L hL => ?_⟩
   simp only [go_sem, ir3, E_laws_FnServed_l2, R_laws_FnServed_l2, ir3_b1, ir3_k1, ir3_o1, ir3_r1, E_laws_FnServed_l1, R_laws_FnServed_l1, ir3_k0, ir3_o0, ir3_r0, z31, z32, lz32, xz32, z33]
  ·try simp only [go_sem, n1, n2, n3, n4, z31, z32] at z33
   all_goals
   obtain ⟨z34, h⟩ := ck_some h
   have lz34 := ix_lt z34
   have xz34 := getD_mapD Request_av list lz34
   try simp only [go_sem] at lz34
   try simp only [go_sem] at xz34
   try simp only [go_sem, n1, n2, n3, n4, z31, z32, z33] at z34
   all_goals
   rcases it_some h with ⟨z35, h⟩ | ⟨z35, h⟩
   ·try simp only [go_sem, n1, n2, n3, n4, z31, z32, z33, z34] at z35
    all_goals
    obtain rfl := so_some h
    refine ⟨0, fun L hL => ?_⟩
    simp only [go_sem, ir3, E_laws_FnServed_l2, R_laws_FnServed_l2, ir3_b1, ir3_k1, ir3_o1, ir3_r1, E_laws_FnServed_l1, R_laws_FnServed_l1, ir3_k0, ir3_o0, ir3_r0, z31, z32, lz32, xz32, z33, z34, lz34, xz34, z35]
   ·try simp only [go_sem, n1, n2, n3, n4, z31, z32, z33, z34] at z35
    all_goals
    obtain rfl := so_some h
    refine ⟨0, fun L hL => ?_⟩
    simp only [go_sem, ir3, E_laws_FnServed_l2, R_laws_FnServed_l2, ir3_b1, ir3_k1, ir3_o1, ir3_r1, E_laws_FnServed_l1, R_laws_FnServed_l1, ir3_k0, ir3_o0, ir3_r0, z31, z32, lz32, xz32, z33, z34, lz34, xz34, z35]
 ·try simp only [go_sem, n1, n2, n3, n4] at z31
  all_goals
  obtain rfl := so_some h
  refine ⟨0, fun L hL => ?_⟩
  simp only [go_sem, ir3, E_laws_FnServed_l2, R_laws_FnServed_l2, ir3_b1, ir3_k1, ir3_o1, ir3_r1, E_laws_FnServed_l1, R_laws_FnServed_l1, ir3_k0, ir3_o0, ir3_r0, z31]

def E_laws_FnServed_l3 (list : List Request) (star : List UInt8) (model : List Request) (open_ : List Int) : (Int × Int) → St
 | (more, i) => ⟨[.any, .any, .own 3200000, .str star, .any, .any, .any, .own 3200032, .any, .any, .any, .any, .any, .any, .any, .any, .any, .any, .any, .any, .any, .any, .any, .any, .any, .any, .any, .any, .any, .any, .own 3200064, .any, .int .i64 more, .int .i64 i, .any, .any], [], [(3200000, ⟨6, List.map Request_av list⟩), (3200032, ⟨6, List.map Request_av model⟩), (3200064, ⟨1, List.map (AV.int .i64) open_⟩)], true⟩
def R_laws_FnServed_l3 (list : List Request) (star : List UInt8) (model : List Request) (open_ : List Int) (y : Int) : Res := (.exit 0, ⟨[.any, .any, .own 3200000, .str star, .any, .any, .any, .own 3200032, .any, .any, .any, .any, .any, .any, .any, .any, .any, .any, .any, .any, .any, .any, .any, .any, .any, .any, .any, .any, .any, .any, .own 3200064, .any, .int .i64 y, .any, .any, .any], [], [(3200000, ⟨6, List.map Request_av list⟩), (3200032, ⟨6, List.map Request_av model⟩), (3200064, ⟨1, List.map (AV.int .i64) open_⟩)], true⟩)
theorem laws_FnServed_l3_ex {list : List Request} {star : List UInt8} {model : List Request} {open_ : List Int} {sgm_ : Int × Int} {rho_ : Int} (h : whileE (laws_FnServed_l3 list star model open_) sgm_ = some rho_) : ∃ L0, ∀ L, L0 ≤ L → iter (exec (look t_laws_FnServed) L ir3_b0) ir3_k0 ir3_o0 ir3_r0 L (E_laws_FnServed_l3 list star model open_ sgm_) = R_laws_FnServed_l3 list star model open_ rho_ := by
 refine loop_ex (E := E_laws_FnServed_l3 list star model open_) (R := R_laws_FnServed_l3 list star model open_) (fun y => by first | (intro c; cases c) | (rcases y with y | y <;> (intro c; cases c)) | (rcases y with y | y | y <;> (intro c; cases c))) ?_ h
 clear h
 rintro ⟨more, i⟩ o_ h
 dsimp only [laws_FnServed_l3] at h
 rcases it_some h with ⟨z41, h⟩ | ⟨z41, h⟩
 ·try simp only [go_sem, n1, n2, n3, n4] at z41
  all_goals
  obtain ⟨z42, h⟩ := ck_some h
  have lz42 := ix_lt z42
  have xz42 := getD_mapD Request_av model lz42
  try simp only [go_sem] at lz42
  try simp only [go_sem] at xz42
  try simp only [go_sem, n1, n2, n3, n4, z41] at z42
  all_goals
  obtain ⟨z43, h⟩ := ck_some h
  have lz43 := ix_lt z43
  have xz43 := getD_mapD Request_av list lz43
  try simp only [go_sem] at lz43
  try simp only [go_sem] at xz43
  try simp only [go_sem, n1, n2, n3, n4, z41, z42] at z43
  all_goals
  obtain rfl := so_some h
  refine ⟨0, fun L hL => ?_⟩
  simp only [go_sem, ir3, E_laws_FnServed_l3, R_laws_FnServed_l3, ir3_b0, ir3_k0, ir3_o0, ir3_r0, E_laws_FnServed_l1, R_laws_FnServed_l1, ir3_k0, ir3_o0, ir3_r0, E_laws_FnServed_l2, R_laws_FnServed_l2, ir3_k1, ir3_o1, ir3_r1, z41, z42, lz42, xz42, z43, lz43, xz43]
 ·try simp only [go_sem, n1, n2, n3, n4] at z41
  all_goals
  obtain rfl := so_some h
  refine ⟨0, fun L hL => ?_⟩
  simp only [go_sem, ir3, E_laws_FnServed_l3, R_laws_FnServed_l3, ir3_b0, ir3_k0, ir3_o0, ir3_r0, E_laws_FnServed_l1, R_laws_FnServed_l1, ir3_k0, ir3_o0, ir3_r0, E_laws_FnServed_l2, R_laws_FnServed_l2, ir3_k1, ir3_o1, ir3_r1, z41]

def E_laws_FnServed_l4 (list : List Request) (star : List UInt8) (model : List Request) (open_ : List Int) (more : Int) : (Int × Int) → St
 | (mine, i) => ⟨[.any, .any, .own 3200000, .str star, .any, .any, .any, .own 3200032, .any, .any, .any, .any, .any, .any, .any, .any, .any, .any, .any, .any, .any, .any, .any, .any, .any, .any, .any, .any, .any, .any, .own 3200064, .any, .int .i64 more, .any, .int .i64 mine, .int .i64 i], [], [(3200000, ⟨6, List.map Request_av list⟩), (3200032, ⟨6, List.map Request_av model⟩), (3200064, ⟨1, List.map (AV.int .i64) open_⟩)], true⟩
def R_laws_FnServed_l4 (list : List Request) (star : List UInt8) (model : List Request) (open_ : List Int) (more : Int) : (Int ⊕ Bool) → Res
 | .inl y => (.exit 2, ⟨[.any, .any, .any, .any, .any, .any, .any, .own 3200000, .any, .any, .any, .any, .any, .any, .any, .any, .any, .any, .any, .any, .any, .any, .any, .any, .any, .any, .any, .any, .any, .any, .any, .any, .int .i64 more, .any, .int .i64 y, .any], [], [(3200000, ⟨6, List.map Request_av model⟩)], true⟩)
 | .inr y => (.ret, ⟨[.any, .bool y, .any, .any, .any, .any, .any, .any, .any, .any, .any, .any, .any, .any, .any, .any, .any, .any, .any, .any, .any, .any, .any, .any, .any, .any, .any, .any, .any, .any, .any, .any, .any, .any, .any, .any], [], [], true⟩)
theorem laws_FnServed_l4_ex {list : List Request} {star : List UInt8} {model : List Request} {open_ : List Int} {more : Int} {sgm_ : Int × Int} {rho_ : Int ⊕ Bool} (h : whileE (laws_FnServed_l4 list star model open_ more) sgm_ = some rho_) : ∃ L0, ∀ L, L0 ≤ L → iter (exec (look t_laws_FnServed) L ir3_b1) ir3_k1 ir3_o1 ir3_r1 L (E_laws_FnServed_l4 list star model open_ more sgm_) = R_laws_FnServed_l4 list star model open_ more rho_ := by
 refine loop_ex (E := E_laws_FnServed_l4 list star model open_ more) (R := R_laws_FnServed_l4 list star model open_ more) (fun y => by first | (intro c; cases c) | (rcases y with y | y <;> (intro c; cases c)) | (rcases y with y | y | y <;> (intro c; cases c))) ?_ h
 clear h
 rintro ⟨mine, i⟩ o_ h
 dsimp only [laws_FnServed_l4] at h
 rcases it_some h with ⟨z45, h⟩ | ⟨z45, h⟩
 ·try simp only [go_sem, n1, n2, n3, n4] at z45
  all_goals
  obtain ⟨z46, h⟩ := ck_some h
  have lz46 := ix_lt z46
  have xz46 := getD_mapD (AV.int .i64) open_ lz46
  try simp only [go_sem] at lz46
  try simp only [go_sem] at xz46
  try simp only [go_sem, n1, n2, n3, n4, z45] at z46
  all_goals
  rcases it_some h with ⟨z47, h⟩ | ⟨z47, h⟩
  ·try simp only [go_sem, n1, n2, n3, n4, z45, z46] at z47
   all_goals
   obtain rfl := so_some h
   refine ⟨0, fun L hL => ?_⟩
   simp only [go_sem, ir3, E_laws_FnServed_l4, R_laws_FnServed_l4, ir3_b1, ir3_k1, ir3_o1, ir3_r1, E_laws_FnServed_l1, R_laws_FnServed_l1, ir3_k0, ir3_o0, ir3_r0, E_laws_FnServed_l2, R_laws_FnServed_l2, ir3_k1, ir3_o1, ir3_r1, E_laws_FnServed_l3, R_laws_FnServed_l3, ir3_k0, ir3_o0, ir3_r0, z45, z46, lz46, xz46, z47]
  ·try simp only [go_sem, n1, n2, n3, n4, z45, z46] at z47
   all_goals
   obtain ⟨z48, h⟩ := ck_some h
   have lz48 := ix_lt z48
   have xz48 := getD_mapD Request_av list lz48
   try simp only [go_sem] at lz48
   try simp only [go_sem] at xz48
   try simp only [go_sem, n1, n2, n3, n4, z45, z46, z47] at z48
   all_goals
   rcases it_some h with ⟨z49, h⟩ | ⟨z49, h⟩
   ·try simp only [go_sem, n1, n2, n3, n4, z45, z46, z47, z48] at z49
    all_goals
    obtain rfl := so_some h
    refine ⟨0, fun L hL => ?_⟩
    simp only [go_sem, ir3, E_laws_FnServed_l4, R_laws_FnServed_l4, ir3_b1, ir3_k1, ir3_o1, ir3_r1, E_laws_FnServed_l1, R_laws_FnServed_l1, ir3_k0, ir3_o0, ir3_r0, E_laws_FnServed_l2, R_laws_FnServed_l2, ir3_k1, ir3_o1, ir3_r1, E_laws_FnServed_l3, R_laws_FnServed_l3, ir3_k0, ir3_o0, ir3_r0, z45, z46, lz46, xz46, z47, z48, lz48, xz48, z49]
   ·try simp only [go_sem, n1, n2, n3, n4, z45, z46, z47, z48] at z49
    all_goals
    obtain rfl := so_some h
    refine ⟨0, fun L hL => ?_⟩
    simp only [go_sem, ir3, E_laws_FnServed_l4, R_laws_FnServed_l4, ir3_b1, ir3_k1, ir3_o1, ir3_r1, E_laws_FnServed_l1, R_laws_FnServed_l1, ir3_k0, ir3_o0, ir3_r0, E_laws_FnServed_l2, R_laws_FnServed_l2, ir3_k1, ir3_o1, ir3_r1, E_laws_FnServed_l3, R_laws_FnServed_l3, ir3_k0, ir3_o0, ir3_r0, z45, z46, lz46, xz46, z47, z48, lz48, xz48, z49]
 ·try simp only [go_sem, n1, n2, n3, n4] at z45
  all_goals
  obtain rfl := so_some h
  refine ⟨0, fun L hL => ?_⟩
  simp only [go_sem, ir3, E_laws_FnServed_l4, R_laws_FnServed_l4, ir3_b1, ir3_k1, ir3_o1, ir3_r1, E_laws_FnServed_l1, R_laws_FnServed_l1, ir3_k0, ir3_o0, ir3_r0, E_laws_FnServed_l2, R_laws_FnServed_l2, ir3_k1, ir3_o1, ir3_r1, E_laws_FnServed_l3, R_laws_FnServed_l3, ir3_k0, ir3_o0, ir3_r0, z45]

set_option maxHeartbeats 8000000 in
theorem Fs_laws_FnServed {code : List UInt8} {y_ : Bool} (h : laws_FnServed code = some y_) : c_laws_FnServed.F [.sl 1 (List.map byteAV code)] = ⟨true, .bool y_, [.any]⟩ := by
 refine mkF_E rfl ?_
 dsimp only [laws_FnServed] at h
 obtain ⟨y_1, z1, h⟩ := bd_some h
 have fz1 := Fs_0 z1
 try simp only [go_sem] at fz1
 rcases it_some h with ⟨z2, h⟩ | ⟨z2, h⟩
 ·try simp only [go_sem, n1, n2, n3, n4] at z2
  all_goals
  obtain rfl := so_some h
  refine ⟨0, fun L hL => ?_⟩
  simp only [go_sem, ir3, E_laws_FnServed_l1, R_laws_FnServed_l1, ir3_k0, ir3_o0, ir3_r0, E_laws_FnServed_l2, R_laws_FnServed_l2, ir3_k1, ir3_o1, ir3_r1, E_laws_FnServed_l3, R_laws_FnServed_l3, ir3_k0, ir3_o0, ir3_r0, E_laws_FnServed_l4, R_laws_FnServed_l4, ir3_k1, ir3_o1, ir3_r1, fz1, z2]
 ·try simp only [go_sem, n1, n2, n3, n4] at z2
  all_goals
  obtain ⟨y_3, z3, h⟩ := bd_some h
  have fz3 := Fs_12 z3
  try simp only [go_sem, z2] at fz3
  obtain ⟨y_4, z4, h⟩ := bd_some h
  have fz4 := Fs_24 z4
  try simp only [go_sem, z2] at fz4
  obtain ⟨y_5, z5, h⟩ := bd_some h
  have fz5 := Fs_35 z5
  try simp only [go_sem, z2] at fz5
  obtain ⟨y_6, z6, h⟩ := bd_some h
  have fz6 := Fs_45 z6
  try simp only [go_sem, z2] at fz6
  obtain ⟨y_7, z7, h⟩ := bd_some h
  have fz7 := Fs_56 z7
  try simp only [go_sem, z2] at fz7
  obtain ⟨y_8, z8, h⟩ := bd_some h
  have fz8 := Fs_61 z8
  try simp only [go_sem, z2] at fz8
  obtain ⟨y_9, z9, h⟩ := bd_some h
  have fz9 := Fs_63 z9
  try simp only [go_sem, z2] at fz9
  obtain ⟨y_10, z10, h⟩ := bd_some h
  have fz10 := Fs_67 z10
  try simp only [go_sem, z2] at fz10
  obtain ⟨y_11, z11, h⟩ := bd_some h
  have fz11 := Fs_68 z11
  try simp only [go_sem, z2] at fz11
  obtain ⟨y_12, z12, h⟩ := bd_some h
  have fz12 := Fs_69 z12
  try simp only [go_sem, z2] at fz12
  obtain ⟨y_13, z13, h⟩ := bd_some h
  have fz13 := Fs_73 z13
  try simp only [go_sem, z2] at fz13
  obtain ⟨y_14, z14, h⟩ := bd_some h
  have fz14 := Fs_77 z14
  try simp only [go_sem, z2] at fz14
  obtain ⟨z15, h⟩ := ck_some h
  rcases or_split z15 with ⟨gz15, z15⟩ | gz15
  ·try simp only [go_sem, n1, n2, n3, n4, z2] at gz15
   all_goals
   obtain ⟨y_15, hz15⟩ := Option.isSome_iff_exists.1 z15
   have fz15 := Fs_78 hz15
   try simp only [go_sem, n1, n2, n3, n4, z2, gz15] at hz15
   all_goals
   try simp only [go_sem, z2, gz15] at fz15
   obtain ⟨z16, h⟩ := ck_some h
   rcases or_split z16 with ⟨gz16, z16⟩ | gz16
   ·try simp only [go_sem, n1, n2, n3, n4, z2, gz15, hz15] at gz16
    all_goals
    obtain ⟨y_16, hz16⟩ := Option.isSome_iff_exists.1 z16
    have fz16 := Fs_78 hz16
    try simp only [go_sem, n1, n2, n3, n4, z2, gz15, hz15, gz16] at hz16
    all_goals
    try simp only [go_sem, z2, gz15, hz15, gz16] at fz16
    obtain ⟨z17, h⟩ := ck_some h
    rcases or_split z17 with ⟨gz17, z17⟩ | gz17
    ·try simp only [go_sem, n1, n2, n3, n4, z2, gz15, hz15, gz16, hz16] at gz17
     all_goals
     obtain ⟨y_17, hz17⟩ := Option.isSome_iff_exists.1 z17
     have fz17 := Fs_78 hz17
     try simp only [go_sem, n1, n2, n3, n4, z2, gz15, hz15, gz16, hz16, gz17] at hz17
     all_goals
     try simp only [go_sem, z2, gz15, hz15, gz16, hz16, gz17] at fz17
     rcases it_some h with ⟨z18, h⟩ | ⟨z18, h⟩
     ·try simp only [go_sem, n1, n2, n3, n4, z2, gz15, hz15, gz16, hz16, gz17, hz17] at z18
      all_goals
      obtain rfl := so_some h
      refine ⟨0, fun L hL => ?_⟩
      simp only [go_sem, ir3, E_laws_FnServed_l1, R_laws_FnServed_l1, ir3_k0, ir3_o0, ir3_r0, E_laws_FnServed_l2, R_laws_FnServed_l2, ir3_k1, ir3_o1, ir3_r1, E_laws_FnServed_l3, R_laws_FnServed_l3, ir3_k0, ir3_o0, ir3_r0, E_laws_FnServed_l4, R_laws_FnServed_l4, ir3_k1, ir3_o1, ir3_r1, fz1, z2, fz3, fz4, fz5, fz6, fz7, fz8, fz9, fz10, fz11, fz12, fz13, fz14, gz15, hz15, fz15, gz16, hz16, fz16, gz17, hz17, fz17, z18]
     ·try simp only [go_sem, n1, n2, n3, n4, z2, gz15, hz15, gz16, hz16, gz17, hz17] at z18
      all_goals
      rcases it_some h with ⟨z19, h⟩ | ⟨z19, h⟩
      ·try simp only [go_sem, n1, n2, n3, n4, z2, gz15, hz15, gz16, hz16, gz17, hz17, z18] at z19
       all_goals
       obtain rfl := so_some h
       refine ⟨0, fun L hL => ?_⟩
       simp only [go_sem, ir3, E_laws_FnServed_l1, R_laws_FnServed_l1, ir3_k0, ir3_o0, ir3_r0, E_laws_FnServed_l2, R_laws_FnServed_l2, ir3_k1, ir3_o1, ir3_r1, E_laws_FnServed_l3, R_laws_FnServed_l3, ir3_k0, ir3_o0, ir3_r0, E_laws_FnServed_l4, R_laws_FnServed_l4, ir3_k1, ir3_o1, ir3_r1, fz1, z2, fz3, fz4, fz5, fz6, fz7, fz8, fz9, fz10, fz11, fz12, fz13, fz14, gz15, hz15, fz15, gz16, hz16, fz16, gz17, hz17, fz17, z18, z19]
      ·try simp only [go_sem, n1, n2, n3, n4, z2, gz15, hz15, gz16, hz16, gz17, hz17, z18] at z19
       all_goals
       rcases it_some h with ⟨z20, h⟩ | ⟨z20, h⟩
       ·try simp only [go_sem, n1, n2, n3, n4, z2, gz15, hz15, gz16, hz16, gz17, hz17, z18, z19] at z20
        all_goals
        obtain ⟨y_21, z21, h⟩ := bd_some h
        have fz21 := Fs_81 z21
        try simp only [go_sem, z2, gz15, hz15, gz16, hz16, gz17, hz17, z18, z19, z20] at fz21
        obtain ⟨y_22, z22, h⟩ := bd_some h
        have fz22 := Fs_81 z22
        try simp only [go_sem, z2, gz15, hz15, gz16, hz16, gz17, hz17, z18, z19, z20] at fz22
        rcases it_some h with ⟨z23, h⟩ | ⟨z23, h⟩
        ·try simp only [go_sem, n1, n2, n3, n4, z2, gz15, hz15, gz16, hz16, gz17, hz17, z18, z19, z20] at z23
         all_goals
         obtain rfl := so_some h
         refine ⟨0, fun L hL => ?_⟩
         simp only [go_sem, ir3, E_laws_FnServed_l1, R_laws_FnServed_l1, ir3_k0, ir3_o0, ir3_r0, E_laws_FnServed_l2, R_laws_FnServed_l2, ir3_k1, ir3_o1, ir3_r1, E_laws_FnServed_l3, R_laws_FnServed_l3, ir3_k0, ir3_o0, ir3_r0, E_laws_FnServed_l4, R_laws_FnServed_l4, ir3_k1, ir3_o1, ir3_r1, fz1, z2, fz3, fz4, fz5, fz6, fz7, fz8, fz9, fz10, fz11, fz12, fz13, fz14, gz15, hz15, fz15, gz16, hz16, fz16, gz17, hz17, fz17, z18, z19, z20, fz21, fz22, z23]
        ·try simp only [go_sem, n1, n2, n3, n4, z2, gz15, hz15, gz16, hz16, gz17, hz17, z18, z19, z20] at z23
         all_goals
         rcases it_some h with ⟨z24, h⟩ | ⟨z24, h⟩
         ·try simp only [go_sem, n1, n2, n3, n4, z2, gz15, hz15, gz16, hz16, gz17, hz17, z18, z19, z20, z23] at z24
          all_goals
          obtain rfl := so_some h
          refine ⟨0, fun L hL => ?_⟩
          simp only [go_sem, ir3, E_laws_FnServed_l1, R_laws_FnServed_l1, ir3_k0, ir3_o0, ir3_r0, E_laws_FnServed_l2, R_laws_FnServed_l2, ir3_k1, ir3_o1, ir3_r1, E_laws_FnServed_l3, R_laws_FnServed_l3, ir3_k0, ir3_o0, ir3_r0, E_laws_FnServed_l4, R_laws_FnServed_l4, ir3_k1, ir3_o1, ir3_r1, fz1, z2, fz3, fz4, fz5, fz6, fz7, fz8, fz9, fz10, fz11, fz12, fz13, fz14, gz15, hz15, fz15, gz16, hz16, fz16, gz17, hz17, fz17, z18, z19, z20, fz21, fz22, z23, z24]
         ·try simp only [go_sem, n1, n2, n3, n4, z2, gz15, hz15, gz16, hz16, gz17, hz17, z18, z19, z20, z23] at z24
          all_goals
          obtain ⟨y_25, z25, h⟩ := bd_some h
          have fz25 := Fs_81 z25
          try simp only [go_sem, z2, gz15, hz15, gz16, hz16, gz17, hz17, z18, z19, z20, z23, z24] at fz25
          rcases it_some h with ⟨z26, h⟩ | ⟨z26, h⟩
          ·try simp only [go_sem, n1, n2, n3, n4, z2, gz15, hz15, gz16, hz16, gz17, hz17, z18, z19, z20, z23, z24] at z26
           all_goals
           obtain rfl := so_some h
           refine ⟨0, fun L hL => ?_⟩
           simp only [go_sem, ir3, E_laws_FnServed_l1, R_laws_FnServed_l1, ir3_k0, ir3_o0, ir3_r0, E_laws_FnServed_l2, R_laws_FnServed_l2, ir3_k1, ir3_o1, ir3_r1, E_laws_FnServed_l3, R_laws_FnServed_l3, ir3_k0, ir3_o0, ir3_r0, E_laws_FnServed_l4, R_laws_FnServed_l4, ir3_k1, ir3_o1, ir3_r1, fz1, z2, fz3, fz4, fz5, fz6, fz7, fz8, fz9, fz10, fz11, fz12, fz13, fz14, gz15, hz15, fz15, gz16, hz16, fz16, gz17, hz17, fz17, z18, z19, z20, fz21, fz22, z23, z24, fz25, z26]
          ·try simp only [go_sem, n1, n2, n3, n4, z2, gz15, hz15, gz16, hz16, gz17, hz17, z18, z19, z20, z23, z24] at z26
           all_goals
           obtain ⟨y_30, z30, h⟩ := bd_some h
           obtain ⟨Lz30, ez30⟩ := laws_FnServed_l1_ex z30
           obtain ⟨y_36, z36, h⟩ := bd_some h
           obtain ⟨Lz36, ez36⟩ := laws_FnServed_l2_ex z36
           rcases y_36 with y_36a | y_36b
           ·dsimp only at h
            obtain ⟨z37, h⟩ := ck_some h
            rcases or_split z37 with ⟨gz37, z37⟩ | gz37
            ·try simp only [go_sem, n1, n2, n3, n4, z2, gz15, hz15, gz16, hz16, gz17, hz17, z18, z19, z20, z23, z24, z26] at gz37
             all_goals
             obtain ⟨y_37, hz37⟩ := Option.isSome_iff_exists.1 z37
             have fz37 := Fs_20 hz37
             try simp only [go_sem, n1, n2, n3, n4, z2, gz15, hz15, gz16, hz16, gz17, hz17, z18, z19, z20, z23, z24, z26, gz37] at hz37
             all_goals
             try simp only [go_sem, z2, gz15, hz15, gz16, hz16, gz17, hz17, z18, z19, z20, z23, z24, z26, gz37] at fz37
             obtain rfl := so_some h
             refine ⟨Lz30 + Lz36, fun L hL => ?_⟩
             have ez30 := ez30 L (by omega)
             have ez36 := ez36 L (by omega)
             try simp only [go_sem, E_laws_FnServed_l1, R_laws_FnServed_l1, ir3_k0, ir3_o0, ir3_r0, E_laws_FnServed_l2, R_laws_FnServed_l2, ir3_k1, ir3_o1, ir3_r1, E_laws_FnServed_l3, R_laws_FnServed_l3, ir3_k0, ir3_o0, ir3_r0, E_laws_FnServed_l4, R_laws_FnServed_l4, ir3_k1, ir3_o1, ir3_r1, z2, gz15, hz15, gz16, hz16, gz17, hz17, z18, z19, z20, z23, z24, z26, gz37, hz37] at ez30
             try simp only [go_sem, E_laws_FnServed_l1, R_laws_FnServed_l1, ir3_k0, ir3_o0, ir3_r0, E_laws_FnServed_l2, R_laws_FnServed_l2, ir3_k1, ir3_o1, ir3_r1, E_laws_FnServed_l3, R_laws_FnServed_l3, ir3_k0, ir3_o0, ir3_r0, E_laws_FnServed_l4, R_laws_FnServed_l4, ir3_k1, ir3_o1, ir3_r1, z2, gz15, hz15, gz16, hz16, gz17, hz17, z18, z19, z20, z23, z24, z26, gz37, hz37] at ez36
             simp only [go_sem, ir3, E_laws_FnServed_l1, R_laws_FnServed_l1, ir3_k0, ir3_o0, ir3_r0, E_laws_FnServed_l2, R_laws_FnServed_l2, ir3_k1, ir3_o1, ir3_r1, E_laws_FnServed_l3, R_laws_FnServed_l3, ir3_k0, ir3_o0, ir3_r0, E_laws_FnServed_l4, R_laws_FnServed_l4, ir3_k1, ir3_o1, ir3_r1, fz1, z2, fz3, fz4, fz5, fz6, fz7, fz8, fz9, fz10, fz11, fz12, fz13, fz14, gz15, hz15, fz15, gz16, hz16, fz16, gz17, hz17, fz17, z18, z19, z20, fz21, fz22, z23, z24, fz25, z26, gz37, hz37, fz37, ez30, ez36]
            ·try simp only [go_sem, n1, n2, n3, n4, z2, gz15, hz15, gz16, hz16, gz17, hz17, z18, z19, z20, z23, z24, z26] at gz37
             all_goals
             obtain rfl := so_some h
             refine ⟨Lz30 + Lz36, fun L hL => ?_⟩
             have ez30 := ez30 L (by omega)
             have ez36 := ez36 L (by omega)
             try simp only [go_sem, E_laws_FnServed_l1, R_laws_FnServed_l1, ir3_k0, ir3_o0, ir3_r0, E_laws_FnServed_l2, R_laws_FnServed_l2, ir3_k1, ir3_o1, ir3_r1, E_laws_FnServed_l3, R_laws_FnServed_l3, ir3_k0, ir3_o0, ir3_r0, E_laws_FnServed_l4, R_laws_FnServed_l4, ir3_k1, ir3_o1, ir3_r1, z2, gz15, hz15, gz16, hz16, gz17, hz17, z18, z19, z20, z23, z24, z26, gz37] at ez30
             try simp only [go_sem, E_laws_FnServed_l1, R_laws_FnServed_l1, ir3_k0, ir3_o0, ir3_r0, E_laws_FnServed_l2, R_laws_FnServed_l2, ir3_k1, ir3_o1, ir3_r1, E_laws_FnServed_l3, R_laws_FnServed_l3, ir3_k0, ir3_o0, ir3_r0, E_laws_FnServed_l4, R_laws_FnServed_l4, ir3_k1, ir3_o1, ir3_r1, z2, gz15, hz15, gz16, hz16, gz17, hz17, z18, z19, z20, z23, z24, z26, gz37] at ez36
             simp only [go_sem, ir3, E_laws_FnServed_l1, R_laws_FnServed_l1, ir3_k0, ir3_o0, ir3_r0, E_laws_FnServed_l2, R_laws_FnServed_l2, ir3_k1, ir3_o1, ir3_r1, E_laws_FnServed_l3, R_laws_FnServed_l3, ir3_k0, ir3_o0, ir3_r0, E_laws_FnServed_l4, R_laws_FnServed_l4, ir3_k1, ir3_o1, ir3_r1, fz1, z2, fz3, fz4, fz5, fz6, fz7, fz8, fz9, fz10, fz11, fz12, fz13, fz14, gz15, hz15, fz15, gz16, hz16, fz16, gz17, hz17, fz17, z18, z19, z20, fz21, fz22, z23, z24, fz25, z26, gz37, ez30, ez36]
           ·dsimp only at h
            obtain rfl := so_some h
            refine ⟨Lz30 + Lz36, fun L hL => ?_⟩
            have ez30 := ez30 L (by omega)
            have ez36 := ez36 L (by omega)
            try simp only [go_sem, E_laws_FnServed_l1, R_laws_FnServed_l1, ir3_k0, ir3_o0, ir3_r0, E_laws_FnServed_l2, R_laws_FnServed_l2, ir3_k1, ir3_o1, ir3_r1, E_laws_FnServed_l3, R_laws_FnServed_l3, ir3_k0, ir3_o0, ir3_r0, E_laws_FnServed_l4, R_laws_FnServed_l4, ir3_k1, ir3_o1, ir3_r1, z2, gz15, hz15, gz16, hz16, gz17, hz17, z18, z19, z20, z23, z24, z26] at ez30
            try simp only [go_sem, E_laws_FnServed_l1, R_laws_FnServed_l1, ir3_k0, ir3_o0, ir3_r0, E_laws_FnServed_l2, R_laws_FnServed_l2, ir3_k1, ir3_o1, ir3_r1, E_laws_FnServed_l3, R_laws_FnServed_l3, ir3_k0, ir3_o0, ir3_r0, E_laws_FnServed_l4, R_laws_FnServed_l4, ir3_k1, ir3_o1, ir3_r1, z2, gz15, hz15, gz16, hz16, gz17, hz17, z18, z19, z20, z23, z24, z26] at ez36
            simp only [go_sem, ir3, E_laws_FnServed_l1, R_laws_FnServed_l1, ir3_k0, ir3_o0, ir3_r0, E_laws_FnServed_l2, R_laws_FnServed_l2, ir3_k1, ir3_o1, ir3_r1, E_laws_FnServed_l3, R_laws_FnServed_l3, ir3_k0, ir3_o0, ir3_r0, E_laws_FnServed_l4, R_laws_FnServed_l4, ir3_k1, ir3_o1, ir3_r1, fz1, z2, fz3, fz4, fz5, fz6, fz7, fz8, fz9, fz10, fz11, fz12, fz13, fz14, gz15, hz15, fz15, gz16, hz16, fz16, gz17, hz17, fz17, z18, z19, z20, fz21, fz22, z23, z24, fz25, z26, ez30, ez36]
       ·try simp only [go_sem, n1, n2, n3, n4, z2, gz15, hz15, gz16, hz16, gz17, hz17, z18, z19] at z20
        all_goals
        rcases it_some h with ⟨z38, h⟩ | ⟨z38, h⟩
        ·try simp only [go_sem, n1, n2, n3, n4, z2, gz15, hz15, gz16, hz16, gz17, hz17, z18, z19, z20] at z38
         all_goals
         obtain rfl := so_some h
         refine ⟨0, fun L hL => ?_⟩
         simp only [go_sem, ir3, E_laws_FnServed_l1, R_laws_FnServed_l1, ir3_k0, ir3_o0, ir3_r0, E_laws_FnServed_l2, R_laws_FnServed_l2, ir3_k1, ir3_o1, ir3_r1, E_laws_FnServed_l3, R_laws_FnServed_l3, ir3_k0, ir3_o0, ir3_r0, E_laws_FnServed_l4, R_laws_FnServed_l4, ir3_k1, ir3_o1, ir3_r1, fz1, z2, fz3, fz4, fz5, fz6, fz7, fz8, fz9, fz10, fz11, fz12, fz13, fz14, gz15, hz15, fz15, gz16, hz16, fz16, gz17, hz17, fz17, z18, z19, z20, z38]
        ·try simp only [go_sem, n1, n2, n3, n4, z2, gz15, hz15, gz16, hz16, gz17, hz17, z18, z19, z20] at z38
         all_goals
         obtain ⟨y_39, z39, h⟩ := bd_some h
         have fz39 := Fs_81 z39
         try simp only [go_sem, z2, gz15, hz15, gz16, hz16, gz17, hz17, z18, z19, z20, z38] at fz39
         rcases it_some h with ⟨z40, h⟩ | ⟨z40, h⟩
         ·try simp only [go_sem, n1, n2, n3, n4, z2, gz15, hz15, gz16, hz16, gz17, hz17, z18, z19, z20, z38] at z40
          all_goals
          obtain rfl := so_some h
          refine ⟨0, fun L hL => ?_⟩
          simp only [go_sem, ir3, E_laws_FnServed_l1, R_laws_FnServed_l1, ir3_k0, ir3_o0, ir3_r0, E_laws_FnServed_l2, R_laws_FnServed_l2, ir3_k1, ir3_o1, ir3_r1, E_laws_FnServed_l3, R_laws_FnServed_l3, ir3_k0, ir3_o0, ir3_r0, E_laws_FnServed_l4, R_laws_FnServed_l4, ir3_k1, ir3_o1, ir3_r1, fz1, z2, fz3, fz4, fz5, fz6, fz7, fz8, fz9, fz10, fz11, fz12, fz13, fz14, gz15, hz15, fz15, gz16, hz16, fz16, gz17, hz17, fz17, z18, z19, z20, z38, fz39, z40]
         ·try simp only [go_sem, n1, n2, n3, n4, z2, gz15, hz15, gz16, hz16, gz17, hz17, z18, z19, z20, z38] at z40
          all_goals
          obtain ⟨y_44, z44, h⟩ := bd_some h
          obtain ⟨Lz44, ez44⟩ := laws_FnServed_l3_ex z44
          obtain ⟨y_50, z50, h⟩ := bd_some h
          obtain ⟨Lz50, ez50⟩ := laws_FnServed_l4_ex z50
          rcases y_50 with y_50a | y_50b
          ·dsimp only at h
           obtain ⟨z51, h⟩ := ck_some h
           rcases or_split z51 with ⟨gz51, z51⟩ | gz51
           ·try simp only [go_sem, n1, n2, n3, n4, z2, gz15, hz15, gz16, hz16, gz17, hz17, z18, z19, z20, z38, z40] at gz51
            all_goals
            obtain ⟨y_51, hz51⟩ := Option.isSome_iff_exists.1 z51
            have fz51 := Fs_20 hz51
            try simp only [go_sem, n1, n2, n3, n4, z2, gz15, hz15, gz16, hz16, gz17, hz17, z18, z19, z20, z38, z40, gz51] at hz51
            all_goals
            try simp only [go_sem, z2, gz15, hz15, gz16, hz16, gz17, hz17, z18, z19, z20, z38, z40, gz51] at fz51
            obtain rfl := so_some h
            refine ⟨Lz44 + Lz50, fun L hL => ?_⟩
            have ez44 := ez44 L (by omega)
            have ez50 := ez50 L (by omega)
            try simp only [go_sem, E_laws_FnServed_l1, R_laws_FnServed_l1, ir3_k0, ir3_o0, ir3_r0, E_laws_FnServed_l2, R_laws_FnServed_l2, ir3_k1, ir3_o1, ir3_r1, E_laws_FnServed_l3, R_laws_FnServed_l3, ir3_k0, ir3_o0, ir3_r0, E_laws_FnServed_l4, R_laws_FnServed_l4, ir3_k1, ir3_o1, ir3_r1, z2, gz15, hz15, gz16, hz16, gz17, hz17, z18, z19, z20, z38, z40, gz51, hz51] at ez44
            try simp only [go_sem, E_laws_FnServed_l1, R_laws_FnServed_l1, ir3_k0, ir3_o0, ir3_r0, E_laws_FnServed_l2, R_laws_FnServed_l2, ir3_k1, ir3_o1, ir3_r1, E_laws_FnServed_l3, R_laws_FnServed_l3, ir3_k0, ir3_o0, ir3_r0, E_laws_FnServed_l4, R_laws_FnServed_l4, ir3_k1, ir3_o1, ir3_r1, z2, gz15, hz15, gz16, hz16, gz17, hz17, z18, z19, z20, z38, z40, gz51, hz51] at ez50
            simp only [go_sem, ir3, E_laws_FnServed_l1, R_laws_FnServed_l1, ir3_k0, ir3_o0, ir3_r0, E_laws_FnServed_l2, R_laws_FnServed_l2, ir3_k1, ir3_o1, ir3_r1, E_laws_FnServed_l3, R_laws_FnServed_l3, ir3_k0, ir3_o0, ir3_r0, E_laws_FnServed_l4, R_laws_FnServed_l4, ir3_k1, ir3_o1, ir3_r1, fz1, z2, fz3, fz4, fz5, fz6, fz7, fz8, fz9, fz10, fz11, fz12, fz13, fz14, gz15, hz15, fz15, gz16, hz16, fz16, gz17, hz17, fz17, z18, z19, z20, z38, fz39, z40, gz51, hz51, fz51, ez44, ez50]
           ·try simp only [go_sem, n1, n2, n3, n4, z2, gz15, hz15, gz16, hz16, gz17, hz17, z18, z19, z20, z38, z40] at gz51
            all_goals
            obtain rfl := so_some h
            refine ⟨Lz44 + Lz50, fun L hL => ?_⟩
            have ez44 := ez44 L (by omega)
            have ez50 := ez50 L (by omega)
            try simp only [go_sem, E_laws_FnServed_l1, R_laws_FnServed_l1, ir3_k0, ir3_o0, ir3_r0, E_laws_FnServed_l2, R_laws_FnServed_l2, ir3_k1, ir3_o1, ir3_r1, E_laws_FnServed_l3, R_laws_FnServed_l3, ir3_k0, ir3_o0, ir3_r0, E_laws_FnServed_l4, R_laws_FnServed_l4, ir3_k1, ir3_o1, ir3_r1, z2, gz15, hz15, gz16, hz16, gz17, hz17, z18, z19, z20, z38, z40, gz51] at ez44
            try simp only [go_sem, E_laws_FnServed_l1, R_laws_FnServed_l1, ir3_k0, ir3_o0, ir3_r0, E_laws_FnServed_l2, R_laws_FnServed_l2, ir3_k1, ir3_o1, ir3_r1, E_laws_FnServed_l3, R_laws_FnServed_l3, ir3_k0, ir3_o0, ir3_r0, E_laws_FnServed_l4, R_laws_FnServed_l4, ir3_k1, ir3_o1, ir3_r1, z2, gz15, hz15, gz16, hz16, gz17, hz17, z18, z19, z20, z38, z40, gz51] at ez50
            simp only [go_sem, ir3, E_laws_FnServed_l1, R_laws_FnServed_l1, ir3_k0, ir3_o0, ir3_r0, E_laws_FnServed_l2, R_laws_FnServed_l2, ir3_k1, ir3_o1, ir3_r1, E_laws_FnServed_l3, R_laws_FnServed_l3, ir3_k0, ir3_o0, ir3_r0, E_laws_FnServed_l4, R_laws_FnServed_l4, ir3_k1, ir3_o1, ir3_r1, fz1, z2, fz3, fz4, fz5, fz6, fz7, fz8, fz9, fz10, fz11, fz12, fz13, fz14, gz15, hz15, fz15, gz16, hz16, fz16, gz17, hz17, fz17, z18, z19, z20, z38, fz39, z40, gz51, ez44, ez50]
          ·dsimp only at h
           obtain rfl := so_some h
           refine ⟨Lz44 + Lz50, fun L hL => ?_⟩
           have ez44 := ez44 L (by omega)
           have ez50 := ez50 L (by omega)
           try simp only [go_sem, E_laws_FnServed_l1, R_laws_FnServed_l1, ir3_k0, ir3_o0, ir3_r0, E_laws_FnServed_l2, R_laws_FnServed_l2, ir3_k1, ir3_o1, ir3_r1, E_laws_FnServed_l3, R_laws_FnServed_l3, ir3_k0, ir3_o0, ir3_r0, E_laws_FnServed_l4, R_laws_FnServed_l4, ir3_k1, ir3_o1, ir3_r1, z2, gz15, hz15, gz16, hz16, gz17, hz17, z18, z19, z20, z38, z40] at ez44
           try simp only [go_sem, E_laws_FnServed_l1, R_laws_FnServed_l1, ir3_k0, ir3_o0, ir3_r0, E_laws_FnServed_l2, R_laws_FnServed_l2, ir3_k1, ir3_o1, ir3_r1, E_laws_FnServed_l3, R_laws_FnServed_l3, ir3_k0, ir3_o0, ir3_r0, E_laws_FnServed_l4, R_laws_FnServed_l4, ir3_k1, ir3_o1, ir3_r1, z2, gz15, hz15, gz16, hz16, gz17, hz17, z18, z19, z20, z38, z40] at ez50
           simp only [go_sem, ir3, E_laws_FnServed_l1, R_laws_FnServed_l1, ir3_k0, ir3_o0, ir3_r0, E_laws_FnServed_l2, R_laws_FnServed_l2, ir3_k1, ir3_o1, ir3_r1, E_laws_FnServed_l3, R_laws_FnServed_l3, ir3_k0, ir3_o0, ir3_r0, E_laws_FnServed_l4, R_laws_FnServed_l4, ir3_k1, ir3_o1, ir3_r1, fz1, z2, fz3, fz4, fz5, fz6, fz7, fz8, fz9, fz10, fz11, fz12, fz13, fz14, gz15, hz15, fz15, gz16, hz16, fz16, gz17, hz17, fz17, z18, z19, z20, z38, fz39, z40, ez44, ez50]
    ·have gz17n := no_f gz17
     rcases or_t gz17n with gz17na | ⟨gz17na, gz17nb⟩
     ·rcases or_t gz17na with gz17naa | ⟨gz17naa, gz17nab⟩
      ·try simp only [go_sem, n1, n2, n3, n4, z2, gz15, hz15, gz16, hz16] at gz17naa
       all_goals
       (simp_all)
      ·obtain ⟨gz17naaa, gz17naab⟩ := or_f gz17naa
       obtain ⟨gz17naaaa, gz17naaab⟩ := or_f gz17naaa
       have gz17naaaan := no_f gz17naaaa
       have gz17naaabn := no_f gz17naaab
       have gz17naabn := no_f gz17naab
       have gz17nabn := no_t gz17nab
       try simp only [go_sem, n1, n2, n3, n4, z2, gz15, hz15, gz16, hz16] at gz17naaaan
       all_goals
       try simp only [go_sem, n1, n2, n3, n4, z2, gz15, hz15, gz16, hz16, gz17naaaan] at gz17naaabn
       all_goals
       try simp only [go_sem, n1, n2, n3, n4, z2, gz15, hz15, gz16, hz16, gz17naaaan, gz17naaabn] at gz17naabn
       all_goals
       try simp only [go_sem, n1, n2, n3, n4, z2, gz15, hz15, gz16, hz16, gz17naaaan, gz17naaabn, gz17naabn] at gz17nabn
       all_goals
       rcases it_some h with ⟨z18, h⟩ | ⟨z18, h⟩
       ·try simp only [go_sem, n1, n2, n3, n4, z2, gz15, hz15, gz16, hz16, gz17naaaan, gz17naaabn, gz17naabn, gz17nabn] at z18
        all_goals
        obtain rfl := so_some h
        refine ⟨0, fun L hL => ?_⟩
        simp only [go_sem, ir3, E_laws_FnServed_l1, R_laws_FnServed_l1, ir3_k0, ir3_o0, ir3_r0, E_laws_FnServed_l2, R_laws_FnServed_l2, ir3_k1, ir3_o1, ir3_r1, E_laws_FnServed_l3, R_laws_FnServed_l3, ir3_k0, ir3_o0, ir3_r0, E_laws_FnServed_l4, R_laws_FnServed_l4, ir3_k1, ir3_o1, ir3_r1, fz1, z2, fz3, fz4, fz5, fz6, fz7, fz8, fz9, fz10, fz11, fz12, fz13, fz14, gz15, hz15, fz15, gz16, hz16, fz16, gz17naaaan, gz17naaabn, gz17naabn, gz17nabn, z18]
       ·try simp only [go_sem, n1, n2, n3, n4, z2, gz15, hz15, gz16, hz16, gz17naaaan, gz17naaabn, gz17naabn, gz17nabn] at z18
        all_goals
        (simp_all)
     ·obtain ⟨gz17naa, gz17nab⟩ := or_f gz17na
      obtain ⟨gz17naaa, gz17naab⟩ := or_f gz17naa
      obtain ⟨gz17naaaa, gz17naaab⟩ := or_f gz17naaa
      have gz17naaaan := no_f gz17naaaa
      have gz17naaabn := no_f gz17naaab
      have gz17naabn := no_f gz17naab
      have gz17nabn := no_f gz17nab
      have gz17nbn := no_t gz17nb
      try simp only [go_sem, n1, n2, n3, n4, z2, gz15, hz15, gz16, hz16] at gz17naaaan
      all_goals
      try simp only [go_sem, n1, n2, n3, n4, z2, gz15, hz15, gz16, hz16, gz17naaaan] at gz17naaabn
      all_goals
      try simp only [go_sem, n1, n2, n3, n4, z2, gz15, hz15, gz16, hz16, gz17naaaan, gz17naaabn] at gz17naabn
      all_goals
      try simp only [go_sem, n1, n2, n3, n4, z2, gz15, hz15, gz16, hz16, gz17naaaan, gz17naaabn, gz17naabn] at gz17nabn
      all_goals
      try simp only [go_sem, n1, n2, n3, n4, z2, gz15, hz15, gz16, hz16, gz17naaaan, gz17naaabn, gz17naabn, gz17nabn] at gz17nbn
      all_goals
      rcases it_some h with ⟨z18, h⟩ | ⟨z18, h⟩
      ·try simp only [go_sem, n1, n2, n3, n4, z2, gz15, hz15, gz16, hz16, gz17naaaan, gz17naaabn, gz17naabn, gz17nabn, gz17nbn] at z18
       all_goals
       obtain rfl := so_some h
       refine ⟨0, fun L hL => ?_⟩
       simp only [go_sem, ir3, E_laws_FnServed_l1, R_laws_FnServed_l1, ir3_k0, ir3_o0, ir3_r0, E_laws_FnServed_l2, R_laws_FnServed_l2, ir3_k1, ir3_o1, ir3_r1, E_laws_FnServed_l3, R_laws_FnServed_l3, ir3_k0, ir3_o0, ir3_r0, E_laws_FnServed_l4, R_laws_FnServed_l4, ir3_k1, ir3_o1, ir3_r1, fz1, z2, fz3, fz4, fz5, fz6, fz7, fz8, fz9, fz10, fz11, fz12, fz13, fz14, gz15, hz15, fz15, gz16, hz16, fz16, gz17naaaan, gz17naaabn, gz17naabn, gz17nabn, gz17nbn, z18]
      ·try simp only [go_sem, n1, n2, n3, n4, z2, gz15, hz15, gz16, hz16, gz17naaaan, gz17naaabn, gz17naabn, gz17nabn, gz17nbn] at z18
       all_goals
       (simp_all)
   ·have gz16n := no_f gz16
    rcases or_t gz16n with gz16na | ⟨gz16na, gz16nb⟩
    ·rcases or_t gz16na with gz16naa | ⟨gz16naa, gz16nab⟩
     ·try simp only [go_sem, n1, n2, n3, n4, z2, gz15, hz15] at gz16naa
      all_goals
      (simp_all)
     ·have gz16naan := no_f gz16naa
      have gz16nabn := no_t gz16nab
      try simp only [go_sem, n1, n2, n3, n4, z2, gz15, hz15] at gz16naan
      all_goals
      try simp only [go_sem, n1, n2, n3, n4, z2, gz15, hz15, gz16naan] at gz16nabn
      all_goals
      obtain ⟨z17, h⟩ := ck_some h
      rcases it_some h with ⟨z18, h⟩ | ⟨z18, h⟩
      ·try simp only [go_sem, n1, n2, n3, n4, z2, gz15, hz15, gz16naan, gz16nabn] at z18
       all_goals
       obtain rfl := so_some h
       refine ⟨0, fun L hL => ?_⟩
       simp only [go_sem, ir3, E_laws_FnServed_l1, R_laws_FnServed_l1, ir3_k0, ir3_o0, ir3_r0, E_laws_FnServed_l2, R_laws_FnServed_l2, ir3_k1, ir3_o1, ir3_r1, E_laws_FnServed_l3, R_laws_FnServed_l3, ir3_k0, ir3_o0, ir3_r0, E_laws_FnServed_l4, R_laws_FnServed_l4, ir3_k1, ir3_o1, ir3_r1, fz1, z2, fz3, fz4, fz5, fz6, fz7, fz8, fz9, fz10, fz11, fz12, fz13, fz14, gz15, hz15, fz15, gz16naan, gz16nabn, z18]
      ·try simp only [go_sem, n1, n2, n3, n4, z2, gz15, hz15, gz16naan, gz16nabn] at z18
       all_goals
       (simp_all)
    ·obtain ⟨gz16naa, gz16nab⟩ := or_f gz16na
     have gz16naan := no_f gz16naa
     have gz16nabn := no_f gz16nab
     have gz16nbn := no_t gz16nb
     try simp only [go_sem, n1, n2, n3, n4, z2, gz15, hz15] at gz16naan
     all_goals
     try simp only [go_sem, n1, n2, n3, n4, z2, gz15, hz15, gz16naan] at gz16nabn
     all_goals
     try simp only [go_sem, n1, n2, n3, n4, z2, gz15, hz15, gz16naan, gz16nabn] at gz16nbn
     all_goals
     obtain ⟨z17, h⟩ := ck_some h
     rcases it_some h with ⟨z18, h⟩ | ⟨z18, h⟩
     ·try simp only [go_sem, n1, n2, n3, n4, z2, gz15, hz15, gz16naan, gz16nabn, gz16nbn] at z18
      all_goals
      obtain rfl := so_some h
      refine ⟨0, fun L hL => ?_⟩
      simp only [go_sem, ir3, E_laws_FnServed_l1, R_laws_FnServed_l1, ir3_k0, ir3_o0, ir3_r0, E_laws_FnServed_l2, R_laws_FnServed_l2, ir3_k1, ir3_o1, ir3_r1, E_laws_FnServed_l3, R_laws_FnServed_l3, ir3_k0, ir3_o0, ir3_r0, E_laws_FnServed_l4, R_laws_FnServed_l4, ir3_k1, ir3_o1, ir3_r1, fz1, z2, fz3, fz4, fz5, fz6, fz7, fz8, fz9, fz10, fz11, fz12, fz13, fz14, gz15, hz15, fz15, gz16naan, gz16nabn, gz16nbn, z18]
     ·try simp only [go_sem, n1, n2, n3, n4, z2, gz15, hz15, gz16naan, gz16nabn, gz16nbn] at z18
      all_goals
      (simp_all)
  ·have gz15n := no_f gz15
   have gz15nn := no_t gz15n
   try simp only [go_sem, n1, n2, n3, n4, z2] at gz15nn
   all_goals
   obtain ⟨z16, h⟩ := ck_some h
   obtain ⟨z17, h⟩ := ck_some h
   rcases it_some h with ⟨z18, h⟩ | ⟨z18, h⟩
   ·try simp only [go_sem, n1, n2, n3, n4, z2, gz15nn] at z18
    all_goals
    obtain rfl := so_some h
    refine ⟨0, fun L hL => ?_⟩
    simp only [go_sem, ir3, E_laws_FnServed_l1, R_laws_FnServed_l1, ir3_k0, ir3_o0, ir3_r0, E_laws_FnServed_l2, R_laws_FnServed_l2, ir3_k1, ir3_o1, ir3_r1, E_laws_FnServed_l3, R_laws_FnServed_l3, ir3_k0, ir3_o0, ir3_r0, E_laws_FnServed_l4, R_laws_FnServed_l4, ir3_k1, ir3_o1, ir3_r1, fz1, z2, fz3, fz4, fz5, fz6, fz7, fz8, fz9, fz10, fz11, fz12, fz13, fz14, gz15nn, z18]
   ·try simp only [go_sem, n1, n2, n3, n4, z2, gz15nn] at z18
    all_goals
    (simp_all)


end Go.Proofs.Ytibabbjpkjmdeaa
