/- Codes and contracts of the functions that RE reaches, and that their typed forms say what they do. No condition. -/
import Derived.Test.YtlnpnpjkpkdoeaaREKa
import Derived.Test.YtlnpnpjkpkdoeaaRows
import Derived.WalkKit
namespace Go.Proofs.Ytlnpnpjkpkdoeaa
open Go Go.RowKit
set_option linter.unusedVariables false
set_option linter.unusedSimpArgs false
set_option maxRecDepth 10000

def ir3_b0 : IR := .seq (.test false [ PM 177 31, PM 178 29, PO 179 (.len false (.s 0)), PO 180 (.bin false .lss (.s 2) (.s 0))] (.s 0) (.skip) (.exit 0)) (.seq (.block 1 (.anyo 8 [ SO 0 183 (.mov (.v 29)), SO 1 184 (.mov (.v 31)), SO 2 185 (.ixAddr 1 (.s 0) (.s 1)), SO 3 186 (.load false 1 (.s 2)), SO 4 187 (.mov (.v 27)), SO 5 188 (.ixAddr 1 (.s 4) (I6 0)), SO 6 189 (.load false 1 (.s 5)), SO 7 190 (.bin false .eql (.s 3) (.s 6))] [] (.cond (.s 7) (.seq (.region false [ VO 1 2 (.mov (.c (.bool false)))]) (.ret)) (.skip)))) (.region false [ PM 181 31, PO 182 (.bin false .add (.s 0) (I6 1)), VS
 31 32 0]))
def ir3_k0 : List Bool := [false, false, true, true, true, true, false, false, false, false, true, false, false, false, false, false, false, false, false, false, false, false, false, false, false, true, false, true, false, true, false, true, false, false, false, false, false, false]
def ir3_o0 : List Bool := [false, false, true, true, true, true, false, false, false, false, true, false, false, false, false, false, false, false, false, false, false, false, false, false, false, true, false, true, false, false, false, false, false, false, false, false, false, false]
def ir3_r0 : List Bool := [false, true, false, false, false, false, false, false, false, false, false, false, false, false, false, false, false, false, false, false, false, false, false, false, false, false, false, false, false, false, false, false, false, false, false, false, false, false]
def ir3_b1 : IR := .seq (.test false [ PM 191 32, PM 192 27, PO 193 (.len false (.s 0)), PO 194 (.bin false .lss (.s 2) (.s 0))] (.s 0) (.skip) (.exit 2)) (.seq (.block 3 (.seq (.anyo 12 [ SO 0 198 (.mov (.v 25)), SO 1 199 (.mov (.v 27)), SO 2 200 (.ixAddr 1 (.s 1) (I6 0)), SO 3 201 (.load false 1 (.s 2)), SO 4 202 (.mov (.v 27)), SO 5 203 (.mov (.v 32)), SO 6 204 (.ixAddr 1 (.s 4) (.s 5)), SO 7 205 (.load false 1 (.s 6)), SO 8 206 (.call 13 [(.s 0), (.s 3), (.s 7)]), SO 9 197 (.mov (.s 8)), SO 10 207 (.ext (.s 9) 0), SO 11 208 (.ext (.s 9) 1), VS 33 34 10, VS 34 35 11] [] .skip) (.test false [
 PM 209 34, PO 210 (.bin false .neq (.s 0) (I6 0)), PO 211 (.mov (.s 0)), ⟨.push, 212, (some ((.s 0), false)), .mov (.v 33)⟩, ⟨.push, 213, (some ((.s 1), false)), .un .not (.s 0)⟩, PO 214 (.pick (.s 2) (.c (.bool true)) (.s 0))] (.s 0) (.seq (.region false [ VO 1 2 (.mov (.c (.bool false)))]) (.ret)) (.skip)))) (.region false [ PM 195 32, PO 196 (.bin false .add (.s 0) (I6 1)), VS 32 33 0]))
def ir3_k1 : List Bool := [false, false, true, true, true, true, false, false, false, false, true, false, false, false, false, false, false, false, false, false, false, false, false, false, false, true, false, true, false, false, false, false, true, false, false, false, false, false]
def ir3_o1 : List Bool := [false, false, true, true, true, true, false, false, false, false, true, false, false, false, false, false, false, false, false, false, false, false, false, false, false, false, false, false, false, false, false, false, false, false, false, false, false, false]
def ir3_r1 : List Bool := [false, true, false, false, false, false, false, false, false, false, false, false, false, false, false, false, false, false, false, false, false, false, false, false, false, false, false, false, false, false, false, false, false, false, false, false, false, false]
def ir3_b2 : IR := .seq (.test false [ PM 239 37, PM 240 10, PO 241 (.len false (.s 0)), PO 242 (.bin false .lss (.s 2) (.s 0))] (.s 0) (.skip) (.exit 4)) (.seq (.block 5 (.test false [ PM 245 10, PM 246 37, PO 247 (.ixAddr 1 (.s 1) (.s 0)), PO 248 (.load false 1 (.s 0)), PM 249 3, PO 250 (.bin false .eql (.s 1) (.s 0))] (.s 0) (.seq (.region false [ VO 1 2 (.mov (.c (.bool true)))]) (.ret)) (.skip))) (.region false [ PM 243 37, PO 244 (.bin false .add (.s 0) (I6 1)), VS 37 38 0]))
def ir3_k2 : List Bool := [false, false, false, true, false, false, false, false, false, false, true, false, false, false, false, false, false, false, false, false, false, false, false, false, false, false, false, false, false, false, false, false, false, false, false, false, false, true]
def ir3_o2 : List Bool := [false, false, false, false, false, false, false, false, false, false, false, false, false, false, false, false, false, false, false, false, false, false, false, false, false, false, false, false, false, false, false, false, false, false, false, false, false, false]
def ir3_r2 : List Bool := [false, true, false, false, false, false, false, false, false, false, false, false, false, false, false, false, false, false, false, false, false, false, false, false, false, false, false, false, false, false, false, false, false, false, false, false, false, false]
def ir3_v : List Nat := [0, 2, 3, 4, 5, 6, 7, 8, 9, 10, 11, 12, 13, 14, 15, 16, 17, 18, 19, 20, 21, 22, 23, 24, 25, 26, 27, 28, 29, 30, 31, 32, 33, 34, 35, 36, 37, 38]
def ir3 : AFn := ⟨1, 38, .seq (.region false [ VO 1 2 (.mov (.c (.bool false)))]) (.seq (.test false [ PM 39 0, PO 40 (.call 4 [(.s 0)])] (.s 0) (.seq (.region false [ VO 1 2 (.mov (.c (.bool true)))]) (.ret)) (.skip)) (.seq (.region false [ PM 42 0, PO 43 (.call 5 [(.s 0)]), PO 41 (.mov (.s 0)), PO 44 (.ext (.s 0) 0), PO 45 (.ext (.s 1) 1), VS 2 3 1, VS 3 4 0]) (.seq (.region false [ PM 47 2, PM 48 3, PO 49 (.call 6 [(.s 1), (.s 0)]), PO 46 (.mov (.s 0)), PO 50 (.ext (.s 0) 0), PO 51 (.ext (.s 1) 1), VO 4 5 (.alloc (.agg [.int .i64 (0), .int .i64 (0), .int .i64 (0)])), ⟨.no, 0, none, .store 3
 (.v 4) (.s 1)⟩, VS 5 6 0]) (.seq (.region false [ PM 53 2, PM 54 3, PO 55 (.call 7 [(.s 1), (.s 0)]), PO 52 (.mov (.s 0)), PO 56 (.ext (.s 0) 0), PO 57 (.ext (.s 1) 1), VO 6 7 (.alloc (.agg [.int .i64 (0), .int .i64 (0), .int .i64 (0)])), ⟨.no, 0, none, .store 3 (.v 6) (.s 1)⟩, VS 7 8 0]) (.seq (.region false [ PM 59 2, PO 60 (.call 8 [(.s 0)]), PO 58 (.mov (.s 0)), PO 61 (.ext (.s 0) 0), PO 62 (.ext (.s 1) 1), VS 8 9 1, VS 9 10 0]) (.seq (.region false [ PM 64 2, PO 65 (.call 9 [(.s 0)]), PO 63 (.mov (.s 0)), PO 66 (.ext (.s 0) 0), PO 67 (.ext (.s 1) 1), VS 10 11 1, VS 11 12 0]) (.seq
 (.region false [ PM 69 2, PO 70 (.call 10 [(.s 0)]), PO 68 (.mov (.s 0)), PO 71 (.ext (.s 0) 0), PO 72 (.ext (.s 1) 1), VO 12 13 (.alloc (.agg [.int .i64 (0), .int .i64 (0), .int .i64 (0)])), ⟨.no, 0, none, .store 3 (.v 12) (.s 1)⟩, VS 13 14 0]) (.seq (.region false [ PM 74 2, PO 75 (.call 11 [(.s 0)]), PO 73 (.mov (.s 0)), PO 76 (.ext (.s 0) 0), PO 77 (.ext (.s 1) 1), VO 14 15 (.alloc (.agg [.int .i64 (0), .int .i64 (0), .int .i64 (0)])), ⟨.no, 0, none, .store 3 (.v 14) (.s 1)⟩, VS 15 16 0]) (.seq (.region false [ PM 79 0, PO 80 (.call 12 [(.s 0)]), PO 78 (.mov (.s 0)), PO 81 (.ext (.s 0) 0),
 PO 82 (.ext (.s 1) 1), PO 83 (.ext (.s 2) 2), VS 16 17 2, VS 17 18 1, VS 18 19 0]) (.seq (.region false [ PM 85 16, PM 86 17, PM 87 18, PO 88 (.call 13 [(.s 2), (.s 1), (.s 0)]), PO 84 (.mov (.s 0)), PO 89 (.ext (.s 0) 0), PO 90 (.ext (.s 1) 1), VS 19 20 1, VS 20 21 0]) (.seq (.region false [ PM 92 16, PM 93 17, PM 94 18, PO 95 (.call 14 [(.s 2), (.s 1), (.s 0)]), PO 91 (.mov (.s 0)), PO 96 (.ext (.s 0) 0), PO 97 (.ext (.s 1) 1), VS 21 22 1, VS 22 23 0]) (.seq (.test false [ PM 98 5, PM 99 7, PO 100 (.bin false .neq (.s 1) (.s 0)), PO 101 (.mov (.s 0)), ⟨.push, 102, (some ((.s 0), false)),
 .load true 3 (.v 4)⟩, ⟨.push, 103, (some ((.s 1), false)), .load true 3 (.v 6)⟩, ⟨.push, 104, (some ((.s 2), false)), .eqA true [1, 1, 1] (.s 1) (.s 0)⟩, PO 105 (.pick (.s 3) (.c (.bool true)) (.s 0)), PO 106 (.mov (.s 0)), ⟨.push, 107, (some ((.s 0), false)), .mov (.v 9)⟩, ⟨.push, 108, (some ((.s 1), false)), .mov (.v 11)⟩, ⟨.push, 109, (some ((.s 2), false)), .bin false .neq (.s 1) (.s 0)⟩, PO 110 (.pick (.s 3) (.c (.bool true)) (.s 0)), PO 111 (.mov (.s 0)), ⟨.push, 112, (some ((.s 0), false)), .mov (.v 8)⟩, ⟨.push, 113, (some ((.s 1), false)), .mov (.v 10)⟩, ⟨.push, 114, (some ((.s 2),
 false)), .call 15 [(.s 1), (.s 0)]⟩, ⟨.push, 115, (some ((.s 3), false)), .un .not (.s 0)⟩, PO 116 (.pick (.s 4) (.c (.bool true)) (.s 0)), PO 117 (.mov (.s 0)), ⟨.push, 118, (some ((.s 0), false)), .mov (.v 13)⟩, ⟨.push, 119, (some ((.s 1), false)), .mov (.v 15)⟩, ⟨.push, 120, (some ((.s 2), false)), .bin false .neq (.s 1) (.s 0)⟩, PO 121 (.pick (.s 3) (.c (.bool true)) (.s 0)), PO 122 (.mov (.s 0)), ⟨.push, 123, (some ((.s 0), false)), .load true 3 (.v 12)⟩, ⟨.push, 124, (some ((.s 1), false)), .load true 3 (.v 14)⟩, ⟨.push, 125, (some ((.s 2), false)), .eqA true [1, 1, 1] (.s 1) (.s 0)⟩, PO
 126 (.pick (.s 3) (.c (.bool true)) (.s 0)), PO 127 (.mov (.s 0)), ⟨.push, 128, (some ((.s 0), false)), .mov (.v 20)⟩, ⟨.push, 129, (some ((.s 1), false)), .mov (.v 22)⟩, ⟨.push, 130, (some ((.s 2), false)), .bin false .neq (.s 1) (.s 0)⟩, PO 131 (.pick (.s 3) (.c (.bool true)) (.s 0)), PO 132 (.mov (.s 0)), ⟨.push, 133, (some ((.s 0), false)), .mov (.v 19)⟩, ⟨.push, 134, (some ((.s 1), false)), .mov (.v 21)⟩, ⟨.push, 135, (some ((.s 2), false)), .bin true .neq (.s 1) (.s 0)⟩, PO 136 (.pick (.s 3) (.c (.bool true)) (.s 0))] (.s 0) (.seq (.region false [ VO 1 2 (.mov (.c (.bool false)))])
 (.ret)) (.skip)) (.seq (.test false [ PM 137 13, PO 138 (.bin false .eql (.s 0) (I6 0))] (.s 0) (.seq (.region false [ PM 140 2, PO 141 (.load true 3 (.v 12)), PO 142 (.call 16 [(.s 1), (.s 0)]), PO 139 (.mov (.s 0)), PO 143 (.ext (.s 0) 0), PO 144 (.ext (.s 1) 1), VS 23 24 1, VS 24 25 0]) (.test false [ PM 145 24, PO 146 (.bin false .neq (.s 0) (I6 0)), PO 147 (.mov (.s 0)), ⟨.push, 148, (some ((.s 0), false)), .mov (.v 23)⟩, ⟨.push, 149, (some ((.s 1), false)), .len false (.s 0)⟩, ⟨.push, 150, (some ((.s 2), false)), .bin false .neq (.s 0) (I6 0)⟩, PO 151 (.pick (.s 3) (.c (.bool true)) (.s
 0))] (.s 0) (.seq (.region false [ VO 1 2 (.mov (.c (.bool false)))]) (.ret)) (.skip))) (.skip)) (.seq (.region false [ PM 153 0, PO 154 (.call 17 [(.s 0)]), PO 152 (.mov (.s 0)), PO 155 (.ext (.s 0) 0), PO 156 (.ext (.s 1) 1), VO 26 27 (.alloc (.agg [.int .i64 (0), .int .i64 (0), .int .i64 (0)])), VS 25 26 1, ⟨.no, 0, none, .store 3 (.v 26) (.s 0)⟩]) (.seq (.region false [ PM 158 25, PO 159 (.load true 3 (.v 26)), PO 160 (.call 18 [(.s 1), (.s 0)]), PO 157 (.mov (.s 0)), PO 161 (.ext (.s 0) 0), PO 162 (.ext (.s 1) 1), VS 27 28 1, VS 28 29 0]) (.seq (.test false [ PM 163 28, PO 164 (.bin false
 .eql (.s 0) (I6 0)), PO 165 (.mov (.s 0)), ⟨.push, 166, (some ((.s 0), true)), .mov (.v 27)⟩, ⟨.push, 167, (some ((.s 1), true)), .len false (.s 0)⟩, ⟨.push, 168, (some ((.s 2), true)), .bin false .gtr (.s 0) (I6 0)⟩, PO 169 (.pick (.s 3) (.s 0) (.c (.bool false)))] (.s 0) (.seq (.region false [ PM 171 25, PO 172 (.call 8 [(.s 0)]), PO 170 (.mov (.s 0)), PO 173 (.ext (.s 0) 0), PO 174 (.ext (.s 1) 1), VS 29 30 1, VS 30 31 0]) (.seq (.test false [ PM 175 30, PO 176 (.bin false .neq (.s 0) (I6 0))] (.s 0) (.seq (.region false [ VO 1 2 (.mov (.c (.bool false)))]) (.ret)) (.skip)) (.seq (.seq
 (.region false [ VO 31 32 (.mov (I6 0))]) (.block 0 (.loop ir3_k0 ir3_o0 ir3_r0 ir3_b0))) (.seq (.region false [ VO 32 33 (.mov (I6 1))]) (.block 2 (.loop ir3_k1 ir3_o1 ir3_r1 ir3_b1)))))) (.skip)) (.seq (.test false [ PM 215 5, PO 216 (.bin false .eql (.s 0) (I6 0))] (.s 0) (.seq (.region false [ PM 218 2, PO 219 (.load true 3 (.v 4)), PO 220 (.call 16 [(.s 1), (.s 0)]), PO 217 (.mov (.s 0)), PO 221 (.ext (.s 0) 0), PO 222 (.ext (.s 1) 1), VS 35 36 1, VS 36 37 0]) (.seq (.region false [ PM 223 36, PO 224 (.bin false .eql (.s 0) (I6 0)), PO 225 (.mov (.s 0)), ⟨.push, 226, (some ((.s 0),
 true)), .mov (.v 35)⟩, ⟨.push, 227, (some ((.s 1), true)), .len false (.s 0)⟩, ⟨.push, 228, (some ((.s 2), true)), .bin false .gtr (.s 0) (I6 0)⟩, PO 229 (.pick (.s 3) (.s 0) (.c (.bool false))), PO 230 (.mov (.s 0)), ⟨.push, 231, (some ((.s 0), true)), .mov (.v 35)⟩, ⟨.push, 232, (some ((.s 1), true)), .ixAddr 1 (.s 0) (I6 0)⟩, ⟨.push, 233, (some ((.s 2), true)), .load false 1 (.s 0)⟩, ⟨.push, 234, (some ((.s 3), true)), .mov (.v 3)⟩, ⟨.push, 235, (some ((.s 4), true)), .bin false .eql (.s 1) (.s 0)⟩, PO 236 (.pick (.s 5) (.s 0) (.c (.bool false))), VS 1 2 0]) (.ret))) (.skip)) (.seq (.test
 false [ PM 237 5, PO 238 (.bin false .neq (.s 0) (I6 3))] (.s 0) (.seq (.region false [ VO 1 2 (.mov (.c (.bool true)))]) (.ret)) (.skip)) (.seq (.seq (.region false [ VO 37 38 (.mov (I6 0))]) (.block 4 (.loop ir3_k2 ir3_o2 ir3_r2 ir3_b2))) (.seq (.region false [ VO 1 2 (.mov (.c (.bool false)))]) (.ret))))))))))))))))))))), [.t 1]⟩
noncomputable def t_laws_FnReached : List (Nat × Ctr) := [(4, c_9), (5, c_19), (6, c_34), (7, c_47), (8, c_50), (9, c_51), (10, c_52), (11, c_53), (12, c_54), (13, c_8), (14, c_55), (15, c_56), (16, c_60), (17, c_63), (18, c_65)]
theorem lk_laws_FnReached_4 : look t_laws_FnReached 4 = some c_9 := rfl
theorem lk_laws_FnReached_5 : look t_laws_FnReached 5 = some c_19 := rfl
theorem lk_laws_FnReached_6 : look t_laws_FnReached 6 = some c_34 := rfl
theorem lk_laws_FnReached_7 : look t_laws_FnReached 7 = some c_47 := rfl
theorem lk_laws_FnReached_8 : look t_laws_FnReached 8 = some c_50 := rfl
theorem lk_laws_FnReached_9 : look t_laws_FnReached 9 = some c_51 := rfl
theorem lk_laws_FnReached_10 : look t_laws_FnReached 10 = some c_52 := rfl
theorem lk_laws_FnReached_11 : look t_laws_FnReached 11 = some c_53 := rfl
theorem lk_laws_FnReached_12 : look t_laws_FnReached 12 = some c_54 := rfl
theorem lk_laws_FnReached_13 : look t_laws_FnReached 13 = some c_8 := rfl
theorem lk_laws_FnReached_14 : look t_laws_FnReached 14 = some c_55 := rfl
theorem lk_laws_FnReached_15 : look t_laws_FnReached 15 = some c_56 := rfl
theorem lk_laws_FnReached_16 : look t_laws_FnReached 16 = some c_60 := rfl
theorem lk_laws_FnReached_17 : look t_laws_FnReached 17 = some c_63 := rfl
theorem lk_laws_FnReached_18 : look t_laws_FnReached 18 = some c_65 := rfl
noncomputable def c_laws_FnReached : Ctr := mkF t_laws_FnReached ir3 [.bor]
theorem s_laws_FnReached : Sound Try.prog 3 c_laws_FnReached := mkF_sound _ rfl (snd_cons s_9 (snd_cons s_19 (snd_cons s_34 (snd_cons s_47 (snd_cons s_50 (snd_cons s_51 (snd_cons s_52 (snd_cons s_53 (snd_cons s_54 (snd_cons s_8 (snd_cons s_55 (snd_cons s_56 (snd_cons s_60 (snd_cons s_63 (snd_cons s_65 snd_nil))))))))))))))) (by kernel_rfl : chkFn Try.prog 3 ir3 ir3_v = true)
theorem M_laws_FnReached : c_laws_FnReached.modes = [.bor] := rfl
theorem Fl_laws_FnReached : c_laws_FnReached.flat = true := rfl
attribute [go_sem] M_laws_FnReached Fl_laws_FnReached
attribute [go_sem] lk_laws_FnReached_4 lk_laws_FnReached_5 lk_laws_FnReached_6 lk_laws_FnReached_7 lk_laws_FnReached_8 lk_laws_FnReached_9 lk_laws_FnReached_10 lk_laws_FnReached_11 lk_laws_FnReached_12 lk_laws_FnReached_13 lk_laws_FnReached_14 lk_laws_FnReached_15 lk_laws_FnReached_16 lk_laws_FnReached_17 lk_laws_FnReached_18
def E_laws_FnReached_l1 (list : List Rule) (k : Int) (f : Facts) (bad : Int) (lost : List Int) (rules : List Rule) (hits : List Int) (gone : List Int) : Int → St
 | i => ⟨[.any, .any, .sl 6 (List.map Rule_av list), .int .i64 k, .ref 3200000 0 0, .int .i64 bad, .any, .any, .any, .any, .own 3200032, .any, .any, .any, .any, .any, .any, .any, .any, .any, .any, .any, .any, .any, .any, .own 3200064, .any, .own 3200096, .any, .own 3200128, .any, .int .i64 i, .any, .any, .any, .any, .any, .any], [], [(3200000, ⟨3, [Facts_av f]⟩), (3200032, ⟨1, List.map (AV.int .i64) lost⟩), (3200064, ⟨6, List.map Rule_av rules⟩), (3200096, ⟨1, List.map (AV.int .i64) hits⟩), (3200128, ⟨1, List.map (AV.int .i64) gone⟩)], true⟩
def R_laws_FnReached_l1 (list : List Rule) (k : Int) (f : Facts) (bad : Int) (lost : List Int) (rules : List Rule) (hits : List Int) (gone : List Int) : (Unit ⊕ Bool) → Res
 | .inl y => (.exit 0, ⟨[.any, .any, .sl 6 (List.map Rule_av list), .int .i64 k, .ref 3200000 0 0, .int .i64 bad, .any, .any, .any, .any, .own 3200032, .any, .any, .any, .any, .any, .any, .any, .any, .any, .any, .any, .any, .any, .any, .own 3200064, .any, .own 3200096, .any, .any, .any, .any, .any, .any, .any, .any, .any, .any], [], [(3200000, ⟨3, [Facts_av f]⟩), (3200032, ⟨1, List.map (AV.int .i64) lost⟩), (3200064, ⟨6, List.map Rule_av rules⟩), (3200096, ⟨1, List.map (AV.int .i64) hits⟩)], true⟩)
 | .inr y => (.ret, ⟨[.any, .bool y, .any, .any, .any, .any, .any, .any, .any, .any, .any, .any, .any, .any, .any, .any, .any, .any, .any, .any, .any, .any, .any, .any, .any, .any, .any, .any, .any, .any, .any, .any, .any, .any, .any, .any, .any, .any], [], [], true⟩)
theorem laws_FnReached_l1_ex {list : List Rule} {k : Int} {f : Facts} {bad : Int} {lost : List Int} {rules : List Rule} {hits : List Int} {gone : List Int} {sgm_ : Int} {rho_ : Unit ⊕ Bool} (h : whileE (laws_FnReached_l1 list k f bad lost rules hits gone) sgm_ = some rho_) : ∃ L0, ∀ L, L0 ≤ L → iter (exec (look t_laws_FnReached) L ir3_b0) ir3_k0 ir3_o0 ir3_r0 L (E_laws_FnReached_l1 list k f bad lost rules hits gone sgm_) = R_laws_FnReached_l1 list k f bad lost rules hits gone rho_ := by
 refine loop_ex (E := E_laws_FnReached_l1 list k f bad lost rules hits gone) (R := R_laws_FnReached_l1 list k f bad lost rules hits gone) (fun y => by first | (intro c; cases c) | (rcases y with y | y <;> (intro c; cases c)) | (rcases y with y | y | y <;> (intro c; cases c))) ?_ h
 clear h
 intro i o_ h
 dsimp only [laws_FnReached_l1] at h
 rcases it_some h with ⟨z23, h⟩ | ⟨z23, h⟩
 ·try simp only [go_sem, n1, n2, n3, n4] at z23
  all_goals
  obtain ⟨z24, h⟩ := ck_some h
  have lz24 := ix_lt z24
  have xz24 := getD_mapD (AV.int .i64) gone lz24
  try simp only [go_sem] at lz24
  try simp only [go_sem] at xz24
  try simp only [go_sem, n1, n2, n3, n4, z23] at z24
  all_goals
  obtain ⟨z25, h⟩ := ck_some h
  have lz25 := ix_lt z25
  have xz25 := getD_mapD (AV.int .i64) hits lz25
  try simp only [go_sem] at lz25
  try simp only [go_sem] at xz25
  try simp only [go_sem, n1, n2, n3, n4, z23, z24] at z25
  all_goals
  rcases it_some h with ⟨z26, h⟩ | ⟨z26, h⟩
  ·try simp only [go_sem, n1, n2, n3, n4, z23, z24, z25] at z26
   all_goals
   obtain rfl := so_some h
   refine ⟨0, fun L hL => ?_⟩
   simp only [go_sem, ir3, E_laws_FnReached_l1, R_laws_FnReached_l1, ir3_b0, ir3_k0, ir3_o0, ir3_r0, z23, z24, lz24, xz24, z25, lz25, xz25, z26]
  ·try simp only [go_sem, n1, n2, n3, n4, z23, z24, z25] at z26
   all_goals
   obtain rfl := so_some h
   refine ⟨0, fun L hL => ?_⟩
   simp only [go_sem, ir3, E_laws_FnReached_l1, R_laws_FnReached_l1, ir3_b0, ir3_k0, ir3_o0, ir3_r0, z23, z24, lz24, xz24, z25, lz25, xz25, z26]
 ·try simp only [go_sem, n1, n2, n3, n4] at z23
  all_goals
  obtain rfl := so_some h
  refine ⟨0, fun L hL => ?_⟩
  simp only [go_sem, ir3, E_laws_FnReached_l1, R_laws_FnReached_l1, ir3_b0, ir3_k0, ir3_o0, ir3_r0, z23]

def E_laws_FnReached_l2 (list : List Rule) (k : Int) (f : Facts) (bad : Int) (lost : List Int) (rules : List Rule) (hits : List Int) : Int → St
 | i => ⟨[.any, .any, .sl 6 (List.map Rule_av list), .int .i64 k, .ref 3200000 0 0, .int .i64 bad, .any, .any, .any, .any, .own 3200032, .any, .any, .any, .any, .any, .any, .any, .any, .any, .any, .any, .any, .any, .any, .own 3200064, .any, .own 3200096, .any, .any, .any, .any, .int .i64 i, .any, .any, .any, .any, .any], [], [(3200000, ⟨3, [Facts_av f]⟩), (3200032, ⟨1, List.map (AV.int .i64) lost⟩), (3200064, ⟨6, List.map Rule_av rules⟩), (3200096, ⟨1, List.map (AV.int .i64) hits⟩)], true⟩
def R_laws_FnReached_l2 (list : List Rule) (k : Int) (f : Facts) (bad : Int) (lost : List Int) (rules : List Rule) (hits : List Int) : (Unit ⊕ Bool) → Res
 | .inl y => (.exit 2, ⟨[.any, .any, .sl 6 (List.map Rule_av list), .int .i64 k, .ref 3200000 0 0, .int .i64 bad, .any, .any, .any, .any, .own 3200032, .any, .any, .any, .any, .any, .any, .any, .any, .any, .any, .any, .any, .any, .any, .any, .any, .any, .any, .any, .any, .any, .any, .any, .any, .any, .any, .any], [], [(3200000, ⟨3, [Facts_av f]⟩), (3200032, ⟨1, List.map (AV.int .i64) lost⟩)], true⟩)
 | .inr y => (.ret, ⟨[.any, .bool y, .any, .any, .any, .any, .any, .any, .any, .any, .any, .any, .any, .any, .any, .any, .any, .any, .any, .any, .any, .any, .any, .any, .any, .any, .any, .any, .any, .any, .any, .any, .any, .any, .any, .any, .any, .any], [], [], true⟩)
theorem laws_FnReached_l2_ex {list : List Rule} {k : Int} {f : Facts} {bad : Int} {lost : List Int} {rules : List Rule} {hits : List Int} {sgm_ : Int} {rho_ : Unit ⊕ Bool} (h : whileE (laws_FnReached_l2 list k f bad lost rules hits) sgm_ = some rho_) : ∃ L0, ∀ L, L0 ≤ L → iter (exec (look t_laws_FnReached) L ir3_b1) ir3_k1 ir3_o1 ir3_r1 L (E_laws_FnReached_l2 list k f bad lost rules hits sgm_) = R_laws_FnReached_l2 list k f bad lost rules hits rho_ := by
 refine loop_ex (E := E_laws_FnReached_l2 list k f bad lost rules hits) (R := R_laws_FnReached_l2 list k f bad lost rules hits) (fun y => by first | (intro c; cases c) | (rcases y with y | y <;> (intro c; cases c)) | (rcases y with y | y | y <;> (intro c; cases c))) ?_ h
 clear h
 intro i o_ h
 dsimp only [laws_FnReached_l2] at h
 rcases it_some h with ⟨z28, h⟩ | ⟨z28, h⟩
 ·try simp only [go_sem, n1, n2, n3, n4] at z28
  all_goals
  obtain ⟨z29, h⟩ := ck_some h
  have lz29 := ix_lt z29
  have xz29 := getD_mapD (AV.int .i64) hits lz29
  try simp only [go_sem] at lz29
  try simp only [go_sem] at xz29
  try simp only [go_sem, n1, n2, n3, n4, z28] at z29
  all_goals
  obtain ⟨z30, h⟩ := ck_some h
  have lz30 := ix_lt z30
  have xz30 := getD_mapD (AV.int .i64) hits lz30
  try simp only [go_sem] at lz30
  try simp only [go_sem] at xz30
  try simp only [go_sem, n1, n2, n3, n4, z28, z29] at z30
  all_goals
  obtain ⟨y_31, z31, h⟩ := bd_some h
  have fz31 := Fs_8 z31
  try simp only [go_sem, z28, z29, z30] at fz31
  rcases it_some h with ⟨z32, h⟩ | ⟨z32, h⟩
  ·try simp only [go_sem, n1, n2, n3, n4, z28, z29, z30] at z32
   all_goals
   obtain rfl := so_some h
   refine ⟨0, fun L hL => ?_⟩
   simp only [go_sem, ir3, E_laws_FnReached_l2, R_laws_FnReached_l2, ir3_b1, ir3_k1, ir3_o1, ir3_r1, E_laws_FnReached_l1, R_laws_FnReached_l1, ir3_k0, ir3_o0, ir3_r0, z28, z29, lz29, xz29, z30, lz30, xz30, fz31, z32]
  ·try simp only [go_sem, n1, n2, n3, n4, z28, z29, z30] at z32
   all_goals
   obtain rfl := so_some h
   refine ⟨0, fun L hL => ?_⟩
   simp only [go_sem, ir3, E_laws_FnReached_l2, R_laws_FnReached_l2, ir3_b1, ir3_k1, ir3_o1, ir3_r1, E_laws_FnReached_l1, R_laws_FnReached_l1, ir3_k0, ir3_o0, ir3_r0, z28, z29, lz29, xz29, z30, lz30, xz30, fz31, z32]
 ·try simp only [go_sem, n1, n2, n3, n4] at z28
  all_goals
  obtain rfl := so_some h
  refine ⟨0, fun L hL => ?_⟩
  simp only [go_sem, ir3, E_laws_FnReached_l2, R_laws_FnReached_l2, ir3_b1, ir3_k1, ir3_o1, ir3_r1, E_laws_FnReached_l1, R_laws_FnReached_l1, ir3_k0, ir3_o0, ir3_r0, z28]

def E_laws_FnReached_l3 (k : Int) (lost : List Int) : Int → St
 | i => ⟨[.any, .any, .any, .int .i64 k, .any, .any, .any, .any, .any, .any, .own 3200000, .any, .any, .any, .any, .any, .any, .any, .any, .any, .any, .any, .any, .any, .any, .any, .any, .any, .any, .any, .any, .any, .any, .any, .any, .any, .any, .int .i64 i], [], [(3200000, ⟨1, List.map (AV.int .i64) lost⟩)], true⟩
def R_laws_FnReached_l3 (k : Int) (lost : List Int) : (Unit ⊕ Bool) → Res
 | .inl y => (.exit 4, ⟨[.any, .any, .any, .any, .any, .any, .any, .any, .any, .any, .any, .any, .any, .any, .any, .any, .any, .any, .any, .any, .any, .any, .any, .any, .any, .any, .any, .any, .any, .any, .any, .any, .any, .any, .any, .any, .any, .any], [], [], true⟩)
 | .inr y => (.ret, ⟨[.any, .bool y, .any, .any, .any, .any, .any, .any, .any, .any, .any, .any, .any, .any, .any, .any, .any, .any, .any, .any, .any, .any, .any, .any, .any, .any, .any, .any, .any, .any, .any, .any, .any, .any, .any, .any, .any, .any], [], [], true⟩)
theorem laws_FnReached_l3_ex {k : Int} {lost : List Int} {sgm_ : Int} {rho_ : Unit ⊕ Bool} (h : whileE (laws_FnReached_l3 k lost) sgm_ = some rho_) : ∃ L0, ∀ L, L0 ≤ L → iter (exec (look t_laws_FnReached) L ir3_b2) ir3_k2 ir3_o2 ir3_r2 L (E_laws_FnReached_l3 k lost sgm_) = R_laws_FnReached_l3 k lost rho_ := by
 refine loop_ex (E := E_laws_FnReached_l3 k lost) (R := R_laws_FnReached_l3 k lost) (fun y => by first | (intro c; cases c) | (rcases y with y | y <;> (intro c; cases c)) | (rcases y with y | y | y <;> (intro c; cases c))) ?_ h
 clear h
 intro i o_ h
 dsimp only [laws_FnReached_l3] at h
 rcases it_some h with ⟨z38, h⟩ | ⟨z38, h⟩
 ·try simp only [go_sem, n1, n2, n3, n4] at z38
  all_goals
  obtain ⟨z39, h⟩ := ck_some h
  have lz39 := ix_lt z39
  have xz39 := getD_mapD (AV.int .i64) lost lz39
  try simp only [go_sem] at lz39
  try simp only [go_sem] at xz39
  try simp only [go_sem, n1, n2, n3, n4, z38] at z39
  all_goals
  rcases it_some h with ⟨z40, h⟩ | ⟨z40, h⟩
  ·try simp only [go_sem, n1, n2, n3, n4, z38, z39] at z40
   all_goals
   obtain rfl := so_some h
   refine ⟨0, fun L hL => ?_⟩
   simp only [go_sem, ir3, E_laws_FnReached_l3, R_laws_FnReached_l3, ir3_b2, ir3_k2, ir3_o2, ir3_r2, E_laws_FnReached_l1, R_laws_FnReached_l1, ir3_k0, ir3_o0, ir3_r0, E_laws_FnReached_l2, R_laws_FnReached_l2, ir3_k1, ir3_o1, ir3_r1, z38, z39, lz39, xz39, z40]
  ·try simp only [go_sem, n1, n2, n3, n4, z38, z39] at z40
   all_goals
   obtain rfl := so_some h
   refine ⟨0, fun L hL => ?_⟩
   simp only [go_sem, ir3, E_laws_FnReached_l3, R_laws_FnReached_l3, ir3_b2, ir3_k2, ir3_o2, ir3_r2, E_laws_FnReached_l1, R_laws_FnReached_l1, ir3_k0, ir3_o0, ir3_r0, E_laws_FnReached_l2, R_laws_FnReached_l2, ir3_k1, ir3_o1, ir3_r1, z38, z39, lz39, xz39, z40]
 ·try simp only [go_sem, n1, n2, n3, n4] at z38
  all_goals
  obtain rfl := so_some h
  refine ⟨0, fun L hL => ?_⟩
  simp only [go_sem, ir3, E_laws_FnReached_l3, R_laws_FnReached_l3, ir3_b2, ir3_k2, ir3_o2, ir3_r2, E_laws_FnReached_l1, R_laws_FnReached_l1, ir3_k0, ir3_o0, ir3_r0, E_laws_FnReached_l2, R_laws_FnReached_l2, ir3_k1, ir3_o1, ir3_r1, z38]

def E_laws_FnReached_l4 (k : Int) (lost : List Int) : Int → St
 | i => ⟨[.any, .any, .any, .int .i64 k, .any, .any, .any, .any, .any, .any, .own 3200000, .any, .any, .any, .any, .any, .any, .any, .any, .any, .any, .any, .any, .any, .any, .any, .any, .any, .any, .any, .any, .any, .any, .any, .any, .any, .any, .int .i64 i], [], [(3200000, ⟨1, List.map (AV.int .i64) lost⟩)], true⟩
def R_laws_FnReached_l4 (k : Int) (lost : List Int) : (Unit ⊕ Bool) → Res
 | .inl y => (.exit 4, ⟨[.any, .any, .any, .any, .any, .any, .any, .any, .any, .any, .any, .any, .any, .any, .any, .any, .any, .any, .any, .any, .any, .any, .any, .any, .any, .any, .any, .any, .any, .any, .any, .any, .any, .any, .any, .any, .any, .any], [], [], true⟩)
 | .inr y => (.ret, ⟨[.any, .bool y, .any, .any, .any, .any, .any, .any, .any, .any, .any, .any, .any, .any, .any, .any, .any, .any, .any, .any, .any, .any, .any, .any, .any, .any, .any, .any, .any, .any, .any, .any, .any, .any, .any, .any, .any, .any], [], [], true⟩)
theorem laws_FnReached_l4_ex {k : Int} {lost : List Int} {sgm_ : Int} {rho_ : Unit ⊕ Bool} (h : whileE (laws_FnReached_l4 k lost) sgm_ = some rho_) : ∃ L0, ∀ L, L0 ≤ L → iter (exec (look t_laws_FnReached) L ir3_b2) ir3_k2 ir3_o2 ir3_r2 L (E_laws_FnReached_l4 k lost sgm_) = R_laws_FnReached_l4 k lost rho_ := by
 refine loop_ex (E := E_laws_FnReached_l4 k lost) (R := R_laws_FnReached_l4 k lost) (fun y => by first | (intro c; cases c) | (rcases y with y | y <;> (intro c; cases c)) | (rcases y with y | y | y <;> (intro c; cases c))) ?_ h
 clear h
 intro i o_ h
 dsimp only [laws_FnReached_l4] at h
 rcases it_some h with ⟨z46, h⟩ | ⟨z46, h⟩
 ·try simp only [go_sem, n1, n2, n3, n4] at z46
  all_goals
  obtain ⟨z47, h⟩ := ck_some h
  have lz47 := ix_lt z47
  have xz47 := getD_mapD (AV.int .i64) lost lz47
  try simp only [go_sem] at lz47
  try simp only [go_sem] at xz47
  try simp only [go_sem, n1, n2, n3, n4, z46] at z47
  all_goals
  rcases it_some h with ⟨z48, h⟩ | ⟨z48, h⟩
  ·try simp only [go_sem, n1, n2, n3, n4, z46, z47] at z48
   all_goals
   obtain rfl := so_some h
   refine ⟨0, fun L hL => ?_⟩
   simp only [go_sem, ir3, E_laws_FnReached_l4, R_laws_FnReached_l4, ir3_b2, ir3_k2, ir3_o2, ir3_r2, E_laws_FnReached_l1, R_laws_FnReached_l1, ir3_k0, ir3_o0, ir3_r0, E_laws_FnReached_l2, R_laws_FnReached_l2, ir3_k1, ir3_o1, ir3_r1, E_laws_FnReached_l3, R_laws_FnReached_l3, ir3_k2, ir3_o2, ir3_r2, z46, z47, lz47, xz47, z48]
  ·try simp only [go_sem, n1, n2, n3, n4, z46, z47] at z48
   all_goals
   obtain rfl := so_some h
   refine ⟨0, fun L hL => ?_⟩
   simp only [go_sem, ir3, E_laws_FnReached_l4, R_laws_FnReached_l4, ir3_b2, ir3_k2, ir3_o2, ir3_r2, E_laws_FnReached_l1, R_laws_FnReached_l1, ir3_k0, ir3_o0, ir3_r0, E_laws_FnReached_l2, R_laws_FnReached_l2, ir3_k1, ir3_o1, ir3_r1, E_laws_FnReached_l3, R_laws_FnReached_l3, ir3_k2, ir3_o2, ir3_r2, z46, z47, lz47, xz47, z48]
 ·try simp only [go_sem, n1, n2, n3, n4] at z46
  all_goals
  obtain rfl := so_some h
  refine ⟨0, fun L hL => ?_⟩
  simp only [go_sem, ir3, E_laws_FnReached_l4, R_laws_FnReached_l4, ir3_b2, ir3_k2, ir3_o2, ir3_r2, E_laws_FnReached_l1, R_laws_FnReached_l1, ir3_k0, ir3_o0, ir3_r0, E_laws_FnReached_l2, R_laws_FnReached_l2, ir3_k1, ir3_o1, ir3_r1, E_laws_FnReached_l3, R_laws_FnReached_l3, ir3_k2, ir3_o2, ir3_r2, z46]

def E_laws_FnReached_l5 (list : List Rule) (k : Int) (f : Facts) (bad : Int) (lost : List Int) (rules : List Rule) (hits : List Int) (gone : List Int) : Int → St
 | i => ⟨[.any, .any, .sl 6 (List.map Rule_av list), .int .i64 k, .ref 3200000 0 0, .int .i64 bad, .any, .any, .any, .any, .own 3200032, .any, .any, .any, .any, .any, .any, .any, .any, .any, .any, .any, .any, .any, .any, .own 3200064, .any, .own 3200096, .any, .own 3200128, .any, .int .i64 i, .any, .any, .any, .any, .any, .any], [], [(3200000, ⟨3, [Facts_av f]⟩), (3200032, ⟨1, List.map (AV.int .i64) lost⟩), (3200064, ⟨6, List.map Rule_av rules⟩), (3200096, ⟨1, List.map (AV.int .i64) hits⟩), (3200128, ⟨1, List.map (AV.int .i64) gone⟩)], true⟩
def R_laws_FnReached_l5 (list : List Rule) (k : Int) (f : Facts) (bad : Int) (lost : List Int) (rules : List Rule) (hits : List Int) (gone : List Int) : (Unit ⊕ Bool) → Res
 | .inl y => (.exit 0, ⟨[.any, .any, .sl 6 (List.map Rule_av list), .int .i64 k, .ref 3200000 0 0, .int .i64 bad, .any, .any, .any, .any, .own 3200032, .any, .any, .any, .any, .any, .any, .any, .any, .any, .any, .any, .any, .any, .any, .own 3200064, .any, .own 3200096, .any, .any, .any, .any, .any, .any, .any, .any, .any, .any], [], [(3200000, ⟨3, [Facts_av f]⟩), (3200032, ⟨1, List.map (AV.int .i64) lost⟩), (3200064, ⟨6, List.map Rule_av rules⟩), (3200096, ⟨1, List.map (AV.int .i64) hits⟩)], true⟩)
 | .inr y => (.ret, ⟨[.any, .bool y, .any, .any, .any, .any, .any, .any, .any, .any, .any, .any, .any, .any, .any, .any, .any, .any, .any, .any, .any, .any, .any, .any, .any, .any, .any, .any, .any, .any, .any, .any, .any, .any, .any, .any, .any, .any], [], [], true⟩)
theorem laws_FnReached_l5_ex {list : List Rule} {k : Int} {f : Facts} {bad : Int} {lost : List Int} {rules : List Rule} {hits : List Int} {gone : List Int} {sgm_ : Int} {rho_ : Unit ⊕ Bool} (h : whileE (laws_FnReached_l5 list k f bad lost rules hits gone) sgm_ = some rho_) : ∃ L0, ∀ L, L0 ≤ L → iter (exec (look t_laws_FnReached) L ir3_b0) ir3_k0 ir3_o0 ir3_r0 L (E_laws_FnReached_l5 list k f bad lost rules hits gone sgm_) = R_laws_FnReached_l5 list k f bad lost rules hits gone rho_ := by
 refine loop_ex (E := E_laws_FnReached_l5 list k f bad lost rules hits gone) (R := R_laws_FnReached_l5 list k f bad lost rules hits gone) (fun y => by first | (intro c; cases c) | (rcases y with y | y <;> (intro c; cases c)) | (rcases y with y | y | y <;> (intro c; cases c))) ?_ h
 clear h
 intro i o_ h
 dsimp only [laws_FnReached_l5] at h
 rcases it_some h with ⟨z55, h⟩ | ⟨z55, h⟩
 ·try simp only [go_sem, n1, n2, n3, n4] at z55
  all_goals
  obtain ⟨z56, h⟩ := ck_some h
  have lz56 := ix_lt z56
  have xz56 := getD_mapD (AV.int .i64) gone lz56
  try simp only [go_sem] at lz56
  try simp only [go_sem] at xz56
  try simp only [go_sem, n1, n2, n3, n4, z55] at z56
  all_goals
  obtain ⟨z57, h⟩ := ck_some h
  have lz57 := ix_lt z57
  have xz57 := getD_mapD (AV.int .i64) hits lz57
  try simp only [go_sem] at lz57
  try simp only [go_sem] at xz57
  try simp only [go_sem, n1, n2, n3, n4, z55, z56] at z57
  all_goals
  rcases it_some h with ⟨z58, h⟩ | ⟨z58, h⟩
  ·try simp only [go_sem, n1, n2, n3, n4, z55, z56, z57] at z58
   all_goals
   obtain rfl := so_some h
   refine ⟨0, fun L hL => ?_⟩
   simp only [go_sem, ir3, E_laws_FnReached_l5, R_laws_FnReached_l5, ir3_b0, ir3_k0, ir3_o0, ir3_r0, E_laws_FnReached_l1, R_laws_FnReached_l1, ir3_k0, ir3_o0, ir3_r0, E_laws_FnReached_l2, R_laws_FnReached_l2, ir3_k1, ir3_o1, ir3_r1, E_laws_FnReached_l3, R_laws_FnReached_l3, ir3_k2, ir3_o2, ir3_r2, E_laws_FnReached_l4, R_laws_FnReached_l4, ir3_k2, ir3_o2, ir3_r2, z55, z56, lz56, xz56, z57, lz57, xz57, z58]
  ·try simp only [go_sem, n1, n2, n3, n4, z55, z56, z57] at z58
   all_goals
   obtain rfl := so_some h
   refine ⟨0, fun L hL => ?_⟩
   simp only [go_sem, ir3, E_laws_FnReached_l5, R_laws_FnReached_l5, ir3_b0, ir3_k0, ir3_o0, ir3_r0, E_laws_FnReached_l1, R_laws_FnReached_l1, ir3_k0, ir3_o0, ir3_r0, E_laws_FnReached_l2, R_laws_FnReached_l2, ir3_k1, ir3_o1, ir3_r1, E_laws_FnReached_l3, R_laws_FnReached_l3, ir3_k2, ir3_o2, ir3_r2, E_laws_FnReached_l4, R_laws_FnReached_l4, ir3_k2, ir3_o2, ir3_r2, z55, z56, lz56, xz56, z57, lz57, xz57, z58]
 ·try simp only [go_sem, n1, n2, n3, n4] at z55
  all_goals
  obtain rfl := so_some h
  refine ⟨0, fun L hL => ?_⟩
  simp only [go_sem, ir3, E_laws_FnReached_l5, R_laws_FnReached_l5, ir3_b0, ir3_k0, ir3_o0, ir3_r0, E_laws_FnReached_l1, R_laws_FnReached_l1, ir3_k0, ir3_o0, ir3_r0, E_laws_FnReached_l2, R_laws_FnReached_l2, ir3_k1, ir3_o1, ir3_r1, E_laws_FnReached_l3, R_laws_FnReached_l3, ir3_k2, ir3_o2, ir3_r2, E_laws_FnReached_l4, R_laws_FnReached_l4, ir3_k2, ir3_o2, ir3_r2, z55]

def E_laws_FnReached_l6 (list : List Rule) (k : Int) (f : Facts) (bad : Int) (lost : List Int) (rules : List Rule) (hits : List Int) : Int → St
 | i => ⟨[.any, .any, .sl 6 (List.map Rule_av list), .int .i64 k, .ref 3200000 0 0, .int .i64 bad, .any, .any, .any, .any, .own 3200032, .any, .any, .any, .any, .any, .any, .any, .any, .any, .any, .any, .any, .any, .any, .own 3200064, .any, .own 3200096, .any, .any, .any, .any, .int .i64 i, .any, .any, .any, .any, .any], [], [(3200000, ⟨3, [Facts_av f]⟩), (3200032, ⟨1, List.map (AV.int .i64) lost⟩), (3200064, ⟨6, List.map Rule_av rules⟩), (3200096, ⟨1, List.map (AV.int .i64) hits⟩)], true⟩
def R_laws_FnReached_l6 (list : List Rule) (k : Int) (f : Facts) (bad : Int) (lost : List Int) (rules : List Rule) (hits : List Int) : (Unit ⊕ Bool) → Res
 | .inl y => (.exit 2, ⟨[.any, .any, .sl 6 (List.map Rule_av list), .int .i64 k, .ref 3200000 0 0, .int .i64 bad, .any, .any, .any, .any, .own 3200032, .any, .any, .any, .any, .any, .any, .any, .any, .any, .any, .any, .any, .any, .any, .any, .any, .any, .any, .any, .any, .any, .any, .any, .any, .any, .any, .any], [], [(3200000, ⟨3, [Facts_av f]⟩), (3200032, ⟨1, List.map (AV.int .i64) lost⟩)], true⟩)
 | .inr y => (.ret, ⟨[.any, .bool y, .any, .any, .any, .any, .any, .any, .any, .any, .any, .any, .any, .any, .any, .any, .any, .any, .any, .any, .any, .any, .any, .any, .any, .any, .any, .any, .any, .any, .any, .any, .any, .any, .any, .any, .any, .any], [], [], true⟩)
theorem laws_FnReached_l6_ex {list : List Rule} {k : Int} {f : Facts} {bad : Int} {lost : List Int} {rules : List Rule} {hits : List Int} {sgm_ : Int} {rho_ : Unit ⊕ Bool} (h : whileE (laws_FnReached_l6 list k f bad lost rules hits) sgm_ = some rho_) : ∃ L0, ∀ L, L0 ≤ L → iter (exec (look t_laws_FnReached) L ir3_b1) ir3_k1 ir3_o1 ir3_r1 L (E_laws_FnReached_l6 list k f bad lost rules hits sgm_) = R_laws_FnReached_l6 list k f bad lost rules hits rho_ := by
 refine loop_ex (E := E_laws_FnReached_l6 list k f bad lost rules hits) (R := R_laws_FnReached_l6 list k f bad lost rules hits) (fun y => by first | (intro c; cases c) | (rcases y with y | y <;> (intro c; cases c)) | (rcases y with y | y | y <;> (intro c; cases c))) ?_ h
 clear h
 intro i o_ h
 dsimp only [laws_FnReached_l6] at h
 rcases it_some h with ⟨z60, h⟩ | ⟨z60, h⟩
 ·try simp only [go_sem, n1, n2, n3, n4] at z60
  all_goals
  obtain ⟨z61, h⟩ := ck_some h
  have lz61 := ix_lt z61
  have xz61 := getD_mapD (AV.int .i64) hits lz61
  try simp only [go_sem] at lz61
  try simp only [go_sem] at xz61
  try simp only [go_sem, n1, n2, n3, n4, z60] at z61
  all_goals
  obtain ⟨z62, h⟩ := ck_some h
  have lz62 := ix_lt z62
  have xz62 := getD_mapD (AV.int .i64) hits lz62
  try simp only [go_sem] at lz62
  try simp only [go_sem] at xz62
  try simp only [go_sem, n1, n2, n3, n4, z60, z61] at z62
  all_goals
  obtain ⟨y_63, z63, h⟩ := bd_some h
  have fz63 := Fs_8 z63
  try simp only [go_sem, z60, z61, z62] at fz63
  rcases it_some h with ⟨z64, h⟩ | ⟨z64, h⟩
  ·try simp only [go_sem, n1, n2, n3, n4, z60, z61, z62] at z64
   all_goals
   obtain rfl := so_some h
   refine ⟨0, fun L hL => ?_⟩
   simp only [go_sem, ir3, E_laws_FnReached_l6, R_laws_FnReached_l6, ir3_b1, ir3_k1, ir3_o1, ir3_r1, E_laws_FnReached_l1, R_laws_FnReached_l1, ir3_k0, ir3_o0, ir3_r0, E_laws_FnReached_l2, R_laws_FnReached_l2, ir3_k1, ir3_o1, ir3_r1, E_laws_FnReached_l3, R_laws_FnReached_l3, ir3_k2, ir3_o2, ir3_r2, E_laws_FnReached_l4, R_laws_FnReached_l4, ir3_k2, ir3_o2, ir3_r2, E_laws_FnReached_l5, R_laws_FnReached_l5, ir3_k0, ir3_o0, ir3_r0, z60, z61, lz61, xz61, z62, lz62, xz62, fz63, z64]
  ·try simp only [go_sem, n1, n2, n3, n4, z60, z61, z62] at z64
   all_goals
   obtain rfl := so_some h
   refine ⟨0, fun L hL => ?_⟩
   simp only [go_sem, ir3, E_laws_FnReached_l6, R_laws_FnReached_l6, ir3_b1, ir3_k1, ir3_o1, ir3_r1, E_laws_FnReached_l1, R_laws_FnReached_l1, ir3_k0, ir3_o0, ir3_r0, E_laws_FnReached_l2, R_laws_FnReached_l2, ir3_k1, ir3_o1, ir3_r1, E_laws_FnReached_l3, R_laws_FnReached_l3, ir3_k2, ir3_o2, ir3_r2, E_laws_FnReached_l4, R_laws_FnReached_l4, ir3_k2, ir3_o2, ir3_r2, E_laws_FnReached_l5, R_laws_FnReached_l5, ir3_k0, ir3_o0, ir3_r0, z60, z61, lz61, xz61, z62, lz62, xz62, fz63, z64]
 ·try simp only [go_sem, n1, n2, n3, n4] at z60
  all_goals
  obtain rfl := so_some h
  refine ⟨0, fun L hL => ?_⟩
  simp only [go_sem, ir3, E_laws_FnReached_l6, R_laws_FnReached_l6, ir3_b1, ir3_k1, ir3_o1, ir3_r1, E_laws_FnReached_l1, R_laws_FnReached_l1, ir3_k0, ir3_o0, ir3_r0, E_laws_FnReached_l2, R_laws_FnReached_l2, ir3_k1, ir3_o1, ir3_r1, E_laws_FnReached_l3, R_laws_FnReached_l3, ir3_k2, ir3_o2, ir3_r2, E_laws_FnReached_l4, R_laws_FnReached_l4, ir3_k2, ir3_o2, ir3_r2, E_laws_FnReached_l5, R_laws_FnReached_l5, ir3_k0, ir3_o0, ir3_r0, z60]

def E_laws_FnReached_l7 (k : Int) (lost : List Int) : Int → St
 | i => ⟨[.any, .any, .any, .int .i64 k, .any, .any, .any, .any, .any, .any, .own 3200000, .any, .any, .any, .any, .any, .any, .any, .any, .any, .any, .any, .any, .any, .any, .any, .any, .any, .any, .any, .any, .any, .any, .any, .any, .any, .any, .int .i64 i], [], [(3200000, ⟨1, List.map (AV.int .i64) lost⟩)], true⟩
def R_laws_FnReached_l7 (k : Int) (lost : List Int) : (Unit ⊕ Bool) → Res
 | .inl y => (.exit 4, ⟨[.any, .any, .any, .any, .any, .any, .any, .any, .any, .any, .any, .any, .any, .any, .any, .any, .any, .any, .any, .any, .any, .any, .any, .any, .any, .any, .any, .any, .any, .any, .any, .any, .any, .any, .any, .any, .any, .any], [], [], true⟩)
 | .inr y => (.ret, ⟨[.any, .bool y, .any, .any, .any, .any, .any, .any, .any, .any, .any, .any, .any, .any, .any, .any, .any, .any, .any, .any, .any, .any, .any, .any, .any, .any, .any, .any, .any, .any, .any, .any, .any, .any, .any, .any, .any, .any], [], [], true⟩)
theorem laws_FnReached_l7_ex {k : Int} {lost : List Int} {sgm_ : Int} {rho_ : Unit ⊕ Bool} (h : whileE (laws_FnReached_l7 k lost) sgm_ = some rho_) : ∃ L0, ∀ L, L0 ≤ L → iter (exec (look t_laws_FnReached) L ir3_b2) ir3_k2 ir3_o2 ir3_r2 L (E_laws_FnReached_l7 k lost sgm_) = R_laws_FnReached_l7 k lost rho_ := by
 refine loop_ex (E := E_laws_FnReached_l7 k lost) (R := R_laws_FnReached_l7 k lost) (fun y => by first | (intro c; cases c) | (rcases y with y | y <;> (intro c; cases c)) | (rcases y with y | y | y <;> (intro c; cases c))) ?_ h
 clear h
 intro i o_ h
 dsimp only [laws_FnReached_l7] at h
 rcases it_some h with ⟨z70, h⟩ | ⟨z70, h⟩
 ·try simp only [go_sem, n1, n2, n3, n4] at z70
  all_goals
  obtain ⟨z71, h⟩ := ck_some h
  have lz71 := ix_lt z71
  have xz71 := getD_mapD (AV.int .i64) lost lz71
  try simp only [go_sem] at lz71
  try simp only [go_sem] at xz71
  try simp only [go_sem, n1, n2, n3, n4, z70] at z71
  all_goals
  rcases it_some h with ⟨z72, h⟩ | ⟨z72, h⟩
  ·try simp only [go_sem, n1, n2, n3, n4, z70, z71] at z72
   all_goals
   obtain rfl := so_some h
   refine ⟨0, fun L hL => ?_⟩
   simp only [go_sem, ir3, E_laws_FnReached_l7, R_laws_FnReached_l7, ir3_b2, ir3_k2, ir3_o2, ir3_r2, E_laws_FnReached_l1, R_laws_FnReached_l1, ir3_k0, ir3_o0, ir3_r0, E_laws_FnReached_l2, R_laws_FnReached_l2, ir3_k1, ir3_o1, ir3_r1, E_laws_FnReached_l3, R_laws_FnReached_l3, ir3_k2, ir3_o2, ir3_r2, E_laws_FnReached_l4, R_laws_FnReached_l4, ir3_k2, ir3_o2, ir3_r2, E_laws_FnReached_l5, R_laws_FnReached_l5, ir3_k0, ir3_o0, ir3_r0, E_laws_FnReached_l6, R_laws_FnReached_l6, ir3_k1, ir3_o1, ir3_r1, z70, z71, lz71, xz71, z72]
  ·try simp only [go_sem, n1, n2, n3, n4, z70, z71] at z72
   all_goals
   obtain rfl := so_some h
   refine ⟨0, fun L hL => ?_⟩
   simp only [go_sem, ir3, E_laws_FnReached_l7, R_laws_FnReached_l7, ir3_b2, ir3_k2, ir3_o2, ir3_r2, E_laws_FnReached_l1, R_laws_FnReached_l1, ir3_k0, ir3_o0, ir3_r0, E_laws_FnReached_l2, R_laws_FnReached_l2, ir3_k1, ir3_o1, ir3_r1, E_laws_FnReached_l3, R_laws_FnReached_l3, ir3_k2, ir3_o2, ir3_r2, E_laws_FnReached_l4, R_laws_FnReached_l4, ir3_k2, ir3_o2, ir3_r2, E_laws_FnReached_l5, R_laws_FnReached_l5, ir3_k0, ir3_o0, ir3_r0, E_laws_FnReached_l6, R_laws_FnReached_l6, ir3_k1, ir3_o1, ir3_r1, z70, z71, lz71, xz71, z72]
 ·try simp only [go_sem, n1, n2, n3, n4] at z70
  all_goals
  obtain rfl := so_some h
  refine ⟨0, fun L hL => ?_⟩
  simp only [go_sem, ir3, E_laws_FnReached_l7, R_laws_FnReached_l7, ir3_b2, ir3_k2, ir3_o2, ir3_r2, E_laws_FnReached_l1, R_laws_FnReached_l1, ir3_k0, ir3_o0, ir3_r0, E_laws_FnReached_l2, R_laws_FnReached_l2, ir3_k1, ir3_o1, ir3_r1, E_laws_FnReached_l3, R_laws_FnReached_l3, ir3_k2, ir3_o2, ir3_r2, E_laws_FnReached_l4, R_laws_FnReached_l4, ir3_k2, ir3_o2, ir3_r2, E_laws_FnReached_l5, R_laws_FnReached_l5, ir3_k0, ir3_o0, ir3_r0, E_laws_FnReached_l6, R_laws_FnReached_l6, ir3_k1, ir3_o1, ir3_r1, z70]

def E_laws_FnReached_l8 (k : Int) (lost : List Int) : Int → St
 | i => ⟨[.any, .any, .any, .int .i64 k, .any, .any, .any, .any, .any, .any, .own 3200000, .any, .any, .any, .any, .any, .any, .any, .any, .any, .any, .any, .any, .any, .any, .any, .any, .any, .any, .any, .any, .any, .any, .any, .any, .any, .any, .int .i64 i], [], [(3200000, ⟨1, List.map (AV.int .i64) lost⟩)], true⟩
def R_laws_FnReached_l8 (k : Int) (lost : List Int) : (Unit ⊕ Bool) → Res
 | .inl y => (.exit 4, ⟨[.any, .any, .any, .any, .any, .any, .any, .any, .any, .any, .any, .any, .any, .any, .any, .any, .any, .any, .any, .any, .any, .any, .any, .any, .any, .any, .any, .any, .any, .any, .any, .any, .any, .any, .any, .any, .any, .any], [], [], true⟩)
 | .inr y => (.ret, ⟨[.any, .bool y, .any, .any, .any, .any, .any, .any, .any, .any, .any, .any, .any, .any, .any, .any, .any, .any, .any, .any, .any, .any, .any, .any, .any, .any, .any, .any, .any, .any, .any, .any, .any, .any, .any, .any, .any, .any], [], [], true⟩)
theorem laws_FnReached_l8_ex {k : Int} {lost : List Int} {sgm_ : Int} {rho_ : Unit ⊕ Bool} (h : whileE (laws_FnReached_l8 k lost) sgm_ = some rho_) : ∃ L0, ∀ L, L0 ≤ L → iter (exec (look t_laws_FnReached) L ir3_b2) ir3_k2 ir3_o2 ir3_r2 L (E_laws_FnReached_l8 k lost sgm_) = R_laws_FnReached_l8 k lost rho_ := by
 refine loop_ex (E := E_laws_FnReached_l8 k lost) (R := R_laws_FnReached_l8 k lost) (fun y => by first | (intro c; cases c) | (rcases y with y | y <;> (intro c; cases c)) | (rcases y with y | y | y <;> (intro c; cases c))) ?_ h
 clear h
 intro i o_ h
 dsimp only [laws_FnReached_l8] at h
 rcases it_some h with ⟨z78, h⟩ | ⟨z78, h⟩
 ·try simp only [go_sem, n1, n2, n3, n4] at z78
  all_goals
  obtain ⟨z79, h⟩ := ck_some h
  have lz79 := ix_lt z79
  have xz79 := getD_mapD (AV.int .i64) lost lz79
  try simp only [go_sem] at lz79
  try simp only [go_sem] at xz79
  try simp only [go_sem, n1, n2, n3, n4, z78] at z79
  all_goals
  rcases it_some h with ⟨z80, h⟩ | ⟨z80, h⟩
  ·try simp only [go_sem, n1, n2, n3, n4, z78, z79] at z80
   all_goals
   obtain rfl := so_some h
   refine ⟨0, fun L hL => ?_⟩
   simp only [go_sem, ir3, E_laws_FnReached_l8, R_laws_FnReached_l8, ir3_b2, ir3_k2, ir3_o2, ir3_r2, E_laws_FnReached_l1, R_laws_FnReached_l1, ir3_k0, ir3_o0, ir3_r0, E_laws_FnReached_l2, R_laws_FnReached_l2, ir3_k1, ir3_o1, ir3_r1, E_laws_FnReached_l3, R_laws_FnReached_l3, ir3_k2, ir3_o2, ir3_r2, E_laws_FnReached_l4, R_laws_FnReached_l4, ir3_k2, ir3_o2, ir3_r2, E_laws_FnReached_l5, R_laws_FnReached_l5, ir3_k0, ir3_o0, ir3_r0, E_laws_FnReached_l6, R_laws_FnReached_l6, ir3_k1, ir3_o1, ir3_r1, E_laws_FnReached_l7, R_laws_FnReached_l7, ir3_k2, ir3_o2, ir3_r2, z78, z79, lz79, xz79, z80]
  ·try simp only [go_sem, n1, n2, n3, n4, z78, z79] at z80
   all_goals
   obtain rfl := so_some h
   refine ⟨0, fun L hL => ?_⟩
   simp only [go_sem, ir3, E_laws_FnReached_l8, R_laws_FnReached_l8, ir3_b2, ir3_k2, ir3_o2, ir3_r2, E_laws_FnReached_l1, R_laws_FnReached_l1, ir3_k0, ir3_o0, ir3_r0, E_laws_FnReached_l2, R_laws_FnReached_l2, ir3_k1, ir3_o1, ir3_r1, E_laws_FnReached_l3, R_laws_FnReached_l3, ir3_k2, ir3_o2, ir3_r2, E_laws_FnReached_l4, R_laws_FnReached_l4, ir3_k2, ir3_o2, ir3_r2, E_laws_FnReached_l5, R_laws_FnReached_l5, ir3_k0, ir3_o0, ir3_r0, E_laws_FnReached_l6, R_laws_FnReached_l6, ir3_k1, ir3_o1, ir3_r1, E_laws_FnReached_l7, R_laws_FnReached_l7, ir3_k2, ir3_o2, ir3_r2, z78, z79, lz79, xz79, z80]
 ·try simp only [go_sem, n1, n2, n3, n4] at z78
  all_goals
  obtain rfl := so_some h
  refine ⟨0, fun L hL => ?_⟩
  simp only [go_sem, ir3, E_laws_FnReached_l8, R_laws_FnReached_l8, ir3_b2, ir3_k2, ir3_o2, ir3_r2, E_laws_FnReached_l1, R_laws_FnReached_l1, ir3_k0, ir3_o0, ir3_r0, E_laws_FnReached_l2, R_laws_FnReached_l2, ir3_k1, ir3_o1, ir3_r1, E_laws_FnReached_l3, R_laws_FnReached_l3, ir3_k2, ir3_o2, ir3_r2, E_laws_FnReached_l4, R_laws_FnReached_l4, ir3_k2, ir3_o2, ir3_r2, E_laws_FnReached_l5, R_laws_FnReached_l5, ir3_k0, ir3_o0, ir3_r0, E_laws_FnReached_l6, R_laws_FnReached_l6, ir3_k1, ir3_o1, ir3_r1, E_laws_FnReached_l7, R_laws_FnReached_l7, ir3_k2, ir3_o2, ir3_r2, z78]

set_option maxHeartbeats 8000000 in
theorem Fs_laws_FnReached {code : List UInt8} {y_ : Bool} (h : laws_FnReached code = some y_) : c_laws_FnReached.F [.sl 1 (List.map byteAV code)] = ⟨true, .bool y_, [.any]⟩ := by
 refine mkF_E rfl ?_
 dsimp only [laws_FnReached] at h
 obtain ⟨y_1, z1, h⟩ := bd_some h
 have fz1 := Fs_9 z1
 try simp only [go_sem] at fz1
 rcases it_some h with ⟨z2, h⟩ | ⟨z2, h⟩
 ·try simp only [go_sem, n1, n2, n3, n4] at z2
  all_goals
  obtain rfl := so_some h
  refine ⟨0, fun L hL => ?_⟩
  simp only [go_sem, ir3, E_laws_FnReached_l1, R_laws_FnReached_l1, ir3_k0, ir3_o0, ir3_r0, E_laws_FnReached_l2, R_laws_FnReached_l2, ir3_k1, ir3_o1, ir3_r1, E_laws_FnReached_l3, R_laws_FnReached_l3, ir3_k2, ir3_o2, ir3_r2, E_laws_FnReached_l4, R_laws_FnReached_l4, ir3_k2, ir3_o2, ir3_r2, E_laws_FnReached_l5, R_laws_FnReached_l5, ir3_k0, ir3_o0, ir3_r0, E_laws_FnReached_l6, R_laws_FnReached_l6, ir3_k1, ir3_o1, ir3_r1, E_laws_FnReached_l7, R_laws_FnReached_l7, ir3_k2, ir3_o2, ir3_r2, E_laws_FnReached_l8, R_laws_FnReached_l8, ir3_k2, ir3_o2, ir3_r2, fz1, z2]
 ·try simp only [go_sem, n1, n2, n3, n4] at z2
  all_goals
  obtain ⟨y_3, z3, h⟩ := bd_some h
  have fz3 := Fs_19 z3
  try simp only [go_sem, z2] at fz3
  obtain ⟨y_4, z4, h⟩ := bd_some h
  have fz4 := Fs_34 z4
  try simp only [go_sem, z2] at fz4
  obtain ⟨y_5, z5, h⟩ := bd_some h
  have fz5 := Fs_47 z5
  try simp only [go_sem, z2] at fz5
  obtain ⟨y_6, z6, h⟩ := bd_some h
  have fz6 := Fs_50 z6
  try simp only [go_sem, z2] at fz6
  obtain ⟨y_7, z7, h⟩ := bd_some h
  have fz7 := Fs_51 z7
  try simp only [go_sem, z2] at fz7
  obtain ⟨y_8, z8, h⟩ := bd_some h
  have fz8 := Fs_52 z8
  try simp only [go_sem, z2] at fz8
  obtain ⟨y_9, z9, h⟩ := bd_some h
  have fz9 := Fs_53 z9
  try simp only [go_sem, z2] at fz9
  obtain ⟨y_10, z10, h⟩ := bd_some h
  have fz10 := Fs_54 z10
  try simp only [go_sem, z2] at fz10
  obtain ⟨y_11, z11, h⟩ := bd_some h
  have fz11 := Fs_8 z11
  try simp only [go_sem, z2] at fz11
  obtain ⟨y_12, z12, h⟩ := bd_some h
  have fz12 := Fs_55 z12
  try simp only [go_sem, z2] at fz12
  obtain ⟨z13, h⟩ := ck_some h
  rcases or_split z13 with ⟨gz13, z13⟩ | gz13
  ·try simp only [go_sem, n1, n2, n3, n4, z2] at gz13
   all_goals
   obtain ⟨y_13, hz13⟩ := Option.isSome_iff_exists.1 z13
   have fz13 := Fs_56 hz13
   try simp only [go_sem, n1, n2, n3, n4, z2, gz13] at hz13
   all_goals
   try simp only [go_sem, z2, gz13] at fz13
   rcases it_some h with ⟨z14, h⟩ | ⟨z14, h⟩
   ·try simp only [go_sem, n1, n2, n3, n4, z2, gz13, hz13] at z14
    all_goals
    obtain rfl := so_some h
    refine ⟨0, fun L hL => ?_⟩
    simp only [go_sem, ir3, E_laws_FnReached_l1, R_laws_FnReached_l1, ir3_k0, ir3_o0, ir3_r0, E_laws_FnReached_l2, R_laws_FnReached_l2, ir3_k1, ir3_o1, ir3_r1, E_laws_FnReached_l3, R_laws_FnReached_l3, ir3_k2, ir3_o2, ir3_r2, E_laws_FnReached_l4, R_laws_FnReached_l4, ir3_k2, ir3_o2, ir3_r2, E_laws_FnReached_l5, R_laws_FnReached_l5, ir3_k0, ir3_o0, ir3_r0, E_laws_FnReached_l6, R_laws_FnReached_l6, ir3_k1, ir3_o1, ir3_r1, E_laws_FnReached_l7, R_laws_FnReached_l7, ir3_k2, ir3_o2, ir3_r2, E_laws_FnReached_l8, R_laws_FnReached_l8, ir3_k2, ir3_o2, ir3_r2, fz1, z2, fz3, fz4, fz5, fz6, fz7, fz8, fz9, fz10, fz11, fz12, gz13, hz13, fz13, z14]
   ·try simp only [go_sem, n1, n2, n3, n4, z2, gz13, hz13] at z14
    all_goals
    rcases it_some h with ⟨z15, h⟩ | ⟨z15, h⟩
    ·try simp only [go_sem, n1, n2, n3, n4, z2, gz13, hz13, z14] at z15
     all_goals
     obtain ⟨y_16, z16, h⟩ := bd_some h
     have fz16 := Fs_60 z16
     try simp only [go_sem, z2, gz13, hz13, z14, z15] at fz16
     rcases it_some h with ⟨z17, h⟩ | ⟨z17, h⟩
     ·try simp only [go_sem, n1, n2, n3, n4, z2, gz13, hz13, z14, z15] at z17
      all_goals
      obtain rfl := so_some h
      refine ⟨0, fun L hL => ?_⟩
      simp only [go_sem, ir3, E_laws_FnReached_l1, R_laws_FnReached_l1, ir3_k0, ir3_o0, ir3_r0, E_laws_FnReached_l2, R_laws_FnReached_l2, ir3_k1, ir3_o1, ir3_r1, E_laws_FnReached_l3, R_laws_FnReached_l3, ir3_k2, ir3_o2, ir3_r2, E_laws_FnReached_l4, R_laws_FnReached_l4, ir3_k2, ir3_o2, ir3_r2, E_laws_FnReached_l5, R_laws_FnReached_l5, ir3_k0, ir3_o0, ir3_r0, E_laws_FnReached_l6, R_laws_FnReached_l6, ir3_k1, ir3_o1, ir3_r1, E_laws_FnReached_l7, R_laws_FnReached_l7, ir3_k2, ir3_o2, ir3_r2, E_laws_FnReached_l8, R_laws_FnReached_l8, ir3_k2, ir3_o2, ir3_r2, fz1, z2, fz3, fz4, fz5, fz6, fz7, fz8, fz9, fz10, fz11, fz12, gz13, hz13, fz13, z14, z15, fz16, z17]
     ·try simp only [go_sem, n1, n2, n3, n4, z2, gz13, hz13, z14, z15] at z17
      all_goals
      obtain ⟨y_18, z18, h⟩ := bd_some h
      have fz18 := Fs_63 z18
      try simp only [go_sem, z2, gz13, hz13, z14, z15, z17] at fz18
      obtain ⟨y_19, z19, h⟩ := bd_some h
      have fz19 := Fs_65 z19
      try simp only [go_sem, z2, gz13, hz13, z14, z15, z17] at fz19
      rcases it_some h with ⟨z20, h⟩ | ⟨z20, h⟩
      ·try simp only [go_sem, n1, n2, n3, n4, z2, gz13, hz13, z14, z15, z17] at z20
       all_goals
       obtain ⟨y_21, z21, h⟩ := bd_some h
       have fz21 := Fs_50 z21
       try simp only [go_sem, z2, gz13, hz13, z14, z15, z17, z20] at fz21
       rcases it_some h with ⟨z22, h⟩ | ⟨z22, h⟩
       ·try simp only [go_sem, n1, n2, n3, n4, z2, gz13, hz13, z14, z15, z17, z20] at z22
        all_goals
        obtain rfl := so_some h
        refine ⟨0, fun L hL => ?_⟩
        simp only [go_sem, ir3, E_laws_FnReached_l1, R_laws_FnReached_l1, ir3_k0, ir3_o0, ir3_r0, E_laws_FnReached_l2, R_laws_FnReached_l2, ir3_k1, ir3_o1, ir3_r1, E_laws_FnReached_l3, R_laws_FnReached_l3, ir3_k2, ir3_o2, ir3_r2, E_laws_FnReached_l4, R_laws_FnReached_l4, ir3_k2, ir3_o2, ir3_r2, E_laws_FnReached_l5, R_laws_FnReached_l5, ir3_k0, ir3_o0, ir3_r0, E_laws_FnReached_l6, R_laws_FnReached_l6, ir3_k1, ir3_o1, ir3_r1, E_laws_FnReached_l7, R_laws_FnReached_l7, ir3_k2, ir3_o2, ir3_r2, E_laws_FnReached_l8, R_laws_FnReached_l8, ir3_k2, ir3_o2, ir3_r2, fz1, z2, fz3, fz4, fz5, fz6, fz7, fz8, fz9, fz10, fz11, fz12, gz13, hz13, fz13, z14, z15, fz16, z17, fz18, fz19, z20, fz21, z22]
       ·try simp only [go_sem, n1, n2, n3, n4, z2, gz13, hz13, z14, z15, z17, z20] at z22
        all_goals
        obtain ⟨y_27, z27, h⟩ := bd_some h
        obtain ⟨Lz27, ez27⟩ := laws_FnReached_l1_ex z27
        rcases y_27 with y_27a | y_27b
        ·dsimp only at h
         obtain ⟨y_33, z33, h⟩ := bd_some h
         obtain ⟨Lz33, ez33⟩ := laws_FnReached_l2_ex z33
         rcases y_33 with y_33a | y_33b
         ·dsimp only at h
          rcases it_some h with ⟨z34, h⟩ | ⟨z34, h⟩
          ·try simp only [go_sem, n1, n2, n3, n4, z2, gz13, hz13, z14, z15, z17, z20, z22] at z34
           all_goals
           obtain ⟨y_35, z35, h⟩ := bd_some h
           have fz35 := Fs_60 z35
           try simp only [go_sem, z2, gz13, hz13, z14, z15, z17, z20, z22, z34] at fz35
           obtain ⟨z36, h⟩ := ck_some h
           rcases or_split z36 with ⟨gz36, z36⟩ | gz36
           ·try simp only [go_sem, n1, n2, n3, n4, z2, gz13, hz13, z14, z15, z17, z20, z22, z34] at gz36
            all_goals
            have lz36 := ix_lt z36
            have xz36 := getD_mapD (AV.int .i64) y_35.1 lz36
            try simp only [go_sem] at lz36
            try simp only [go_sem] at xz36
            try simp only [go_sem, n1, n2, n3, n4, z2, gz13, hz13, z14, z15, z17, z20, z22, z34, gz36] at z36
            all_goals
            obtain rfl := so_some h
            refine ⟨Lz27 + Lz33, fun L hL => ?_⟩
            have ez27 := ez27 L (by omega)
            have ez33 := ez33 L (by omega)
            try simp only [go_sem, E_laws_FnReached_l1, R_laws_FnReached_l1, ir3_k0, ir3_o0, ir3_r0, E_laws_FnReached_l2, R_laws_FnReached_l2, ir3_k1, ir3_o1, ir3_r1, E_laws_FnReached_l3, R_laws_FnReached_l3, ir3_k2, ir3_o2, ir3_r2, E_laws_FnReached_l4, R_laws_FnReached_l4, ir3_k2, ir3_o2, ir3_r2, E_laws_FnReached_l5, R_laws_FnReached_l5, ir3_k0, ir3_o0, ir3_r0, E_laws_FnReached_l6, R_laws_FnReached_l6, ir3_k1, ir3_o1, ir3_r1, E_laws_FnReached_l7, R_laws_FnReached_l7, ir3_k2, ir3_o2, ir3_r2, E_laws_FnReached_l8, R_laws_FnReached_l8, ir3_k2, ir3_o2, ir3_r2, z2, gz13, hz13, z14, z15, z17, z20, z22, z34, gz36, z36] at ez27
            try simp only [go_sem, E_laws_FnReached_l1, R_laws_FnReached_l1, ir3_k0, ir3_o0, ir3_r0, E_laws_FnReached_l2, R_laws_FnReached_l2, ir3_k1, ir3_o1, ir3_r1, E_laws_FnReached_l3, R_laws_FnReached_l3, ir3_k2, ir3_o2, ir3_r2, E_laws_FnReached_l4, R_laws_FnReached_l4, ir3_k2, ir3_o2, ir3_r2, E_laws_FnReached_l5, R_laws_FnReached_l5, ir3_k0, ir3_o0, ir3_r0, E_laws_FnReached_l6, R_laws_FnReached_l6, ir3_k1, ir3_o1, ir3_r1, E_laws_FnReached_l7, R_laws_FnReached_l7, ir3_k2, ir3_o2, ir3_r2, E_laws_FnReached_l8, R_laws_FnReached_l8, ir3_k2, ir3_o2, ir3_r2, z2, gz13, hz13, z14, z15, z17, z20, z22, z34, gz36, z36] at ez33
            simp only [go_sem, ir3, E_laws_FnReached_l1, R_laws_FnReached_l1, ir3_k0, ir3_o0, ir3_r0, E_laws_FnReached_l2, R_laws_FnReached_l2, ir3_k1, ir3_o1, ir3_r1, E_laws_FnReached_l3, R_laws_FnReached_l3, ir3_k2, ir3_o2, ir3_r2, E_laws_FnReached_l4, R_laws_FnReached_l4, ir3_k2, ir3_o2, ir3_r2, E_laws_FnReached_l5, R_laws_FnReached_l5, ir3_k0, ir3_o0, ir3_r0, E_laws_FnReached_l6, R_laws_FnReached_l6, ir3_k1, ir3_o1, ir3_r1, E_laws_FnReached_l7, R_laws_FnReached_l7, ir3_k2, ir3_o2, ir3_r2, E_laws_FnReached_l8, R_laws_FnReached_l8, ir3_k2, ir3_o2, ir3_r2, fz1, z2, fz3, fz4, fz5, fz6, fz7, fz8, fz9, fz10, fz11, fz12, gz13, hz13, fz13, z14, z15, fz16, z17, fz18, fz19, z20, fz21, z22, z34, fz35, gz36, z36, lz36, xz36, ez27, ez33]
           ·rcases and_f gz36 with gz36a | ⟨gz36a, gz36b⟩
            ·try simp only [go_sem, n1, n2, n3, n4, z2, gz13, hz13, z14, z15, z17, z20, z22, z34] at gz36a
             all_goals
             obtain rfl := so_some h
             refine ⟨Lz27 + Lz33, fun L hL => ?_⟩
             have ez27 := ez27 L (by omega)
             have ez33 := ez33 L (by omega)
             try simp only [go_sem, E_laws_FnReached_l1, R_laws_FnReached_l1, ir3_k0, ir3_o0, ir3_r0, E_laws_FnReached_l2, R_laws_FnReached_l2, ir3_k1, ir3_o1, ir3_r1, E_laws_FnReached_l3, R_laws_FnReached_l3, ir3_k2, ir3_o2, ir3_r2, E_laws_FnReached_l4, R_laws_FnReached_l4, ir3_k2, ir3_o2, ir3_r2, E_laws_FnReached_l5, R_laws_FnReached_l5, ir3_k0, ir3_o0, ir3_r0, E_laws_FnReached_l6, R_laws_FnReached_l6, ir3_k1, ir3_o1, ir3_r1, E_laws_FnReached_l7, R_laws_FnReached_l7, ir3_k2, ir3_o2, ir3_r2, E_laws_FnReached_l8, R_laws_FnReached_l8, ir3_k2, ir3_o2, ir3_r2, z2, gz13, hz13, z14, z15, z17, z20, z22, z34, gz36a] at ez27
             try simp only [go_sem, E_laws_FnReached_l1, R_laws_FnReached_l1, ir3_k0, ir3_o0, ir3_r0, E_laws_FnReached_l2, R_laws_FnReached_l2, ir3_k1, ir3_o1, ir3_r1, E_laws_FnReached_l3, R_laws_FnReached_l3, ir3_k2, ir3_o2, ir3_r2, E_laws_FnReached_l4, R_laws_FnReached_l4, ir3_k2, ir3_o2, ir3_r2, E_laws_FnReached_l5, R_laws_FnReached_l5, ir3_k0, ir3_o0, ir3_r0, E_laws_FnReached_l6, R_laws_FnReached_l6, ir3_k1, ir3_o1, ir3_r1, E_laws_FnReached_l7, R_laws_FnReached_l7, ir3_k2, ir3_o2, ir3_r2, E_laws_FnReached_l8, R_laws_FnReached_l8, ir3_k2, ir3_o2, ir3_r2, z2, gz13, hz13, z14, z15, z17, z20, z22, z34, gz36a] at ez33
             simp only [go_sem, ir3, E_laws_FnReached_l1, R_laws_FnReached_l1, ir3_k0, ir3_o0, ir3_r0, E_laws_FnReached_l2, R_laws_FnReached_l2, ir3_k1, ir3_o1, ir3_r1, E_laws_FnReached_l3, R_laws_FnReached_l3, ir3_k2, ir3_o2, ir3_r2, E_laws_FnReached_l4, R_laws_FnReached_l4, ir3_k2, ir3_o2, ir3_r2, E_laws_FnReached_l5, R_laws_FnReached_l5, ir3_k0, ir3_o0, ir3_r0, E_laws_FnReached_l6, R_laws_FnReached_l6, ir3_k1, ir3_o1, ir3_r1, E_laws_FnReached_l7, R_laws_FnReached_l7, ir3_k2, ir3_o2, ir3_r2, E_laws_FnReached_l8, R_laws_FnReached_l8, ir3_k2, ir3_o2, ir3_r2, fz1, z2, fz3, fz4, fz5, fz6, fz7, fz8, fz9, fz10, fz11, fz12, gz13, hz13, fz13, z14, z15, fz16, z17, fz18, fz19, z20, fz21, z22, z34, fz35, gz36a, ez27, ez33]
            ·try simp only [go_sem, n1, n2, n3, n4, z2, gz13, hz13, z14, z15, z17, z20, z22, z34] at gz36a
             all_goals
             try simp only [go_sem, n1, n2, n3, n4, z2, gz13, hz13, z14, z15, z17, z20, z22, z34, gz36a] at gz36b
             all_goals
             obtain rfl := so_some h
             refine ⟨Lz27 + Lz33, fun L hL => ?_⟩
             have ez27 := ez27 L (by omega)
             have ez33 := ez33 L (by omega)
             try simp only [go_sem, E_laws_FnReached_l1, R_laws_FnReached_l1, ir3_k0, ir3_o0, ir3_r0, E_laws_FnReached_l2, R_laws_FnReached_l2, ir3_k1, ir3_o1, ir3_r1, E_laws_FnReached_l3, R_laws_FnReached_l3, ir3_k2, ir3_o2, ir3_r2, E_laws_FnReached_l4, R_laws_FnReached_l4, ir3_k2, ir3_o2, ir3_r2, E_laws_FnReached_l5, R_laws_FnReached_l5, ir3_k0, ir3_o0, ir3_r0, E_laws_FnReached_l6, R_laws_FnReached_l6, ir3_k1, ir3_o1, ir3_r1, E_laws_FnReached_l7, R_laws_FnReached_l7, ir3_k2, ir3_o2, ir3_r2, E_laws_FnReached_l8, R_laws_FnReached_l8, ir3_k2, ir3_o2, ir3_r2, z2, gz13, hz13, z14, z15, z17, z20, z22, z34, gz36a, gz36b] at ez27
             try simp only [go_sem, E_laws_FnReached_l1, R_laws_FnReached_l1, ir3_k0, ir3_o0, ir3_r0, E_laws_FnReached_l2, R_laws_FnReached_l2, ir3_k1, ir3_o1, ir3_r1, E_laws_FnReached_l3, R_laws_FnReached_l3, ir3_k2, ir3_o2, ir3_r2, E_laws_FnReached_l4, R_laws_FnReached_l4, ir3_k2, ir3_o2, ir3_r2, E_laws_FnReached_l5, R_laws_FnReached_l5, ir3_k0, ir3_o0, ir3_r0, E_laws_FnReached_l6, R_laws_FnReached_l6, ir3_k1, ir3_o1, ir3_r1, E_laws_FnReached_l7, R_laws_FnReached_l7, ir3_k2, ir3_o2, ir3_r2, E_laws_FnReached_l8, R_laws_FnReached_l8, ir3_k2, ir3_o2, ir3_r2, z2, gz13, hz13, z14, z15, z17, z20, z22, z34, gz36a, gz36b] at ez33
             simp only [go_sem, ir3, E_laws_FnReached_l1, R_laws_FnReached_l1, ir3_k0, ir3_o0, ir3_r0, E_laws_FnReached_l2, R_laws_FnReached_l2, ir3_k1, ir3_o1, ir3_r1, E_laws_FnReached_l3, R_laws_FnReached_l3, ir3_k2, ir3_o2, ir3_r2, E_laws_FnReached_l4, R_laws_FnReached_l4, ir3_k2, ir3_o2, ir3_r2, E_laws_FnReached_l5, R_laws_FnReached_l5, ir3_k0, ir3_o0, ir3_r0, E_laws_FnReached_l6, R_laws_FnReached_l6, ir3_k1, ir3_o1, ir3_r1, E_laws_FnReached_l7, R_laws_FnReached_l7, ir3_k2, ir3_o2, ir3_r2, E_laws_FnReached_l8, R_laws_FnReached_l8, ir3_k2, ir3_o2, ir3_r2, fz1, z2, fz3, fz4, fz5, fz6, fz7, fz8, fz9, fz10, fz11, fz12, gz13, hz13, fz13, z14, z15, fz16, z17, fz18, fz19, z20, fz21, z22, z34, fz35, gz36a, gz36b, ez27, ez33]
          ·try simp only [go_sem, n1, n2, n3, n4, z2, gz13, hz13, z14, z15, z17, z20, z22] at z34
           all_goals
           rcases it_some h with ⟨z37, h⟩ | ⟨z37, h⟩
           ·try simp only [go_sem, n1, n2, n3, n4, z2, gz13, hz13, z14, z15, z17, z20, z22, z34] at z37
            all_goals
            obtain rfl := so_some h
            refine ⟨Lz27 + Lz33, fun L hL => ?_⟩
            have ez27 := ez27 L (by omega)
            have ez33 := ez33 L (by omega)
            try simp only [go_sem, E_laws_FnReached_l1, R_laws_FnReached_l1, ir3_k0, ir3_o0, ir3_r0, E_laws_FnReached_l2, R_laws_FnReached_l2, ir3_k1, ir3_o1, ir3_r1, E_laws_FnReached_l3, R_laws_FnReached_l3, ir3_k2, ir3_o2, ir3_r2, E_laws_FnReached_l4, R_laws_FnReached_l4, ir3_k2, ir3_o2, ir3_r2, E_laws_FnReached_l5, R_laws_FnReached_l5, ir3_k0, ir3_o0, ir3_r0, E_laws_FnReached_l6, R_laws_FnReached_l6, ir3_k1, ir3_o1, ir3_r1, E_laws_FnReached_l7, R_laws_FnReached_l7, ir3_k2, ir3_o2, ir3_r2, E_laws_FnReached_l8, R_laws_FnReached_l8, ir3_k2, ir3_o2, ir3_r2, z2, gz13, hz13, z14, z15, z17, z20, z22, z34, z37] at ez27
            try simp only [go_sem, E_laws_FnReached_l1, R_laws_FnReached_l1, ir3_k0, ir3_o0, ir3_r0, E_laws_FnReached_l2, R_laws_FnReached_l2, ir3_k1, ir3_o1, ir3_r1, E_laws_FnReached_l3, R_laws_FnReached_l3, ir3_k2, ir3_o2, ir3_r2, E_laws_FnReached_l4, R_laws_FnReached_l4, ir3_k2, ir3_o2, ir3_r2, E_laws_FnReached_l5, R_laws_FnReached_l5, ir3_k0, ir3_o0, ir3_r0, E_laws_FnReached_l6, R_laws_FnReached_l6, ir3_k1, ir3_o1, ir3_r1, E_laws_FnReached_l7, R_laws_FnReached_l7, ir3_k2, ir3_o2, ir3_r2, E_laws_FnReached_l8, R_laws_FnReached_l8, ir3_k2, ir3_o2, ir3_r2, z2, gz13, hz13, z14, z15, z17, z20, z22, z34, z37] at ez33
            simp only [go_sem, ir3, E_laws_FnReached_l1, R_laws_FnReached_l1, ir3_k0, ir3_o0, ir3_r0, E_laws_FnReached_l2, R_laws_FnReached_l2, ir3_k1, ir3_o1, ir3_r1, E_laws_FnReached_l3, R_laws_FnReached_l3, ir3_k2, ir3_o2, ir3_r2, E_laws_FnReached_l4, R_laws_FnReached_l4, ir3_k2, ir3_o2, ir3_r2, E_laws_FnReached_l5, R_laws_FnReached_l5, ir3_k0, ir3_o0, ir3_r0, E_laws_FnReached_l6, R_laws_FnReached_l6, ir3_k1, ir3_o1, ir3_r1, E_laws_FnReached_l7, R_laws_FnReached_l7, ir3_k2, ir3_o2, ir3_r2, E_laws_FnReached_l8, R_laws_FnReached_l8, ir3_k2, ir3_o2, ir3_r2, fz1, z2, fz3, fz4, fz5, fz6, fz7, fz8, fz9, fz10, fz11, fz12, gz13, hz13, fz13, z14, z15, fz16, z17, fz18, fz19, z20, fz21, z22, z34, z37, ez27, ez33]
           ·try simp only [go_sem, n1, n2, n3, n4, z2, gz13, hz13, z14, z15, z17, z20, z22, z34] at z37
            all_goals
            obtain ⟨y_41, z41, h⟩ := bd_some h
            obtain ⟨Lz41, ez41⟩ := laws_FnReached_l3_ex z41
            rcases y_41 with y_41a | y_41b
            ·dsimp only at h
             obtain rfl := so_some h
             refine ⟨Lz27 + Lz33 + Lz41, fun L hL => ?_⟩
             have ez27 := ez27 L (by omega)
             have ez33 := ez33 L (by omega)
             have ez41 := ez41 L (by omega)
             try simp only [go_sem, E_laws_FnReached_l1, R_laws_FnReached_l1, ir3_k0, ir3_o0, ir3_r0, E_laws_FnReached_l2, R_laws_FnReached_l2, ir3_k1, ir3_o1, ir3_r1, E_laws_FnReached_l3, R_laws_FnReached_l3, ir3_k2, ir3_o2, ir3_r2, E_laws_FnReached_l4, R_laws_FnReached_l4, ir3_k2, ir3_o2, ir3_r2, E_laws_FnReached_l5, R_laws_FnReached_l5, ir3_k0, ir3_o0, ir3_r0, E_laws_FnReached_l6, R_laws_FnReached_l6, ir3_k1, ir3_o1, ir3_r1, E_laws_FnReached_l7, R_laws_FnReached_l7, ir3_k2, ir3_o2, ir3_r2, E_laws_FnReached_l8, R_laws_FnReached_l8, ir3_k2, ir3_o2, ir3_r2, z2, gz13, hz13, z14, z15, z17, z20, z22, z34, z37] at ez27
             try simp only [go_sem, E_laws_FnReached_l1, R_laws_FnReached_l1, ir3_k0, ir3_o0, ir3_r0, E_laws_FnReached_l2, R_laws_FnReached_l2, ir3_k1, ir3_o1, ir3_r1, E_laws_FnReached_l3, R_laws_FnReached_l3, ir3_k2, ir3_o2, ir3_r2, E_laws_FnReached_l4, R_laws_FnReached_l4, ir3_k2, ir3_o2, ir3_r2, E_laws_FnReached_l5, R_laws_FnReached_l5, ir3_k0, ir3_o0, ir3_r0, E_laws_FnReached_l6, R_laws_FnReached_l6, ir3_k1, ir3_o1, ir3_r1, E_laws_FnReached_l7, R_laws_FnReached_l7, ir3_k2, ir3_o2, ir3_r2, E_laws_FnReached_l8, R_laws_FnReached_l8, ir3_k2, ir3_o2, ir3_r2, z2, gz13, hz13, z14, z15, z17, z20, z22, z34, z37] at ez33
             try simp only [go_sem, E_laws_FnReached_l1, R_laws_FnReached_l1, ir3_k0, ir3_o0, ir3_r0, E_laws_FnReached_l2, R_laws_FnReached_l2, ir3_k1, ir3_o1, ir3_r1, E_laws_FnReached_l3, R_laws_FnReached_l3, ir3_k2, ir3_o2, ir3_r2, E_laws_FnReached_l4, R_laws_FnReached_l4, ir3_k2, ir3_o2, ir3_r2, E_laws_FnReached_l5, R_laws_FnReached_l5, ir3_k0, ir3_o0, ir3_r0, E_laws_FnReached_l6, R_laws_FnReached_l6, ir3_k1, ir3_o1, ir3_r1, E_laws_FnReached_l7, R_laws_FnReached_l7, ir3_k2, ir3_o2, ir3_r2, E_laws_FnReached_l8, R_laws_FnReached_l8, ir3_k2, ir3_o2, ir3_r2, z2, gz13, hz13, z14, z15, z17, z20, z22, z34, z37] at ez41
             simp only [go_sem, ir3, E_laws_FnReached_l1, R_laws_FnReached_l1, ir3_k0, ir3_o0, ir3_r0, E_laws_FnReached_l2, R_laws_FnReached_l2, ir3_k1, ir3_o1, ir3_r1, E_laws_FnReached_l3, R_laws_FnReached_l3, ir3_k2, ir3_o2, ir3_r2, E_laws_FnReached_l4, R_laws_FnReached_l4, ir3_k2, ir3_o2, ir3_r2, E_laws_FnReached_l5, R_laws_FnReached_l5, ir3_k0, ir3_o0, ir3_r0, E_laws_FnReached_l6, R_laws_FnReached_l6, ir3_k1, ir3_o1, ir3_r1, E_laws_FnReached_l7, R_laws_FnReached_l7, ir3_k2, ir3_o2, ir3_r2, E_laws_FnReached_l8, R_laws_FnReached_l8, ir3_k2, ir3_o2, ir3_r2, fz1, z2, fz3, fz4, fz5, fz6, fz7, fz8, fz9, fz10, fz11, fz12, gz13, hz13, fz13, z14, z15, fz16, z17, fz18, fz19, z20, fz21, z22, z34, z37, ez27, ez33, ez41]
            ·dsimp only at h
             obtain rfl := so_some h
             refine ⟨Lz27 + Lz33 + Lz41, fun L hL => ?_⟩
             have ez27 := ez27 L (by omega)
             have ez33 := ez33 L (by omega)
             have ez41 := ez41 L (by omega)
             try simp only [go_sem, E_laws_FnReached_l1, R_laws_FnReached_l1, ir3_k0, ir3_o0, ir3_r0, E_laws_FnReached_l2, R_laws_FnReached_l2, ir3_k1, ir3_o1, ir3_r1, E_laws_FnReached_l3, R_laws_FnReached_l3, ir3_k2, ir3_o2, ir3_r2, E_laws_FnReached_l4, R_laws_FnReached_l4, ir3_k2, ir3_o2, ir3_r2, E_laws_FnReached_l5, R_laws_FnReached_l5, ir3_k0, ir3_o0, ir3_r0, E_laws_FnReached_l6, R_laws_FnReached_l6, ir3_k1, ir3_o1, ir3_r1, E_laws_FnReached_l7, R_laws_FnReached_l7, ir3_k2, ir3_o2, ir3_r2, E_laws_FnReached_l8, R_laws_FnReached_l8, ir3_k2, ir3_o2, ir3_r2, z2, gz13, hz13, z14, z15, z17, z20, z22, z34, z37] at ez27
             try simp only [go_sem, E_laws_FnReached_l1, R_laws_FnReached_l1, ir3_k0, ir3_o0, ir3_r0, E_laws_FnReached_l2, R_laws_FnReached_l2, ir3_k1, ir3_o1, ir3_r1, E_laws_FnReached_l3, R_laws_FnReached_l3, ir3_k2, ir3_o2, ir3_r2, E_laws_FnReached_l4, R_laws_FnReached_l4, ir3_k2, ir3_o2, ir3_r2, E_laws_FnReached_l5, R_laws_FnReached_l5, ir3_k0, ir3_o0, ir3_r0, E_laws_FnReached_l6, R_laws_FnReached_l6, ir3_k1, ir3_o1, ir3_r1, E_laws_FnReached_l7, R_laws_FnReached_l7, ir3_k2, ir3_o2, ir3_r2, E_laws_FnReached_l8, R_laws_FnReached_l8, ir3_k2, ir3_o2, ir3_r2, z2, gz13, hz13, z14, z15, z17, z20, z22, z34, z37] at ez33
             try simp only [go_sem, E_laws_FnReached_l1, R_laws_FnReached_l1, ir3_k0, ir3_o0, ir3_r0, E_laws_FnReached_l2, R_laws_FnReached_l2, ir3_k1, ir3_o1, ir3_r1, E_laws_FnReached_l3, R_laws_FnReached_l3, ir3_k2, ir3_o2, ir3_r2, E_laws_FnReached_l4, R_laws_FnReached_l4, ir3_k2, ir3_o2, ir3_r2, E_laws_FnReached_l5, R_laws_FnReached_l5, ir3_k0, ir3_o0, ir3_r0, E_laws_FnReached_l6, R_laws_FnReached_l6, ir3_k1, ir3_o1, ir3_r1, E_laws_FnReached_l7, R_laws_FnReached_l7, ir3_k2, ir3_o2, ir3_r2, E_laws_FnReached_l8, R_laws_FnReached_l8, ir3_k2, ir3_o2, ir3_r2, z2, gz13, hz13, z14, z15, z17, z20, z22, z34, z37] at ez41
             simp only [go_sem, ir3, E_laws_FnReached_l1, R_laws_FnReached_l1, ir3_k0, ir3_o0, ir3_r0, E_laws_FnReached_l2, R_laws_FnReached_l2, ir3_k1, ir3_o1, ir3_r1, E_laws_FnReached_l3, R_laws_FnReached_l3, ir3_k2, ir3_o2, ir3_r2, E_laws_FnReached_l4, R_laws_FnReached_l4, ir3_k2, ir3_o2, ir3_r2, E_laws_FnReached_l5, R_laws_FnReached_l5, ir3_k0, ir3_o0, ir3_r0, E_laws_FnReached_l6, R_laws_FnReached_l6, ir3_k1, ir3_o1, ir3_r1, E_laws_FnReached_l7, R_laws_FnReached_l7, ir3_k2, ir3_o2, ir3_r2, E_laws_FnReached_l8, R_laws_FnReached_l8, ir3_k2, ir3_o2, ir3_r2, fz1, z2, fz3, fz4, fz5, fz6, fz7, fz8, fz9, fz10, fz11, fz12, gz13, hz13, fz13, z14, z15, fz16, z17, fz18, fz19, z20, fz21, z22, z34, z37, ez27, ez33, ez41]
         ·dsimp only at h
          obtain rfl := so_some h
          refine ⟨Lz27 + Lz33, fun L hL => ?_⟩
          have ez27 := ez27 L (by omega)
          have ez33 := ez33 L (by omega)
          try simp only [go_sem, E_laws_FnReached_l1, R_laws_FnReached_l1, ir3_k0, ir3_o0, ir3_r0, E_laws_FnReached_l2, R_laws_FnReached_l2, ir3_k1, ir3_o1, ir3_r1, E_laws_FnReached_l3, R_laws_FnReached_l3, ir3_k2, ir3_o2, ir3_r2, E_laws_FnReached_l4, R_laws_FnReached_l4, ir3_k2, ir3_o2, ir3_r2, E_laws_FnReached_l5, R_laws_FnReached_l5, ir3_k0, ir3_o0, ir3_r0, E_laws_FnReached_l6, R_laws_FnReached_l6, ir3_k1, ir3_o1, ir3_r1, E_laws_FnReached_l7, R_laws_FnReached_l7, ir3_k2, ir3_o2, ir3_r2, E_laws_FnReached_l8, R_laws_FnReached_l8, ir3_k2, ir3_o2, ir3_r2, z2, gz13, hz13, z14, z15, z17, z20, z22] at ez27
          try simp only [go_sem, E_laws_FnReached_l1, R_laws_FnReached_l1, ir3_k0, ir3_o0, ir3_r0, E_laws_FnReached_l2, R_laws_FnReached_l2, ir3_k1, ir3_o1, ir3_r1, E_laws_FnReached_l3, R_laws_FnReached_l3, ir3_k2, ir3_o2, ir3_r2, E_laws_FnReached_l4, R_laws_FnReached_l4, ir3_k2, ir3_o2, ir3_r2, E_laws_FnReached_l5, R_laws_FnReached_l5, ir3_k0, ir3_o0, ir3_r0, E_laws_FnReached_l6, R_laws_FnReached_l6, ir3_k1, ir3_o1, ir3_r1, E_laws_FnReached_l7, R_laws_FnReached_l7, ir3_k2, ir3_o2, ir3_r2, E_laws_FnReached_l8, R_laws_FnReached_l8, ir3_k2, ir3_o2, ir3_r2, z2, gz13, hz13, z14, z15, z17, z20, z22] at ez33
          simp only [go_sem, ir3, E_laws_FnReached_l1, R_laws_FnReached_l1, ir3_k0, ir3_o0, ir3_r0, E_laws_FnReached_l2, R_laws_FnReached_l2, ir3_k1, ir3_o1, ir3_r1, E_laws_FnReached_l3, R_laws_FnReached_l3, ir3_k2, ir3_o2, ir3_r2, E_laws_FnReached_l4, R_laws_FnReached_l4, ir3_k2, ir3_o2, ir3_r2, E_laws_FnReached_l5, R_laws_FnReached_l5, ir3_k0, ir3_o0, ir3_r0, E_laws_FnReached_l6, R_laws_FnReached_l6, ir3_k1, ir3_o1, ir3_r1, E_laws_FnReached_l7, R_laws_FnReached_l7, ir3_k2, ir3_o2, ir3_r2, E_laws_FnReached_l8, R_laws_FnReached_l8, ir3_k2, ir3_o2, ir3_r2, fz1, z2, fz3, fz4, fz5, fz6, fz7, fz8, fz9, fz10, fz11, fz12, gz13, hz13, fz13, z14, z15, fz16, z17, fz18, fz19, z20, fz21, z22, ez27, ez33]
        ·dsimp only at h
         obtain rfl := so_some h
         refine ⟨Lz27, fun L hL => ?_⟩
         have ez27 := ez27 L (by omega)
         try simp only [go_sem, E_laws_FnReached_l1, R_laws_FnReached_l1, ir3_k0, ir3_o0, ir3_r0, E_laws_FnReached_l2, R_laws_FnReached_l2, ir3_k1, ir3_o1, ir3_r1, E_laws_FnReached_l3, R_laws_FnReached_l3, ir3_k2, ir3_o2, ir3_r2, E_laws_FnReached_l4, R_laws_FnReached_l4, ir3_k2, ir3_o2, ir3_r2, E_laws_FnReached_l5, R_laws_FnReached_l5, ir3_k0, ir3_o0, ir3_r0, E_laws_FnReached_l6, R_laws_FnReached_l6, ir3_k1, ir3_o1, ir3_r1, E_laws_FnReached_l7, R_laws_FnReached_l7, ir3_k2, ir3_o2, ir3_r2, E_laws_FnReached_l8, R_laws_FnReached_l8, ir3_k2, ir3_o2, ir3_r2, z2, gz13, hz13, z14, z15, z17, z20, z22] at ez27
         simp only [go_sem, ir3, E_laws_FnReached_l1, R_laws_FnReached_l1, ir3_k0, ir3_o0, ir3_r0, E_laws_FnReached_l2, R_laws_FnReached_l2, ir3_k1, ir3_o1, ir3_r1, E_laws_FnReached_l3, R_laws_FnReached_l3, ir3_k2, ir3_o2, ir3_r2, E_laws_FnReached_l4, R_laws_FnReached_l4, ir3_k2, ir3_o2, ir3_r2, E_laws_FnReached_l5, R_laws_FnReached_l5, ir3_k0, ir3_o0, ir3_r0, E_laws_FnReached_l6, R_laws_FnReached_l6, ir3_k1, ir3_o1, ir3_r1, E_laws_FnReached_l7, R_laws_FnReached_l7, ir3_k2, ir3_o2, ir3_r2, E_laws_FnReached_l8, R_laws_FnReached_l8, ir3_k2, ir3_o2, ir3_r2, fz1, z2, fz3, fz4, fz5, fz6, fz7, fz8, fz9, fz10, fz11, fz12, gz13, hz13, fz13, z14, z15, fz16, z17, fz18, fz19, z20, fz21, z22, ez27]
      ·try simp only [go_sem, n1, n2, n3, n4, z2, gz13, hz13, z14, z15, z17] at z20
       all_goals
       rcases it_some h with ⟨z42, h⟩ | ⟨z42, h⟩
       ·try simp only [go_sem, n1, n2, n3, n4, z2, gz13, hz13, z14, z15, z17, z20] at z42
        all_goals
        obtain ⟨y_43, z43, h⟩ := bd_some h
        have fz43 := Fs_60 z43
        try simp only [go_sem, z2, gz13, hz13, z14, z15, z17, z20, z42] at fz43
        obtain ⟨z44, h⟩ := ck_some h
        rcases or_split z44 with ⟨gz44, z44⟩ | gz44
        ·try simp only [go_sem, n1, n2, n3, n4, z2, gz13, hz13, z14, z15, z17, z20, z42] at gz44
         all_goals
         have lz44 := ix_lt z44
         have xz44 := getD_mapD (AV.int .i64) y_43.1 lz44
         try simp only [go_sem] at lz44
         try simp only [go_sem] at xz44
         try simp only [go_sem, n1, n2, n3, n4, z2, gz13, hz13, z14, z15, z17, z20, z42, gz44] at z44
         all_goals
         obtain rfl := so_some h
         refine ⟨0, fun L hL => ?_⟩
         simp only [go_sem, ir3, E_laws_FnReached_l1, R_laws_FnReached_l1, ir3_k0, ir3_o0, ir3_r0, E_laws_FnReached_l2, R_laws_FnReached_l2, ir3_k1, ir3_o1, ir3_r1, E_laws_FnReached_l3, R_laws_FnReached_l3, ir3_k2, ir3_o2, ir3_r2, E_laws_FnReached_l4, R_laws_FnReached_l4, ir3_k2, ir3_o2, ir3_r2, E_laws_FnReached_l5, R_laws_FnReached_l5, ir3_k0, ir3_o0, ir3_r0, E_laws_FnReached_l6, R_laws_FnReached_l6, ir3_k1, ir3_o1, ir3_r1, E_laws_FnReached_l7, R_laws_FnReached_l7, ir3_k2, ir3_o2, ir3_r2, E_laws_FnReached_l8, R_laws_FnReached_l8, ir3_k2, ir3_o2, ir3_r2, fz1, z2, fz3, fz4, fz5, fz6, fz7, fz8, fz9, fz10, fz11, fz12, gz13, hz13, fz13, z14, z15, fz16, z17, fz18, fz19, z20, z42, fz43, gz44, z44, lz44, xz44]
        ·rcases and_f gz44 with gz44a | ⟨gz44a, gz44b⟩
         ·try simp only [go_sem, n1, n2, n3, n4, z2, gz13, hz13, z14, z15, z17, z20, z42] at gz44a
          all_goals
          obtain rfl := so_some h
          refine ⟨0, fun L hL => ?_⟩
          simp only [go_sem, ir3, E_laws_FnReached_l1, R_laws_FnReached_l1, ir3_k0, ir3_o0, ir3_r0, E_laws_FnReached_l2, R_laws_FnReached_l2, ir3_k1, ir3_o1, ir3_r1, E_laws_FnReached_l3, R_laws_FnReached_l3, ir3_k2, ir3_o2, ir3_r2, E_laws_FnReached_l4, R_laws_FnReached_l4, ir3_k2, ir3_o2, ir3_r2, E_laws_FnReached_l5, R_laws_FnReached_l5, ir3_k0, ir3_o0, ir3_r0, E_laws_FnReached_l6, R_laws_FnReached_l6, ir3_k1, ir3_o1, ir3_r1, E_laws_FnReached_l7, R_laws_FnReached_l7, ir3_k2, ir3_o2, ir3_r2, E_laws_FnReached_l8, R_laws_FnReached_l8, ir3_k2, ir3_o2, ir3_r2, fz1, z2, fz3, fz4, fz5, fz6, fz7, fz8, fz9, fz10, fz11, fz12, gz13, hz13, fz13, z14, z15, fz16, z17, fz18, fz19, z20, z42, fz43, gz44a]
         ·try simp only [go_sem, n1, n2, n3, n4, z2, gz13, hz13, z14, z15, z17, z20, z42] at gz44a
          all_goals
          try simp only [go_sem, n1, n2, n3, n4, z2, gz13, hz13, z14, z15, z17, z20, z42, gz44a] at gz44b
          all_goals
          obtain rfl := so_some h
          refine ⟨0, fun L hL => ?_⟩
          simp only [go_sem, ir3, E_laws_FnReached_l1, R_laws_FnReached_l1, ir3_k0, ir3_o0, ir3_r0, E_laws_FnReached_l2, R_laws_FnReached_l2, ir3_k1, ir3_o1, ir3_r1, E_laws_FnReached_l3, R_laws_FnReached_l3, ir3_k2, ir3_o2, ir3_r2, E_laws_FnReached_l4, R_laws_FnReached_l4, ir3_k2, ir3_o2, ir3_r2, E_laws_FnReached_l5, R_laws_FnReached_l5, ir3_k0, ir3_o0, ir3_r0, E_laws_FnReached_l6, R_laws_FnReached_l6, ir3_k1, ir3_o1, ir3_r1, E_laws_FnReached_l7, R_laws_FnReached_l7, ir3_k2, ir3_o2, ir3_r2, E_laws_FnReached_l8, R_laws_FnReached_l8, ir3_k2, ir3_o2, ir3_r2, fz1, z2, fz3, fz4, fz5, fz6, fz7, fz8, fz9, fz10, fz11, fz12, gz13, hz13, fz13, z14, z15, fz16, z17, fz18, fz19, z20, z42, fz43, gz44a, gz44b]
       ·try simp only [go_sem, n1, n2, n3, n4, z2, gz13, hz13, z14, z15, z17, z20] at z42
        all_goals
        rcases it_some h with ⟨z45, h⟩ | ⟨z45, h⟩
        ·try simp only [go_sem, n1, n2, n3, n4, z2, gz13, hz13, z14, z15, z17, z20, z42] at z45
         all_goals
         obtain rfl := so_some h
         refine ⟨0, fun L hL => ?_⟩
         simp only [go_sem, ir3, E_laws_FnReached_l1, R_laws_FnReached_l1, ir3_k0, ir3_o0, ir3_r0, E_laws_FnReached_l2, R_laws_FnReached_l2, ir3_k1, ir3_o1, ir3_r1, E_laws_FnReached_l3, R_laws_FnReached_l3, ir3_k2, ir3_o2, ir3_r2, E_laws_FnReached_l4, R_laws_FnReached_l4, ir3_k2, ir3_o2, ir3_r2, E_laws_FnReached_l5, R_laws_FnReached_l5, ir3_k0, ir3_o0, ir3_r0, E_laws_FnReached_l6, R_laws_FnReached_l6, ir3_k1, ir3_o1, ir3_r1, E_laws_FnReached_l7, R_laws_FnReached_l7, ir3_k2, ir3_o2, ir3_r2, E_laws_FnReached_l8, R_laws_FnReached_l8, ir3_k2, ir3_o2, ir3_r2, fz1, z2, fz3, fz4, fz5, fz6, fz7, fz8, fz9, fz10, fz11, fz12, gz13, hz13, fz13, z14, z15, fz16, z17, fz18, fz19, z20, z42, z45]
        ·try simp only [go_sem, n1, n2, n3, n4, z2, gz13, hz13, z14, z15, z17, z20, z42] at z45
         all_goals
         obtain ⟨y_49, z49, h⟩ := bd_some h
         obtain ⟨Lz49, ez49⟩ := laws_FnReached_l4_ex z49
         rcases y_49 with y_49a | y_49b
         ·dsimp only at h
          obtain rfl := so_some h
          refine ⟨Lz49, fun L hL => ?_⟩
          have ez49 := ez49 L (by omega)
          try simp only [go_sem, E_laws_FnReached_l1, R_laws_FnReached_l1, ir3_k0, ir3_o0, ir3_r0, E_laws_FnReached_l2, R_laws_FnReached_l2, ir3_k1, ir3_o1, ir3_r1, E_laws_FnReached_l3, R_laws_FnReached_l3, ir3_k2, ir3_o2, ir3_r2, E_laws_FnReached_l4, R_laws_FnReached_l4, ir3_k2, ir3_o2, ir3_r2, E_laws_FnReached_l5, R_laws_FnReached_l5, ir3_k0, ir3_o0, ir3_r0, E_laws_FnReached_l6, R_laws_FnReached_l6, ir3_k1, ir3_o1, ir3_r1, E_laws_FnReached_l7, R_laws_FnReached_l7, ir3_k2, ir3_o2, ir3_r2, E_laws_FnReached_l8, R_laws_FnReached_l8, ir3_k2, ir3_o2, ir3_r2, z2, gz13, hz13, z14, z15, z17, z20, z42, z45] at ez49
          simp only [go_sem, ir3, E_laws_FnReached_l1, R_laws_FnReached_l1, ir3_k0, ir3_o0, ir3_r0, E_laws_FnReached_l2, R_laws_FnReached_l2, ir3_k1, ir3_o1, ir3_r1, E_laws_FnReached_l3, R_laws_FnReached_l3, ir3_k2, ir3_o2, ir3_r2, E_laws_FnReached_l4, R_laws_FnReached_l4, ir3_k2, ir3_o2, ir3_r2, E_laws_FnReached_l5, R_laws_FnReached_l5, ir3_k0, ir3_o0, ir3_r0, E_laws_FnReached_l6, R_laws_FnReached_l6, ir3_k1, ir3_o1, ir3_r1, E_laws_FnReached_l7, R_laws_FnReached_l7, ir3_k2, ir3_o2, ir3_r2, E_laws_FnReached_l8, R_laws_FnReached_l8, ir3_k2, ir3_o2, ir3_r2, fz1, z2, fz3, fz4, fz5, fz6, fz7, fz8, fz9, fz10, fz11, fz12, gz13, hz13, fz13, z14, z15, fz16, z17, fz18, fz19, z20, z42, z45, ez49]
         ·dsimp only at h
          obtain rfl := so_some h
          refine ⟨Lz49, fun L hL => ?_⟩
          have ez49 := ez49 L (by omega)
          try simp only [go_sem, E_laws_FnReached_l1, R_laws_FnReached_l1, ir3_k0, ir3_o0, ir3_r0, E_laws_FnReached_l2, R_laws_FnReached_l2, ir3_k1, ir3_o1, ir3_r1, E_laws_FnReached_l3, R_laws_FnReached_l3, ir3_k2, ir3_o2, ir3_r2, E_laws_FnReached_l4, R_laws_FnReached_l4, ir3_k2, ir3_o2, ir3_r2, E_laws_FnReached_l5, R_laws_FnReached_l5, ir3_k0, ir3_o0, ir3_r0, E_laws_FnReached_l6, R_laws_FnReached_l6, ir3_k1, ir3_o1, ir3_r1, E_laws_FnReached_l7, R_laws_FnReached_l7, ir3_k2, ir3_o2, ir3_r2, E_laws_FnReached_l8, R_laws_FnReached_l8, ir3_k2, ir3_o2, ir3_r2, z2, gz13, hz13, z14, z15, z17, z20, z42, z45] at ez49
          simp only [go_sem, ir3, E_laws_FnReached_l1, R_laws_FnReached_l1, ir3_k0, ir3_o0, ir3_r0, E_laws_FnReached_l2, R_laws_FnReached_l2, ir3_k1, ir3_o1, ir3_r1, E_laws_FnReached_l3, R_laws_FnReached_l3, ir3_k2, ir3_o2, ir3_r2, E_laws_FnReached_l4, R_laws_FnReached_l4, ir3_k2, ir3_o2, ir3_r2, E_laws_FnReached_l5, R_laws_FnReached_l5, ir3_k0, ir3_o0, ir3_r0, E_laws_FnReached_l6, R_laws_FnReached_l6, ir3_k1, ir3_o1, ir3_r1, E_laws_FnReached_l7, R_laws_FnReached_l7, ir3_k2, ir3_o2, ir3_r2, E_laws_FnReached_l8, R_laws_FnReached_l8, ir3_k2, ir3_o2, ir3_r2, fz1, z2, fz3, fz4, fz5, fz6, fz7, fz8, fz9, fz10, fz11, fz12, gz13, hz13, fz13, z14, z15, fz16, z17, fz18, fz19, z20, z42, z45, ez49]
    ·try simp only [go_sem, n1, n2, n3, n4, z2, gz13, hz13, z14] at z15
     all_goals
     obtain ⟨y_50, z50, h⟩ := bd_some h
     have fz50 := Fs_63 z50
     try simp only [go_sem, z2, gz13, hz13, z14, z15] at fz50
     obtain ⟨y_51, z51, h⟩ := bd_some h
     have fz51 := Fs_65 z51
     try simp only [go_sem, z2, gz13, hz13, z14, z15] at fz51
     rcases it_some h with ⟨z52, h⟩ | ⟨z52, h⟩
     ·try simp only [go_sem, n1, n2, n3, n4, z2, gz13, hz13, z14, z15] at z52
      all_goals
      obtain ⟨y_53, z53, h⟩ := bd_some h
      have fz53 := Fs_50 z53
      try simp only [go_sem, z2, gz13, hz13, z14, z15, z52] at fz53
      rcases it_some h with ⟨z54, h⟩ | ⟨z54, h⟩
      ·try simp only [go_sem, n1, n2, n3, n4, z2, gz13, hz13, z14, z15, z52] at z54
       all_goals
       obtain rfl := so_some h
       refine ⟨0, fun L hL => ?_⟩
       simp only [go_sem, ir3, E_laws_FnReached_l1, R_laws_FnReached_l1, ir3_k0, ir3_o0, ir3_r0, E_laws_FnReached_l2, R_laws_FnReached_l2, ir3_k1, ir3_o1, ir3_r1, E_laws_FnReached_l3, R_laws_FnReached_l3, ir3_k2, ir3_o2, ir3_r2, E_laws_FnReached_l4, R_laws_FnReached_l4, ir3_k2, ir3_o2, ir3_r2, E_laws_FnReached_l5, R_laws_FnReached_l5, ir3_k0, ir3_o0, ir3_r0, E_laws_FnReached_l6, R_laws_FnReached_l6, ir3_k1, ir3_o1, ir3_r1, E_laws_FnReached_l7, R_laws_FnReached_l7, ir3_k2, ir3_o2, ir3_r2, E_laws_FnReached_l8, R_laws_FnReached_l8, ir3_k2, ir3_o2, ir3_r2, fz1, z2, fz3, fz4, fz5, fz6, fz7, fz8, fz9, fz10, fz11, fz12, gz13, hz13, fz13, z14, z15, fz50, fz51, z52, fz53, z54]
      ·try simp only [go_sem, n1, n2, n3, n4, z2, gz13, hz13, z14, z15, z52] at z54
       all_goals
       obtain ⟨y_59, z59, h⟩ := bd_some h
       obtain ⟨Lz59, ez59⟩ := laws_FnReached_l5_ex z59
       rcases y_59 with y_59a | y_59b
       ·dsimp only at h
        obtain ⟨y_65, z65, h⟩ := bd_some h
        obtain ⟨Lz65, ez65⟩ := laws_FnReached_l6_ex z65
        rcases y_65 with y_65a | y_65b
        ·dsimp only at h
         rcases it_some h with ⟨z66, h⟩ | ⟨z66, h⟩
         ·try simp only [go_sem, n1, n2, n3, n4, z2, gz13, hz13, z14, z15, z52, z54] at z66
          all_goals
          obtain ⟨y_67, z67, h⟩ := bd_some h
          have fz67 := Fs_60 z67
          try simp only [go_sem, z2, gz13, hz13, z14, z15, z52, z54, z66] at fz67
          obtain ⟨z68, h⟩ := ck_some h
          rcases or_split z68 with ⟨gz68, z68⟩ | gz68
          ·try simp only [go_sem, n1, n2, n3, n4, z2, gz13, hz13, z14, z15, z52, z54, z66] at gz68
           all_goals
           have lz68 := ix_lt z68
           have xz68 := getD_mapD (AV.int .i64) y_67.1 lz68
           try simp only [go_sem] at lz68
           try simp only [go_sem] at xz68
           try simp only [go_sem, n1, n2, n3, n4, z2, gz13, hz13, z14, z15, z52, z54, z66, gz68] at z68
           all_goals
           obtain rfl := so_some h
           refine ⟨Lz59 + Lz65, fun L hL => ?_⟩
           have ez59 := ez59 L (by omega)
           have ez65 := ez65 L (by omega)
           try simp only [go_sem, E_laws_FnReached_l1, R_laws_FnReached_l1, ir3_k0, ir3_o0, ir3_r0, E_laws_FnReached_l2, R_laws_FnReached_l2, ir3_k1, ir3_o1, ir3_r1, E_laws_FnReached_l3, R_laws_FnReached_l3, ir3_k2, ir3_o2, ir3_r2, E_laws_FnReached_l4, R_laws_FnReached_l4, ir3_k2, ir3_o2, ir3_r2, E_laws_FnReached_l5, R_laws_FnReached_l5, ir3_k0, ir3_o0, ir3_r0, E_laws_FnReached_l6, R_laws_FnReached_l6, ir3_k1, ir3_o1, ir3_r1, E_laws_FnReached_l7, R_laws_FnReached_l7, ir3_k2, ir3_o2, ir3_r2, E_laws_FnReached_l8, R_laws_FnReached_l8, ir3_k2, ir3_o2, ir3_r2, z2, gz13, hz13, z14, z15, z52, z54, z66, gz68, z68] at ez59
           try simp only [go_sem, E_laws_FnReached_l1, R_laws_FnReached_l1, ir3_k0, ir3_o0, ir3_r0, E_laws_FnReached_l2, R_laws_FnReached_l2, ir3_k1, ir3_o1, ir3_r1, E_laws_FnReached_l3, R_laws_FnReached_l3, ir3_k2, ir3_o2, ir3_r2, E_laws_FnReached_l4, R_laws_FnReached_l4, ir3_k2, ir3_o2, ir3_r2, E_laws_FnReached_l5, R_laws_FnReached_l5, ir3_k0, ir3_o0, ir3_r0, E_laws_FnReached_l6, R_laws_FnReached_l6, ir3_k1, ir3_o1, ir3_r1, E_laws_FnReached_l7, R_laws_FnReached_l7, ir3_k2, ir3_o2, ir3_r2, E_laws_FnReached_l8, R_laws_FnReached_l8, ir3_k2, ir3_o2, ir3_r2, z2, gz13, hz13, z14, z15, z52, z54, z66, gz68, z68] at ez65
           simp only [go_sem, ir3, E_laws_FnReached_l1, R_laws_FnReached_l1, ir3_k0, ir3_o0, ir3_r0, E_laws_FnReached_l2, R_laws_FnReached_l2, ir3_k1, ir3_o1, ir3_r1, E_laws_FnReached_l3, R_laws_FnReached_l3, ir3_k2, ir3_o2, ir3_r2, E_laws_FnReached_l4, R_laws_FnReached_l4, ir3_k2, ir3_o2, ir3_r2, E_laws_FnReached_l5, R_laws_FnReached_l5, ir3_k0, ir3_o0, ir3_r0, E_laws_FnReached_l6, R_laws_FnReached_l6, ir3_k1, ir3_o1, ir3_r1, E_laws_FnReached_l7, R_laws_FnReached_l7, ir3_k2, ir3_o2, ir3_r2, E_laws_FnReached_l8, R_laws_FnReached_l8, ir3_k2, ir3_o2, ir3_r2, fz1, z2, fz3, fz4, fz5, fz6, fz7, fz8, fz9, fz10, fz11, fz12, gz13, hz13, fz13, z14, z15, fz50, fz51, z52, fz53, z54, z66, fz67, gz68, z68, lz68, xz68, ez59, ez65]
          ·rcases and_f gz68 with gz68a | ⟨gz68a, gz68b⟩
           ·try simp only [go_sem, n1, n2, n3, n4, z2, gz13, hz13, z14, z15, z52, z54, z66] at gz68a
            all_goals
            obtain rfl := so_some h
            refine ⟨Lz59 + Lz65, fun L hL => ?_⟩
            have ez59 := ez59 L (by omega)
            have ez65 := ez65 L (by omega)
            try simp only [go_sem, E_laws_FnReached_l1, R_laws_FnReached_l1, ir3_k0, ir3_o0, ir3_r0, E_laws_FnReached_l2, R_laws_FnReached_l2, ir3_k1, ir3_o1, ir3_r1, E_laws_FnReached_l3, R_laws_FnReached_l3, ir3_k2, ir3_o2, ir3_r2, E_laws_FnReached_l4, R_laws_FnReached_l4, ir3_k2, ir3_o2, ir3_r2, E_laws_FnReached_l5, R_laws_FnReached_l5, ir3_k0, ir3_o0, ir3_r0, E_laws_FnReached_l6, R_laws_FnReached_l6, ir3_k1, ir3_o1, ir3_r1, E_laws_FnReached_l7, R_laws_FnReached_l7, ir3_k2, ir3_o2, ir3_r2, E_laws_FnReached_l8, R_laws_FnReached_l8, ir3_k2, ir3_o2, ir3_r2, z2, gz13, hz13, z14, z15, z52, z54, z66, gz68a] at ez59
            try simp only [go_sem, E_laws_FnReached_l1, R_laws_FnReached_l1, ir3_k0, ir3_o0, ir3_r0, E_laws_FnReached_l2, R_laws_FnReached_l2, ir3_k1, ir3_o1, ir3_r1, E_laws_FnReached_l3, R_laws_FnReached_l3, ir3_k2, ir3_o2, ir3_r2, E_laws_FnReached_l4, R_laws_FnReached_l4, ir3_k2, ir3_o2, ir3_r2, E_laws_FnReached_l5, R_laws_FnReached_l5, ir3_k0, ir3_o0, ir3_r0, E_laws_FnReached_l6, R_laws_FnReached_l6, ir3_k1, ir3_o1, ir3_r1, E_laws_FnReached_l7, R_laws_FnReached_l7, ir3_k2, ir3_o2, ir3_r2, E_laws_FnReached_l8, R_laws_FnReached_l8, ir3_k2, ir3_o2, ir3_r2, z2, gz13, hz13, z14, z15, z52, z54, z66, gz68a] at ez65
            simp only [go_sem, ir3, E_laws_FnReached_l1, R_laws_FnReached_l1, ir3_k0, ir3_o0, ir3_r0, E_laws_FnReached_l2, R_laws_FnReached_l2, ir3_k1, ir3_o1, ir3_r1, E_laws_FnReached_l3, R_laws_FnReached_l3, ir3_k2, ir3_o2, ir3_r2, E_laws_FnReached_l4, R_laws_FnReached_l4, ir3_k2, ir3_o2, ir3_r2, E_laws_FnReached_l5, R_laws_FnReached_l5, ir3_k0, ir3_o0, ir3_r0, E_laws_FnReached_l6, R_laws_FnReached_l6, ir3_k1, ir3_o1, ir3_r1, E_laws_FnReached_l7, R_laws_FnReached_l7, ir3_k2, ir3_o2, ir3_r2, E_laws_FnReached_l8, R_laws_FnReached_l8, ir3_k2, ir3_o2, ir3_r2, fz1, z2, fz3, fz4, fz5, fz6, fz7, fz8, fz9, fz10, fz11, fz12, gz13, hz13, fz13, z14, z15, fz50, fz51, z52, fz53, z54, z66, fz67, gz68a, ez59, ez65]
           ·try simp only [go_sem, n1, n2, n3, n4, z2, gz13, hz13, z14, z15, z52, z54, z66] at gz68a
            all_goals
            try simp only [go_sem, n1, n2, n3, n4, z2, gz13, hz13, z14, z15, z52, z54, z66, gz68a] at gz68b
            all_goals
            obtain rfl := so_some h
            refine ⟨Lz59 + Lz65, fun L hL => ?_⟩
            have ez59 := ez59 L (by omega)
            have ez65 := ez65 L (by omega)
            try simp only [go_sem, E_laws_FnReached_l1, R_laws_FnReached_l1, ir3_k0, ir3_o0, ir3_r0, E_laws_FnReached_l2, R_laws_FnReached_l2, ir3_k1, ir3_o1, ir3_r1, E_laws_FnReached_l3, R_laws_FnReached_l3, ir3_k2, ir3_o2, ir3_r2, E_laws_FnReached_l4, R_laws_FnReached_l4, ir3_k2, ir3_o2, ir3_r2, E_laws_FnReached_l5, R_laws_FnReached_l5, ir3_k0, ir3_o0, ir3_r0, E_laws_FnReached_l6, R_laws_FnReached_l6, ir3_k1, ir3_o1, ir3_r1, E_laws_FnReached_l7, R_laws_FnReached_l7, ir3_k2, ir3_o2, ir3_r2, E_laws_FnReached_l8, R_laws_FnReached_l8, ir3_k2, ir3_o2, ir3_r2, z2, gz13, hz13, z14, z15, z52, z54, z66, gz68a, gz68b] at ez59
            try simp only [go_sem, E_laws_FnReached_l1, R_laws_FnReached_l1, ir3_k0, ir3_o0, ir3_r0, E_laws_FnReached_l2, R_laws_FnReached_l2, ir3_k1, ir3_o1, ir3_r1, E_laws_FnReached_l3, R_laws_FnReached_l3, ir3_k2, ir3_o2, ir3_r2, E_laws_FnReached_l4, R_laws_FnReached_l4, ir3_k2, ir3_o2, ir3_r2, E_laws_FnReached_l5, R_laws_FnReached_l5, ir3_k0, ir3_o0, ir3_r0, E_laws_FnReached_l6, R_laws_FnReached_l6, ir3_k1, ir3_o1, ir3_r1, E_laws_FnReached_l7, R_laws_FnReached_l7, ir3_k2, ir3_o2, ir3_r2, E_laws_FnReached_l8, R_laws_FnReached_l8, ir3_k2, ir3_o2, ir3_r2, z2, gz13, hz13, z14, z15, z52, z54, z66, gz68a, gz68b] at ez65
            simp only [go_sem, ir3, E_laws_FnReached_l1, R_laws_FnReached_l1, ir3_k0, ir3_o0, ir3_r0, E_laws_FnReached_l2, R_laws_FnReached_l2, ir3_k1, ir3_o1, ir3_r1, E_laws_FnReached_l3, R_laws_FnReached_l3, ir3_k2, ir3_o2, ir3_r2, E_laws_FnReached_l4, R_laws_FnReached_l4, ir3_k2, ir3_o2, ir3_r2, E_laws_FnReached_l5, R_laws_FnReached_l5, ir3_k0, ir3_o0, ir3_r0, E_laws_FnReached_l6, R_laws_FnReached_l6, ir3_k1, ir3_o1, ir3_r1, E_laws_FnReached_l7, R_laws_FnReached_l7, ir3_k2, ir3_o2, ir3_r2, E_laws_FnReached_l8, R_laws_FnReached_l8, ir3_k2, ir3_o2, ir3_r2, fz1, z2, fz3, fz4, fz5, fz6, fz7, fz8, fz9, fz10, fz11, fz12, gz13, hz13, fz13, z14, z15, fz50, fz51, z52, fz53, z54, z66, fz67, gz68a, gz68b, ez59, ez65]
         ·try simp only [go_sem, n1, n2, n3, n4, z2, gz13, hz13, z14, z15, z52, z54] at z66
          all_goals
          rcases it_some h with ⟨z69, h⟩ | ⟨z69, h⟩
          ·try simp only [go_sem, n1, n2, n3, n4, z2, gz13, hz13, z14, z15, z52, z54, z66] at z69
           all_goals
           obtain rfl := so_some h
           refine ⟨Lz59 + Lz65, fun L hL => ?_⟩
           have ez59 := ez59 L (by omega)
           have ez65 := ez65 L (by omega)
           try simp only [go_sem, E_laws_FnReached_l1, R_laws_FnReached_l1, ir3_k0, ir3_o0, ir3_r0, E_laws_FnReached_l2, R_laws_FnReached_l2, ir3_k1, ir3_o1, ir3_r1, E_laws_FnReached_l3, R_laws_FnReached_l3, ir3_k2, ir3_o2, ir3_r2, E_laws_FnReached_l4, R_laws_FnReached_l4, ir3_k2, ir3_o2, ir3_r2, E_laws_FnReached_l5, R_laws_FnReached_l5, ir3_k0, ir3_o0, ir3_r0, E_laws_FnReached_l6, R_laws_FnReached_l6, ir3_k1, ir3_o1, ir3_r1, E_laws_FnReached_l7, R_laws_FnReached_l7, ir3_k2, ir3_o2, ir3_r2, E_laws_FnReached_l8, R_laws_FnReached_l8, ir3_k2, ir3_o2, ir3_r2, z2, gz13, hz13, z14, z15, z52, z54, z66, z69] at ez59
           try simp only [go_sem, E_laws_FnReached_l1, R_laws_FnReached_l1, ir3_k0, ir3_o0, ir3_r0, E_laws_FnReached_l2, R_laws_FnReached_l2, ir3_k1, ir3_o1, ir3_r1, E_laws_FnReached_l3, R_laws_FnReached_l3, ir3_k2, ir3_o2, ir3_r2, E_laws_FnReached_l4, R_laws_FnReached_l4, ir3_k2, ir3_o2, ir3_r2, E_laws_FnReached_l5, R_laws_FnReached_l5, ir3_k0, ir3_o0, ir3_r0, E_laws_FnReached_l6, R_laws_FnReached_l6, ir3_k1, ir3_o1, ir3_r1, E_laws_FnReached_l7, R_laws_FnReached_l7, ir3_k2, ir3_o2, ir3_r2, E_laws_FnReached_l8, R_laws_FnReached_l8, ir3_k2, ir3_o2, ir3_r2, z2, gz13, hz13, z14, z15, z52, z54, z66, z69] at ez65
           simp only [go_sem, ir3, E_laws_FnReached_l1, R_laws_FnReached_l1, ir3_k0, ir3_o0, ir3_r0, E_laws_FnReached_l2, R_laws_FnReached_l2, ir3_k1, ir3_o1, ir3_r1, E_laws_FnReached_l3, R_laws_FnReached_l3, ir3_k2, ir3_o2, ir3_r2, E_laws_FnReached_l4, R_laws_FnReached_l4, ir3_k2, ir3_o2, ir3_r2, E_laws_FnReached_l5, R_laws_FnReached_l5, ir3_k0, ir3_o0, ir3_r0, E_laws_FnReached_l6, R_laws_FnReached_l6, ir3_k1, ir3_o1, ir3_r1, E_laws_FnReached_l7, R_laws_FnReached_l7, ir3_k2, ir3_o2, ir3_r2, E_laws_FnReached_l8, R_laws_FnReached_l8, ir3_k2, ir3_o2, ir3_r2, fz1, z2, fz3, fz4, fz5, fz6, fz7, fz8, fz9, fz10, fz11, fz12, gz13, hz13, fz13, z14, z15, fz50, fz51, z52, fz53, z54, z66, z69, ez59, ez65]
          ·try simp only [go_sem, n1, n2, n3, n4, z2, gz13, hz13, z14, z15, z52, z54, z66] at z69
           all_goals
           obtain ⟨y_73, z73, h⟩ := bd_some h
           obtain ⟨Lz73, ez73⟩ := laws_FnReached_l7_ex z73
           rcases y_73 with y_73a | y_73b
           ·dsimp only at h
            obtain rfl := so_some h
            refine ⟨Lz59 + Lz65 + Lz73, fun L hL => ?_⟩
            have ez59 := ez59 L (by omega)
            have ez65 := ez65 L (by omega)
            have ez73 := ez73 L (by omega)
            try simp only [go_sem, E_laws_FnReached_l1, R_laws_FnReached_l1, ir3_k0, ir3_o0, ir3_r0, E_laws_FnReached_l2, R_laws_FnReached_l2, ir3_k1, ir3_o1, ir3_r1, E_laws_FnReached_l3, R_laws_FnReached_l3, ir3_k2, ir3_o2, ir3_r2, E_laws_FnReached_l4, R_laws_FnReached_l4, ir3_k2, ir3_o2, ir3_r2, E_laws_FnReached_l5, R_laws_FnReached_l5, ir3_k0, ir3_o0, ir3_r0, E_laws_FnReached_l6, R_laws_FnReached_l6, ir3_k1, ir3_o1, ir3_r1, E_laws_FnReached_l7, R_laws_FnReached_l7, ir3_k2, ir3_o2, ir3_r2, E_laws_FnReached_l8, R_laws_FnReached_l8, ir3_k2, ir3_o2, ir3_r2, z2, gz13, hz13, z14, z15, z52, z54, z66, z69] at ez59
            try simp only [go_sem, E_laws_FnReached_l1, R_laws_FnReached_l1, ir3_k0, ir3_o0, ir3_r0, E_laws_FnReached_l2, R_laws_FnReached_l2, ir3_k1, ir3_o1, ir3_r1, E_laws_FnReached_l3, R_laws_FnReached_l3, ir3_k2, ir3_o2, ir3_r2, E_laws_FnReached_l4, R_laws_FnReached_l4, ir3_k2, ir3_o2, ir3_r2, E_laws_FnReached_l5, R_laws_FnReached_l5, ir3_k0, ir3_o0, ir3_r0, E_laws_FnReached_l6, R_laws_FnReached_l6, ir3_k1, ir3_o1, ir3_r1, E_laws_FnReached_l7, R_laws_FnReached_l7, ir3_k2, ir3_o2, ir3_r2, E_laws_FnReached_l8, R_laws_FnReached_l8, ir3_k2, ir3_o2, ir3_r2, z2, gz13, hz13, z14, z15, z52, z54, z66, z69] at ez65
            try simp only [go_sem, E_laws_FnReached_l1, R_laws_FnReached_l1, ir3_k0, ir3_o0, ir3_r0, E_laws_FnReached_l2, R_laws_FnReached_l2, ir3_k1, ir3_o1, ir3_r1, E_laws_FnReached_l3, R_laws_FnReached_l3, ir3_k2, ir3_o2, ir3_r2, E_laws_FnReached_l4, R_laws_FnReached_l4, ir3_k2, ir3_o2, ir3_r2, E_laws_FnReached_l5, R_laws_FnReached_l5, ir3_k0, ir3_o0, ir3_r0, E_laws_FnReached_l6, R_laws_FnReached_l6, ir3_k1, ir3_o1, ir3_r1, E_laws_FnReached_l7, R_laws_FnReached_l7, ir3_k2, ir3_o2, ir3_r2, E_laws_FnReached_l8, R_laws_FnReached_l8, ir3_k2, ir3_o2, ir3_r2, z2, gz13, hz13, z14, z15, z52, z54, z66, z69] at ez73
            simp only [go_sem, ir3, E_laws_FnReached_l1, R_laws_FnReached_l1, ir3_k0, ir3_o0, ir3_r0, E_laws_FnReached_l2, R_laws_FnReached_l2, ir3_k1, ir3_o1, ir3_r1, E_laws_FnReached_l3, R_laws_FnReached_l3, ir3_k2, ir3_o2, ir3_r2, E_laws_FnReached_l4, R_laws_FnReached_l4, ir3_k2, ir3_o2, ir3_r2, E_laws_FnReached_l5, R_laws_FnReached_l5, ir3_k0, ir3_o0, ir3_r0, E_laws_FnReached_l6, R_laws_FnReached_l6, ir3_k1, ir3_o1, ir3_r1, E_laws_FnReached_l7, R_laws_FnReached_l7, ir3_k2, ir3_o2, ir3_r2, E_laws_FnReached_l8, R_laws_FnReached_l8, ir3_k2, ir3_o2, ir3_r2, fz1, z2, fz3, fz4, fz5, fz6, fz7, fz8, fz9, fz10, fz11, fz12, gz13, hz13, fz13, z14, z15, fz50, fz51, z52, fz53, z54, z66, z69, ez59, ez65, ez73]
           ·dsimp only at h
            obtain rfl := so_some h
            refine ⟨Lz59 + Lz65 + Lz73, fun L hL => ?_⟩
            have ez59 := ez59 L (by omega)
            have ez65 := ez65 L (by omega)
            have ez73 := ez73 L (by omega)
            try simp only [go_sem, E_laws_FnReached_l1, R_laws_FnReached_l1, ir3_k0, ir3_o0, ir3_r0, E_laws_FnReached_l2, R_laws_FnReached_l2, ir3_k1, ir3_o1, ir3_r1, E_laws_FnReached_l3, R_laws_FnReached_l3, ir3_k2, ir3_o2, ir3_r2, E_laws_FnReached_l4, R_laws_FnReached_l4, ir3_k2, ir3_o2, ir3_r2, E_laws_FnReached_l5, R_laws_FnReached_l5, ir3_k0, ir3_o0, ir3_r0, E_laws_FnReached_l6, R_laws_FnReached_l6, ir3_k1, ir3_o1, ir3_r1, E_laws_FnReached_l7, R_laws_FnReached_l7, ir3_k2, ir3_o2, ir3_r2, E_laws_FnReached_l8, R_laws_FnReached_l8, ir3_k2, ir3_o2, ir3_r2, z2, gz13, hz13, z14, z15, z52, z54, z66, z69] at ez59
            try simp only [go_sem, E_laws_FnReached_l1, R_laws_FnReached_l1, ir3_k0, ir3_o0, ir3_r0, E_laws_FnReached_l2, R_laws_FnReached_l2, ir3_k1, ir3_o1, ir3_r1, E_laws_FnReached_l3, R_laws_FnReached_l3, ir3_k2, ir3_o2, ir3_r2, E_laws_FnReached_l4, R_laws_FnReached_l4, ir3_k2, ir3_o2, ir3_r2, E_laws_FnReached_l5, R_laws_FnReached_l5, ir3_k0, ir3_o0, ir3_r0, E_laws_FnReached_l6, R_laws_FnReached_l6, ir3_k1, ir3_o1, ir3_r1, E_laws_FnReached_l7, R_laws_FnReached_l7, ir3_k2, ir3_o2, ir3_r2, E_laws_FnReached_l8, R_laws_FnReached_l8, ir3_k2, ir3_o2, ir3_r2, z2, gz13, hz13, z14, z15, z52, z54, z66, z69] at ez65
            try simp only [go_sem, E_laws_FnReached_l1, R_laws_FnReached_l1, ir3_k0, ir3_o0, ir3_r0, E_laws_FnReached_l2, R_laws_FnReached_l2, ir3_k1, ir3_o1, ir3_r1, E_laws_FnReached_l3, R_laws_FnReached_l3, ir3_k2, ir3_o2, ir3_r2, E_laws_FnReached_l4, R_laws_FnReached_l4, ir3_k2, ir3_o2, ir3_r2, E_laws_FnReached_l5, R_laws_FnReached_l5, ir3_k0, ir3_o0, ir3_r0, E_laws_FnReached_l6, R_laws_FnReached_l6, ir3_k1, ir3_o1, ir3_r1, E_laws_FnReached_l7, R_laws_FnReached_l7, ir3_k2, ir3_o2, ir3_r2, E_laws_FnReached_l8, R_laws_FnReached_l8, ir3_k2, ir3_o2, ir3_r2, z2, gz13, hz13, z14, z15, z52, z54, z66, z69] at ez73
            simp only [go_sem, ir3, E_laws_FnReached_l1, R_laws_FnReached_l1, ir3_k0, ir3_o0, ir3_r0, E_laws_FnReached_l2, R_laws_FnReached_l2, ir3_k1, ir3_o1, ir3_r1, E_laws_FnReached_l3, R_laws_FnReached_l3, ir3_k2, ir3_o2, ir3_r2, E_laws_FnReached_l4, R_laws_FnReached_l4, ir3_k2, ir3_o2, ir3_r2, E_laws_FnReached_l5, R_laws_FnReached_l5, ir3_k0, ir3_o0, ir3_r0, E_laws_FnReached_l6, R_laws_FnReached_l6, ir3_k1, ir3_o1, ir3_r1, E_laws_FnReached_l7, R_laws_FnReached_l7, ir3_k2, ir3_o2, ir3_r2, E_laws_FnReached_l8, R_laws_FnReached_l8, ir3_k2, ir3_o2, ir3_r2, fz1, z2, fz3, fz4, fz5, fz6, fz7, fz8, fz9, fz10, fz11, fz12, gz13, hz13, fz13, z14, z15, fz50, fz51, z52, fz53, z54, z66, z69, ez59, ez65, ez73]
        ·dsimp only at h
         obtain rfl := so_some h
         refine ⟨Lz59 + Lz65, fun L hL => ?_⟩
         have ez59 := ez59 L (by omega)
         have ez65 := ez65 L (by omega)
         try simp only [go_sem, E_laws_FnReached_l1, R_laws_FnReached_l1, ir3_k0, ir3_o0, ir3_r0, E_laws_FnReached_l2, R_laws_FnReached_l2, ir3_k1, ir3_o1, ir3_r1, E_laws_FnReached_l3, R_laws_FnReached_l3, ir3_k2, ir3_o2, ir3_r2, E_laws_FnReached_l4, R_laws_FnReached_l4, ir3_k2, ir3_o2, ir3_r2, E_laws_FnReached_l5, R_laws_FnReached_l5, ir3_k0, ir3_o0, ir3_r0, E_laws_FnReached_l6, R_laws_FnReached_l6, ir3_k1, ir3_o1, ir3_r1, E_laws_FnReached_l7, R_laws_FnReached_l7, ir3_k2, ir3_o2, ir3_r2, E_laws_FnReached_l8, R_laws_FnReached_l8, ir3_k2, ir3_o2, ir3_r2, z2, gz13, hz13, z14, z15, z52, z54] at ez59
         try simp only [go_sem, E_laws_FnReached_l1, R_laws_FnReached_l1, ir3_k0, ir3_o0, ir3_r0, E_laws_FnReached_l2, R_laws_FnReached_l2, ir3_k1, ir3_o1, ir3_r1, E_laws_FnReached_l3, R_laws_FnReached_l3, ir3_k2, ir3_o2, ir3_r2, E_laws_FnReached_l4, R_laws_FnReached_l4, ir3_k2, ir3_o2, ir3_r2, E_laws_FnReached_l5, R_laws_FnReached_l5, ir3_k0, ir3_o0, ir3_r0, E_laws_FnReached_l6, R_laws_FnReached_l6, ir3_k1, ir3_o1, ir3_r1, E_laws_FnReached_l7, R_laws_FnReached_l7, ir3_k2, ir3_o2, ir3_r2, E_laws_FnReached_l8, R_laws_FnReached_l8, ir3_k2, ir3_o2, ir3_r2, z2, gz13, hz13, z14, z15, z52, z54] at ez65
         simp only [go_sem, ir3, E_laws_FnReached_l1, R_laws_FnReached_l1, ir3_k0, ir3_o0, ir3_r0, E_laws_FnReached_l2, R_laws_FnReached_l2, ir3_k1, ir3_o1, ir3_r1, E_laws_FnReached_l3, R_laws_FnReached_l3, ir3_k2, ir3_o2, ir3_r2, E_laws_FnReached_l4, R_laws_FnReached_l4, ir3_k2, ir3_o2, ir3_r2, E_laws_FnReached_l5, R_laws_FnReached_l5, ir3_k0, ir3_o0, ir3_r0, E_laws_FnReached_l6, R_laws_FnReached_l6, ir3_k1, ir3_o1, ir3_r1, E_laws_FnReached_l7, R_laws_FnReached_l7, ir3_k2, ir3_o2, ir3_r2, E_laws_FnReached_l8, R_laws_FnReached_l8, ir3_k2, ir3_o2, ir3_r2, fz1, z2, fz3, fz4, fz5, fz6, fz7, fz8, fz9, fz10, fz11, fz12, gz13, hz13, fz13, z14, z15, fz50, fz51, z52, fz53, z54, ez59, ez65]
       ·dsimp only at h
        obtain rfl := so_some h
        refine ⟨Lz59, fun L hL => ?_⟩
        have ez59 := ez59 L (by omega)
        try simp only [go_sem, E_laws_FnReached_l1, R_laws_FnReached_l1, ir3_k0, ir3_o0, ir3_r0, E_laws_FnReached_l2, R_laws_FnReached_l2, ir3_k1, ir3_o1, ir3_r1, E_laws_FnReached_l3, R_laws_FnReached_l3, ir3_k2, ir3_o2, ir3_r2, E_laws_FnReached_l4, R_laws_FnReached_l4, ir3_k2, ir3_o2, ir3_r2, E_laws_FnReached_l5, R_laws_FnReached_l5, ir3_k0, ir3_o0, ir3_r0, E_laws_FnReached_l6, R_laws_FnReached_l6, ir3_k1, ir3_o1, ir3_r1, E_laws_FnReached_l7, R_laws_FnReached_l7, ir3_k2, ir3_o2, ir3_r2, E_laws_FnReached_l8, R_laws_FnReached_l8, ir3_k2, ir3_o2, ir3_r2, z2, gz13, hz13, z14, z15, z52, z54] at ez59
        simp only [go_sem, ir3, E_laws_FnReached_l1, R_laws_FnReached_l1, ir3_k0, ir3_o0, ir3_r0, E_laws_FnReached_l2, R_laws_FnReached_l2, ir3_k1, ir3_o1, ir3_r1, E_laws_FnReached_l3, R_laws_FnReached_l3, ir3_k2, ir3_o2, ir3_r2, E_laws_FnReached_l4, R_laws_FnReached_l4, ir3_k2, ir3_o2, ir3_r2, E_laws_FnReached_l5, R_laws_FnReached_l5, ir3_k0, ir3_o0, ir3_r0, E_laws_FnReached_l6, R_laws_FnReached_l6, ir3_k1, ir3_o1, ir3_r1, E_laws_FnReached_l7, R_laws_FnReached_l7, ir3_k2, ir3_o2, ir3_r2, E_laws_FnReached_l8, R_laws_FnReached_l8, ir3_k2, ir3_o2, ir3_r2, fz1, z2, fz3, fz4, fz5, fz6, fz7, fz8, fz9, fz10, fz11, fz12, gz13, hz13, fz13, z14, z15, fz50, fz51, z52, fz53, z54, ez59]
     ·try simp only [go_sem, n1, n2, n3, n4, z2, gz13, hz13, z14, z15] at z52
      all_goals
      rcases it_some h with ⟨z74, h⟩ | ⟨z74, h⟩
      ·try simp only [go_sem, n1, n2, n3, n4, z2, gz13, hz13, z14, z15, z52] at z74
       all_goals
       obtain ⟨y_75, z75, h⟩ := bd_some h
       have fz75 := Fs_60 z75
       try simp only [go_sem, z2, gz13, hz13, z14, z15, z52, z74] at fz75
       obtain ⟨z76, h⟩ := ck_some h
       rcases or_split z76 with ⟨gz76, z76⟩ | gz76
       ·try simp only [go_sem, n1, n2, n3, n4, z2, gz13, hz13, z14, z15, z52, z74] at gz76
        all_goals
        have lz76 := ix_lt z76
        have xz76 := getD_mapD (AV.int .i64) y_75.1 lz76
        try simp only [go_sem] at lz76
        try simp only [go_sem] at xz76
        try simp only [go_sem, n1, n2, n3, n4, z2, gz13, hz13, z14, z15, z52, z74, gz76] at z76
        all_goals
        obtain rfl := so_some h
        refine ⟨0, fun L hL => ?_⟩
        simp only [go_sem, ir3, E_laws_FnReached_l1, R_laws_FnReached_l1, ir3_k0, ir3_o0, ir3_r0, E_laws_FnReached_l2, R_laws_FnReached_l2, ir3_k1, ir3_o1, ir3_r1, E_laws_FnReached_l3, R_laws_FnReached_l3, ir3_k2, ir3_o2, ir3_r2, E_laws_FnReached_l4, R_laws_FnReached_l4, ir3_k2, ir3_o2, ir3_r2, E_laws_FnReached_l5, R_laws_FnReached_l5, ir3_k0, ir3_o0, ir3_r0, E_laws_FnReached_l6, R_laws_FnReached_l6, ir3_k1, ir3_o1, ir3_r1, E_laws_FnReached_l7, R_laws_FnReached_l7, ir3_k2, ir3_o2, ir3_r2, E_laws_FnReached_l8, R_laws_FnReached_l8, ir3_k2, ir3_o2, ir3_r2, fz1, z2, fz3, fz4, fz5, fz6, fz7, fz8, fz9, fz10, fz11, fz12, gz13, hz13, fz13, z14, z15, fz50, fz51, z52, z74, fz75, gz76, z76, lz76, xz76]
       ·rcases and_f gz76 with gz76a | ⟨gz76a, gz76b⟩
        ·try simp only [go_sem, n1, n2, n3, n4, z2, gz13, hz13, z14, z15, z52, z74] at gz76a
         all_goals
         obtain rfl := so_some h
         refine ⟨0, fun L hL => ?_⟩
         simp only [go_sem, ir3, E_laws_FnReached_l1, R_laws_FnReached_l1, ir3_k0, ir3_o0, ir3_r0, E_laws_FnReached_l2, R_laws_FnReached_l2, ir3_k1, ir3_o1, ir3_r1, E_laws_FnReached_l3, R_laws_FnReached_l3, ir3_k2, ir3_o2, ir3_r2, E_laws_FnReached_l4, R_laws_FnReached_l4, ir3_k2, ir3_o2, ir3_r2, E_laws_FnReached_l5, R_laws_FnReached_l5, ir3_k0, ir3_o0, ir3_r0, E_laws_FnReached_l6, R_laws_FnReached_l6, ir3_k1, ir3_o1, ir3_r1, E_laws_FnReached_l7, R_laws_FnReached_l7, ir3_k2, ir3_o2, ir3_r2, E_laws_FnReached_l8, R_laws_FnReached_l8, ir3_k2, ir3_o2, ir3_r2, fz1, z2, fz3, fz4, fz5, fz6, fz7, fz8, fz9, fz10, fz11, fz12, gz13, hz13, fz13, z14, z15, fz50, fz51, z52, z74, fz75, gz76a]
        ·try simp only [go_sem, n1, n2, n3, n4, z2, gz13, hz13, z14, z15, z52, z74] at gz76a
         all_goals
         try simp only [go_sem, n1, n2, n3, n4, z2, gz13, hz13, z14, z15, z52, z74, gz76a] at gz76b
         all_goals
         obtain rfl := so_some h
         refine ⟨0, fun L hL => ?_⟩
         simp only [go_sem, ir3, E_laws_FnReached_l1, R_laws_FnReached_l1, ir3_k0, ir3_o0, ir3_r0, E_laws_FnReached_l2, R_laws_FnReached_l2, ir3_k1, ir3_o1, ir3_r1, E_laws_FnReached_l3, R_laws_FnReached_l3, ir3_k2, ir3_o2, ir3_r2, E_laws_FnReached_l4, R_laws_FnReached_l4, ir3_k2, ir3_o2, ir3_r2, E_laws_FnReached_l5, R_laws_FnReached_l5, ir3_k0, ir3_o0, ir3_r0, E_laws_FnReached_l6, R_laws_FnReached_l6, ir3_k1, ir3_o1, ir3_r1, E_laws_FnReached_l7, R_laws_FnReached_l7, ir3_k2, ir3_o2, ir3_r2, E_laws_FnReached_l8, R_laws_FnReached_l8, ir3_k2, ir3_o2, ir3_r2, fz1, z2, fz3, fz4, fz5, fz6, fz7, fz8, fz9, fz10, fz11, fz12, gz13, hz13, fz13, z14, z15, fz50, fz51, z52, z74, fz75, gz76a, gz76b]
      ·try simp only [go_sem, n1, n2, n3, n4, z2, gz13, hz13, z14, z15, z52] at z74
       all_goals
       rcases it_some h with ⟨z77, h⟩ | ⟨z77, h⟩
       ·try simp only [go_sem, n1, n2, n3, n4, z2, gz13, hz13, z14, z15, z52, z74] at z77
        all_goals
        obtain rfl := so_some h
        refine ⟨0, fun L hL => ?_⟩
        simp only [go_sem, ir3, E_laws_FnReached_l1, R_laws_FnReached_l1, ir3_k0, ir3_o0, ir3_r0, E_laws_FnReached_l2, R_laws_FnReached_l2, ir3_k1, ir3_o1, ir3_r1, E_laws_FnReached_l3, R_laws_FnReached_l3, ir3_k2, ir3_o2, ir3_r2, E_laws_FnReached_l4, R_laws_FnReached_l4, ir3_k2, ir3_o2, ir3_r2, E_laws_FnReached_l5, R_laws_FnReached_l5, ir3_k0, ir3_o0, ir3_r0, E_laws_FnReached_l6, R_laws_FnReached_l6, ir3_k1, ir3_o1, ir3_r1, E_laws_FnReached_l7, R_laws_FnReached_l7, ir3_k2, ir3_o2, ir3_r2, E_laws_FnReached_l8, R_laws_FnReached_l8, ir3_k2, ir3_o2, ir3_r2, fz1, z2, fz3, fz4, fz5, fz6, fz7, fz8, fz9, fz10, fz11, fz12, gz13, hz13, fz13, z14, z15, fz50, fz51, z52, z74, z77]
       ·try simp only [go_sem, n1, n2, n3, n4, z2, gz13, hz13, z14, z15, z52, z74] at z77
        all_goals
        obtain ⟨y_81, z81, h⟩ := bd_some h
        obtain ⟨Lz81, ez81⟩ := laws_FnReached_l8_ex z81
        rcases y_81 with y_81a | y_81b
        ·dsimp only at h
         obtain rfl := so_some h
         refine ⟨Lz81, fun L hL => ?_⟩
         have ez81 := ez81 L (by omega)
         try simp only [go_sem, E_laws_FnReached_l1, R_laws_FnReached_l1, ir3_k0, ir3_o0, ir3_r0, E_laws_FnReached_l2, R_laws_FnReached_l2, ir3_k1, ir3_o1, ir3_r1, E_laws_FnReached_l3, R_laws_FnReached_l3, ir3_k2, ir3_o2, ir3_r2, E_laws_FnReached_l4, R_laws_FnReached_l4, ir3_k2, ir3_o2, ir3_r2, E_laws_FnReached_l5, R_laws_FnReached_l5, ir3_k0, ir3_o0, ir3_r0, E_laws_FnReached_l6, R_laws_FnReached_l6, ir3_k1, ir3_o1, ir3_r1, E_laws_FnReached_l7, R_laws_FnReached_l7, ir3_k2, ir3_o2, ir3_r2, E_laws_FnReached_l8, R_laws_FnReached_l8, ir3_k2, ir3_o2, ir3_r2, z2, gz13, hz13, z14, z15, z52, z74, z77] at ez81
         simp only [go_sem, ir3, E_laws_FnReached_l1, R_laws_FnReached_l1, ir3_k0, ir3_o0, ir3_r0, E_laws_FnReached_l2, R_laws_FnReached_l2, ir3_k1, ir3_o1, ir3_r1, E_laws_FnReached_l3, R_laws_FnReached_l3, ir3_k2, ir3_o2, ir3_r2, E_laws_FnReached_l4, R_laws_FnReached_l4, ir3_k2, ir3_o2, ir3_r2, E_laws_FnReached_l5, R_laws_FnReached_l5, ir3_k0, ir3_o0, ir3_r0, E_laws_FnReached_l6, R_laws_FnReached_l6, ir3_k1, ir3_o1, ir3_r1, E_laws_FnReached_l7, R_laws_FnReached_l7, ir3_k2, ir3_o2, ir3_r2, E_laws_FnReached_l8, R_laws_FnReached_l8, ir3_k2, ir3_o2, ir3_r2, fz1, z2, fz3, fz4, fz5, fz6, fz7, fz8, fz9, fz10, fz11, fz12, gz13, hz13, fz13, z14, z15, fz50, fz51, z52, z74, z77, ez81]
        ·dsimp only at h
         obtain rfl := so_some h
         refine ⟨Lz81, fun L hL => ?_⟩
         have ez81 := ez81 L (by omega)
         try simp only [go_sem, E_laws_FnReached_l1, R_laws_FnReached_l1, ir3_k0, ir3_o0, ir3_r0, E_laws_FnReached_l2, R_laws_FnReached_l2, ir3_k1, ir3_o1, ir3_r1, E_laws_FnReached_l3, R_laws_FnReached_l3, ir3_k2, ir3_o2, ir3_r2, E_laws_FnReached_l4, R_laws_FnReached_l4, ir3_k2, ir3_o2, ir3_r2, E_laws_FnReached_l5, R_laws_FnReached_l5, ir3_k0, ir3_o0, ir3_r0, E_laws_FnReached_l6, R_laws_FnReached_l6, ir3_k1, ir3_o1, ir3_r1, E_laws_FnReached_l7, R_laws_FnReached_l7, ir3_k2, ir3_o2, ir3_r2, E_laws_FnReached_l8, R_laws_FnReached_l8, ir3_k2, ir3_o2, ir3_r2, z2, gz13, hz13, z14, z15, z52, z74, z77] at ez81
         simp only [go_sem, ir3, E_laws_FnReached_l1, R_laws_FnReached_l1, ir3_k0, ir3_o0, ir3_r0, E_laws_FnReached_l2, R_laws_FnReached_l2, ir3_k1, ir3_o1, ir3_r1, E_laws_FnReached_l3, R_laws_FnReached_l3, ir3_k2, ir3_o2, ir3_r2, E_laws_FnReached_l4, R_laws_FnReached_l4, ir3_k2, ir3_o2, ir3_r2, E_laws_FnReached_l5, R_laws_FnReached_l5, ir3_k0, ir3_o0, ir3_r0, E_laws_FnReached_l6, R_laws_FnReached_l6, ir3_k1, ir3_o1, ir3_r1, E_laws_FnReached_l7, R_laws_FnReached_l7, ir3_k2, ir3_o2, ir3_r2, E_laws_FnReached_l8, R_laws_FnReached_l8, ir3_k2, ir3_o2, ir3_r2, fz1, z2, fz3, fz4, fz5, fz6, fz7, fz8, fz9, fz10, fz11, fz12, gz13, hz13, fz13, z14, z15, fz50, fz51, z52, z74, z77, ez81]
  ·have gz13n := no_f gz13
   try simp only [go_sem, n1, n2, n3, n4, z2] at gz13n
   all_goals
   rcases it_some h with ⟨z14, h⟩ | ⟨z14, h⟩
   ·try simp only [go_sem, n1, n2, n3, n4, z2, gz13n] at z14
    all_goals
    obtain rfl := so_some h
    refine ⟨0, fun L hL => ?_⟩
    simp only [go_sem, ir3, E_laws_FnReached_l1, R_laws_FnReached_l1, ir3_k0, ir3_o0, ir3_r0, E_laws_FnReached_l2, R_laws_FnReached_l2, ir3_k1, ir3_o1, ir3_r1, E_laws_FnReached_l3, R_laws_FnReached_l3, ir3_k2, ir3_o2, ir3_r2, E_laws_FnReached_l4, R_laws_FnReached_l4, ir3_k2, ir3_o2, ir3_r2, E_laws_FnReached_l5, R_laws_FnReached_l5, ir3_k0, ir3_o0, ir3_r0, E_laws_FnReached_l6, R_laws_FnReached_l6, ir3_k1, ir3_o1, ir3_r1, E_laws_FnReached_l7, R_laws_FnReached_l7, ir3_k2, ir3_o2, ir3_r2, E_laws_FnReached_l8, R_laws_FnReached_l8, ir3_k2, ir3_o2, ir3_r2, fz1, z2, fz3, fz4, fz5, fz6, fz7, fz8, fz9, fz10, fz11, fz12, gz13n, z14]
   ·try simp only [go_sem, n1, n2, n3, n4, z2, gz13n] at z14
    all_goals
    (simp_all)


end Go.Proofs.Ytlnpnpjkpkdoeaa
