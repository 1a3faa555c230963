/- Codes and contracts of the functions that CA reaches, and that their typed forms say what they do. No condition. -/
import Derived.Test.YtfmhpfmibopkeaaDoorCAKa
import Derived.Test.YtfmhpfmibopkeaaDoorRows
import Derived.WalkKit
namespace Go.Proofs.YtfmhpfmibopkeaaDoor
open Go Go.RowKit
set_option linter.unusedVariables false
set_option linter.unusedSimpArgs false
set_option maxRecDepth 10000

def ir3_b0 : IR := .seq (.test false [ PM 94 11, PM 95 9, PO 96 (.len false (.s 0)), PO 97 (.bin false .lss (.s 2) (.s 0))] (.s 0) (.skip) (.exit 0)) (.seq (.block 1 (.seq (.anyo 24 [ SO 0 100 (.movz (.v 9)), SO 1 101 (.mov (.v 11)), SO 2 102 (.ixAddr 1 (.s 0) (.s 1)), SO 3 103 (.load false 1 (.s 2)), SO 4 104 (.bin false .lss (.s 3) (I6 0)), SO 5 105 (.mov (.s 4)), ⟨.slot 6, 106, (some ((.s 5), false)), .mov (.v 9)⟩, ⟨.slot 7, 107, (some ((.s 5), false)), .mov (.v 11)⟩, ⟨.slot 8, 108, (some ((.s 5), false)), .ixAddr 1 (.s 6) (.s 7)⟩, ⟨.slot 9, 109, (some ((.s 5), false)), .load false 1 (.s
 8)⟩, ⟨.slot 10, 110, (some ((.s 5), false)), .mov (.v 3)⟩, ⟨.slot 11, 111, (some ((.s 5), false)), .len false (.s 10)⟩, ⟨.slot 12, 112, (some ((.s 5), false)), .bin false .geq (.s 9) (.s 11)⟩, SO 13 113 (.pick (.s 5) (.c (.bool true)) (.s 12)), SO 14 114 (.mov (.s 13)), ⟨.slot 15, 115, (some ((.s 14), false)), .mov (.v 9)⟩, ⟨.slot 16, 116, (some ((.s 14), false)), .mov (.v 11)⟩, ⟨.slot 17, 117, (some ((.s 14), false)), .slice 1 (.s 15) none (some (.s 16))⟩, ⟨.slot 18, 118, (some ((.s 14), false)), .mov (.v 9)⟩, ⟨.slot 19, 119, (some ((.s 14), false)), .mov (.v 11)⟩, ⟨.slot 20, 120, (some ((.s
 14), false)), .ixAddr 1 (.s 18) (.s 19)⟩, ⟨.slot 21, 121, (some ((.s 14), false)), .load false 1 (.s 20)⟩, ⟨.slot 22, 122, (some ((.s 14), false)), .call 12 [(.s 17), (.s 21)]⟩, SO 23 123 (.pick (.s 14) (.c (.bool true)) (.s 22))] [[1, 0, 2, 3, 4, 5, 6, 7, 8, 9, 10, 11, 12, 13, 14, 15, 16, 17, 18, 19, 20, 21, 22, 23]] (.cond (.s 23) (.seq (.region false [ VO 2 4 (.mov (.c (.bool false)))]) (.ret)) (.skip))) (.seq (.test false [ PM 124 11, PO 125 (.bin false .gtr (.s 0) (I6 0))] (.s 0) (.seq (.region false [ PM 126 3, PM 127 9, PM 128 11, PO 129 (.bin false .sub (.s 0) (I6 1)), PO 130 (.ixAddr
 1 (.s 2) (.s 0)), PO 131 (.load false 1 (.s 0)), PO 132 (.ixAddr 5 (.s 5) (.s 0)), PO 133 (.load true 5 (.s 0)), VO 12 14 (.alloc (.agg [.str [], .int .i64 (0), .int .i64 (0), .int .i64 (0), .int .i64 (0)])), ⟨.no, 0, none, .store 5 (.v 12) (.s 0)⟩]) (.seq (.region false [ PM 134 3, PM 135 9, PM 136 11, PO 137 (.ixAddr 1 (.s 1) (.s 0)), PO 138 (.load false 1 (.s 0)), PO 139 (.ixAddr 5 (.s 4) (.s 0)), PO 140 (.load true 5 (.s 0)), VO 13 15 (.alloc (.agg [.str [], .int .i64 (0), .int .i64 (0), .int .i64 (0), .int .i64 (0)])), ⟨.no, 0, none, .store 5 (.v 13) (.s 0)⟩]) (.test false [ PO 141
 (.fldAddr 4 (.v 12)), PO 142 (.load false 1 (.s 0)), PO 143 (.fldAddr 3 (.v 12)), PO 144 (.load false 1 (.s 0)), PO 145 (.bin false .sub (.s 2) (.s 0)), PO 146 (.fldAddr 4 (.v 13)), PO 147 (.load false 1 (.s 0)), PO 148 (.fldAddr 3 (.v 13)), PO 149 (.load false 1 (.s 0)), PO 150 (.bin false .sub (.s 2) (.s 0)), PO 151 (.bin false .lss (.s 5) (.s 0))] (.s 0) (.seq (.region false [ VO 2 4 (.mov (.c (.bool false)))]) (.ret)) (.skip)))) (.skip)) (.seq (.region false [ PM 153 3, PM 154 3, PM 155 9, PM 156 11, PO 157 (.ixAddr 1 (.s 1) (.s 0)), PO 158 (.load false 1 (.s 0)), PO 159 (.ixAddr 5 (.s 4)
 (.s 0)), PO 160 (.fldAddr 4 (.s 0)), PO 161 (.load false 1 (.s 0)), PO 162 (.call 13 [(.s 8), (.s 0)]), PO 152 (.mov (.s 0)), PO 163 (.ext (.s 0) 0), PO 164 (.ext (.s 1) 1), VS 14 16 1, VS 15 17 0]) (.test false [ PM 165 15, PO 166 (.bin false .neq (.s 0) (I6 0)), PO 167 (.mov (.s 0)), ⟨.push, 168, (some ((.s 0), false)), .mov (.v 14)⟩, ⟨.push, 169, (some ((.s 1), false)), .mov (.v 9)⟩, ⟨.push, 170, (some ((.s 2), false)), .mov (.v 11)⟩, ⟨.push, 171, (some ((.s 3), false)), .ixAddr 1 (.s 1) (.s 0)⟩, ⟨.push, 172, (some ((.s 4), false)), .load false 1 (.s 0)⟩, ⟨.push, 173, (some ((.s 5),
 false)), .call 12 [(.s 4), (.s 0)]⟩, ⟨.push, 174, (some ((.s 6), false)), .un .not (.s 0)⟩, PO 175 (.pick (.s 7) (.c (.bool true)) (.s 0)), PO 176 (.mov (.s 0)), ⟨.push, 177, (some ((.s 0), false)), .mov (.v 3)⟩, ⟨.push, 178, (some ((.s 1), false)), .mov (.v 9)⟩, ⟨.push, 179, (some ((.s 2), false)), .mov (.v 11)⟩, ⟨.push, 180, (some ((.s 3), false)), .ixAddr 1 (.s 1) (.s 0)⟩, ⟨.push, 181, (some ((.s 4), false)), .load false 1 (.s 0)⟩, ⟨.push, 182, (some ((.s 5), false)), .ixAddr 5 (.s 4) (.s 0)⟩, ⟨.push, 183, (some ((.s 6), false)), .load true 5 (.s 0)⟩, ⟨.push, 184, (some ((.s 7), false)),
 .call 14 [(.s 0)]⟩, ⟨.push, 185, (some ((.s 8), false)), .bin false .eql (.s 0) (.c (.str []))⟩, PO 186 (.pick (.s 9) (.c (.bool true)) (.s 0))] (.s 0) (.seq (.region false [ VO 2 4 (.mov (.c (.bool false)))]) (.ret)) (.skip)))))) (.region false [ PM 98 11, PO 99 (.bin false .add (.s 0) (I6 1)), VS 11 13 0]))
def ir3_k0 : List Bool := [false, false, false, true, false, false, false, false, false, true, false, true, false, false, false, false]
def ir3_o0 : List Bool := [false, false, false, false, false, false, false, false, false, false, false, false, false, false, false, false]
def ir3_r0 : List Bool := [false, false, true, false, false, false, false, false, false, false, false, false, false, false, false, false]
def ir3_v : List Nat := [0, 1, 4, 5, 6, 7, 8, 9, 10, 11, 12, 13, 14, 15, 16, 17]
def ir3 : AFn := ⟨2, 16, .seq (.region false [ VO 2 4 (.mov (.c (.bool false)))]) (.seq (.test false [ PM 18 0, PM 19 1, PO 20 (.call 4 [(.s 1), (.s 0)])] (.s 0) (.seq (.region false [ VO 2 4 (.mov (.c (.bool true)))]) (.ret)) (.skip)) (.seq (.region false [ PM 21 0, PO 22 (.call 5 [(.s 0)]), VS 3 5 0]) (.seq (.region false [ PM 23 1, PO 24 (.call 6 [(.s 0)]), VO 4 6 (.alloc (.agg [.str [], .int .i64 (0), .int .i64 (0), .int .i64 (0), .int .i64 (0)])), ⟨.no, 0, none, .store 5 (.v 4) (.s 0)⟩]) (.seq (.region false [ PM 26 3, PO 27 (.load true 5 (.v 4)), PO 28 (.call 7 [(.s 1), (.s 0)]), PO 25
 (.mov (.s 0)), PO 29 (.ext (.s 0) 0), PO 30 (.ext (.s 1) 1), VS 5 7 1, VS 6 8 0]) (.seq (.test false [ PM 31 6, PO 32 (.bin false .eql (.s 0) (I6 0))] (.s 0) (.seq (.region false [ PM 34 5, PO 35 (.fldAddr 0 (.v 4)), PO 36 (.load false 1 (.s 0)), PO 37 (.call 8 [(.s 2), (.s 0)]), PO 33 (.mov (.s 0)), PO 38 (.ext (.s 0) 0), PO 39 (.ext (.s 1) 1), VS 7 9 1, VS 8 10 0]) (.anyo 38 [ SO 0 40 (.mov (.v 5)), SO 1 41 (.callp 9 [(.s 0)]), SO 2 42 (.un .not (.s 1)), SO 3 43 (.mov (.s 2)), ⟨.slot 4, 44, (some ((.s 3), false)), .mov (.v 5)⟩, ⟨.slot 5, 45, (some ((.s 3), false)), .call 10 [(.s 4)]⟩, ⟨.slot
 6, 46, (some ((.s 3), false)), .un .not (.s 5)⟩, SO 7 47 (.pick (.s 3) (.c (.bool true)) (.s 6)), SO 8 48 (.mov (.s 7)), ⟨.slot 9, 49, (some ((.s 8), false)), .mov (.v 5)⟩, ⟨.slot 10, 50, (some ((.s 8), false)), .len false (.s 9)⟩, ⟨.slot 11, 51, (some ((.s 8), false)), .mov (.v 3)⟩, ⟨.slot 12, 52, (some ((.s 8), false)), .len false (.s 11)⟩, ⟨.slot 13, 53, (some ((.s 8), false)), .bin false .add (.s 12) (I6 1)⟩, ⟨.slot 14, 54, (some ((.s 8), false)), .bin false .neq (.s 10) (.s 13)⟩, SO 15 55 (.pick (.s 8) (.c (.bool true)) (.s 14)), SO 16 56 (.mov (.s 15)), ⟨.slot 17, 57, (some ((.s 16),
 false)), .mov (.v 8)⟩, ⟨.slot 18, 58, (some ((.s 16), false)), .bin false .neq (.s 17) (I6 0)⟩, SO 19 59 (.pick (.s 16) (.c (.bool true)) (.s 18)), SO 20 60 (.mov (.s 19)), ⟨.slot 21, 61, (some ((.s 20), false)), .mov (.v 7)⟩, ⟨.slot 22, 62, (some ((.s 20), false)), .bin false .lss (.s 21) (I6 0)⟩, SO 23 63 (.pick (.s 20) (.c (.bool true)) (.s 22)), SO 24 64 (.mov (.s 23)), ⟨.slot 25, 65, (some ((.s 24), false)), .mov (.v 7)⟩, ⟨.slot 26, 66, (some ((.s 24), false)), .mov (.v 5)⟩, ⟨.slot 27, 67, (some ((.s 24), false)), .len false (.s 26)⟩, ⟨.slot 28, 68, (some ((.s 24), false)), .bin false
 .geq (.s 25) (.s 27)⟩, SO 29 69 (.pick (.s 24) (.c (.bool true)) (.s 28)), SO 30 70 (.mov (.s 29)), ⟨.slot 31, 71, (some ((.s 30), false)), .mov (.v 5)⟩, ⟨.slot 32, 72, (some ((.s 30), false)), .mov (.v 7)⟩, ⟨.slot 33, 73, (some ((.s 30), false)), .ixAddr 5 (.s 31) (.s 32)⟩, ⟨.slot 34, 74, (some ((.s 30), false)), .load true 5 (.s 33)⟩, ⟨.slot 35, 75, (some ((.s 30), false)), .load true 5 (.v 4)⟩, ⟨.slot 36, 76, (some ((.s 30), false)), .eqA true [2, 1, 1, 1, 1] (.s 34) (.s 35)⟩, SO 37 77 (.pick (.s 30) (.c (.bool true)) (.s 36))] [] (.cond (.s 37) (.seq (.region false [ VO 2 4 (.mov (.c
 (.bool false)))]) (.ret)) (.skip)))) (.test false [ PM 78 6, PO 79 (.bin false .neq (.s 0) (I6 4))] (.s 0) (.seq (.region false [ VO 2 4 (.mov (.c (.bool false)))]) (.ret)) (.skip))) (.seq (.region false [ PM 81 3, PO 82 (.call 11 [(.s 0)]), PO 80 (.mov (.s 0)), PO 83 (.ext (.s 0) 0), PO 84 (.ext (.s 1) 1), VO 9 11 (.movz (.s 1)), VS 10 12 0]) (.seq (.test false [ PM 85 10, PO 86 (.bin false .neq (.s 0) (I6 0)), PO 87 (.mov (.s 0)), ⟨.push, 88, (some ((.s 0), false)), .mov (.v 9)⟩, ⟨.push, 89, (some ((.s 1), false)), .len false (.s 0)⟩, ⟨.push, 90, (some ((.s 2), false)), .mov (.v 3)⟩, ⟨.push,
 91, (some ((.s 3), false)), .len false (.s 0)⟩, ⟨.push, 92, (some ((.s 4), false)), .bin false .neq (.s 2) (.s 0)⟩, PO 93 (.pick (.s 5) (.c (.bool true)) (.s 0))] (.s 0) (.seq (.region false [ VO 2 4 (.mov (.c (.bool false)))]) (.ret)) (.skip)) (.seq (.seq (.region false [ VO 11 13 (.mov (I6 0))]) (.block 0 (.loop ir3_k0 ir3_o0 ir3_r0 ir3_b0))) (.seq (.region false [ VO 2 4 (.mov (.c (.bool true)))]) (.ret)))))))))), [.t 2]⟩
noncomputable def t_laws_FnCatalogues : List (Nat × Ctr) := [(4, c_10), (5, c_21), (6, c_23), (7, c_38), (8, c_42), (9, c_9), (10, c_30), (11, c_54), (12, c_55), (13, c_58), (14, c_66)]
theorem lk_laws_FnCatalogues_4 : look t_laws_FnCatalogues 4 = some c_10 := rfl
theorem lk_laws_FnCatalogues_5 : look t_laws_FnCatalogues 5 = some c_21 := rfl
theorem lk_laws_FnCatalogues_6 : look t_laws_FnCatalogues 6 = some c_23 := rfl
theorem lk_laws_FnCatalogues_7 : look t_laws_FnCatalogues 7 = some c_38 := rfl
theorem lk_laws_FnCatalogues_8 : look t_laws_FnCatalogues 8 = some c_42 := rfl
theorem lk_laws_FnCatalogues_9 : look t_laws_FnCatalogues 9 = some c_9 := rfl
theorem lk_laws_FnCatalogues_10 : look t_laws_FnCatalogues 10 = some c_30 := rfl
theorem lk_laws_FnCatalogues_11 : look t_laws_FnCatalogues 11 = some c_54 := rfl
theorem lk_laws_FnCatalogues_12 : look t_laws_FnCatalogues 12 = some c_55 := rfl
theorem lk_laws_FnCatalogues_13 : look t_laws_FnCatalogues 13 = some c_58 := rfl
theorem lk_laws_FnCatalogues_14 : look t_laws_FnCatalogues 14 = some c_66 := rfl
noncomputable def c_laws_FnCatalogues : Ctr := mkF t_laws_FnCatalogues ir3 [.bor, .bor]
theorem s_laws_FnCatalogues : Sound Tryd.prog 3 c_laws_FnCatalogues := mkF_sound _ rfl (snd_cons s_10 (snd_cons s_21 (snd_cons s_23 (snd_cons s_38 (snd_cons s_42 (snd_cons s_9 (snd_cons s_30 (snd_cons s_54 (snd_cons s_55 (snd_cons s_58 (snd_cons s_66 snd_nil))))))))))) (by kernel_rfl : chkFn Tryd.prog 3 ir3 ir3_v = true)
theorem M_laws_FnCatalogues : c_laws_FnCatalogues.modes = [.bor, .bor] := rfl
theorem Fl_laws_FnCatalogues : c_laws_FnCatalogues.flat = true := rfl
attribute [go_sem] M_laws_FnCatalogues Fl_laws_FnCatalogues
attribute [go_sem] lk_laws_FnCatalogues_4 lk_laws_FnCatalogues_5 lk_laws_FnCatalogues_6 lk_laws_FnCatalogues_7 lk_laws_FnCatalogues_8 lk_laws_FnCatalogues_9 lk_laws_FnCatalogues_10 lk_laws_FnCatalogues_11 lk_laws_FnCatalogues_12 lk_laws_FnCatalogues_13 lk_laws_FnCatalogues_14
def E_laws_FnCatalogues_l1 (list : List Star) (order : List Int) : Int → St
 | i => ⟨[.any, .any, .any, .own 3200000, .any, .any, .any, .any, .any, .sl 1 (List.map (AV.int .i64) order), .any, .int .i64 i, .any, .any, .any, .any], [], [(3200000, ⟨5, List.map Star_av list⟩)], true⟩
def R_laws_FnCatalogues_l1 (list : List Star) (order : List Int) : (Unit ⊕ Bool) → Res
 | .inl y => (.exit 0, ⟨[.any, .any, .any, .any, .any, .any, .any, .any, .any, .any, .any, .any, .any, .any, .any, .any], [], [], true⟩)
 | .inr y => (.ret, ⟨[.any, .any, .bool y, .any, .any, .any, .any, .any, .any, .any, .any, .any, .any, .any, .any, .any], [], [], true⟩)
set_option maxHeartbeats 64000000 in
theorem laws_FnCatalogues_l1_ex {list : List Star} {order : List Int} {sgm_ : Int} {rho_ : Unit ⊕ Bool} (h : whileE (laws_FnCatalogues_l1 list order) sgm_ = some rho_) : ∃ L0, ∀ L, L0 ≤ L → iter (exec (look t_laws_FnCatalogues) L ir3_b0) ir3_k0 ir3_o0 ir3_r0 L (E_laws_FnCatalogues_l1 list order sgm_) = R_laws_FnCatalogues_l1 list order rho_ := by
 refine loop_ex (E := E_laws_FnCatalogues_l1 list order) (R := R_laws_FnCatalogues_l1 list order) (fun y => by first | (intro c; cases c) | (rcases y with y | y <;> (intro c; cases c)) | (rcases y with y | y | y <;> (intro c; cases c))) ?_ h
 clear h
 intro i o_ h
 dsimp only [laws_FnCatalogues_l1] at h
 rcases it_some h with ⟨z14, h⟩ | ⟨z14, h⟩
 ·try simp only [go_sem, n1, n2, n3, n4] at z14
  all_goals
  obtain ⟨z15, h⟩ := ck_some h
  have lz15 := ix_lt z15
  have xz15 := getD_mapD (AV.int .i64) order lz15
  try simp only [go_sem] at lz15
  try simp only [go_sem] at xz15
  try simp only [go_sem, n1, n2, n3, n4, z14] at z15
  all_goals
  obtain ⟨z16, h⟩ := ck_some h
  rcases or_split z16 with ⟨gz16, z16⟩ | gz16
  ·try simp only [go_sem, n1, n2, n3, n4, z14, z15] at gz16
   all_goals
   try simp only [go_sem, n1, n2, n3, n4, z14, z15, gz16] at z16
   all_goals
   obtain ⟨z17, h⟩ := ck_some h
   rcases or_split z17 with ⟨gz17, z17⟩ | gz17
   ·try simp only [go_sem, n1, n2, n3, n4, z14, z15, gz16, z16] at gz17
    all_goals
    obtain ⟨y_17, hz17⟩ := Option.isSome_iff_exists.1 z17
    have fz17 := Fs_55 hz17
    try simp only [go_sem, n1, n2, n3, n4, z14, z15, gz16, z16, gz17] at hz17
    all_goals
    try simp only [go_sem, z14, z15, gz16, z16, gz17] at fz17
    rcases it_some h with ⟨z18, h⟩ | ⟨z18, h⟩
    ·try simp only [go_sem, n1, n2, n3, n4, z14, z15, gz16, z16, gz17, hz17] at z18
     all_goals
     obtain rfl := so_some h
     refine ⟨0, fun L hL => ?_⟩
     simp only [go_sem, ir3, E_laws_FnCatalogues_l1, R_laws_FnCatalogues_l1, ir3_b0, ir3_k0, ir3_o0, ir3_r0, z14, z15, lz15, xz15, gz16, z16, gz17, hz17, fz17, z18]
    ·try simp only [go_sem, n1, n2, n3, n4, z14, z15, gz16, z16, gz17, hz17] at z18
     all_goals
     rcases it_some h with ⟨z19, h⟩ | ⟨z19, h⟩
     ·try simp only [go_sem, n1, n2, n3, n4, z14, z15, gz16, z16, gz17, hz17, z18] at z19
      all_goals
      obtain ⟨z20, h⟩ := ck_some h
      have lz20 := ix_lt z20
      have xz20 := getD_mapD (AV.int .i64) order lz20
      try simp only [go_sem] at lz20
      try simp only [go_sem] at xz20
      try simp only [go_sem, n1, n2, n3, n4, z14, z15, gz16, z16, gz17, hz17, z18, z19] at z20
      all_goals
      obtain ⟨z21, h⟩ := ck_some h
      have lz21 := ix_lt z21
      have xz21 := getD_mapD Star_av list lz21
      try simp only [go_sem] at lz21
      try simp only [go_sem] at xz21
      try simp only [go_sem, n1, n2, n3, n4, z14, z15, gz16, z16, gz17, hz17, z18, z19, z20] at z21
      all_goals
      obtain ⟨z22, h⟩ := ck_some h
      have lz22 := ix_lt z22
      have xz22 := getD_mapD Star_av list lz22
      try simp only [go_sem] at lz22
      try simp only [go_sem] at xz22
      try simp only [go_sem, n1, n2, n3, n4, z14, z15, gz16, z16, gz17, hz17, z18, z19, z20, z21] at z22
      all_goals
      rcases it_some h with ⟨z23, h⟩ | ⟨z23, h⟩
      ·try simp only [go_sem, n1, n2, n3, n4, z14, z15, gz16, z16, gz17, hz17, z18, z19, z20, z21, z22] at z23
       all_goals
       obtain rfl := so_some h
       refine ⟨0, fun L hL => ?_⟩
       simp only [go_sem, ir3, E_laws_FnCatalogues_l1, R_laws_FnCatalogues_l1, ir3_b0, ir3_k0, ir3_o0, ir3_r0, z14, z15, lz15, xz15, gz16, z16, gz17, hz17, fz17, z18, z19, z20, lz20, xz20, z21, lz21, xz21, z22, lz22, xz22, z23]
      ·try simp only [go_sem, n1, n2, n3, n4, z14, z15, gz16, z16, gz17, hz17, z18, z19, z20, z21, z22] at z23
       all_goals
       obtain ⟨y_24, z24, h⟩ := bd_some h
       have fz24 := Fs_58 z24
       try simp only [go_sem, z14, z15, gz16, z16, gz17, hz17, z18, z19, z20, z21, z22, z23] at fz24
       obtain ⟨z25, h⟩ := ck_some h
       rcases or_split z25 with ⟨gz25, z25⟩ | gz25
       ·try simp only [go_sem, n1, n2, n3, n4, z14, z15, gz16, z16, gz17, hz17, z18, z19, z20, z21, z22, z23] at gz25
        all_goals
        obtain ⟨y_25, hz25⟩ := Option.isSome_iff_exists.1 z25
        have fz25 := Fs_55 hz25
        try simp only [go_sem, n1, n2, n3, n4, z14, z15, gz16, z16, gz17, hz17, z18, z19, z20, z21, z22, z23, gz25] at hz25
        all_goals
        try simp only [go_sem, z14, z15, gz16, z16, gz17, hz17, z18, z19, z20, z21, z22, z23, gz25] at fz25
        obtain ⟨z26, h⟩ := ck_some h
        rcases or_split z26 with ⟨gz26, z26⟩ | gz26
        ·try simp only [go_sem, n1, n2, n3, n4, z14, z15, gz16, z16, gz17, hz17, z18, z19, z20, z21, z22, z23, gz25, hz25] at gz26
         all_goals
         obtain ⟨y_26, hz26⟩ := Option.isSome_iff_exists.1 z26
         have fz26 := Fs_66 hz26
         try simp only [go_sem, n1, n2, n3, n4, z14, z15, gz16, z16, gz17, hz17, z18, z19, z20, z21, z22, z23, gz25, hz25, gz26] at hz26
         all_goals
         try simp only [go_sem, z14, z15, gz16, z16, gz17, hz17, z18, z19, z20, z21, z22, z23, gz25, hz25, gz26] at fz26
         rcases it_some h with ⟨z27, h⟩ | ⟨z27, h⟩
         ·try simp only [go_sem, n1, n2, n3, n4, z14, z15, gz16, z16, gz17, hz17, z18, z19, z20, z21, z22, z23, gz25, hz25, gz26, hz26] at z27
          all_goals
          obtain rfl := so_some h
          refine ⟨0, fun L hL => ?_⟩
          simp only [go_sem, ir3, E_laws_FnCatalogues_l1, R_laws_FnCatalogues_l1, ir3_b0, ir3_k0, ir3_o0, ir3_r0, z14, z15, lz15, xz15, gz16, z16, gz17, hz17, fz17, z18, z19, z20, lz20, xz20, z21, lz21, xz21, z22, lz22, xz22, z23, fz24, gz25, hz25, fz25, gz26, hz26, fz26, z27]
         ·try simp only [go_sem, n1, n2, n3, n4, z14, z15, gz16, z16, gz17, hz17, z18, z19, z20, z21, z22, z23, gz25, hz25, gz26, hz26] at z27
          all_goals
          obtain rfl := so_some h
          refine ⟨0, fun L hL => ?_⟩
          simp only [go_sem, ir3, E_laws_FnCatalogues_l1, R_laws_FnCatalogues_l1, ir3_b0, ir3_k0, ir3_o0, ir3_r0, z14, z15, lz15, xz15, gz16, z16, gz17, hz17, fz17, z18, z19, z20, lz20, xz20, z21, lz21, xz21, z22, lz22, xz22, z23, fz24, gz25, hz25, fz25, gz26, hz26, fz26, z27]
        ·have gz26n := no_f gz26
         rcases or_t gz26n with gz26na | ⟨gz26na, gz26nb⟩
         ·try simp only [go_sem, n1, n2, n3, n4, z14, z15, gz16, z16, gz17, hz17, z18, z19, z20, z21, z22, z23, gz25, hz25] at gz26na
          all_goals
          (simp_all)
         ·have gz26nan := no_f gz26na
          have gz26nbn := no_t gz26nb
          try simp only [go_sem, n1, n2, n3, n4, z14, z15, gz16, z16, gz17, hz17, z18, z19, z20, z21, z22, z23, gz25, hz25] at gz26nan
          all_goals
          try simp only [go_sem, n1, n2, n3, n4, z14, z15, gz16, z16, gz17, hz17, z18, z19, z20, z21, z22, z23, gz25, hz25, gz26nan] at gz26nbn
          all_goals
          rcases it_some h with ⟨z27, h⟩ | ⟨z27, h⟩
          ·try simp only [go_sem, n1, n2, n3, n4, z14, z15, gz16, z16, gz17, hz17, z18, z19, z20, z21, z22, z23, gz25, hz25, gz26nan, gz26nbn] at z27
           all_goals
           obtain rfl := so_some h
           refine ⟨0, fun L hL => ?_⟩
           simp only [go_sem, ir3, E_laws_FnCatalogues_l1, R_laws_FnCatalogues_l1, ir3_b0, ir3_k0, ir3_o0, ir3_r0, z14, z15, lz15, xz15, gz16, z16, gz17, hz17, fz17, z18, z19, z20, lz20, xz20, z21, lz21, xz21, z22, lz22, xz22, z23, fz24, gz25, hz25, fz25, gz26nan, gz26nbn, z27]
          ·try simp only [go_sem, n1, n2, n3, n4, z14, z15, gz16, z16, gz17, hz17, z18, z19, z20, z21, z22, z23, gz25, hz25, gz26nan, gz26nbn] at z27
           all_goals
           (simp_all)
       ·have gz25n := no_f gz25
        have gz25nn := no_t gz25n
        try simp only [go_sem, n1, n2, n3, n4, z14, z15, gz16, z16, gz17, hz17, z18, z19, z20, z21, z22, z23] at gz25nn
        all_goals
        obtain ⟨z26, h⟩ := ck_some h
        rcases it_some h with ⟨z27, h⟩ | ⟨z27, h⟩
        ·try simp only [go_sem, n1, n2, n3, n4, z14, z15, gz16, z16, gz17, hz17, z18, z19, z20, z21, z22, z23, gz25nn] at z27
         all_goals
         obtain rfl := so_some h
         refine ⟨0, fun L hL => ?_⟩
         simp only [go_sem, ir3, E_laws_FnCatalogues_l1, R_laws_FnCatalogues_l1, ir3_b0, ir3_k0, ir3_o0, ir3_r0, z14, z15, lz15, xz15, gz16, z16, gz17, hz17, fz17, z18, z19, z20, lz20, xz20, z21, lz21, xz21, z22, lz22, xz22, z23, fz24, gz25nn, z27]
        ·try simp only [go_sem, n1, n2, n3, n4, z14, z15, gz16, z16, gz17, hz17, z18, z19, z20, z21, z22, z23, gz25nn] at z27
         all_goals
         (simp_all)
     ·try simp only [go_sem, n1, n2, n3, n4, z14, z15, gz16, z16, gz17, hz17, z18] at z19
      all_goals
      obtain ⟨z28, h⟩ := ck_some h
      have lz28 := ix_lt z28
      have xz28 := getD_mapD Star_av list lz28
      try simp only [go_sem] at lz28
      try simp only [go_sem] at xz28
      try simp only [go_sem, n1, n2, n3, n4, z14, z15, gz16, z16, gz17, hz17, z18, z19] at z28
      all_goals
      obtain ⟨y_29, z29, h⟩ := bd_some h
      have fz29 := Fs_58 z29
      try simp only [go_sem, z14, z15, gz16, z16, gz17, hz17, z18, z19, z28] at fz29
      obtain ⟨z30, h⟩ := ck_some h
      rcases or_split z30 with ⟨gz30, z30⟩ | gz30
      ·try simp only [go_sem, n1, n2, n3, n4, z14, z15, gz16, z16, gz17, hz17, z18, z19, z28] at gz30
       all_goals
       obtain ⟨y_30, hz30⟩ := Option.isSome_iff_exists.1 z30
       have fz30 := Fs_55 hz30
       try simp only [go_sem, n1, n2, n3, n4, z14, z15, gz16, z16, gz17, hz17, z18, z19, z28, gz30] at hz30
       all_goals
       try simp only [go_sem, z14, z15, gz16, z16, gz17, hz17, z18, z19, z28, gz30] at fz30
       obtain ⟨z31, h⟩ := ck_some h
       rcases or_split z31 with ⟨gz31, z31⟩ | gz31
       ·try simp only [go_sem, n1, n2, n3, n4, z14, z15, gz16, z16, gz17, hz17, z18, z19, z28, gz30, hz30] at gz31
        all_goals
        obtain ⟨y_31, hz31⟩ := Option.isSome_iff_exists.1 z31
        have fz31 := Fs_66 hz31
        try simp only [go_sem, n1, n2, n3, n4, z14, z15, gz16, z16, gz17, hz17, z18, z19, z28, gz30, hz30, gz31] at hz31
        all_goals
        try simp only [go_sem, z14, z15, gz16, z16, gz17, hz17, z18, z19, z28, gz30, hz30, gz31] at fz31
        rcases it_some h with ⟨z32, h⟩ | ⟨z32, h⟩
        ·try simp only [go_sem, n1, n2, n3, n4, z14, z15, gz16, z16, gz17, hz17, z18, z19, z28, gz30, hz30, gz31, hz31] at z32
         all_goals
         obtain rfl := so_some h
         refine ⟨0, fun L hL => ?_⟩
         simp only [go_sem, ir3, E_laws_FnCatalogues_l1, R_laws_FnCatalogues_l1, ir3_b0, ir3_k0, ir3_o0, ir3_r0, z14, z15, lz15, xz15, gz16, z16, gz17, hz17, fz17, z18, z19, z28, lz28, xz28, fz29, gz30, hz30, fz30, gz31, hz31, fz31, z32]
        ·try simp only [go_sem, n1, n2, n3, n4, z14, z15, gz16, z16, gz17, hz17, z18, z19, z28, gz30, hz30, gz31, hz31] at z32
         all_goals
         obtain rfl := so_some h
         refine ⟨0, fun L hL => ?_⟩
         simp only [go_sem, ir3, E_laws_FnCatalogues_l1, R_laws_FnCatalogues_l1, ir3_b0, ir3_k0, ir3_o0, ir3_r0, z14, z15, lz15, xz15, gz16, z16, gz17, hz17, fz17, z18, z19, z28, lz28, xz28, fz29, gz30, hz30, fz30, gz31, hz31, fz31, z32]
       ·have gz31n := no_f gz31
        rcases or_t gz31n with gz31na | ⟨gz31na, gz31nb⟩
        ·try simp only [go_sem, n1, n2, n3, n4, z14, z15, gz16, z16, gz17, hz17, z18, z19, z28, gz30, hz30] at gz31na
         all_goals
         (simp_all)
        ·have gz31nan := no_f gz31na
         have gz31nbn := no_t gz31nb
         try simp only [go_sem, n1, n2, n3, n4, z14, z15, gz16, z16, gz17, hz17, z18, z19, z28, gz30, hz30] at gz31nan
         all_goals
         try simp only [go_sem, n1, n2, n3, n4, z14, z15, gz16, z16, gz17, hz17, z18, z19, z28, gz30, hz30, gz31nan] at gz31nbn
         all_goals
         rcases it_some h with ⟨z32, h⟩ | ⟨z32, h⟩
         ·try simp only [go_sem, n1, n2, n3, n4, z14, z15, gz16, z16, gz17, hz17, z18, z19, z28, gz30, hz30, gz31nan, gz31nbn] at z32
          all_goals
          obtain rfl := so_some h
          refine ⟨0, fun L hL => ?_⟩
          simp only [go_sem, ir3, E_laws_FnCatalogues_l1, R_laws_FnCatalogues_l1, ir3_b0, ir3_k0, ir3_o0, ir3_r0, z14, z15, lz15, xz15, gz16, z16, gz17, hz17, fz17, z18, z19, z28, lz28, xz28, fz29, gz30, hz30, fz30, gz31nan, gz31nbn, z32]
         ·try simp only [go_sem, n1, n2, n3, n4, z14, z15, gz16, z16, gz17, hz17, z18, z19, z28, gz30, hz30, gz31nan, gz31nbn] at z32
          all_goals
          (simp_all)
      ·have gz30n := no_f gz30
       have gz30nn := no_t gz30n
       try simp only [go_sem, n1, n2, n3, n4, z14, z15, gz16, z16, gz17, hz17, z18, z19, z28] at gz30nn
       all_goals
       obtain ⟨z31, h⟩ := ck_some h
       rcases it_some h with ⟨z32, h⟩ | ⟨z32, h⟩
       ·try simp only [go_sem, n1, n2, n3, n4, z14, z15, gz16, z16, gz17, hz17, z18, z19, z28, gz30nn] at z32
        all_goals
        obtain rfl := so_some h
        refine ⟨0, fun L hL => ?_⟩
        simp only [go_sem, ir3, E_laws_FnCatalogues_l1, R_laws_FnCatalogues_l1, ir3_b0, ir3_k0, ir3_o0, ir3_r0, z14, z15, lz15, xz15, gz16, z16, gz17, hz17, fz17, z18, z19, z28, lz28, xz28, fz29, gz30nn, z32]
       ·try simp only [go_sem, n1, n2, n3, n4, z14, z15, gz16, z16, gz17, hz17, z18, z19, z28, gz30nn] at z32
        all_goals
        (simp_all)
   ·have gz17n := no_f gz17
    rcases or_t gz17n with gz17na | ⟨gz17na, gz17nb⟩
    ·try simp only [go_sem, n1, n2, n3, n4, z14, z15, gz16, z16] at gz17na
     all_goals
     (simp_all)
    ·try simp only [go_sem, n1, n2, n3, n4, z14, z15, gz16, z16] at gz17na
     all_goals
     try simp only [go_sem, n1, n2, n3, n4, z14, z15, gz16, z16, gz17na] at gz17nb
     all_goals
     rcases it_some h with ⟨z18, h⟩ | ⟨z18, h⟩
     ·try simp only [go_sem, n1, n2, n3, n4, z14, z15, gz16, z16, gz17na, gz17nb] at z18
      all_goals
      obtain rfl := so_some h
      refine ⟨0, fun L hL => ?_⟩
      simp only [go_sem, ir3, E_laws_FnCatalogues_l1, R_laws_FnCatalogues_l1, ir3_b0, ir3_k0, ir3_o0, ir3_r0, z14, z15, lz15, xz15, gz16, z16, gz17na, gz17nb, z18]
     ·try simp only [go_sem, n1, n2, n3, n4, z14, z15, gz16, z16, gz17na, gz17nb] at z18
      all_goals
      rcases it_some h with ⟨z19, h⟩ | ⟨z19, h⟩
      ·try simp only [go_sem, n1, n2, n3, n4, z14, z15, gz16, z16, gz17na, gz17nb, z18] at z19
       all_goals
       obtain ⟨z20, h⟩ := ck_some h
       have lz20 := ix_lt z20
       have xz20 := getD_mapD (AV.int .i64) order lz20
       try simp only [go_sem] at lz20
       try simp only [go_sem] at xz20
       try simp only [go_sem, n1, n2, n3, n4, z14, z15, gz16, z16, gz17na, gz17nb, z18, z19] at z20
       all_goals
       obtain ⟨z21, h⟩ := ck_some h
       have lz21 := ix_lt z21
       have xz21 := getD_mapD Star_av list lz21
       try simp only [go_sem] at lz21
       try simp only [go_sem] at xz21
       try simp only [go_sem, n1, n2, n3, n4, z14, z15, gz16, z16, gz17na, gz17nb, z18, z19, z20] at z21
       all_goals
       obtain ⟨z22, h⟩ := ck_some h
       have lz22 := ix_lt z22
       have xz22 := getD_mapD Star_av list lz22
       try simp only [go_sem] at lz22
       try simp only [go_sem] at xz22
       try simp only [go_sem, n1, n2, n3, n4, z14, z15, gz16, z16, gz17na, gz17nb, z18, z19, z20, z21] at z22
       all_goals
       rcases it_some h with ⟨z23, h⟩ | ⟨z23, h⟩
       ·try simp only [go_sem, n1, n2, n3, n4, z14, z15, gz16, z16, gz17na, gz17nb, z18, z19, z20, z21, z22] at z23
        all_goals
        obtain rfl := so_some h
        refine ⟨0, fun L hL => ?_⟩
        simp only [go_sem, ir3, E_laws_FnCatalogues_l1, R_laws_FnCatalogues_l1, ir3_b0, ir3_k0, ir3_o0, ir3_r0, z14, z15, lz15, xz15, gz16, z16, gz17na, gz17nb, z18, z19, z20, lz20, xz20, z21, lz21, xz21, z22, lz22, xz22, z23]
       ·try simp only [go_sem, n1, n2, n3, n4, z14, z15, gz16, z16, gz17na, gz17nb, z18, z19, z20, z21, z22] at z23
        all_goals
        obtain ⟨y_24, z24, h⟩ := bd_some h
        have fz24 := Fs_58 z24
        try simp only [go_sem, z14, z15, gz16, z16, gz17na, gz17nb, z18, z19, z20, z21, z22, z23] at fz24
        obtain ⟨z25, h⟩ := ck_some h
        rcases or_split z25 with ⟨gz25, z25⟩ | gz25
        ·try simp only [go_sem, n1, n2, n3, n4, z14, z15, gz16, z16, gz17na, gz17nb, z18, z19, z20, z21, z22, z23] at gz25
         all_goals
         obtain ⟨y_25, hz25⟩ := Option.isSome_iff_exists.1 z25
         have fz25 := Fs_55 hz25
         try simp only [go_sem, n1, n2, n3, n4, z14, z15, gz16, z16, gz17na, gz17nb, z18, z19, z20, z21, z22, z23, gz25] at hz25
         all_goals
         try simp only [go_sem, z14, z15, gz16, z16, gz17na, gz17nb, z18, z19, z20, z21, z22, z23, gz25] at fz25
         obtain ⟨z26, h⟩ := ck_some h
         rcases or_split z26 with ⟨gz26, z26⟩ | gz26
         ·try simp only [go_sem, n1, n2, n3, n4, z14, z15, gz16, z16, gz17na, gz17nb, z18, z19, z20, z21, z22, z23, gz25, hz25] at gz26
          all_goals
          obtain ⟨y_26, hz26⟩ := Option.isSome_iff_exists.1 z26
          have fz26 := Fs_66 hz26
          try simp only [go_sem, n1, n2, n3, n4, z14, z15, gz16, z16, gz17na, gz17nb, z18, z19, z20, z21, z22, z23, gz25, hz25, gz26] at hz26
          all_goals
          try simp only [go_sem, z14, z15, gz16, z16, gz17na, gz17nb, z18, z19, z20, z21, z22, z23, gz25, hz25, gz26] at fz26
          rcases it_some h with ⟨z27, h⟩ | ⟨z27, h⟩
          ·try simp only [go_sem, n1, n2, n3, n4, z14, z15, gz16, z16, gz17na, gz17nb, z18, z19, z20, z21, z22, z23, gz25, hz25, gz26, hz26] at z27
           all_goals
           obtain rfl := so_some h
           refine ⟨0, fun L hL => ?_⟩
           simp only [go_sem, ir3, E_laws_FnCatalogues_l1, R_laws_FnCatalogues_l1, ir3_b0, ir3_k0, ir3_o0, ir3_r0, z14, z15, lz15, xz15, gz16, z16, gz17na, gz17nb, z18, z19, z20, lz20, xz20, z21, lz21, xz21, z22, lz22, xz22, z23, fz24, gz25, hz25, fz25, gz26, hz26, fz26, z27]
          ·try simp only [go_sem, n1, n2, n3, n4, z14, z15, gz16, z16, gz17na, gz17nb, z18, z19, z20, z21, z22, z23, gz25, hz25, gz26, hz26] at z27
           all_goals
           obtain rfl := so_some h
           refine ⟨0, fun L hL => ?_⟩
           simp only [go_sem, ir3, E_laws_FnCatalogues_l1, R_laws_FnCatalogues_l1, ir3_b0, ir3_k0, ir3_o0, ir3_r0, z14, z15, lz15, xz15, gz16, z16, gz17na, gz17nb, z18, z19, z20, lz20, xz20, z21, lz21, xz21, z22, lz22, xz22, z23, fz24, gz25, hz25, fz25, gz26, hz26, fz26, z27]
         ·have gz26n := no_f gz26
          rcases or_t gz26n with gz26na | ⟨gz26na, gz26nb⟩
          ·try simp only [go_sem, n1, n2, n3, n4, z14, z15, gz16, z16, gz17na, gz17nb, z18, z19, z20, z21, z22, z23, gz25, hz25] at gz26na
           all_goals
           (simp_all)
          ·have gz26nan := no_f gz26na
           have gz26nbn := no_t gz26nb
           try simp only [go_sem, n1, n2, n3, n4, z14, z15, gz16, z16, gz17na, gz17nb, z18, z19, z20, z21, z22, z23, gz25, hz25] at gz26nan
           all_goals
           try simp only [go_sem, n1, n2, n3, n4, z14, z15, gz16, z16, gz17na, gz17nb, z18, z19, z20, z21, z22, z23, gz25, hz25, gz26nan] at gz26nbn
           all_goals
           rcases it_some h with ⟨z27, h⟩ | ⟨z27, h⟩
           ·try simp only [go_sem, n1, n2, n3, n4, z14, z15, gz16, z16, gz17na, gz17nb, z18, z19, z20, z21, z22, z23, gz25, hz25, gz26nan, gz26nbn] at z27
            all_goals
            obtain rfl := so_some h
            refine ⟨0, fun L hL => ?_⟩
            simp only [go_sem, ir3, E_laws_FnCatalogues_l1, R_laws_FnCatalogues_l1, ir3_b0, ir3_k0, ir3_o0, ir3_r0, z14, z15, lz15, xz15, gz16, z16, gz17na, gz17nb, z18, z19, z20, lz20, xz20, z21, lz21, xz21, z22, lz22, xz22, z23, fz24, gz25, hz25, fz25, gz26nan, gz26nbn, z27]
           ·try simp only [go_sem, n1, n2, n3, n4, z14, z15, gz16, z16, gz17na, gz17nb, z18, z19, z20, z21, z22, z23, gz25, hz25, gz26nan, gz26nbn] at z27
            all_goals
            (simp_all)
        ·have gz25n := no_f gz25
         have gz25nn := no_t gz25n
         try simp only [go_sem, n1, n2, n3, n4, z14, z15, gz16, z16, gz17na, gz17nb, z18, z19, z20, z21, z22, z23] at gz25nn
         all_goals
         obtain ⟨z26, h⟩ := ck_some h
         rcases it_some h with ⟨z27, h⟩ | ⟨z27, h⟩
         ·try simp only [go_sem, n1, n2, n3, n4, z14, z15, gz16, z16, gz17na, gz17nb, z18, z19, z20, z21, z22, z23, gz25nn] at z27
          all_goals
          obtain rfl := so_some h
          refine ⟨0, fun L hL => ?_⟩
          simp only [go_sem, ir3, E_laws_FnCatalogues_l1, R_laws_FnCatalogues_l1, ir3_b0, ir3_k0, ir3_o0, ir3_r0, z14, z15, lz15, xz15, gz16, z16, gz17na, gz17nb, z18, z19, z20, lz20, xz20, z21, lz21, xz21, z22, lz22, xz22, z23, fz24, gz25nn, z27]
         ·try simp only [go_sem, n1, n2, n3, n4, z14, z15, gz16, z16, gz17na, gz17nb, z18, z19, z20, z21, z22, z23, gz25nn] at z27
          all_goals
          (simp_all)
      ·try simp only [go_sem, n1, n2, n3, n4, z14, z15, gz16, z16, gz17na, gz17nb, z18] at z19
       all_goals
       obtain ⟨z28, h⟩ := ck_some h
       have lz28 := ix_lt z28
       have xz28 := getD_mapD Star_av list lz28
       try simp only [go_sem] at lz28
       try simp only [go_sem] at xz28
       try simp only [go_sem, n1, n2, n3, n4, z14, z15, gz16, z16, gz17na, gz17nb, z18, z19] at z28
       all_goals
       obtain ⟨y_29, z29, h⟩ := bd_some h
       have fz29 := Fs_58 z29
       try simp only [go_sem, z14, z15, gz16, z16, gz17na, gz17nb, z18, z19, z28] at fz29
       obtain ⟨z30, h⟩ := ck_some h
       rcases or_split z30 with ⟨gz30, z30⟩ | gz30
       ·try simp only [go_sem, n1, n2, n3, n4, z14, z15, gz16, z16, gz17na, gz17nb, z18, z19, z28] at gz30
        all_goals
        obtain ⟨y_30, hz30⟩ := Option.isSome_iff_exists.1 z30
        have fz30 := Fs_55 hz30
        try simp only [go_sem, n1, n2, n3, n4, z14, z15, gz16, z16, gz17na, gz17nb, z18, z19, z28, gz30] at hz30
        all_goals
        try simp only [go_sem, z14, z15, gz16, z16, gz17na, gz17nb, z18, z19, z28, gz30] at fz30
        obtain ⟨z31, h⟩ := ck_some h
        rcases or_split z31 with ⟨gz31, z31⟩ | gz31
        ·try simp only [go_sem, n1, n2, n3, n4, z14, z15, gz16, z16, gz17na, gz17nb, z18, z19, z28, gz30, hz30] at gz31
         all_goals
         obtain ⟨y_31, hz31⟩ := Option.isSome_iff_exists.1 z31
         have fz31 := Fs_66 hz31
         try simp only [go_sem, n1, n2, n3, n4, z14, z15, gz16, z16, gz17na, gz17nb, z18, z19, z28, gz30, hz30, gz31] at hz31
         all_goals
         try simp only [go_sem, z14, z15, gz16, z16, gz17na, gz17nb, z18, z19, z28, gz30, hz30, gz31] at fz31
         rcases it_some h with ⟨z32, h⟩ | ⟨z32, h⟩
         ·try simp only [go_sem, n1, n2, n3, n4, z14, z15, gz16, z16, gz17na, gz17nb, z18, z19, z28, gz30, hz30, gz31, hz31] at z32
          all_goals
          obtain rfl := so_some h
          refine ⟨0, fun L hL => ?_⟩
          simp only [go_sem, ir3, E_laws_FnCatalogues_l1, R_laws_FnCatalogues_l1, ir3_b0, ir3_k0, ir3_o0, ir3_r0, z14, z15, lz15, xz15, gz16, z16, gz17na, gz17nb, z18, z19, z28, lz28, xz28, fz29, gz30, hz30, fz30, gz31, hz31, fz31, z32]
         ·try simp only [go_sem, n1, n2, n3, n4, z14, z15, gz16, z16, gz17na, gz17nb, z18, z19, z28, gz30, hz30, gz31, hz31] at z32
          all_goals
          obtain rfl := so_some h
          refine ⟨0, fun L hL => ?_⟩
          simp only [go_sem, ir3, E_laws_FnCatalogues_l1, R_laws_FnCatalogues_l1, ir3_b0, ir3_k0, ir3_o0, ir3_r0, z14, z15, lz15, xz15, gz16, z16, gz17na, gz17nb, z18, z19, z28, lz28, xz28, fz29, gz30, hz30, fz30, gz31, hz31, fz31, z32]
        ·have gz31n := no_f gz31
         rcases or_t gz31n with gz31na | ⟨gz31na, gz31nb⟩
         ·try simp only [go_sem, n1, n2, n3, n4, z14, z15, gz16, z16, gz17na, gz17nb, z18, z19, z28, gz30, hz30] at gz31na
          all_goals
          (simp_all)
         ·have gz31nan := no_f gz31na
          have gz31nbn := no_t gz31nb
          try simp only [go_sem, n1, n2, n3, n4, z14, z15, gz16, z16, gz17na, gz17nb, z18, z19, z28, gz30, hz30] at gz31nan
          all_goals
          try simp only [go_sem, n1, n2, n3, n4, z14, z15, gz16, z16, gz17na, gz17nb, z18, z19, z28, gz30, hz30, gz31nan] at gz31nbn
          all_goals
          rcases it_some h with ⟨z32, h⟩ | ⟨z32, h⟩
          ·try simp only [go_sem, n1, n2, n3, n4, z14, z15, gz16, z16, gz17na, gz17nb, z18, z19, z28, gz30, hz30, gz31nan, gz31nbn] at z32
           all_goals
           obtain rfl := so_some h
           refine ⟨0, fun L hL => ?_⟩
           simp only [go_sem, ir3, E_laws_FnCatalogues_l1, R_laws_FnCatalogues_l1, ir3_b0, ir3_k0, ir3_o0, ir3_r0, z14, z15, lz15, xz15, gz16, z16, gz17na, gz17nb, z18, z19, z28, lz28, xz28, fz29, gz30, hz30, fz30, gz31nan, gz31nbn, z32]
          ·try simp only [go_sem, n1, n2, n3, n4, z14, z15, gz16, z16, gz17na, gz17nb, z18, z19, z28, gz30, hz30, gz31nan, gz31nbn] at z32
           all_goals
           (simp_all)
       ·have gz30n := no_f gz30
        have gz30nn := no_t gz30n
        try simp only [go_sem, n1, n2, n3, n4, z14, z15, gz16, z16, gz17na, gz17nb, z18, z19, z28] at gz30nn
        all_goals
        obtain ⟨z31, h⟩ := ck_some h
        rcases it_some h with ⟨z32, h⟩ | ⟨z32, h⟩
        ·try simp only [go_sem, n1, n2, n3, n4, z14, z15, gz16, z16, gz17na, gz17nb, z18, z19, z28, gz30nn] at z32
         all_goals
         obtain rfl := so_some h
         refine ⟨0, fun L hL => ?_⟩
         simp only [go_sem, ir3, E_laws_FnCatalogues_l1, R_laws_FnCatalogues_l1, ir3_b0, ir3_k0, ir3_o0, ir3_r0, z14, z15, lz15, xz15, gz16, z16, gz17na, gz17nb, z18, z19, z28, lz28, xz28, fz29, gz30nn, z32]
        ·try simp only [go_sem, n1, n2, n3, n4, z14, z15, gz16, z16, gz17na, gz17nb, z18, z19, z28, gz30nn] at z32
         all_goals
         (simp_all)
  ·have gz16n := no_f gz16
   rcases or_t gz16n with gz16na | ⟨gz16na, gz16nb⟩
   ·try simp only [go_sem, n1, n2, n3, n4, z14, z15] at gz16na
    all_goals
    obtain ⟨z17, h⟩ := ck_some h
    rcases it_some h with ⟨z18, h⟩ | ⟨z18, h⟩
    ·try simp only [go_sem, n1, n2, n3, n4, z14, z15, gz16na] at z18
     all_goals
     obtain rfl := so_some h
     refine ⟨0, fun L hL => ?_⟩
     simp only [go_sem, ir3, E_laws_FnCatalogues_l1, R_laws_FnCatalogues_l1, ir3_b0, ir3_k0, ir3_o0, ir3_r0, z14, z15, lz15, xz15, gz16na, z18]
    ·try simp only [go_sem, n1, n2, n3, n4, z14, z15, gz16na] at z18
     all_goals
     (simp_all)
   ·try simp only [go_sem, n1, n2, n3, n4, z14, z15] at gz16na
    all_goals
    try simp only [go_sem, n1, n2, n3, n4, z14, z15, gz16na] at gz16nb
    all_goals
    obtain ⟨z17, h⟩ := ck_some h
    rcases it_some h with ⟨z18, h⟩ | ⟨z18, h⟩
    ·try simp only [go_sem, n1, n2, n3, n4, z14, z15, gz16na, gz16nb] at z18
     all_goals
     obtain rfl := so_some h
     refine ⟨0, fun L hL => ?_⟩
     simp only [go_sem, ir3, E_laws_FnCatalogues_l1, R_laws_FnCatalogues_l1, ir3_b0, ir3_k0, ir3_o0, ir3_r0, z14, z15, lz15, xz15, gz16na, gz16nb, z18]
    ·try simp only [go_sem, n1, n2, n3, n4, z14, z15, gz16na, gz16nb] at z18
     all_goals
     (simp_all)
 ·try simp only [go_sem, n1, n2, n3, n4] at z14
  all_goals
  obtain rfl := so_some h
  refine ⟨0, fun L hL => ?_⟩
  simp only [go_sem, ir3, E_laws_FnCatalogues_l1, R_laws_FnCatalogues_l1, ir3_b0, ir3_k0, ir3_o0, ir3_r0, z14]

def E_laws_FnCatalogues_l2 (list : List Star) (order : List Int) : Int → St
 | i => ⟨[.any, .any, .any, .own 3200000, .any, .any, .any, .any, .any, .sl 1 (List.map (AV.int .i64) order), .any, .int .i64 i, .any, .any, .any, .any], [], [(3200000, ⟨5, List.map Star_av list⟩)], true⟩
def R_laws_FnCatalogues_l2 (list : List Star) (order : List Int) : (Unit ⊕ Bool) → Res
 | .inl y => (.exit 0, ⟨[.any, .any, .any, .any, .any, .any, .any, .any, .any, .any, .any, .any, .any, .any, .any, .any], [], [], true⟩)
 | .inr y => (.ret, ⟨[.any, .any, .bool y, .any, .any, .any, .any, .any, .any, .any, .any, .any, .any, .any, .any, .any], [], [], true⟩)
set_option maxHeartbeats 64000000 in
theorem laws_FnCatalogues_l2_ex {list : List Star} {order : List Int} {sgm_ : Int} {rho_ : Unit ⊕ Bool} (h : whileE (laws_FnCatalogues_l2 list order) sgm_ = some rho_) : ∃ L0, ∀ L, L0 ≤ L → iter (exec (look t_laws_FnCatalogues) L ir3_b0) ir3_k0 ir3_o0 ir3_r0 L (E_laws_FnCatalogues_l2 list order sgm_) = R_laws_FnCatalogues_l2 list order rho_ := by
 refine loop_ex (E := E_laws_FnCatalogues_l2 list order) (R := R_laws_FnCatalogues_l2 list order) (fun y => by first | (intro c; cases c) | (rcases y with y | y <;> (intro c; cases c)) | (rcases y with y | y | y <;> (intro c; cases c))) ?_ h
 clear h
 intro i o_ h
 dsimp only [laws_FnCatalogues_l2] at h
 rcases it_some h with ⟨z37, h⟩ | ⟨z37, h⟩
 ·try simp only [go_sem, n1, n2, n3, n4] at z37
  all_goals
  obtain ⟨z38, h⟩ := ck_some h
  have lz38 := ix_lt z38
  have xz38 := getD_mapD (AV.int .i64) order lz38
  try simp only [go_sem] at lz38
  try simp only [go_sem] at xz38
  try simp only [go_sem, n1, n2, n3, n4, z37] at z38
  all_goals
  obtain ⟨z39, h⟩ := ck_some h
  rcases or_split z39 with ⟨gz39, z39⟩ | gz39
  ·try simp only [go_sem, n1, n2, n3, n4, z37, z38] at gz39
   all_goals
   try simp only [go_sem, n1, n2, n3, n4, z37, z38, gz39] at z39
   all_goals
   obtain ⟨z40, h⟩ := ck_some h
   rcases or_split z40 with ⟨gz40, z40⟩ | gz40
   ·try simp only [go_sem, n1, n2, n3, n4, z37, z38, gz39, z39] at gz40
    all_goals
    obtain ⟨y_40, hz40⟩ := Option.isSome_iff_exists.1 z40
    have fz40 := Fs_55 hz40
    try simp only [go_sem, n1, n2, n3, n4, z37, z38, gz39, z39, gz40] at hz40
    all_goals
    try simp only [go_sem, z37, z38, gz39, z39, gz40] at fz40
    rcases it_some h with ⟨z41, h⟩ | ⟨z41, h⟩
    ·try simp only [go_sem, n1, n2, n3, n4, z37, z38, gz39, z39, gz40, hz40] at z41
     all_goals
     obtain rfl := so_some h
     refine ⟨0, fun L hL => ?_⟩
     simp only [go_sem, ir3, E_laws_FnCatalogues_l2, R_laws_FnCatalogues_l2, ir3_b0, ir3_k0, ir3_o0, ir3_r0, E_laws_FnCatalogues_l1, R_laws_FnCatalogues_l1, ir3_k0, ir3_o0, ir3_r0, z37, z38, lz38, xz38, gz39, z39, gz40, hz40, fz40, z41]
    ·try simp only [go_sem, n1, n2, n3, n4, z37, z38, gz39, z39, gz40, hz40] at z41
     all_goals
     rcases it_some h with ⟨z42, h⟩ | ⟨z42, h⟩
     ·try simp only [go_sem, n1, n2, n3, n4, z37, z38, gz39, z39, gz40, hz40, z41] at z42
      all_goals
      obtain ⟨z43, h⟩ := ck_some h
      have lz43 := ix_lt z43
      have xz43 := getD_mapD (AV.int .i64) order lz43
      try simp only [go_sem] at lz43
      try simp only [go_sem] at xz43
      try simp only [go_sem, n1, n2, n3, n4, z37, z38, gz39, z39, gz40, hz40, z41, z42] at z43
      all_goals
      obtain ⟨z44, h⟩ := ck_some h
      have lz44 := ix_lt z44
      have xz44 := getD_mapD Star_av list lz44
      try simp only [go_sem] at lz44
      try simp only [go_sem] at xz44
      try simp only [go_sem, n1, n2, n3, n4, z37, z38, gz39, z39, gz40, hz40, z41, z42, z43] at z44
      all_goals
      obtain ⟨z45, h⟩ := ck_some h
      have lz45 := ix_lt z45
      have xz45 := getD_mapD Star_av list lz45
      try simp only [go_sem] at lz45
      try simp only [go_sem] at xz45
      try simp only [go_sem, n1, n2, n3, n4, z37, z38, gz39, z39, gz40, hz40, z41, z42, z43, z44] at z45
      all_goals
      rcases it_some h with ⟨z46, h⟩ | ⟨z46, h⟩
      ·try simp only [go_sem, n1, n2, n3, n4, z37, z38, gz39, z39, gz40, hz40, z41, z42, z43, z44, z45] at z46
       all_goals
       obtain rfl := so_some h
       refine ⟨0, fun L hL => ?_⟩
       simp only [go_sem, ir3, E_laws_FnCatalogues_l2, R_laws_FnCatalogues_l2, ir3_b0, ir3_k0, ir3_o0, ir3_r0, E_laws_FnCatalogues_l1, R_laws_FnCatalogues_l1, ir3_k0, ir3_o0, ir3_r0, z37, z38, lz38, xz38, gz39, z39, gz40, hz40, fz40, z41, z42, z43, lz43, xz43, z44, lz44, xz44, z45, lz45, xz45, z46]
      ·try simp only [go_sem, n1, n2, n3, n4, z37, z38, gz39, z39, gz40, hz40, z41, z42, z43, z44, z45] at z46
       all_goals
       obtain ⟨y_47, z47, h⟩ := bd_some h
       have fz47 := Fs_58 z47
       try simp only [go_sem, z37, z38, gz39, z39, gz40, hz40, z41, z42, z43, z44, z45, z46] at fz47
       obtain ⟨z48, h⟩ := ck_some h
       rcases or_split z48 with ⟨gz48, z48⟩ | gz48
       ·try simp only [go_sem, n1, n2, n3, n4, z37, z38, gz39, z39, gz40, hz40, z41, z42, z43, z44, z45, z46] at gz48
        all_goals
        obtain ⟨y_48, hz48⟩ := Option.isSome_iff_exists.1 z48
        have fz48 := Fs_55 hz48
        try simp only [go_sem, n1, n2, n3, n4, z37, z38, gz39, z39, gz40, hz40, z41, z42, z43, z44, z45, z46, gz48] at hz48
        all_goals
        try simp only [go_sem, z37, z38, gz39, z39, gz40, hz40, z41, z42, z43, z44, z45, z46, gz48] at fz48
        obtain ⟨z49, h⟩ := ck_some h
        rcases or_split z49 with ⟨gz49, z49⟩ | gz49
        ·try simp only [go_sem, n1, n2, n3, n4, z37, z38, gz39, z39, gz40, hz40, z41, z42, z43, z44, z45, z46, gz48, hz48] at gz49
         all_goals
         obtain ⟨y_49, hz49⟩ := Option.isSome_iff_exists.1 z49
         have fz49 := Fs_66 hz49
         try simp only [go_sem, n1, n2, n3, n4, z37, z38, gz39, z39, gz40, hz40, z41, z42, z43, z44, z45, z46, gz48, hz48, gz49] at hz49
         all_goals
         try simp only [go_sem, z37, z38, gz39, z39, gz40, hz40, z41, z42, z43, z44, z45, z46, gz48, hz48, gz49] at fz49
         rcases it_some h with ⟨z50, h⟩ | ⟨z50, h⟩
         ·try simp only [go_sem, n1, n2, n3, n4, z37, z38, gz39, z39, gz40, hz40, z41, z42, z43, z44, z45, z46, gz48, hz48, gz49, hz49] at z50
          all_goals
          obtain rfl := so_some h
          refine ⟨0, fun L hL => ?_⟩
          simp only [go_sem, ir3, E_laws_FnCatalogues_l2, R_laws_FnCatalogues_l2, ir3_b0, ir3_k0, ir3_o0, ir3_r0, E_laws_FnCatalogues_l1, R_laws_FnCatalogues_l1, ir3_k0, ir3_o0, ir3_r0, z37, z38, lz38, xz38, gz39, z39, gz40, hz40, fz40, z41, z42, z43, lz43, xz43, z44, lz44, xz44, z45, lz45, xz45, z46, fz47, gz48, hz48, fz48, gz49, hz49, fz49, z50]
         ·try simp only [go_sem, n1, n2, n3, n4, z37, z38, gz39, z39, gz40, hz40, z41, z42, z43, z44, z45, z46, gz48, hz48, gz49, hz49] at z50
          all_goals
          obtain rfl := so_some h
          refine ⟨0, fun L hL => ?_⟩
          simp only [go_sem, ir3, E_laws_FnCatalogues_l2, R_laws_FnCatalogues_l2, ir3_b0, ir3_k0, ir3_o0, ir3_r0, E_laws_FnCatalogues_l1, R_laws_FnCatalogues_l1, ir3_k0, ir3_o0, ir3_r0, z37, z38, lz38, xz38, gz39, z39, gz40, hz40, fz40, z41, z42, z43, lz43, xz43, z44, lz44, xz44, z45, lz45, xz45, z46, fz47, gz48, hz48, fz48, gz49, hz49, fz49, z50]
        ·have gz49n := no_f gz49
         rcases or_t gz49n with gz49na | ⟨gz49na, gz49nb⟩
         ·try simp only [go_sem, n1, n2, n3, n4, z37, z38, gz39, z39, gz40, hz40, z41, z42, z43, z44, z45, z46, gz48, hz48] at gz49na
          all_goals
          (simp_all)
         ·have gz49nan := no_f gz49na
          have gz49nbn := no_t gz49nb
          try simp only [go_sem, n1, n2, n3, n4, z37, z38, gz39, z39, gz40, hz40, z41, z42, z43, z44, z45, z46, gz48, hz48] at gz49nan
          all_goals
          try simp only [go_sem, n1, n2, n3, n4, z37, z38, gz39, z39, gz40, hz40, z41, z42, z43, z44, z45, z46, gz48, hz48, gz49nan] at gz49nbn
          all_goals
          rcases it_some h with ⟨z50, h⟩ | ⟨z50, h⟩
          ·try simp only [go_sem, n1, n2, n3, n4, z37, z38, gz39, z39, gz40, hz40, z41, z42, z43, z44, z45, z46, gz48, hz48, gz49nan, gz49nbn] at z50
           all_goals
           obtain rfl := so_some h
           refine ⟨0, fun L hL => ?_⟩
           simp only [go_sem, ir3, E_laws_FnCatalogues_l2, R_laws_FnCatalogues_l2, ir3_b0, ir3_k0, ir3_o0, ir3_r0, E_laws_FnCatalogues_l1, R_laws_FnCatalogues_l1, ir3_k0, ir3_o0, ir3_r0, z37, z38, lz38, xz38, gz39, z39, gz40, hz40, fz40, z41, z42, z43, lz43, xz43, z44, lz44, xz44, z45, lz45, xz45, z46, fz47, gz48, hz48, fz48, gz49nan, gz49nbn, z50]
          ·try simp only [go_sem, n1, n2, n3, n4, z37, z38, gz39, z39, gz40, hz40, z41, z42, z43, z44, z45, z46, gz48, hz48, gz49nan, gz49nbn] at z50
           all_goals
           (simp_all)
       ·have gz48n := no_f gz48
        have gz48nn := no_t gz48n
        try simp only [go_sem, n1, n2, n3, n4, z37, z38, gz39, z39, gz40, hz40, z41, z42, z43, z44, z45, z46] at gz48nn
        all_goals
        obtain ⟨z49, h⟩ := ck_some h
        rcases it_some h with ⟨z50, h⟩ | ⟨z50, h⟩
        ·try simp only [go_sem, n1, n2, n3, n4, z37, z38, gz39, z39, gz40, hz40, z41, z42, z43, z44, z45, z46, gz48nn] at z50
         all_goals
         obtain rfl := so_some h
         refine ⟨0, fun L hL => ?_⟩
         simp only [go_sem, ir3, E_laws_FnCatalogues_l2, R_laws_FnCatalogues_l2, ir3_b0, ir3_k0, ir3_o0, ir3_r0, E_laws_FnCatalogues_l1, R_laws_FnCatalogues_l1, ir3_k0, ir3_o0, ir3_r0, z37, z38, lz38, xz38, gz39, z39, gz40, hz40, fz40, z41, z42, z43, lz43, xz43, z44, lz44, xz44, z45, lz45, xz45, z46, fz47, gz48nn, z50]
        ·try simp only [go_sem, n1, n2, n3, n4, z37, z38, gz39, z39, gz40, hz40, z41, z42, z43, z44, z45, z46, gz48nn] at z50
         all_goals
         (simp_all)
     ·try simp only [go_sem, n1, n2, n3, n4, z37, z38, gz39, z39, gz40, hz40, z41] at z42
      all_goals
      obtain ⟨z51, h⟩ := ck_some h
      have lz51 := ix_lt z51
      have xz51 := getD_mapD Star_av list lz51
      try simp only [go_sem] at lz51
      try simp only [go_sem] at xz51
      try simp only [go_sem, n1, n2, n3, n4, z37, z38, gz39, z39, gz40, hz40, z41, z42] at z51
      all_goals
      obtain ⟨y_52, z52, h⟩ := bd_some h
      have fz52 := Fs_58 z52
      try simp only [go_sem, z37, z38, gz39, z39, gz40, hz40, z41, z42, z51] at fz52
      obtain ⟨z53, h⟩ := ck_some h
      rcases or_split z53 with ⟨gz53, z53⟩ | gz53
      ·try simp only [go_sem, n1, n2, n3, n4, z37, z38, gz39, z39, gz40, hz40, z41, z42, z51] at gz53
       all_goals
       obtain ⟨y_53, hz53⟩ := Option.isSome_iff_exists.1 z53
       have fz53 := Fs_55 hz53
       try simp only [go_sem, n1, n2, n3, n4, z37, z38, gz39, z39, gz40, hz40, z41, z42, z51, gz53] at hz53
       all_goals
       try simp only [go_sem, z37, z38, gz39, z39, gz40, hz40, z41, z42, z51, gz53] at fz53
       obtain ⟨z54, h⟩ := ck_some h
       rcases or_split z54 with ⟨gz54, z54⟩ | gz54
       ·try simp only [go_sem, n1, n2, n3, n4, z37, z38, gz39, z39, gz40, hz40, z41, z42, z51, gz53, hz53] at gz54
        all_goals
        obtain ⟨y_54, hz54⟩ := Option.isSome_iff_exists.1 z54
        have fz54 := Fs_66 hz54
        try simp only [go_sem, n1, n2, n3, n4, z37, z38, gz39, z39, gz40, hz40, z41, z42, z51, gz53, hz53, gz54] at hz54
        all_goals
        try simp only [go_sem, z37, z38, gz39, z39, gz40, hz40, z41, z42, z51, gz53, hz53, gz54] at fz54
        rcases it_some h with ⟨z55, h⟩ | ⟨z55, h⟩
        ·try simp only [go_sem, n1, n2, n3, n4, z37, z38, gz39, z39, gz40, hz40, z41, z42, z51, gz53, hz53, gz54, hz54] at z55
         all_goals
         obtain rfl := so_some h
         refine ⟨0, fun L hL => ?_⟩
         simp only [go_sem, ir3, E_laws_FnCatalogues_l2, R_laws_FnCatalogues_l2, ir3_b0, ir3_k0, ir3_o0, ir3_r0, E_laws_FnCatalogues_l1, R_laws_FnCatalogues_l1, ir3_k0, ir3_o0, ir3_r0, z37, z38, lz38, xz38, gz39, z39, gz40, hz40, fz40, z41, z42, z51, lz51, xz51, fz52, gz53, hz53, fz53, gz54, hz54, fz54, z55]
        ·try simp only [go_sem, n1, n2, n3, n4, z37, z38, gz39, z39, gz40, hz40, z41, z42, z51, gz53, hz53, gz54, hz54] at z55
         all_goals
         obtain rfl := so_some h
         refine ⟨0, fun L hL => ?_⟩
         simp only [go_sem, ir3, E_laws_FnCatalogues_l2, R_laws_FnCatalogues_l2, ir3_b0, ir3_k0, ir3_o0, ir3_r0, E_laws_FnCatalogues_l1, R_laws_FnCatalogues_l1, ir3_k0, ir3_o0, ir3_r0, z37, z38, lz38, xz38, gz39, z39, gz40, hz40, fz40, z41, z42, z51, lz51, xz51, fz52, gz53, hz53, fz53, gz54, hz54, fz54, z55]
       ·have gz54n := no_f gz54
        rcases or_t gz54n with gz54na | ⟨gz54na, gz54nb⟩
        ·try simp only [go_sem, n1, n2, n3, n4, z37, z38, gz39, z39, gz40, hz40, z41, z42, z51, gz53, hz53] at gz54na
         all_goals
         (simp_all)
        ·have gz54nan := no_f gz54na
         have gz54nbn := no_t gz54nb
         try simp only [go_sem, n1, n2, n3, n4, z37, z38, gz39, z39, gz40, hz40, z41, z42, z51, gz53, hz53] at gz54nan
         all_goals
         try simp only [go_sem, n1, n2, n3, n4, z37, z38, gz39, z39, gz40, hz40, z41, z42, z51, gz53, hz53, gz54nan] at gz54nbn
         all_goals
         rcases it_some h with ⟨z55, h⟩ | ⟨z55, h⟩
         ·try simp only [go_sem, n1, n2, n3, n4, z37, z38, gz39, z39, gz40, hz40, z41, z42, z51, gz53, hz53, gz54nan, gz54nbn] at z55
          all_goals
          obtain rfl := so_some h
          refine ⟨0, fun L hL => ?_⟩
          simp only [go_sem, ir3, E_laws_FnCatalogues_l2, R_laws_FnCatalogues_l2, ir3_b0, ir3_k0, ir3_o0, ir3_r0, E_laws_FnCatalogues_l1, R_laws_FnCatalogues_l1, ir3_k0, ir3_o0, ir3_r0, z37, z38, lz38, xz38, gz39, z39, gz40, hz40, fz40, z41, z42, z51, lz51, xz51, fz52, gz53, hz53, fz53, gz54nan, gz54nbn, z55]
         ·try simp only [go_sem, n1, n2, n3, n4, z37, z38, gz39, z39, gz40, hz40, z41, z42, z51, gz53, hz53, gz54nan, gz54nbn] at z55
          all_goals
          (simp_all)
      ·have gz53n := no_f gz53
       have gz53nn := no_t gz53n
       try simp only [go_sem, n1, n2, n3, n4, z37, z38, gz39, z39, gz40, hz40, z41, z42, z51] at gz53nn
       all_goals
       obtain ⟨z54, h⟩ := ck_some h
       rcases it_some h with ⟨z55, h⟩ | ⟨z55, h⟩
       ·try simp only [go_sem, n1, n2, n3, n4, z37, z38, gz39, z39, gz40, hz40, z41, z42, z51, gz53nn] at z55
        all_goals
        obtain rfl := so_some h
        refine ⟨0, fun L hL => ?_⟩
        simp only [go_sem, ir3, E_laws_FnCatalogues_l2, R_laws_FnCatalogues_l2, ir3_b0, ir3_k0, ir3_o0, ir3_r0, E_laws_FnCatalogues_l1, R_laws_FnCatalogues_l1, ir3_k0, ir3_o0, ir3_r0, z37, z38, lz38, xz38, gz39, z39, gz40, hz40, fz40, z41, z42, z51, lz51, xz51, fz52, gz53nn, z55]
       ·try simp only [go_sem, n1, n2, n3, n4, z37, z38, gz39, z39, gz40, hz40, z41, z42, z51, gz53nn] at z55
        all_goals
        (simp_all)
   ·have gz40n := no_f gz40
    rcases or_t gz40n with gz40na | ⟨gz40na, gz40nb⟩
    ·try simp only [go_sem, n1, n2, n3, n4, z37, z38, gz39, z39] at gz40na
     all_goals
     (simp_all)
    ·try simp only [go_sem, n1, n2, n3, n4, z37, z38, gz39, z39] at gz40na
     all_goals
     try simp only [go_sem, n1, n2, n3, n4, z37, z38, gz39, z39, gz40na] at gz40nb
     all_goals
     rcases it_some h with ⟨z41, h⟩ | ⟨z41, h⟩
     ·try simp only [go_sem, n1, n2, n3, n4, z37, z38, gz39, z39, gz40na, gz40nb] at z41
      all_goals
      obtain rfl := so_some h
      refine ⟨0, fun L hL => ?_⟩
      simp only [go_sem, ir3, E_laws_FnCatalogues_l2, R_laws_FnCatalogues_l2, ir3_b0, ir3_k0, ir3_o0, ir3_r0, E_laws_FnCatalogues_l1, R_laws_FnCatalogues_l1, ir3_k0, ir3_o0, ir3_r0, z37, z38, lz38, xz38, gz39, z39, gz40na, gz40nb, z41]
     ·try simp only [go_sem, n1, n2, n3, n4, z37, z38, gz39, z39, gz40na, gz40nb] at z41
      all_goals
      rcases it_some h with ⟨z42, h⟩ | ⟨z42, h⟩
      ·try simp only [go_sem, n1, n2, n3, n4, z37, z38, gz39, z39, gz40na, gz40nb, z41] at z42
       all_goals
       obtain ⟨z43, h⟩ := ck_some h
       have lz43 := ix_lt z43
       have xz43 := getD_mapD (AV.int .i64) order lz43
       try simp only [go_sem] at lz43
       try simp only [go_sem] at xz43
       try simp only [go_sem, n1, n2, n3, n4, z37, z38, gz39, z39, gz40na, gz40nb, z41, z42] at z43
       all_goals
       obtain ⟨z44, h⟩ := ck_some h
       have lz44 := ix_lt z44
       have xz44 := getD_mapD Star_av list lz44
       try simp only [go_sem] at lz44
       try simp only [go_sem] at xz44
       try simp only [go_sem, n1, n2, n3, n4, z37, z38, gz39, z39, gz40na, gz40nb, z41, z42, z43] at z44
       all_goals
       obtain ⟨z45, h⟩ := ck_some h
       have lz45 := ix_lt z45
       have xz45 := getD_mapD Star_av list lz45
       try simp only [go_sem] at lz45
       try simp only [go_sem] at xz45
       try simp only [go_sem, n1, n2, n3, n4, z37, z38, gz39, z39, gz40na, gz40nb, z41, z42, z43, z44] at z45
       all_goals
       rcases it_some h with ⟨z46, h⟩ | ⟨z46, h⟩
       ·try simp only [go_sem, n1, n2, n3, n4, z37, z38, gz39, z39, gz40na, gz40nb, z41, z42, z43, z44, z45] at z46
        all_goals
        obtain rfl := so_some h
        refine ⟨0, fun L hL => ?_⟩
        simp only [go_sem, ir3, E_laws_FnCatalogues_l2, R_laws_FnCatalogues_l2, ir3_b0, ir3_k0, ir3_o0, ir3_r0, E_laws_FnCatalogues_l1, R_laws_FnCatalogues_l1, ir3_k0, ir3_o0, ir3_r0, z37, z38, lz38, xz38, gz39, z39, gz40na, gz40nb, z41, z42, z43, lz43, xz43, z44, lz44, xz44, z45, lz45, xz45, z46]
       ·try simp only [go_sem, n1, n2, n3, n4, z37, z38, gz39, z39, gz40na, gz40nb, z41, z42, z43, z44, z45] at z46
        all_goals
        obtain ⟨y_47, z47, h⟩ := bd_some h
        have fz47 := Fs_58 z47
        try simp only [go_sem, z37, z38, gz39, z39, gz40na, gz40nb, z41, z42, z43, z44, z45, z46] at fz47
        obtain ⟨z48, h⟩ := ck_some h
        rcases or_split z48 with ⟨gz48, z48⟩ | gz48
        ·try simp only [go_sem, n1, n2, n3, n4, z37, z38, gz39, z39, gz40na, gz40nb, z41, z42, z43, z44, z45, z46] at gz48
         all_goals
         obtain ⟨y_48, hz48⟩ := Option.isSome_iff_exists.1 z48
         have fz48 := Fs_55 hz48
         try simp only [go_sem, n1, n2, n3, n4, z37, z38, gz39, z39, gz40na, gz40nb, z41, z42, z43, z44, z45, z46, gz48] at hz48
         all_goals
         try simp only [go_sem, z37, z38, gz39, z39, gz40na, gz40nb, z41, z42, z43, z44, z45, z46, gz48] at fz48
         obtain ⟨z49, h⟩ := ck_some h
         rcases or_split z49 with ⟨gz49, z49⟩ | gz49
         ·try simp only [go_sem, n1, n2, n3, n4, z37, z38, gz39, z39, gz40na, gz40nb, z41, z42, z43, z44, z45, z46, gz48, hz48] at gz49
          all_goals
          obtain ⟨y_49, hz49⟩ := Option.isSome_iff_exists.1 z49
          have fz49 := Fs_66 hz49
          try simp only [go_sem, n1, n2, n3, n4, z37, z38, gz39, z39, gz40na, gz40nb, z41, z42, z43, z44, z45, z46, gz48, hz48, gz49] at hz49
          all_goals
          try simp only [go_sem, z37, z38, gz39, z39, gz40na, gz40nb, z41, z42, z43, z44, z45, z46, gz48, hz48, gz49] at fz49
          rcases it_some h with ⟨z50, h⟩ | ⟨z50, h⟩
          ·try simp only [go_sem, n1, n2, n3, n4, z37, z38, gz39, z39, gz40na, gz40nb, z41, z42, z43, z44, z45, z46, gz48, hz48, gz49, hz49] at z50
           all_goals
           obtain rfl := so_some h
           refine ⟨0, fun L hL => ?_⟩
           simp only [go_sem, ir3, E_laws_FnCatalogues_l2, R_laws_FnCatalogues_l2, ir3_b0, ir3_k0, ir3_o0, ir3_r0, E_laws_FnCatalogues_l1, R_laws_FnCatalogues_l1, ir3_k0, ir3_o0, ir3_r0, z37, z38, lz38, xz38, gz39, z39, gz40na, gz40nb, z41, z42, z43, lz43, xz43, z44, lz44, xz44, z45, lz45, xz45, z46, fz47, gz48, hz48, fz48, gz49, hz49, fz49, z50]
          ·try simp only [go_sem, n1, n2, n3, n4, z37, z38, gz39, z39, gz40na, gz40nb, z41, z42, z43, z44, z45, z46, gz48, hz48, gz49, hz49] at z50
           all_goals
           obtain rfl := so_some h
           refine ⟨0, fun L hL => ?_⟩
           simp only [go_sem, ir3, E_laws_FnCatalogues_l2, R_laws_FnCatalogues_l2, ir3_b0, ir3_k0, ir3_o0, ir3_r0, E_laws_FnCatalogues_l1, R_laws_FnCatalogues_l1, ir3_k0, ir3_o0, ir3_r0, z37, z38, lz38, xz38, gz39, z39, gz40na, gz40nb, z41, z42, z43, lz43, xz43, z44, lz44, xz44, z45, lz45, xz45, z46, fz47, gz48, hz48, fz48, gz49, hz49, fz49, z50]
         ·have gz49n := no_f gz49
          rcases or_t gz49n with gz49na | ⟨gz49na, gz49nb⟩
          ·try simp only [go_sem, n1, n2, n3, n4, z37, z38, gz39, z39, gz40na, gz40nb, z41, z42, z43, z44, z45, z46, gz48, hz48] at gz49na
           all_goals
           (simp_all)
          ·have gz49nan := no_f gz49na
           have gz49nbn := no_t gz49nb
           try simp only [go_sem, n1, n2, n3, n4, z37, z38, gz39, z39, gz40na, gz40nb, z41, z42, z43, z44, z45, z46, gz48, hz48] at gz49nan
           all_goals
           try simp only [go_sem, n1, n2, n3, n4, z37, z38, gz39, z39, gz40na, gz40nb, z41, z42, z43, z44, z45, z46, gz48, hz48, gz49nan] at gz49nbn
           all_goals
           rcases it_some h with ⟨z50, h⟩ | ⟨z50, h⟩
           ·try simp only [go_sem, n1, n2, n3, n4, z37, z38, gz39, z39, gz40na, gz40nb, z41, z42, z43, z44, z45, z46, gz48, hz48, gz49nan, gz49nbn] at z50
            all_goals
            obtain rfl := so_some h
            refine ⟨0, fun L hL => ?_⟩
            simp only [go_sem, ir3, E_laws_FnCatalogues_l2, R_laws_FnCatalogues_l2, ir3_b0, ir3_k0, ir3_o0, ir3_r0, E_laws_FnCatalogues_l1, R_laws_FnCatalogues_l1, ir3_k0, ir3_o0, ir3_r0, z37, z38, lz38, xz38, gz39, z39, gz40na, gz40nb, z41, z42, z43, lz43, xz43, z44, lz44, xz44, z45, lz45, xz45, z46, fz47, gz48, hz48, fz48, gz49nan, gz49nbn, z50]
           ·try simp only [go_sem, n1, n2, n3, n4, z37, z38, gz39, z39, gz40na, gz40nb, z41, z42, z43, z44, z45, z46, gz48, hz48, gz49nan, gz49nbn] at z50
            all_goals
            (simp_all)
        ·have gz48n := no_f gz48
         have gz48nn := no_t gz48n
         try simp only [go_sem, n1, n2, n3, n4, z37, z38, gz39, z39, gz40na, gz40nb, z41, z42, z43, z44, z45, z46] at gz48nn
         all_goals
         obtain ⟨z49, h⟩ := ck_some h
         rcases it_some h with ⟨z50, h⟩ | ⟨z50, h⟩
         ·try simp only [go_sem, n1, n2, n3, n4, z37, z38, gz39, z39, gz40na, gz40nb, z41, z42, z43, z44, z45, z46, gz48nn] at z50
          all_goals
          obtain rfl := so_some h
          refine ⟨0, fun L hL => ?_⟩
          simp only [go_sem, ir3, E_laws_FnCatalogues_l2, R_laws_FnCatalogues_l2, ir3_b0, ir3_k0, ir3_o0, ir3_r0, E_laws_FnCatalogues_l1, R_laws_FnCatalogues_l1, ir3_k0, ir3_o0, ir3_r0, z37, z38, lz38, xz38, gz39, z39, gz40na, gz40nb, z41, z42, z43, lz43, xz43, z44, lz44, xz44, z45, lz45, xz45, z46, fz47, gz48nn, z50]
         ·try simp only [go_sem, n1, n2, n3, n4, z37, z38, gz39, z39, gz40na, gz40nb, z41, z42, z43, z44, z45, z46, gz48nn] at z50
          all_goals
          (simp_all)
      ·try simp only [go_sem, n1, n2, n3, n4, z37, z38, gz39, z39, gz40na, gz40nb, z41] at z42
       all_goals
       obtain ⟨z51, h⟩ := ck_some h
       have lz51 := ix_lt z51
       have xz51 := getD_mapD Star_av list lz51
       try simp only [go_sem] at lz51
       try simp only [go_sem] at xz51
       try simp only [go_sem, n1, n2, n3, n4, z37, z38, gz39, z39, gz40na, gz40nb, z41, z42] at z51
       all_goals
       obtain ⟨y_52, z52, h⟩ := bd_some h
       have fz52 := Fs_58 z52
       try simp only [go_sem, z37, z38, gz39, z39, gz40na, gz40nb, z41, z42, z51] at fz52
       obtain ⟨z53, h⟩ := ck_some h
       rcases or_split z53 with ⟨gz53, z53⟩ | gz53
       ·try simp only [go_sem, n1, n2, n3, n4, z37, z38, gz39, z39, gz40na, gz40nb, z41, z42, z51] at gz53
        all_goals
        obtain ⟨y_53, hz53⟩ := Option.isSome_iff_exists.1 z53
        have fz53 := Fs_55 hz53
        try simp only [go_sem, n1, n2, n3, n4, z37, z38, gz39, z39, gz40na, gz40nb, z41, z42, z51, gz53] at hz53
        all_goals
        try simp only [go_sem, z37, z38, gz39, z39, gz40na, gz40nb, z41, z42, z51, gz53] at fz53
        obtain ⟨z54, h⟩ := ck_some h
        rcases or_split z54 with ⟨gz54, z54⟩ | gz54
        ·try simp only [go_sem, n1, n2, n3, n4, z37, z38, gz39, z39, gz40na, gz40nb, z41, z42, z51, gz53, hz53] at gz54
         all_goals
         obtain ⟨y_54, hz54⟩ := Option.isSome_iff_exists.1 z54
         have fz54 := Fs_66 hz54
         try simp only [go_sem, n1, n2, n3, n4, z37, z38, gz39, z39, gz40na, gz40nb, z41, z42, z51, gz53, hz53, gz54] at hz54
         all_goals
         try simp only [go_sem, z37, z38, gz39, z39, gz40na, gz40nb, z41, z42, z51, gz53, hz53, gz54] at fz54
         rcases it_some h with ⟨z55, h⟩ | ⟨z55, h⟩
         ·try simp only [go_sem, n1, n2, n3, n4, z37, z38, gz39, z39, gz40na, gz40nb, z41, z42, z51, gz53, hz53, gz54, hz54] at z55
          all_goals
          obtain rfl := so_some h
          refine ⟨0, fun L hL => ?_⟩
          simp only [go_sem, ir3, E_laws_FnCatalogues_l2, R_laws_FnCatalogues_l2, ir3_b0, ir3_k0, ir3_o0, ir3_r0, E_laws_FnCatalogues_l1, R_laws_FnCatalogues_l1, ir3_k0, ir3_o0, ir3_r0, z37, z38, lz38, xz38, gz39, z39, gz40na, gz40nb, z41, z42, z51, lz51, xz51, fz52, gz53, hz53, fz53, gz54, hz54, fz54, z55]
         ·try simp only [go_sem, n1, n2, n3, n4, z37, z38, gz39, z39, gz40na, gz40nb, z41, z42, z51, gz53, hz53, gz54, hz54] at z55
          all_goals
          obtain rfl := so_some h
          refine ⟨0, fun L hL => ?_⟩
          simp only [go_sem, ir3, E_laws_FnCatalogues_l2, R_laws_FnCatalogues_l2, ir3_b0, ir3_k0, ir3_o0, ir3_r0, E_laws_FnCatalogues_l1, R_laws_FnCatalogues_l1, ir3_k0, ir3_o0, ir3_r0, z37, z38, lz38, xz38, gz39, z39, gz40na, gz40nb, z41, z42, z51, lz51, xz51, fz52, gz53, hz53, fz53, gz54, hz54, fz54, z55]
        ·have gz54n := no_f gz54
         rcases or_t gz54n with gz54na | ⟨gz54na, gz54nb⟩
         ·try simp only [go_sem, n1, n2, n3, n4, z37, z38, gz39, z39, gz40na, gz40nb, z41, z42, z51, gz53, hz53] at gz54na
          all_goals
          (simp_all)
         ·have gz54nan := no_f gz54na
          have gz54nbn := no_t gz54nb
          try simp only [go_sem, n1, n2, n3, n4, z37, z38, gz39, z39, gz40na, gz40nb, z41, z42, z51, gz53, hz53] at gz54nan
          all_goals
          try simp only [go_sem, n1, n2, n3, n4, z37, z38, gz39, z39, gz40na, gz40nb, z41, z42, z51, gz53, hz53, gz54nan] at gz54nbn
          all_goals
          rcases it_some h with ⟨z55, h⟩ | ⟨z55, h⟩
          ·try simp only [go_sem, n1, n2, n3, n4, z37, z38, gz39, z39, gz40na, gz40nb, z41, z42, z51, gz53, hz53, gz54nan, gz54nbn] at z55
           all_goals
           obtain rfl := so_some h
           refine ⟨0, fun L hL => ?_⟩
           simp only [go_sem, ir3, E_laws_FnCatalogues_l2, R_laws_FnCatalogues_l2, ir3_b0, ir3_k0, ir3_o0, ir3_r0, E_laws_FnCatalogues_l1, R_laws_FnCatalogues_l1, ir3_k0, ir3_o0, ir3_r0, z37, z38, lz38, xz38, gz39, z39, gz40na, gz40nb, z41, z42, z51, lz51, xz51, fz52, gz53, hz53, fz53, gz54nan, gz54nbn, z55]
          ·try simp only [go_sem, n1, n2, n3, n4, z37, z38, gz39, z39, gz40na, gz40nb, z41, z42, z51, gz53, hz53, gz54nan, gz54nbn] at z55
           all_goals
           (simp_all)
       ·have gz53n := no_f gz53
        have gz53nn := no_t gz53n
        try simp only [go_sem, n1, n2, n3, n4, z37, z38, gz39, z39, gz40na, gz40nb, z41, z42, z51] at gz53nn
        all_goals
        obtain ⟨z54, h⟩ := ck_some h
        rcases it_some h with ⟨z55, h⟩ | ⟨z55, h⟩
        ·try simp only [go_sem, n1, n2, n3, n4, z37, z38, gz39, z39, gz40na, gz40nb, z41, z42, z51, gz53nn] at z55
         all_goals
         obtain rfl := so_some h
         refine ⟨0, fun L hL => ?_⟩
         simp only [go_sem, ir3, E_laws_FnCatalogues_l2, R_laws_FnCatalogues_l2, ir3_b0, ir3_k0, ir3_o0, ir3_r0, E_laws_FnCatalogues_l1, R_laws_FnCatalogues_l1, ir3_k0, ir3_o0, ir3_r0, z37, z38, lz38, xz38, gz39, z39, gz40na, gz40nb, z41, z42, z51, lz51, xz51, fz52, gz53nn, z55]
        ·try simp only [go_sem, n1, n2, n3, n4, z37, z38, gz39, z39, gz40na, gz40nb, z41, z42, z51, gz53nn] at z55
         all_goals
         (simp_all)
  ·have gz39n := no_f gz39
   rcases or_t gz39n with gz39na | ⟨gz39na, gz39nb⟩
   ·try simp only [go_sem, n1, n2, n3, n4, z37, z38] at gz39na
    all_goals
    obtain ⟨z40, h⟩ := ck_some h
    rcases it_some h with ⟨z41, h⟩ | ⟨z41, h⟩
    ·try simp only [go_sem, n1, n2, n3, n4, z37, z38, gz39na] at z41
     all_goals
     obtain rfl := so_some h
     refine ⟨0, fun L hL => ?_⟩
     simp only [go_sem, ir3, E_laws_FnCatalogues_l2, R_laws_FnCatalogues_l2, ir3_b0, ir3_k0, ir3_o0, ir3_r0, E_laws_FnCatalogues_l1, R_laws_FnCatalogues_l1, ir3_k0, ir3_o0, ir3_r0, z37, z38, lz38, xz38, gz39na, z41]
    ·try simp only [go_sem, n1, n2, n3, n4, z37, z38, gz39na] at z41
     all_goals
     (simp_all)
   ·try simp only [go_sem, n1, n2, n3, n4, z37, z38] at gz39na
    all_goals
    try simp only [go_sem, n1, n2, n3, n4, z37, z38, gz39na] at gz39nb
    all_goals
    obtain ⟨z40, h⟩ := ck_some h
    rcases it_some h with ⟨z41, h⟩ | ⟨z41, h⟩
    ·try simp only [go_sem, n1, n2, n3, n4, z37, z38, gz39na, gz39nb] at z41
     all_goals
     obtain rfl := so_some h
     refine ⟨0, fun L hL => ?_⟩
     simp only [go_sem, ir3, E_laws_FnCatalogues_l2, R_laws_FnCatalogues_l2, ir3_b0, ir3_k0, ir3_o0, ir3_r0, E_laws_FnCatalogues_l1, R_laws_FnCatalogues_l1, ir3_k0, ir3_o0, ir3_r0, z37, z38, lz38, xz38, gz39na, gz39nb, z41]
    ·try simp only [go_sem, n1, n2, n3, n4, z37, z38, gz39na, gz39nb] at z41
     all_goals
     (simp_all)
 ·try simp only [go_sem, n1, n2, n3, n4] at z37
  all_goals
  obtain rfl := so_some h
  refine ⟨0, fun L hL => ?_⟩
  simp only [go_sem, ir3, E_laws_FnCatalogues_l2, R_laws_FnCatalogues_l2, ir3_b0, ir3_k0, ir3_o0, ir3_r0, E_laws_FnCatalogues_l1, R_laws_FnCatalogues_l1, ir3_k0, ir3_o0, ir3_r0, z37]

set_option maxHeartbeats 64000000 in
theorem Fs_laws_FnCatalogues {code : List UInt8} {more : List UInt8} {y_ : Bool} (h : laws_FnCatalogues code more = some y_) : c_laws_FnCatalogues.F [.sl 1 (List.map byteAV code), .sl 1 (List.map byteAV more)] = ⟨true, .bool y_, [.any, .any]⟩ := by
 refine mkF_E rfl ?_
 dsimp only [laws_FnCatalogues] at h
 obtain ⟨y_1, z1, h⟩ := bd_some h
 have fz1 := Fs_10 z1
 try simp only [go_sem] at fz1
 rcases it_some h with ⟨z2, h⟩ | ⟨z2, h⟩
 ·try simp only [go_sem, n1, n2, n3, n4] at z2
  all_goals
  obtain rfl := so_some h
  refine ⟨0, fun L hL => ?_⟩
  simp only [go_sem, ir3, E_laws_FnCatalogues_l1, R_laws_FnCatalogues_l1, ir3_k0, ir3_o0, ir3_r0, E_laws_FnCatalogues_l2, R_laws_FnCatalogues_l2, ir3_k0, ir3_o0, ir3_r0, fz1, z2]
 ·try simp only [go_sem, n1, n2, n3, n4] at z2
  all_goals
  obtain ⟨y_3, z3, h⟩ := bd_some h
  have fz3 := Fs_21 z3
  try simp only [go_sem, z2] at fz3
  obtain ⟨y_4, z4, h⟩ := bd_some h
  have fz4 := Fs_23 z4
  try simp only [go_sem, z2] at fz4
  obtain ⟨y_5, z5, h⟩ := bd_some h
  have fz5 := Fs_38 z5
  try simp only [go_sem, z2] at fz5
  rcases it_some h with ⟨z6, h⟩ | ⟨z6, h⟩
  ·try simp only [go_sem, n1, n2, n3, n4, z2] at z6
   all_goals
   obtain ⟨y_7, z7, h⟩ := bd_some h
   have fz7 := Fs_42 z7
   try simp only [go_sem, z2, z6] at fz7
   obtain ⟨y_8, z8, h⟩ := bd_some h
   have fz8 := Fs_9 z8
   try simp only [go_sem, z2, z6] at fz8
   obtain ⟨z9, h⟩ := ck_some h
   rcases or_split z9 with ⟨gz9, z9⟩ | gz9
   ·try simp only [go_sem, n1, n2, n3, n4, z2, z6] at gz9
    all_goals
    obtain ⟨y_9, hz9⟩ := Option.isSome_iff_exists.1 z9
    have fz9 := Fs_30 hz9
    try simp only [go_sem, n1, n2, n3, n4, z2, z6, gz9] at hz9
    all_goals
    try simp only [go_sem, z2, z6, gz9] at fz9
    obtain ⟨z10, h⟩ := ck_some h
    rcases or_split z10 with ⟨gz10, z10⟩ | gz10
    ·try simp only [go_sem, n1, n2, n3, n4, z2, z6, gz9, hz9] at gz10
     all_goals
     have lz10 := ix_lt z10
     have xz10 := getD_mapD Star_av y_5.1 lz10
     try simp only [go_sem] at lz10
     try simp only [go_sem] at xz10
     try simp only [go_sem, n1, n2, n3, n4, z2, z6, gz9, hz9, gz10] at z10
     all_goals
     rcases it_some h with ⟨z11, h⟩ | ⟨z11, h⟩
     ·try simp only [go_sem, n1, n2, n3, n4, z2, z6, gz9, hz9, gz10, z10] at z11
      all_goals
      obtain rfl := so_some h
      refine ⟨0, fun L hL => ?_⟩
      simp only [go_sem, ir3, E_laws_FnCatalogues_l1, R_laws_FnCatalogues_l1, ir3_k0, ir3_o0, ir3_r0, E_laws_FnCatalogues_l2, R_laws_FnCatalogues_l2, ir3_k0, ir3_o0, ir3_r0, fz1, z2, fz3, fz4, fz5, z6, fz7, fz8, gz9, hz9, fz9, gz10, z10, lz10, xz10, z11]
     ·try simp only [go_sem, n1, n2, n3, n4, z2, z6, gz9, hz9, gz10, z10] at z11
      all_goals
      obtain ⟨y_12, z12, h⟩ := bd_some h
      have fz12 := Fs_54 z12
      try simp only [go_sem, z2, z6, gz9, hz9, gz10, z10, z11] at fz12
      rcases it_some h with ⟨z13, h⟩ | ⟨z13, h⟩
      ·try simp only [go_sem, n1, n2, n3, n4, z2, z6, gz9, hz9, gz10, z10, z11] at z13
       all_goals
       obtain rfl := so_some h
       refine ⟨0, fun L hL => ?_⟩
       simp only [go_sem, ir3, E_laws_FnCatalogues_l1, R_laws_FnCatalogues_l1, ir3_k0, ir3_o0, ir3_r0, E_laws_FnCatalogues_l2, R_laws_FnCatalogues_l2, ir3_k0, ir3_o0, ir3_r0, fz1, z2, fz3, fz4, fz5, z6, fz7, fz8, gz9, hz9, fz9, gz10, z10, lz10, xz10, z11, fz12, z13]
      ·try simp only [go_sem, n1, n2, n3, n4, z2, z6, gz9, hz9, gz10, z10, z11] at z13
       all_goals
       obtain ⟨y_33, z33, h⟩ := bd_some h
       obtain ⟨Lz33, ez33⟩ := laws_FnCatalogues_l1_ex z33
       rcases y_33 with y_33a | y_33b
       ·dsimp only at h
        obtain rfl := so_some h
        refine ⟨Lz33, fun L hL => ?_⟩
        have ez33 := ez33 L (by omega)
        try simp only [go_sem, E_laws_FnCatalogues_l1, R_laws_FnCatalogues_l1, ir3_k0, ir3_o0, ir3_r0, E_laws_FnCatalogues_l2, R_laws_FnCatalogues_l2, ir3_k0, ir3_o0, ir3_r0, z2, z6, gz9, hz9, gz10, z10, z11, z13] at ez33
        simp only [go_sem, ir3, E_laws_FnCatalogues_l1, R_laws_FnCatalogues_l1, ir3_k0, ir3_o0, ir3_r0, E_laws_FnCatalogues_l2, R_laws_FnCatalogues_l2, ir3_k0, ir3_o0, ir3_r0, fz1, z2, fz3, fz4, fz5, z6, fz7, fz8, gz9, hz9, fz9, gz10, z10, lz10, xz10, z11, fz12, z13, ez33]
       ·dsimp only at h
        obtain rfl := so_some h
        refine ⟨Lz33, fun L hL => ?_⟩
        have ez33 := ez33 L (by omega)
        try simp only [go_sem, E_laws_FnCatalogues_l1, R_laws_FnCatalogues_l1, ir3_k0, ir3_o0, ir3_r0, E_laws_FnCatalogues_l2, R_laws_FnCatalogues_l2, ir3_k0, ir3_o0, ir3_r0, z2, z6, gz9, hz9, gz10, z10, z11, z13] at ez33
        simp only [go_sem, ir3, E_laws_FnCatalogues_l1, R_laws_FnCatalogues_l1, ir3_k0, ir3_o0, ir3_r0, E_laws_FnCatalogues_l2, R_laws_FnCatalogues_l2, ir3_k0, ir3_o0, ir3_r0, fz1, z2, fz3, fz4, fz5, z6, fz7, fz8, gz9, hz9, fz9, gz10, z10, lz10, xz10, z11, fz12, z13, ez33]
    ·have gz10n := no_f gz10
     try simp only [go_sem, n1, n2, n3, n4, z2, z6, gz9, hz9] at gz10n
     all_goals
     rcases it_some h with ⟨z11, h⟩ | ⟨z11, h⟩
     ·try simp only [go_sem, n1, n2, n3, n4, z2, z6, gz9, hz9, gz10n] at z11
      all_goals
      obtain rfl := so_some h
      refine ⟨0, fun L hL => ?_⟩
      simp only [go_sem, ir3, E_laws_FnCatalogues_l1, R_laws_FnCatalogues_l1, ir3_k0, ir3_o0, ir3_r0, E_laws_FnCatalogues_l2, R_laws_FnCatalogues_l2, ir3_k0, ir3_o0, ir3_r0, fz1, z2, fz3, fz4, fz5, z6, fz7, fz8, gz9, hz9, fz9, gz10n, z11]
     ·try simp only [go_sem, n1, n2, n3, n4, z2, z6, gz9, hz9, gz10n] at z11
      all_goals
      (simp_all)
   ·have gz9n := no_f gz9
    have gz9nn := no_t gz9n
    try simp only [go_sem, n1, n2, n3, n4, z2, z6] at gz9nn
    all_goals
    obtain ⟨z10, h⟩ := ck_some h
    rcases it_some h with ⟨z11, h⟩ | ⟨z11, h⟩
    ·try simp only [go_sem, n1, n2, n3, n4, z2, z6, gz9nn] at z11
     all_goals
     obtain rfl := so_some h
     refine ⟨0, fun L hL => ?_⟩
     simp only [go_sem, ir3, E_laws_FnCatalogues_l1, R_laws_FnCatalogues_l1, ir3_k0, ir3_o0, ir3_r0, E_laws_FnCatalogues_l2, R_laws_FnCatalogues_l2, ir3_k0, ir3_o0, ir3_r0, fz1, z2, fz3, fz4, fz5, z6, fz7, fz8, gz9nn, z11]
    ·try simp only [go_sem, n1, n2, n3, n4, z2, z6, gz9nn] at z11
     all_goals
     (simp_all)
  ·try simp only [go_sem, n1, n2, n3, n4, z2] at z6
   all_goals
   rcases it_some h with ⟨z34, h⟩ | ⟨z34, h⟩
   ·try simp only [go_sem, n1, n2, n3, n4, z2, z6] at z34
    all_goals
    obtain rfl := so_some h
    refine ⟨0, fun L hL => ?_⟩
    simp only [go_sem, ir3, E_laws_FnCatalogues_l1, R_laws_FnCatalogues_l1, ir3_k0, ir3_o0, ir3_r0, E_laws_FnCatalogues_l2, R_laws_FnCatalogues_l2, ir3_k0, ir3_o0, ir3_r0, fz1, z2, fz3, fz4, fz5, z6, z34]
   ·try simp only [go_sem, n1, n2, n3, n4, z2, z6] at z34
    all_goals
    obtain ⟨y_35, z35, h⟩ := bd_some h
    have fz35 := Fs_54 z35
    try simp only [go_sem, z2, z6, z34] at fz35
    rcases it_some h with ⟨z36, h⟩ | ⟨z36, h⟩
    ·try simp only [go_sem, n1, n2, n3, n4, z2, z6, z34] at z36
     all_goals
     obtain rfl := so_some h
     refine ⟨0, fun L hL => ?_⟩
     simp only [go_sem, ir3, E_laws_FnCatalogues_l1, R_laws_FnCatalogues_l1, ir3_k0, ir3_o0, ir3_r0, E_laws_FnCatalogues_l2, R_laws_FnCatalogues_l2, ir3_k0, ir3_o0, ir3_r0, fz1, z2, fz3, fz4, fz5, z6, z34, fz35, z36]
    ·try simp only [go_sem, n1, n2, n3, n4, z2, z6, z34] at z36
     all_goals
     obtain ⟨y_56, z56, h⟩ := bd_some h
     obtain ⟨Lz56, ez56⟩ := laws_FnCatalogues_l2_ex z56
     rcases y_56 with y_56a | y_56b
     ·dsimp only at h
      obtain rfl := so_some h
      refine ⟨Lz56, fun L hL => ?_⟩
      have ez56 := ez56 L (by omega)
      try simp only [go_sem, E_laws_FnCatalogues_l1, R_laws_FnCatalogues_l1, ir3_k0, ir3_o0, ir3_r0, E_laws_FnCatalogues_l2, R_laws_FnCatalogues_l2, ir3_k0, ir3_o0, ir3_r0, z2, z6, z34, z36] at ez56
      simp only [go_sem, ir3, E_laws_FnCatalogues_l1, R_laws_FnCatalogues_l1, ir3_k0, ir3_o0, ir3_r0, E_laws_FnCatalogues_l2, R_laws_FnCatalogues_l2, ir3_k0, ir3_o0, ir3_r0, fz1, z2, fz3, fz4, fz5, z6, z34, fz35, z36, ez56]
     ·dsimp only at h
      obtain rfl := so_some h
      refine ⟨Lz56, fun L hL => ?_⟩
      have ez56 := ez56 L (by omega)
      try simp only [go_sem, E_laws_FnCatalogues_l1, R_laws_FnCatalogues_l1, ir3_k0, ir3_o0, ir3_r0, E_laws_FnCatalogues_l2, R_laws_FnCatalogues_l2, ir3_k0, ir3_o0, ir3_r0, z2, z6, z34, z36] at ez56
      simp only [go_sem, ir3, E_laws_FnCatalogues_l1, R_laws_FnCatalogues_l1, ir3_k0, ir3_o0, ir3_r0, E_laws_FnCatalogues_l2, R_laws_FnCatalogues_l2, ir3_k0, ir3_o0, ir3_r0, fz1, z2, fz3, fz4, fz5, z6, z34, fz35, z36, ez56]


end Go.Proofs.YtfmhpfmibopkeaaDoor
