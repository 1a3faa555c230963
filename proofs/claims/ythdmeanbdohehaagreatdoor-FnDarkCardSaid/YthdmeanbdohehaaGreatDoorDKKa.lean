/- Codes and contracts of the functions that DK reaches, and that their typed forms say what they do. No condition. -/
import Derived.Test.YthdmeanbdohehaaGreatDoorDKT
import Derived.Test.YthdmeanbdohehaaGreatDoorEngColWindow
import Derived.Test.YthdmeanbdohehaaGreatDoorEngSCut
import Derived.Test.YthdmeanbdohehaaGreatDoorEngSF
import Derived.Test.YthdmeanbdohehaaGreatDoorEngSJ
import Derived.Test.YthdmeanbdohehaaGreatDoorEngSRd
import Derived.Test.YthdmeanbdohehaaGreatDoorRows
import Derived.WalkKit
namespace Go.Proofs.YthdmeanbdohehaaGreatDoor
open Go Go.RowKit
set_option linter.unusedVariables false
set_option linter.unusedSimpArgs false
set_option maxRecDepth 10000
def qs : List Nat := [0, 1, 2, 6]
def qt : EL := ⟨3, 4, .seq (.region false [ VO 3 6 (.mov (.c (.bool false)))]) (.seq (.region false [ PM 7 0, PM 8 1, PO 9 (.bin false .geq (.s 1) (.s 0)), PO 10 (.mov (.s 0)), ⟨.push, 11, (some ((.s 0), true)), .mov (.v 0)⟩, ⟨.push, 12, (some ((.s 1), true)), .mov (.v 2)⟩, ⟨.push, 13, (some ((.s 2), true)), .bin false .leq (.s 1) (.s 0)⟩, PO 14 (.pick (.s 3) (.s 0) (.c (.bool false))), VS 3 6 0]) (.ret)), [.t 3]⟩
noncomputable def t_0 : List (Nat × Bf) := []
noncomputable def fI : Bf := Gd t_0 qt [.bor, .bor, .bor]
theorem s_0 : Ad Tryz.prog 39 fI := AY _ rfl Ab (by kernel_rfl : BF Tryz.prog 39 qt qs = true)
theorem M_0 : fI.modes = [.bor, .bor, .bor] := rfl
theorem Fl_0 : fI.flat = true := rfl
attribute [go_sem] M_0 Fl_0
theorem ar {n : Int} {low : Int} {high : Int} {y_ : Bool} (h : Ek n low high = some y_) : fI.F [.int .i64 n, .int .i64 low, .int .i64 high] = ⟨true, .bool y_, [.any, .any, .any]⟩ := by
 refine Br rfl ?_
 dsimp only [Ek] at h
 obtain rfl := AC h
 refine ⟨0, fun L hL => ?_⟩
 simp only [go_sem, qt]
def qY : List Nat := [0, 2]
def qZ : EL := ⟨1, 2, .seq (.region false [ VO 1 2 (.mov (.c (.bool false)))]) (.seq (.region false [ PM 3 0, PO 4 (.call 39 [(.s 0), (I6 0), (I6 10000000)]), VS 1 2 0]) (.ret)), [.t 1]⟩
noncomputable def t_1 : List (Nat × Bf) := [(39, fI)]
theorem mb : Aa t_1 39 = some fI := rfl
noncomputable def oO : Bf := Gd t_1 qZ [.bor]
theorem s_1 : Ad Tryz.prog 54 oO := AY _ rfl (AI s_0 Ab) (by kernel_rfl : BF Tryz.prog 54 qZ qY = true)
theorem M_1 : oO.modes = [.bor] := rfl
theorem Fl_1 : oO.flat = true := rfl
attribute [go_sem] M_1 Fl_1 mb
theorem sZ {t : Int} {y_ : Bool} (h : Di t = some y_) : oO.F [.int .i64 t] = ⟨true, .bool y_, [.any]⟩ := by
 refine Br rfl ?_
 dsimp only [Di] at h
 obtain ⟨y_1, z1, h⟩ := AE h
 have fz1 := ar z1
 try simp only [go_sem] at fz1
 obtain rfl := AC h
 refine ⟨0, fun L hL => ?_⟩
 simp only [go_sem, qZ, fz1]
def Ws : IR := .seq (.region false [ VO 7 11 (.bin false .lss (.v 6) (.v 5))]) (.seq (.cond (.v 7) (.skip) (.exit 0)) (.seq (.block 1 (.seq (.region false [ PM 12 6, PO 13 (.ixAddr 2 (.v 4) (.v 6)), PO 14 (.load true 2 (.s 0)), VO 3 4 (.alloc (.agg [.int .i64 (0), .int .i64 (0)])), VS 2 3 2, ⟨.no, 0, none, .store 2 (.v 3) (.s 0)⟩]) (.anyo 32 [ SO 0 15 (.fldAddr 0 (.v 3)), SO 1 16 (.load false 1 (.s 0)), SO 2 17 (.callp 54 [(.s 1)]), SO 3 18 (.un .not (.s 2)), SO 4 19 (.mov (.s 3)), ⟨.slot 5, 20, (some ((.s 4), false)), .fldAddr 1 (.v 3)⟩, ⟨.slot 6, 21, (some ((.s 4), false)), .load false 1
 (.s 5)⟩, ⟨.slot 7, 22, (some ((.s 4), false)), .call 54 [(.s 6)]⟩, ⟨.slot 8, 23, (some ((.s 4), false)), .un .not (.s 7)⟩, SO 9 24 (.pick (.s 4) (.c (.bool true)) (.s 8)), SO 10 25 (.mov (.s 9)), ⟨.slot 11, 26, (some ((.s 10), false)), .fldAddr 0 (.v 3)⟩, ⟨.slot 12, 27, (some ((.s 10), false)), .load false 1 (.s 11)⟩, ⟨.slot 13, 28, (some ((.s 10), false)), .fldAddr 1 (.v 3)⟩, ⟨.slot 14, 29, (some ((.s 10), false)), .load false 1 (.s 13)⟩, ⟨.slot 15, 30, (some ((.s 10), false)), .bin false .gtr (.s 12) (.s 14)⟩, SO 16 31 (.pick (.s 10) (.c (.bool true)) (.s 15)), SO 17 32 (.mov (.s 16)),
 ⟨.slot 18, 33, (some ((.s 17), false)), .mov (.v 2)⟩, ⟨.slot 19, 34, (some ((.s 17), false)), .bin false .gtr (.s 18) (I6 0)⟩, ⟨.slot 20, 35, (some ((.s 17), false)), .mov (.s 19)⟩, ⟨.slot 21, 36, (some ((.s 20), true)), .mov (.v 0)⟩, ⟨.slot 22, 37, (some ((.s 20), true)), .mov (.v 2)⟩, ⟨.slot 23, 38, (some ((.s 20), true)), .bin false .sub (.s 22) (I6 1)⟩, ⟨.slot 24, 39, (some ((.s 20), true)), .ixAddr 2 (.s 21) (.s 23)⟩, ⟨.slot 25, 40, (some ((.s 20), true)), .fldAddr 1 (.s 24)⟩, ⟨.slot 26, 41, (some ((.s 20), true)), .load false 1 (.s 25)⟩, ⟨.slot 27, 42, (some ((.s 20), true)), .fldAddr 0
 (.v 3)⟩, ⟨.slot 28, 43, (some ((.s 20), true)), .load false 1 (.s 27)⟩, ⟨.slot 29, 44, (some ((.s 20), true)), .bin false .geq (.s 26) (.s 28)⟩, ⟨.slot 30, 45, (some ((.s 17), false)), .pick (.s 20) (.s 29) (.c (.bool false))⟩, SO 31 46 (.pick (.s 17) (.c (.bool true)) (.s 30))] [] (.cond (.s 31) (.seq (.region false [ VO 1 2 (.mov (.c (.bool false)))]) (.ret)) (.skip))))) (.region false [ PO 47 (.bin false .add (.v 6) (I6 1)), VS 6 10 0])))
def RZ : List Bool := [true, false, false, false, true, true, true, false]
def RY : List Bool := [false, false, false, false, false, false, false, false]
def RX : List Bool := [false, true, false, false, false, false, false, false]
def rM : List Nat := [0, 2, 3, 4, 8, 9, 10, 11]
def my : EL := ⟨1, 8, .seq (.region false [ VO 1 2 (.mov (.c (.bool false)))]) (.seq (.test false [ PM 5 0, PO 6 (.len false (.s 0)), PO 7 (.bin false .gtr (.s 0) (I6 30))] (.s 0) (.seq (.region false [ VO 1 2 (.mov (.c (.bool false)))]) (.ret)) (.skip)) (.seq (.seq (.region false [ VO 4 8 (.mov (.v 0)), VO 5 9 (.len false (.v 4)), VO 6 10 (.mov (I6 0))]) (.block 0 (.loop RZ RY RX Ws))) (.seq (.region false [ VO 1 2 (.mov (.c (.bool true)))]) (.ret)))), [.t 1]⟩
noncomputable def t_2 : List (Nat × Bf) := [(54, oO)]
theorem ma : Aa t_2 54 = some oO := rfl
noncomputable def Xm : Bf := Gd t_2 my [.bor]
theorem pd : Ad Tryz.prog 26 Xm := AY _ rfl (AI s_1 Ab) (by kernel_rfl : BF Tryz.prog 26 my rM = true)
theorem M_2 : Xm.modes = [.bor] := rfl
theorem Fl_2 : Xm.flat = true := rfl
attribute [go_sem] M_2 Fl_2 ma
def Xi (list : List AA) (t8 : List AA) (t9 : Int) : Int → St
 | t10 => ⟨[.sl 2 (List.map AB list), .any, .any, .any, .sl 2 (List.map AB t8), .int .i64 t9, .int .i64 t10, .any], [], [], true⟩
def Xe (list : List AA) (t8 : List AA) (t9 : Int) : (Unit ⊕ Bool) → FT
 | .inl y => (.exit 0, ⟨[.any, .any, .any, .any, .any, .any, .any, .any], [], [], true⟩)
 | .inr y => (.ret, ⟨[.any, .bool y, .any, .any, .any, .any, .any, .any], [], [], true⟩)
set_option maxHeartbeats 64000000 in
attribute [local go_sem] my Xi Xe Ws RZ RY RX in
theorem Je {list : List AA} {t8 : List AA} {t9 : Int} {sgm_ : Int} {rho_ : Unit ⊕ Bool} (h : AJ (Eb list t8 t9) sgm_ = some rho_) : ∃ L0, ∀ L, L0 ≤ L → Cg (BD (Aa t_2) L Ws) RZ RY RX L (Xi list t8 t9 sgm_) = Xe list t8 t9 rho_ := by
 refine BJ (E := Xi list t8 t9) (R := Xe list t8 t9) (fun y => by first | (intro c; cases c) | (rcases y with y | y <;> (intro c; cases c)) | (rcases y with y | y | y <;> (intro c; cases c))) ?_ h
 clear h
 intro t10 o_ h
 dsimp only [Eb] at h
 rcases AF h with ⟨z2, h⟩ | ⟨z2, h⟩
 ·try simp only [go_sem, n1, n2, n3, n4] at z2
  all_goals
  obtain ⟨z3, h⟩ := AD h
  have lz3 := BT z3
  have xz3 := AR AB t8 lz3
  try simp only [go_sem] at lz3
  try simp only [go_sem] at xz3
  try simp only [go_sem, n1, n2, n3, n4, z2] at z3
  all_goals
  obtain ⟨y_4, z4, h⟩ := AE h
  have fz4 := sZ z4
  try simp only [go_sem, z2, z3] at fz4
  obtain ⟨z5, h⟩ := AD h
  rcases Ay z5 with ⟨gz5, z5⟩ | gz5
  ·try simp only [go_sem, n1, n2, n3, n4, z2, z3] at gz5
   all_goals
   obtain ⟨y_5, hz5⟩ := Option.isSome_iff_exists.1 z5
   have fz5 := sZ hz5
   try simp only [go_sem, n1, n2, n3, n4, z2, z3, gz5] at hz5
   all_goals
   try simp only [go_sem, z2, z3, gz5] at fz5
   obtain ⟨z6, h⟩ := AD h
   rcases Ay z6 with ⟨gz6, z6⟩ | gz6
   ·try simp only [go_sem, n1, n2, n3, n4, z2, z3, gz5, hz5] at gz6
    all_goals
    have lz6 := BT z6
    have xz6 := AR AB list lz6
    try simp only [go_sem] at lz6
    try simp only [go_sem] at xz6
    try simp only [go_sem, n1, n2, n3, n4, z2, z3, gz5, hz5, gz6] at z6
    all_goals
    rcases AF h with ⟨z7, h⟩ | ⟨z7, h⟩
    all_goals
    try simp only [go_sem, n1, n2, n3, n4, z2, z3, gz5, hz5, gz6, z6] at z7
    all_goals
    obtain rfl := AC h
    refine ⟨0, fun L hL => ?_⟩
    simp only [go_sem, z2, z3, lz3, xz3, fz4, gz5, hz5, fz5, gz6, z6, lz6, xz6, z7]
   ·rcases Ud gz6 with gz6a | ⟨gz6a, gz6b⟩
    ·have gz6an := BH gz6a
     rcases JA gz6an with gz6ana | ⟨gz6ana, gz6anb⟩
     ·rcases JA gz6ana with gz6anaa | ⟨gz6anaa, gz6anab⟩
      ·try simp only [go_sem, n1, n2, n3, n4, z2, z3, gz5, hz5] at gz6anaa
       all_goals
       (simp_all)
      ·have gz6anaan := BH gz6anaa
       have gz6anabn := Fj gz6anab
       try simp only [go_sem, n1, n2, n3, n4, z2, z3, gz5, hz5] at gz6anaan
       all_goals
       try simp only [go_sem, n1, n2, n3, n4, z2, z3, gz5, hz5, gz6anaan] at gz6anabn
       all_goals
       rcases AF h with ⟨z7, h⟩ | ⟨z7, h⟩
       ·try simp only [go_sem, n1, n2, n3, n4, z2, z3, gz5, hz5, gz6anaan, gz6anabn] at z7
        all_goals
        obtain rfl := AC h
        refine ⟨0, fun L hL => ?_⟩
        simp only [go_sem, z2, z3, lz3, xz3, fz4, gz5, hz5, fz5, gz6anaan, gz6anabn, z7]
       ·try simp only [go_sem, n1, n2, n3, n4, z2, z3, gz5, hz5, gz6anaan, gz6anabn] at z7
        all_goals
        (simp_all)
     ·obtain ⟨gz6anaa, gz6anab⟩ := Dh gz6ana
      have gz6anaan := BH gz6anaa
      have gz6anabn := BH gz6anab
      try simp only [go_sem, n1, n2, n3, n4, z2, z3, gz5, hz5] at gz6anaan
      all_goals
      try simp only [go_sem, n1, n2, n3, n4, z2, z3, gz5, hz5, gz6anaan] at gz6anabn
      all_goals
      try simp only [go_sem, n1, n2, n3, n4, z2, z3, gz5, hz5, gz6anaan, gz6anabn] at gz6anb
      all_goals
      rcases AF h with ⟨z7, h⟩ | ⟨z7, h⟩
      ·try simp only [go_sem, n1, n2, n3, n4, z2, z3, gz5, hz5, gz6anaan, gz6anabn, gz6anb] at z7
       all_goals
       obtain rfl := AC h
       refine ⟨0, fun L hL => ?_⟩
       simp only [go_sem, z2, z3, lz3, xz3, fz4, gz5, hz5, fz5, gz6anaan, gz6anabn, gz6anb, z7]
      ·try simp only [go_sem, n1, n2, n3, n4, z2, z3, gz5, hz5, gz6anaan, gz6anabn, gz6anb] at z7
       all_goals
       (simp_all)
    ·have gz6an := Fj gz6a
     obtain ⟨gz6ana, gz6anb⟩ := Dh gz6an
     obtain ⟨gz6anaa, gz6anab⟩ := Dh gz6ana
     have gz6anaan := BH gz6anaa
     have gz6anabn := BH gz6anab
     try simp only [go_sem, n1, n2, n3, n4, z2, z3, gz5, hz5] at gz6anaan
     all_goals
     try simp only [go_sem, n1, n2, n3, n4, z2, z3, gz5, hz5, gz6anaan] at gz6anabn
     all_goals
     try simp only [go_sem, n1, n2, n3, n4, z2, z3, gz5, hz5, gz6anaan, gz6anabn] at gz6anb
     all_goals
     try simp only [go_sem, n1, n2, n3, n4, z2, z3, gz5, hz5, gz6anaan, gz6anabn, gz6anb] at gz6b
     all_goals
     rcases AF h with ⟨z7, h⟩ | ⟨z7, h⟩
     ·try simp only [go_sem, n1, n2, n3, n4, z2, z3, gz5, hz5, gz6anaan, gz6anabn, gz6anb, gz6b] at z7
      all_goals
      (simp_all)
     ·try simp only [go_sem, n1, n2, n3, n4, z2, z3, gz5, hz5, gz6anaan, gz6anabn, gz6anb, gz6b] at z7
      all_goals
      obtain rfl := AC h
      refine ⟨0, fun L hL => ?_⟩
      simp only [go_sem, z2, z3, lz3, xz3, fz4, gz5, hz5, fz5, gz6anaan, gz6anabn, gz6anb, gz6b, z7]
  ·have gz5n := BH gz5
   have gz5nn := Fj gz5n
   try simp only [go_sem, n1, n2, n3, n4, z2, z3] at gz5nn
   all_goals
   obtain ⟨z6, h⟩ := AD h
   rcases AF h with ⟨z7, h⟩ | ⟨z7, h⟩
   ·try simp only [go_sem, n1, n2, n3, n4, z2, z3, gz5nn] at z7
    all_goals
    obtain rfl := AC h
    refine ⟨0, fun L hL => ?_⟩
    simp only [go_sem, z2, z3, lz3, xz3, fz4, gz5nn, z7]
   ·try simp only [go_sem, n1, n2, n3, n4, z2, z3, gz5nn] at z7
    all_goals
    (simp_all)
 ·try simp only [go_sem, n1, n2, n3, n4] at z2
  all_goals
  obtain rfl := AC h
  refine ⟨0, fun L hL => ?_⟩
  simp only [go_sem, z2]
set_option maxHeartbeats 64000000 in
attribute [local go_sem] my Xi Xe RZ RY RX in
theorem Ok {list : List AA} {y_ : Bool} (h : Ag list = some y_) : Xm.F [.sl 2 (List.map AB list)] = ⟨true, .bool y_, [.any]⟩ := by
 refine Br rfl ?_
 dsimp only [Ag] at h
 rcases AF h with ⟨z1, h⟩ | ⟨z1, h⟩
 ·try simp only [go_sem, n1, n2, n3, n4] at z1
  all_goals
  obtain rfl := AC h
  refine ⟨0, fun L hL => ?_⟩
  simp only [go_sem, z1]
 ·try simp only [go_sem, n1, n2, n3, n4] at z1
  all_goals
  obtain ⟨y_8, z8, h⟩ := AE h
  obtain ⟨Lz8, ez8⟩ := Je z8
  rcases y_8 with y_8a | y_8b
  all_goals
  dsimp only at h
  obtain rfl := AC h
  refine ⟨Lz8, fun L hL => ?_⟩
  have ez8 := ez8 L (by omega)
  try simp only [go_sem, z1] at ez8
  simp only [go_sem, z1, ez8]
def qn : List Nat := [0, 1, 2, 3]
def qo : EL := ⟨2, 4, .seq (.region false [ VO 2 2 (.box (.v 0)), VO 3 3 (.mov (.c (.bool false)))]) (.seq (.region false [ PO 4 (.fldAddr 1 (.v 2)), PO 5 (.load false 1 (.s 0)), PO 6 (.fldAddr 0 (.v 2)), PO 7 (.load false 1 (.s 0)), PO 8 (.bin false .sub (.s 2) (.s 0)), PO 9 (.bin false .add (.s 0) (I6 1)), PO 10 (.load false 1 (.v 1)), PO 11 (.bin false .geq (.s 1) (.s 0)), VS 3 3 0]) (.ret)), [.t 3]⟩
noncomputable def t_3 : List (Nat × Bf) := []
noncomputable def tE : Bf := Gd t_3 qo [.bor, .bor]
theorem s_3 : Ad Tryz.prog 42 tE := AY _ rfl Ab (by kernel_rfl : BF Tryz.prog 42 qo qn = true)
theorem M_3 : tE.modes = [.bor, .bor] := rfl
theorem Fl_3 : tE.flat = true := rfl
attribute [go_sem] M_3 Fl_3
theorem Fs_3 {w : AA} {t1 : Int} {y_ : Bool} (h : GN w t1 = some y_) : tE.F [AB w, .ptr 1 [.int .i64 t1] 0 0] = ⟨true, .bool y_, [.any, .any]⟩ := by
 refine Br rfl ?_
 dsimp only [GN] at h
 obtain rfl := AC h
 refine ⟨0, fun L hL => ?_⟩
 simp only [go_sem, qo]
def Wl : IR := .seq (.region false [ VO 8 12 (.bin false .lss (.v 7) (.v 6))]) (.seq (.cond (.v 8) (.skip) (.exit 0)) (.seq (.block 1 (.seq (.region false [ PO 13 (.ixAddr 2 (.v 5) (.v 7)), PO 14 (.load true 2 (.s 0)), VO 4 7 (.alloc (.agg [.int .i64 (0), .int .i64 (0)])), ⟨.no, 0, none, .store 2 (.v 4) (.s 0)⟩]) (.test false [ PM 15 1, PO 16 (.load true 2 (.v 4)), PO 17 (.callv (.s 1) [(.s 0)])] (.s 0) (.region false [ PM 18 3, PO 19 (.load true 2 (.v 4)), PO 20 (.mkSl 2 (.agg [.int .i64 (0), .int .i64 (0)]) 1 [(0, (.s 0))]), PO 21 (.app 2 16 (.agg [.int .i64 (0), .int .i64 (0)]) (.s 2)
 (.s 0)), VS 3 5 0]) (.skip)))) (.region false [ PO 22 (.bin false .add (.v 7) (I6 1)), VS 7 11 0])))
def RJ : List Bool := [false, true, false, true, false, true, true, true, false]
def RI : List Bool := [false, false, false, true, false, false, false, false, false]
def RH : List Bool := [false, false, true, false, false, false, false, false, false]
def qp : List Nat := [0, 1, 4, 5, 7, 9, 10, 11, 12]
def mt : EL := ⟨2, 9, .seq (.region false [ VO 2 4 (.newnil 2)]) (.seq (.region false [ PO 8 (.mkSl 2 (.agg [.int .i64 (0), .int .i64 (0)]) 0 []), VS 3 5 0]) (.seq (.seq (.region false [ VO 5 9 (.mov (.v 0)), VO 6 10 (.len false (.v 5)), VO 7 11 (.mov (I6 0))]) (.block 0 (.loop RJ RI RH Wl))) (.seq (.region false [ PM 23 3, VS 2 4 0]) (.ret)))), [.t 2]⟩
noncomputable def t_4 : List (Nat × Bf) := [(42, tE)]
theorem mZ : Aa t_4 42 = some tE := rfl
noncomputable def tD : Bf := Gd t_4 mt [.bor, .bor]
theorem s_4 : Ad Tryz.prog 41 tD := AY _ rfl (AI s_3 Ab) (by kernel_rfl : BF Tryz.prog 41 mt qp = true)
theorem M_4 : tD.modes = [.bor, .bor] := rfl
theorem Fl_4 : tD.flat = true := rfl
attribute [go_sem] M_4 Fl_4 mZ
def Xh (c : Int) (t9 : List AA) (t10 : Int) : ((List AA) × Int) → St
 | (out, t11) => ⟨[.any, .fn (.func 42) [] [.ptr 1 [.int .i64 c] 0 0], .any, .own 3200000, .any, .sl 2 (List.map AB t9), .int .i64 t10, .int .i64 t11, .any], [], [(3200000, ⟨2, List.map AB out⟩)], true⟩
def Xd (c : Int) (t9 : List AA) (t10 : Int) (y : (List AA)) : FT := (.exit 0, ⟨[.any, .any, .any, .own 3200000, .any, .any, .any, .any, .any], [], [(3200000, ⟨2, List.map AB y⟩)], true⟩)
attribute [local go_sem] mt Xh Xd Wl RJ RI RH in
theorem EP {c : Int} {t9 : List AA} {t10 : Int} {sgm_ : (List AA) × Int} {rho_ : (List AA)} (h : AJ (BO c t9 t10) sgm_ = some rho_) : ∃ L0, ∀ L, L0 ≤ L → Cg (BD (Aa t_4) L Wl) RJ RI RH L (Xh c t9 t10 sgm_) = Xd c t9 t10 rho_ := by
 refine BJ (E := Xh c t9 t10) (R := Xd c t9 t10) (fun y => by first | (intro c; cases c) | (rcases y with y | y <;> (intro c; cases c)) | (rcases y with y | y | y <;> (intro c; cases c))) ?_ h
 clear h
 rintro ⟨out, t11⟩ o_ h
 dsimp only [BO] at h
 rcases AF h with ⟨z1, h⟩ | ⟨z1, h⟩
 ·try simp only [go_sem, n1, n2, n3, n4] at z1
  all_goals
  obtain ⟨z2, h⟩ := AD h
  have lz2 := BT z2
  have xz2 := AR AB t9 lz2
  try simp only [go_sem] at lz2
  try simp only [go_sem] at xz2
  try simp only [go_sem, n1, n2, n3, n4, z1] at z2
  all_goals
  obtain ⟨y_3, z3, h⟩ := AE h
  have fz3 := Fs_3 z3
  try simp only [go_sem, z1, z2] at fz3
  rcases AF h with ⟨z4, h⟩ | ⟨z4, h⟩
  ·try simp only [go_sem, n1, n2, n3, n4, z1, z2] at z4
   all_goals
   obtain ⟨z5, h⟩ := AD h
   try simp only [go_sem, n1, n2, n3, n4, z1, z2, z4] at z5
   all_goals
   obtain rfl := AC h
   refine ⟨0, fun L hL => ?_⟩
   simp only [go_sem, z1, z2, lz2, xz2, fz3, z4, z5]
  ·try simp only [go_sem, n1, n2, n3, n4, z1, z2] at z4
   all_goals
   obtain rfl := AC h
   refine ⟨0, fun L hL => ?_⟩
   simp only [go_sem, z1, z2, lz2, xz2, fz3, z4]
 ·try simp only [go_sem, n1, n2, n3, n4] at z1
  all_goals
  obtain rfl := AC h
  refine ⟨0, fun L hL => ?_⟩
  simp only [go_sem, z1]
attribute [local go_sem] Xh Xd RJ RI RH mt in
theorem Fs_4 {list : List AA} {wanted_c0 : Int} {y_ : (List AA)} (h : BV list wanted_c0 = some y_) : tD.F [.sl 2 (List.map AB list), .fn (.func 42) [] [.ptr 1 [.int .i64 wanted_c0] 0 0]] = ⟨true, .fresh 2 (List.map AB y_), [.any, .any]⟩ := by
 refine Br (by simp only [EA, ES, Ei, List.all_cons, List.all_nil, Bool.and_self, Bo (f := AB) (fun _ => rfl)]) ?_
 dsimp only [BV] at h
 obtain ⟨y_6, z6, h⟩ := AE h
 obtain ⟨Lz6, ez6⟩ := EP z6
 obtain rfl := AC h
 refine ⟨Lz6, fun L hL => ?_⟩
 have ez6 := ez6 L (by omega)
 try simp only [go_sem] at ez6
 simp only [go_sem, ez6]
def rh : List Nat := [0, 1, 3, 4, 5]
def jw : EL := ⟨2, 5, .seq (.region false [ VO 2 3 (.box (.v 1)), VO 3 4 (.newnil 2), VO 4 5 (.mov (I6 0))]) (.seq (.block 0 (.test false [ PM 7 0, PO 8 (.call 26 [(.s 0)]), PO 9 (.un .not (.s 0)), PO 6 (.mov (.s 0))] (.s 0) (.seq (.region false [ VO 3 4 (.newnil 2), VO 4 5 (.mov (I6 1))]) (.ret)) (.test false [ PO 11 (.load false 1 (.v 2)), PO 12 (.call 39 [(.s 0), (I6 1), (I6 10000001)]), PO 13 (.un .not (.s 0)), PO 10 (.mov (.s 0))] (.s 0) (.seq (.region false [ VO 3 4 (.newnil 2), VO 4 5 (.mov (I6 2))]) (.ret)) (.skip)))) (.seq (.region false [ PM 14 0, PO 15 (.mkFn (.func 42) [] [(.v
 2)]), PO 16 (.call 41 [(.s 1), (.s 0)]), VS 3 4 0, VO 4 5 (.mov (I6 0))]) (.ret))), [.t 3, .t 4]⟩
noncomputable def t_5 : List (Nat × Bf) := [(26, Xm), (39, fI), (41, tD)]
theorem mY : Aa t_5 26 = some Xm := rfl
theorem mX : Aa t_5 39 = some fI := rfl
theorem mW : Aa t_5 41 = some tD := rfl
noncomputable def tC : Bf := Gd t_5 jw [.bor, .bor]
theorem s_5 : Ad Tryz.prog 12 tC := AY _ rfl (AI pd (AI s_0 (AI s_4 Ab))) (by kernel_rfl : BF Tryz.prog 12 jw rh = true)
theorem M_5 : tC.modes = [.bor, .bor] := rfl
theorem Fl_5 : tC.flat = true := rfl
attribute [go_sem] M_5 Fl_5 mY mX mW
theorem sY {list : List AA} {least : Int} {y_ : (List AA) × Int} (h : DQ list least = some y_) : tC.F [.sl 2 (List.map AB list), .int .i64 least] = ⟨true, .tup [.fresh 2 (List.map AB y_.1), .int .i64 y_.2], [.any, .any]⟩ := by
 refine Br (by simp only [EA, ES, Ei, List.all_cons, List.all_nil, Bool.and_self, Bo (f := AB) (fun _ => rfl)]) ?_
 dsimp only [DQ] at h
 obtain ⟨y_1, z1, h⟩ := AE h
 have fz1 := Ok z1
 try simp only [go_sem] at fz1
 rcases AF h with ⟨z2, h⟩ | ⟨z2, h⟩
 ·try simp only [go_sem, n1, n2, n3, n4] at z2
  all_goals
  obtain rfl := AC h
  refine ⟨0, fun L hL => ?_⟩
  simp only [go_sem, jw, fz1, z2]
 ·try simp only [go_sem, n1, n2, n3, n4] at z2
  all_goals
  obtain ⟨y_3, z3, h⟩ := AE h
  have fz3 := ar z3
  try simp only [go_sem, z2] at fz3
  rcases AF h with ⟨z4, h⟩ | ⟨z4, h⟩
  ·try simp only [go_sem, n1, n2, n3, n4, z2] at z4
   all_goals
   obtain rfl := AC h
   refine ⟨0, fun L hL => ?_⟩
   simp only [go_sem, jw, fz1, z2, fz3, z4]
  ·try simp only [go_sem, n1, n2, n3, n4, z2] at z4
   all_goals
   obtain ⟨y_5, z5, h⟩ := AE h
   have fz5 := Fs_4 z5
   try simp only [go_sem, z2, z4] at fz5
   obtain rfl := AC h
   refine ⟨0, fun L hL => ?_⟩
   simp only [go_sem, jw, fz1, z2, fz3, z4, fz5]
def uS : List Nat := [0, 2]
def ir4 : EL := ⟨1, 2, .seq (.region false [ VO 1 2 (.mov (.c (.bool false)))]) (.seq (.region false [ PM 3 0, PO 4 (.len false (.s 0)), PO 5 (.bin false .gtr (.s 0) (I6 4096)), VS 1 2 0]) (.ret)), [.t 1]⟩
noncomputable def t_6 : List (Nat × Bf) := []
noncomputable def tB : Bf := Gd t_6 ir4 [.bor]
theorem s_6 : Ad Tryz.prog 4 tB := AY _ rfl Ab (by kernel_rfl : BF Tryz.prog 4 ir4 uS = true)
theorem M_6 : tB.modes = [.bor] := rfl
theorem Fl_6 : tB.flat = true := rfl
attribute [go_sem] M_6 Fl_6
theorem Fs_6 {code : List UInt8} {y_ : Bool} (h : KA code = some y_) : tB.F [.sl 1 (List.map Cc code)] = ⟨true, .bool y_, [.any]⟩ := by
 refine Br rfl ?_
 dsimp only [KA] at h
 obtain rfl := AC h
 refine ⟨0, fun L hL => ?_⟩
 simp only [go_sem, ir4]
def rH : List Nat := [0, 2]
def rI : EL := ⟨1, 2, .seq (.region false [ VO 1 2 (.mov (.c (.cv (.pointer none))))]) (.seq (.region false [ PM 3 0, PO 4 (.build [.sl 1 [], .int .i64 (0), .int .u64 (0)] [(0, 1, (.s 0))]), PO 5 (.box (.s 0)), VS 1 2 0]) (.ret)), [.t 1]⟩
noncomputable def t_7 : List (Nat × Bf) := []
noncomputable def Xl : Bf := VP t_7 rI [.bor]
theorem pc : Ad Tryz.prog 29 Xl := DF _ Ab (by kernel_rfl : BF Tryz.prog 29 rI rH = true)
theorem M_7 : Xl.modes = [.bor] := rfl
theorem Fl_7 : Xl.flat = false := rfl
attribute [go_sem] M_7 Fl_7
theorem aq {code : List UInt8} {y_ : Aw} (h : DT code = some y_) : Xl.F [.sl 1 (List.map Cc code)] = ⟨true, .mem 3 [CE y_] 0, [.any]⟩ := by
 refine Ho ?_
 dsimp only [DT] at h
 obtain rfl := AC h
 refine ⟨0, fun L hL => ?_⟩
 simp only [go_sem, rI]
def qO : List Nat := [0, 2, 3]
def dH : EL := ⟨1, 3, .seq (.region false [ VO 1 2 (.mov (I6 0))]) (.seq (.region false [ VO 2 3 (.mov (I6 0))]) (.seq (.anyo 10 [ SO 0 4 (.mov (.v 0)), SO 1 5 (.nilck (.s 0)), SO 2 6 (.fldAddr 1 (.s 1)), SO 3 7 (.load false 1 (.s 2)), SO 4 8 (.mov (.v 0)), SO 5 9 (.nilck (.s 4)), SO 6 10 (.fldAddr 0 (.s 5)), SO 7 11 (.load false 1 (.s 6)), SO 8 12 (.len false (.s 7)), SO 9 13 (.bin false .lss (.s 3) (.s 8))] [] (.cond (.s 9) (.anyo 11 [ SO 0 14 (.mov (.v 0)), SO 1 15 (.nilck (.s 0)), SO 2 16 (.fldAddr 0 (.s 1)), SO 3 17 (.load false 1 (.s 2)), SO 4 18 (.mov (.v 0)), SO 5 19 (.nilck (.s 4)),
 SO 6 20 (.fldAddr 1 (.s 5)), SO 7 21 (.load false 1 (.s 6)), SO 8 22 (.ixAddr 1 (.s 3) (.s 7)), SO 9 23 (.load false 1 (.s 8)), SO 10 24 (.conv .i64 (.s 9)), VS 2 3 10] [] .skip) (.skip))) (.seq (.region false [ PM 25 0, PO 26 (.nilck (.s 0)), PO 27 (.fldAddr 1 (.s 0)), PO 28 (.load false 1 (.s 0)), PO 29 (.bin false .add (.s 0) (I6 1)), PO 30 (.nilck (.s 4)), PO 31 (.fldAddr 1 (.s 0)), ⟨.no, 0, none, .store 1 (.s 0) (.s 2)⟩]) (.seq (.region false [ PM 32 0, PM 33 0, PO 34 (.nilck (.s 0)), PO 35 (.fldAddr 2 (.s 0)), PO 36 (.load false 1 (.s 0)), PO 37 (.bin false .mul (.s 0) (.c (.int .u64
 (6364136223846793005)))), PM 38 2, PO 39 (.conv .u64 (.s 0)), PO 40 (.bin false .add (.s 2) (.s 0)), PO 41 (.bin false .add (.s 0) (.c (.int .u64 (1442695040888963407)))), PO 42 (.nilck (.s 9)), PO 43 (.fldAddr 2 (.s 0)), ⟨.no, 0, none, .store 1 (.s 0) (.s 2)⟩]) (.seq (.anyo 10 [ SO 0 44 (.mov (.v 0)), SO 1 45 (.nilck (.s 0)), SO 2 46 (.fldAddr 1 (.s 1)), SO 3 47 (.load false 1 (.s 2)), SO 4 48 (.mov (.v 0)), SO 5 49 (.nilck (.s 4)), SO 6 50 (.fldAddr 0 (.s 5)), SO 7 51 (.load false 1 (.s 6)), SO 8 52 (.len false (.s 7)), SO 9 53 (.bin false .leq (.s 3) (.s 8))] [] (.cond (.s 9) (.seq (.region
 false [ PM 54 2, VS 1 2 0]) (.ret)) (.skip))) (.seq (.region false [ PM 55 0, PO 56 (.nilck (.s 0)), PO 57 (.fldAddr 2 (.s 0)), PO 58 (.load false 1 (.s 0)), PO 59 (.bin false .shr (.s 0) (.c (.int .u64 (40)))), PO 60 (.bin false .and (.s 0) (.c (.int .u64 (255)))), PO 61 (.conv .i64 (.s 0)), VS 1 2 0]) (.ret))))))), [.t 1]⟩
noncomputable def t_8 : List (Nat × Bf) := []
noncomputable def tA : Bf := VP t_8 dH [.io]
theorem s_8 : Ad Tryz.prog 61 tA := DF _ Ab (by kernel_rfl : BF Tryz.prog 61 dH qO = true)
theorem M_8 : tA.modes = [.io] := rfl
theorem Fl_8 : tA.flat = false := rfl
attribute [go_sem] M_8 Fl_8
theorem ue {s_ : Aw} {y_ : Int × Aw} (h : EJ s_ = some y_) : tA.F [.mem 3 [CE s_] 0] = ⟨true, .int .i64 y_.1, [.mem 3 [CE y_.2] 0]⟩ := by
 refine Ho ?_
 dsimp only [EJ] at h
 rcases AF h with ⟨z1, h⟩ | ⟨z1, h⟩
 ·try simp only [go_sem, n1, n2, n3, n4] at z1
  all_goals
  obtain ⟨z2, h⟩ := AD h
  have lz2 := BT z2
  have xz2 := AR Cc s_.code_ lz2
  try simp only [go_sem] at lz2
  try simp only [go_sem] at xz2
  try simp only [go_sem, n1, n2, n3, n4, z1] at z2
  all_goals
  rcases AF h with ⟨z3, h⟩ | ⟨z3, h⟩
  ·try simp only [go_sem, n1, n2, n3, n4, z1, z2] at z3
   all_goals
   obtain rfl := AC h
   refine ⟨0, fun L hL => ?_⟩
   simp only [go_sem, dH, z1, z2, lz2, xz2, z3]
  ·try simp only [go_sem, n1, n2, n3, n4, z1, z2] at z3
   all_goals
   obtain ⟨z4, h⟩ := AD h
   try simp only [go_sem, n1, n2, n3, n4, z1, z2, z3] at z4
   all_goals
   obtain rfl := AC h
   refine ⟨0, fun L hL => ?_⟩
   simp only [go_sem, dH, z1, z2, lz2, xz2, z3, z4]
 ·try simp only [go_sem, n1, n2, n3, n4] at z1
  all_goals
  rcases AF h with ⟨z5, h⟩ | ⟨z5, h⟩
  ·try simp only [go_sem, n1, n2, n3, n4, z1] at z5
   all_goals
   obtain rfl := AC h
   refine ⟨0, fun L hL => ?_⟩
   simp only [go_sem, dH, z1, z5]
  ·try simp only [go_sem, n1, n2, n3, n4, z1] at z5
   all_goals
   obtain ⟨z6, h⟩ := AD h
   try simp only [go_sem, n1, n2, n3, n4, z1, z5] at z6
   all_goals
   obtain rfl := AC h
   refine ⟨0, fun L hL => ?_⟩
   simp only [go_sem, dH, z1, z5, z6]
def qw : List Nat := [0, 1, 4, 5]
def ju : EL := ⟨2, 4, .seq (.region false [ VO 2 4 (.mov (I6 0))]) (.seq (.test false [ PM 6 1, PO 7 (.bin false .leq (.s 0) (I6 1))] (.s 0) (.seq (.region false [ VO 2 4 (.mov (I6 0))]) (.ret)) (.skip)) (.seq (.region false [ PM 8 0, PO 9 (.call 61 [(.s 0)]), VS 3 5 0]) (.seq (.test false [ PM 10 1, PO 11 (.bin false .gtr (.s 0) (I6 200))] (.s 0) (.region false [ PM 12 3, PO 13 (.bin false .mul (.s 0) (I6 256)), PM 14 0, PO 15 (.call 61 [(.s 0)]), PO 16 (.bin false .add (.s 2) (.s 0)), VS 3 5 0]) (.skip)) (.seq (.region false [ PM 17 3, PM 18 1, PO 19 (.bin false .rem (.s 1) (.s 0)), VS 2 4
 0]) (.ret))))), [.t 2]⟩
noncomputable def t_9 : List (Nat × Bf) := [(61, tA)]
theorem mV : Aa t_9 61 = some tA := rfl
noncomputable def Uo : Bf := VP t_9 ju [.io, .bor]
theorem mF : Ad Tryz.prog 37 Uo := DF _ (AI s_8 Ab) (by kernel_rfl : BF Tryz.prog 37 ju qw = true)
theorem M_9 : Uo.modes = [.io, .bor] := rfl
theorem Fl_9 : Uo.flat = false := rfl
attribute [go_sem] M_9 Fl_9 mV
theorem GR {s_ : Aw} {n : Int} {y_ : Int × Aw} (h : AK s_ n = some y_) : Uo.F [.mem 3 [CE s_] 0, .int .i64 n] = ⟨true, .int .i64 y_.1, [.mem 3 [CE y_.2] 0, .any]⟩ := by
 refine Ho ?_
 dsimp only [AK] at h
 rcases AF h with ⟨z1, h⟩ | ⟨z1, h⟩
 ·try simp only [go_sem, n1, n2, n3, n4] at z1
  all_goals
  obtain rfl := AC h
  refine ⟨0, fun L hL => ?_⟩
  simp only [go_sem, ju, z1]
 ·try simp only [go_sem, n1, n2, n3, n4] at z1
  all_goals
  obtain ⟨y_2, z2, h⟩ := AE h
  have fz2 := ue z2
  try simp only [go_sem, z1] at fz2
  rcases AF h with ⟨z3, h⟩ | ⟨z3, h⟩
  ·try simp only [go_sem, n1, n2, n3, n4, z1] at z3
   all_goals
   obtain ⟨y_4, z4, h⟩ := AE h
   have fz4 := ue z4
   try simp only [go_sem, z1, z3] at fz4
   obtain ⟨z5, h⟩ := AD h
   try simp only [go_sem, n1, n2, n3, n4, z1, z3] at z5
   all_goals
   obtain rfl := AC h
   refine ⟨0, fun L hL => ?_⟩
   simp only [go_sem, ju, z1, fz2, z3, fz4, z5]
  ·try simp only [go_sem, n1, n2, n3, n4, z1] at z3
   all_goals
   obtain ⟨z6, h⟩ := AD h
   try simp only [go_sem, n1, n2, n3, n4, z1, z3] at z6
   all_goals
   obtain rfl := AC h
   refine ⟨0, fun L hL => ?_⟩
   simp only [go_sem, ju, z1, fz2, z3, z6]
def qu : List Nat := [0, 1, 4]
def qv : EL := ⟨2, 3, .seq (.region false [ VO 2 4 (.mov (I6 0))]) (.seq (.region false [ PM 5 1, PM 6 0, PM 7 1, PO 8 (.len false (.s 0)), PO 9 (.call 37 [(.s 2), (.s 0)]), PO 10 (.ixAddr 1 (.s 4) (.s 0)), PO 11 (.load false 1 (.s 0)), VS 2 4 0]) (.ret)), [.t 2]⟩
noncomputable def tl : List (Nat × Bf) := [(37, Uo)]
theorem jl : Aa tl 37 = some Uo := rfl
noncomputable def Uw : Bf := VP tl qv [.io, .bor]
theorem pf : Ad Tryz.prog 38 Uw := DF _ (AI mF Ab) (by kernel_rfl : BF Tryz.prog 38 qv qu = true)
theorem M_10 : Uw.modes = [.io, .bor] := rfl
theorem wo : Uw.flat = false := rfl
attribute [go_sem] M_10 wo jl
theorem Gi {s_ : Aw} {list : List Int} {y_ : Int × Aw} (h : AP s_ list = some y_) : Uw.F [.mem 3 [CE s_] 0, .sl 1 (List.map (AV.int .i64) list)] = ⟨true, .int .i64 y_.1, [.mem 3 [CE y_.2] 0, .any]⟩ := by
 refine Ho ?_
 dsimp only [AP] at h
 obtain ⟨y_1, z1, h⟩ := AE h
 have fz1 := GR z1
 try simp only [go_sem] at fz1
 obtain ⟨z2, h⟩ := AD h
 have lz2 := BT z2
 have xz2 := AR (AV.int .i64) list lz2
 try simp only [go_sem] at lz2
 try simp only [go_sem] at xz2
 try simp only [go_sem, n1, n2, n3, n4] at z2
 all_goals
 obtain rfl := AC h
 refine ⟨0, fun L hL => ?_⟩
 simp only [go_sem, qv, fz1, z2, lz2, xz2]
def Wj : IR := .seq (.test false [ PM 12 4, PO 13 (.bin false .gtr (.s 0) (I6 0))] (.s 0) (.skip) (.exit 0)) (.seq (.block 1 (.seq (.region false [ PM 16 3, PM 17 3, PM 18 0, PO 19 (.call 37 [(.s 0), (I6 30)]), PO 20 (.bin false .add (.s 2) (.s 0)), PO 21 (.build [.int .i64 (0), .int .i64 (0)] [(0, 1, (.s 4)), (1, 1, (.s 0))]), VO 5 6 (.alloc (.agg [.int .i64 (0), .int .i64 (0)])), ⟨.no, 0, none, .store 2 (.v 5) (.s 0)⟩]) (.seq (.region false [ PM 22 2, PO 23 (.load true 2 (.v 5)), PO 24 (.mkSl 2 (.agg [.int .i64 (0), .int .i64 (0)]) 1 [(0, (.s 0))]), PO 25 (.app 2 16 (.agg [.int .i64 (0),
 .int .i64 (0)]) (.s 2) (.s 0)), VS 2 3 0]) (.anyo 6 [ SO 0 26 (.fldAddr 1 (.v 5)), SO 1 27 (.load false 1 (.s 0)), SO 2 28 (.bin false .add (.s 1) (I6 1)), SO 3 29 (.mov (.v 0)), SO 4 30 (.call 37 [(.s 3), (I6 20)]), SO 5 31 (.bin false .add (.s 2) (.s 4)), VS 3 4 5] [[3, 0, 1, 2, 4, 5, 6], [3, 0, 1, 4, 2, 5, 6], [3, 0, 4, 1, 2, 5, 6], [3, 4, 0, 1, 2, 5, 6]] .skip)))) (.region false [ PM 14 4, PO 15 (.bin false .sub (.s 0) (I6 1)), VS 4 5 0]))
def RD : List Bool := [true, false, true, true, true, false]
def RC : List Bool := [true, false, true, false, false, false]
def RB : List Bool := [true, true, false, false, false, false]
def qh : List Nat := [0, 2, 3, 4, 5, 6]
def mq : EL := ⟨1, 6, .seq (.region false [ VO 1 2 (.newnil 2)]) (.seq (.region false [ PO 7 (.mkSl 2 (.agg [.int .i64 (0), .int .i64 (0)]) 0 []), VS 2 3 0]) (.seq (.region false [ PM 8 0, PO 9 (.call 37 [(.s 0), (I6 40)]), VS 3 4 0]) (.seq (.seq (.region false [ PM 10 0, PO 11 (.call 37 [(.s 0), (I6 6)]), VS 4 5 0]) (.block 0 (.loop RD RC RB Wj))) (.seq (.region false [ PM 32 2, VS 1 2 0]) (.ret))))), [.t 1]⟩
noncomputable def pO : List (Nat × Bf) := [(37, Uo)]
theorem jk : Aa pO 37 = some Uo := rfl
noncomputable def Uv : Bf := VP pO mq [.io]
theorem pe : Ad Tryz.prog 48 Uv := DF _ (AI mF Ab) (by kernel_rfl : BF Tryz.prog 48 mq qh = true)
theorem M_11 : Uv.modes = [.io] := rfl
theorem wl : Uv.flat = false := rfl
attribute [go_sem] M_11 wl jk
def TK  : (Aw × (List AA) × Int × Int) → St
 | (s_, out, at_, k) => ⟨[.ref 31 0 0, .any, .own 3200032, .int .i64 at_, .int .i64 k, .any], [], [(31, ⟨3, [CE s_]⟩), (3200032, ⟨2, List.map AB out⟩)], true⟩
def Sf  (y : Aw × (List AA)) : FT := (.exit 0, ⟨[.ref 31 0 0, .any, .own 3200032, .any, .any, .any], [], [(31, ⟨3, [CE y.1]⟩), (3200032, ⟨2, List.map AB y.2⟩)], true⟩)
attribute [local go_sem] mq TK Sf Wj RD RC RB in
theorem MO  {sgm_ : Aw × (List AA) × Int × Int} {rho_ : Aw × (List AA)} (h : AJ (Dv) sgm_ = some rho_) : ∃ L0, ∀ L, L0 ≤ L → Cg (BD (Aa pO) L Wj) RD RC RB L (TK sgm_) = Sf rho_ := by
 refine BJ (E := TK) (R := Sf) (fun y => by first | (intro c; cases c) | (rcases y with y | y <;> (intro c; cases c)) | (rcases y with y | y | y <;> (intro c; cases c))) ?_ h
 clear h
 rintro ⟨s_, out, at_, k⟩ o_ h
 dsimp only [Dv] at h
 rcases AF h with ⟨z3, h⟩ | ⟨z3, h⟩
 ·try simp only [go_sem, n1, n2, n3, n4] at z3
  all_goals
  obtain ⟨y_4, z4, h⟩ := AE h
  have fz4 := GR z4
  try simp only [go_sem, z3] at fz4
  obtain ⟨z5, h⟩ := AD h
  try simp only [go_sem, n1, n2, n3, n4, z3] at z5
  all_goals
  obtain ⟨y_6, z6, h⟩ := AE h
  have fz6 := GR z6
  try simp only [go_sem, z3, z5] at fz6
  obtain rfl := AC h
  refine ⟨0, fun L hL => ?_⟩
  simp only [go_sem, z3, fz4, z5, fz6]
 ·try simp only [go_sem, n1, n2, n3, n4] at z3
  all_goals
  obtain rfl := AC h
  refine ⟨0, fun L hL => ?_⟩
  simp only [go_sem, z3]
attribute [local go_sem] TK Sf RD RC RB mq in
theorem lS {s_ : Aw} {y_ : (List AA) × Aw} (h : Ez s_ = some y_) : Uv.F [.mem 3 [CE s_] 0] = ⟨true, .fresh 2 (List.map AB y_.1), [.mem 3 [CE y_.2] 0]⟩ := by
 refine Ho ?_
 dsimp only [Ez] at h
 obtain ⟨y_1, z1, h⟩ := AE h
 have fz1 := GR z1
 try simp only [go_sem] at fz1
 obtain ⟨y_2, z2, h⟩ := AE h
 have fz2 := GR z2
 try simp only [go_sem] at fz2
 obtain ⟨y_7, z7, h⟩ := AE h
 obtain ⟨Lz7, ez7⟩ := MO z7
 obtain rfl := AC h
 refine ⟨Lz7, fun L hL => ?_⟩
 have ez7 := ez7 L (by omega)
 try simp only [go_sem] at ez7
 simp only [go_sem, fz1, fz2, ez7]
def rE : List Nat := [0, 1, 4]
def rF : EL := ⟨2, 3, .seq (.region false [ VO 2 4 (.mov (.c (.bool false)))]) (.seq (.region false [ PM 5 0, PM 6 1, PO 7 (.call 37 [(.s 1), (.s 0)]), PO 8 (.bin false .eql (.s 0) (I6 0)), VS 2 4 0]) (.ret)), [.t 2]⟩
noncomputable def tk : List (Nat × Bf) := [(37, Uo)]
theorem jj : Aa tk 37 = some Uo := rfl
noncomputable def Lr : Bf := VP tk rF [.io, .bor]
theorem cV : Ad Tryz.prog 31 Lr := DF _ (AI mF Ab) (by kernel_rfl : BF Tryz.prog 31 rF rE = true)
theorem M_12 : Lr.modes = [.io, .bor] := rfl
theorem wj : Lr.flat = false := rfl
attribute [go_sem] M_12 wj jj
theorem Fu {s_ : Aw} {n : Int} {y_ : Bool × Aw} (h : AS s_ n = some y_) : Lr.F [.mem 3 [CE s_] 0, .int .i64 n] = ⟨true, .bool y_.1, [.mem 3 [CE y_.2] 0, .any]⟩ := by
 refine Ho ?_
 dsimp only [AS] at h
 obtain ⟨y_1, z1, h⟩ := AE h
 have fz1 := GR z1
 try simp only [go_sem] at fz1
 obtain rfl := AC h
 refine ⟨0, fun L hL => ?_⟩
 simp only [go_sem, rF, fz1]
def Wr : IR := .seq (.test false [ PM 15 3, PO 16 (.bin false .gtr (.s 0) (I6 0))] (.s 0) (.skip) (.exit 0)) (.seq (.block 1 (.seq (.region false [ PM 19 2, PO 20 (.len false (.s 0)), PO 21 (.bin false .mul (I6 4) (.s 0)), VS 4 5 0]) (.region false [ PM 22 2, PM 23 4, PM 24 4, PO 25 (.bin false .add (.s 0) (I6 1)), PO 26 (.build [.int .i64 (0), .int .i64 (0)] [(0, 1, (.s 2)), (1, 1, (.s 0))]), PO 27 (.mkSl 2 (.agg [.int .i64 (0), .int .i64 (0)]) 1 [(0, (.s 0))]), PO 28 (.app 2 16 (.agg [.int .i64 (0), .int .i64 (0)]) (.s 5) (.s 0)), VS 2 3 0]))) (.region false [ PM 17 3, PO 18 (.bin false
 .sub (.s 0) (I6 1)), VS 3 4 0]))
def RW : List Bool := [true, false, true, true, false, false, false]
def RU : List Bool := [true, false, true, false, false, false, false]
def RT : List Bool := [true, true, false, false, false, false, false]
def rG : List Nat := [0, 2, 3, 4, 5, 6, 40]
def mw : EL := ⟨1, 7, .seq (.region false [ VO 1 2 (.newnil 2)]) (.seq (.region false [ PM 7 0, PO 8 (.call 48 [(.s 0)]), VS 2 3 0]) (.seq (.test false [ PM 9 0, PO 10 (.call 31 [(.s 0), (I6 16)])] (.s 0) (.seq (.region false [ PO 11 (.mkSl 2 (.agg [.int .i64 (0), .int .i64 (0)]) 0 []), VS 2 3 0]) (.seq (.region false [ PM 12 0, PO 13 (.call 37 [(.s 0), (I6 2)]), PO 14 (.bin false .add (I6 30) (.s 0)), VS 3 4 0]) (.block 0 (.loop RW RU RT Wr)))) (.skip)) (.seq (.test false [ PM 29 2, PO 30 (.len false (.s 0)), PO 31 (.bin false .eql (.s 0) (I6 0))] (.s 0) (.seq (.region
 false [ PM 32 2, VS 1 2 0]) (.ret)) (.skip)) (.seq (.region false [ PM 33 2, PM 34 0, PM 35 2, PO 36 (.len false (.s 0)), PO 37 (.call 37 [(.s 2), (.s 0)]), PO 38 (.ixAddr 2 (.s 4) (.s 0)), VS 5 6 0]) (.seq (.seq (.region false [ PM 39 0, VO 6 40 (.call 37 [(.s 0), (I6 20)])]) (.block 2 (.test false [ PO 42 (.bin false .eql (.v 6) (I6 0)), PO 41 (.mov (.s 0))] (.s 0) (.anyo 15 [ SO 0 43 (.mov (.v 5)), SO 1 44 (.mov (.v 0)), SO 2 45 (.mov (.v 5)), SO 3 46 (.nilck (.s 2)), SO 4 47 (.fldAddr 1 (.s 3)), SO 5 48 (.load false 1 (.s 4)), SO 6 49 (.mov (.v 5)), SO 7 50 (.nilck (.s 6)), SO 8 51
 (.fldAddr 1 (.s 7)), SO 9 52 (.load false 1 (.s 8)), SO 10 53 (.bin false .add (.s 9) (I6 1)), SO 11 54 (.pur (.mkSl 1 (.int .i64 (0)) 5 [(0, (.c (.int .i64 (-1)))), (1, (I6 0)), (2, (.s 5)), (3, (.s 10)), (4, (.c (.int .i64 (-9223372036854775808))))])), SO 12 55 (.call 38 [(.s 1), (.s 11)]), SO 13 56 (.nilck (.s 0)), SO 14 57 (.fldAddr 0 (.s 13)), ⟨.no, 0, none, .store 1 (.s 14) (.s 12)⟩] [[1, 2, 3, 4, 5, 6, 7, 8, 9, 10, 11, 0, 12, 13, 14, 15], [1, 2, 3, 4, 5, 6, 7, 8, 9, 10, 11, 12, 0, 13, 14, 15]] .skip) (.test false [ PO 59 (.bin false .eql (.v 6) (I6 1)), PO 58 (.mov (.s 0))] (.s 0)
 (.region false [ PM 60 5, PM 61 0, PM 62 5, PO 63 (.nilck (.s 0)), PO 64 (.fldAddr 0 (.s 0)), PO 65 (.load false 1 (.s 0)), PO 66 (.mkSl 1 (.int .i64 (0)) 5 [(0, (.c (.int .i64 (-1)))), (1, (.s 0)), (2, (I6 10000000)), (3, (I6 10000001)), (4, (I6 9223372036854775807))]), PO 67 (.call 38 [(.s 5), (.s 0)]), PO 68 (.nilck (.s 7)), PO 69 (.fldAddr 1 (.s 0)), ⟨.no, 0, none, .store 1 (.s 0) (.s 2)⟩]) (.skip))))) (.seq (.region false [ PM 70 2, VS 1 2 0]) (.ret))))))), [.t 1]⟩
noncomputable def cN : List (Nat × Bf) := [(48, Uv), (31, Lr), (37, Uo), (38, Uw)]
theorem jf : Aa cN 48 = some Uv := rfl
theorem ji : Aa cN 31 = some Lr := rfl
theorem jh : Aa cN 37 = some Uo := rfl
theorem jg : Aa cN 38 = some Uw := rfl
noncomputable def QP : Bf := VP cN mw [.io]
theorem mH : Ad Tryz.prog 30 QP := DF _ (AI pe (AI cV (AI mF (AI pf Ab)))) (by kernel_rfl : BF Tryz.prog 30 mw rG = true)
theorem M_13 : QP.modes = [.io] := rfl
theorem wh : QP.flat = false := rfl
attribute [go_sem] M_13 wh jf ji jh jg
def TJ (s_ : Aw) : ((List AA) × Int) → St
 | (list, k) => ⟨[.ref 31 0 0, .any, .own 3200032, .int .i64 k, .any, .any, .any], [], [(31, ⟨3, [CE s_]⟩), (3200032, ⟨2, List.map AB list⟩)], true⟩
def Se (s_ : Aw) (y : (List AA)) : FT := (.exit 0, ⟨[.ref 31 0 0, .any, .own 3200032, .any, .any, .any, .any], [], [(31, ⟨3, [CE s_]⟩), (3200032, ⟨2, List.map AB y⟩)], true⟩)
set_option maxHeartbeats 64000000 in
attribute [local go_sem] mw TJ Se Wr RW RU RT in
theorem MP {s_ : Aw} {sgm_ : (List AA) × Int} {rho_ : (List AA)} (h : AJ (Dw s_) sgm_ = some rho_) : ∃ L0, ∀ L, L0 ≤ L → Cg (BD (Aa cN) L Wr) RW RU RT L (TJ s_ sgm_) = Se s_ rho_ := by
 refine BJ (E := TJ s_) (R := Se s_) (fun y => by first | (intro c; cases c) | (rcases y with y | y <;> (intro c; cases c)) | (rcases y with y | y | y <;> (intro c; cases c))) ?_ h
 clear h
 rintro ⟨list, k⟩ o_ h
 dsimp only [Dw] at h
 rcases AF h with ⟨z5, h⟩ | ⟨z5, h⟩
 ·try simp only [go_sem, n1, n2, n3, n4] at z5
  all_goals
  obtain ⟨z6, h⟩ := AD h
  try simp only [go_sem, n1, n2, n3, n4, z5] at z6
  all_goals
  obtain rfl := AC h
  refine ⟨0, fun L hL => ?_⟩
  simp only [go_sem, z5, z6]
 ·try simp only [go_sem, n1, n2, n3, n4] at z5
  all_goals
  obtain rfl := AC h
  refine ⟨0, fun L hL => ?_⟩
  simp only [go_sem, z5]
set_option maxHeartbeats 64000000 in
attribute [local go_sem] TJ Se RW RU RT mw in
theorem WD {s_ : Aw} {y_ : (List AA) × Aw} (h : DS s_ = some y_) : QP.F [.mem 3 [CE s_] 0] = ⟨true, .fresh 2 (List.map AB y_.1), [.mem 3 [CE y_.2] 0]⟩ := by
 refine Ho ?_
 dsimp only [DS] at h
 obtain ⟨y_1, z1, h⟩ := AE h
 have fz1 := lS z1
 try simp only [go_sem] at fz1
 obtain ⟨y_2, z2, h⟩ := AE h
 have fz2 := Fu z2
 try simp only [go_sem] at fz2
 rcases AF h with ⟨z3, h⟩ | ⟨z3, h⟩
 ·try simp only [go_sem, n1, n2, n3, n4] at z3
  all_goals
  obtain ⟨y_4, z4, h⟩ := AE h
  have fz4 := GR z4
  try simp only [go_sem, z3] at fz4
  obtain ⟨y_7, z7, h⟩ := AE h
  obtain ⟨Lz7, ez7⟩ := MP z7
  rcases AF h with ⟨z8, h⟩ | ⟨z8, h⟩
  ·try simp only [go_sem, n1, n2, n3, n4, z3] at z8
   all_goals
   obtain rfl := AC h
   refine ⟨Lz7, fun L hL => ?_⟩
   have ez7 := ez7 L (by omega)
   try simp only [go_sem, z3, z8] at ez7
   simp only [go_sem, fz1, fz2, z3, fz4, z8, ez7]
  ·try simp only [go_sem, n1, n2, n3, n4, z3] at z8
   all_goals
   obtain ⟨y_9, z9, h⟩ := AE h
   have fz9 := GR z9
   try simp only [go_sem, z3, z8] at fz9
   obtain ⟨z10, h⟩ := AD h
   have lz10 := BT z10
   have xz10 := AR AB y_7 lz10
   try simp only [go_sem] at lz10
   try simp only [go_sem] at xz10
   try simp only [go_sem, n1, n2, n3, n4, z3, z8] at z10
   all_goals
   obtain ⟨y_11, z11, h⟩ := AE h
   have fz11 := GR z11
   try simp only [go_sem, z3, z8, z10] at fz11
   rcases AF h with ⟨z12, h⟩ | ⟨z12, h⟩
   ·try simp only [go_sem, n1, n2, n3, n4, z3, z8, z10] at z12
    all_goals
    obtain ⟨y_13, z13, h⟩ := AE h
    have fz13 := Gi z13
    try simp only [go_sem, z3, z8, z10, z12] at fz13
    obtain rfl := AC h
    refine ⟨Lz7, fun L hL => ?_⟩
    have ez7 := ez7 L (by omega)
    try simp only [go_sem, z3, z8, z10, z12] at ez7
    simp only [go_sem, fz1, fz2, z3, fz4, z8, fz9, z10, lz10, xz10, fz11, z12, fz13, ez7]
   ·try simp only [go_sem, n1, n2, n3, n4, z3, z8, z10] at z12
    all_goals
    rcases AF h with ⟨z14, h⟩ | ⟨z14, h⟩
    ·try simp only [go_sem, n1, n2, n3, n4, z3, z8, z10, z12] at z14
     all_goals
     obtain ⟨y_15, z15, h⟩ := AE h
     have fz15 := Gi z15
     try simp only [go_sem, z3, z8, z10, z12, z14] at fz15
     obtain rfl := AC h
     refine ⟨Lz7, fun L hL => ?_⟩
     have ez7 := ez7 L (by omega)
     try simp only [go_sem, z3, z8, z10, z12, z14] at ez7
     simp only [go_sem, fz1, fz2, z3, fz4, z8, fz9, z10, lz10, xz10, fz11, z12, z14, fz15, ez7]
    ·try simp only [go_sem, n1, n2, n3, n4, z3, z8, z10, z12] at z14
     all_goals
     obtain rfl := AC h
     refine ⟨Lz7, fun L hL => ?_⟩
     have ez7 := ez7 L (by omega)
     try simp only [go_sem, z3, z8, z10, z12, z14] at ez7
     simp only [go_sem, fz1, fz2, z3, fz4, z8, fz9, z10, lz10, xz10, fz11, z12, z14, ez7]
 ·try simp only [go_sem, n1, n2, n3, n4] at z3
  all_goals
  rcases AF h with ⟨z16, h⟩ | ⟨z16, h⟩
  ·try simp only [go_sem, n1, n2, n3, n4, z3] at z16
   all_goals
   obtain rfl := AC h
   refine ⟨0, fun L hL => ?_⟩
   simp only [go_sem, fz1, fz2, z3, z16]
  ·try simp only [go_sem, n1, n2, n3, n4, z3] at z16
   all_goals
   obtain ⟨y_17, z17, h⟩ := AE h
   have fz17 := GR z17
   try simp only [go_sem, z3, z16] at fz17
   obtain ⟨z18, h⟩ := AD h
   have lz18 := BT z18
   have xz18 := AR AB y_1.1 lz18
   try simp only [go_sem] at lz18
   try simp only [go_sem] at xz18
   try simp only [go_sem, n1, n2, n3, n4, z3, z16] at z18
   all_goals
   obtain ⟨y_19, z19, h⟩ := AE h
   have fz19 := GR z19
   try simp only [go_sem, z3, z16, z18] at fz19
   rcases AF h with ⟨z20, h⟩ | ⟨z20, h⟩
   ·try simp only [go_sem, n1, n2, n3, n4, z3, z16, z18] at z20
    all_goals
    obtain ⟨y_21, z21, h⟩ := AE h
    have fz21 := Gi z21
    try simp only [go_sem, z3, z16, z18, z20] at fz21
    obtain rfl := AC h
    refine ⟨0, fun L hL => ?_⟩
    simp only [go_sem, fz1, fz2, z3, z16, fz17, z18, lz18, xz18, fz19, z20, fz21]
   ·try simp only [go_sem, n1, n2, n3, n4, z3, z16, z18] at z20
    all_goals
    rcases AF h with ⟨z22, h⟩ | ⟨z22, h⟩
    ·try simp only [go_sem, n1, n2, n3, n4, z3, z16, z18, z20] at z22
     all_goals
     obtain ⟨y_23, z23, h⟩ := AE h
     have fz23 := Gi z23
     try simp only [go_sem, z3, z16, z18, z20, z22] at fz23
     obtain rfl := AC h
     refine ⟨0, fun L hL => ?_⟩
     simp only [go_sem, fz1, fz2, z3, z16, fz17, z18, lz18, xz18, fz19, z20, z22, fz23]
    ·try simp only [go_sem, n1, n2, n3, n4, z3, z16, z18, z20] at z22
     all_goals
     obtain rfl := AC h
     refine ⟨0, fun L hL => ?_⟩
     simp only [go_sem, fz1, fz2, z3, z16, fz17, z18, lz18, xz18, fz19, z20, z22]
def uR : List Nat := [0, 2, 3, 4, 5, 6, 7]
def ir5 : EL := ⟨1, 7, .seq (.region false [ VO 1 2 (.newnil 2), VO 2 3 (.newnil 2), VO 3 4 (.newnil 2)]) (.seq (.region false [ PM 8 0, PO 9 (.call 29 [(.s 0)]), VS 4 5 0]) (.seq (.region false [ PM 10 4, PO 11 (.call 30 [(.s 0)]), VS 5 6 0]) (.seq (.region false [ PM 12 4, PO 13 (.call 30 [(.s 0)]), VS 6 7 0]) (.seq (.test false [ PM 14 4, PO 15 (.call 31 [(.s 0), (I6 12)])] (.s 0) (.seq (.region false [ PM 16 5, PO 17 (.build [.int .i64 (0), .int .i64 (0)] [(0, 1, (I6 0)), (1, 1, (I6 10000000))]), PO 18 (.mkSl 2 (.agg [.int .i64 (0), .int .i64 (0)]) 1 [(0, (.s 0))]), PM 19 6, VS 1 2 3, VS 2
 3 1, VS 3 4 0]) (.ret)) (.skip)) (.seq (.region false [ PM 20 5, PM 21 6, PM 22 4, PO 23 (.call 30 [(.s 0)]), VS 1 2 3, VS 2 3 2, VS 3 4 0]) (.ret)))))), [.t 1, .t 2, .t 3]⟩
noncomputable def lq : List (Nat × Bf) := [(29, Xl), (30, QP), (31, Lr)]
theorem je : Aa lq 29 = some Xl := rfl
theorem jd : Aa lq 30 = some QP := rfl
theorem jc : Aa lq 31 = some Lr := rfl
noncomputable def es : Bf := Gd lq ir5 [.bor]
theorem s_14 : Ad Tryz.prog 5 es := AY _ rfl (AI pc (AI mH (AI cV Ab))) (by kernel_rfl : BF Tryz.prog 5 ir5 uR = true)
theorem M_14 : es.modes = [.bor] := rfl
theorem wg : es.flat = true := rfl
attribute [go_sem] M_14 wg je jd jc
theorem vO {code : List UInt8} {y_ : (List AA) × (List AA) × (List AA)} (h : EN code = some y_) : es.F [.sl 1 (List.map Cc code)] = ⟨true, .tup [.fresh 2 (List.map AB y_.1), .fresh 2 (List.map AB y_.2.1), .fresh 2 (List.map AB y_.2.2)], [.any]⟩ := by
 refine Br (by simp only [EA, ES, Ei, List.all_cons, List.all_nil, Bool.and_self, Bo (f := AB) (fun _ => rfl), Bo (f := AB) (fun _ => rfl), Bo (f := AB) (fun _ => rfl)]) ?_
 dsimp only [EN] at h
 obtain ⟨y_1, z1, h⟩ := AE h
 have fz1 := aq z1
 try simp only [go_sem] at fz1
 obtain ⟨y_2, z2, h⟩ := AE h
 have fz2 := WD z2
 try simp only [go_sem] at fz2
 obtain ⟨y_3, z3, h⟩ := AE h
 have fz3 := WD z3
 try simp only [go_sem] at fz3
 obtain ⟨y_4, z4, h⟩ := AE h
 have fz4 := Fu z4
 try simp only [go_sem] at fz4
 rcases AF h with ⟨z5, h⟩ | ⟨z5, h⟩
 ·try simp only [go_sem, n1, n2, n3, n4] at z5
  all_goals
  obtain rfl := AC h
  refine ⟨0, fun L hL => ?_⟩
  simp only [go_sem, ir5, fz1, fz2, fz3, fz4, z5]
 ·try simp only [go_sem, n1, n2, n3, n4] at z5
  all_goals
  obtain ⟨y_6, z6, h⟩ := AE h
  have fz6 := WD z6
  try simp only [go_sem, z5] at fz6
  obtain rfl := AC h
  refine ⟨0, fun L hL => ?_⟩
  simp only [go_sem, ir5, fz1, fz2, fz3, fz4, z5, fz6]
def rB : List Nat := [0, 2]
def rC : EL := ⟨1, 2, .seq (.region false [ VO 1 2 (.newnil 2)]) (.seq (.region false [ PO 3 (.mkSl 2 (.agg [.int .i64 (0), .int .i64 (0)]) 0 []), PM 4 0, PO 5 (.app 2 16 (.agg [.int .i64 (0), .int .i64 (0)]) (.s 1) (.s 0)), VS 1 2 0]) (.ret)), [.t 1]⟩
noncomputable def t_15 : List (Nat × Bf) := []
noncomputable def eq : Bf := Gd t_15 rC [.bor]
theorem s_15 : Ad Tryz.prog 33 eq := AY _ rfl Ab (by kernel_rfl : BF Tryz.prog 33 rC rB = true)
theorem M_15 : eq.modes = [.bor] := rfl
theorem we : eq.flat = true := rfl
attribute [go_sem] M_15 we
theorem vN {list : List AA} {y_ : (List AA)} (h : Co list = some y_) : eq.F [.sl 2 (List.map AB list)] = ⟨true, .fresh 2 (List.map AB y_), [.any]⟩ := by
 refine Br (by simp only [EA, ES, Ei, List.all_cons, List.all_nil, Bool.and_self, Bo (f := AB) (fun _ => rfl)]) ?_
 dsimp only [Co] at h
 obtain ⟨z1, h⟩ := AD h
 try simp only [go_sem, n1, n2, n3, n4] at z1
 all_goals
 obtain rfl := AC h
 refine ⟨0, fun L hL => ?_⟩
 simp only [go_sem, rC, z1]
def py : List Nat := [0, 1, 2]
def pz : EL := ⟨1, 3, .seq (.region false [ VO 1 1 (.pur (.box (.v 0))), VO 2 2 (.mov (.c (.cv .nilFunc)))]) (.seq (.region false [ PO 3 (.mkFn (.func 86) [] [(.v 1)]), VS 2 2 0]) (.ret)), [.t 2]⟩
noncomputable def t_16 : List (Nat × Bf) := []
noncomputable def ep : Bf := VP t_16 pz [.bor]
theorem s_16 : Ad Tryz.prog 74 ep := DF _ Ab (by kernel_rfl : BF Tryz.prog 74 pz py = true)
theorem M_16 : ep.modes = [.bor] := rfl
theorem wd : ep.flat = false := rfl
attribute [go_sem] M_16 wd
theorem vM {s_ : List AA} {y_ : (List AA)} (h : Bq s_ = some y_) : ep.F [.sl 2 (List.map AB s_)] = ⟨true, .fn (.func 86) [] [.ptr 1 [.sl 2 (List.map AB y_)] 0 0], [.any]⟩ := by
 refine Ho ?_
 dsimp only [Bq] at h
 obtain rfl := AC h
 refine ⟨0, fun L hL => ?_⟩
 simp only [go_sem, pz]
theorem PD : Ad Tryz.prog 84 Cq := OO
def pn : List Nat := [0, 2]
def pp : EL := ⟨1, 2, .seq (.region false [ VO 1 2 (.mov (.c (.bool false)))]) (.seq (.region false [ PM 3 0, PM 4 0, PO 5 (.bin false .neq (.s 1) (.s 0)), VS 1 2 0]) (.ret)), [.t 1]⟩
noncomputable def t_18 : List (Nat × Bf) := []
noncomputable def em : Bf := Gd t_18 pp [.bor]
theorem s_18 : Ad Tryz.prog 87 em := AY _ rfl Ab (by kernel_rfl : BF Tryz.prog 87 pp pn = true)
theorem M_18 : em.modes = [.bor] := rfl
theorem wc : em.flat = true := rfl
attribute [go_sem] M_18 wc
theorem om {x : Int} {y_ : Bool} (h : FN x = some y_) : em.F [.int .i64 x] = ⟨true, .bool y_, [.any]⟩ := by
 refine Br rfl ?_
 dsimp only [FN] at h
 obtain rfl := AC h
 refine ⟨0, fun L hL => ?_⟩
 simp only [go_sem, pp]
def pu : List Nat := [0, 1, 4, 5, 6]
def dG : EL := ⟨2, 5, .seq (.region false [ VO 2 4 (.mov (I6 0))]) (.seq (.region false [ PM 7 0, PO 8 (.call 87 [(.s 0)]), VS 3 5 0]) (.seq (.region false [ PM 9 1, PO 10 (.call 87 [(.s 0)]), VS 4 6 0]) (.seq (.test false [ PM 11 3] (.s 0) (.seq (.test false [ PM 12 4] (.s 0) (.seq (.region false [ VO 2 4 (.mov (I6 0))]) (.ret)) (.skip)) (.seq (.region false [ VO 2 4 (.mov (.c (.int .i64 (-1))))]) (.ret))) (.skip)) (.seq (.test false [ PM 13 4] (.s 0) (.seq (.region false [ VO 2 4 (.mov (I6 1))]) (.ret)) (.skip)) (.seq (.test false [ PM 14 0, PM 15 1, PO 16 (.bin false .lss (.s 1) (.s 0))]
 (.s 0) (.seq (.region false [ VO 2 4 (.mov (.c (.int .i64 (-1))))]) (.ret)) (.skip)) (.seq (.test false [ PM 17 0, PM 18 1, PO 19 (.bin false .gtr (.s 1) (.s 0))] (.s 0) (.seq (.region false [ VO 2 4 (.mov (I6 1))]) (.ret)) (.skip)) (.seq (.region false [ VO 2 4 (.mov (I6 0))]) (.ret)))))))), [.t 2]⟩
noncomputable def tj : List (Nat × Bf) := [(87, em)]
theorem jb : Aa tj 87 = some em := rfl
noncomputable def ej : Bf := Gd tj dG [.bor, .bor]
theorem s_19 : Ad Tryz.prog 76 ej := AY _ rfl (AI s_18 Ab) (by kernel_rfl : BF Tryz.prog 76 dG pu = true)
theorem M_19 : ej.modes = [.bor, .bor] := rfl
theorem wa : ej.flat = true := rfl
attribute [go_sem] M_19 wa jb
theorem vL {x : Int} {y : Int} {y_ : Int} (h : Ff x y = some y_) : ej.F [.int .i64 x, .int .i64 y] = ⟨true, .int .i64 y_, [.any, .any]⟩ := by
 refine Br rfl ?_
 dsimp only [Ff] at h
 obtain ⟨y_1, z1, h⟩ := AE h
 have fz1 := om z1
 try simp only [go_sem] at fz1
 obtain ⟨y_2, z2, h⟩ := AE h
 have fz2 := om z2
 try simp only [go_sem] at fz2
 rcases AF h with ⟨z3, h⟩ | ⟨z3, h⟩
 ·try simp only [go_sem, n1, n2, n3, n4] at z3
  all_goals
  rcases AF h with ⟨z4, h⟩ | ⟨z4, h⟩
  all_goals
  try simp only [go_sem, n1, n2, n3, n4, z3] at z4
  all_goals
  obtain rfl := AC h
  refine ⟨0, fun L hL => ?_⟩
  simp only [go_sem, dG, fz1, fz2, z3, z4]
 ·try simp only [go_sem, n1, n2, n3, n4] at z3
  all_goals
  rcases AF h with ⟨z5, h⟩ | ⟨z5, h⟩
  ·try simp only [go_sem, n1, n2, n3, n4, z3] at z5
   all_goals
   obtain rfl := AC h
   refine ⟨0, fun L hL => ?_⟩
   simp only [go_sem, dG, fz1, fz2, z3, z5]
  ·try simp only [go_sem, n1, n2, n3, n4, z3] at z5
   all_goals
   rcases AF h with ⟨z6, h⟩ | ⟨z6, h⟩
   ·try simp only [go_sem, n1, n2, n3, n4, z3, z5] at z6
    all_goals
    obtain rfl := AC h
    refine ⟨0, fun L hL => ?_⟩
    simp only [go_sem, dG, fz1, fz2, z3, z5, z6]
   ·try simp only [go_sem, n1, n2, n3, n4, z3, z5] at z6
    all_goals
    rcases AF h with ⟨z7, h⟩ | ⟨z7, h⟩
    all_goals
    try simp only [go_sem, n1, n2, n3, n4, z3, z5, z6] at z7
    all_goals
    obtain rfl := AC h
    refine ⟨0, fun L hL => ?_⟩
    simp only [go_sem, dG, fz1, fz2, z3, z5, z6, z7]
def pw : List Nat := [0, 1, 2, 3, 4]
def px : EL := ⟨2, 5, .seq (.region false [ VO 2 2 (.box (.v 0)), VO 3 3 (.box (.v 1)), VO 4 4 (.mov (I6 0))]) (.seq (.region false [ PO 5 (.fldAddr 0 (.v 2)), PO 6 (.load false 1 (.s 0)), PO 7 (.fldAddr 0 (.v 3)), PO 8 (.load false 1 (.s 0)), PO 9 (.call 76 [(.s 2), (.s 0)]), VS 4 4 0]) (.ret)), [.t 4]⟩
noncomputable def ti : List (Nat × Bf) := [(76, ej)]
theorem ja : Aa ti 76 = some ej := rfl
noncomputable def XX : Bf := Gd ti px [.bor, .bor]
theorem uE : Ad Tryz.prog 75 XX := AY _ rfl (AI s_19 Ab) (by kernel_rfl : BF Tryz.prog 75 px pw = true)
theorem M_20 : XX.modes = [.bor, .bor] := rfl
theorem wZ : XX.flat = true := rfl
attribute [go_sem] M_20 wZ ja
theorem ZR {a : AA} {b : AA} {y_ : Int} (h : BP a b = some y_) : XX.F [AB a, AB b] = ⟨true, .int .i64 y_, [.any, .any]⟩ := by
 refine Br rfl ?_
 dsimp only [BP] at h
 obtain ⟨y_1, z1, h⟩ := AE h
 have fz1 := vL z1
 try simp only [go_sem] at fz1
 obtain rfl := AC h
 refine ⟨0, fun L hL => ?_⟩
 simp only [go_sem, px, fz1]
def Ts : IR := .seq (.anyo 17 [ SO 0 18 (.mov (.v 5)), SO 1 19 (.mov (.v 1)), SO 2 20 (.bin false .gtr (.s 0) (.s 1)), SO 3 21 (.mov (.s 2)), ⟨.slot 4, 22, (some ((.s 3), true)), .mov (.v 3)⟩, ⟨.slot 5, 23, (some ((.s 3), true)), .mov (.v 0)⟩, ⟨.slot 6, 24, (some ((.s 3), true)), .mov (.v 5)⟩, ⟨.slot 7, 25, (some ((.s 3), true)), .ixAddr 2 (.s 5) (.s 6)⟩, ⟨.slot 8, 26, (some ((.s 3), true)), .load true 2 (.s 7)⟩, ⟨.slot 9, 27, (some ((.s 3), true)), .mov (.v 0)⟩, ⟨.slot 10, 28, (some ((.s 3), true)), .mov (.v 5)⟩, ⟨.slot 11, 29, (some ((.s 3), true)), .bin false .sub (.s 10) (I6 1)⟩,
 ⟨.slot 12, 30, (some ((.s 3), true)), .ixAddr 2 (.s 9) (.s 11)⟩, ⟨.slot 13, 31, (some ((.s 3), true)), .load true 2 (.s 12)⟩, ⟨.slot 14, 32, (some ((.s 3), true)), .callv (.s 4) [(.s 8), (.s 13)]⟩, ⟨.slot 15, 33, (some ((.s 3), true)), .bin false .lss (.s 14) (I6 0)⟩, SO 16 34 (.pick (.s 3) (.s 15) (.c (.bool false)))] [] (.cond (.s 16) (.skip) (.exit 2))) (.seq (.block 3 (.anyo 16 [ SO 0 37 (.mov (.v 0)), SO 1 38 (.flat (.mov (.v 5))), SO 2 39 (.mov (.v 0)), SO 3 40 (.flat (.mov (.v 5))), SO 4 41 (.flat (.bin false .sub (.s 3) (I6 1))), SO 5 42 (.mov (.v 0)), SO 6 43 (.flat (.mov (.v 5))), SO
 7 44 (.flat (.bin false .sub (.s 6) (I6 1))), SO 8 45 (.ixAddr 2 (.s 5) (.s 7)), SO 9 46 (.load true 2 (.s 8)), SO 10 47 (.mov (.v 0)), SO 11 48 (.flat (.mov (.v 5))), SO 12 49 (.ixAddr 2 (.s 10) (.s 11)), SO 13 50 (.load true 2 (.s 12)), SO 14 51 (.ixAddr 2 (.s 0) (.s 1)), ⟨.no, 0, none, .store 2 (.s 14) (.s 9)⟩, SO 15 52 (.ixAddr 2 (.s 2) (.s 4)), ⟨.no, 0, none, .store 2 (.s 15) (.s 13)⟩] [[0, 1, 3, 4, 5, 6, 7, 8, 9, 10, 11, 12, 13, 14, 2, 15, 16, 17], [0, 1, 3, 4, 5, 6, 7, 8, 9, 10, 11, 12, 13, 14, 15, 2, 16, 17]] .skip)) (.region false [ PM 35 5, PO 36 (.bin false .sub (.s 0) (I6 1)), VS 5
 9 0]))
def Kt : List Bool := [true, true, true, true, true, true]
def Ks : List Bool := [true, true, true, true, true, false]
def Kr : List Bool := [true, false, false, false, false, false]
def Tt : IR := .seq (.test false [ PM 12 4, PM 13 2, PO 14 (.bin false .lss (.s 1) (.s 0))] (.s 0) (.skip) (.exit 0)) (.seq (.block 1 (.seq (.region false [ PM 17 4, VS 5 9 0]) (.block 2 (.loop Kt Ks Kr Ts)))) (.region false [ PM 15 4, PO 16 (.bin false .add (.s 0) (I6 1)), VS 4 8 0]))
def OG : List Bool := [true, true, true, true, true, false]
def OF : List Bool := [true, false, false, false, false, false]
def OE : List Bool := [true, false, false, false, false, false]
def nL : List Nat := [0, 1, 2, 3, 8, 9]
def Yd : EL := ⟨4, 6, .seq (.region false [ PM 10 1, PO 11 (.bin false .add (.s 0) (I6 1)), VS 4 8 0]) (.block 0 (.loop OG OF OE Tt)), []⟩
noncomputable def ln : List (Nat × Bf) := [(75, XX)]
theorem jZ : Aa ln 75 = some XX := rfl
noncomputable def ei : Bf := VP ln Yd [.io, .bor, .bor, .bor]
theorem s_21 : Ad Tryz.prog 116 ei := DF _ (AI uE Ab) (by kernel_rfl : BF Tryz.prog 116 Yd nL = true)
theorem M_21 : ei.modes = [.io, .bor, .bor, .bor] := rfl
theorem wY : ei.flat = false := rfl
attribute [go_sem] M_21 wY jZ
def Ou (a : Int) (b : Int) (i : Int) : ((List AA) × Int) → St
 | (data, j) => ⟨[.own 31, .int .i64 a, .int .i64 b, .fn (.func 75) [] [], .int .i64 i, .int .i64 j], [], [(31, ⟨2, List.map AB data⟩)], true⟩
def Oi (a : Int) (b : Int) (i : Int) (y : (List AA)) : FT := (.exit 2, ⟨[.own 31, .int .i64 a, .int .i64 b, .fn (.func 75) [] [], .int .i64 i, .any], [], [(31, ⟨2, List.map AB y⟩)], true⟩)
set_option maxHeartbeats 64000000 in
attribute [local go_sem] Yd Ou Oi Ts Kt Ks Kr in
theorem Cx {a : Int} {b : Int} {i : Int} {sgm_ : (List AA) × Int} {rho_ : (List AA)} (h : AJ (BL a b i) sgm_ = some rho_) : ∃ L0, ∀ L, L0 ≤ L → Cg (BD (Aa ln) L Ts) Kt Ks Kr L (Ou a b i sgm_) = Oi a b i rho_ := by
 refine BJ (E := Ou a b i) (R := Oi a b i) (fun y => by first | (intro c; cases c) | (rcases y with y | y <;> (intro c; cases c)) | (rcases y with y | y | y <;> (intro c; cases c))) ?_ h
 clear h
 rintro ⟨data, j⟩ o_ h
 dsimp only [BL] at h
 obtain ⟨z2, h⟩ := AD h
 rcases Ay z2 with ⟨gz2, z2⟩ | gz2
 ·try simp only [go_sem, n1, n2, n3, n4] at gz2
  all_goals
  have lz2 := BT z2
  have xz2 := AR AB data lz2
  try simp only [go_sem] at lz2
  try simp only [go_sem] at xz2
  try simp only [go_sem, n1, n2, n3, n4, gz2] at z2
  all_goals
  obtain ⟨z3, h⟩ := AD h
  rcases Ay z3 with ⟨gz3, z3⟩ | gz3
  ·try simp only [go_sem, n1, n2, n3, n4, gz2, z2] at gz3
   all_goals
   have lz3 := BT z3
   have xz3 := AR AB data lz3
   try simp only [go_sem] at lz3
   try simp only [go_sem] at xz3
   try simp only [go_sem, n1, n2, n3, n4, gz2, z2, gz3] at z3
   all_goals
   obtain ⟨z4, h⟩ := AD h
   rcases Ay z4 with ⟨gz4, z4⟩ | gz4
   ·try simp only [go_sem, n1, n2, n3, n4, gz2, z2, gz3, z3] at gz4
    all_goals
    obtain ⟨y_4, hz4⟩ := Option.isSome_iff_exists.1 z4
    have fz4 := ZR hz4
    try simp only [go_sem, n1, n2, n3, n4, gz2, z2, gz3, z3, gz4] at hz4
    all_goals
    try simp only [go_sem, gz2, z2, gz3, z3, gz4] at fz4
    rcases AF h with ⟨z5, h⟩ | ⟨z5, h⟩
    ·try simp only [go_sem, n1, n2, n3, n4, gz2, z2, gz3, z3, gz4, hz4] at z5
     all_goals
     obtain ⟨z6, h⟩ := AD h
     have lz6 := BT z6
     have xz6 := AR AB data lz6
     try simp only [go_sem] at lz6
     try simp only [go_sem] at xz6
     try simp only [go_sem, n1, n2, n3, n4, gz2, z2, gz3, z3, gz4, hz4, z5] at z6
     all_goals
     obtain ⟨z7, h⟩ := AD h
     have lz7 := BT z7
     have xz7 := AR AB data lz7
     try simp only [go_sem] at lz7
     try simp only [go_sem] at xz7
     try simp only [go_sem, n1, n2, n3, n4, gz2, z2, gz3, z3, gz4, hz4, z5, z6] at z7
     all_goals
     have xz8 := (by rw [← List.map_set]; exact AR AB (data.set j.toNat (data.getD (IntKind.i64.wrap (j - 1)).toNat default)) (by first | (rw [List.length_set]; exact lz6) | (simp; omega)) : ((List.map AB data).set j.toNat (AB (data.getD (IntKind.i64.wrap (j - 1)).toNat default))).getD ((IntKind.i64.wrap (j - 1)).toNat) .any = AB ((data.set j.toNat (data.getD (IntKind.i64.wrap (j - 1)).toNat default)).getD ((IntKind.i64.wrap (j - 1)).toNat) default))
     try simp only [go_sem] at xz8
     obtain rfl := AC h
     refine ⟨0, fun L hL => ?_⟩
     simp only [go_sem, gz2, z2, lz2, xz2, gz3, z3, lz3, xz3, gz4, hz4, fz4, z5, z6, lz6, xz6, z7, lz7, xz7, xz8]
    ·try simp only [go_sem, n1, n2, n3, n4, gz2, z2, gz3, z3, gz4, hz4] at z5
     all_goals
     obtain rfl := AC h
     refine ⟨0, fun L hL => ?_⟩
     simp only [go_sem, gz2, z2, lz2, xz2, gz3, z3, lz3, xz3, gz4, hz4, fz4, z5]
   ·try simp only [go_sem, n1, n2, n3, n4, gz2, z2, gz3, z3] at gz4
    all_goals
    rcases AF h with ⟨z5, h⟩ | ⟨z5, h⟩
    ·try simp only [go_sem, n1, n2, n3, n4, gz2, z2, gz3, z3, gz4] at z5
     all_goals
     (simp_all)
    ·try simp only [go_sem, n1, n2, n3, n4, gz2, z2, gz3, z3, gz4] at z5
     all_goals
     obtain rfl := AC h
     refine ⟨0, fun L hL => ?_⟩
     simp only [go_sem, gz2, z2, lz2, xz2, gz3, z3, lz3, xz3, gz4, z5]
  ·try simp only [go_sem, n1, n2, n3, n4, gz2, z2] at gz3
   all_goals
   obtain ⟨z4, h⟩ := AD h
   rcases AF h with ⟨z5, h⟩ | ⟨z5, h⟩
   ·try simp only [go_sem, n1, n2, n3, n4, gz2, z2, gz3] at z5
    all_goals
    (simp_all)
   ·try simp only [go_sem, n1, n2, n3, n4, gz2, z2, gz3] at z5
    all_goals
    obtain rfl := AC h
    refine ⟨0, fun L hL => ?_⟩
    simp only [go_sem, gz2, z2, lz2, xz2, gz3, z5]
 ·try simp only [go_sem, n1, n2, n3, n4] at gz2
  all_goals
  obtain ⟨z3, h⟩ := AD h
  obtain ⟨z4, h⟩ := AD h
  rcases AF h with ⟨z5, h⟩ | ⟨z5, h⟩
  ·try simp only [go_sem, n1, n2, n3, n4, gz2] at z5
   all_goals
   (simp_all)
  ·try simp only [go_sem, n1, n2, n3, n4, gz2] at z5
   all_goals
   obtain rfl := AC h
   refine ⟨0, fun L hL => ?_⟩
   simp only [go_sem, gz2, z5]
def TI (a : Int) (b : Int) : ((List AA) × Int) → St
 | (data, i) => ⟨[.own 31, .int .i64 a, .int .i64 b, .fn (.func 75) [] [], .int .i64 i, .any], [], [(31, ⟨2, List.map AB data⟩)], true⟩
def Sd (a : Int) (b : Int) (y : (List AA)) : FT := (.exit 0, ⟨[.own 31, .any, .any, .any, .any, .any], [], [(31, ⟨2, List.map AB y⟩)], true⟩)
set_option maxHeartbeats 64000000 in
attribute [local go_sem] TI Sd Tt OG OF OE Ou Oi Kt Ks Kr Yd in
theorem Cy {a : Int} {b : Int} {sgm_ : (List AA) × Int} {rho_ : (List AA)} (h : AJ (BM a b) sgm_ = some rho_) : ∃ L0, ∀ L, L0 ≤ L → Cg (BD (Aa ln) L Tt) OG OF OE L (TI a b sgm_) = Sd a b rho_ := by
 refine BJ (E := TI a b) (R := Sd a b) (fun y => by first | (intro c; cases c) | (rcases y with y | y <;> (intro c; cases c)) | (rcases y with y | y | y <;> (intro c; cases c))) ?_ h
 clear h
 rintro ⟨data, i⟩ o_ h
 dsimp only [BM] at h
 rcases AF h with ⟨z1, h⟩ | ⟨z1, h⟩
 ·try simp only [go_sem, n1, n2, n3, n4] at z1
  all_goals
  obtain ⟨y_9, z9, h⟩ := AE h
  obtain ⟨Lz9, ez9⟩ := Cx z9
  obtain rfl := AC h
  refine ⟨Lz9, fun L hL => ?_⟩
  have ez9 := ez9 L (by omega)
  try simp only [go_sem, z1] at ez9
  simp only [go_sem, z1, ez9]
 ·try simp only [go_sem, n1, n2, n3, n4] at z1
  all_goals
  obtain rfl := AC h
  refine ⟨0, fun L hL => ?_⟩
  simp only [go_sem, z1]
set_option maxHeartbeats 64000000 in
attribute [local go_sem] Ou Oi Kt Ks Kr TI Sd OG OF OE Yd in
theorem ol {data : List AA} {a : Int} {b : Int} {y_ : (List AA)} (h : Ai data a b = some y_) : ei.F [.fresh 2 (List.map AB data), .int .i64 a, .int .i64 b, .fn (.func 75) [] []] = ⟨true, .cv undef, [.fresh 2 (List.map AB y_), .any, .any, .any]⟩ := by
 refine Ho ?_
 dsimp only [Ai] at h
 obtain ⟨y_10, z10, h⟩ := AE h
 obtain ⟨Lz10, ez10⟩ := Cy z10
 obtain ⟨z11, h⟩ := AD h
 try simp only [go_sem, n1, n2, n3, n4] at z11
 all_goals
 obtain rfl := AC h
 refine ⟨Lz10, fun L hL => ?_⟩
 have ez10 := ez10 L (by omega)
 try simp only [go_sem, z11] at ez10
 simp only [go_sem, z11, ez10]
def Tl : IR := .seq (.test false [ PM 11 5, PM 12 3, PO 13 (.bin false .lss (.s 1) (.s 0))] (.s 0) (.skip) (.exit 0)) (.seq (.block 1 (.anyo 22 [ SO 0 16 (.mov (.v 0)), SO 1 17 (.flat (.mov (.v 1))), SO 2 18 (.flat (.mov (.v 5))), SO 3 19 (.flat (.bin false .add (.s 1) (.s 2))), SO 4 20 (.mov (.v 0)), SO 5 21 (.flat (.mov (.v 2))), SO 6 22 (.flat (.mov (.v 5))), SO 7 23 (.flat (.bin false .add (.s 5) (.s 6))), SO 8 24 (.mov (.v 0)), SO 9 25 (.flat (.mov (.v 2))), SO 10 26 (.flat (.mov (.v 5))), SO 11 27 (.flat (.bin false .add (.s 9) (.s 10))), SO 12 28 (.ixAddr 2 (.s 8) (.s 11)), SO 13
 29 (.load true 2 (.s 12)), SO 14 30 (.mov (.v 0)), SO 15 31 (.flat (.mov (.v 1))), SO 16 32 (.flat (.mov (.v 5))), SO 17 33 (.flat (.bin false .add (.s 15) (.s 16))), SO 18 34 (.ixAddr 2 (.s 14) (.s 17)), SO 19 35 (.load true 2 (.s 18)), SO 20 36 (.ixAddr 2 (.s 0) (.s 3)), ⟨.no, 0, none, .store 2 (.s 20) (.s 13)⟩, SO 21 37 (.ixAddr 2 (.s 4) (.s 7)), ⟨.no, 0, none, .store 2 (.s 21) (.s 19)⟩] [[0, 1, 2, 3, 5, 6, 7, 8, 9, 10, 11, 12, 13, 14, 15, 16, 17, 18, 19, 20, 4, 21, 22, 23], [0, 1, 2, 3, 5, 6, 7, 8, 9, 10, 11, 12, 13, 14, 15, 16, 17, 18, 19, 20, 21, 4, 22, 23]] .skip)) (.region false [ PM
 14 5, PO 15 (.bin false .add (.s 0) (I6 1)), VS 5 10 0]))
def OA : List Bool := [true, true, true, true, false, true]
def Nz : List Bool := [true, false, false, false, false, false]
def Ny : List Bool := [true, false, false, false, false, false]
def nI : List Nat := [0, 1, 2, 3, 4, 10]
def bU : EL := ⟨5, 6, .seq (.region false [ VO 5 10 (.mov (I6 0))]) (.block 0 (.loop OA Nz Ny Tl)), []⟩
noncomputable def th : List (Nat × Bf) := []
noncomputable def eh : Bf := VP th bU [.io, .bor, .bor, .bor, .bor]
theorem s_22 : Ad Tryz.prog 127 eh := DF _ Ab (by kernel_rfl : BF Tryz.prog 127 bU nI = true)
theorem M_22 : eh.modes = [.io, .bor, .bor, .bor, .bor] := rfl
theorem wX : eh.flat = false := rfl
attribute [go_sem] M_22 wX
def TH (a : Int) (b : Int) (n : Int) : ((List AA) × Int) → St
 | (data, i) => ⟨[.own 31, .int .i64 a, .int .i64 b, .int .i64 n, .any, .int .i64 i], [], [(31, ⟨2, List.map AB data⟩)], true⟩
def Sc (a : Int) (b : Int) (n : Int) (y : (List AA)) : FT := (.exit 0, ⟨[.own 31, .any, .any, .any, .any, .any], [], [(31, ⟨2, List.map AB y⟩)], true⟩)
attribute [local go_sem] bU TH Sc Tl OA Nz Ny in
theorem DO {a : Int} {b : Int} {n : Int} {sgm_ : (List AA) × Int} {rho_ : (List AA)} (h : AJ (BU a b n) sgm_ = some rho_) : ∃ L0, ∀ L, L0 ≤ L → Cg (BD (Aa th) L Tl) OA Nz Ny L (TH a b n sgm_) = Sc a b n rho_ := by
 refine BJ (E := TH a b n) (R := Sc a b n) (fun y => by first | (intro c; cases c) | (rcases y with y | y <;> (intro c; cases c)) | (rcases y with y | y | y <;> (intro c; cases c))) ?_ h
 clear h
 rintro ⟨data, i⟩ o_ h
 dsimp only [BU] at h
 rcases AF h with ⟨z1, h⟩ | ⟨z1, h⟩
 ·try simp only [go_sem, n1, n2, n3, n4] at z1
  all_goals
  obtain ⟨z2, h⟩ := AD h
  have lz2 := BT z2
  have xz2 := AR AB data lz2
  try simp only [go_sem] at lz2
  try simp only [go_sem] at xz2
  try simp only [go_sem, n1, n2, n3, n4, z1] at z2
  all_goals
  obtain ⟨z3, h⟩ := AD h
  have lz3 := BT z3
  have xz3 := AR AB data lz3
  try simp only [go_sem] at lz3
  try simp only [go_sem] at xz3
  try simp only [go_sem, n1, n2, n3, n4, z1, z2] at z3
  all_goals
  have xz4 := (by rw [← List.map_set]; exact AR AB (data.set ((IntKind.i64.wrap (a + i)).toNat) (data.getD (IntKind.i64.wrap (b + i)).toNat default)) (by first | (rw [List.length_set]; exact lz2) | (simp; omega)) : ((List.map AB data).set ((IntKind.i64.wrap (a + i)).toNat) (AB (data.getD (IntKind.i64.wrap (b + i)).toNat default))).getD ((IntKind.i64.wrap (b + i)).toNat) .any = AB ((data.set ((IntKind.i64.wrap (a + i)).toNat) (data.getD (IntKind.i64.wrap (b + i)).toNat default)).getD ((IntKind.i64.wrap (b + i)).toNat) default))
  try simp only [go_sem] at xz4
  obtain rfl := AC h
  refine ⟨0, fun L hL => ?_⟩
  simp only [go_sem, z1, z2, lz2, xz2, z3, lz3, xz3, xz4]
 ·try simp only [go_sem, n1, n2, n3, n4] at z1
  all_goals
  obtain rfl := AC h
  refine ⟨0, fun L hL => ?_⟩
  simp only [go_sem, z1]
attribute [local go_sem] TH Sc OA Nz Ny bU in
theorem lR {data : List AA} {a : Int} {b : Int} {n : Int} {y_ : (List AA)} (h : Af data a b n = some y_) : eh.F [.fresh 2 (List.map AB data), .int .i64 a, .int .i64 b, .int .i64 n, .fn (.func 75) [] []] = ⟨true, .cv undef, [.fresh 2 (List.map AB y_), .any, .any, .any, .any]⟩ := by
 refine Ho ?_
 dsimp only [Af] at h
 obtain ⟨y_5, z5, h⟩ := AE h
 obtain ⟨Lz5, ez5⟩ := DO z5
 obtain ⟨z6, h⟩ := AD h
 try simp only [go_sem, n1, n2, n3, n4] at z6
 all_goals
 obtain rfl := AC h
 refine ⟨Lz5, fun L hL => ?_⟩
 have ez5 := ez5 L (by omega)
 try simp only [go_sem, z6] at ez5
 simp only [go_sem, z6, ez5]
def Tm : IR := .seq (.test false [ PM 18 5, PM 19 6, PO 20 (.bin false .neq (.s 1) (.s 0))] (.s 0) (.skip) (.exit 0)) (.block 1 (.test false [ PM 21 5, PM 22 6, PO 23 (.bin false .gtr (.s 1) (.s 0))] (.s 0) (.seq (.region false [ PM 24 0, PM 25 2, PM 26 5, PO 27 (.bin false .sub (.s 1) (.s 0)), PM 28 2, PM 29 6, PM 30 4, PO 31 (.call 127 [(.s 6), (.s 3), (.s 2), (.s 1), (.s 0)])]) (.region false [ PM 32 5, PM 33 6, PO 34 (.bin false .sub (.s 1) (.s 0)), VS 5 10 0])) (.seq (.region false [ PM 35 0, PM 36 2, PM 37 5, PO 38 (.bin false .sub (.s 1) (.s 0)), PM 39 2, PM 40 6, PO 41 (.bin false
 .add (.s 1) (.s 0)), PM 42 5, PO 43 (.bin false .sub (.s 1) (.s 0)), PM 44 5, PM 45 4, PO 46 (.call 127 [(.s 10), (.s 7), (.s 2), (.s 1), (.s 0)])]) (.region false [ PM 47 6, PM 48 5, PO 49 (.bin false .sub (.s 1) (.s 0)), VS 6 11 0]))))
def OD : List Bool := [true, false, true, false, true, true, true]
def OC : List Bool := [true, false, true, false, true, true, false]
def OB : List Bool := [true, false, false, false, false, false, false]
def nJ : List Nat := [0, 1, 2, 3, 4, 10, 11]
def bV : EL := ⟨5, 7, .seq (.region false [ PM 12 2, PM 13 1, PO 14 (.bin false .sub (.s 1) (.s 0)), VS 5 10 0]) (.seq (.region false [ PM 15 3, PM 16 2, PO 17 (.bin false .sub (.s 1) (.s 0)), VS 6 11 0]) (.seq (.block 0 (.loop OD OC OB Tm)) (.region false [ PM 50 0, PM 51 2, PM 52 5, PO 53 (.bin false .sub (.s 1) (.s 0)), PM 54 2, PM 55 5, PM 56 4, PO 57 (.call 127 [(.s 6), (.s 3), (.s 2), (.s 1), (.s 0)])]))), []⟩
noncomputable def pN : List (Nat × Bf) := [(127, eh)]
theorem dC : Aa pN 127 = some eh := rfl
noncomputable def aS : Bf := VP pN bV [.io, .bor, .bor, .bor, .bor]
theorem s_23 : Ad Tryz.prog 125 aS := DF _ (AI s_22 Ab) (by kernel_rfl : BF Tryz.prog 125 bV nJ = true)
theorem M_23 : aS.modes = [.io, .bor, .bor, .bor, .bor] := rfl
theorem wW : aS.flat = false := rfl
attribute [go_sem] M_23 wW dC
def TG (m : Int) : ((List AA) × Int × Int) → St
 | (data, i, j) => ⟨[.own 31, .any, .int .i64 m, .any, .fn (.func 75) [] [], .int .i64 i, .int .i64 j], [], [(31, ⟨2, List.map AB data⟩)], true⟩
def Sb (m : Int) (y : (List AA) × Int) : FT := (.exit 0, ⟨[.own 31, .any, .int .i64 m, .any, .fn (.func 75) [] [], .int .i64 y.2, .any], [], [(31, ⟨2, List.map AB y.1⟩)], true⟩)
attribute [local go_sem] bV TG Sb Tm OD OC OB in
theorem Dm {m : Int} {sgm_ : (List AA) × Int × Int} {rho_ : (List AA) × Int} (h : AJ (Bh m) sgm_ = some rho_) : ∃ L0, ∀ L, L0 ≤ L → Cg (BD (Aa pN) L Tm) OD OC OB L (TG m sgm_) = Sb m rho_ := by
 refine BJ (E := TG m) (R := Sb m) (fun y => by first | (intro c; cases c) | (rcases y with y | y <;> (intro c; cases c)) | (rcases y with y | y | y <;> (intro c; cases c))) ?_ h
 clear h
 rintro ⟨data, i, j⟩ o_ h
 dsimp only [Bh] at h
 rcases AF h with ⟨z1, h⟩ | ⟨z1, h⟩
 ·try simp only [go_sem, n1, n2, n3, n4] at z1
  all_goals
  rcases AF h with ⟨z2, h⟩ | ⟨z2, h⟩
  ·try simp only [go_sem, n1, n2, n3, n4, z1] at z2
   all_goals
   obtain ⟨y_3, z3, h⟩ := AE h
   have fz3 := lR z3
   try simp only [go_sem, z1, z2] at fz3
   obtain rfl := AC h
   refine ⟨0, fun L hL => ?_⟩
   simp only [go_sem, z1, z2, fz3]
  ·try simp only [go_sem, n1, n2, n3, n4, z1] at z2
   all_goals
   obtain ⟨y_4, z4, h⟩ := AE h
   have fz4 := lR z4
   try simp only [go_sem, z1, z2] at fz4
   obtain rfl := AC h
   refine ⟨0, fun L hL => ?_⟩
   simp only [go_sem, z1, z2, fz4]
 ·try simp only [go_sem, n1, n2, n3, n4] at z1
  all_goals
  obtain rfl := AC h
  refine ⟨0, fun L hL => ?_⟩
  simp only [go_sem, z1]
attribute [local go_sem] TG Sb OD OC OB bV in
theorem oj {data : List AA} {a : Int} {m : Int} {b : Int} {y_ : (List AA)} (h : At data a m b = some y_) : aS.F [.fresh 2 (List.map AB data), .int .i64 a, .int .i64 m, .int .i64 b, .fn (.func 75) [] []] = ⟨true, .cv undef, [.fresh 2 (List.map AB y_), .any, .any, .any, .any]⟩ := by
 refine Ho ?_
 dsimp only [At] at h
 obtain ⟨y_5, z5, h⟩ := AE h
 obtain ⟨Lz5, ez5⟩ := Dm z5
 obtain ⟨y_6, z6, h⟩ := AE h
 have fz6 := lR z6
 try simp only [go_sem] at fz6
 obtain ⟨z7, h⟩ := AD h
 try simp only [go_sem, n1, n2, n3, n4] at z7
 all_goals
 obtain rfl := AC h
 refine ⟨Lz5, fun L hL => ?_⟩
 have ez5 := ez5 L (by omega)
 try simp only [go_sem, z7] at ez5
 simp only [go_sem, fz6, z7, ez5]
def Tr : IR := .seq (.test false [ PM 31 5, PM 32 6, PO 33 (.bin false .lss (.s 1) (.s 0))] (.s 0) (.skip) (.exit 0)) (.block 1 (.seq (.region false [ PM 34 5, PM 35 6, PO 36 (.bin false .add (.s 1) (.s 0)), PO 37 (.conv .u64 (.s 0)), PO 38 (.bin false .shr (.s 0) (.c (.int .u64 (1)))), PO 39 (.conv .i64 (.s 0)), VS 7 12 0]) (.anyo 11 [ SO 0 40 (.mov (.v 4)), SO 1 41 (.mov (.v 0)), SO 2 42 (.mov (.v 7)), SO 3 43 (.ixAddr 2 (.s 1) (.s 2)), SO 4 44 (.load true 2 (.s 3)), SO 5 45 (.mov (.v 0)), SO 6 46 (.mov (.v 1)), SO 7 47 (.ixAddr 2 (.s 5) (.s 6)), SO 8 48 (.load true 2 (.s 7)), SO 9 49
 (.pur (.callv (.s 0) [(.s 4), (.s 8)])), SO 10 50 (.bin false .lss (.s 9) (I6 0))] [] (.cond (.s 10) (.region false [ PM 51 7, PO 52 (.bin false .add (.s 0) (I6 1)), VS 5 10 0]) (.region false [ PM 53 7, VS 6 11 0])))))
def Gw : List Bool := [true, true, false, false, true, true, true, false, false, false, false, false, false, false, false, false, false, false, false, false]
def Gv : List Bool := [true, true, false, false, false, true, false, false, false, false, false, false, false, false, false, false, false, false, false, false]
def Gu : List Bool := [true, false, false, false, false, false, false, false, false, false, false, false, false, false, false, false, false, false, false, false]
def Tq : IR := .seq (.test false [ PM 55 8, PM 56 5, PO 57 (.bin false .sub (.s 0) (I6 1)), PO 58 (.bin false .lss (.s 2) (.s 0))] (.s 0) (.skip) (.exit 2)) (.seq (.block 3 (.anyo 16 [ SO 0 61 (.mov (.v 0)), SO 1 62 (.flat (.mov (.v 8))), SO 2 63 (.mov (.v 0)), SO 3 64 (.flat (.mov (.v 8))), SO 4 65 (.flat (.bin false .add (.s 3) (I6 1))), SO 5 66 (.mov (.v 0)), SO 6 67 (.flat (.mov (.v 8))), SO 7 68 (.flat (.bin false .add (.s 6) (I6 1))), SO 8 69 (.ixAddr 2 (.s 5) (.s 7)), SO 9 70 (.load true 2 (.s 8)), SO 10 71 (.mov (.v 0)), SO 11 72 (.flat (.mov (.v 8))), SO 12 73 (.ixAddr 2 (.s 10)
 (.s 11)), SO 13 74 (.load true 2 (.s 12)), SO 14 75 (.ixAddr 2 (.s 0) (.s 1)), ⟨.no, 0, none, .store 2 (.s 14) (.s 9)⟩, SO 15 76 (.ixAddr 2 (.s 2) (.s 4)), ⟨.no, 0, none, .store 2 (.s 15) (.s 13)⟩] [[0, 1, 3, 4, 5, 6, 7, 8, 9, 10, 11, 12, 13, 14, 2, 15, 16, 17], [0, 1, 3, 4, 5, 6, 7, 8, 9, 10, 11, 12, 13, 14, 15, 2, 16, 17]] .skip)) (.region false [ PM 59 8, PO 60 (.bin false .add (.s 0) (I6 1)), VS 8 13 0]))
def Hf : List Bool := [true, false, false, false, false, true, false, false, true, false, false, false, false, false, false, false, false, false, false, false]
def He : List Bool := [true, false, false, false, false, false, false, false, false, false, false, false, false, false, false, false, false, false, false, false]
def Hd : List Bool := [true, false, false, false, false, false, false, false, false, false, false, false, false, false, false, false, false, false, false, false]
def Tp : IR := .seq (.test false [ PM 83 9, PM 84 10, PO 85 (.bin false .lss (.s 1) (.s 0))] (.s 0) (.skip) (.exit 4)) (.block 5 (.seq (.region false [ PM 86 9, PM 87 10, PO 88 (.bin false .add (.s 1) (.s 0)), PO 89 (.conv .u64 (.s 0)), PO 90 (.bin false .shr (.s 0) (.c (.int .u64 (1)))), PO 91 (.conv .i64 (.s 0)), VS 11 16 0]) (.anyo 12 [ SO 0 92 (.mov (.v 4)), SO 1 93 (.mov (.v 0)), SO 2 94 (.mov (.v 2)), SO 3 95 (.ixAddr 2 (.s 1) (.s 2)), SO 4 96 (.load true 2 (.s 3)), SO 5 97 (.mov (.v 0)), SO 6 98 (.mov (.v 11)), SO 7 99 (.ixAddr 2 (.s 5) (.s 6)), SO 8 100 (.load true 2 (.s 7)), SO 9
 101 (.pur (.callv (.s 0) [(.s 4), (.s 8)])), SO 10 102 (.bin false .lss (.s 9) (I6 0)), SO 11 103 (.un .not (.s 10))] [] (.cond (.s 11) (.region false [ PM 104 11, PO 105 (.bin false .add (.s 0) (I6 1)), VS 9 14 0]) (.region false [ PM 106 11, VS 10 15 0])))))
def IX : List Bool := [true, false, true, false, true, false, false, false, false, true, true, false, false, false, false, false, false, false, false, false]
def IW : List Bool := [true, false, true, false, false, false, false, false, false, true, false, false, false, false, false, false, false, false, false, false]
def IV : List Bool := [true, false, false, false, false, false, false, false, false, false, false, false, false, false, false, false, false, false, false, false]
def Tn : IR := .seq (.test false [ PM 108 12, PM 109 9, PO 110 (.bin false .gtr (.s 1) (.s 0))] (.s 0) (.skip) (.exit 6)) (.seq (.block 7 (.anyo 16 [ SO 0 113 (.mov (.v 0)), SO 1 114 (.flat (.mov (.v 12))), SO 2 115 (.mov (.v 0)), SO 3 116 (.flat (.mov (.v 12))), SO 4 117 (.flat (.bin false .sub (.s 3) (I6 1))), SO 5 118 (.mov (.v 0)), SO 6 119 (.flat (.mov (.v 12))), SO 7 120 (.flat (.bin false .sub (.s 6) (I6 1))), SO 8 121 (.ixAddr 2 (.s 5) (.s 7)), SO 9 122 (.load true 2 (.s 8)), SO 10 123 (.mov (.v 0)), SO 11 124 (.flat (.mov (.v 12))), SO 12 125 (.ixAddr 2 (.s 10) (.s 11)), SO 13
 126 (.load true 2 (.s 12)), SO 14 127 (.ixAddr 2 (.s 0) (.s 1)), ⟨.no, 0, none, .store 2 (.s 14) (.s 9)⟩, SO 15 128 (.ixAddr 2 (.s 2) (.s 4)), ⟨.no, 0, none, .store 2 (.s 15) (.s 13)⟩] [[0, 1, 3, 4, 5, 6, 7, 8, 9, 10, 11, 12, 13, 14, 2, 15, 16, 17], [0, 1, 3, 4, 5, 6, 7, 8, 9, 10, 11, 12, 13, 14, 15, 2, 16, 17]] .skip)) (.region false [ PM 111 12, PO 112 (.bin false .sub (.s 0) (I6 1)), VS 12 17 0]))
def JZ : List Bool := [true, false, false, false, false, false, false, false, false, true, false, false, true, false, false, false, false, false, false, false]
def JX : List Bool := [true, false, false, false, false, false, false, false, false, false, false, false, false, false, false, false, false, false, false, false]
def JV : List Bool := [true, false, false, false, false, false, false, false, false, false, false, false, false, false, false, false, false, false, false, false]
def Kq : IR := .seq (.test false [ PM 149 15, PM 150 16, PO 151 (.bin false .lss (.s 1) (.s 0))] (.s 0) (.skip) (.exit 8)) (.block 9 (.seq (.region false [ PM 152 15, PM 153 16, PO 154 (.bin false .add (.s 1) (.s 0)), PO 155 (.conv .u64 (.s 0)), PO 156 (.bin false .shr (.s 0) (.c (.int .u64 (1)))), PO 157 (.conv .i64 (.s 0)), VS 18 23 0]) (.anyo 14 [ SO 0 158 (.mov (.v 4)), SO 1 159 (.mov (.v 0)), SO 2 160 (.mov (.v 17)), SO 3 161 (.mov (.v 18)), SO 4 162 (.bin false .sub (.s 2) (.s 3)), SO 5 163 (.ixAddr 2 (.s 1) (.s 4)), SO 6 164 (.load true 2 (.s 5)), SO 7 165 (.mov (.v 0)), SO 8 166
 (.mov (.v 18)), SO 9 167 (.ixAddr 2 (.s 7) (.s 8)), SO 10 168 (.load true 2 (.s 9)), SO 11 169 (.pur (.callv (.s 0) [(.s 6), (.s 10)])), SO 12 170 (.bin false .lss (.s 11) (I6 0)), SO 13 171 (.un .not (.s 12))] [] (.cond (.s 13) (.region false [ PM 172 18, PO 173 (.bin false .add (.s 0) (I6 1)), VS 15 20 0]) (.region false [ PM 174 18, VS 16 21 0])))))
def JY : List Bool := [true, true, true, true, true, false, false, false, false, false, false, false, false, true, true, true, true, true, false, false]
def JW : List Bool := [true, true, true, true, true, false, false, false, false, false, false, false, false, true, true, true, false, false, false, false]
def JU : List Bool := [true, false, false, false, false, false, false, false, false, false, false, false, false, false, false, false, false, false, false, false]
def nK : List Nat := [0, 1, 2, 3, 4, 10, 11, 12, 13, 14, 15, 16, 17, 18, 19, 20, 21, 22, 23, 24]
def Lv : EL := ⟨5, 20, .seq (.test false [ PM 25 2, PM 26 1, PO 27 (.bin false .sub (.s 1) (.s 0)), PO 28 (.bin false .eql (.s 0) (I6 1))] (.s 0) (.seq (.region false [ PM 29 2, VS 5 10 0]) (.seq (.region false [ PM 30 3, VS 6 11 0]) (.seq (.block 0 (.loop Gw Gv Gu Tr)) (.seq (.seq (.region false [ PM 54 1, VS 8 13 0]) (.block 2 (.loop Hf He Hd Tq))) (.ret))))) (.skip)) (.seq (.test false [ PM 77 3, PM 78 2, PO 79 (.bin false .sub (.s 1) (.s 0)), PO 80 (.bin false .eql (.s 0) (I6 1))] (.s 0) (.seq (.region false [ PM 81 1, VS 9 14 0]) (.seq
 (.region false [ PM 82 2, VS 10 15 0]) (.seq (.block 4 (.loop IX IW IV Tp)) (.seq (.seq (.region false [ PM 107 2, VS 12 17 0]) (.block 6 (.loop JZ JX JV Tn))) (.ret))))) (.skip)) (.seq (.region false [ PM 129 1, PM 130 3, PO 131 (.bin false .add (.s 1) (.s 0)), PO 132 (.conv .u64 (.s 0)), PO 133 (.bin false .shr (.s 0) (.c (.int .u64 (1)))), PO 134 (.conv .i64 (.s 0)), VS 13 18 0]) (.seq (.region false [ PM 135 13, PM 136 2, PO 137 (.bin false .add (.s 1) (.s 0)), VS 14 19 0]) (.seq (.region false [ VO 15 20 (.mov (I6 0)), VO 16 21 (.mov (I6
 0))]) (.seq (.test false [ PM 138 2, PM 139 13, PO 140 (.bin false .gtr (.s 1) (.s 0))] (.s 0) (.seq (.region false [ PM 141 14, PM 142 3, PO 143 (.bin false .sub (.s 1) (.s 0)), VS 15 20 0]) (.region false [ PM 144 13, VS 16 21 0])) (.seq (.region false [ PM 145 1, VS 15 20 0]) (.region false [ PM 146 2, VS 16 21 0]))) (.seq (.region false [ PM 147 14, PO 148 (.bin false .sub (.s 0) (I6 1)), VS 17 22 0]) (.seq (.block 8 (.loop JY JW JU Kq)) (.seq (.region false [ PM 175 14, PM 176 15, PO 177 (.bin false .sub (.s 1) (.s 0)), VS 19 24 0]) (.seq (.test false [ PM 178 15,
 PM 179 2, PO 180 (.bin false .lss (.s 1) (.s 0)), PO 181 (.mov (.s 0)), ⟨.push, 182, (some ((.s 0), true)), .mov (.v 2)⟩, ⟨.push, 183, (some ((.s 1), true)), .mov (.v 19)⟩, ⟨.push, 184, (some ((.s 2), true)), .bin false .lss (.s 1) (.s 0)⟩, PO 185 (.pick (.s 3) (.s 0) (.c (.bool false)))] (.s 0) (.region false [ PM 186 0, PM 187 15, PM 188 2, PM 189 19, PM 190 4, PO 191 (.call 125 [(.s 4), (.s 3), (.s 2), (.s 1), (.s 0)])]) (.skip)) (.seq (.test false [ PM 192 1, PM 193 15, PO 194 (.bin false .lss (.s 1) (.s 0)), PO 195 (.mov (.s 0)), ⟨.push, 196, (some ((.s 0), true)), .mov (.v 15)⟩, ⟨.push,
 197, (some ((.s 1), true)), .mov (.v 13)⟩, ⟨.push, 198, (some ((.s 2), true)), .bin false .lss (.s 1) (.s 0)⟩, PO 199 (.pick (.s 3) (.s 0) (.c (.bool false)))] (.s 0) (.region false [ PM 200 0, PM 201 1, PM 202 15, PM 203 13, PM 204 4, PO 205 (.call 117 [(.s 4), (.s 3), (.s 2), (.s 1), (.s 0)])]) (.skip)) (.test false [ PM 206 13, PM 207 19, PO 208 (.bin false .lss (.s 1) (.s 0)), PO 209 (.mov (.s 0)), ⟨.push, 210, (some ((.s 0), true)), .mov (.v 19)⟩, ⟨.push, 211, (some ((.s 1), true)), .mov (.v 3)⟩, ⟨.push, 212, (some ((.s 2), true)), .bin false .lss (.s 1) (.s 0)⟩, PO 213 (.pick (.s 3) (.s
 0) (.c (.bool false)))] (.s 0) (.region false [ PM 214 0, PM 215 13, PM 216 19, PM 217 3, PM 218 4, PO 219 (.call 117 [(.s 4), (.s 3), (.s 2), (.s 1), (.s 0)])]) (.skip)))))))))))), []⟩
noncomputable def AU : Nat → Bf
 | 0 => sN [.io, .bor, .bor, .bor, .bor]
 | n_ + 1 => VP [(75, XX), (125, aS), (117, (AU n_))] Lv [.io, .bor, .bor, .bor, .bor]
theorem CI (n_ : Nat) : (AU n_).modes = [.io, .bor, .bor, .bor, .bor] := by cases n_ <;> rfl
theorem CF (n_ : Nat) : (AU n_).flat = false := by cases n_ <;> rfl
attribute [go_sem] CI CF
noncomputable def Up (n_ : Nat) : List (Nat × Bf) := [(75, XX), (125, aS), (117, (AU n_))]
theorem jY (n_ : Nat) : Aa (Up n_) 75 = some XX := rfl
theorem dA (n_ : Nat) : Aa (Up n_) 125 = some aS := rfl
theorem dB (n_ : Nat) : Aa (Up n_) 117 = some (AU n_) := rfl
theorem Dn (n_ : Nat) : AU (n_ + 1) = VP (Up n_) Lv [.io, .bor, .bor, .bor, .bor] := rfl
theorem CG : ∀ n_ : Nat, Ad Tryz.prog 117 (AU n_)
 | 0 => ag
 | n_ + 1 => DF _ (AI uE (AI s_23 (AI (CG n_) Ab))) (by kernel_rfl : BF Tryz.prog 117 Lv nK = true)
noncomputable def eg : Bf := AU 64
theorem s_24 : Ad Tryz.prog 117 eg := CG 64
theorem M_24 : eg.modes = [.io, .bor, .bor, .bor, .bor] := CI 64
theorem wV : eg.flat = false := CF 64
attribute [go_sem] M_24 wV jY dA dB
def Hy (data : List AA) (a : Int) : (Int × Int) → St
 | (i, j) => ⟨[.own 31, .int .i64 a, .any, .any, .fn (.func 75) [] [], .int .i64 i, .int .i64 j, .any, .any, .any, .any, .any, .any, .any, .any, .any, .any, .any, .any, .any], [], [(31, ⟨2, List.map AB data⟩)], true⟩
def Hw (data : List AA) (a : Int) (y : Int) : FT := (.exit 0, ⟨[.own 31, .int .i64 a, .any, .any, .any, .int .i64 y, .any, .any, .any, .any, .any, .any, .any, .any, .any, .any, .any, .any, .any, .any], [], [(31, ⟨2, List.map AB data⟩)], true⟩)
set_option maxHeartbeats 64000000 in
attribute [local go_sem] Lv Hy Hw Tr Gw Gv Gu in
theorem DZ (n_ : Nat) {data : List AA} {a : Int} {sgm_ : Int × Int} {rho_ : Int} (h : AJ (Be data a) sgm_ = some rho_) : ∃ L0, ∀ L, L0 ≤ L → Cg (BD (Aa (Up n_)) L Tr) Gw Gv Gu L (Hy data a sgm_) = Hw data a rho_ := by
 refine BJ (E := Hy data a) (R := Hw data a) (fun y => by first | (intro c; cases c) | (rcases y with y | y <;> (intro c; cases c)) | (rcases y with y | y | y <;> (intro c; cases c))) ?_ h
 clear h
 rintro ⟨i, j⟩ o_ h
 dsimp only [Be] at h
 rcases AF h with ⟨z2, h⟩ | ⟨z2, h⟩
 ·try simp only [go_sem, n1, n2, n3, n4] at z2
  all_goals
  obtain ⟨z3, h⟩ := AD h
  try simp only [go_sem, n1, n2, n3, n4, z2] at z3
  all_goals
  obtain ⟨z4, h⟩ := AD h
  have lz4 := BT z4
  have xz4 := AR AB data lz4
  try simp only [go_sem] at lz4
  try simp only [go_sem] at xz4
  try simp only [go_sem, n1, n2, n3, n4, z2, z3] at z4
  all_goals
  obtain ⟨z5, h⟩ := AD h
  have lz5 := BT z5
  have xz5 := AR AB data lz5
  try simp only [go_sem] at lz5
  try simp only [go_sem] at xz5
  try simp only [go_sem, n1, n2, n3, n4, z2, z3, z4] at z5
  all_goals
  obtain ⟨y_6, z6, h⟩ := AE h
  have fz6 := ZR z6
  try simp only [go_sem, z2, z3, z4, z5] at fz6
  rcases AF h with ⟨z7, h⟩ | ⟨z7, h⟩
  all_goals
  try simp only [go_sem, n1, n2, n3, n4, z2, z3, z4, z5] at z7
  all_goals
  obtain rfl := AC h
  refine ⟨0, fun L hL => ?_⟩
  simp only [go_sem, z2, z3, z4, lz4, xz4, z5, lz5, xz5, fz6, z7]
 ·try simp only [go_sem, n1, n2, n3, n4] at z2
  all_goals
  obtain rfl := AC h
  refine ⟨0, fun L hL => ?_⟩
  simp only [go_sem, z2]
def It (i : Int) : ((List AA) × Int) → St
 | (data, k) => ⟨[.own 31, .any, .any, .any, .any, .int .i64 i, .any, .any, .int .i64 k, .any, .any, .any, .any, .any, .any, .any, .any, .any, .any, .any], [], [(31, ⟨2, List.map AB data⟩)], true⟩
def Is (i : Int) (y : (List AA)) : FT := (.exit 2, ⟨[.own 31, .any, .any, .any, .any, .any, .any, .any, .any, .any, .any, .any, .any, .any, .any, .any, .any, .any, .any, .any], [], [(31, ⟨2, List.map AB y⟩)], true⟩)
set_option maxHeartbeats 64000000 in
attribute [local go_sem] Lv It Is Tq Hf He Hd Hy Hw Gw Gv Gu in
theorem DY (n_ : Nat) {i : Int} {sgm_ : (List AA) × Int} {rho_ : (List AA)} (h : AJ (Bd i) sgm_ = some rho_) : ∃ L0, ∀ L, L0 ≤ L → Cg (BD (Aa (Up n_)) L Tq) Hf He Hd L (It i sgm_) = Is i rho_ := by
 refine BJ (E := It i) (R := Is i) (fun y => by first | (intro c; cases c) | (rcases y with y | y <;> (intro c; cases c)) | (rcases y with y | y | y <;> (intro c; cases c))) ?_ h
 clear h
 rintro ⟨data, k⟩ o_ h
 dsimp only [Bd] at h
 rcases AF h with ⟨z9, h⟩ | ⟨z9, h⟩
 ·try simp only [go_sem, n1, n2, n3, n4] at z9
  all_goals
  obtain ⟨z10, h⟩ := AD h
  have lz10 := BT z10
  have xz10 := AR AB data lz10
  try simp only [go_sem] at lz10
  try simp only [go_sem] at xz10
  try simp only [go_sem, n1, n2, n3, n4, z9] at z10
  all_goals
  obtain ⟨z11, h⟩ := AD h
  have lz11 := BT z11
  have xz11 := AR AB data lz11
  try simp only [go_sem] at lz11
  try simp only [go_sem] at xz11
  try simp only [go_sem, n1, n2, n3, n4, z9, z10] at z11
  all_goals
  have xz12 := (by rw [← List.map_set]; exact AR AB (data.set k.toNat (data.getD (IntKind.i64.wrap (k + 1)).toNat default)) (by first | (rw [List.length_set]; exact lz10) | (simp; omega)) : ((List.map AB data).set k.toNat (AB (data.getD (IntKind.i64.wrap (k + 1)).toNat default))).getD ((IntKind.i64.wrap (k + 1)).toNat) .any = AB ((data.set k.toNat (data.getD (IntKind.i64.wrap (k + 1)).toNat default)).getD ((IntKind.i64.wrap (k + 1)).toNat) default))
  try simp only [go_sem] at xz12
  obtain rfl := AC h
  refine ⟨0, fun L hL => ?_⟩
  simp only [go_sem, z9, z10, lz10, xz10, z11, lz11, xz11, xz12]
 ·try simp only [go_sem, n1, n2, n3, n4] at z9
  all_goals
  obtain rfl := AC h
  refine ⟨0, fun L hL => ?_⟩
  simp only [go_sem, z9]
def KV (data : List AA) (m : Int) : (Int × Int) → St
 | (i, j) => ⟨[.own 31, .any, .int .i64 m, .any, .fn (.func 75) [] [], .any, .any, .any, .any, .int .i64 i, .int .i64 j, .any, .any, .any, .any, .any, .any, .any, .any, .any], [], [(31, ⟨2, List.map AB data⟩)], true⟩
def KT (data : List AA) (m : Int) (y : Int) : FT := (.exit 4, ⟨[.own 31, .any, .int .i64 m, .any, .any, .any, .any, .any, .any, .int .i64 y, .any, .any, .any, .any, .any, .any, .any, .any, .any, .any], [], [(31, ⟨2, List.map AB data⟩)], true⟩)
set_option maxHeartbeats 64000000 in
attribute [local go_sem] Lv KV KT Tp IX IW IV Hy Hw Gw Gv Gu It Is Hf He Hd in
theorem DX (n_ : Nat) {data : List AA} {m : Int} {sgm_ : Int × Int} {rho_ : Int} (h : AJ (Bc data m) sgm_ = some rho_) : ∃ L0, ∀ L, L0 ≤ L → Cg (BD (Aa (Up n_)) L Tp) IX IW IV L (KV data m sgm_) = KT data m rho_ := by
 refine BJ (E := KV data m) (R := KT data m) (fun y => by first | (intro c; cases c) | (rcases y with y | y <;> (intro c; cases c)) | (rcases y with y | y | y <;> (intro c; cases c))) ?_ h
 clear h
 rintro ⟨i, j⟩ o_ h
 dsimp only [Bc] at h
 rcases AF h with ⟨z16, h⟩ | ⟨z16, h⟩
 ·try simp only [go_sem, n1, n2, n3, n4] at z16
  all_goals
  obtain ⟨z17, h⟩ := AD h
  try simp only [go_sem, n1, n2, n3, n4, z16] at z17
  all_goals
  obtain ⟨z18, h⟩ := AD h
  have lz18 := BT z18
  have xz18 := AR AB data lz18
  try simp only [go_sem] at lz18
  try simp only [go_sem] at xz18
  try simp only [go_sem, n1, n2, n3, n4, z16, z17] at z18
  all_goals
  obtain ⟨z19, h⟩ := AD h
  have lz19 := BT z19
  have xz19 := AR AB data lz19
  try simp only [go_sem] at lz19
  try simp only [go_sem] at xz19
  try simp only [go_sem, n1, n2, n3, n4, z16, z17, z18] at z19
  all_goals
  obtain ⟨y_20, z20, h⟩ := AE h
  have fz20 := ZR z20
  try simp only [go_sem, z16, z17, z18, z19] at fz20
  rcases AF h with ⟨z21, h⟩ | ⟨z21, h⟩
  all_goals
  try simp only [go_sem, n1, n2, n3, n4, z16, z17, z18, z19] at z21
  all_goals
  obtain rfl := AC h
  refine ⟨0, fun L hL => ?_⟩
  simp only [go_sem, z16, z17, z18, lz18, xz18, z19, lz19, xz19, fz20, z21]
 ·try simp only [go_sem, n1, n2, n3, n4] at z16
  all_goals
  obtain rfl := AC h
  refine ⟨0, fun L hL => ?_⟩
  simp only [go_sem, z16]
def Ln (i : Int) : ((List AA) × Int) → St
 | (data, k) => ⟨[.own 31, .any, .any, .any, .any, .any, .any, .any, .any, .int .i64 i, .any, .any, .int .i64 k, .any, .any, .any, .any, .any, .any, .any], [], [(31, ⟨2, List.map AB data⟩)], true⟩
def Lj (i : Int) (y : (List AA)) : FT := (.exit 6, ⟨[.own 31, .any, .any, .any, .any, .any, .any, .any, .any, .any, .any, .any, .any, .any, .any, .any, .any, .any, .any, .any], [], [(31, ⟨2, List.map AB y⟩)], true⟩)
set_option maxHeartbeats 64000000 in
attribute [local go_sem] Lv Ln Lj Tn JZ JX JV Hy Hw Gw Gv Gu It Is Hf He Hd KV KT IX IW IV in
theorem DW (n_ : Nat) {i : Int} {sgm_ : (List AA) × Int} {rho_ : (List AA)} (h : AJ (Bb i) sgm_ = some rho_) : ∃ L0, ∀ L, L0 ≤ L → Cg (BD (Aa (Up n_)) L Tn) JZ JX JV L (Ln i sgm_) = Lj i rho_ := by
 refine BJ (E := Ln i) (R := Lj i) (fun y => by first | (intro c; cases c) | (rcases y with y | y <;> (intro c; cases c)) | (rcases y with y | y | y <;> (intro c; cases c))) ?_ h
 clear h
 rintro ⟨data, k⟩ o_ h
 dsimp only [Bb] at h
 rcases AF h with ⟨z23, h⟩ | ⟨z23, h⟩
 ·try simp only [go_sem, n1, n2, n3, n4] at z23
  all_goals
  obtain ⟨z24, h⟩ := AD h
  have lz24 := BT z24
  have xz24 := AR AB data lz24
  try simp only [go_sem] at lz24
  try simp only [go_sem] at xz24
  try simp only [go_sem, n1, n2, n3, n4, z23] at z24
  all_goals
  obtain ⟨z25, h⟩ := AD h
  have lz25 := BT z25
  have xz25 := AR AB data lz25
  try simp only [go_sem] at lz25
  try simp only [go_sem] at xz25
  try simp only [go_sem, n1, n2, n3, n4, z23, z24] at z25
  all_goals
  have xz26 := (by rw [← List.map_set]; exact AR AB (data.set k.toNat (data.getD (IntKind.i64.wrap (k - 1)).toNat default)) (by first | (rw [List.length_set]; exact lz24) | (simp; omega)) : ((List.map AB data).set k.toNat (AB (data.getD (IntKind.i64.wrap (k - 1)).toNat default))).getD ((IntKind.i64.wrap (k - 1)).toNat) .any = AB ((data.set k.toNat (data.getD (IntKind.i64.wrap (k - 1)).toNat default)).getD ((IntKind.i64.wrap (k - 1)).toNat) default))
  try simp only [go_sem] at xz26
  obtain rfl := AC h
  refine ⟨0, fun L hL => ?_⟩
  simp only [go_sem, z23, z24, lz24, xz24, z25, lz25, xz25, xz26]
 ·try simp only [go_sem, n1, n2, n3, n4] at z23
  all_goals
  obtain rfl := AC h
  refine ⟨0, fun L hL => ?_⟩
  simp only [go_sem, z23]
def Ot (data : List AA) (a : Int) (m : Int) (b : Int) (mid : Int) (n : Int) (p : Int) : (Int × Int) → St
 | (start, r) => ⟨[.own 31, .int .i64 a, .int .i64 m, .int .i64 b, .fn (.func 75) [] [], .any, .any, .any, .any, .any, .any, .any, .any, .int .i64 mid, .int .i64 n, .int .i64 start, .int .i64 r, .int .i64 p, .any, .any], [], [(31, ⟨2, List.map AB data⟩)], true⟩
def Oh (data : List AA) (a : Int) (m : Int) (b : Int) (mid : Int) (n : Int) (p : Int) (y : Int) : FT := (.exit 8, ⟨[.own 31, .int .i64 a, .int .i64 m, .int .i64 b, .fn (.func 75) [] [], .any, .any, .any, .any, .any, .any, .any, .any, .int .i64 mid, .int .i64 n, .int .i64 y, .any, .any, .any, .any], [], [(31, ⟨2, List.map AB data⟩)], true⟩)
set_option maxHeartbeats 64000000 in
attribute [local go_sem] Lv Ot Oh Kq JY JW JU Hy Hw Gw Gv Gu It Is Hf He Hd KV KT IX IW IV Ln Lj JZ JX JV in
theorem DV (n_ : Nat) {data : List AA} {a : Int} {m : Int} {b : Int} {mid : Int} {n : Int} {p : Int} {sgm_ : Int × Int} {rho_ : Int} (h : AJ (Ba data a m b mid n p) sgm_ = some rho_) : ∃ L0, ∀ L, L0 ≤ L → Cg (BD (Aa (Up n_)) L Kq) JY JW JU L (Ot data a m b mid n p sgm_) = Oh data a m b mid n p rho_ := by
 refine BJ (E := Ot data a m b mid n p) (R := Oh data a m b mid n p) (fun y => by first | (intro c; cases c) | (rcases y with y | y <;> (intro c; cases c)) | (rcases y with y | y | y <;> (intro c; cases c))) ?_ h
 clear h
 rintro ⟨start, r⟩ o_ h
 dsimp only [Ba] at h
 rcases AF h with ⟨z31, h⟩ | ⟨z31, h⟩
 ·try simp only [go_sem, n1, n2, n3, n4] at z31
  all_goals
  obtain ⟨z32, h⟩ := AD h
  try simp only [go_sem, n1, n2, n3, n4, z31] at z32
  all_goals
  obtain ⟨z33, h⟩ := AD h
  have lz33 := BT z33
  have xz33 := AR AB data lz33
  try simp only [go_sem] at lz33
  try simp only [go_sem] at xz33
  try simp only [go_sem, n1, n2, n3, n4, z31, z32] at z33
  all_goals
  obtain ⟨z34, h⟩ := AD h
  have lz34 := BT z34
  have xz34 := AR AB data lz34
  try simp only [go_sem] at lz34
  try simp only [go_sem] at xz34
  try simp only [go_sem, n1, n2, n3, n4, z31, z32, z33] at z34
  all_goals
  obtain ⟨y_35, z35, h⟩ := AE h
  have fz35 := ZR z35
  try simp only [go_sem, z31, z32, z33, z34] at fz35
  rcases AF h with ⟨z36, h⟩ | ⟨z36, h⟩
  all_goals
  try simp only [go_sem, n1, n2, n3, n4, z31, z32, z33, z34] at z36
  all_goals
  obtain rfl := AC h
  refine ⟨0, fun L hL => ?_⟩
  simp only [go_sem, z31, z32, z33, lz33, xz33, z34, lz34, xz34, fz35, z36]
 ·try simp only [go_sem, n1, n2, n3, n4] at z31
  all_goals
  obtain rfl := AC h
  refine ⟨0, fun L hL => ?_⟩
  simp only [go_sem, z31]
def TF (data : List AA) (a : Int) (m : Int) (b : Int) (mid : Int) (n : Int) (p : Int) : (Int × Int) → St
 | (start, r) => ⟨[.own 31, .int .i64 a, .int .i64 m, .int .i64 b, .fn (.func 75) [] [], .any, .any, .any, .any, .any, .any, .any, .any, .int .i64 mid, .int .i64 n, .int .i64 start, .int .i64 r, .int .i64 p, .any, .any], [], [(31, ⟨2, List.map AB data⟩)], true⟩
def Sa (data : List AA) (a : Int) (m : Int) (b : Int) (mid : Int) (n : Int) (p : Int) (y : Int) : FT := (.exit 8, ⟨[.own 31, .int .i64 a, .int .i64 m, .int .i64 b, .fn (.func 75) [] [], .any, .any, .any, .any, .any, .any, .any, .any, .int .i64 mid, .int .i64 n, .int .i64 y, .any, .any, .any, .any], [], [(31, ⟨2, List.map AB data⟩)], true⟩)
set_option maxHeartbeats 64000000 in
attribute [local go_sem] Lv TF Sa Kq JY JW JU Hy Hw Gw Gv Gu It Is Hf He Hd KV KT IX IW IV Ln Lj JZ JX JV Ot Oh in
theorem DU (n_ : Nat) {data : List AA} {a : Int} {m : Int} {b : Int} {mid : Int} {n : Int} {p : Int} {sgm_ : Int × Int} {rho_ : Int} (h : AJ (BZ data a m b mid n p) sgm_ = some rho_) : ∃ L0, ∀ L, L0 ≤ L → Cg (BD (Aa (Up n_)) L Kq) JY JW JU L (TF data a m b mid n p sgm_) = Sa data a m b mid n p rho_ := by
 refine BJ (E := TF data a m b mid n p) (R := Sa data a m b mid n p) (fun y => by first | (intro c; cases c) | (rcases y with y | y <;> (intro c; cases c)) | (rcases y with y | y | y <;> (intro c; cases c))) ?_ h
 clear h
 rintro ⟨start, r⟩ o_ h
 dsimp only [BZ] at h
 rcases AF h with ⟨z59, h⟩ | ⟨z59, h⟩
 ·try simp only [go_sem, n1, n2, n3, n4] at z59
  all_goals
  obtain ⟨z60, h⟩ := AD h
  try simp only [go_sem, n1, n2, n3, n4, z59] at z60
  all_goals
  obtain ⟨z61, h⟩ := AD h
  have lz61 := BT z61
  have xz61 := AR AB data lz61
  try simp only [go_sem] at lz61
  try simp only [go_sem] at xz61
  try simp only [go_sem, n1, n2, n3, n4, z59, z60] at z61
  all_goals
  obtain ⟨z62, h⟩ := AD h
  have lz62 := BT z62
  have xz62 := AR AB data lz62
  try simp only [go_sem] at lz62
  try simp only [go_sem] at xz62
  try simp only [go_sem, n1, n2, n3, n4, z59, z60, z61] at z62
  all_goals
  obtain ⟨y_63, z63, h⟩ := AE h
  have fz63 := ZR z63
  try simp only [go_sem, z59, z60, z61, z62] at fz63
  rcases AF h with ⟨z64, h⟩ | ⟨z64, h⟩
  all_goals
  try simp only [go_sem, n1, n2, n3, n4, z59, z60, z61, z62] at z64
  all_goals
  obtain rfl := AC h
  refine ⟨0, fun L hL => ?_⟩
  simp only [go_sem, z59, z60, z61, lz61, xz61, z62, lz62, xz62, fz63, z64]
 ·try simp only [go_sem, n1, n2, n3, n4] at z59
  all_goals
  obtain rfl := AC h
  refine ⟨0, fun L hL => ?_⟩
  simp only [go_sem, z59]
set_option maxHeartbeats 64000000 in
attribute [local go_sem] Hy Hw Gw Gv Gu It Is Hf He Hd KV KT IX IW IV Ln Lj JZ JX JV Ot Oh JY JW JU TF Sa Lv in
theorem Do : ∀ (n_ : Nat) {data : List AA} {a : Int} {m : Int} {b : Int} {y_ : (List AA)} (h : AG n_ data a m b = some y_), (AU n_).F [.fresh 2 (List.map AB data), .int .i64 a, .int .i64 m, .int .i64 b, .fn (.func 75) [] []] = ⟨true, .cv undef, [.fresh 2 (List.map AB y_), .any, .any, .any, .any]⟩ := by
 intro n_
 induction n_ with
 | zero => intro data a m b y_ h; cases h
 | succ n_ ih_ =>
 intro data a m b y_ h
 rw [Dn]
 refine Ho ?_
 dsimp only [AG] at h
 rcases AF h with ⟨z1, h⟩ | ⟨z1, h⟩
 ·try simp only [go_sem, n1, n2, n3, n4] at z1
  all_goals
  obtain ⟨y_8, z8, h⟩ := AE h
  obtain ⟨Lz8, ez8⟩ := DZ n_ z8
  obtain ⟨y_13, z13, h⟩ := AE h
  obtain ⟨Lz13, ez13⟩ := DY n_ z13
  obtain ⟨z14, h⟩ := AD h
  try simp only [go_sem, n1, n2, n3, n4, z1] at z14
  all_goals
  obtain rfl := AC h
  refine ⟨Lz8 + Lz13, fun L hL => ?_⟩
  have ez8 := ez8 L (by omega)
  have ez13 := ez13 L (by omega)
  try simp only [go_sem, z1, z14] at ez8
  try simp only [go_sem, z1, z14] at ez13
  simp only [go_sem, z1, z14, ez8, ez13]
 ·try simp only [go_sem, n1, n2, n3, n4] at z1
  all_goals
  rcases AF h with ⟨z15, h⟩ | ⟨z15, h⟩
  ·try simp only [go_sem, n1, n2, n3, n4, z1] at z15
   all_goals
   obtain ⟨y_22, z22, h⟩ := AE h
   obtain ⟨Lz22, ez22⟩ := DX n_ z22
   obtain ⟨y_27, z27, h⟩ := AE h
   obtain ⟨Lz27, ez27⟩ := DW n_ z27
   obtain ⟨z28, h⟩ := AD h
   try simp only [go_sem, n1, n2, n3, n4, z1, z15] at z28
   all_goals
   obtain rfl := AC h
   refine ⟨Lz22 + Lz27, fun L hL => ?_⟩
   have ez22 := ez22 L (by omega)
   have ez27 := ez27 L (by omega)
   try simp only [go_sem, z1, z15, z28] at ez22
   try simp only [go_sem, z1, z15, z28] at ez27
   simp only [go_sem, z1, z15, z28, ez22, ez27]
  ·try simp only [go_sem, n1, n2, n3, n4, z1] at z15
   all_goals
   obtain ⟨z29, h⟩ := AD h
   try simp only [go_sem, n1, n2, n3, n4, z1, z15] at z29
   all_goals
   rcases AF h with ⟨z30, h⟩ | ⟨z30, h⟩
   ·try simp only [go_sem, n1, n2, n3, n4, z1, z15, z29] at z30
    all_goals
    obtain ⟨y_37, z37, h⟩ := AE h
    obtain ⟨Lz37, ez37⟩ := DV n_ z37
    rcases AF h with ⟨z38, h⟩ | ⟨z38, h⟩
    ·try simp only [go_sem, n1, n2, n3, n4, z1, z15, z29, z30] at z38
     all_goals
     obtain ⟨y_39, z39, h⟩ := AE h
     have fz39 := oj z39
     try simp only [go_sem, z1, z15, z29, z30, z38] at fz39
     rcases AF h with ⟨z40, h⟩ | ⟨z40, h⟩
     ·try simp only [go_sem, n1, n2, n3, n4, z1, z15, z29, z30, z38] at z40
      all_goals
      obtain ⟨y_41, z41, h⟩ := AE h
      have fz41 := ih_ z41
      try simp only [go_sem, z1, z15, z29, z30, z38, z40] at fz41
      rcases AF h with ⟨z42, h⟩ | ⟨z42, h⟩
      ·try simp only [go_sem, n1, n2, n3, n4, z1, z15, z29, z30, z38, z40] at z42
       all_goals
       obtain ⟨y_43, z43, h⟩ := AE h
       have fz43 := ih_ z43
       try simp only [go_sem, z1, z15, z29, z30, z38, z40, z42] at fz43
       obtain ⟨z44, h⟩ := AD h
       try simp only [go_sem, n1, n2, n3, n4, z1, z15, z29, z30, z38, z40, z42] at z44
       all_goals
       obtain rfl := AC h
       refine ⟨Lz37, fun L hL => ?_⟩
       have ez37 := ez37 L (by omega)
       try simp only [go_sem, z1, z15, z29, z30, z38, z40, z42, z44] at ez37
       simp only [go_sem, z1, z15, z29, z30, z38, fz39, z40, fz41, z42, fz43, z44, ez37]
      ·try simp only [go_sem, n1, n2, n3, n4, z1, z15, z29, z30, z38, z40] at z42
       all_goals
       obtain ⟨z45, h⟩ := AD h
       try simp only [go_sem, n1, n2, n3, n4, z1, z15, z29, z30, z38, z40, z42] at z45
       all_goals
       obtain rfl := AC h
       refine ⟨Lz37, fun L hL => ?_⟩
       have ez37 := ez37 L (by omega)
       try simp only [go_sem, z1, z15, z29, z30, z38, z40, z42, z45] at ez37
       simp only [go_sem, z1, z15, z29, z30, z38, fz39, z40, fz41, z42, z45, ez37]
     ·try simp only [go_sem, n1, n2, n3, n4, z1, z15, z29, z30, z38] at z40
      all_goals
      rcases AF h with ⟨z46, h⟩ | ⟨z46, h⟩
      ·try simp only [go_sem, n1, n2, n3, n4, z1, z15, z29, z30, z38, z40] at z46
       all_goals
       obtain ⟨y_47, z47, h⟩ := AE h
       have fz47 := ih_ z47
       try simp only [go_sem, z1, z15, z29, z30, z38, z40, z46] at fz47
       obtain ⟨z48, h⟩ := AD h
       try simp only [go_sem, n1, n2, n3, n4, z1, z15, z29, z30, z38, z40, z46] at z48
       all_goals
       obtain rfl := AC h
       refine ⟨Lz37, fun L hL => ?_⟩
       have ez37 := ez37 L (by omega)
       try simp only [go_sem, z1, z15, z29, z30, z38, z40, z46, z48] at ez37
       simp only [go_sem, z1, z15, z29, z30, z38, fz39, z40, z46, fz47, z48, ez37]
      ·try simp only [go_sem, n1, n2, n3, n4, z1, z15, z29, z30, z38, z40] at z46
       all_goals
       obtain ⟨z49, h⟩ := AD h
       try simp only [go_sem, n1, n2, n3, n4, z1, z15, z29, z30, z38, z40, z46] at z49
       all_goals
       obtain rfl := AC h
       refine ⟨Lz37, fun L hL => ?_⟩
       have ez37 := ez37 L (by omega)
       try simp only [go_sem, z1, z15, z29, z30, z38, z40, z46, z49] at ez37
       simp only [go_sem, z1, z15, z29, z30, z38, fz39, z40, z46, z49, ez37]
    ·try simp only [go_sem, n1, n2, n3, n4, z1, z15, z29, z30] at z38
     all_goals
     rcases AF h with ⟨z50, h⟩ | ⟨z50, h⟩
     ·try simp only [go_sem, n1, n2, n3, n4, z1, z15, z29, z30, z38] at z50
      all_goals
      obtain ⟨y_51, z51, h⟩ := AE h
      have fz51 := ih_ z51
      try simp only [go_sem, z1, z15, z29, z30, z38, z50] at fz51
      rcases AF h with ⟨z52, h⟩ | ⟨z52, h⟩
      ·try simp only [go_sem, n1, n2, n3, n4, z1, z15, z29, z30, z38, z50] at z52
       all_goals
       obtain ⟨y_53, z53, h⟩ := AE h
       have fz53 := ih_ z53
       try simp only [go_sem, z1, z15, z29, z30, z38, z50, z52] at fz53
       obtain ⟨z54, h⟩ := AD h
       try simp only [go_sem, n1, n2, n3, n4, z1, z15, z29, z30, z38, z50, z52] at z54
       all_goals
       obtain rfl := AC h
       refine ⟨Lz37, fun L hL => ?_⟩
       have ez37 := ez37 L (by omega)
       try simp only [go_sem, z1, z15, z29, z30, z38, z50, z52, z54] at ez37
       simp only [go_sem, z1, z15, z29, z30, z38, z50, fz51, z52, fz53, z54, ez37]
      ·try simp only [go_sem, n1, n2, n3, n4, z1, z15, z29, z30, z38, z50] at z52
       all_goals
       obtain ⟨z55, h⟩ := AD h
       try simp only [go_sem, n1, n2, n3, n4, z1, z15, z29, z30, z38, z50, z52] at z55
       all_goals
       obtain rfl := AC h
       refine ⟨Lz37, fun L hL => ?_⟩
       have ez37 := ez37 L (by omega)
       try simp only [go_sem, z1, z15, z29, z30, z38, z50, z52, z55] at ez37
       simp only [go_sem, z1, z15, z29, z30, z38, z50, fz51, z52, z55, ez37]
     ·try simp only [go_sem, n1, n2, n3, n4, z1, z15, z29, z30, z38] at z50
      all_goals
      rcases AF h with ⟨z56, h⟩ | ⟨z56, h⟩
      ·try simp only [go_sem, n1, n2, n3, n4, z1, z15, z29, z30, z38, z50] at z56
       all_goals
       obtain ⟨y_57, z57, h⟩ := AE h
       have fz57 := ih_ z57
       try simp only [go_sem, z1, z15, z29, z30, z38, z50, z56] at fz57
       obtain ⟨z58, h⟩ := AD h
       try simp only [go_sem, n1, n2, n3, n4, z1, z15, z29, z30, z38, z50, z56] at z58
       all_goals
       obtain rfl := AC h
       refine ⟨Lz37, fun L hL => ?_⟩
       have ez37 := ez37 L (by omega)
       try simp only [go_sem, z1, z15, z29, z30, z38, z50, z56, z58] at ez37
       simp only [go_sem, z1, z15, z29, z30, z38, z50, z56, fz57, z58, ez37]
      ·try simp only [go_sem, n1, n2, n3, n4, z1, z15, z29, z30, z38, z50] at z56
       all_goals
       obtain rfl := AC h
       refine ⟨Lz37, fun L hL => ?_⟩
       have ez37 := ez37 L (by omega)
       try simp only [go_sem, z1, z15, z29, z30, z38, z50, z56] at ez37
       simp only [go_sem, z1, z15, z29, z30, z38, z50, z56, ez37]
   ·try simp only [go_sem, n1, n2, n3, n4, z1, z15, z29] at z30
    all_goals
    obtain ⟨y_65, z65, h⟩ := AE h
    obtain ⟨Lz65, ez65⟩ := DU n_ z65
    rcases AF h with ⟨z66, h⟩ | ⟨z66, h⟩
    ·try simp only [go_sem, n1, n2, n3, n4, z1, z15, z29, z30] at z66
     all_goals
     obtain ⟨y_67, z67, h⟩ := AE h
     have fz67 := oj z67
     try simp only [go_sem, z1, z15, z29, z30, z66] at fz67
     rcases AF h with ⟨z68, h⟩ | ⟨z68, h⟩
     ·try simp only [go_sem, n1, n2, n3, n4, z1, z15, z29, z30, z66] at z68
      all_goals
      obtain ⟨y_69, z69, h⟩ := AE h
      have fz69 := ih_ z69
      try simp only [go_sem, z1, z15, z29, z30, z66, z68] at fz69
      rcases AF h with ⟨z70, h⟩ | ⟨z70, h⟩
      ·try simp only [go_sem, n1, n2, n3, n4, z1, z15, z29, z30, z66, z68] at z70
       all_goals
       obtain ⟨y_71, z71, h⟩ := AE h
       have fz71 := ih_ z71
       try simp only [go_sem, z1, z15, z29, z30, z66, z68, z70] at fz71
       obtain ⟨z72, h⟩ := AD h
       try simp only [go_sem, n1, n2, n3, n4, z1, z15, z29, z30, z66, z68, z70] at z72
       all_goals
       obtain rfl := AC h
       refine ⟨Lz65, fun L hL => ?_⟩
       have ez65 := ez65 L (by omega)
       try simp only [go_sem, z1, z15, z29, z30, z66, z68, z70, z72] at ez65
       simp only [go_sem, z1, z15, z29, z30, z66, fz67, z68, fz69, z70, fz71, z72, ez65]
      ·try simp only [go_sem, n1, n2, n3, n4, z1, z15, z29, z30, z66, z68] at z70
       all_goals
       obtain ⟨z73, h⟩ := AD h
       try simp only [go_sem, n1, n2, n3, n4, z1, z15, z29, z30, z66, z68, z70] at z73
       all_goals
       obtain rfl := AC h
       refine ⟨Lz65, fun L hL => ?_⟩
       have ez65 := ez65 L (by omega)
       try simp only [go_sem, z1, z15, z29, z30, z66, z68, z70, z73] at ez65
       simp only [go_sem, z1, z15, z29, z30, z66, fz67, z68, fz69, z70, z73, ez65]
     ·try simp only [go_sem, n1, n2, n3, n4, z1, z15, z29, z30, z66] at z68
      all_goals
      rcases AF h with ⟨z74, h⟩ | ⟨z74, h⟩
      ·try simp only [go_sem, n1, n2, n3, n4, z1, z15, z29, z30, z66, z68] at z74
       all_goals
       obtain ⟨y_75, z75, h⟩ := AE h
       have fz75 := ih_ z75
       try simp only [go_sem, z1, z15, z29, z30, z66, z68, z74] at fz75
       obtain ⟨z76, h⟩ := AD h
       try simp only [go_sem, n1, n2, n3, n4, z1, z15, z29, z30, z66, z68, z74] at z76
       all_goals
       obtain rfl := AC h
       refine ⟨Lz65, fun L hL => ?_⟩
       have ez65 := ez65 L (by omega)
       try simp only [go_sem, z1, z15, z29, z30, z66, z68, z74, z76] at ez65
       simp only [go_sem, z1, z15, z29, z30, z66, fz67, z68, z74, fz75, z76, ez65]
      ·try simp only [go_sem, n1, n2, n3, n4, z1, z15, z29, z30, z66, z68] at z74
       all_goals
       obtain ⟨z77, h⟩ := AD h
       try simp only [go_sem, n1, n2, n3, n4, z1, z15, z29, z30, z66, z68, z74] at z77
       all_goals
       obtain rfl := AC h
       refine ⟨Lz65, fun L hL => ?_⟩
       have ez65 := ez65 L (by omega)
       try simp only [go_sem, z1, z15, z29, z30, z66, z68, z74, z77] at ez65
       simp only [go_sem, z1, z15, z29, z30, z66, fz67, z68, z74, z77, ez65]
    ·try simp only [go_sem, n1, n2, n3, n4, z1, z15, z29, z30] at z66
     all_goals
     rcases AF h with ⟨z78, h⟩ | ⟨z78, h⟩
     ·try simp only [go_sem, n1, n2, n3, n4, z1, z15, z29, z30, z66] at z78
      all_goals
      obtain ⟨y_79, z79, h⟩ := AE h
      have fz79 := ih_ z79
      try simp only [go_sem, z1, z15, z29, z30, z66, z78] at fz79
      rcases AF h with ⟨z80, h⟩ | ⟨z80, h⟩
      ·try simp only [go_sem, n1, n2, n3, n4, z1, z15, z29, z30, z66, z78] at z80
       all_goals
       obtain ⟨y_81, z81, h⟩ := AE h
       have fz81 := ih_ z81
       try simp only [go_sem, z1, z15, z29, z30, z66, z78, z80] at fz81
       obtain ⟨z82, h⟩ := AD h
       try simp only [go_sem, n1, n2, n3, n4, z1, z15, z29, z30, z66, z78, z80] at z82
       all_goals
       obtain rfl := AC h
       refine ⟨Lz65, fun L hL => ?_⟩
       have ez65 := ez65 L (by omega)
       try simp only [go_sem, z1, z15, z29, z30, z66, z78, z80, z82] at ez65
       simp only [go_sem, z1, z15, z29, z30, z66, z78, fz79, z80, fz81, z82, ez65]
      ·try simp only [go_sem, n1, n2, n3, n4, z1, z15, z29, z30, z66, z78] at z80
       all_goals
       obtain ⟨z83, h⟩ := AD h
       try simp only [go_sem, n1, n2, n3, n4, z1, z15, z29, z30, z66, z78, z80] at z83
       all_goals
       obtain rfl := AC h
       refine ⟨Lz65, fun L hL => ?_⟩
       have ez65 := ez65 L (by omega)
       try simp only [go_sem, z1, z15, z29, z30, z66, z78, z80, z83] at ez65
       simp only [go_sem, z1, z15, z29, z30, z66, z78, fz79, z80, z83, ez65]
     ·try simp only [go_sem, n1, n2, n3, n4, z1, z15, z29, z30, z66] at z78
      all_goals
      rcases AF h with ⟨z84, h⟩ | ⟨z84, h⟩
      ·try simp only [go_sem, n1, n2, n3, n4, z1, z15, z29, z30, z66, z78] at z84
       all_goals
       obtain ⟨y_85, z85, h⟩ := AE h
       have fz85 := ih_ z85
       try simp only [go_sem, z1, z15, z29, z30, z66, z78, z84] at fz85
       obtain ⟨z86, h⟩ := AD h
       try simp only [go_sem, n1, n2, n3, n4, z1, z15, z29, z30, z66, z78, z84] at z86
       all_goals
       obtain rfl := AC h
       refine ⟨Lz65, fun L hL => ?_⟩
       have ez65 := ez65 L (by omega)
       try simp only [go_sem, z1, z15, z29, z30, z66, z78, z84, z86] at ez65
       simp only [go_sem, z1, z15, z29, z30, z66, z78, z84, fz85, z86, ez65]
      ·try simp only [go_sem, n1, n2, n3, n4, z1, z15, z29, z30, z66, z78] at z84
       all_goals
       obtain rfl := AC h
       refine ⟨Lz65, fun L hL => ?_⟩
       have ez65 := ez65 L (by omega)
       try simp only [go_sem, z1, z15, z29, z30, z66, z78, z84] at ez65
       simp only [go_sem, z1, z15, z29, z30, z66, z78, z84, ez65]
set_option maxHeartbeats 64000000 in
theorem oi {data : List AA} {a : Int} {m : Int} {b : Int} {y_ : (List AA)} (h : BG data a m b = some y_) : eg.F [.fresh 2 (List.map AB data), .int .i64 a, .int .i64 m, .int .i64 b, .fn (.func 75) [] []] = ⟨true, .cv undef, [.fresh 2 (List.map AB y_), .any, .any, .any, .any]⟩ := Do 64 h
def Tw : IR := .seq (.test false [ PM 11 5, PM 12 1, PO 13 (.bin false .leq (.s 1) (.s 0))] (.s 0) (.skip) (.exit 0)) (.block 1 (.seq (.region false [ PM 14 0, PM 15 4, PM 16 5, PM 17 2, PO 18 (.call 116 [(.s 3), (.s 2), (.s 1), (.s 0)])]) (.seq (.region false [ PM 19 5, VS 4 7 0]) (.region false [ PM 20 5, PM 21 3, PO 22 (.bin false .add (.s 1) (.s 0)), VS 5 8 0]))))
def Jc : List Bool := [true, true, true, true, true, true, false]
def Jb : List Bool := [true, true, true, true, true, false, false]
def Ja : List Bool := [true, false, false, false, false, false, false]
def Tu : IR := .seq (.test false [ PM 33 5, PM 34 1, PO 35 (.bin false .leq (.s 1) (.s 0))] (.s 0) (.skip) (.exit 4)) (.block 5 (.seq (.region false [ PM 36 0, PM 37 4, PM 38 4, PM 39 3, PO 40 (.bin false .add (.s 1) (.s 0)), PM 41 5, PM 42 2, PO 43 (.call 117 [(.s 6), (.s 5), (.s 2), (.s 1), (.s 0)])]) (.seq (.region false [ PM 44 5, VS 4 7 0]) (.region false [ PM 45 5, PM 46 3, PO 47 (.bin false .mul (I6 2) (.s 0)), PO 48 (.bin false .add (.s 2) (.s 0)), VS 5 8 0]))))
def Kw : List Bool := [true, true, true, true, true, true, false]
def Kv : List Bool := [true, true, true, true, true, false, false]
def Ku : List Bool := [true, false, false, false, false, false, false]
def Tv : IR := .seq (.test false [ PM 28 3, PM 29 1, PO 30 (.bin false .lss (.s 1) (.s 0))] (.s 0) (.skip) (.exit 2)) (.block 3 (.seq (.region false [ PM 31 3, PO 32 (.bin false .mul (I6 2) (.s 0)), VO 4 7 (.mov (I6 0)), VS 5 8 0]) (.seq (.block 4 (.loop Kw Kv Ku Tu)) (.seq (.seq (.region false [ PM 49 4, PM 50 3, PO 51 (.bin false .add (.s 1) (.s 0)), VS 6 9 0]) (.test false [ PM 52 6, PM 53 1, PO 54 (.bin false .lss (.s 1) (.s 0))] (.s 0) (.region false [ PM 55 0, PM 56 4, PM 57 6, PM 58 1, PM 59 2, PO 60 (.call 117 [(.s 4), (.s 3), (.s 2), (.s 1), (.s 0)])])
 (.skip))) (.region false [ PM 61 3, PO 62 (.bin false .mul (.s 0) (I6 2)), VS 3 6 0])))))
def OJ : List Bool := [true, true, true, true, false, false, false]
def OI : List Bool := [true, false, false, false, false, false, false]
def OH : List Bool := [true, false, false, false, false, false, false]
def nN : List Nat := [0, 1, 2, 6, 7, 8, 9]
def VX : EL := ⟨3, 7, .seq (.region false [ VO 3 6 (.mov (I6 20))]) (.seq (.region false [ PM 10 3, VO 4 7 (.mov (I6 0)), VS 5 8 0]) (.seq (.block 0 (.loop Jc Jb Ja Tw)) (.seq (.region false [ PM 23 0, PM 24 4, PM 25 1, PM 26 2, PO 27 (.call 116 [(.s 3), (.s 2), (.s 1), (.s 0)])]) (.block 2 (.loop OJ OI OH Tv))))), []⟩
noncomputable def cM : List (Nat × Bf) := [(116, ei), (117, eg)]
theorem cz : Aa cM 116 = some ei := rfl
theorem cy : Aa cM 117 = some eg := rfl
noncomputable def ee : Bf := VP cM VX [.io, .bor, .bor]
theorem s_25 : Ad Tryz.prog 102 ee := DF _ (AI s_21 (AI s_24 Ab)) (by kernel_rfl : BF Tryz.prog 102 VX nN = true)
theorem M_25 : ee.modes = [.io, .bor, .bor] := rfl
theorem wU : ee.flat = false := rfl
attribute [go_sem] M_25 wU cz cy
def Lm (n : Int) (blockSize : Int) : ((List AA) × Int × Int) → St
 | (data, a, b) => ⟨[.own 31, .int .i64 n, .fn (.func 75) [] [], .int .i64 blockSize, .int .i64 a, .int .i64 b, .any], [], [(31, ⟨2, List.map AB data⟩)], true⟩
def Li (n : Int) (blockSize : Int) (y : (List AA) × Int) : FT := (.exit 0, ⟨[.own 31, .int .i64 n, .fn (.func 75) [] [], .int .i64 blockSize, .int .i64 y.2, .any, .any], [], [(31, ⟨2, List.map AB y.1⟩)], true⟩)
set_option maxHeartbeats 64000000 in
attribute [local go_sem] VX Lm Li Tw Jc Jb Ja in
theorem Dl {n : Int} {blockSize : Int} {sgm_ : (List AA) × Int × Int} {rho_ : (List AA) × Int} (h : AJ (Bg n blockSize) sgm_ = some rho_) : ∃ L0, ∀ L, L0 ≤ L → Cg (BD (Aa cM) L Tw) Jc Jb Ja L (Lm n blockSize sgm_) = Li n blockSize rho_ := by
 refine BJ (E := Lm n blockSize) (R := Li n blockSize) (fun y => by first | (intro c; cases c) | (rcases y with y | y <;> (intro c; cases c)) | (rcases y with y | y | y <;> (intro c; cases c))) ?_ h
 clear h
 rintro ⟨data, a, b⟩ o_ h
 dsimp only [Bg] at h
 rcases AF h with ⟨z1, h⟩ | ⟨z1, h⟩
 ·try simp only [go_sem, n1, n2, n3, n4] at z1
  all_goals
  obtain ⟨y_2, z2, h⟩ := AE h
  have fz2 := ol z2
  try simp only [go_sem, z1] at fz2
  obtain rfl := AC h
  refine ⟨0, fun L hL => ?_⟩
  simp only [go_sem, z1, fz2]
 ·try simp only [go_sem, n1, n2, n3, n4] at z1
  all_goals
  obtain rfl := AC h
  refine ⟨0, fun L hL => ?_⟩
  simp only [go_sem, z1]
def Oq (n : Int) (blockSize : Int) : ((List AA) × Int × Int) → St
 | (data, a, b) => ⟨[.own 31, .int .i64 n, .fn (.func 75) [] [], .int .i64 blockSize, .int .i64 a, .int .i64 b, .any], [], [(31, ⟨2, List.map AB data⟩)], true⟩
def Og (n : Int) (blockSize : Int) (y : (List AA) × Int) : FT := (.exit 4, ⟨[.own 31, .int .i64 n, .fn (.func 75) [] [], .int .i64 blockSize, .int .i64 y.2, .any, .any], [], [(31, ⟨2, List.map AB y.1⟩)], true⟩)
set_option maxHeartbeats 64000000 in
attribute [local go_sem] VX Oq Og Tu Kw Kv Ku Lm Li Jc Jb Ja in
theorem Dj {n : Int} {blockSize : Int} {sgm_ : (List AA) × Int × Int} {rho_ : (List AA) × Int} (h : AJ (Am n blockSize) sgm_ = some rho_) : ∃ L0, ∀ L, L0 ≤ L → Cg (BD (Aa cM) L Tu) Kw Kv Ku L (Oq n blockSize sgm_) = Og n blockSize rho_ := by
 refine BJ (E := Oq n blockSize) (R := Og n blockSize) (fun y => by first | (intro c; cases c) | (rcases y with y | y <;> (intro c; cases c)) | (rcases y with y | y | y <;> (intro c; cases c))) ?_ h
 clear h
 rintro ⟨data, a, b⟩ o_ h
 dsimp only [Am] at h
 rcases AF h with ⟨z6, h⟩ | ⟨z6, h⟩
 ·try simp only [go_sem, n1, n2, n3, n4] at z6
  all_goals
  obtain ⟨y_7, z7, h⟩ := AE h
  have fz7 := oi z7
  try simp only [go_sem, z6] at fz7
  obtain rfl := AC h
  refine ⟨0, fun L hL => ?_⟩
  simp only [go_sem, z6, fz7]
 ·try simp only [go_sem, n1, n2, n3, n4] at z6
  all_goals
  obtain rfl := AC h
  refine ⟨0, fun L hL => ?_⟩
  simp only [go_sem, z6]
def TE (n : Int) : ((List AA) × Int) → St
 | (data, blockSize) => ⟨[.own 31, .int .i64 n, .fn (.func 75) [] [], .int .i64 blockSize, .any, .any, .any], [], [(31, ⟨2, List.map AB data⟩)], true⟩
def SZ (n : Int) (y : (List AA)) : FT := (.exit 2, ⟨[.own 31, .any, .any, .any, .any, .any, .any], [], [(31, ⟨2, List.map AB y⟩)], true⟩)
set_option maxHeartbeats 64000000 in
attribute [local go_sem] TE SZ Tv OJ OI OH Lm Li Jc Jb Ja Oq Og Kw Kv Ku VX in
theorem Dk {n : Int} {sgm_ : (List AA) × Int} {rho_ : (List AA)} (h : AJ (Ao n) sgm_ = some rho_) : ∃ L0, ∀ L, L0 ≤ L → Cg (BD (Aa cM) L Tv) OJ OI OH L (TE n sgm_) = SZ n rho_ := by
 refine BJ (E := TE n) (R := SZ n) (fun y => by first | (intro c; cases c) | (rcases y with y | y <;> (intro c; cases c)) | (rcases y with y | y | y <;> (intro c; cases c))) ?_ h
 clear h
 rintro ⟨data, blockSize⟩ o_ h
 dsimp only [Ao] at h
 rcases AF h with ⟨z5, h⟩ | ⟨z5, h⟩
 ·try simp only [go_sem, n1, n2, n3, n4] at z5
  all_goals
  obtain ⟨y_8, z8, h⟩ := AE h
  obtain ⟨Lz8, ez8⟩ := Dj z8
  rcases AF h with ⟨z9, h⟩ | ⟨z9, h⟩
  ·try simp only [go_sem, n1, n2, n3, n4, z5] at z9
   all_goals
   obtain ⟨y_10, z10, h⟩ := AE h
   have fz10 := oi z10
   try simp only [go_sem, z5, z9] at fz10
   obtain rfl := AC h
   refine ⟨Lz8, fun L hL => ?_⟩
   have ez8 := ez8 L (by omega)
   try simp only [go_sem, z5, z9] at ez8
   simp only [go_sem, z5, z9, fz10, ez8]
  ·try simp only [go_sem, n1, n2, n3, n4, z5] at z9
   all_goals
   obtain rfl := AC h
   refine ⟨Lz8, fun L hL => ?_⟩
   have ez8 := ez8 L (by omega)
   try simp only [go_sem, z5, z9] at ez8
   simp only [go_sem, z5, z9, ez8]
 ·try simp only [go_sem, n1, n2, n3, n4] at z5
  all_goals
  obtain rfl := AC h
  refine ⟨0, fun L hL => ?_⟩
  simp only [go_sem, z5]
set_option maxHeartbeats 64000000 in
attribute [local go_sem] Lm Li Jc Jb Ja Oq Og Kw Kv Ku TE SZ OJ OI OH VX in
theorem vK {data : List AA} {n : Int} {y_ : (List AA)} (h : As data n = some y_) : ee.F [.fresh 2 (List.map AB data), .int .i64 n, .fn (.func 75) [] []] = ⟨true, .cv undef, [.fresh 2 (List.map AB y_), .any, .any]⟩ := by
 refine Ho ?_
 dsimp only [As] at h
 obtain ⟨y_3, z3, h⟩ := AE h
 obtain ⟨Lz3, ez3⟩ := Dl z3
 obtain ⟨y_4, z4, h⟩ := AE h
 have fz4 := ol z4
 try simp only [go_sem] at fz4
 obtain ⟨y_11, z11, h⟩ := AE h
 obtain ⟨Lz11, ez11⟩ := Dk z11
 obtain ⟨z12, h⟩ := AD h
 try simp only [go_sem, n1, n2, n3, n4] at z12
 all_goals
 obtain rfl := AC h
 refine ⟨Lz3 + Lz11, fun L hL => ?_⟩
 have ez3 := ez3 L (by omega)
 have ez11 := ez11 L (by omega)
 try simp only [go_sem, z12] at ez3
 try simp only [go_sem, z12] at ez11
 simp only [go_sem, fz4, z12, ez3, ez11]
def pq : List Nat := [0, 1]
def pr : EL := ⟨2, 2, .region false [ PM 4 0, PM 5 0, PO 6 (.len false (.s 0)), PM 7 1, PO 8 (.call 102 [(.s 3), (.s 1), (.s 0)])], []⟩
noncomputable def tg : List (Nat × Bf) := [(102, ee)]
theorem cx : Aa tg 102 = some ee := rfl
noncomputable def ed : Bf := VP tg pr [.io, .bor]
theorem s_26 : Ad Tryz.prog 85 ed := DF _ (AI s_25 Ab) (by kernel_rfl : BF Tryz.prog 85 pr pq = true)
theorem M_26 : ed.modes = [.io, .bor] := rfl
theorem wT : ed.flat = false := rfl
attribute [go_sem] M_26 wT cx
theorem vJ {x : List AA} {y_ : (List AA)} (h : Aq x = some y_) : ed.F [.fresh 2 (List.map AB x), .fn (.func 75) [] []] = ⟨true, .cv undef, [.fresh 2 (List.map AB y_), .any]⟩ := by
 refine Ho ?_
 dsimp only [Aq] at h
 obtain ⟨y_1, z1, h⟩ := AE h
 have fz1 := vK z1
 try simp only [go_sem] at fz1
 obtain ⟨z2, h⟩ := AD h
 try simp only [go_sem, n1, n2, n3, n4] at z2
 all_goals
 obtain rfl := AC h
 refine ⟨0, fun L hL => ?_⟩
 simp only [go_sem, pr, fz1, z2]
def qA : List Nat := [0, 1, 4, 5]
def qB : EL := ⟨2, 4, .seq (.region false [ VO 2 4 (.newnil 2)]) (.seq (.region false [ PM 6 0, PO 7 (.call 84 [(.s 0)]), VS 3 5 0]) (.seq (.region false [ PM 8 3, PM 9 1, PO 10 (.call 85 [(.s 1), (.s 0)])]) (.seq (.region false [ PM 11 3, VS 2 4 0]) (.ret)))), [.t 2]⟩
noncomputable def pM : List (Nat × Bf) := [(84, Cq), (85, ed)]
theorem jX : Aa pM 84 = some Cq := rfl
theorem jW : Aa pM 85 = some ed := rfl
noncomputable def ec : Bf := Gd pM qB [.bor, .bor]
theorem s_27 : Ad Tryz.prog 73 ec := AY _ rfl (AI PD (AI s_26 Ab)) (by kernel_rfl : BF Tryz.prog 73 qB qA = true)
theorem M_27 : ec.modes = [.bor, .bor] := rfl
theorem wS : ec.flat = true := rfl
attribute [go_sem] M_27 wS jX jW
theorem vI {seq_c0 : List AA} {y_ : (List AA)} (h : AQ seq_c0 = some y_) : ec.F [.fn (.func 86) [] [.ptr 1 [.sl 2 (List.map AB seq_c0)] 0 0], .fn (.func 75) [] []] = ⟨true, .fresh 2 (List.map AB y_), [.any, .any]⟩ := by
 refine Br (by simp only [EA, ES, Ei, List.all_cons, List.all_nil, Bool.and_self, Bo (f := AB) (fun _ => rfl)]) ?_
 dsimp only [AQ] at h
 obtain ⟨y_1, z1, h⟩ := AE h
 have fz1 := Oj z1
 try simp only [go_sem] at fz1
 obtain ⟨y_2, z2, h⟩ := AE h
 have fz2 := vJ z2
 try simp only [go_sem] at fz2
 obtain rfl := AC h
 refine ⟨0, fun L hL => ?_⟩
 simp only [go_sem, qB, fz1, fz2]
def Wf : IR := .seq (.region false [ VO 8 14 (.bin false .lss (.v 7) (.v 6))]) (.seq (.cond (.v 8) (.skip) (.exit 0)) (.seq (.block 1 (.seq (.region false [ PO 15 (.ixAddr 2 (.v 5) (.v 7)), PO 16 (.load true 2 (.s 0)), VO 3 5 (.alloc (.agg [.int .i64 (0), .int .i64 (0)])), ⟨.no, 0, none, .store 2 (.v 3) (.s 0)⟩]) (.seq (.region false [ PM 17 2, PO 18 (.len false (.s 0)), PO 19 (.bin false .sub (.s 0) (I6 1)), VS 4 6 0]) (.anyo 13 [ SO 0 20 (.mov (.v 4)), SO 1 21 (.bin false .geq (.s 0) (I6 0)), SO 2 22 (.mov (.s 1)), ⟨.slot 3, 23, (some ((.s 2), true)), .fldAddr 0 (.v 3)⟩, ⟨.slot 4, 24,
 (some ((.s 2), true)), .load false 1 (.s 3)⟩, ⟨.slot 5, 25, (some ((.s 2), true)), .mov (.v 2)⟩, ⟨.slot 6, 26, (some ((.s 2), true)), .mov (.v 4)⟩, ⟨.slot 7, 27, (some ((.s 2), true)), .ixAddr 2 (.s 5) (.s 6)⟩, ⟨.slot 8, 28, (some ((.s 2), true)), .fldAddr 1 (.s 7)⟩, ⟨.slot 9, 29, (some ((.s 2), true)), .load false 1 (.s 8)⟩, ⟨.slot 10, 30, (some ((.s 2), true)), .bin false .add (.s 9) (I6 1)⟩, ⟨.slot 11, 31, (some ((.s 2), true)), .bin false .leq (.s 4) (.s 10)⟩, SO 12 32 (.pick (.s 2) (.s 11) (.c (.bool false)))] [] (.cond (.s 12) (.anyo 12 [ SO 0 33 (.mov (.v 2)), SO 1 34 (.mov (.v 4)), SO
 2 35 (.mov (.v 2)), SO 3 36 (.mov (.v 4)), SO 4 37 (.ixAddr 2 (.s 2) (.s 3)), SO 5 38 (.fldAddr 1 (.s 4)), SO 6 39 (.load false 1 (.s 5)), SO 7 40 (.fldAddr 1 (.v 3)), SO 8 41 (.load false 1 (.s 7)), SO 9 42 (.minmax true [(.s 6), (.s 8)]), SO 10 43 (.ixAddr 2 (.s 0) (.s 1)), SO 11 44 (.fldAddr 1 (.s 10)), ⟨.no, 0, none, .store 1 (.s 11) (.s 9)⟩] [] .skip) (.region false [ PM 45 2, PO 46 (.load true 2 (.v 3)), PO 47 (.mkSl 2 (.agg [.int .i64 (0), .int .i64 (0)]) 1 [(0, (.s 0))]), PO 48 (.app 2 16 (.agg [.int .i64 (0), .int .i64 (0)]) (.s 2) (.s 0)), VS 2 3 0])))))) (.region false [ PO 49 (.bin
 false .add (.v 7) (I6 1)), VS 7 13 0])))
def Qr : List Bool := [false, false, true, false, false, true, true, true, false]
def Qq : List Bool := [false, false, true, false, false, false, false, false, false]
def Qp : List Bool := [false, true, false, false, false, false, false, false, false]
def qV : List Nat := [0, 2, 3, 5, 6, 11, 12, 13, 14]
def mm : EL := ⟨1, 9, .seq (.region false [ VO 1 2 (.newnil 2)]) (.seq (.region false [ PM 7 0, PO 8 (.call 74 [(.s 0)]), PO 9 (.call 73 [(.s 0), (.c (.fn (.func 75) [] []))]), VS 0 0 0]) (.seq (.region false [ PO 10 (.mkSl 2 (.agg [.int .i64 (0), .int .i64 (0)]) 0 []), VS 2 3 0]) (.seq (.seq (.region false [ VO 5 11 (.mov (.v 0)), VO 6 12 (.len false (.v 5)), VO 7 13 (.mov (I6 0))]) (.block 0 (.loop Qr Qq Qp Wf))) (.seq (.region false [ PM 50 2, VS 1 2 0]) (.ret))))), [.t 1]⟩
noncomputable def lm : List (Nat × Bf) := [(74, ep), (73, ec)]
theorem jU : Aa lm 74 = some ep := rfl
theorem jV : Aa lm 73 = some ec := rfl
noncomputable def ZJ : Bf := Gd lm mm [.bor]
theorem uD : Ad Tryz.prog 56 ZJ := AY _ rfl (AI s_16 (AI s_27 Ab)) (by kernel_rfl : BF Tryz.prog 56 mm qV = true)
theorem M_28 : ZJ.modes = [.bor] := rfl
theorem wR : ZJ.flat = true := rfl
attribute [go_sem] M_28 wR jU jV
def TD (t11 : List AA) (t12 : Int) : ((List AA) × Int) → St
 | (out, t13) => ⟨[.any, .any, .own 3200000, .any, .any, .own 3200032, .int .i64 t12, .int .i64 t13, .any], [], [(3200000, ⟨2, List.map AB out⟩), (3200032, ⟨2, List.map AB t11⟩)], true⟩
def SY (t11 : List AA) (t12 : Int) (y : (List AA)) : FT := (.exit 0, ⟨[.any, .any, .own 3200000, .any, .any, .any, .any, .any, .any], [], [(3200000, ⟨2, List.map AB y⟩)], true⟩)
attribute [local go_sem] mm TD SY Wf Qr Qq Qp in
theorem Mb {t11 : List AA} {t12 : Int} {sgm_ : (List AA) × Int} {rho_ : (List AA)} (h : AJ (Bw t11 t12) sgm_ = some rho_) : ∃ L0, ∀ L, L0 ≤ L → Cg (BD (Aa lm) L Wf) Qr Qq Qp L (TD t11 t12 sgm_) = SY t11 t12 rho_ := by
 refine BJ (E := TD t11 t12) (R := SY t11 t12) (fun y => by first | (intro c; cases c) | (rcases y with y | y <;> (intro c; cases c)) | (rcases y with y | y | y <;> (intro c; cases c))) ?_ h
 clear h
 rintro ⟨out, t13⟩ o_ h
 dsimp only [Bw] at h
 rcases AF h with ⟨z3, h⟩ | ⟨z3, h⟩
 ·try simp only [go_sem, n1, n2, n3, n4] at z3
  all_goals
  obtain ⟨z4, h⟩ := AD h
  have lz4 := BT z4
  have xz4 := AR AB t11 lz4
  try simp only [go_sem] at lz4
  try simp only [go_sem] at xz4
  try simp only [go_sem, n1, n2, n3, n4, z3] at z4
  all_goals
  obtain ⟨z5, h⟩ := AD h
  rcases Ay z5 with ⟨gz5, z5⟩ | gz5
  ·try simp only [go_sem, n1, n2, n3, n4, z3, z4] at gz5
   all_goals
   have lz5 := BT z5
   have xz5 := AR AB out lz5
   try simp only [go_sem] at lz5
   try simp only [go_sem] at xz5
   try simp only [go_sem, n1, n2, n3, n4, z3, z4, gz5] at z5
   all_goals
   rcases AF h with ⟨z6, h⟩ | ⟨z6, h⟩
   ·try simp only [go_sem, n1, n2, n3, n4, z3, z4, gz5, z5] at z6
    all_goals
    obtain ⟨z7, h⟩ := AD h
    have lz7 := BT z7
    have xz7 := AR AB out lz7
    try simp only [go_sem] at lz7
    try simp only [go_sem] at xz7
    try simp only [go_sem, n1, n2, n3, n4, z3, z4, gz5, z5, z6] at z7
    all_goals
    obtain rfl := AC h
    refine ⟨0, fun L hL => ?_⟩
    simp only [go_sem, z3, z4, lz4, xz4, gz5, z5, lz5, xz5, z6, z7, lz7, xz7]
   ·try simp only [go_sem, n1, n2, n3, n4, z3, z4, gz5, z5] at z6
    all_goals
    obtain ⟨z8, h⟩ := AD h
    try simp only [go_sem, n1, n2, n3, n4, z3, z4, gz5, z5, z6] at z8
    all_goals
    obtain rfl := AC h
    refine ⟨0, fun L hL => ?_⟩
    simp only [go_sem, z3, z4, lz4, xz4, gz5, z5, lz5, xz5, z6, z8]
  ·try simp only [go_sem, n1, n2, n3, n4, z3, z4] at gz5
   all_goals
   rcases AF h with ⟨z6, h⟩ | ⟨z6, h⟩
   ·try simp only [go_sem, n1, n2, n3, n4, z3, z4, gz5] at z6
    all_goals
    (simp_all)
   ·try simp only [go_sem, n1, n2, n3, n4, z3, z4, gz5] at z6
    all_goals
    obtain ⟨z8, h⟩ := AD h
    try simp only [go_sem, n1, n2, n3, n4, z3, z4, gz5, z6] at z8
    all_goals
    obtain rfl := AC h
    refine ⟨0, fun L hL => ?_⟩
    simp only [go_sem, z3, z4, lz4, xz4, gz5, z6, z8]
 ·try simp only [go_sem, n1, n2, n3, n4] at z3
  all_goals
  obtain rfl := AC h
  refine ⟨0, fun L hL => ?_⟩
  simp only [go_sem, z3]
attribute [local go_sem] TD SY Qr Qq Qp mm in
theorem oh {list : List AA} {y_ : (List AA)} (h : GC list = some y_) : ZJ.F [.sl 2 (List.map AB list)] = ⟨true, .fresh 2 (List.map AB y_), [.any]⟩ := by
 refine Br (by simp only [EA, ES, Ei, List.all_cons, List.all_nil, Bool.and_self, Bo (f := AB) (fun _ => rfl)]) ?_
 dsimp only [GC] at h
 obtain ⟨y_1, z1, h⟩ := AE h
 have fz1 := vM z1
 try simp only [go_sem] at fz1
 obtain ⟨y_2, z2, h⟩ := AE h
 have fz2 := vI z2
 try simp only [go_sem] at fz2
 obtain ⟨y_9, z9, h⟩ := AE h
 obtain ⟨Lz9, ez9⟩ := Mb z9
 obtain rfl := AC h
 refine ⟨Lz9, fun L hL => ?_⟩
 have ez9 := ez9 L (by omega)
 try simp only [go_sem] at ez9
 simp only [go_sem, fz1, fz2, ez9]
def Wd : IR := .seq (.region false [ VO 15 22 (.bin false .lss (.v 14) (.v 13))]) (.seq (.cond (.v 15) (.skip) (.exit 2)) (.seq (.block 3 (.seq (.region false [ PO 23 (.ixAddr 2 (.v 12) (.v 14)), PO 24 (.load true 2 (.s 0)), VO 5 9 (.alloc (.agg [.int .i64 (0), .int .i64 (0)])), ⟨.no, 0, none, .store 2 (.v 5) (.s 0)⟩]) (.seq (.anyo 10 [ SO 0 25 (.fldAddr 0 (.v 4)), SO 1 26 (.load false 1 (.s 0)), SO 2 27 (.fldAddr 0 (.v 5)), SO 3 28 (.load false 1 (.s 2)), SO 4 29 (.minmax true [(.s 1), (.s 3)]), SO 5 30 (.fldAddr 1 (.v 4)), SO 6 31 (.load false 1 (.s 5)), SO 7 32 (.fldAddr 1 (.v 5)), SO 8
 33 (.load false 1 (.s 7)), SO 9 34 (.minmax false [(.s 6), (.s 8)]), VS 6 10 4, VS 7 11 9] [] .skip) (.test false [ PM 35 6, PM 36 7, PO 37 (.bin false .leq (.s 1) (.s 0))] (.s 0) (.region false [ PM 38 3, PM 39 6, PM 40 7, PO 41 (.build [.int .i64 (0), .int .i64 (0)] [(0, 1, (.s 1)), (1, 1, (.s 0))]), PO 42 (.mkSl 2 (.agg [.int .i64 (0), .int .i64 (0)]) 1 [(0, (.s 0))]), PO 43 (.app 2 16 (.agg [.int .i64 (0), .int .i64 (0)]) (.s 4) (.s 0)), VS 3 5 0]) (.skip))))) (.region false [ PO 44 (.bin false .add (.v 14) (I6 1)), VS 14 21 0])))
def Nt : List Bool := [false, true, false, true, true, false, false, false, true, true, true, false, true, true, true, false]
def Ns : List Bool := [false, true, false, true, false, false, false, false, true, true, true, false, false, false, false, false]
def Nr : List Bool := [false, false, true, false, false, false, false, false, false, false, false, false, false, false, false, false]
def We : IR := .seq (.region false [ VO 11 16 (.bin false .lss (.v 10) (.v 9))]) (.seq (.cond (.v 11) (.skip) (.exit 0)) (.seq (.block 1 (.seq (.region false [ PO 17 (.ixAddr 2 (.v 8) (.v 10)), PO 18 (.load true 2 (.s 0)), VO 4 7 (.alloc (.agg [.int .i64 (0), .int .i64 (0)])), ⟨.no, 0, none, .store 2 (.v 4) (.s 0)⟩]) (.seq (.region false [ VO 12 19 (.mov (.v 1)), VO 13 20 (.len false (.v 12)), VO 14 21 (.mov (I6 0))]) (.block 2 (.loop Nt Ns Nr Wd))))) (.region false [ PO 45 (.bin false .add (.v 10) (I6 1)), VS 10 15 0])))
def Qo : List Bool := [false, true, false, true, false, false, false, false, true, true, true, false, false, false, false, false]
def Qn : List Bool := [false, false, false, true, false, false, false, false, false, false, false, false, false, false, false, false]
def Qm : List Bool := [false, false, true, false, false, false, false, false, false, false, false, false, false, false, false, false]
def qU : List Nat := [0, 1, 4, 5, 7, 9, 10, 11, 13, 14, 15, 16, 19, 20, 21, 22]
def js : EL := ⟨2, 16, .seq (.region false [ VO 2 4 (.newnil 2)]) (.seq (.region false [ PO 12 (.mkSl 2 (.agg [.int .i64 (0), .int .i64 (0)]) 0 []), VS 3 5 0]) (.seq (.seq (.region false [ VO 8 13 (.mov (.v 0)), VO 9 14 (.len false (.v 8)), VO 10 15 (.mov (I6 0))]) (.block 0 (.loop Qo Qn Qm We))) (.seq (.region false [ PM 46 3, PO 47 (.call 56 [(.s 0)]), VS 2 4 0]) (.ret)))), [.t 2]⟩
noncomputable def ll : List (Nat × Bf) := [(56, ZJ)]
theorem jT : Aa ll 56 = some ZJ := rfl
noncomputable def eb : Bf := Gd ll js [.bor, .bor]
theorem s_29 : Ad Tryz.prog 57 eb := AY _ rfl (AI uD Ab) (by kernel_rfl : BF Tryz.prog 57 js qU = true)
theorem M_29 : eb.modes = [.bor, .bor] := rfl
theorem wQ : eb.flat = true := rfl
attribute [go_sem] M_29 wQ jT
def Oo (b : List AA) (x : AA) (t13 : List AA) (t14 : Int) (t15 : Int) (t19 : List AA) (t20 : Int) : ((List AA) × Int) → St
 | (out, t21) => ⟨[.any, .sl 2 (List.map AB b), .any, .own 3200000, .ref 3200032 0 0, .any, .any, .any, .sl 2 (List.map AB t13), .int .i64 t14, .int .i64 t15, .any, .sl 2 (List.map AB t19), .int .i64 t20, .int .i64 t21, .any], [], [(3200000, ⟨2, List.map AB out⟩), (3200032, ⟨2, [AB x]⟩)], true⟩
def Of (b : List AA) (x : AA) (t13 : List AA) (t14 : Int) (t15 : Int) (t19 : List AA) (t20 : Int) (y : (List AA)) : FT := (.exit 2, ⟨[.any, .sl 2 (List.map AB b), .any, .own 3200000, .any, .any, .any, .any, .sl 2 (List.map AB t13), .int .i64 t14, .int .i64 t15, .any, .any, .any, .any, .any], [], [(3200000, ⟨2, List.map AB y⟩)], true⟩)
attribute [local go_sem] js Oo Of Wd Nt Ns Nr in
theorem QK {b : List AA} {x : AA} {t13 : List AA} {t14 : Int} {t15 : Int} {t19 : List AA} {t20 : Int} {sgm_ : (List AA) × Int} {rho_ : (List AA)} (h : AJ (Db b x t13 t14 t15 t19 t20) sgm_ = some rho_) : ∃ L0, ∀ L, L0 ≤ L → Cg (BD (Aa ll) L Wd) Nt Ns Nr L (Oo b x t13 t14 t15 t19 t20 sgm_) = Of b x t13 t14 t15 t19 t20 rho_ := by
 refine BJ (E := Oo b x t13 t14 t15 t19 t20) (R := Of b x t13 t14 t15 t19 t20) (fun y => by first | (intro c; cases c) | (rcases y with y | y <;> (intro c; cases c)) | (rcases y with y | y | y <;> (intro c; cases c))) ?_ h
 clear h
 rintro ⟨out, t21⟩ o_ h
 dsimp only [Db] at h
 rcases AF h with ⟨z3, h⟩ | ⟨z3, h⟩
 ·try simp only [go_sem, n1, n2, n3, n4] at z3
  all_goals
  obtain ⟨z4, h⟩ := AD h
  have lz4 := BT z4
  have xz4 := AR AB t19 lz4
  try simp only [go_sem] at lz4
  try simp only [go_sem] at xz4
  try simp only [go_sem, n1, n2, n3, n4, z3] at z4
  all_goals
  rcases AF h with ⟨z5, h⟩ | ⟨z5, h⟩
  ·try simp only [go_sem, n1, n2, n3, n4, z3, z4] at z5
   all_goals
   obtain ⟨z6, h⟩ := AD h
   try simp only [go_sem, n1, n2, n3, n4, z3, z4, z5] at z6
   all_goals
   obtain rfl := AC h
   refine ⟨0, fun L hL => ?_⟩
   simp only [go_sem, z3, z4, lz4, xz4, z5, z6]
  ·try simp only [go_sem, n1, n2, n3, n4, z3, z4] at z5
   all_goals
   obtain rfl := AC h
   refine ⟨0, fun L hL => ?_⟩
   simp only [go_sem, z3, z4, lz4, xz4, z5]
 ·try simp only [go_sem, n1, n2, n3, n4] at z3
  all_goals
  obtain rfl := AC h
  refine ⟨0, fun L hL => ?_⟩
  simp only [go_sem, z3]
def TC (b : List AA) (t13 : List AA) (t14 : Int) : ((List AA) × Int) → St
 | (out, t15) => ⟨[.any, .sl 2 (List.map AB b), .any, .own 3200000, .any, .any, .any, .any, .sl 2 (List.map AB t13), .int .i64 t14, .int .i64 t15, .any, .any, .any, .any, .any], [], [(3200000, ⟨2, List.map AB out⟩)], true⟩
def SX (b : List AA) (t13 : List AA) (t14 : Int) (y : (List AA)) : FT := (.exit 0, ⟨[.any, .any, .any, .own 3200000, .any, .any, .any, .any, .any, .any, .any, .any, .any, .any, .any, .any], [], [(3200000, ⟨2, List.map AB y⟩)], true⟩)
attribute [local go_sem] TC SX We Qo Qn Qm Oo Of Nt Ns Nr js in
theorem QL {b : List AA} {t13 : List AA} {t14 : Int} {sgm_ : (List AA) × Int} {rho_ : (List AA)} (h : AJ (Ea b t13 t14) sgm_ = some rho_) : ∃ L0, ∀ L, L0 ≤ L → Cg (BD (Aa ll) L We) Qo Qn Qm L (TC b t13 t14 sgm_) = SX b t13 t14 rho_ := by
 refine BJ (E := TC b t13 t14) (R := SX b t13 t14) (fun y => by first | (intro c; cases c) | (rcases y with y | y <;> (intro c; cases c)) | (rcases y with y | y | y <;> (intro c; cases c))) ?_ h
 clear h
 rintro ⟨out, t15⟩ o_ h
 dsimp only [Ea] at h
 rcases AF h with ⟨z1, h⟩ | ⟨z1, h⟩
 ·try simp only [go_sem, n1, n2, n3, n4] at z1
  all_goals
  obtain ⟨z2, h⟩ := AD h
  have lz2 := BT z2
  have xz2 := AR AB t13 lz2
  try simp only [go_sem] at lz2
  try simp only [go_sem] at xz2
  try simp only [go_sem, n1, n2, n3, n4, z1] at z2
  all_goals
  obtain ⟨y_7, z7, h⟩ := AE h
  obtain ⟨Lz7, ez7⟩ := QK z7
  obtain rfl := AC h
  refine ⟨Lz7, fun L hL => ?_⟩
  have ez7 := ez7 L (by omega)
  try simp only [go_sem, z1, z2] at ez7
  simp only [go_sem, z1, z2, lz2, xz2, ez7]
 ·try simp only [go_sem, n1, n2, n3, n4] at z1
  all_goals
  obtain rfl := AC h
  refine ⟨0, fun L hL => ?_⟩
  simp only [go_sem, z1]
attribute [local go_sem] Oo Of Nt Ns Nr TC SX Qo Qn Qm js in
theorem og {a : List AA} {b : List AA} {y_ : (List AA)} (h : HO a b = some y_) : eb.F [.sl 2 (List.map AB a), .sl 2 (List.map AB b)] = ⟨true, .fresh 2 (List.map AB y_), [.any, .any]⟩ := by
 refine Br (by simp only [EA, ES, Ei, List.all_cons, List.all_nil, Bool.and_self, Bo (f := AB) (fun _ => rfl)]) ?_
 dsimp only [HO] at h
 obtain ⟨y_8, z8, h⟩ := AE h
 obtain ⟨Lz8, ez8⟩ := QL z8
 obtain ⟨y_9, z9, h⟩ := AE h
 have fz9 := oh z9
 try simp only [go_sem] at fz9
 obtain rfl := AC h
 refine ⟨Lz8, fun L hL => ?_⟩
 have ez8 := ez8 L (by omega)
 try simp only [go_sem] at ez8
 simp only [go_sem, fz9, ez8]
def Wq : IR := .seq (.region false [ VO 9 14 (.bin false .lss (.v 8) (.v 7))]) (.seq (.cond (.v 9) (.skip) (.exit 0)) (.seq (.block 1 (.seq (.region false [ PO 15 (.ixAddr 2 (.v 6) (.v 8)), PO 16 (.load true 2 (.s 0)), VO 5 8 (.alloc (.agg [.int .i64 (0), .int .i64 (0)])), ⟨.no, 0, none, .store 2 (.v 5) (.s 0)⟩]) (.seq (.test false [ PM 17 4, PO 18 (.fldAddr 0 (.v 5)), PO 19 (.load false 1 (.s 0)), PO 20 (.bin false .lss (.s 2) (.s 0))] (.s 0) (.region false [ PM 21 3, PM 22 4, PO 23 (.fldAddr 0 (.v 5)), PO 24 (.load false 1 (.s 0)), PO 25 (.bin false .sub (.s 0) (I6 1)), PO 26 (.build
 [.int .i64 (0), .int .i64 (0)] [(0, 1, (.s 3)), (1, 1, (.s 0))]), PO 27 (.mkSl 2 (.agg [.int .i64 (0), .int .i64 (0)]) 1 [(0, (.s 0))]), PO 28 (.app 2 16 (.agg [.int .i64 (0), .int .i64 (0)]) (.s 6) (.s 0)), VS 3 5 0]) (.skip)) (.region false [ PO 29 (.fldAddr 1 (.v 5)), PO 30 (.load false 1 (.s 0)), PO 31 (.bin false .add (.s 0) (I6 1)), VS 4 6 0])))) (.region false [ PO 32 (.bin false .add (.v 8) (I6 1)), VS 8 13 0])))
def RS : List Bool := [true, false, false, true, true, false, true, true, true, false]
def RR : List Bool := [true, false, false, true, true, false, false, false, false, false]
def RQ : List Bool := [false, false, true, false, false, false, false, false, false, false]
def rD : List Nat := [0, 1, 4, 5, 6, 8, 11, 12, 13, 14]
def mv : EL := ⟨2, 10, .seq (.region false [ VO 2 4 (.newnil 2)]) (.seq (.region false [ PO 9 (.mkSl 2 (.agg [.int .i64 (0), .int .i64 (0)]) 0 []), VS 3 5 0, VO 4 6 (.mov (I6 0))]) (.seq (.seq (.region false [ PM 10 1, VO 6 11 (.call 56 [(.s 0)]), VO 7 12 (.len false (.v 6)), VO 8 13 (.mov (I6 0))]) (.block 0 (.loop RS RR RQ Wq))) (.seq (.test false [ PM 33 4, PO 34 (.bin false .leq (.s 0) (I6 10000000))] (.s 0) (.region false [ PM 35 3, PM 36 4, PO 37 (.build [.int .i64 (0), .int .i64 (0)] [(0, 1, (.s 0)), (1, 1, (I6 10000000))]), PO 38 (.mkSl 2 (.agg [.int .i64 (0),
 .int .i64 (0)]) 1 [(0, (.s 0))]), PO 39 (.app 2 16 (.agg [.int .i64 (0), .int .i64 (0)]) (.s 3) (.s 0)), VS 3 5 0]) (.skip)) (.seq (.region false [ PM 40 0, PM 41 3, PO 42 (.call 57 [(.s 1), (.s 0)]), VS 2 4 0]) (.ret))))), [.t 2]⟩
noncomputable def lk : List (Nat × Bf) := [(56, ZJ), (57, eb)]
theorem jS : Aa lk 56 = some ZJ := rfl
theorem jR : Aa lk 57 = some eb := rfl
noncomputable def eZ : Bf := Gd lk mv [.bor, .bor]
theorem s_30 : Ad Tryz.prog 32 eZ := AY _ rfl (AI uD (AI s_29 Ab)) (by kernel_rfl : BF Tryz.prog 32 mv rD = true)
theorem M_30 : eZ.modes = [.bor, .bor] := rfl
theorem wP : eZ.flat = true := rfl
attribute [go_sem] M_30 wP jS jR
def TB (a : List AA) (t11 : List AA) (t12 : Int) : ((List AA) × Int × Int) → St
 | (rest_, from_, t13) => ⟨[.sl 2 (List.map AB a), .any, .any, .own 3200000, .int .i64 from_, .any, .own 3200032, .int .i64 t12, .int .i64 t13, .any], [], [(3200000, ⟨2, List.map AB rest_⟩), (3200032, ⟨2, List.map AB t11⟩)], true⟩
def SW (a : List AA) (t11 : List AA) (t12 : Int) (y : (List AA) × Int) : FT := (.exit 0, ⟨[.sl 2 (List.map AB a), .any, .any, .own 3200000, .int .i64 y.2, .any, .any, .any, .any, .any], [], [(3200000, ⟨2, List.map AB y.1⟩)], true⟩)
attribute [local go_sem] mv TB SW Wq RS RR RQ in
theorem Ma {a : List AA} {t11 : List AA} {t12 : Int} {sgm_ : (List AA) × Int × Int} {rho_ : (List AA) × Int} (h : AJ (CU a t11 t12) sgm_ = some rho_) : ∃ L0, ∀ L, L0 ≤ L → Cg (BD (Aa lk) L Wq) RS RR RQ L (TB a t11 t12 sgm_) = SW a t11 t12 rho_ := by
 refine BJ (E := TB a t11 t12) (R := SW a t11 t12) (fun y => by first | (intro c; cases c) | (rcases y with y | y <;> (intro c; cases c)) | (rcases y with y | y | y <;> (intro c; cases c))) ?_ h
 clear h
 rintro ⟨rest_, from_, t13⟩ o_ h
 dsimp only [CU] at h
 rcases AF h with ⟨z2, h⟩ | ⟨z2, h⟩
 ·try simp only [go_sem, n1, n2, n3, n4] at z2
  all_goals
  obtain ⟨z3, h⟩ := AD h
  have lz3 := BT z3
  have xz3 := AR AB t11 lz3
  try simp only [go_sem] at lz3
  try simp only [go_sem] at xz3
  try simp only [go_sem, n1, n2, n3, n4, z2] at z3
  all_goals
  rcases AF h with ⟨z4, h⟩ | ⟨z4, h⟩
  ·try simp only [go_sem, n1, n2, n3, n4, z2, z3] at z4
   all_goals
   obtain ⟨z5, h⟩ := AD h
   try simp only [go_sem, n1, n2, n3, n4, z2, z3, z4] at z5
   all_goals
   obtain rfl := AC h
   refine ⟨0, fun L hL => ?_⟩
   simp only [go_sem, z2, z3, lz3, xz3, z4, z5]
  ·try simp only [go_sem, n1, n2, n3, n4, z2, z3] at z4
   all_goals
   obtain rfl := AC h
   refine ⟨0, fun L hL => ?_⟩
   simp only [go_sem, z2, z3, lz3, xz3, z4]
 ·try simp only [go_sem, n1, n2, n3, n4] at z2
  all_goals
  obtain rfl := AC h
  refine ⟨0, fun L hL => ?_⟩
  simp only [go_sem, z2]
attribute [local go_sem] TB SW RS RR RQ mv in
theorem vH {a : List AA} {b : List AA} {y_ : (List AA)} (h : Gx a b = some y_) : eZ.F [.sl 2 (List.map AB a), .sl 2 (List.map AB b)] = ⟨true, .fresh 2 (List.map AB y_), [.any, .any]⟩ := by
 refine Br (by simp only [EA, ES, Ei, List.all_cons, List.all_nil, Bool.and_self, Bo (f := AB) (fun _ => rfl)]) ?_
 dsimp only [Gx] at h
 obtain ⟨y_1, z1, h⟩ := AE h
 have fz1 := oh z1
 try simp only [go_sem] at fz1
 obtain ⟨y_6, z6, h⟩ := AE h
 obtain ⟨Lz6, ez6⟩ := Ma z6
 rcases AF h with ⟨z7, h⟩ | ⟨z7, h⟩
 ·try simp only [go_sem, n1, n2, n3, n4] at z7
  all_goals
  obtain ⟨z8, h⟩ := AD h
  try simp only [go_sem, n1, n2, n3, n4, z7] at z8
  all_goals
  obtain ⟨y_9, z9, h⟩ := AE h
  have fz9 := og z9
  try simp only [go_sem, z7, z8] at fz9
  obtain rfl := AC h
  refine ⟨Lz6, fun L hL => ?_⟩
  have ez6 := ez6 L (by omega)
  try simp only [go_sem, z7, z8] at ez6
  simp only [go_sem, fz1, z7, z8, fz9, ez6]
 ·try simp only [go_sem, n1, n2, n3, n4] at z7
  all_goals
  obtain ⟨y_10, z10, h⟩ := AE h
  have fz10 := og z10
  try simp only [go_sem, z7] at fz10
  obtain rfl := AC h
  refine ⟨Lz6, fun L hL => ?_⟩
  have ez6 := ez6 L (by omega)
  try simp only [go_sem, z7] at ez6
  simp only [go_sem, fz1, z7, fz10, ez6]
def qz : List Nat := [0, 2, 3]
def rA : EL := ⟨1, 3, .seq (.region false [ VO 1 2 (.newnil 2), VO 2 3 (.mov (I6 0))]) (.seq (.test false [ PM 4 0, PO 5 (.len false (.s 0)), PO 6 (.bin false .gtr (.s 0) (I6 30))] (.s 0) (.seq (.region false [ VO 1 2 (.newnil 2), VO 2 3 (.mov (I6 5))]) (.ret)) (.skip)) (.seq (.region false [ PM 7 0, VS 1 2 0, VO 2 3 (.mov (I6 0))]) (.ret))), [.t 1, .t 2]⟩
noncomputable def t_31 : List (Nat × Bf) := []
noncomputable def eY : Bf := sj t_31 rA [.bor]
theorem s_31 : Ad Tryz.prog 34 eY := VN _ Ab (by kernel_rfl : BF Tryz.prog 34 rA qz = true)
theorem M_31 : eY.modes = [.bor] := rfl
theorem wO : eY.flat = false := rfl
attribute [go_sem] M_31 wO
theorem vG {list : List AA} {y_ : (List AA) × Int} (h : GS list = some y_) : eY.F [.sl 2 (List.map AB list)] = ⟨true, .tup [.sl 2 (List.map AB y_.1), .int .i64 y_.2], [.any]⟩ := by
 refine oG ?_
 dsimp only [GS] at h
 rcases AF h with ⟨z1, h⟩ | ⟨z1, h⟩
 all_goals
 try simp only [go_sem, n1, n2, n3, n4] at z1
 all_goals
 obtain rfl := AC h
 refine ⟨0, fun L hL => ?_⟩
 simp only [go_sem, rA, z1]
def uQ : List Nat := [0, 1, 2, 6, 7, 8]
def qQ : EL := ⟨3, 6, .seq (.region false [ VO 3 6 (.newnil 2), VO 4 7 (.mov (I6 0))]) (.seq (.test false [ PM 9 0, PO 10 (.call 26 [(.s 0)]), PO 11 (.un .not (.s 0)), PO 12 (.mov (.s 0)), ⟨.push, 13, (some ((.s 0), false)), .mov (.v 1)⟩, ⟨.push, 14, (some ((.s 1), false)), .call 26 [(.s 0)]⟩, ⟨.push, 15, (some ((.s 2), false)), .un .not (.s 0)⟩, PO 16 (.pick (.s 3) (.c (.bool true)) (.s 0)), PO 17 (.mov (.s 0)), ⟨.push, 18, (some ((.s 0), false)), .mov (.v 2)⟩, ⟨.push, 19, (some ((.s 1), false)), .call 26 [(.s 0)]⟩, ⟨.push, 20, (some ((.s 2), false)), .un .not (.s 0)⟩, PO 21 (.pick (.s 3)
 (.c (.bool true)) (.s 0))] (.s 0) (.seq (.region false [ VO 3 6 (.newnil 2), VO 4 7 (.mov (I6 1))]) (.ret)) (.skip)) (.seq (.region false [ PM 22 0, PM 23 1, PO 24 (.call 33 [(.s 0)]), PM 25 2, PO 26 (.app 2 16 (.agg [.int .i64 (0), .int .i64 (0)]) (.s 1) (.s 0)), PO 27 (.call 32 [(.s 4), (.s 0)]), VS 5 8 0]) (.seq (.test false [ PM 28 5, PO 29 (.len false (.s 0)), PO 30 (.bin false .eql (.s 0) (I6 0)), PO 31 (.mov (.s 0)), ⟨.push, 32, (some ((.s 0), true)), .mov (.v 0)⟩, ⟨.push, 33, (some ((.s 1), true)), .len false (.s 0)⟩, ⟨.push, 34, (some ((.s 2), true)), .bin false .gtr (.s 0) (I6 0)⟩,
 PO 35 (.pick (.s 3) (.s 0) (.c (.bool false)))] (.s 0) (.seq (.region false [ VO 3 6 (.newnil 2), VO 4 7 (.mov (I6 10))]) (.ret)) (.skip)) (.seq (.region false [ PM 36 5, PO 37 (.call 34 [(.s 0)]), PO 38 (.ext (.s 0) 0), PO 39 (.ext (.s 1) 1), VS 3 6 1, VS 4 7 0]) (.ret))))), [.t 3, .t 4]⟩
noncomputable def fY : List (Nat × Bf) := [(26, Xm), (33, eq), (32, eZ), (34, eY)]
theorem jQ : Aa fY 26 = some Xm := rfl
theorem jO : Aa fY 33 = some eq := rfl
theorem jP : Aa fY 32 = some eZ := rfl
theorem jN : Aa fY 34 = some eY := rfl
noncomputable def eX : Bf := sj fY qQ [.bor, .bor, .bor]
theorem s_32 : Ad Tryz.prog 6 eX := VN _ (AI pd (AI s_15 (AI s_30 (AI s_31 Ab)))) (by kernel_rfl : BF Tryz.prog 6 qQ uQ = true)
theorem M_32 : eX.modes = [.bor, .bor, .bor] := rfl
theorem wN : eX.flat = false := rfl
attribute [go_sem] M_32 wN jQ jO jP jN
theorem vF {nights : List AA} {moon : List AA} {clouds : List AA} {y_ : (List AA) × Int} (h : Fo nights moon clouds = some y_) : eX.F [.sl 2 (List.map AB nights), .sl 2 (List.map AB moon), .sl 2 (List.map AB clouds)] = ⟨true, .tup [.sl 2 (List.map AB y_.1), .int .i64 y_.2], [.any, .any, .any]⟩ := by
 refine oG ?_
 dsimp only [Fo] at h
 obtain ⟨y_1, z1, h⟩ := AE h
 have fz1 := Ok z1
 try simp only [go_sem] at fz1
 obtain ⟨z2, h⟩ := AD h
 rcases Ay z2 with ⟨gz2, z2⟩ | gz2
 ·try simp only [go_sem, n1, n2, n3, n4] at gz2
  all_goals
  obtain ⟨y_2, hz2⟩ := Option.isSome_iff_exists.1 z2
  have fz2 := Ok hz2
  try simp only [go_sem, n1, n2, n3, n4, gz2] at hz2
  all_goals
  try simp only [go_sem, gz2] at fz2
  obtain ⟨z3, h⟩ := AD h
  rcases Ay z3 with ⟨gz3, z3⟩ | gz3
  ·try simp only [go_sem, n1, n2, n3, n4, gz2, hz2] at gz3
   all_goals
   obtain ⟨y_3, hz3⟩ := Option.isSome_iff_exists.1 z3
   have fz3 := Ok hz3
   try simp only [go_sem, n1, n2, n3, n4, gz2, hz2, gz3] at hz3
   all_goals
   try simp only [go_sem, gz2, hz2, gz3] at fz3
   rcases AF h with ⟨z4, h⟩ | ⟨z4, h⟩
   ·try simp only [go_sem, n1, n2, n3, n4, gz2, hz2, gz3, hz3] at z4
    all_goals
    obtain rfl := AC h
    refine ⟨0, fun L hL => ?_⟩
    simp only [go_sem, qQ, fz1, gz2, hz2, fz2, gz3, hz3, fz3, z4]
   ·try simp only [go_sem, n1, n2, n3, n4, gz2, hz2, gz3, hz3] at z4
    all_goals
    obtain ⟨y_5, z5, h⟩ := AE h
    have fz5 := vN z5
    try simp only [go_sem, gz2, hz2, gz3, hz3, z4] at fz5
    obtain ⟨z6, h⟩ := AD h
    try simp only [go_sem, n1, n2, n3, n4, gz2, hz2, gz3, hz3, z4] at z6
    all_goals
    obtain ⟨y_7, z7, h⟩ := AE h
    have fz7 := vH z7
    try simp only [go_sem, gz2, hz2, gz3, hz3, z4, z6] at fz7
    rcases AF h with ⟨z8, h⟩ | ⟨z8, h⟩
    ·try simp only [go_sem, n1, n2, n3, n4, gz2, hz2, gz3, hz3, z4, z6] at z8
     all_goals
     obtain rfl := AC h
     refine ⟨0, fun L hL => ?_⟩
     simp only [go_sem, qQ, fz1, gz2, hz2, fz2, gz3, hz3, fz3, z4, fz5, z6, fz7, z8]
    ·try simp only [go_sem, n1, n2, n3, n4, gz2, hz2, gz3, hz3, z4, z6] at z8
     all_goals
     obtain ⟨y_9, z9, h⟩ := AE h
     have fz9 := vG z9
     try simp only [go_sem, gz2, hz2, gz3, hz3, z4, z6, z8] at fz9
     obtain rfl := AC h
     refine ⟨0, fun L hL => ?_⟩
     simp only [go_sem, qQ, fz1, gz2, hz2, fz2, gz3, hz3, fz3, z4, fz5, z6, fz7, z8, fz9]
  ·have gz3n := BH gz3
   rcases JA gz3n with gz3na | ⟨gz3na, gz3nb⟩
   ·try simp only [go_sem, n1, n2, n3, n4, gz2, hz2] at gz3na
    all_goals
    (simp_all)
   ·have gz3nan := BH gz3na
    have gz3nbn := Fj gz3nb
    try simp only [go_sem, n1, n2, n3, n4, gz2, hz2] at gz3nan
    all_goals
    try simp only [go_sem, n1, n2, n3, n4, gz2, hz2, gz3nan] at gz3nbn
    all_goals
    rcases AF h with ⟨z4, h⟩ | ⟨z4, h⟩
    ·try simp only [go_sem, n1, n2, n3, n4, gz2, hz2, gz3nan, gz3nbn] at z4
     all_goals
     obtain rfl := AC h
     refine ⟨0, fun L hL => ?_⟩
     simp only [go_sem, qQ, fz1, gz2, hz2, fz2, gz3nan, gz3nbn, z4]
    ·try simp only [go_sem, n1, n2, n3, n4, gz2, hz2, gz3nan, gz3nbn] at z4
     all_goals
     (simp_all)
 ·have gz2n := BH gz2
  have gz2nn := Fj gz2n
  try simp only [go_sem, n1, n2, n3, n4] at gz2nn
  all_goals
  obtain ⟨z3, h⟩ := AD h
  rcases AF h with ⟨z4, h⟩ | ⟨z4, h⟩
  ·try simp only [go_sem, n1, n2, n3, n4, gz2nn] at z4
   all_goals
   obtain rfl := AC h
   refine ⟨0, fun L hL => ?_⟩
   simp only [go_sem, qQ, fz1, gz2nn, z4]
  ·try simp only [go_sem, n1, n2, n3, n4, gz2nn] at z4
   all_goals
   (simp_all)
def qq : List Nat := [0, 1, 2, 6]
def qr : EL := ⟨3, 4, .seq (.region false [ VO 3 6 (.mov (.c (.bool false)))]) (.seq (.region false [ PM 7 0, PM 8 1, PO 9 (.bin false .geq (.s 1) (.s 0)), PO 10 (.mov (.s 0)), ⟨.push, 11, (some ((.s 0), true)), .mov (.v 0)⟩, ⟨.push, 12, (some ((.s 1), true)), .mov (.v 2)⟩, ⟨.push, 13, (some ((.s 2), true)), .bin false .leq (.s 1) (.s 0)⟩, PO 14 (.pick (.s 3) (.s 0) (.c (.bool false))), VS 3 6 0]) (.ret)), [.t 3]⟩
noncomputable def t_33 : List (Nat × Bf) := []
noncomputable def QO : Bf := Gd t_33 qr [.bor, .bor, .bor]
theorem mG : Ad Tryz.prog 40 QO := AY _ rfl Ab (by kernel_rfl : BF Tryz.prog 40 qr qq = true)
theorem M_33 : QO.modes = [.bor, .bor, .bor] := rfl
theorem wM : QO.flat = true := rfl
attribute [go_sem] M_33 wM
theorem Uk {n : Int} {low : Int} {high : Int} {y_ : Bool} (h : CX n low high = some y_) : QO.F [.int .i64 n, .int .i64 low, .int .i64 high] = ⟨true, .bool y_, [.any, .any, .any]⟩ := by
 refine Br rfl ?_
 dsimp only [CX] at h
 obtain rfl := AC h
 refine ⟨0, fun L hL => ?_⟩
 simp only [go_sem, qr]
def qS : List Nat := [0, 2]
def qT : EL := ⟨1, 2, .seq (.region false [ VO 1 2 (.mov (.c (.bool false)))]) (.seq (.region false [ PM 3 0, PO 4 (.call 40 [(.s 0), (I6 0), (I6 10000000)]), VS 1 2 0]) (.ret)), [.t 1]⟩
noncomputable def tf : List (Nat × Bf) := [(40, QO)]
theorem jM : Aa tf 40 = some QO := rfl
noncomputable def eW : Bf := Gd tf qT [.bor]
theorem s_34 : Ad Tryz.prog 58 eW := AY _ rfl (AI mG Ab) (by kernel_rfl : BF Tryz.prog 58 qT qS = true)
theorem M_34 : eW.modes = [.bor] := rfl
theorem wL : eW.flat = true := rfl
attribute [go_sem] M_34 wL jM
theorem oe {t : Int} {y_ : Bool} (h : FA t = some y_) : eW.F [.int .i64 t] = ⟨true, .bool y_, [.any]⟩ := by
 refine Br rfl ?_
 dsimp only [FA] at h
 obtain ⟨y_1, z1, h⟩ := AE h
 have fz1 := Uk z1
 try simp only [go_sem] at fz1
 obtain rfl := AC h
 refine ⟨0, fun L hL => ?_⟩
 simp only [go_sem, qT, fz1]
def Wp : IR := .seq (.test false [ PM 4 2, PM 5 0, PO 6 (.len false (.s 0)), PO 7 (.bin false .lss (.s 2) (.s 0))] (.s 0) (.skip) (.exit 0)) (.seq (.block 1 (.anyo 47 [ SO 0 10 (.mov (.v 0)), SO 1 11 (.mov (.v 2)), SO 2 12 (.ixAddr 2 (.s 0) (.s 1)), SO 3 13 (.fldAddr 0 (.s 2)), SO 4 14 (.load false 1 (.s 3)), SO 5 15 (.callp 58 [(.s 4)]), SO 6 16 (.un .not (.s 5)), SO 7 17 (.mov (.s 6)), ⟨.slot 8, 18, (some ((.s 7), false)), .mov (.v 0)⟩, ⟨.slot 9, 19, (some ((.s 7), false)), .mov (.v 2)⟩, ⟨.slot 10, 20, (some ((.s 7), false)), .ixAddr 2 (.s 8) (.s 9)⟩, ⟨.slot 11, 21, (some ((.s 7),
 false)), .fldAddr 1 (.s 10)⟩, ⟨.slot 12, 22, (some ((.s 7), false)), .load false 1 (.s 11)⟩, ⟨.slot 13, 23, (some ((.s 7), false)), .call 58 [(.s 12)]⟩, ⟨.slot 14, 24, (some ((.s 7), false)), .un .not (.s 13)⟩, SO 15 25 (.pick (.s 7) (.c (.bool true)) (.s 14)), SO 16 26 (.mov (.s 15)), ⟨.slot 17, 27, (some ((.s 16), false)), .mov (.v 0)⟩, ⟨.slot 18, 28, (some ((.s 16), false)), .mov (.v 2)⟩, ⟨.slot 19, 29, (some ((.s 16), false)), .ixAddr 2 (.s 17) (.s 18)⟩, ⟨.slot 20, 30, (some ((.s 16), false)), .fldAddr 0 (.s 19)⟩, ⟨.slot 21, 31, (some ((.s 16), false)), .load false 1 (.s 20)⟩, ⟨.slot 22,
 32, (some ((.s 16), false)), .mov (.v 0)⟩, ⟨.slot 23, 33, (some ((.s 16), false)), .mov (.v 2)⟩, ⟨.slot 24, 34, (some ((.s 16), false)), .ixAddr 2 (.s 22) (.s 23)⟩, ⟨.slot 25, 35, (some ((.s 16), false)), .fldAddr 1 (.s 24)⟩, ⟨.slot 26, 36, (some ((.s 16), false)), .load false 1 (.s 25)⟩, ⟨.slot 27, 37, (some ((.s 16), false)), .bin false .gtr (.s 21) (.s 26)⟩, SO 28 38 (.pick (.s 16) (.c (.bool true)) (.s 27)), SO 29 39 (.mov (.s 28)), ⟨.slot 30, 40, (some ((.s 29), false)), .mov (.v 2)⟩, ⟨.slot 31, 41, (some ((.s 29), false)), .bin false .gtr (.s 30) (I6 0)⟩, ⟨.slot 32, 42, (some ((.s 29),
 false)), .mov (.s 31)⟩, ⟨.slot 33, 43, (some ((.s 32), true)), .mov (.v 0)⟩, ⟨.slot 34, 44, (some ((.s 32), true)), .mov (.v 2)⟩, ⟨.slot 35, 45, (some ((.s 32), true)), .bin false .sub (.s 34) (I6 1)⟩, ⟨.slot 36, 46, (some ((.s 32), true)), .ixAddr 2 (.s 33) (.s 35)⟩, ⟨.slot 37, 47, (some ((.s 32), true)), .fldAddr 1 (.s 36)⟩, ⟨.slot 38, 48, (some ((.s 32), true)), .load false 1 (.s 37)⟩, ⟨.slot 39, 49, (some ((.s 32), true)), .mov (.v 0)⟩, ⟨.slot 40, 50, (some ((.s 32), true)), .mov (.v 2)⟩, ⟨.slot 41, 51, (some ((.s 32), true)), .ixAddr 2 (.s 39) (.s 40)⟩, ⟨.slot 42, 52, (some ((.s 32),
 true)), .fldAddr 0 (.s 41)⟩, ⟨.slot 43, 53, (some ((.s 32), true)), .load false 1 (.s 42)⟩, ⟨.slot 44, 54, (some ((.s 32), true)), .bin false .geq (.s 38) (.s 43)⟩, ⟨.slot 45, 55, (some ((.s 29), false)), .pick (.s 32) (.s 44) (.c (.bool false))⟩, SO 46 56 (.pick (.s 29) (.c (.bool true)) (.s 45))] [] (.cond (.s 46) (.seq (.region false [ VO 1 2 (.mov (.c (.bool false)))]) (.ret)) (.skip)))) (.region false [ PM 8 2, PO 9 (.bin false .add (.s 0) (I6 1)), VS 2 3 0]))
def RP : List Bool := [true, false, true]
def RO : List Bool := [true, false, false]
def RN : List Bool := [false, true, false]
def qy : List Nat := [0, 2, 3]
def mu : EL := ⟨1, 3, .seq (.region false [ VO 1 2 (.mov (.c (.bool false)))]) (.seq (.seq (.region false [ VO 2 3 (.mov (I6 0))]) (.block 0 (.loop RP RO RN Wp))) (.seq (.region false [ PM 57 0, PO 58 (.len false (.s 0)), PO 59 (.bin false .leq (.s 0) (I6 30)), VS 1 2 0]) (.ret))), [.t 1]⟩
noncomputable def pL : List (Nat × Bf) := [(58, eW)]
theorem jL : Aa pL 58 = some eW := rfl
noncomputable def Lq : Bf := Gd pL mu [.bor]
theorem cU : Ad Tryz.prog 35 Lq := AY _ rfl (AI s_34 Ab) (by kernel_rfl : BF Tryz.prog 35 mu qy = true)
theorem M_35 : Lq.modes = [.bor] := rfl
theorem wK : Lq.flat = true := rfl
attribute [go_sem] M_35 wK jL
def TA (list : List AA) : Int → St
 | i => ⟨[.sl 2 (List.map AB list), .any, .int .i64 i], [], [], true⟩
def SV (list : List AA) : (Unit ⊕ Bool) → FT
 | .inl y => (.exit 0, ⟨[.sl 2 (List.map AB list), .any, .any], [], [], true⟩)
 | .inr y => (.ret, ⟨[.any, .bool y, .any], [], [], true⟩)
set_option maxHeartbeats 64000000 in
attribute [local go_sem] mu TA SV Wp RP RO RN in
theorem PA {list : List AA} {sgm_ : Int} {rho_ : Unit ⊕ Bool} (h : AJ (Cu list) sgm_ = some rho_) : ∃ L0, ∀ L, L0 ≤ L → Cg (BD (Aa pL) L Wp) RP RO RN L (TA list sgm_) = SV list rho_ := by
 refine BJ (E := TA list) (R := SV list) (fun y => by first | (intro c; cases c) | (rcases y with y | y <;> (intro c; cases c)) | (rcases y with y | y | y <;> (intro c; cases c))) ?_ h
 clear h
 intro i o_ h
 dsimp only [Cu] at h
 rcases AF h with ⟨z1, h⟩ | ⟨z1, h⟩
 ·try simp only [go_sem, n1, n2, n3, n4] at z1
  all_goals
  obtain ⟨z2, h⟩ := AD h
  have lz2 := BT z2
  have xz2 := AR AB list lz2
  try simp only [go_sem] at lz2
  try simp only [go_sem] at xz2
  try simp only [go_sem, n1, n2, n3, n4, z1] at z2
  all_goals
  obtain ⟨y_3, z3, h⟩ := AE h
  have fz3 := oe z3
  try simp only [go_sem, z1, z2] at fz3
  obtain ⟨z4, h⟩ := AD h
  rcases Ay z4 with ⟨gz4, z4⟩ | gz4
  ·try simp only [go_sem, n1, n2, n3, n4, z1, z2] at gz4
   all_goals
   obtain ⟨y_4, hz4⟩ := Option.isSome_iff_exists.1 z4
   have fz4 := oe hz4
   try simp only [go_sem, n1, n2, n3, n4, z1, z2, gz4] at hz4
   all_goals
   try simp only [go_sem, z1, z2, gz4] at fz4
   obtain ⟨z5, h⟩ := AD h
   rcases Ay z5 with ⟨gz5, z5⟩ | gz5
   ·try simp only [go_sem, n1, n2, n3, n4, z1, z2, gz4, hz4] at gz5
    all_goals
    have lz5 := BT z5
    have xz5 := AR AB list lz5
    try simp only [go_sem] at lz5
    try simp only [go_sem] at xz5
    try simp only [go_sem, n1, n2, n3, n4, z1, z2, gz4, hz4, gz5] at z5
    all_goals
    rcases AF h with ⟨z6, h⟩ | ⟨z6, h⟩
    all_goals
    try simp only [go_sem, n1, n2, n3, n4, z1, z2, gz4, hz4, gz5, z5] at z6
    all_goals
    obtain rfl := AC h
    refine ⟨0, fun L hL => ?_⟩
    simp only [go_sem, z1, z2, lz2, xz2, fz3, gz4, hz4, fz4, gz5, z5, lz5, xz5, z6]
   ·rcases Ud gz5 with gz5a | ⟨gz5a, gz5b⟩
    ·have gz5an := BH gz5a
     rcases JA gz5an with gz5ana | ⟨gz5ana, gz5anb⟩
     ·rcases JA gz5ana with gz5anaa | ⟨gz5anaa, gz5anab⟩
      ·try simp only [go_sem, n1, n2, n3, n4, z1, z2, gz4, hz4] at gz5anaa
       all_goals
       (simp_all)
      ·have gz5anaan := BH gz5anaa
       have gz5anabn := Fj gz5anab
       try simp only [go_sem, n1, n2, n3, n4, z1, z2, gz4, hz4] at gz5anaan
       all_goals
       try simp only [go_sem, n1, n2, n3, n4, z1, z2, gz4, hz4, gz5anaan] at gz5anabn
       all_goals
       rcases AF h with ⟨z6, h⟩ | ⟨z6, h⟩
       ·try simp only [go_sem, n1, n2, n3, n4, z1, z2, gz4, hz4, gz5anaan, gz5anabn] at z6
        all_goals
        obtain rfl := AC h
        refine ⟨0, fun L hL => ?_⟩
        simp only [go_sem, z1, z2, lz2, xz2, fz3, gz4, hz4, fz4, gz5anaan, gz5anabn, z6]
       ·try simp only [go_sem, n1, n2, n3, n4, z1, z2, gz4, hz4, gz5anaan, gz5anabn] at z6
        all_goals
        (simp_all)
     ·obtain ⟨gz5anaa, gz5anab⟩ := Dh gz5ana
      have gz5anaan := BH gz5anaa
      have gz5anabn := BH gz5anab
      try simp only [go_sem, n1, n2, n3, n4, z1, z2, gz4, hz4] at gz5anaan
      all_goals
      try simp only [go_sem, n1, n2, n3, n4, z1, z2, gz4, hz4, gz5anaan] at gz5anabn
      all_goals
      try simp only [go_sem, n1, n2, n3, n4, z1, z2, gz4, hz4, gz5anaan, gz5anabn] at gz5anb
      all_goals
      rcases AF h with ⟨z6, h⟩ | ⟨z6, h⟩
      ·try simp only [go_sem, n1, n2, n3, n4, z1, z2, gz4, hz4, gz5anaan, gz5anabn, gz5anb] at z6
       all_goals
       obtain rfl := AC h
       refine ⟨0, fun L hL => ?_⟩
       simp only [go_sem, z1, z2, lz2, xz2, fz3, gz4, hz4, fz4, gz5anaan, gz5anabn, gz5anb, z6]
      ·try simp only [go_sem, n1, n2, n3, n4, z1, z2, gz4, hz4, gz5anaan, gz5anabn, gz5anb] at z6
       all_goals
       (simp_all)
    ·have gz5an := Fj gz5a
     obtain ⟨gz5ana, gz5anb⟩ := Dh gz5an
     obtain ⟨gz5anaa, gz5anab⟩ := Dh gz5ana
     have gz5anaan := BH gz5anaa
     have gz5anabn := BH gz5anab
     try simp only [go_sem, n1, n2, n3, n4, z1, z2, gz4, hz4] at gz5anaan
     all_goals
     try simp only [go_sem, n1, n2, n3, n4, z1, z2, gz4, hz4, gz5anaan] at gz5anabn
     all_goals
     try simp only [go_sem, n1, n2, n3, n4, z1, z2, gz4, hz4, gz5anaan, gz5anabn] at gz5anb
     all_goals
     try simp only [go_sem, n1, n2, n3, n4, z1, z2, gz4, hz4, gz5anaan, gz5anabn, gz5anb] at gz5b
     all_goals
     rcases AF h with ⟨z6, h⟩ | ⟨z6, h⟩
     ·try simp only [go_sem, n1, n2, n3, n4, z1, z2, gz4, hz4, gz5anaan, gz5anabn, gz5anb, gz5b] at z6
      all_goals
      (simp_all)
     ·try simp only [go_sem, n1, n2, n3, n4, z1, z2, gz4, hz4, gz5anaan, gz5anabn, gz5anb, gz5b] at z6
      all_goals
      obtain rfl := AC h
      refine ⟨0, fun L hL => ?_⟩
      simp only [go_sem, z1, z2, lz2, xz2, fz3, gz4, hz4, fz4, gz5anaan, gz5anabn, gz5anb, gz5b, z6]
  ·have gz4n := BH gz4
   have gz4nn := Fj gz4n
   try simp only [go_sem, n1, n2, n3, n4, z1, z2] at gz4nn
   all_goals
   obtain ⟨z5, h⟩ := AD h
   rcases AF h with ⟨z6, h⟩ | ⟨z6, h⟩
   ·try simp only [go_sem, n1, n2, n3, n4, z1, z2, gz4nn] at z6
    all_goals
    obtain rfl := AC h
    refine ⟨0, fun L hL => ?_⟩
    simp only [go_sem, z1, z2, lz2, xz2, fz3, gz4nn, z6]
   ·try simp only [go_sem, n1, n2, n3, n4, z1, z2, gz4nn] at z6
    all_goals
    (simp_all)
 ·try simp only [go_sem, n1, n2, n3, n4] at z1
  all_goals
  obtain rfl := AC h
  refine ⟨0, fun L hL => ?_⟩
  simp only [go_sem, z1]
set_option maxHeartbeats 64000000 in
attribute [local go_sem] TA SV RP RO RN mu in
theorem QH {list : List AA} {y_ : Bool} (h : Ck list = some y_) : Lq.F [.sl 2 (List.map AB list)] = ⟨true, .bool y_, [.any]⟩ := by
 refine Br rfl ?_
 dsimp only [Ck] at h
 obtain ⟨y_7, z7, h⟩ := AE h
 obtain ⟨Lz7, ez7⟩ := PA z7
 rcases y_7 with y_7a | y_7b
 all_goals
 dsimp only at h
 obtain rfl := AC h
 refine ⟨Lz7, fun L hL => ?_⟩
 have ez7 := ez7 L (by omega)
 try simp only [go_sem] at ez7
 simp only [go_sem, ez7]
def Wc : IR := .seq (.test false [ PM 9 5, PM 10 0, PO 11 (.len false (.s 0)), PO 12 (.bin false .lss (.s 2) (.s 0))] (.s 0) (.skip) (.exit 0)) (.seq (.block 1 (.seq (.test false [ PM 15 4, PO 16 (.un .not (.s 0)), PO 17 (.mov (.s 0)), ⟨.push, 18, (some ((.s 0), true)), .mov (.v 0)⟩, ⟨.push, 19, (some ((.s 1), true)), .mov (.v 5)⟩, ⟨.push, 20, (some ((.s 2), true)), .ixAddr 1 (.s 1) (.s 0)⟩, ⟨.push, 21, (some ((.s 3), true)), .load false 1 (.s 0)⟩, ⟨.push, 22, (some ((.s 4), true)), .mov (.v 1)⟩, ⟨.push, 23, (some ((.s 5), true)), .bin false .geq (.s 1) (.s 0)⟩, PO 24 (.pick (.s 6) (.s 0)
 (.c (.bool false)))] (.s 0) (.seq (.region false [ VO 4 6 (.mov (.c (.bool true)))]) (.test false [ PM 25 0, PM 26 5, PO 27 (.ixAddr 1 (.s 1) (.s 0)), PO 28 (.load false 1 (.s 0)), PM 29 1, PO 30 (.bin false .gtr (.s 1) (.s 0))] (.s 0) (.region false [ PM 31 3, PM 32 1, PO 33 (.mkSl 1 (.int .i64 (0)) 1 [(0, (.s 0))]), PO 34 (.app 1 8 (.int .i64 (0)) (.s 2) (.s 0)), VS 3 5 0]) (.skip))) (.skip)) (.region false [ PM 35 3, PM 36 0, PM 37 5, PO 38 (.ixAddr 1 (.s 1) (.s 0)), PO 39 (.load false 1 (.s 0)), PO 40 (.mkSl 1 (.int .i64 (0)) 1 [(0, (.s 0))]), PO 41 (.app 1 8 (.int .i64 (0)) (.s 5) (.s
 0)), VS 3 5 0]))) (.region false [ PM 13 5, PO 14 (.bin false .add (.s 0) (I6 1)), VS 5 7 0]))
def Ql : List Bool := [true, true, false, true, true, true]
def Qk : List Bool := [false, true, false, true, true, false]
def Qj : List Bool := [false, false, true, false, false, false]
def qR : List Nat := [0, 1, 4, 5, 6, 7]
def ml : EL := ⟨2, 6, .seq (.region false [ VO 2 4 (.newnil 1)]) (.seq (.region false [ PO 8 (.mkSl 1 (.int .i64 (0)) 0 []), VS 3 5 0]) (.seq (.region false [ VO 4 6 (.mov (.c (.bool false)))]) (.seq (.seq (.region false [ VO 5 7 (.mov (I6 0))]) (.block 0 (.loop Ql Qk Qj Wc))) (.seq (.test false [ PM 42 4, PO 43 (.un .not (.s 0))] (.s 0) (.region false [ PM 44 3, PM 45 1, PO 46 (.mkSl 1 (.int .i64 (0)) 1 [(0, (.s 0))]), PO 47 (.app 1 8 (.int .i64 (0)) (.s 2) (.s 0)), VS 3 5 0]) (.skip)) (.seq (.region false [ PM 48 3, VS 2 4 0]) (.ret)))))), [.t 2]⟩
noncomputable def te : List (Nat × Bf) := []
noncomputable def eV : Bf := Gd te ml [.bor, .bor]
theorem s_36 : Ad Tryz.prog 59 eV := AY _ rfl Ab (by kernel_rfl : BF Tryz.prog 59 ml qR = true)
theorem M_36 : eV.modes = [.bor, .bor] := rfl
theorem wJ : eV.flat = true := rfl
attribute [go_sem] M_36 wJ
def Sz (list : List Int) (n : Int) : ((List Int) × Bool × Int) → St
 | (out, done, i) => ⟨[.sl 1 (List.map (AV.int .i64) list), .int .i64 n, .any, .own 3200000, .bool done, .int .i64 i], [], [(3200000, ⟨1, List.map (AV.int .i64) out⟩)], true⟩
def SU (list : List Int) (n : Int) (y : (List Int) × Bool) : FT := (.exit 0, ⟨[.any, .int .i64 n, .any, .own 3200000, .bool y.2, .any], [], [(3200000, ⟨1, List.map (AV.int .i64) y.1⟩)], true⟩)
attribute [local go_sem] ml Sz SU Wc Ql Qk Qj in
theorem Mw {list : List Int} {n : Int} {sgm_ : (List Int) × Bool × Int} {rho_ : (List Int) × Bool} (h : AJ (En list n) sgm_ = some rho_) : ∃ L0, ∀ L, L0 ≤ L → Cg (BD (Aa te) L Wc) Ql Qk Qj L (Sz list n sgm_) = SU list n rho_ := by
 refine BJ (E := Sz list n) (R := SU list n) (fun y => by first | (intro c; cases c) | (rcases y with y | y <;> (intro c; cases c)) | (rcases y with y | y | y <;> (intro c; cases c))) ?_ h
 clear h
 rintro ⟨out, done, i⟩ o_ h
 dsimp only [En] at h
 rcases AF h with ⟨z1, h⟩ | ⟨z1, h⟩
 ·try simp only [go_sem, n1, n2, n3, n4] at z1
  all_goals
  obtain ⟨z2, h⟩ := AD h
  rcases Ay z2 with ⟨gz2, z2⟩ | gz2
  ·try simp only [go_sem, n1, n2, n3, n4, z1] at gz2
   all_goals
   have lz2 := BT z2
   have xz2 := AR (AV.int .i64) list lz2
   try simp only [go_sem] at lz2
   try simp only [go_sem] at xz2
   try simp only [go_sem, n1, n2, n3, n4, z1, gz2] at z2
   all_goals
   rcases AF h with ⟨z3, h⟩ | ⟨z3, h⟩
   ·try simp only [go_sem, n1, n2, n3, n4, z1, gz2, z2] at z3
    all_goals
    obtain ⟨z4, h⟩ := AD h
    have lz4 := BT z4
    have xz4 := AR (AV.int .i64) list lz4
    try simp only [go_sem] at lz4
    try simp only [go_sem] at xz4
    try simp only [go_sem, n1, n2, n3, n4, z1, gz2, z2, z3] at z4
    all_goals
    rcases AF h with ⟨z5, h⟩ | ⟨z5, h⟩
    ·try simp only [go_sem, n1, n2, n3, n4, z1, gz2, z2, z3, z4] at z5
     all_goals
     obtain ⟨z6, h⟩ := AD h
     try simp only [go_sem, n1, n2, n3, n4, z1, gz2, z2, z3, z4, z5] at z6
     all_goals
     obtain ⟨z7, h⟩ := AD h
     try simp only [go_sem, n1, n2, n3, n4, z1, gz2, z2, z3, z4, z5, z6] at z7
     all_goals
     obtain rfl := AC h
     refine ⟨0, fun L hL => ?_⟩
     simp only [go_sem, z1, gz2, z2, lz2, xz2, z3, z4, lz4, xz4, z5, z6, z7]
    ·try simp only [go_sem, n1, n2, n3, n4, z1, gz2, z2, z3, z4] at z5
     all_goals
     obtain ⟨z8, h⟩ := AD h
     try simp only [go_sem, n1, n2, n3, n4, z1, gz2, z2, z3, z4, z5] at z8
     all_goals
     obtain rfl := AC h
     refine ⟨0, fun L hL => ?_⟩
     simp only [go_sem, z1, gz2, z2, lz2, xz2, z3, z4, lz4, xz4, z5, z8]
   ·try simp only [go_sem, n1, n2, n3, n4, z1, gz2, z2] at z3
    all_goals
    obtain ⟨z9, h⟩ := AD h
    have lz9 := BT z9
    have xz9 := AR (AV.int .i64) list lz9
    try simp only [go_sem] at lz9
    try simp only [go_sem] at xz9
    try simp only [go_sem, n1, n2, n3, n4, z1, gz2, z2, z3] at z9
    all_goals
    obtain ⟨z10, h⟩ := AD h
    try simp only [go_sem, n1, n2, n3, n4, z1, gz2, z2, z3, z9] at z10
    all_goals
    obtain rfl := AC h
    refine ⟨0, fun L hL => ?_⟩
    simp only [go_sem, z1, gz2, z2, lz2, xz2, z3, z9, lz9, xz9, z10]
  ·have gz2n := BH gz2
   try simp only [go_sem, n1, n2, n3, n4, z1] at gz2n
   all_goals
   rcases AF h with ⟨z3, h⟩ | ⟨z3, h⟩
   ·try simp only [go_sem, n1, n2, n3, n4, z1, gz2n] at z3
    all_goals
    (simp_all)
   ·try simp only [go_sem, n1, n2, n3, n4, z1, gz2n] at z3
    all_goals
    obtain ⟨z9, h⟩ := AD h
    have lz9 := BT z9
    have xz9 := AR (AV.int .i64) list lz9
    try simp only [go_sem] at lz9
    try simp only [go_sem] at xz9
    try simp only [go_sem, n1, n2, n3, n4, z1, gz2n, z3] at z9
    all_goals
    obtain ⟨z10, h⟩ := AD h
    try simp only [go_sem, n1, n2, n3, n4, z1, gz2n, z3, z9] at z10
    all_goals
    obtain rfl := AC h
    refine ⟨0, fun L hL => ?_⟩
    simp only [go_sem, z1, gz2n, z3, z9, lz9, xz9, z10]
 ·try simp only [go_sem, n1, n2, n3, n4] at z1
  all_goals
  obtain rfl := AC h
  refine ⟨0, fun L hL => ?_⟩
  simp only [go_sem, z1]
attribute [local go_sem] Sz SU Ql Qk Qj ml in
theorem bw {list : List Int} {n : Int} {y_ : (List Int)} (h : EH list n = some y_) : eV.F [.sl 1 (List.map (AV.int .i64) list), .int .i64 n] = ⟨true, .fresh 1 (List.map (AV.int .i64) y_), [.any, .any]⟩ := by
 refine Br (by simp only [EA, ES, Ei, List.all_cons, List.all_nil, Bool.and_self, Bo (f := (AV.int .i64)) (fun _ => rfl)]) ?_
 dsimp only [EH] at h
 obtain ⟨y_11, z11, h⟩ := AE h
 obtain ⟨Lz11, ez11⟩ := Mw z11
 rcases AF h with ⟨z12, h⟩ | ⟨z12, h⟩
 ·try simp only [go_sem, n1, n2, n3, n4] at z12
  all_goals
  obtain ⟨z13, h⟩ := AD h
  try simp only [go_sem, n1, n2, n3, n4, z12] at z13
  all_goals
  obtain rfl := AC h
  refine ⟨Lz11, fun L hL => ?_⟩
  have ez11 := ez11 L (by omega)
  try simp only [go_sem, z12, z13] at ez11
  simp only [go_sem, z12, z13, ez11]
 ·try simp only [go_sem, n1, n2, n3, n4] at z12
  all_goals
  obtain rfl := AC h
  refine ⟨Lz11, fun L hL => ?_⟩
  have ez11 := ez11 L (by omega)
  try simp only [go_sem, z12] at ez11
  simp only [go_sem, z12, ez11]
def Wb : IR := .seq (.test false [ PM 6 3, PM 7 0, PO 8 (.len false (.s 0)), PO 9 (.bin false .lss (.s 2) (.s 0))] (.s 0) (.skip) (.exit 0)) (.seq (.block 1 (.anyo 12 [ SO 0 12 (.mov (.v 1)), SO 1 13 (.mov (.v 0)), SO 2 14 (.mov (.v 3)), SO 3 15 (.ixAddr 2 (.s 1) (.s 2)), SO 4 16 (.fldAddr 0 (.s 3)), SO 5 17 (.load false 1 (.s 4)), SO 6 18 (.mov (.v 0)), SO 7 19 (.mov (.v 3)), SO 8 20 (.ixAddr 2 (.s 6) (.s 7)), SO 9 21 (.fldAddr 1 (.s 8)), SO 10 22 (.load false 1 (.s 9)), SO 11 23 (.callp 40 [(.s 0), (.s 5), (.s 10)])] [] (.cond (.s 11) (.seq (.region false [ VO 2 4 (.mov (.c (.bool
 true)))]) (.ret)) (.skip)))) (.region false [ PM 10 3, PO 11 (.bin false .add (.s 0) (I6 1)), VS 3 5 0]))
def Qi : List Bool := [true, true, false, true]
def Qh : List Bool := [false, false, false, false]
def Qg : List Bool := [false, false, true, false]
def qP : List Nat := [0, 1, 4, 5]
def mj : EL := ⟨2, 4, .seq (.region false [ VO 2 4 (.mov (.c (.bool false)))]) (.seq (.seq (.region false [ VO 3 5 (.mov (I6 0))]) (.block 0 (.loop Qi Qh Qg Wb))) (.seq (.region false [ VO 2 4 (.mov (.c (.bool false)))]) (.ret))), [.t 2]⟩
noncomputable def pK : List (Nat × Bf) := [(40, QO)]
theorem jK : Aa pK 40 = some QO := rfl
noncomputable def eU : Bf := Gd pK mj [.bor, .bor]
theorem s_37 : Ad Tryz.prog 60 eU := AY _ rfl (AI mG Ab) (by kernel_rfl : BF Tryz.prog 60 mj qP = true)
theorem M_37 : eU.modes = [.bor, .bor] := rfl
theorem wI : eU.flat = true := rfl
attribute [go_sem] M_37 wI jK
def Sy (list : List AA) (t : Int) : Int → St
 | i => ⟨[.sl 2 (List.map AB list), .int .i64 t, .any, .int .i64 i], [], [], true⟩
def ST (list : List AA) (t : Int) : (Unit ⊕ Bool) → FT
 | .inl y => (.exit 0, ⟨[.any, .any, .any, .any], [], [], true⟩)
 | .inr y => (.ret, ⟨[.any, .any, .bool y, .any], [], [], true⟩)
attribute [local go_sem] mj Sy ST Wb Qi Qh Qg in
theorem PB {list : List AA} {t : Int} {sgm_ : Int} {rho_ : Unit ⊕ Bool} (h : AJ (FO list t) sgm_ = some rho_) : ∃ L0, ∀ L, L0 ≤ L → Cg (BD (Aa pK) L Wb) Qi Qh Qg L (Sy list t sgm_) = ST list t rho_ := by
 refine BJ (E := Sy list t) (R := ST list t) (fun y => by first | (intro c; cases c) | (rcases y with y | y <;> (intro c; cases c)) | (rcases y with y | y | y <;> (intro c; cases c))) ?_ h
 clear h
 intro i o_ h
 dsimp only [FO] at h
 rcases AF h with ⟨z1, h⟩ | ⟨z1, h⟩
 ·try simp only [go_sem, n1, n2, n3, n4] at z1
  all_goals
  obtain ⟨z2, h⟩ := AD h
  have lz2 := BT z2
  have xz2 := AR AB list lz2
  try simp only [go_sem] at lz2
  try simp only [go_sem] at xz2
  try simp only [go_sem, n1, n2, n3, n4, z1] at z2
  all_goals
  obtain ⟨y_3, z3, h⟩ := AE h
  have fz3 := Uk z3
  try simp only [go_sem, z1, z2] at fz3
  rcases AF h with ⟨z4, h⟩ | ⟨z4, h⟩
  all_goals
  try simp only [go_sem, n1, n2, n3, n4, z1, z2] at z4
  all_goals
  obtain rfl := AC h
  refine ⟨0, fun L hL => ?_⟩
  simp only [go_sem, z1, z2, lz2, xz2, fz3, z4]
 ·try simp only [go_sem, n1, n2, n3, n4] at z1
  all_goals
  obtain rfl := AC h
  refine ⟨0, fun L hL => ?_⟩
  simp only [go_sem, z1]
attribute [local go_sem] Sy ST Qi Qh Qg mj in
theorem od {list : List AA} {t : Int} {y_ : Bool} (h : HL list t = some y_) : eU.F [.sl 2 (List.map AB list), .int .i64 t] = ⟨true, .bool y_, [.any, .any]⟩ := by
 refine Br rfl ?_
 dsimp only [HL] at h
 obtain ⟨y_5, z5, h⟩ := AE h
 obtain ⟨Lz5, ez5⟩ := PB z5
 rcases y_5 with y_5a | y_5b
 all_goals
 dsimp only at h
 obtain rfl := AC h
 refine ⟨Lz5, fun L hL => ?_⟩
 have ez5 := ez5 L (by omega)
 try simp only [go_sem] at ez5
 simp only [go_sem, ez5]
def Wo : IR := .seq (.test false [ PM 17 5, PM 18 0, PO 19 (.len false (.s 0)), PO 20 (.bin false .lss (.s 2) (.s 0))] (.s 0) (.skip) (.exit 0)) (.seq (.block 1 (.anyo 14 [ SO 0 23 (.mov (.v 4)), SO 1 24 (.mov (.v 0)), SO 2 25 (.mov (.v 5)), SO 3 26 (.ixAddr 2 (.s 1) (.s 2)), SO 4 27 (.fldAddr 0 (.s 3)), SO 5 28 (.load false 1 (.s 4)), SO 6 29 (.pur (.call 59 [(.s 0), (.s 5)])), SO 7 30 (.mov (.v 0)), SO 8 31 (.mov (.v 5)), SO 9 32 (.ixAddr 2 (.s 7) (.s 8)), SO 10 33 (.fldAddr 1 (.s 9)), SO 11 34 (.load false 1 (.s 10)), SO 12 35 (.bin false .add (.s 11) (I6 1)), SO 13 36 (.pur (.call 59
 [(.s 6), (.s 12)])), VS 4 7 13] [] .skip)) (.region false [ PM 21 5, PO 22 (.bin false .add (.s 0) (I6 1)), VS 5 8 0]))
def Lb : List Bool := [true, true, true, false, true, true, false, false, false, false, false, false, false]
def La : List Bool := [true, true, true, false, true, false, false, false, false, false, false, false, false]
def LZ : List Bool := [false, false, false, true, false, false, false, false, false, false, false, false, false]
def Wn : IR := .seq (.test false [ PM 37 6, PM 38 1, PO 39 (.len false (.s 0)), PO 40 (.bin false .lss (.s 2) (.s 0))] (.s 0) (.skip) (.exit 2)) (.seq (.block 3 (.anyo 14 [ SO 0 43 (.mov (.v 4)), SO 1 44 (.mov (.v 1)), SO 2 45 (.mov (.v 6)), SO 3 46 (.ixAddr 2 (.s 1) (.s 2)), SO 4 47 (.fldAddr 0 (.s 3)), SO 5 48 (.load false 1 (.s 4)), SO 6 49 (.pur (.call 59 [(.s 0), (.s 5)])), SO 7 50 (.mov (.v 1)), SO 8 51 (.mov (.v 6)), SO 9 52 (.ixAddr 2 (.s 7) (.s 8)), SO 10 53 (.fldAddr 1 (.s 9)), SO 11 54 (.load false 1 (.s 10)), SO 12 55 (.bin false .add (.s 11) (I6 1)), SO 13 56 (.pur (.call 59
 [(.s 6), (.s 12)])), VS 4 7 13] [] .skip)) (.region false [ PM 41 6, PO 42 (.bin false .add (.s 0) (I6 1)), VS 6 9 0]))
def Nx : List Bool := [true, true, true, false, true, false, true, false, false, false, false, false, false]
def Nw : List Bool := [true, true, true, false, true, false, false, false, false, false, false, false, false]
def Nv : List Bool := [false, false, false, true, false, false, false, false, false, false, false, false, false]
def Wm : IR := .seq (.test false [ PM 58 8, PO 59 (.bin false .add (.s 0) (I6 1)), PM 60 4, PO 61 (.len false (.s 0)), PO 62 (.bin false .lss (.s 2) (.s 0))] (.s 0) (.skip) (.exit 4)) (.seq (.block 5 (.seq (.region false [ PM 65 0, PM 66 4, PM 67 8, PO 68 (.ixAddr 1 (.s 1) (.s 0)), PO 69 (.load false 1 (.s 0)), PO 70 (.call 60 [(.s 4), (.s 0)]), VS 9 12 0]) (.seq (.region false [ PM 71 1, PM 72 4, PM 73 8, PO 74 (.ixAddr 1 (.s 1) (.s 0)), PO 75 (.load false 1 (.s 0)), PO 76 (.call 60 [(.s 4), (.s 0)]), VS 10 13 0]) (.seq (.test false [ PM 77 2, PO 78 (.bin false .eql (.s 0) (I6 1)), PO 79
 (.mov (.s 0)), ⟨.push, 80, (some ((.s 0), true)), .mov (.v 9)⟩, ⟨.push, 81, (some ((.s 1), true)), .un .not (.s 0)⟩, PO 82 (.pick (.s 2) (.s 0) (.c (.bool false))), PO 83 (.mov (.s 0)), ⟨.push, 84, (some ((.s 0), true)), .mov (.v 10)⟩, ⟨.push, 85, (some ((.s 1), true)), .un .not (.s 0)⟩, PO 86 (.pick (.s 2) (.s 0) (.c (.bool false))), PO 87 (.mov (.s 0)), ⟨.push, 88, (some ((.s 0), false)), .mov (.v 2)⟩, ⟨.push, 89, (some ((.s 1), false)), .bin false .eql (.s 0) (I6 2)⟩, ⟨.push, 90, (some ((.s 2), false)), .mov (.s 0)⟩, ⟨.push, 91, (some ((.s 0), true)), .mov (.v 9)⟩, ⟨.push, 92, (some ((.s
 1), true)), .un .not (.s 0)⟩, ⟨.push, 93, (some ((.s 2), true)), .mov (.s 0)⟩, ⟨.push, 94, (some ((.s 0), false)), .mov (.v 10)⟩, ⟨.push, 95, (some ((.s 1), false)), .un .not (.s 0)⟩, ⟨.push, 96, (some ((.s 5), true)), .pick (.s 2) (.c (.bool true)) (.s 0)⟩, ⟨.push, 97, (some ((.s 9), false)), .pick (.s 6) (.s 0) (.c (.bool false))⟩, PO 98 (.pick (.s 10) (.c (.bool true)) (.s 0)), PO 99 (.mov (.s 0)), ⟨.push, 100, (some ((.s 0), false)), .mov (.v 2)⟩, ⟨.push, 101, (some ((.s 1), false)), .bin false .eql (.s 0) (I6 3)⟩, ⟨.push, 102, (some ((.s 2), false)), .mov (.s 0)⟩, ⟨.push, 103, (some ((.s
 0), true)), .mov (.v 9)⟩, ⟨.push, 104, (some ((.s 1), true)), .un .not (.s 0)⟩, ⟨.push, 105, (some ((.s 2), true)), .mov (.s 0)⟩, ⟨.push, 106, (some ((.s 0), false)), .mov (.v 10)⟩, ⟨.push, 107, (some ((.s 4), true)), .pick (.s 1) (.c (.bool true)) (.s 0)⟩, ⟨.push, 108, (some ((.s 8), false)), .pick (.s 5) (.s 0) (.c (.bool false))⟩, PO 109 (.pick (.s 9) (.c (.bool true)) (.s 0))] (.s 0) (.exit 5) (.skip)) (.seq (.region false [ PM 110 7, PO 111 (.len false (.s 0)), VS 11 14 0]) (.anyo 16 [ SO 0 112 (.mov (.v 11)), SO 1 113 (.bin false .gtr (.s 0) (I6 0)), SO 2 114 (.mov (.s 1)), ⟨.slot 3,
 115, (some ((.s 2), true)), .mov (.v 7)⟩, ⟨.slot 4, 116, (some ((.s 2), true)), .mov (.v 11)⟩, ⟨.slot 5, 117, (some ((.s 2), true)), .bin false .sub (.s 4) (I6 1)⟩, ⟨.slot 6, 118, (some ((.s 2), true)), .ixAddr 2 (.s 3) (.s 5)⟩, ⟨.slot 7, 119, (some ((.s 2), true)), .fldAddr 1 (.s 6)⟩, ⟨.slot 8, 120, (some ((.s 2), true)), .load false 1 (.s 7)⟩, ⟨.slot 9, 121, (some ((.s 2), true)), .bin false .add (.s 8) (I6 1)⟩, ⟨.slot 10, 122, (some ((.s 2), true)), .mov (.v 4)⟩, ⟨.slot 11, 123, (some ((.s 2), true)), .mov (.v 8)⟩, ⟨.slot 12, 124, (some ((.s 2), true)), .ixAddr 1 (.s 10) (.s 11)⟩, ⟨.slot
 13, 125, (some ((.s 2), true)), .load false 1 (.s 12)⟩, ⟨.slot 14, 126, (some ((.s 2), true)), .bin false .eql (.s 9) (.s 13)⟩, SO 15 127 (.pick (.s 2) (.s 14) (.c (.bool false)))] [] (.cond (.s 15) (.seq (.region false [ PM 128 7, PM 129 11, PO 130 (.bin false .sub (.s 0) (I6 1)), PO 131 (.ixAddr 2 (.s 2) (.s 0)), PO 132 (.load true 2 (.s 0)), VO 12 15 (.alloc (.agg [.int .i64 (0), .int .i64 (0)])), ⟨.no, 0, none, .store 2 (.v 12) (.s 0)⟩]) (.seq (.region false [ PM 133 4, PM 134 8, PO 135 (.bin false .add (.s 0) (I6 1)), PO 136 (.ixAddr 1 (.s 2) (.s 0)), PO 137 (.load false 1 (.s 0)), PO 138
 (.bin false .sub (.s 0) (I6 1)), PO 139 (.fldAddr 1 (.v 12)), ⟨.no, 0, none, .store 1 (.s 0) (.s 1)⟩]) (.region false [ PM 140 7, PM 141 11, PO 142 (.bin false .sub (.s 0) (I6 1)), PO 143 (.load true 2 (.v 12)), PO 144 (.ixAddr 2 (.s 3) (.s 1)), ⟨.no, 0, none, .store 2 (.s 0) (.s 1)⟩]))) (.anyo 14 [ SO 0 145 (.mov (.v 7)), SO 1 146 (.mov (.v 4)), SO 2 147 (.mov (.v 8)), SO 3 148 (.ixAddr 1 (.s 1) (.s 2)), SO 4 149 (.load false 1 (.s 3)), SO 5 150 (.mov (.v 4)), SO 6 151 (.mov (.v 8)), SO 7 152 (.bin false .add (.s 6) (I6 1)), SO 8 153 (.ixAddr 1 (.s 5) (.s 7)), SO 9 154 (.load false 1 (.s 8)),
 SO 10 155 (.bin false .sub (.s 9) (I6 1)), SO 11 156 (.pur (.build [.int .i64 (0), .int .i64 (0)] [(0, 1, (.s 4)), (1, 1, (.s 10))])), SO 12 157 (.pur (.mkSl 2 (.agg [.int .i64 (0), .int .i64 (0)]) 1 [(0, (.s 11))])), SO 13 158 (.app 2 16 (.agg [.int .i64 (0), .int .i64 (0)]) (.s 0) (.s 12)), VS 7 10 13] [] .skip)))))))) (.region false [ PM 63 8, PO 64 (.bin false .add (.s 0) (I6 1)), VS 8 11 0]))
def RM : List Bool := [true, true, true, false, true, false, false, true, true, false, false, false, false]
def RL : List Bool := [false, false, false, false, false, false, false, true, false, false, false, false, false]
def RK : List Bool := [false, false, false, true, false, false, false, false, false, false, false, false, false]
def qx : List Nat := [0, 1, 2, 6, 7, 8, 9, 10, 11, 12, 13, 14, 15]
def dJ : EL := ⟨3, 13, .seq (.region false [ VO 3 6 (.newnil 2)]) (.seq (.region false [ PO 16 (.pur (.mkSl 1 (.int .i64 (0)) 0 [])), VS 4 7 0]) (.seq (.seq (.region false [ VO 5 8 (.mov (I6 0))]) (.block 0 (.loop Lb La LZ Wo))) (.seq (.seq (.region false [ VO 6 9 (.mov (I6 0))]) (.block 2 (.loop Nx Nw Nv Wn))) (.seq (.region false [ PO 57 (.mkSl 2 (.agg [.int .i64 (0), .int .i64 (0)]) 0 []), VS 7 10 0]) (.seq (.seq (.region false [ VO 8 11 (.mov (I6 0))]) (.block 4 (.loop RM RL RK Wm))) (.seq (.region false [ PM 159 7, VS 3 6 0])
 (.ret))))))), [.t 3]⟩
noncomputable def cL : List (Nat × Bf) := [(59, eV), (60, eU)]
theorem jJ : Aa cL 59 = some eV := rfl
theorem jI : Aa cL 60 = some eU := rfl
noncomputable def eT : Bf := Gd cL dJ [.bor, .bor, .bor]
theorem s_38 : Ad Tryz.prog 36 eT := AY _ rfl (AI s_36 (AI s_37 Ab)) (by kernel_rfl : BF Tryz.prog 36 dJ qx = true)
theorem M_38 : eT.modes = [.bor, .bor, .bor] := rfl
theorem wH : eT.flat = true := rfl
attribute [go_sem] M_38 wH jJ jI
def Ll (a : List AA) (b : List AA) (rule : Int) : ((List Int) × Int) → St
 | (cuts, i) => ⟨[.sl 2 (List.map AB a), .sl 2 (List.map AB b), .int .i64 rule, .any, .sl 1 (List.map (AV.int .i64) cuts), .int .i64 i, .any, .any, .any, .any, .any, .any, .any], [], [], true⟩
def Lh (a : List AA) (b : List AA) (rule : Int) (y : (List Int)) : FT := (.exit 0, ⟨[.sl 2 (List.map AB a), .sl 2 (List.map AB b), .int .i64 rule, .any, .sl 1 (List.map (AV.int .i64) y), .any, .any, .any, .any, .any, .any, .any, .any], [], [], true⟩)
set_option maxHeartbeats 64000000 in
attribute [local go_sem] dJ Ll Lh Wo Lb La LZ in
theorem MN {a : List AA} {b : List AA} {rule : Int} {sgm_ : (List Int) × Int} {rho_ : (List Int)} (h : AJ (FJ a b rule) sgm_ = some rho_) : ∃ L0, ∀ L, L0 ≤ L → Cg (BD (Aa cL) L Wo) Lb La LZ L (Ll a b rule sgm_) = Lh a b rule rho_ := by
 refine BJ (E := Ll a b rule) (R := Lh a b rule) (fun y => by first | (intro c; cases c) | (rcases y with y | y <;> (intro c; cases c)) | (rcases y with y | y | y <;> (intro c; cases c))) ?_ h
 clear h
 rintro ⟨cuts, i⟩ o_ h
 dsimp only [FJ] at h
 rcases AF h with ⟨z1, h⟩ | ⟨z1, h⟩
 ·try simp only [go_sem, n1, n2, n3, n4] at z1
  all_goals
  obtain ⟨z2, h⟩ := AD h
  have lz2 := BT z2
  have xz2 := AR AB a lz2
  try simp only [go_sem] at lz2
  try simp only [go_sem] at xz2
  try simp only [go_sem, n1, n2, n3, n4, z1] at z2
  all_goals
  obtain ⟨y_3, z3, h⟩ := AE h
  have fz3 := bw z3
  try simp only [go_sem, z1, z2] at fz3
  obtain ⟨y_4, z4, h⟩ := AE h
  have fz4 := bw z4
  try simp only [go_sem, z1, z2] at fz4
  obtain rfl := AC h
  refine ⟨0, fun L hL => ?_⟩
  simp only [go_sem, z1, z2, lz2, xz2, fz3, fz4]
 ·try simp only [go_sem, n1, n2, n3, n4] at z1
  all_goals
  obtain rfl := AC h
  refine ⟨0, fun L hL => ?_⟩
  simp only [go_sem, z1]
def On (a : List AA) (b : List AA) (rule : Int) : ((List Int) × Int) → St
 | (cuts, i) => ⟨[.sl 2 (List.map AB a), .sl 2 (List.map AB b), .int .i64 rule, .any, .sl 1 (List.map (AV.int .i64) cuts), .any, .int .i64 i, .any, .any, .any, .any, .any, .any], [], [], true⟩
def Oe (a : List AA) (b : List AA) (rule : Int) (y : (List Int)) : FT := (.exit 2, ⟨[.sl 2 (List.map AB a), .sl 2 (List.map AB b), .int .i64 rule, .any, .sl 1 (List.map (AV.int .i64) y), .any, .any, .any, .any, .any, .any, .any, .any], [], [], true⟩)
set_option maxHeartbeats 64000000 in
attribute [local go_sem] dJ On Oe Wn Nx Nw Nv Ll Lh Lb La LZ in
theorem MM {a : List AA} {b : List AA} {rule : Int} {sgm_ : (List Int) × Int} {rho_ : (List Int)} (h : AJ (FI a b rule) sgm_ = some rho_) : ∃ L0, ∀ L, L0 ≤ L → Cg (BD (Aa cL) L Wn) Nx Nw Nv L (On a b rule sgm_) = Oe a b rule rho_ := by
 refine BJ (E := On a b rule) (R := Oe a b rule) (fun y => by first | (intro c; cases c) | (rcases y with y | y <;> (intro c; cases c)) | (rcases y with y | y | y <;> (intro c; cases c))) ?_ h
 clear h
 rintro ⟨cuts, i⟩ o_ h
 dsimp only [FI] at h
 rcases AF h with ⟨z6, h⟩ | ⟨z6, h⟩
 ·try simp only [go_sem, n1, n2, n3, n4] at z6
  all_goals
  obtain ⟨z7, h⟩ := AD h
  have lz7 := BT z7
  have xz7 := AR AB b lz7
  try simp only [go_sem] at lz7
  try simp only [go_sem] at xz7
  try simp only [go_sem, n1, n2, n3, n4, z6] at z7
  all_goals
  obtain ⟨y_8, z8, h⟩ := AE h
  have fz8 := bw z8
  try simp only [go_sem, z6, z7] at fz8
  obtain ⟨y_9, z9, h⟩ := AE h
  have fz9 := bw z9
  try simp only [go_sem, z6, z7] at fz9
  obtain rfl := AC h
  refine ⟨0, fun L hL => ?_⟩
  simp only [go_sem, z6, z7, lz7, xz7, fz8, fz9]
 ·try simp only [go_sem, n1, n2, n3, n4] at z6
  all_goals
  obtain rfl := AC h
  refine ⟨0, fun L hL => ?_⟩
  simp only [go_sem, z6]
def Sx (a : List AA) (b : List AA) (rule : Int) (cuts : List Int) : ((List AA) × Int) → St
 | (out, i) => ⟨[.sl 2 (List.map AB a), .sl 2 (List.map AB b), .int .i64 rule, .any, .sl 1 (List.map (AV.int .i64) cuts), .any, .any, .own 3200000, .int .i64 i, .any, .any, .any, .any], [], [(3200000, ⟨2, List.map AB out⟩)], true⟩
def SS (a : List AA) (b : List AA) (rule : Int) (cuts : List Int) (y : (List AA)) : FT := (.exit 4, ⟨[.any, .any, .any, .any, .any, .any, .any, .own 3200000, .any, .any, .any, .any, .any], [], [(3200000, ⟨2, List.map AB y⟩)], true⟩)
set_option maxHeartbeats 64000000 in
attribute [local go_sem] dJ Sx SS Wm RM RL RK Ll Lh Lb La LZ On Oe Nx Nw Nv in
theorem ML {a : List AA} {b : List AA} {rule : Int} {cuts : List Int} {sgm_ : (List AA) × Int} {rho_ : (List AA)} (h : AJ (BW a b rule cuts) sgm_ = some rho_) : ∃ L0, ∀ L, L0 ≤ L → Cg (BD (Aa cL) L Wm) RM RL RK L (Sx a b rule cuts sgm_) = SS a b rule cuts rho_ := by
 refine BJ (E := Sx a b rule cuts) (R := SS a b rule cuts) (fun y => by first | (intro c; cases c) | (rcases y with y | y <;> (intro c; cases c)) | (rcases y with y | y | y <;> (intro c; cases c))) ?_ h
 clear h
 rintro ⟨out, i⟩ o_ h
 dsimp only [BW] at h
 rcases AF h with ⟨z11, h⟩ | ⟨z11, h⟩
 ·try simp only [go_sem, n1, n2, n3, n4] at z11
  all_goals
  obtain ⟨z12, h⟩ := AD h
  have lz12 := BT z12
  have xz12 := AR (AV.int .i64) cuts lz12
  try simp only [go_sem] at lz12
  try simp only [go_sem] at xz12
  try simp only [go_sem, n1, n2, n3, n4, z11] at z12
  all_goals
  obtain ⟨y_13, z13, h⟩ := AE h
  have fz13 := od z13
  try simp only [go_sem, z11, z12] at fz13
  obtain ⟨y_14, z14, h⟩ := AE h
  have fz14 := od z14
  try simp only [go_sem, z11, z12] at fz14
  rcases AF h with ⟨z15, h⟩ | ⟨z15, h⟩
  ·try simp only [go_sem, n1, n2, n3, n4, z11, z12] at z15
   all_goals
   obtain rfl := AC h
   refine ⟨0, fun L hL => ?_⟩
   simp only [go_sem, z11, z12, lz12, xz12, fz13, fz14, z15]
  ·try simp only [go_sem, n1, n2, n3, n4, z11, z12] at z15
   all_goals
   obtain ⟨z16, h⟩ := AD h
   rcases Ay z16 with ⟨gz16, z16⟩ | gz16
   ·try simp only [go_sem, n1, n2, n3, n4, z11, z12, z15] at gz16
    all_goals
    have lz16 := BT z16
    have xz16 := AR AB out lz16
    try simp only [go_sem] at lz16
    try simp only [go_sem] at xz16
    try simp only [go_sem, n1, n2, n3, n4, z11, z12, z15, gz16] at z16
    all_goals
    rcases AF h with ⟨z17, h⟩ | ⟨z17, h⟩
    ·try simp only [go_sem, n1, n2, n3, n4, z11, z12, z15, gz16, z16] at z17
     all_goals
     obtain ⟨z18, h⟩ := AD h
     have lz18 := BT z18
     have xz18 := AR AB out lz18
     try simp only [go_sem] at lz18
     try simp only [go_sem] at xz18
     try simp only [go_sem, n1, n2, n3, n4, z11, z12, z15, gz16, z16, z17] at z18
     all_goals
     obtain ⟨z19, h⟩ := AD h
     have lz19 := BT z19
     have xz19 := AR (AV.int .i64) cuts lz19
     try simp only [go_sem] at lz19
     try simp only [go_sem] at xz19
     try simp only [go_sem, n1, n2, n3, n4, z11, z12, z15, gz16, z16, z17, z18] at z19
     all_goals
     obtain rfl := AC h
     refine ⟨0, fun L hL => ?_⟩
     simp only [go_sem, z11, z12, lz12, xz12, fz13, fz14, z15, gz16, z16, lz16, xz16, z17, z18, lz18, xz18, z19, lz19, xz19]
    ·try simp only [go_sem, n1, n2, n3, n4, z11, z12, z15, gz16, z16] at z17
     all_goals
     obtain ⟨z20, h⟩ := AD h
     have lz20 := BT z20
     have xz20 := AR (AV.int .i64) cuts lz20
     try simp only [go_sem] at lz20
     try simp only [go_sem] at xz20
     try simp only [go_sem, n1, n2, n3, n4, z11, z12, z15, gz16, z16, z17] at z20
     all_goals
     obtain ⟨z21, h⟩ := AD h
     try simp only [go_sem, n1, n2, n3, n4, z11, z12, z15, gz16, z16, z17, z20] at z21
     all_goals
     obtain rfl := AC h
     refine ⟨0, fun L hL => ?_⟩
     simp only [go_sem, z11, z12, lz12, xz12, fz13, fz14, z15, gz16, z16, lz16, xz16, z17, z20, lz20, xz20, z21]
   ·try simp only [go_sem, n1, n2, n3, n4, z11, z12, z15] at gz16
    all_goals
    rcases AF h with ⟨z17, h⟩ | ⟨z17, h⟩
    ·try simp only [go_sem, n1, n2, n3, n4, z11, z12, z15, gz16] at z17
     all_goals
     (simp_all)
    ·try simp only [go_sem, n1, n2, n3, n4, z11, z12, z15, gz16] at z17
     all_goals
     obtain ⟨z20, h⟩ := AD h
     have lz20 := BT z20
     have xz20 := AR (AV.int .i64) cuts lz20
     try simp only [go_sem] at lz20
     try simp only [go_sem] at xz20
     try simp only [go_sem, n1, n2, n3, n4, z11, z12, z15, gz16, z17] at z20
     all_goals
     obtain ⟨z21, h⟩ := AD h
     try simp only [go_sem, n1, n2, n3, n4, z11, z12, z15, gz16, z17, z20] at z21
     all_goals
     obtain rfl := AC h
     refine ⟨0, fun L hL => ?_⟩
     simp only [go_sem, z11, z12, lz12, xz12, fz13, fz14, z15, gz16, z17, z20, lz20, xz20, z21]
 ·try simp only [go_sem, n1, n2, n3, n4] at z11
  all_goals
  obtain rfl := AC h
  refine ⟨0, fun L hL => ?_⟩
  simp only [go_sem, z11]
set_option maxHeartbeats 64000000 in
attribute [local go_sem] Ll Lh Lb La LZ On Oe Nx Nw Nv Sx SS RM RL RK dJ in
theorem oc {a : List AA} {b : List AA} {rule : Int} {y_ : (List AA)} (h : Fy a b rule = some y_) : eT.F [.sl 2 (List.map AB a), .sl 2 (List.map AB b), .int .i64 rule] = ⟨true, .fresh 2 (List.map AB y_), [.any, .any, .any]⟩ := by
 refine Br (by simp only [EA, ES, Ei, List.all_cons, List.all_nil, Bool.and_self, Bo (f := AB) (fun _ => rfl)]) ?_
 dsimp only [Fy] at h
 obtain ⟨y_5, z5, h⟩ := AE h
 obtain ⟨Lz5, ez5⟩ := MN z5
 obtain ⟨y_10, z10, h⟩ := AE h
 obtain ⟨Lz10, ez10⟩ := MM z10
 obtain ⟨y_22, z22, h⟩ := AE h
 obtain ⟨Lz22, ez22⟩ := ML z22
 obtain rfl := AC h
 refine ⟨Lz5 + Lz10 + Lz22, fun L hL => ?_⟩
 have ez5 := ez5 L (by omega)
 have ez10 := ez10 L (by omega)
 have ez22 := ez22 L (by omega)
 try simp only [go_sem] at ez5
 try simp only [go_sem] at ez10
 try simp only [go_sem] at ez22
 simp only [go_sem, ez5, ez10, ez22]
def uP : List Nat := [0, 1, 2, 6, 7, 8]
def qI : EL := ⟨3, 6, .seq (.region false [ VO 3 6 (.newnil 2), VO 4 7 (.mov (I6 0))]) (.seq (.test false [ PM 9 0, PO 10 (.call 35 [(.s 0)]), PO 11 (.un .not (.s 0)), PO 12 (.mov (.s 0)), ⟨.push, 13, (some ((.s 0), false)), .mov (.v 1)⟩, ⟨.push, 14, (some ((.s 1), false)), .call 35 [(.s 0)]⟩, ⟨.push, 15, (some ((.s 2), false)), .un .not (.s 0)⟩, PO 16 (.pick (.s 3) (.c (.bool true)) (.s 0)), PO 17 (.mov (.s 0)), ⟨.push, 18, (some ((.s 0), false)), .mov (.v 2)⟩, ⟨.push, 19, (some ((.s 1), false)), .call 35 [(.s 0)]⟩, ⟨.push, 20, (some ((.s 2), false)), .un .not (.s 0)⟩, PO 21 (.pick (.s 3)
 (.c (.bool true)) (.s 0))] (.s 0) (.seq (.region false [ VO 3 6 (.newnil 2), VO 4 7 (.mov (I6 1))]) (.ret)) (.skip)) (.seq (.region false [ PM 22 0, PM 23 1, PO 24 (.call 36 [(.s 1), (.s 0), (I6 3)]), PM 25 2, PO 26 (.call 36 [(.s 1), (.s 0), (I6 3)]), VS 5 8 0]) (.seq (.test false [ PM 27 5, PO 28 (.len false (.s 0)), PO 29 (.bin false .eql (.s 0) (I6 0)), PO 30 (.mov (.s 0)), ⟨.push, 31, (some ((.s 0), true)), .mov (.v 0)⟩, ⟨.push, 32, (some ((.s 1), true)), .len false (.s 0)⟩, ⟨.push, 33, (some ((.s 2), true)), .bin false .gtr (.s 0) (I6 0)⟩, PO 34 (.pick (.s 3) (.s 0) (.c (.bool false)))]
 (.s 0) (.seq (.region false [ VO 3 6 (.newnil 2), VO 4 7 (.mov (I6 10))]) (.ret)) (.skip)) (.seq (.test false [ PM 35 5, PO 36 (.len false (.s 0)), PO 37 (.bin false .gtr (.s 0) (I6 30))] (.s 0) (.seq (.region false [ VO 3 6 (.newnil 2), VO 4 7 (.mov (I6 5))]) (.ret)) (.skip)) (.seq (.region false [ PM 38 5, VS 3 6 0, VO 4 7 (.mov (I6 0))]) (.ret)))))), [.t 3, .t 4]⟩
noncomputable def pJ : List (Nat × Bf) := [(35, Lq), (36, eT)]
theorem jH : Aa pJ 35 = some Lq := rfl
theorem jG : Aa pJ 36 = some eT := rfl
noncomputable def eS : Bf := Gd pJ qI [.bor, .bor, .bor]
theorem s_39 : Ad Tryz.prog 7 eS := AY _ rfl (AI cU (AI s_38 Ab)) (by kernel_rfl : BF Tryz.prog 7 qI uP = true)
theorem M_39 : eS.modes = [.bor, .bor, .bor] := rfl
theorem wG : eS.flat = true := rfl
attribute [go_sem] M_39 wG jH jG
theorem vE {nights : List AA} {moon : List AA} {clouds : List AA} {y_ : (List AA) × Int} (h : Fi nights moon clouds = some y_) : eS.F [.sl 2 (List.map AB nights), .sl 2 (List.map AB moon), .sl 2 (List.map AB clouds)] = ⟨true, .tup [.fresh 2 (List.map AB y_.1), .int .i64 y_.2], [.any, .any, .any]⟩ := by
 refine Br (by simp only [EA, ES, Ei, List.all_cons, List.all_nil, Bool.and_self, Bo (f := AB) (fun _ => rfl)]) ?_
 dsimp only [Fi] at h
 obtain ⟨y_1, z1, h⟩ := AE h
 have fz1 := QH z1
 try simp only [go_sem] at fz1
 obtain ⟨z2, h⟩ := AD h
 rcases Ay z2 with ⟨gz2, z2⟩ | gz2
 ·try simp only [go_sem, n1, n2, n3, n4] at gz2
  all_goals
  obtain ⟨y_2, hz2⟩ := Option.isSome_iff_exists.1 z2
  have fz2 := QH hz2
  try simp only [go_sem, n1, n2, n3, n4, gz2] at hz2
  all_goals
  try simp only [go_sem, gz2] at fz2
  obtain ⟨z3, h⟩ := AD h
  rcases Ay z3 with ⟨gz3, z3⟩ | gz3
  ·try simp only [go_sem, n1, n2, n3, n4, gz2, hz2] at gz3
   all_goals
   obtain ⟨y_3, hz3⟩ := Option.isSome_iff_exists.1 z3
   have fz3 := QH hz3
   try simp only [go_sem, n1, n2, n3, n4, gz2, hz2, gz3] at hz3
   all_goals
   try simp only [go_sem, gz2, hz2, gz3] at fz3
   rcases AF h with ⟨z4, h⟩ | ⟨z4, h⟩
   ·try simp only [go_sem, n1, n2, n3, n4, gz2, hz2, gz3, hz3] at z4
    all_goals
    obtain rfl := AC h
    refine ⟨0, fun L hL => ?_⟩
    simp only [go_sem, qI, fz1, gz2, hz2, fz2, gz3, hz3, fz3, z4]
   ·try simp only [go_sem, n1, n2, n3, n4, gz2, hz2, gz3, hz3] at z4
    all_goals
    obtain ⟨y_5, z5, h⟩ := AE h
    have fz5 := oc z5
    try simp only [go_sem, gz2, hz2, gz3, hz3, z4] at fz5
    obtain ⟨y_6, z6, h⟩ := AE h
    have fz6 := oc z6
    try simp only [go_sem, gz2, hz2, gz3, hz3, z4] at fz6
    rcases AF h with ⟨z7, h⟩ | ⟨z7, h⟩
    ·try simp only [go_sem, n1, n2, n3, n4, gz2, hz2, gz3, hz3, z4] at z7
     all_goals
     obtain rfl := AC h
     refine ⟨0, fun L hL => ?_⟩
     simp only [go_sem, qI, fz1, gz2, hz2, fz2, gz3, hz3, fz3, z4, fz5, fz6, z7]
    ·try simp only [go_sem, n1, n2, n3, n4, gz2, hz2, gz3, hz3, z4] at z7
     all_goals
     rcases AF h with ⟨z8, h⟩ | ⟨z8, h⟩
     all_goals
     try simp only [go_sem, n1, n2, n3, n4, gz2, hz2, gz3, hz3, z4, z7] at z8
     all_goals
     obtain rfl := AC h
     refine ⟨0, fun L hL => ?_⟩
     simp only [go_sem, qI, fz1, gz2, hz2, fz2, gz3, hz3, fz3, z4, fz5, fz6, z7, z8]
  ·have gz3n := BH gz3
   rcases JA gz3n with gz3na | ⟨gz3na, gz3nb⟩
   ·try simp only [go_sem, n1, n2, n3, n4, gz2, hz2] at gz3na
    all_goals
    (simp_all)
   ·have gz3nan := BH gz3na
    have gz3nbn := Fj gz3nb
    try simp only [go_sem, n1, n2, n3, n4, gz2, hz2] at gz3nan
    all_goals
    try simp only [go_sem, n1, n2, n3, n4, gz2, hz2, gz3nan] at gz3nbn
    all_goals
    rcases AF h with ⟨z4, h⟩ | ⟨z4, h⟩
    ·try simp only [go_sem, n1, n2, n3, n4, gz2, hz2, gz3nan, gz3nbn] at z4
     all_goals
     obtain rfl := AC h
     refine ⟨0, fun L hL => ?_⟩
     simp only [go_sem, qI, fz1, gz2, hz2, fz2, gz3nan, gz3nbn, z4]
    ·try simp only [go_sem, n1, n2, n3, n4, gz2, hz2, gz3nan, gz3nbn] at z4
     all_goals
     (simp_all)
 ·have gz2n := BH gz2
  have gz2nn := Fj gz2n
  try simp only [go_sem, n1, n2, n3, n4] at gz2nn
  all_goals
  obtain ⟨z3, h⟩ := AD h
  rcases AF h with ⟨z4, h⟩ | ⟨z4, h⟩
  ·try simp only [go_sem, n1, n2, n3, n4, gz2nn] at z4
   all_goals
   obtain rfl := AC h
   refine ⟨0, fun L hL => ?_⟩
   simp only [go_sem, qI, fz1, gz2nn, z4]
  ·try simp only [go_sem, n1, n2, n3, n4, gz2nn] at z4
   all_goals
   (simp_all)
def uO : List Nat := [0, 2, 3, 4, 5, 6, 7, 8, 9]
def ir8 : EL := ⟨1, 9, .seq (.region false [ VO 1 2 (.mov (I6 0)), VO 2 3 (.mov (I6 0)), VO 3 4 (.mov (I6 0)), VO 4 5 (.mov (I6 0))]) (.seq (.region false [ PM 10 0, PO 11 (.call 29 [(.s 0)]), VS 5 6 0]) (.seq (.region false [ PM 12 5, PO 13 (.call 37 [(.s 0), (I6 900)]), VS 6 7 0]) (.seq (.test false [ PM 14 5, PO 15 (.call 31 [(.s 0), (I6 8)])] (.s 0) (.region false [ PM 16 5, PO 17 (.mkSl 1 (.int .i64 (0)) 5 [(0, (.c (.int .i64 (-1)))), (1, (I6 0)), (2, (I6 980)), (3, (I6 999)), (4, (I6 1000))]), PO 18 (.call 38 [(.s 1), (.s 0)]), VS 6 7 0]) (.skip)) (.seq (.region false [ PM 19 5, PO 20
 (.call 37 [(.s 0), (I6 8)]), VS 7 8 0]) (.seq (.test false [ PM 21 5, PO 22 (.call 31 [(.s 0), (I6 10)])] (.s 0) (.region false [ PM 23 5, PO 24 (.mkSl 1 (.int .i64 (0)) 4 [(0, (.c (.int .i64 (-1)))), (1, (I6 0)), (2, (I6 30)), (3, (I6 31))]), PO 25 (.call 38 [(.s 1), (.s 0)]), VS 7 8 0]) (.skip)) (.seq (.region false [ PM 26 5, PO 27 (.call 37 [(.s 0), (I6 2000)]), PO 28 (.bin false .add (I6 7000) (.s 0)), VS 8 9 0]) (.seq (.test false [ PM 29 5, PO 30 (.call 31 [(.s 0), (I6 12)])] (.s 0) (.region false [ PM 31 5, PO 32 (.mkSl 1 (.int .i64 (0)) 5 [(0, (.c (.int .i64 (-1)))), (1, (I6 0)), (2,
 (I6 1)), (3, (I6 9999)), (4, (I6 10000))]), PO 33 (.call 38 [(.s 1), (.s 0)]), VS 8 9 0]) (.skip)) (.seq (.test false [ PM 34 5, PO 35 (.call 31 [(.s 0), (I6 12)])] (.s 0) (.seq (.region false [ PM 36 6, PM 37 7, PM 38 8, PM 39 5, PM 40 8, PO 41 (.bin false .sub (.s 0) (I6 1)), PM 42 8, PO 43 (.mkSl 1 (.int .i64 (0)) 5 [(0, (.c (.int .i64 (-1)))), (1, (I6 0)), (2, (.s 1)), (3, (.s 0)), (4, (I6 10000))]), PO 44 (.call 38 [(.s 4), (.s 0)]), VS 1 2 8, VS 2 3 7, VS 3 4 6, VS 4 5 0]) (.ret)) (.skip)) (.seq (.region false [ PM 45 6, PM 46 7, PM 47 8, PM 48 5, PO 49 (.call 37 [(.s 0), (I6 2000)]), PO
 50 (.bin false .add (I6 1000) (.s 0)), VS 1 2 5, VS 2 3 4, VS 3 4 3, VS 4 5 0]) (.ret)))))))))), [.t 1, .t 2, .t 3, .t 4]⟩
noncomputable def fX : List (Nat × Bf) := [(29, Xl), (37, Uo), (31, Lr), (38, Uw)]
theorem jF : Aa fX 29 = some Xl := rfl
theorem jD : Aa fX 37 = some Uo := rfl
theorem jE : Aa fX 31 = some Lr := rfl
theorem jC : Aa fX 38 = some Uw := rfl
noncomputable def eR : Bf := Gd fX ir8 [.bor]
theorem s_40 : Ad Tryz.prog 8 eR := AY _ rfl (AI pc (AI mF (AI cV (AI pf Ab)))) (by kernel_rfl : BF Tryz.prog 8 ir8 uO = true)
theorem M_40 : eR.modes = [.bor] := rfl
theorem wF : eR.flat = true := rfl
attribute [go_sem] M_40 wF jF jD jE jC
set_option maxHeartbeats 64000000 in
attribute [local go_sem] ir8 in
theorem vD {code : List UInt8} {y_ : Int × Int × Int × Int} (h : Dz code = some y_) : eR.F [.sl 1 (List.map Cc code)] = ⟨true, .tup [.int .i64 y_.1, .int .i64 y_.2.1, .int .i64 y_.2.2.1, .int .i64 y_.2.2.2], [.any]⟩ := by
 refine Br rfl ?_
 dsimp only [Dz] at h
 obtain ⟨y_1, z1, h⟩ := AE h
 have fz1 := aq z1
 try simp only [go_sem] at fz1
 obtain ⟨y_2, z2, h⟩ := AE h
 have fz2 := GR z2
 try simp only [go_sem] at fz2
 obtain ⟨y_3, z3, h⟩ := AE h
 have fz3 := Fu z3
 try simp only [go_sem] at fz3
 rcases AF h with ⟨z4, h⟩ | ⟨z4, h⟩
 ·try simp only [go_sem, n1, n2, n3, n4] at z4
  all_goals
  obtain ⟨y_5, z5, h⟩ := AE h
  have fz5 := Gi z5
  try simp only [go_sem, z4] at fz5
  obtain ⟨y_6, z6, h⟩ := AE h
  have fz6 := GR z6
  try simp only [go_sem, z4] at fz6
  obtain ⟨y_7, z7, h⟩ := AE h
  have fz7 := Fu z7
  try simp only [go_sem, z4] at fz7
  rcases AF h with ⟨z8, h⟩ | ⟨z8, h⟩
  ·try simp only [go_sem, n1, n2, n3, n4, z4] at z8
   all_goals
   obtain ⟨y_9, z9, h⟩ := AE h
   have fz9 := Gi z9
   try simp only [go_sem, z4, z8] at fz9
   obtain ⟨y_10, z10, h⟩ := AE h
   have fz10 := GR z10
   try simp only [go_sem, z4, z8] at fz10
   obtain ⟨y_11, z11, h⟩ := AE h
   have fz11 := Fu z11
   try simp only [go_sem, z4, z8] at fz11
   rcases AF h with ⟨z12, h⟩ | ⟨z12, h⟩
   ·try simp only [go_sem, n1, n2, n3, n4, z4, z8] at z12
    all_goals
    obtain ⟨y_13, z13, h⟩ := AE h
    have fz13 := Gi z13
    try simp only [go_sem, z4, z8, z12] at fz13
    obtain ⟨y_14, z14, h⟩ := AE h
    have fz14 := Fu z14
    try simp only [go_sem, z4, z8, z12] at fz14
    rcases AF h with ⟨z15, h⟩ | ⟨z15, h⟩
    ·try simp only [go_sem, n1, n2, n3, n4, z4, z8, z12] at z15
     all_goals
     obtain ⟨y_16, z16, h⟩ := AE h
     have fz16 := Gi z16
     try simp only [go_sem, z4, z8, z12, z15] at fz16
     obtain rfl := AC h
     refine ⟨0, fun L hL => ?_⟩
     simp only [go_sem, fz1, fz2, fz3, z4, fz5, fz6, fz7, z8, fz9, fz10, fz11, z12, fz13, fz14, z15, fz16]
    ·try simp only [go_sem, n1, n2, n3, n4, z4, z8, z12] at z15
     all_goals
     obtain ⟨y_17, z17, h⟩ := AE h
     have fz17 := GR z17
     try simp only [go_sem, z4, z8, z12, z15] at fz17
     obtain rfl := AC h
     refine ⟨0, fun L hL => ?_⟩
     simp only [go_sem, fz1, fz2, fz3, z4, fz5, fz6, fz7, z8, fz9, fz10, fz11, z12, fz13, fz14, z15, fz17]
   ·try simp only [go_sem, n1, n2, n3, n4, z4, z8] at z12
    all_goals
    obtain ⟨y_18, z18, h⟩ := AE h
    have fz18 := Fu z18
    try simp only [go_sem, z4, z8, z12] at fz18
    rcases AF h with ⟨z19, h⟩ | ⟨z19, h⟩
    ·try simp only [go_sem, n1, n2, n3, n4, z4, z8, z12] at z19
     all_goals
     obtain ⟨y_20, z20, h⟩ := AE h
     have fz20 := Gi z20
     try simp only [go_sem, z4, z8, z12, z19] at fz20
     obtain rfl := AC h
     refine ⟨0, fun L hL => ?_⟩
     simp only [go_sem, fz1, fz2, fz3, z4, fz5, fz6, fz7, z8, fz9, fz10, fz11, z12, fz18, z19, fz20]
    ·try simp only [go_sem, n1, n2, n3, n4, z4, z8, z12] at z19
     all_goals
     obtain ⟨y_21, z21, h⟩ := AE h
     have fz21 := GR z21
     try simp only [go_sem, z4, z8, z12, z19] at fz21
     obtain rfl := AC h
     refine ⟨0, fun L hL => ?_⟩
     simp only [go_sem, fz1, fz2, fz3, z4, fz5, fz6, fz7, z8, fz9, fz10, fz11, z12, fz18, z19, fz21]
  ·try simp only [go_sem, n1, n2, n3, n4, z4] at z8
   all_goals
   obtain ⟨y_22, z22, h⟩ := AE h
   have fz22 := GR z22
   try simp only [go_sem, z4, z8] at fz22
   obtain ⟨y_23, z23, h⟩ := AE h
   have fz23 := Fu z23
   try simp only [go_sem, z4, z8] at fz23
   rcases AF h with ⟨z24, h⟩ | ⟨z24, h⟩
   ·try simp only [go_sem, n1, n2, n3, n4, z4, z8] at z24
    all_goals
    obtain ⟨y_25, z25, h⟩ := AE h
    have fz25 := Gi z25
    try simp only [go_sem, z4, z8, z24] at fz25
    obtain ⟨y_26, z26, h⟩ := AE h
    have fz26 := Fu z26
    try simp only [go_sem, z4, z8, z24] at fz26
    rcases AF h with ⟨z27, h⟩ | ⟨z27, h⟩
    ·try simp only [go_sem, n1, n2, n3, n4, z4, z8, z24] at z27
     all_goals
     obtain ⟨y_28, z28, h⟩ := AE h
     have fz28 := Gi z28
     try simp only [go_sem, z4, z8, z24, z27] at fz28
     obtain rfl := AC h
     refine ⟨0, fun L hL => ?_⟩
     simp only [go_sem, fz1, fz2, fz3, z4, fz5, fz6, fz7, z8, fz22, fz23, z24, fz25, fz26, z27, fz28]
    ·try simp only [go_sem, n1, n2, n3, n4, z4, z8, z24] at z27
     all_goals
     obtain ⟨y_29, z29, h⟩ := AE h
     have fz29 := GR z29
     try simp only [go_sem, z4, z8, z24, z27] at fz29
     obtain rfl := AC h
     refine ⟨0, fun L hL => ?_⟩
     simp only [go_sem, fz1, fz2, fz3, z4, fz5, fz6, fz7, z8, fz22, fz23, z24, fz25, fz26, z27, fz29]
   ·try simp only [go_sem, n1, n2, n3, n4, z4, z8] at z24
    all_goals
    obtain ⟨y_30, z30, h⟩ := AE h
    have fz30 := Fu z30
    try simp only [go_sem, z4, z8, z24] at fz30
    rcases AF h with ⟨z31, h⟩ | ⟨z31, h⟩
    ·try simp only [go_sem, n1, n2, n3, n4, z4, z8, z24] at z31
     all_goals
     obtain ⟨y_32, z32, h⟩ := AE h
     have fz32 := Gi z32
     try simp only [go_sem, z4, z8, z24, z31] at fz32
     obtain rfl := AC h
     refine ⟨0, fun L hL => ?_⟩
     simp only [go_sem, fz1, fz2, fz3, z4, fz5, fz6, fz7, z8, fz22, fz23, z24, fz30, z31, fz32]
    ·try simp only [go_sem, n1, n2, n3, n4, z4, z8, z24] at z31
     all_goals
     obtain ⟨y_33, z33, h⟩ := AE h
     have fz33 := GR z33
     try simp only [go_sem, z4, z8, z24, z31] at fz33
     obtain rfl := AC h
     refine ⟨0, fun L hL => ?_⟩
     simp only [go_sem, fz1, fz2, fz3, z4, fz5, fz6, fz7, z8, fz22, fz23, z24, fz30, z31, fz33]
 ·try simp only [go_sem, n1, n2, n3, n4] at z4
  all_goals
  obtain ⟨y_34, z34, h⟩ := AE h
  have fz34 := GR z34
  try simp only [go_sem, z4] at fz34
  obtain ⟨y_35, z35, h⟩ := AE h
  have fz35 := Fu z35
  try simp only [go_sem, z4] at fz35
  rcases AF h with ⟨z36, h⟩ | ⟨z36, h⟩
  ·try simp only [go_sem, n1, n2, n3, n4, z4] at z36
   all_goals
   obtain ⟨y_37, z37, h⟩ := AE h
   have fz37 := Gi z37
   try simp only [go_sem, z4, z36] at fz37
   obtain ⟨y_38, z38, h⟩ := AE h
   have fz38 := GR z38
   try simp only [go_sem, z4, z36] at fz38
   obtain ⟨y_39, z39, h⟩ := AE h
   have fz39 := Fu z39
   try simp only [go_sem, z4, z36] at fz39
   rcases AF h with ⟨z40, h⟩ | ⟨z40, h⟩
   ·try simp only [go_sem, n1, n2, n3, n4, z4, z36] at z40
    all_goals
    obtain ⟨y_41, z41, h⟩ := AE h
    have fz41 := Gi z41
    try simp only [go_sem, z4, z36, z40] at fz41
    obtain ⟨y_42, z42, h⟩ := AE h
    have fz42 := Fu z42
    try simp only [go_sem, z4, z36, z40] at fz42
    rcases AF h with ⟨z43, h⟩ | ⟨z43, h⟩
    ·try simp only [go_sem, n1, n2, n3, n4, z4, z36, z40] at z43
     all_goals
     obtain ⟨y_44, z44, h⟩ := AE h
     have fz44 := Gi z44
     try simp only [go_sem, z4, z36, z40, z43] at fz44
     obtain rfl := AC h
     refine ⟨0, fun L hL => ?_⟩
     simp only [go_sem, fz1, fz2, fz3, z4, fz34, fz35, z36, fz37, fz38, fz39, z40, fz41, fz42, z43, fz44]
    ·try simp only [go_sem, n1, n2, n3, n4, z4, z36, z40] at z43
     all_goals
     obtain ⟨y_45, z45, h⟩ := AE h
     have fz45 := GR z45
     try simp only [go_sem, z4, z36, z40, z43] at fz45
     obtain rfl := AC h
     refine ⟨0, fun L hL => ?_⟩
     simp only [go_sem, fz1, fz2, fz3, z4, fz34, fz35, z36, fz37, fz38, fz39, z40, fz41, fz42, z43, fz45]
   ·try simp only [go_sem, n1, n2, n3, n4, z4, z36] at z40
    all_goals
    obtain ⟨y_46, z46, h⟩ := AE h
    have fz46 := Fu z46
    try simp only [go_sem, z4, z36, z40] at fz46
    rcases AF h with ⟨z47, h⟩ | ⟨z47, h⟩
    ·try simp only [go_sem, n1, n2, n3, n4, z4, z36, z40] at z47
     all_goals
     obtain ⟨y_48, z48, h⟩ := AE h
     have fz48 := Gi z48
     try simp only [go_sem, z4, z36, z40, z47] at fz48
     obtain rfl := AC h
     refine ⟨0, fun L hL => ?_⟩
     simp only [go_sem, fz1, fz2, fz3, z4, fz34, fz35, z36, fz37, fz38, fz39, z40, fz46, z47, fz48]
    ·try simp only [go_sem, n1, n2, n3, n4, z4, z36, z40] at z47
     all_goals
     obtain ⟨y_49, z49, h⟩ := AE h
     have fz49 := GR z49
     try simp only [go_sem, z4, z36, z40, z47] at fz49
     obtain rfl := AC h
     refine ⟨0, fun L hL => ?_⟩
     simp only [go_sem, fz1, fz2, fz3, z4, fz34, fz35, z36, fz37, fz38, fz39, z40, fz46, z47, fz49]
  ·try simp only [go_sem, n1, n2, n3, n4, z4] at z36
   all_goals
   obtain ⟨y_50, z50, h⟩ := AE h
   have fz50 := GR z50
   try simp only [go_sem, z4, z36] at fz50
   obtain ⟨y_51, z51, h⟩ := AE h
   have fz51 := Fu z51
   try simp only [go_sem, z4, z36] at fz51
   rcases AF h with ⟨z52, h⟩ | ⟨z52, h⟩
   ·try simp only [go_sem, n1, n2, n3, n4, z4, z36] at z52
    all_goals
    obtain ⟨y_53, z53, h⟩ := AE h
    have fz53 := Gi z53
    try simp only [go_sem, z4, z36, z52] at fz53
    obtain ⟨y_54, z54, h⟩ := AE h
    have fz54 := Fu z54
    try simp only [go_sem, z4, z36, z52] at fz54
    rcases AF h with ⟨z55, h⟩ | ⟨z55, h⟩
    ·try simp only [go_sem, n1, n2, n3, n4, z4, z36, z52] at z55
     all_goals
     obtain ⟨y_56, z56, h⟩ := AE h
     have fz56 := Gi z56
     try simp only [go_sem, z4, z36, z52, z55] at fz56
     obtain rfl := AC h
     refine ⟨0, fun L hL => ?_⟩
     simp only [go_sem, fz1, fz2, fz3, z4, fz34, fz35, z36, fz50, fz51, z52, fz53, fz54, z55, fz56]
    ·try simp only [go_sem, n1, n2, n3, n4, z4, z36, z52] at z55
     all_goals
     obtain ⟨y_57, z57, h⟩ := AE h
     have fz57 := GR z57
     try simp only [go_sem, z4, z36, z52, z55] at fz57
     obtain rfl := AC h
     refine ⟨0, fun L hL => ?_⟩
     simp only [go_sem, fz1, fz2, fz3, z4, fz34, fz35, z36, fz50, fz51, z52, fz53, fz54, z55, fz57]
   ·try simp only [go_sem, n1, n2, n3, n4, z4, z36] at z52
    all_goals
    obtain ⟨y_58, z58, h⟩ := AE h
    have fz58 := Fu z58
    try simp only [go_sem, z4, z36, z52] at fz58
    rcases AF h with ⟨z59, h⟩ | ⟨z59, h⟩
    ·try simp only [go_sem, n1, n2, n3, n4, z4, z36, z52] at z59
     all_goals
     obtain ⟨y_60, z60, h⟩ := AE h
     have fz60 := Gi z60
     try simp only [go_sem, z4, z36, z52, z59] at fz60
     obtain rfl := AC h
     refine ⟨0, fun L hL => ?_⟩
     simp only [go_sem, fz1, fz2, fz3, z4, fz34, fz35, z36, fz50, fz51, z52, fz58, z59, fz60]
    ·try simp only [go_sem, n1, n2, n3, n4, z4, z36, z52] at z59
     all_goals
     obtain ⟨y_61, z61, h⟩ := AE h
     have fz61 := GR z61
     try simp only [go_sem, z4, z36, z52, z59] at fz61
     obtain rfl := AC h
     refine ⟨0, fun L hL => ?_⟩
     simp only [go_sem, fz1, fz2, fz3, z4, fz34, fz35, z36, fz50, fz51, z52, fz58, z59, fz61]
def aB : IR := .seq (.region false [ VO 11 36 (.bin false .lss (.v 10) (.v 9))]) (.seq (.cond (.v 11) (.skip) (.exit 0)) (.seq (.block 1 (.seq (.region false [ PM 37 10, VS 7 11 0]) (.seq (.region false [ PM 38 0, PM 39 7, PO 40 (.bin false .add (.s 1) (.s 0)), PO 41 (.bin false .mul (.s 0) (I6 10000)), PM 42 2, PO 43 (.bin false .add (.s 1) (.s 0)), PM 44 0, PM 45 7, PO 46 (.bin false .add (.s 1) (.s 0)), PO 47 (.bin false .add (.s 0) (I6 1)), PO 48 (.bin false .mul (.s 0) (I6 10000)), PM 49 3, PO 50 (.bin false .add (.s 1) (.s 0)), PO 51 (.build [.int .i64 (0), .int .i64 (0)] [(0, 1, (.s
 7)), (1, 1, (.s 0))]), VO 8 12 (.alloc (.agg [.int .i64 (0), .int .i64 (0)])), ⟨.no, 0, none, .store 2 (.v 8) (.s 0)⟩]) (.seq (.test false [ PO 52 (.fldAddr 1 (.v 8)), PO 53 (.load false 1 (.s 0)), PO 54 (.bin false .gtr (.s 0) (I6 10000000))] (.s 0) (.seq (.region false [ VO 4 8 (.newnil 2), VO 5 9 (.mov (I6 5))]) (.ret)) (.skip)) (.region false [ PM 55 6, PO 56 (.load true 2 (.v 8)), PO 57 (.mkSl 2 (.agg [.int .i64 (0), .int .i64 (0)]) 1 [(0, (.s 0))]), PO 58 (.app 2 16 (.agg [.int .i64 (0), .int .i64 (0)]) (.s 2) (.s 0)), VS 6 10 0]))))) (.region false [ PO 59 (.bin false .add (.v 10) (I6
 1)), VS 10 35 0])))
def WY : List Bool := [true, false, true, true, false, false, true, false, false, true, true, false]
def WX : List Bool := [false, false, false, false, false, false, true, false, false, false, false, false]
def WW : List Bool := [false, false, false, false, true, true, false, false, false, false, false, false]
def uN : List Nat := [0, 1, 2, 3, 8, 9, 10, 11, 12, 34, 35, 36]
def ir9 : EL := ⟨4, 12, .seq (.region false [ VO 4 8 (.newnil 2), VO 5 9 (.mov (I6 0))]) (.seq (.test false [ PM 13 0, PO 14 (.call 39 [(.s 0), (I6 0), (I6 999)]), PO 15 (.un .not (.s 0)), PO 16 (.mov (.s 0)), ⟨.push, 17, (some ((.s 0), false)), .mov (.v 1)⟩, ⟨.push, 18, (some ((.s 1), false)), .call 39 [(.s 0), (I6 0), (I6 30)]⟩, ⟨.push, 19, (some ((.s 2), false)), .un .not (.s 0)⟩, PO 20 (.pick (.s 3) (.c (.bool true)) (.s 0)), PO 21 (.mov (.s 0)), ⟨.push, 22, (some ((.s 0), false)), .mov (.v 2)⟩, ⟨.push, 23, (some ((.s 1), false)), .call 39 [(.s 0), (I6 0), (I6 9999)]⟩, ⟨.push, 24, (some
 ((.s 2), false)), .un .not (.s 0)⟩, PO 25 (.pick (.s 3) (.c (.bool true)) (.s 0)), PO 26 (.mov (.s 0)), ⟨.push, 27, (some ((.s 0), false)), .mov (.v 3)⟩, ⟨.push, 28, (some ((.s 1), false)), .mov (.v 2)⟩, ⟨.push, 29, (some ((.s 2), false)), .bin false .sub (.s 0) (I6 1)⟩, ⟨.push, 30, (some ((.s 3), false)), .call 39 [(.s 2), (I6 0), (.s 0)]⟩, ⟨.push, 31, (some ((.s 4), false)), .un .not (.s 0)⟩, PO 32 (.pick (.s 5) (.c (.bool true)) (.s 0))] (.s 0) (.seq (.region false [ VO 4 8 (.newnil 2), VO 5 9 (.mov (I6 2))]) (.ret)) (.skip)) (.seq (.region false [ PO 33 (.mkSl 2 (.agg [.int .i64 (0), .int
 .i64 (0)]) 0 []), VS 6 10 0]) (.seq (.seq (.region false [ VO 9 34 (.mov (.v 1)), VO 10 35 (.mov (I6 0))]) (.block 0 (.loop WY WX WW aB))) (.seq (.region false [ PM 60 6, VS 4 8 0, VO 5 9 (.mov (I6 0))]) (.ret))))), [.t 4, .t 5]⟩
noncomputable def pI : List (Nat × Bf) := [(39, fI)]
theorem jB : Aa pI 39 = some fI := rfl
noncomputable def eQ : Bf := Gd pI ir9 [.bor, .bor, .bor, .bor]
theorem s_41 : Ad Tryz.prog 9 eQ := AY _ rfl (AI s_0 Ab) (by kernel_rfl : BF Tryz.prog 9 ir9 uN = true)
theorem M_41 : eQ.modes = [.bor, .bor, .bor, .bor] := rfl
theorem wE : eQ.flat = true := rfl
attribute [go_sem] M_41 wE jB
def Sw (day : Int) (dusk : Int) (dawn : Int) (t34 : Int) : ((List AA) × Int) → St
 | (out, t35) => ⟨[.int .i64 day, .any, .int .i64 dusk, .int .i64 dawn, .any, .any, .own 3200000, .any, .any, .int .i64 t34, .int .i64 t35, .any], [], [(3200000, ⟨2, List.map AB out⟩)], true⟩
def SQ (day : Int) (dusk : Int) (dawn : Int) (t34 : Int) : ((List AA) ⊕ ((List AA) × Int)) → FT
 | .inl y => (.exit 0, ⟨[.any, .any, .any, .any, .any, .any, .own 3200000, .any, .any, .any, .any, .any], [], [(3200000, ⟨2, List.map AB y⟩)], true⟩)
 | .inr y => (.ret, ⟨[.any, .any, .any, .any, .own 3200000, .int .i64 y.2, .any, .any, .any, .any, .any, .any], [], [(3200000, ⟨2, List.map AB y.1⟩)], true⟩)
set_option maxHeartbeats 64000000 in
attribute [local go_sem] ir9 Sw SQ aB WY WX WW in
theorem KZ {day : Int} {dusk : Int} {dawn : Int} {t34 : Int} {sgm_ : (List AA) × Int} {rho_ : (List AA) ⊕ ((List AA) × Int)} (h : AJ (FF day dusk dawn t34) sgm_ = some rho_) : ∃ L0, ∀ L, L0 ≤ L → Cg (BD (Aa pI) L aB) WY WX WW L (Sw day dusk dawn t34 sgm_) = SQ day dusk dawn t34 rho_ := by
 refine BJ (E := Sw day dusk dawn t34) (R := SQ day dusk dawn t34) (fun y => by first | (intro c; cases c) | (rcases y with y | y <;> (intro c; cases c)) | (rcases y with y | y | y <;> (intro c; cases c))) ?_ h
 clear h
 rintro ⟨out, t35⟩ o_ h
 dsimp only [FF] at h
 rcases AF h with ⟨z6, h⟩ | ⟨z6, h⟩
 ·try simp only [go_sem, n1, n2, n3, n4] at z6
  all_goals
  rcases AF h with ⟨z7, h⟩ | ⟨z7, h⟩
  ·try simp only [go_sem, n1, n2, n3, n4, z6] at z7
   all_goals
   obtain rfl := AC h
   refine ⟨0, fun L hL => ?_⟩
   simp only [go_sem, z6, z7]
  ·try simp only [go_sem, n1, n2, n3, n4, z6] at z7
   all_goals
   obtain ⟨z8, h⟩ := AD h
   try simp only [go_sem, n1, n2, n3, n4, z6, z7] at z8
   all_goals
   obtain rfl := AC h
   refine ⟨0, fun L hL => ?_⟩
   simp only [go_sem, z6, z7, z8]
 ·try simp only [go_sem, n1, n2, n3, n4] at z6
  all_goals
  obtain rfl := AC h
  refine ⟨0, fun L hL => ?_⟩
  simp only [go_sem, z6]
set_option maxHeartbeats 64000000 in
attribute [local go_sem] ir9 Sw SQ WY WX WW in
theorem vC {day : Int} {count : Int} {dusk : Int} {dawn : Int} {y_ : (List AA) × Int} (h : FM day count dusk dawn = some y_) : eQ.F [.int .i64 day, .int .i64 count, .int .i64 dusk, .int .i64 dawn] = ⟨true, .tup [.fresh 2 (List.map AB y_.1), .int .i64 y_.2], [.any, .any, .any, .any]⟩ := by
 refine Br (by simp only [EA, ES, Ei, List.all_cons, List.all_nil, Bool.and_self, Bo (f := AB) (fun _ => rfl)]) ?_
 dsimp only [FM] at h
 obtain ⟨y_1, z1, h⟩ := AE h
 have fz1 := ar z1
 try simp only [go_sem] at fz1
 obtain ⟨z2, h⟩ := AD h
 rcases Ay z2 with ⟨gz2, z2⟩ | gz2
 ·try simp only [go_sem, n1, n2, n3, n4] at gz2
  all_goals
  obtain ⟨y_2, hz2⟩ := Option.isSome_iff_exists.1 z2
  have fz2 := ar hz2
  try simp only [go_sem, n1, n2, n3, n4, gz2] at hz2
  all_goals
  try simp only [go_sem, gz2] at fz2
  obtain ⟨z3, h⟩ := AD h
  rcases Ay z3 with ⟨gz3, z3⟩ | gz3
  ·try simp only [go_sem, n1, n2, n3, n4, gz2, hz2] at gz3
   all_goals
   obtain ⟨y_3, hz3⟩ := Option.isSome_iff_exists.1 z3
   have fz3 := ar hz3
   try simp only [go_sem, n1, n2, n3, n4, gz2, hz2, gz3] at hz3
   all_goals
   try simp only [go_sem, gz2, hz2, gz3] at fz3
   obtain ⟨z4, h⟩ := AD h
   rcases Ay z4 with ⟨gz4, z4⟩ | gz4
   ·try simp only [go_sem, n1, n2, n3, n4, gz2, hz2, gz3, hz3] at gz4
    all_goals
    obtain ⟨y_4, hz4⟩ := Option.isSome_iff_exists.1 z4
    have fz4 := ar hz4
    try simp only [go_sem, n1, n2, n3, n4, gz2, hz2, gz3, hz3, gz4] at hz4
    all_goals
    try simp only [go_sem, gz2, hz2, gz3, hz3, gz4] at fz4
    rcases AF h with ⟨z5, h⟩ | ⟨z5, h⟩
    ·try simp only [go_sem, n1, n2, n3, n4, gz2, hz2, gz3, hz3, gz4, hz4] at z5
     all_goals
     obtain rfl := AC h
     refine ⟨0, fun L hL => ?_⟩
     simp only [go_sem, fz1, gz2, hz2, fz2, gz3, hz3, fz3, gz4, hz4, fz4, z5]
    ·try simp only [go_sem, n1, n2, n3, n4, gz2, hz2, gz3, hz3, gz4, hz4] at z5
     all_goals
     obtain ⟨y_9, z9, h⟩ := AE h
     obtain ⟨Lz9, ez9⟩ := KZ z9
     rcases y_9 with y_9a | y_9b
     all_goals
     dsimp only at h
     obtain rfl := AC h
     refine ⟨Lz9, fun L hL => ?_⟩
     have ez9 := ez9 L (by omega)
     try simp only [go_sem, gz2, hz2, gz3, hz3, gz4, hz4, z5] at ez9
     simp only [go_sem, fz1, gz2, hz2, fz2, gz3, hz3, fz3, gz4, hz4, fz4, z5, ez9]
   ·have gz4n := BH gz4
    rcases JA gz4n with gz4na | ⟨gz4na, gz4nb⟩
    ·try simp only [go_sem, n1, n2, n3, n4, gz2, hz2, gz3, hz3] at gz4na
     all_goals
     (simp_all)
    ·obtain ⟨gz4naa, gz4nab⟩ := Dh gz4na
     have gz4naan := BH gz4naa
     have gz4nabn := BH gz4nab
     have gz4nbn := Fj gz4nb
     try simp only [go_sem, n1, n2, n3, n4, gz2, hz2, gz3, hz3] at gz4naan
     all_goals
     try simp only [go_sem, n1, n2, n3, n4, gz2, hz2, gz3, hz3, gz4naan] at gz4nabn
     all_goals
     try simp only [go_sem, n1, n2, n3, n4, gz2, hz2, gz3, hz3, gz4naan, gz4nabn] at gz4nbn
     all_goals
     rcases AF h with ⟨z5, h⟩ | ⟨z5, h⟩
     ·try simp only [go_sem, n1, n2, n3, n4, gz2, hz2, gz3, hz3, gz4naan, gz4nabn, gz4nbn] at z5
      all_goals
      obtain rfl := AC h
      refine ⟨0, fun L hL => ?_⟩
      simp only [go_sem, fz1, gz2, hz2, fz2, gz3, hz3, fz3, gz4naan, gz4nabn, gz4nbn, z5]
     ·try simp only [go_sem, n1, n2, n3, n4, gz2, hz2, gz3, hz3, gz4naan, gz4nabn, gz4nbn] at z5
      all_goals
      (simp_all)
  ·have gz3n := BH gz3
   rcases JA gz3n with gz3na | ⟨gz3na, gz3nb⟩
   ·try simp only [go_sem, n1, n2, n3, n4, gz2, hz2] at gz3na
    all_goals
    (simp_all)
   ·have gz3nan := BH gz3na
    have gz3nbn := Fj gz3nb
    try simp only [go_sem, n1, n2, n3, n4, gz2, hz2] at gz3nan
    all_goals
    try simp only [go_sem, n1, n2, n3, n4, gz2, hz2, gz3nan] at gz3nbn
    all_goals
    obtain ⟨z4, h⟩ := AD h
    rcases AF h with ⟨z5, h⟩ | ⟨z5, h⟩
    ·try simp only [go_sem, n1, n2, n3, n4, gz2, hz2, gz3nan, gz3nbn] at z5
     all_goals
     obtain rfl := AC h
     refine ⟨0, fun L hL => ?_⟩
     simp only [go_sem, fz1, gz2, hz2, fz2, gz3nan, gz3nbn, z5]
    ·try simp only [go_sem, n1, n2, n3, n4, gz2, hz2, gz3nan, gz3nbn] at z5
     all_goals
     (simp_all)
 ·have gz2n := BH gz2
  have gz2nn := Fj gz2n
  try simp only [go_sem, n1, n2, n3, n4] at gz2nn
  all_goals
  obtain ⟨z3, h⟩ := AD h
  obtain ⟨z4, h⟩ := AD h
  rcases AF h with ⟨z5, h⟩ | ⟨z5, h⟩
  ·try simp only [go_sem, n1, n2, n3, n4, gz2nn] at z5
   all_goals
   obtain rfl := AC h
   refine ⟨0, fun L hL => ?_⟩
   simp only [go_sem, fz1, gz2nn, z5]
  ·try simp only [go_sem, n1, n2, n3, n4, gz2nn] at z5
   all_goals
   (simp_all)
def Wz : IR := .seq (.test false [ PM 37 7, PM 38 1, PO 39 (.bin false .lss (.s 1) (.s 0))] (.s 0) (.skip) (.exit 0)) (.seq (.block 1 (.seq (.region false [ PM 42 0, PM 43 7, PO 44 (.bin false .add (.s 1) (.s 0)), PO 45 (.bin false .mul (.s 0) (I6 10000)), PM 46 2, PO 47 (.bin false .add (.s 1) (.s 0)), PM 48 0, PM 49 7, PO 50 (.bin false .add (.s 1) (.s 0)), PO 51 (.bin false .add (.s 0) (I6 1)), PO 52 (.bin false .mul (.s 0) (I6 10000)), PM 53 3, PO 54 (.bin false .add (.s 1) (.s 0)), PO 55 (.build [.int .i64 (0), .int .i64 (0)] [(0, 1, (.s 7)), (1, 1, (.s 0))]), VO 8 12 (.alloc (.agg
 [.int .i64 (0), .int .i64 (0)])), ⟨.no, 0, none, .store 2 (.v 8) (.s 0)⟩]) (.seq (.test false [ PO 56 (.fldAddr 1 (.v 8)), PO 57 (.load false 1 (.s 0)), PO 58 (.bin false .gtr (.s 0) (I6 10000000))] (.s 0) (.seq (.region false [ VO 4 8 (.newnil 2), VO 5 9 (.mov (I6 5))]) (.ret)) (.skip)) (.region false [ PM 59 6, PO 60 (.load true 2 (.v 8)), PO 61 (.mkSl 2 (.agg [.int .i64 (0), .int .i64 (0)]) 1 [(0, (.s 0))]), PO 62 (.app 2 16 (.agg [.int .i64 (0), .int .i64 (0)]) (.s 2) (.s 0)), VS 6 10 0])))) (.region false [ PM 40 7, PO 41 (.bin false .add (.s 0) (I6 1)), VS 7 11 0]))
def Rv : List Bool := [true, true, true, true, false, false, true, true, false]
def Ru : List Bool := [false, false, false, false, false, false, true, false, false]
def Rt : List Bool := [false, false, false, false, true, true, false, false, false]
def rj : List Nat := [0, 1, 2, 3, 8, 9, 10, 11, 12]
def nO : EL := ⟨4, 9, .seq (.region false [ VO 4 8 (.newnil 2), VO 5 9 (.mov (I6 0))]) (.seq (.test false [ PM 13 0, PO 14 (.call 40 [(.s 0), (I6 0), (I6 999)]), PO 15 (.un .not (.s 0)), PO 16 (.mov (.s 0)), ⟨.push, 17, (some ((.s 0), false)), .mov (.v 1)⟩, ⟨.push, 18, (some ((.s 1), false)), .call 40 [(.s 0), (I6 0), (I6 30)]⟩, ⟨.push, 19, (some ((.s 2), false)), .un .not (.s 0)⟩, PO 20 (.pick (.s 3) (.c (.bool true)) (.s 0)), PO 21 (.mov (.s 0)), ⟨.push, 22, (some ((.s 0), false)), .mov (.v 2)⟩, ⟨.push, 23, (some ((.s 1), false)), .call 40 [(.s 0), (I6 0), (I6 9999)]⟩, ⟨.push, 24, (some
 ((.s 2), false)), .un .not (.s 0)⟩, PO 25 (.pick (.s 3) (.c (.bool true)) (.s 0)), PO 26 (.mov (.s 0)), ⟨.push, 27, (some ((.s 0), false)), .mov (.v 3)⟩, ⟨.push, 28, (some ((.s 1), false)), .call 40 [(.s 0), (I6 0), (I6 9999)]⟩, ⟨.push, 29, (some ((.s 2), false)), .un .not (.s 0)⟩, PO 30 (.pick (.s 3) (.c (.bool true)) (.s 0)), PO 31 (.mov (.s 0)), ⟨.push, 32, (some ((.s 0), false)), .mov (.v 3)⟩, ⟨.push, 33, (some ((.s 1), false)), .mov (.v 2)⟩, ⟨.push, 34, (some ((.s 2), false)), .bin false .geq (.s 1) (.s 0)⟩, PO 35 (.pick (.s 3) (.c (.bool true)) (.s 0))] (.s 0) (.seq (.region false [ VO 4
 8 (.newnil 2), VO 5 9 (.mov (I6 2))]) (.ret)) (.skip)) (.seq (.region false [ PO 36 (.mkSl 2 (.agg [.int .i64 (0), .int .i64 (0)]) 0 []), VS 6 10 0]) (.seq (.seq (.region false [ VO 7 11 (.mov (I6 0))]) (.block 0 (.loop Rv Ru Rt Wz))) (.seq (.region false [ PM 63 6, VS 4 8 0, VO 5 9 (.mov (I6 0))]) (.ret))))), [.t 4, .t 5]⟩
noncomputable def pH : List (Nat × Bf) := [(40, QO)]
theorem jA : Aa pH 40 = some QO := rfl
noncomputable def eP : Bf := Gd pH nO [.bor, .bor, .bor, .bor]
theorem s_42 : Ad Tryz.prog 10 eP := AY _ rfl (AI mG Ab) (by kernel_rfl : BF Tryz.prog 10 nO rj = true)
theorem M_42 : eP.modes = [.bor, .bor, .bor, .bor] := rfl
theorem wD : eP.flat = true := rfl
attribute [go_sem] M_42 wD jA
def Sv (day : Int) (count : Int) (dusk : Int) (dawn : Int) : ((List AA) × Int) → St
 | (out, k) => ⟨[.int .i64 day, .int .i64 count, .int .i64 dusk, .int .i64 dawn, .any, .any, .own 3200000, .int .i64 k, .any], [], [(3200000, ⟨2, List.map AB out⟩)], true⟩
def SP (day : Int) (count : Int) (dusk : Int) (dawn : Int) : ((List AA) ⊕ ((List AA) × Int)) → FT
 | .inl y => (.exit 0, ⟨[.any, .any, .any, .any, .any, .any, .own 3200000, .any, .any], [], [(3200000, ⟨2, List.map AB y⟩)], true⟩)
 | .inr y => (.ret, ⟨[.any, .any, .any, .any, .own 3200000, .int .i64 y.2, .any, .any, .any], [], [(3200000, ⟨2, List.map AB y.1⟩)], true⟩)
set_option maxHeartbeats 64000000 in
attribute [local go_sem] nO Sv SP Wz Rv Ru Rt in
theorem KY {day : Int} {count : Int} {dusk : Int} {dawn : Int} {sgm_ : (List AA) × Int} {rho_ : (List AA) ⊕ ((List AA) × Int)} (h : AJ (BX day count dusk dawn) sgm_ = some rho_) : ∃ L0, ∀ L, L0 ≤ L → Cg (BD (Aa pH) L Wz) Rv Ru Rt L (Sv day count dusk dawn sgm_) = SP day count dusk dawn rho_ := by
 refine BJ (E := Sv day count dusk dawn) (R := SP day count dusk dawn) (fun y => by first | (intro c; cases c) | (rcases y with y | y <;> (intro c; cases c)) | (rcases y with y | y | y <;> (intro c; cases c))) ?_ h
 clear h
 rintro ⟨out, k⟩ o_ h
 dsimp only [BX] at h
 rcases AF h with ⟨z6, h⟩ | ⟨z6, h⟩
 ·try simp only [go_sem, n1, n2, n3, n4] at z6
  all_goals
  rcases AF h with ⟨z7, h⟩ | ⟨z7, h⟩
  ·try simp only [go_sem, n1, n2, n3, n4, z6] at z7
   all_goals
   obtain rfl := AC h
   refine ⟨0, fun L hL => ?_⟩
   simp only [go_sem, z6, z7]
  ·try simp only [go_sem, n1, n2, n3, n4, z6] at z7
   all_goals
   obtain ⟨z8, h⟩ := AD h
   try simp only [go_sem, n1, n2, n3, n4, z6, z7] at z8
   all_goals
   obtain rfl := AC h
   refine ⟨0, fun L hL => ?_⟩
   simp only [go_sem, z6, z7, z8]
 ·try simp only [go_sem, n1, n2, n3, n4] at z6
  all_goals
  obtain rfl := AC h
  refine ⟨0, fun L hL => ?_⟩
  simp only [go_sem, z6]
set_option maxHeartbeats 64000000 in
attribute [local go_sem] nO Sv SP Rv Ru Rt in
theorem vB {day : Int} {count : Int} {dusk : Int} {dawn : Int} {y_ : (List AA) × Int} (h : FK day count dusk dawn = some y_) : eP.F [.int .i64 day, .int .i64 count, .int .i64 dusk, .int .i64 dawn] = ⟨true, .tup [.fresh 2 (List.map AB y_.1), .int .i64 y_.2], [.any, .any, .any, .any]⟩ := by
 refine Br (by simp only [EA, ES, Ei, List.all_cons, List.all_nil, Bool.and_self, Bo (f := AB) (fun _ => rfl)]) ?_
 dsimp only [FK] at h
 obtain ⟨y_1, z1, h⟩ := AE h
 have fz1 := Uk z1
 try simp only [go_sem] at fz1
 obtain ⟨z2, h⟩ := AD h
 rcases Ay z2 with ⟨gz2, z2⟩ | gz2
 ·try simp only [go_sem, n1, n2, n3, n4] at gz2
  all_goals
  obtain ⟨y_2, hz2⟩ := Option.isSome_iff_exists.1 z2
  have fz2 := Uk hz2
  try simp only [go_sem, n1, n2, n3, n4, gz2] at hz2
  all_goals
  try simp only [go_sem, gz2] at fz2
  obtain ⟨z3, h⟩ := AD h
  rcases Ay z3 with ⟨gz3, z3⟩ | gz3
  ·try simp only [go_sem, n1, n2, n3, n4, gz2, hz2] at gz3
   all_goals
   obtain ⟨y_3, hz3⟩ := Option.isSome_iff_exists.1 z3
   have fz3 := Uk hz3
   try simp only [go_sem, n1, n2, n3, n4, gz2, hz2, gz3] at hz3
   all_goals
   try simp only [go_sem, gz2, hz2, gz3] at fz3
   obtain ⟨z4, h⟩ := AD h
   rcases Ay z4 with ⟨gz4, z4⟩ | gz4
   ·try simp only [go_sem, n1, n2, n3, n4, gz2, hz2, gz3, hz3] at gz4
    all_goals
    obtain ⟨y_4, hz4⟩ := Option.isSome_iff_exists.1 z4
    have fz4 := Uk hz4
    try simp only [go_sem, n1, n2, n3, n4, gz2, hz2, gz3, hz3, gz4] at hz4
    all_goals
    try simp only [go_sem, gz2, hz2, gz3, hz3, gz4] at fz4
    rcases AF h with ⟨z5, h⟩ | ⟨z5, h⟩
    ·try simp only [go_sem, n1, n2, n3, n4, gz2, hz2, gz3, hz3, gz4, hz4] at z5
     all_goals
     obtain rfl := AC h
     refine ⟨0, fun L hL => ?_⟩
     simp only [go_sem, fz1, gz2, hz2, fz2, gz3, hz3, fz3, gz4, hz4, fz4, z5]
    ·try simp only [go_sem, n1, n2, n3, n4, gz2, hz2, gz3, hz3, gz4, hz4] at z5
     all_goals
     obtain ⟨y_9, z9, h⟩ := AE h
     obtain ⟨Lz9, ez9⟩ := KY z9
     rcases y_9 with y_9a | y_9b
     all_goals
     dsimp only at h
     obtain rfl := AC h
     refine ⟨Lz9, fun L hL => ?_⟩
     have ez9 := ez9 L (by omega)
     try simp only [go_sem, gz2, hz2, gz3, hz3, gz4, hz4, z5] at ez9
     simp only [go_sem, fz1, gz2, hz2, fz2, gz3, hz3, fz3, gz4, hz4, fz4, z5, ez9]
   ·have gz4n := BH gz4
    rcases JA gz4n with gz4na | ⟨gz4na, gz4nb⟩
    ·try simp only [go_sem, n1, n2, n3, n4, gz2, hz2, gz3, hz3] at gz4na
     all_goals
     (simp_all)
    ·obtain ⟨gz4naa, gz4nab⟩ := Dh gz4na
     have gz4naan := BH gz4naa
     have gz4nabn := BH gz4nab
     have gz4nbn := Fj gz4nb
     try simp only [go_sem, n1, n2, n3, n4, gz2, hz2, gz3, hz3] at gz4naan
     all_goals
     try simp only [go_sem, n1, n2, n3, n4, gz2, hz2, gz3, hz3, gz4naan] at gz4nabn
     all_goals
     try simp only [go_sem, n1, n2, n3, n4, gz2, hz2, gz3, hz3, gz4naan, gz4nabn] at gz4nbn
     all_goals
     rcases AF h with ⟨z5, h⟩ | ⟨z5, h⟩
     ·try simp only [go_sem, n1, n2, n3, n4, gz2, hz2, gz3, hz3, gz4naan, gz4nabn, gz4nbn] at z5
      all_goals
      obtain rfl := AC h
      refine ⟨0, fun L hL => ?_⟩
      simp only [go_sem, fz1, gz2, hz2, fz2, gz3, hz3, fz3, gz4naan, gz4nabn, gz4nbn, z5]
     ·try simp only [go_sem, n1, n2, n3, n4, gz2, hz2, gz3, hz3, gz4naan, gz4nabn, gz4nbn] at z5
      all_goals
      (simp_all)
  ·have gz3n := BH gz3
   rcases JA gz3n with gz3na | ⟨gz3na, gz3nb⟩
   ·try simp only [go_sem, n1, n2, n3, n4, gz2, hz2] at gz3na
    all_goals
    (simp_all)
   ·have gz3nan := BH gz3na
    have gz3nbn := Fj gz3nb
    try simp only [go_sem, n1, n2, n3, n4, gz2, hz2] at gz3nan
    all_goals
    try simp only [go_sem, n1, n2, n3, n4, gz2, hz2, gz3nan] at gz3nbn
    all_goals
    obtain ⟨z4, h⟩ := AD h
    rcases AF h with ⟨z5, h⟩ | ⟨z5, h⟩
    ·try simp only [go_sem, n1, n2, n3, n4, gz2, hz2, gz3nan, gz3nbn] at z5
     all_goals
     obtain rfl := AC h
     refine ⟨0, fun L hL => ?_⟩
     simp only [go_sem, fz1, gz2, hz2, fz2, gz3nan, gz3nbn, z5]
    ·try simp only [go_sem, n1, n2, n3, n4, gz2, hz2, gz3nan, gz3nbn] at z5
     all_goals
     (simp_all)
 ·have gz2n := BH gz2
  have gz2nn := Fj gz2n
  try simp only [go_sem, n1, n2, n3, n4] at gz2nn
  all_goals
  obtain ⟨z3, h⟩ := AD h
  obtain ⟨z4, h⟩ := AD h
  rcases AF h with ⟨z5, h⟩ | ⟨z5, h⟩
  ·try simp only [go_sem, n1, n2, n3, n4, gz2nn] at z5
   all_goals
   obtain rfl := AC h
   refine ⟨0, fun L hL => ?_⟩
   simp only [go_sem, fz1, gz2nn, z5]
  ·try simp only [go_sem, n1, n2, n3, n4, gz2nn] at z5
   all_goals
   (simp_all)
def ri : List Nat := [0, 2, 3, 4, 5]
def nM : EL := ⟨1, 5, .seq (.region false [ VO 1 2 (.newnil 2), VO 2 3 (.mov (I6 0))]) (.seq (.region false [ PM 6 0, PO 7 (.call 29 [(.s 0)]), VS 3 4 0]) (.seq (.region false [ PM 8 3, PO 9 (.call 30 [(.s 0)]), VS 4 5 0]) (.seq (.test false [ PM 10 3, PO 11 (.call 31 [(.s 0), (I6 10)])] (.s 0) (.seq (.region false [ PM 12 4, PM 13 3, PO 14 (.mkSl 1 (.int .i64 (0)) 4 [(0, (I6 0)), (1, (I6 1)), (2, (I6 10000001)), (3, (I6 10000002))]), PO 15 (.call 38 [(.s 1), (.s 0)]), VS 1 2 3, VS 2 3 0]) (.ret)) (.skip)) (.seq (.region false [ PM 16 4, PM 17 3, PO 18 (.call 37 [(.s 0), (I6 30)]), PO 19
 (.bin false .add (I6 1) (.s 0)), VS 1 2 3, VS 2 3 0]) (.ret))))), [.t 1, .t 2]⟩
noncomputable def cK : List (Nat × Bf) := [(29, Xl), (30, QP), (31, Lr), (38, Uw), (37, Uo)]
theorem iz : Aa cK 29 = some Xl := rfl
theorem iy : Aa cK 30 = some QP := rfl
theorem iw : Aa cK 31 = some Lr := rfl
theorem iu : Aa cK 38 = some Uw := rfl
theorem iv : Aa cK 37 = some Uo := rfl
noncomputable def eO : Bf := Gd cK nM [.bor]
theorem s_43 : Ad Tryz.prog 11 eO := AY _ rfl (AI pc (AI mH (AI cV (AI pf (AI mF Ab))))) (by kernel_rfl : BF Tryz.prog 11 nM ri = true)
theorem M_43 : eO.modes = [.bor] := rfl
theorem wC : eO.flat = true := rfl
attribute [go_sem] M_43 wC iz iy iw iu iv
theorem vA {code : List UInt8} {y_ : (List AA) × Int} (h : Dg code = some y_) : eO.F [.sl 1 (List.map Cc code)] = ⟨true, .tup [.fresh 2 (List.map AB y_.1), .int .i64 y_.2], [.any]⟩ := by
 refine Br (by simp only [EA, ES, Ei, List.all_cons, List.all_nil, Bool.and_self, Bo (f := AB) (fun _ => rfl)]) ?_
 dsimp only [Dg] at h
 obtain ⟨y_1, z1, h⟩ := AE h
 have fz1 := aq z1
 try simp only [go_sem] at fz1
 obtain ⟨y_2, z2, h⟩ := AE h
 have fz2 := WD z2
 try simp only [go_sem] at fz2
 obtain ⟨y_3, z3, h⟩ := AE h
 have fz3 := Fu z3
 try simp only [go_sem] at fz3
 rcases AF h with ⟨z4, h⟩ | ⟨z4, h⟩
 ·try simp only [go_sem, n1, n2, n3, n4] at z4
  all_goals
  obtain ⟨y_5, z5, h⟩ := AE h
  have fz5 := Gi z5
  try simp only [go_sem, z4] at fz5
  obtain rfl := AC h
  refine ⟨0, fun L hL => ?_⟩
  simp only [go_sem, nM, fz1, fz2, fz3, z4, fz5]
 ·try simp only [go_sem, n1, n2, n3, n4] at z4
  all_goals
  obtain ⟨y_6, z6, h⟩ := AE h
  have fz6 := GR z6
  try simp only [go_sem, z4] at fz6
  obtain rfl := AC h
  refine ⟨0, fun L hL => ?_⟩
  simp only [go_sem, nM, fz1, fz2, fz3, z4, fz6]
end Go.Proofs.YthdmeanbdohehaaGreatDoor
