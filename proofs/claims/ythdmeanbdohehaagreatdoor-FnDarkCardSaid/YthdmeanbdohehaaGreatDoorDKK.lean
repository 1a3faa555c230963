/- Codes and contracts of the functions that DK reaches, and that their typed forms say what they do. No condition. -/
import Derived.Test.YthdmeanbdohehaaGreatDoorDKKa
import Derived.Test.YthdmeanbdohehaaGreatDoorRows
import Derived.WalkKit
namespace Go.Proofs.YthdmeanbdohehaaGreatDoor
open Go Go.RowKit
set_option linter.unusedVariables false
set_option linter.unusedSimpArgs false
set_option maxRecDepth 10000
def Wy : IR := .seq (.test false [ PM 15 5, PM 16 0, PO 17 (.len false (.s 0)), PO 18 (.bin false .lss (.s 2) (.s 0))] (.s 0) (.skip) (.exit 0)) (.seq (.block 1 (.anyo 14 [ SO 0 21 (.mov (.v 0)), SO 1 22 (.mov (.v 5)), SO 2 23 (.ixAddr 2 (.s 0) (.s 1)), SO 3 24 (.fldAddr 1 (.s 2)), SO 4 25 (.load false 1 (.s 3)), SO 5 26 (.mov (.v 0)), SO 6 27 (.mov (.v 5)), SO 7 28 (.ixAddr 2 (.s 5) (.s 6)), SO 8 29 (.fldAddr 0 (.s 7)), SO 9 30 (.load false 1 (.s 8)), SO 10 31 (.bin false .sub (.s 4) (.s 9)), SO 11 32 (.bin false .add (.s 10) (I6 1)), SO 12 33 (.mov (.v 1)), SO 13 34 (.bin false .geq (.s
 11) (.s 12))] [] (.cond (.s 13) (.region false [ PM 35 4, PM 36 0, PM 37 5, PO 38 (.ixAddr 2 (.s 1) (.s 0)), PO 39 (.load true 2 (.s 0)), PO 40 (.mkSl 2 (.agg [.int .i64 (0), .int .i64 (0)]) 1 [(0, (.s 0))]), PO 41 (.app 2 16 (.agg [.int .i64 (0), .int .i64 (0)]) (.s 5) (.s 0)), VS 4 6 0]) (.skip)))) (.region false [ PM 19 5, PO 20 (.bin false .add (.s 0) (I6 1)), VS 5 7 0]))
def Rr : List Bool := [true, true, false, false, true, true]
def Rq : List Bool := [false, false, false, false, true, false]
def Rp : List Bool := [false, false, true, true, false, false]
def rg : List Nat := [0, 1, 4, 5, 6, 7]
def nH : EL := ⟨2, 6, .seq (.region false [ VO 2 4 (.newnil 2), VO 3 5 (.mov (I6 0))]) (.seq (.test false [ PM 8 0, PO 9 (.call 35 [(.s 0)]), PO 10 (.un .not (.s 0))] (.s 0) (.seq (.region false [ VO 2 4 (.newnil 2), VO 3 5 (.mov (I6 1))]) (.ret)) (.skip)) (.seq (.test false [ PM 11 1, PO 12 (.call 40 [(.s 0), (I6 1), (I6 10000001)]), PO 13 (.un .not (.s 0))] (.s 0) (.seq (.region false [ VO 2 4 (.newnil 2), VO 3 5 (.mov (I6 2))]) (.ret)) (.skip)) (.seq (.region false [ PO 14 (.mkSl 2 (.agg [.int .i64 (0), .int .i64 (0)]) 0 []), VS 4 6 0]) (.seq (.seq (.region false [ VO 5 7 (.mov (I6 0))])
 (.block 0 (.loop Rr Rq Rp Wy))) (.seq (.region false [ PM 42 4, VS 2 4 0, VO 3 5 (.mov (I6 0))]) (.ret)))))), [.t 2, .t 3]⟩
noncomputable def lj : List (Nat × Bf) := [(35, Lq), (40, QO)]
theorem iq : Aa lj 35 = some Lq := rfl
theorem ip : Aa lj 40 = some QO := rfl
noncomputable def eN : Bf := Gd lj nH [.bor, .bor]
theorem s_44 : Ad Tryz.prog 13 eN := AY _ rfl (AI cU (AI mG Ab)) (by kernel_rfl : BF Tryz.prog 13 nH rg = true)
theorem M_44 : eN.modes = [.bor, .bor] := rfl
theorem wB : eN.flat = true := rfl
attribute [go_sem] M_44 wB iq ip
def Su (list : List AA) (least : Int) : ((List AA) × Int) → St
 | (out, i) => ⟨[.sl 2 (List.map AB list), .int .i64 least, .any, .any, .own 3200000, .int .i64 i], [], [(3200000, ⟨2, List.map AB out⟩)], true⟩
def SN (list : List AA) (least : Int) (y : (List AA)) : FT := (.exit 0, ⟨[.any, .any, .any, .any, .own 3200000, .any], [], [(3200000, ⟨2, List.map AB y⟩)], true⟩)
attribute [local go_sem] nH Su SN Wy Rr Rq Rp in
theorem Jt {list : List AA} {least : Int} {sgm_ : (List AA) × Int} {rho_ : (List AA)} (h : AJ (CN list least) sgm_ = some rho_) : ∃ L0, ∀ L, L0 ≤ L → Cg (BD (Aa lj) L Wy) Rr Rq Rp L (Su list least sgm_) = SN list least rho_ := by
 refine BJ (E := Su list least) (R := SN list least) (fun y => by first | (intro c; cases c) | (rcases y with y | y <;> (intro c; cases c)) | (rcases y with y | y | y <;> (intro c; cases c))) ?_ h
 clear h
 rintro ⟨out, i⟩ o_ h
 dsimp only [CN] at h
 rcases AF h with ⟨z5, h⟩ | ⟨z5, h⟩
 ·try simp only [go_sem, n1, n2, n3, n4] at z5
  all_goals
  obtain ⟨z6, h⟩ := AD h
  have lz6 := BT z6
  have xz6 := AR AB list lz6
  try simp only [go_sem] at lz6
  try simp only [go_sem] at xz6
  try simp only [go_sem, n1, n2, n3, n4, z5] at z6
  all_goals
  rcases AF h with ⟨z7, h⟩ | ⟨z7, h⟩
  ·try simp only [go_sem, n1, n2, n3, n4, z5, z6] at z7
   all_goals
   obtain ⟨z8, h⟩ := AD h
   try simp only [go_sem, n1, n2, n3, n4, z5, z6, z7] at z8
   all_goals
   obtain rfl := AC h
   refine ⟨0, fun L hL => ?_⟩
   simp only [go_sem, z5, z6, lz6, xz6, z7, z8]
  ·try simp only [go_sem, n1, n2, n3, n4, z5, z6] at z7
   all_goals
   obtain rfl := AC h
   refine ⟨0, fun L hL => ?_⟩
   simp only [go_sem, z5, z6, lz6, xz6, z7]
 ·try simp only [go_sem, n1, n2, n3, n4] at z5
  all_goals
  obtain rfl := AC h
  refine ⟨0, fun L hL => ?_⟩
  simp only [go_sem, z5]
attribute [local go_sem] nH Su SN Rr Rq Rp in
theorem uz {list : List AA} {least : Int} {y_ : (List AA) × Int} (h : Eo list least = some y_) : eN.F [.sl 2 (List.map AB list), .int .i64 least] = ⟨true, .tup [.fresh 2 (List.map AB y_.1), .int .i64 y_.2], [.any, .any]⟩ := by
 refine Br (by simp only [EA, ES, Ei, List.all_cons, List.all_nil, Bool.and_self, Bo (f := AB) (fun _ => rfl)]) ?_
 dsimp only [Eo] at h
 obtain ⟨y_1, z1, h⟩ := AE h
 have fz1 := QH z1
 try simp only [go_sem] at fz1
 rcases AF h with ⟨z2, h⟩ | ⟨z2, h⟩
 ·try simp only [go_sem, n1, n2, n3, n4] at z2
  all_goals
  obtain rfl := AC h
  refine ⟨0, fun L hL => ?_⟩
  simp only [go_sem, fz1, z2]
 ·try simp only [go_sem, n1, n2, n3, n4] at z2
  all_goals
  obtain ⟨y_3, z3, h⟩ := AE h
  have fz3 := Uk z3
  try simp only [go_sem, z2] at fz3
  rcases AF h with ⟨z4, h⟩ | ⟨z4, h⟩
  ·try simp only [go_sem, n1, n2, n3, n4, z2] at z4
   all_goals
   obtain rfl := AC h
   refine ⟨0, fun L hL => ?_⟩
   simp only [go_sem, fz1, z2, fz3, z4]
  ·try simp only [go_sem, n1, n2, n3, n4, z2] at z4
   all_goals
   obtain ⟨y_9, z9, h⟩ := AE h
   obtain ⟨Lz9, ez9⟩ := Jt z9
   obtain rfl := AC h
   refine ⟨Lz9, fun L hL => ?_⟩
   have ez9 := ez9 L (by omega)
   try simp only [go_sem, z2, z4] at ez9
   simp only [go_sem, fz1, z2, fz3, z4, ez9]
def rc : List Nat := [0, 2]
def rf : EL := ⟨1, 2, .seq (.region false [ VO 1 2 (.newnil 2)]) (.seq (.region false [ PM 3 0, PO 4 (.call 29 [(.s 0)]), PO 5 (.call 30 [(.s 0)]), VS 1 2 0]) (.ret)), [.t 1]⟩
noncomputable def pG : List (Nat × Bf) := [(29, Xl), (30, QP)]
theorem im : Aa pG 29 = some Xl := rfl
theorem il : Aa pG 30 = some QP := rfl
noncomputable def eM : Bf := Gd pG rf [.bor]
theorem s_45 : Ad Tryz.prog 14 eM := AY _ rfl (AI pc (AI mH Ab)) (by kernel_rfl : BF Tryz.prog 14 rf rc = true)
theorem M_45 : eM.modes = [.bor] := rfl
theorem wA : eM.flat = true := rfl
attribute [go_sem] M_45 wA im il
theorem uy {code : List UInt8} {y_ : (List AA)} (h : Cw code = some y_) : eM.F [.sl 1 (List.map Cc code)] = ⟨true, .fresh 2 (List.map AB y_), [.any]⟩ := by
 refine Br (by simp only [EA, ES, Ei, List.all_cons, List.all_nil, Bool.and_self, Bo (f := AB) (fun _ => rfl)]) ?_
 dsimp only [Cw] at h
 obtain ⟨y_1, z1, h⟩ := AE h
 have fz1 := aq z1
 try simp only [go_sem] at fz1
 obtain ⟨y_2, z2, h⟩ := AE h
 have fz2 := WD z2
 try simp only [go_sem] at fz2
 obtain rfl := AC h
 refine ⟨0, fun L hL => ?_⟩
 simp only [go_sem, rf, fz1, fz2]
def Wx : IR := .seq (.region false [ VO 9 18 (.bin false .lss (.v 8) (.v 7))]) (.seq (.cond (.v 9) (.skip) (.exit 1)) (.seq (.block 2 (.seq (.region false [ PM 19 8, PO 20 (.ixAddr 2 (.v 6) (.v 8)), PO 21 (.load true 2 (.s 0)), VO 5 6 (.alloc (.agg [.int .i64 (0), .int .i64 (0)])), VS 4 5 2, ⟨.no, 0, none, .store 2 (.v 5) (.s 0)⟩]) (.anyo 17 [ SO 0 22 (.fldAddr 1 (.v 5)), SO 1 23 (.load false 1 (.s 0)), SO 2 24 (.fldAddr 0 (.v 5)), SO 3 25 (.load false 1 (.s 2)), SO 4 26 (.bin false .sub (.s 1) (.s 3)), SO 5 27 (.mov (.v 0)), SO 6 28 (.mov (.v 3)), SO 7 29 (.ixAddr 2 (.s 5) (.s 6)), SO 8
 30 (.fldAddr 1 (.s 7)), SO 9 31 (.load false 1 (.s 8)), SO 10 32 (.mov (.v 0)), SO 11 33 (.mov (.v 3)), SO 12 34 (.ixAddr 2 (.s 10) (.s 11)), SO 13 35 (.fldAddr 0 (.s 12)), SO 14 36 (.load false 1 (.s 13)), SO 15 37 (.bin false .sub (.s 9) (.s 14)), SO 16 38 (.bin false .gtr (.s 4) (.s 15))] [] (.cond (.s 16) (.region false [ PM 39 4, VS 3 4 0]) (.skip))))) (.region false [ PO 40 (.bin false .add (.v 8) (I6 1)), VS 8 17 0])))
def Ro : List Bool := [true, false, false, true, false, false, true, true, true, false]
def Rn : List Bool := [false, false, false, true, false, false, false, false, false, false]
def Rm : List Bool := [false, true, true, false, false, false, false, false, false, false]
def ra : List Nat := [0, 2, 3, 4, 5, 6, 15, 16, 17, 18]
def nG : EL := ⟨1, 10, .seq (.region false [ VO 1 2 (.mov (I6 0)), VO 2 3 (.mov (I6 0))]) (.seq (.block 0 (.test false [ PM 8 0, PO 9 (.call 26 [(.s 0)]), PO 10 (.un .not (.s 0)), PO 7 (.mov (.s 0))] (.s 0) (.seq (.region false [ VO 1 2 (.mov (I6 0)), VO 2 3 (.mov (I6 1))]) (.ret)) (.test false [ PM 12 0, PO 13 (.len false (.s 0)), PO 14 (.bin false .eql (.s 0) (I6 0)), PO 11 (.mov (.s 0))] (.s 0) (.seq (.region false [ VO 1 2 (.mov (I6 0)), VO 2 3 (.mov (I6 3))]) (.ret)) (.skip)))) (.seq (.region false [ VO 3 4 (.mov (I6 0))]) (.seq (.seq (.region false [ VO 6 15 (.mov (.v 0)), VO 7 16
 (.len false (.v 6)), VO 8 17 (.mov (I6 0))]) (.block 1 (.loop Ro Rn Rm Wx))) (.seq (.region false [ PM 41 3, VS 1 2 0, VO 2 3 (.mov (I6 0))]) (.ret))))), [.t 1, .t 2]⟩
noncomputable def pF : List (Nat × Bf) := [(26, Xm)]
theorem ik : Aa pF 26 = some Xm := rfl
noncomputable def eL : Bf := Gd pF nG [.bor]
theorem s_46 : Ad Tryz.prog 15 eL := AY _ rfl (AI pd Ab) (by kernel_rfl : BF Tryz.prog 15 nG ra = true)
theorem M_46 : eL.modes = [.bor] := rfl
theorem vz : eL.flat = true := rfl
attribute [go_sem] M_46 vz ik
def Ss (list : List AA) (t15 : List AA) (t16 : Int) : (Int × Int) → St
 | (best, t17) => ⟨[.sl 2 (List.map AB list), .any, .any, .int .i64 best, .any, .any, .sl 2 (List.map AB t15), .int .i64 t16, .int .i64 t17, .any], [], [], true⟩
def SM (list : List AA) (t15 : List AA) (t16 : Int) (y : Int) : FT := (.exit 1, ⟨[.any, .any, .any, .int .i64 y, .any, .any, .any, .any, .any, .any], [], [], true⟩)
attribute [local go_sem] nG Ss SM Wx Ro Rn Rm in
theorem JE {list : List AA} {t15 : List AA} {t16 : Int} {sgm_ : Int × Int} {rho_ : Int} (h : AJ (ER list t15 t16) sgm_ = some rho_) : ∃ L0, ∀ L, L0 ≤ L → Cg (BD (Aa pF) L Wx) Ro Rn Rm L (Ss list t15 t16 sgm_) = SM list t15 t16 rho_ := by
 refine BJ (E := Ss list t15 t16) (R := SM list t15 t16) (fun y => by first | (intro c; cases c) | (rcases y with y | y <;> (intro c; cases c)) | (rcases y with y | y | y <;> (intro c; cases c))) ?_ h
 clear h
 rintro ⟨best, t17⟩ o_ h
 dsimp only [ER] at h
 rcases AF h with ⟨z4, h⟩ | ⟨z4, h⟩
 ·try simp only [go_sem, n1, n2, n3, n4] at z4
  all_goals
  obtain ⟨z5, h⟩ := AD h
  have lz5 := BT z5
  have xz5 := AR AB t15 lz5
  try simp only [go_sem] at lz5
  try simp only [go_sem] at xz5
  try simp only [go_sem, n1, n2, n3, n4, z4] at z5
  all_goals
  obtain ⟨z6, h⟩ := AD h
  have lz6 := BT z6
  have xz6 := AR AB list lz6
  try simp only [go_sem] at lz6
  try simp only [go_sem] at xz6
  try simp only [go_sem, n1, n2, n3, n4, z4, z5] at z6
  all_goals
  rcases AF h with ⟨z7, h⟩ | ⟨z7, h⟩
  all_goals
  try simp only [go_sem, n1, n2, n3, n4, z4, z5, z6] at z7
  all_goals
  obtain rfl := AC h
  refine ⟨0, fun L hL => ?_⟩
  simp only [go_sem, z4, z5, lz5, xz5, z6, lz6, xz6, z7]
 ·try simp only [go_sem, n1, n2, n3, n4] at z4
  all_goals
  obtain rfl := AC h
  refine ⟨0, fun L hL => ?_⟩
  simp only [go_sem, z4]
attribute [local go_sem] nG Ss SM Ro Rn Rm in
theorem ux {list : List AA} {y_ : Int × Int} (h : EQ list = some y_) : eL.F [.sl 2 (List.map AB list)] = ⟨true, .tup [.int .i64 y_.1, .int .i64 y_.2], [.any]⟩ := by
 refine Br rfl ?_
 dsimp only [EQ] at h
 obtain ⟨y_1, z1, h⟩ := AE h
 have fz1 := Ok z1
 try simp only [go_sem] at fz1
 rcases AF h with ⟨z2, h⟩ | ⟨z2, h⟩
 ·try simp only [go_sem, n1, n2, n3, n4] at z2
  all_goals
  obtain rfl := AC h
  refine ⟨0, fun L hL => ?_⟩
  simp only [go_sem, fz1, z2]
 ·try simp only [go_sem, n1, n2, n3, n4] at z2
  all_goals
  rcases AF h with ⟨z3, h⟩ | ⟨z3, h⟩
  ·try simp only [go_sem, n1, n2, n3, n4, z2] at z3
   all_goals
   obtain rfl := AC h
   refine ⟨0, fun L hL => ?_⟩
   simp only [go_sem, fz1, z2, z3]
  ·try simp only [go_sem, n1, n2, n3, n4, z2] at z3
   all_goals
   obtain ⟨y_8, z8, h⟩ := AE h
   obtain ⟨Lz8, ez8⟩ := JE z8
   obtain rfl := AC h
   refine ⟨Lz8, fun L hL => ?_⟩
   have ez8 := ez8 L (by omega)
   try simp only [go_sem, z2, z3] at ez8
   simp only [go_sem, fz1, z2, z3, ez8]
def Ww : IR := .seq (.test false [ PM 12 4, PM 13 0, PO 14 (.len false (.s 0)), PO 15 (.bin false .lss (.s 2) (.s 0))] (.s 0) (.skip) (.exit 0)) (.seq (.block 1 (.anyo 23 [ SO 0 18 (.mov (.v 0)), SO 1 19 (.mov (.v 4)), SO 2 20 (.ixAddr 2 (.s 0) (.s 1)), SO 3 21 (.fldAddr 1 (.s 2)), SO 4 22 (.load false 1 (.s 3)), SO 5 23 (.mov (.v 0)), SO 6 24 (.mov (.v 4)), SO 7 25 (.ixAddr 2 (.s 5) (.s 6)), SO 8 26 (.fldAddr 0 (.s 7)), SO 9 27 (.load false 1 (.s 8)), SO 10 28 (.bin false .sub (.s 4) (.s 9)), SO 11 29 (.mov (.v 0)), SO 12 30 (.mov (.v 3)), SO 13 31 (.ixAddr 2 (.s 11) (.s 12)), SO 14 32
 (.fldAddr 1 (.s 13)), SO 15 33 (.load false 1 (.s 14)), SO 16 34 (.mov (.v 0)), SO 17 35 (.mov (.v 3)), SO 18 36 (.ixAddr 2 (.s 16) (.s 17)), SO 19 37 (.fldAddr 0 (.s 18)), SO 20 38 (.load false 1 (.s 19)), SO 21 39 (.bin false .sub (.s 15) (.s 20)), SO 22 40 (.bin false .gtr (.s 10) (.s 21))] [] (.cond (.s 22) (.region false [ PM 41 4, VS 3 4 0]) (.skip)))) (.region false [ PM 16 4, PO 17 (.bin false .add (.s 0) (I6 1)), VS 4 5 0]))
def Rl : List Bool := [true, false, false, true, true]
def Rk : List Bool := [false, false, false, true, false]
def Rj : List Bool := [false, true, true, false, false]
def rZ : List Nat := [0, 2, 3, 4, 5]
def nE : EL := ⟨1, 5, .seq (.region false [ VO 1 2 (.mov (I6 0)), VO 2 3 (.mov (I6 0))]) (.seq (.test false [ PM 6 0, PO 7 (.call 35 [(.s 0)]), PO 8 (.un .not (.s 0))] (.s 0) (.seq (.region false [ VO 1 2 (.mov (I6 0)), VO 2 3 (.mov (I6 1))]) (.ret)) (.skip)) (.seq (.test false [ PM 9 0, PO 10 (.len false (.s 0)), PO 11 (.bin false .eql (.s 0) (I6 0))] (.s 0) (.seq (.region false [ VO 1 2 (.mov (I6 0)), VO 2 3 (.mov (I6 3))]) (.ret)) (.skip)) (.seq (.region false [ VO 3 4 (.mov (I6 0))]) (.seq (.seq (.region false [ VO 4 5 (.mov (I6 1))]) (.block 0 (.loop Rl Rk Rj Ww)))
 (.seq (.region false [ PM 42 3, VS 1 2 0, VO 2 3 (.mov (I6 0))]) (.ret)))))), [.t 1, .t 2]⟩
noncomputable def pE : List (Nat × Bf) := [(35, Lq)]
theorem ij : Aa pE 35 = some Lq := rfl
noncomputable def eK : Bf := Gd pE nE [.bor]
theorem s_47 : Ad Tryz.prog 16 eK := AY _ rfl (AI cU Ab) (by kernel_rfl : BF Tryz.prog 16 nE rZ = true)
theorem M_47 : eK.modes = [.bor] := rfl
theorem vy : eK.flat = true := rfl
attribute [go_sem] M_47 vy ij
def Sr (list : List AA) : (Int × Int) → St
 | (best, i) => ⟨[.sl 2 (List.map AB list), .any, .any, .int .i64 best, .int .i64 i], [], [], true⟩
def SL (list : List AA) (y : Int) : FT := (.exit 0, ⟨[.any, .any, .any, .int .i64 y, .any], [], [], true⟩)
attribute [local go_sem] nE Sr SL Ww Rl Rk Rj in
theorem Iu {list : List AA} {sgm_ : Int × Int} {rho_ : Int} (h : AJ (BK list) sgm_ = some rho_) : ∃ L0, ∀ L, L0 ≤ L → Cg (BD (Aa pE) L Ww) Rl Rk Rj L (Sr list sgm_) = SL list rho_ := by
 refine BJ (E := Sr list) (R := SL list) (fun y => by first | (intro c; cases c) | (rcases y with y | y <;> (intro c; cases c)) | (rcases y with y | y | y <;> (intro c; cases c))) ?_ h
 clear h
 rintro ⟨best, i⟩ o_ h
 dsimp only [BK] at h
 rcases AF h with ⟨z4, h⟩ | ⟨z4, h⟩
 ·try simp only [go_sem, n1, n2, n3, n4] at z4
  all_goals
  obtain ⟨z5, h⟩ := AD h
  have lz5 := BT z5
  have xz5 := AR AB list lz5
  try simp only [go_sem] at lz5
  try simp only [go_sem] at xz5
  try simp only [go_sem, n1, n2, n3, n4, z4] at z5
  all_goals
  obtain ⟨z6, h⟩ := AD h
  have lz6 := BT z6
  have xz6 := AR AB list lz6
  try simp only [go_sem] at lz6
  try simp only [go_sem] at xz6
  try simp only [go_sem, n1, n2, n3, n4, z4, z5] at z6
  all_goals
  rcases AF h with ⟨z7, h⟩ | ⟨z7, h⟩
  all_goals
  try simp only [go_sem, n1, n2, n3, n4, z4, z5, z6] at z7
  all_goals
  obtain rfl := AC h
  refine ⟨0, fun L hL => ?_⟩
  simp only [go_sem, z4, z5, lz5, xz5, z6, lz6, xz6, z7]
 ·try simp only [go_sem, n1, n2, n3, n4] at z4
  all_goals
  obtain rfl := AC h
  refine ⟨0, fun L hL => ?_⟩
  simp only [go_sem, z4]
attribute [local go_sem] nE Sr SL Rl Rk Rj in
theorem uw {list : List AA} {y_ : Int × Int} (h : EM list = some y_) : eK.F [.sl 2 (List.map AB list)] = ⟨true, .tup [.int .i64 y_.1, .int .i64 y_.2], [.any]⟩ := by
 refine Br rfl ?_
 dsimp only [EM] at h
 obtain ⟨y_1, z1, h⟩ := AE h
 have fz1 := QH z1
 try simp only [go_sem] at fz1
 rcases AF h with ⟨z2, h⟩ | ⟨z2, h⟩
 ·try simp only [go_sem, n1, n2, n3, n4] at z2
  all_goals
  obtain rfl := AC h
  refine ⟨0, fun L hL => ?_⟩
  simp only [go_sem, fz1, z2]
 ·try simp only [go_sem, n1, n2, n3, n4] at z2
  all_goals
  rcases AF h with ⟨z3, h⟩ | ⟨z3, h⟩
  ·try simp only [go_sem, n1, n2, n3, n4, z2] at z3
   all_goals
   obtain rfl := AC h
   refine ⟨0, fun L hL => ?_⟩
   simp only [go_sem, fz1, z2, z3]
  ·try simp only [go_sem, n1, n2, n3, n4, z2] at z3
   all_goals
   obtain ⟨y_8, z8, h⟩ := AE h
   obtain ⟨Lz8, ez8⟩ := Iu z8
   obtain rfl := AC h
   refine ⟨Lz8, fun L hL => ?_⟩
   have ez8 := ez8 L (by omega)
   try simp only [go_sem, z2, z3] at ez8
   simp only [go_sem, fz1, z2, z3, ez8]
def rX : List Nat := [0, 2]
def rY : EL := ⟨1, 2, .seq (.region false [ VO 1 2 (.newnil 2)]) (.seq (.region false [ PM 3 0, PO 4 (.call 29 [(.s 0)]), PO 5 (.call 30 [(.s 0)]), VS 1 2 0]) (.ret)), [.t 1]⟩
noncomputable def pD : List (Nat × Bf) := [(29, Xl), (30, QP)]
theorem ig : Aa pD 29 = some Xl := rfl
theorem ie : Aa pD 30 = some QP := rfl
noncomputable def eJ : Bf := Gd pD rY [.bor]
theorem s_48 : Ad Tryz.prog 17 eJ := AY _ rfl (AI pc (AI mH Ab)) (by kernel_rfl : BF Tryz.prog 17 rY rX = true)
theorem M_48 : eJ.modes = [.bor] := rfl
theorem vx : eJ.flat = true := rfl
attribute [go_sem] M_48 vx ig ie
theorem uv {code : List UInt8} {y_ : (List AA)} (h : Dd code = some y_) : eJ.F [.sl 1 (List.map Cc code)] = ⟨true, .fresh 2 (List.map AB y_), [.any]⟩ := by
 refine Br (by simp only [EA, ES, Ei, List.all_cons, List.all_nil, Bool.and_self, Bo (f := AB) (fun _ => rfl)]) ?_
 dsimp only [Dd] at h
 obtain ⟨y_1, z1, h⟩ := AE h
 have fz1 := aq z1
 try simp only [go_sem] at fz1
 obtain ⟨y_2, z2, h⟩ := AE h
 have fz2 := WD z2
 try simp only [go_sem] at fz2
 obtain rfl := AC h
 refine ⟨0, fun L hL => ?_⟩
 simp only [go_sem, rY, fz1, fz2]
theorem pY : Ad Tryz.prog 77 KP := nR
def qM : List Nat := [0, 1, 4]
def qN : EL := ⟨2, 3, .seq (.region false [ VO 2 4 (.mov (.c (.str [])))]) (.seq (.region false [ PM 5 0, PM 6 1, PO 7 (.call 77 [(.s 1), (.s 0)]), VS 2 4 0]) (.ret)), [.t 2]⟩
noncomputable def td : List (Nat × Bf) := [(77, KP)]
theorem ic : Aa td 77 = some KP := rfl
noncomputable def eI : Bf := Gd td qN [.bor, .bor]
theorem s_50 : Ad Tryz.prog 62 eI := AY _ rfl (AI pY Ab) (by kernel_rfl : BF Tryz.prog 62 qN qM = true)
theorem M_50 : eI.modes = [.bor, .bor] := rfl
theorem vw : eI.flat = true := rfl
attribute [go_sem] M_50 vw ic
theorem uu {i : Int} {base : Int} {y_ : (List UInt8)} (h : FZ i base = some y_) : eI.F [.int .i64 i, .int .i64 base] = ⟨true, .str y_, [.any, .any]⟩ := by
 refine Br rfl ?_
 dsimp only [FZ] at h
 obtain ⟨y_1, z1, h⟩ := AE h
 have fz1 := nq z1
 try simp only [go_sem] at fz1
 obtain rfl := AC h
 refine ⟨0, fun L hL => ?_⟩
 simp only [go_sem, qN, fz1]
def ql : List Nat := [0, 2]
def qm : EL := ⟨1, 2, .seq (.region false [ VO 1 2 (.mov (.c (.str [])))]) (.seq (.region false [ PM 3 0, PO 4 (.call 62 [(.s 0), (I6 10)]), VS 1 2 0]) (.ret)), [.t 1]⟩
noncomputable def tc : List (Nat × Bf) := [(62, eI)]
theorem ib : Aa tc 62 = some eI := rfl
noncomputable def eH : Bf := Gd tc qm [.bor]
theorem s_51 : Ad Tryz.prog 43 eH := AY _ rfl (AI s_50 Ab) (by kernel_rfl : BF Tryz.prog 43 qm ql = true)
theorem M_51 : eH.modes = [.bor] := rfl
theorem vv : eH.flat = true := rfl
attribute [go_sem] M_51 vv ib
theorem oa {n : Int} {y_ : (List UInt8)} (h : GD n = some y_) : eH.F [.int .i64 n] = ⟨true, .str y_, [.any]⟩ := by
 refine Br rfl ?_
 dsimp only [GD] at h
 obtain ⟨y_1, z1, h⟩ := AE h
 have fz1 := uu z1
 try simp only [go_sem] at fz1
 obtain rfl := AC h
 refine ⟨0, fun L hL => ?_⟩
 simp only [go_sem, qm, fz1]
theorem mC : Ad Tryz.prog 44 HD := kH
def Wv : IR := .seq (.region false [ VO 7 13 (.bin false .lss (.v 6) (.v 5))]) (.seq (.cond (.v 7) (.skip) (.exit 0)) (.seq (.block 1 (.seq (.region false [ PO 14 (.ixAddr 2 (.v 4) (.v 6)), PO 15 (.load true 2 (.s 0)), VO 3 5 (.alloc (.agg [.int .i64 (0), .int .i64 (0)])), ⟨.no, 0, none, .store 2 (.v 3) (.s 0)⟩]) (.anyo 11 [ SO 0 16 (.mov (.v 2)), SO 1 17 (.fldAddr 0 (.v 3)), SO 2 18 (.load false 1 (.s 1)), SO 3 19 (.callp 43 [(.s 2)]), SO 4 20 (.bin false .add (.s 3) (.c (.str [46, 46]))), SO 5 21 (.fldAddr 1 (.v 3)), SO 6 22 (.load false 1 (.s 5)), SO 7 23 (.callp 43 [(.s 6)]), SO 8 24
 (.bin false .add (.s 4) (.s 7)), SO 9 25 (.pur (.mkSl 1 (.str []) 1 [(0, (.s 8))])), SO 10 26 (.app 1 16 (.str []) (.s 0) (.s 9)), VS 2 3 10] [] .skip))) (.region false [ PO 27 (.bin false .add (.v 6) (I6 1)), VS 6 12 0])))
def Ri : List Bool := [false, false, true, false, true, true, true, false]
def Rh : List Bool := [false, false, true, false, false, false, false, false]
def Rg : List Bool := [false, true, false, false, false, false, false, false]
def rW : List Nat := [0, 2, 3, 5, 10, 11, 12, 13]
def nD : EL := ⟨1, 8, .seq (.region false [ VO 1 2 (.mov (.c (.str [])))]) (.seq (.test false [ PM 6 0, PO 7 (.call 26 [(.s 0)]), PO 8 (.un .not (.s 0))] (.s 0) (.seq (.region false [ VO 1 2 (.mov (.c (.str [])))]) (.ret)) (.skip)) (.seq (.region false [ PO 9 (.mkSl 1 (.str []) 0 []), VS 2 3 0]) (.seq (.seq (.region false [ VO 4 10 (.mov (.v 0)), VO 5 11 (.len false (.v 4)), VO 6 12 (.mov (I6 0))]) (.block 0 (.loop Ri Rh Rg Wv))) (.seq (.region false [ PM 28 2, PO 29 (.call 44 [(.s 0), (.c (.str [32]))]), VS 1 2 0]) (.ret))))), [.t 1]⟩
noncomputable def fW : List (Nat × Bf) := [(26, Xm), (43, eH), (44, HD)]
theorem ia : Aa fW 26 = some Xm := rfl
theorem iY : Aa fW 43 = some eH := rfl
theorem iX : Aa fW 44 = some HD := rfl
noncomputable def ZI : Bf := Gd fW nD [.bor]
theorem uC : Ad Tryz.prog 18 ZI := AY _ rfl (AI pd (AI s_51 (AI mC Ab))) (by kernel_rfl : BF Tryz.prog 18 nD rW = true)
theorem M_53 : ZI.modes = [.bor] := rfl
theorem vu : ZI.flat = true := rfl
attribute [go_sem] M_53 vu ia iY iX
def Sq (t10 : List AA) (t11 : Int) : ((List (List UInt8)) × Int) → St
 | (words, t12) => ⟨[.any, .any, .own 3200000, .any, .sl 2 (List.map AB t10), .int .i64 t11, .int .i64 t12, .any], [], [(3200000, ⟨1, List.map AV.str words⟩)], true⟩
def SK (t10 : List AA) (t11 : Int) (y : (List (List UInt8))) : FT := (.exit 0, ⟨[.any, .any, .own 3200000, .any, .any, .any, .any, .any], [], [(3200000, ⟨1, List.map AV.str y⟩)], true⟩)
attribute [local go_sem] nD Sq SK Wv Ri Rh Rg in
theorem KG {t10 : List AA} {t11 : Int} {sgm_ : (List (List UInt8)) × Int} {rho_ : (List (List UInt8))} (h : AJ (Cb t10 t11) sgm_ = some rho_) : ∃ L0, ∀ L, L0 ≤ L → Cg (BD (Aa fW) L Wv) Ri Rh Rg L (Sq t10 t11 sgm_) = SK t10 t11 rho_ := by
 refine BJ (E := Sq t10 t11) (R := SK t10 t11) (fun y => by first | (intro c; cases c) | (rcases y with y | y <;> (intro c; cases c)) | (rcases y with y | y | y <;> (intro c; cases c))) ?_ h
 clear h
 rintro ⟨words, t12⟩ o_ h
 dsimp only [Cb] at h
 rcases AF h with ⟨z3, h⟩ | ⟨z3, h⟩
 ·try simp only [go_sem, n1, n2, n3, n4] at z3
  all_goals
  obtain ⟨z4, h⟩ := AD h
  have lz4 := BT z4
  have xz4 := AR AB t10 lz4
  try simp only [go_sem] at lz4
  try simp only [go_sem] at xz4
  try simp only [go_sem, n1, n2, n3, n4, z3] at z4
  all_goals
  obtain ⟨y_5, z5, h⟩ := AE h
  have fz5 := oa z5
  try simp only [go_sem, z3, z4] at fz5
  obtain ⟨z6, h⟩ := AD h
  try simp only [go_sem, n1, n2, n3, n4, z3, z4] at z6
  all_goals
  obtain ⟨y_7, z7, h⟩ := AE h
  have fz7 := oa z7
  try simp only [go_sem, z3, z4, z6] at fz7
  obtain ⟨z8, h⟩ := AD h
  try simp only [go_sem, n1, n2, n3, n4, z3, z4, z6] at z8
  all_goals
  obtain ⟨z9, h⟩ := AD h
  try simp only [go_sem, n1, n2, n3, n4, z3, z4, z6, z8] at z9
  all_goals
  obtain rfl := AC h
  refine ⟨0, fun L hL => ?_⟩
  simp only [go_sem, z3, z4, lz4, xz4, fz5, z6, fz7, z8, z9]
 ·try simp only [go_sem, n1, n2, n3, n4] at z3
  all_goals
  obtain rfl := AC h
  refine ⟨0, fun L hL => ?_⟩
  simp only [go_sem, z3]
attribute [local go_sem] nD Sq SK Ri Rh Rg in
theorem oZ {list : List AA} {y_ : (List UInt8)} (h : DP list = some y_) : ZI.F [.sl 2 (List.map AB list)] = ⟨true, .str y_, [.any]⟩ := by
 refine Br rfl ?_
 dsimp only [DP] at h
 obtain ⟨y_1, z1, h⟩ := AE h
 have fz1 := Ok z1
 try simp only [go_sem] at fz1
 rcases AF h with ⟨z2, h⟩ | ⟨z2, h⟩
 ·try simp only [go_sem, n1, n2, n3, n4] at z2
  all_goals
  obtain rfl := AC h
  refine ⟨0, fun L hL => ?_⟩
  simp only [go_sem, fz1, z2]
 ·try simp only [go_sem, n1, n2, n3, n4] at z2
  all_goals
  obtain ⟨y_10, z10, h⟩ := AE h
  obtain ⟨Lz10, ez10⟩ := KG z10
  obtain ⟨y_11, z11, h⟩ := AE h
  have fz11 := lQ z11
  try simp only [go_sem, z2] at fz11
  obtain rfl := AC h
  refine ⟨Lz10, fun L hL => ?_⟩
  have ez10 := ez10 L (by omega)
  try simp only [go_sem, z2] at ez10
  simp only [go_sem, fz1, z2, fz11, ez10]
theorem gB : Ad Tryz.prog 45 JG := nT
theorem gA : Ad Tryz.prog 67 Hi := dM
def qj : List Nat := [0, 2, 3, 4, 5, 6, 8, 9, 10, 11]
def qk : EL := ⟨1, 10, .seq (.region false [ VO 1 2 (.mov (I6 0)), VO 2 3 (.mov (I6 0)), VO 3 4 (.mov (.c (.bool false)))]) (.seq (.region false [ PM 13 0, PO 14 (.call 45 [(.s 0), (.c (.str [46, 46]))]), PO 12 (.mov (.s 0)), PO 15 (.ext (.s 0) 0), PO 16 (.ext (.s 1) 1), PO 17 (.ext (.s 2) 2), VS 4 5 2, VS 5 6 1, PO 7 (.mov (.s 0))]) (.seq (.region false [ PM 19 4, PO 20 (.call 67 [(.s 0)]), PO 18 (.mov (.s 0)), PO 21 (.ext (.s 0) 0), PO 22 (.ext (.s 1) 1), VS 6 8 1, VS 7 9 0]) (.seq (.region false [ PM 24 5, PO 25 (.call 67 [(.s 0)]), PO 23 (.mov (.s 0)), PO 26 (.ext (.s 0) 0), PO 27 (.ext
 (.s 1) 1), VS 8 10 1, VS 9 11 0]) (.seq (.region false [ PM 28 6, PM 29 8, PM 30 7, PO 31 (.mov (.s 0)), ⟨.push, 32, (some ((.s 0), true)), .mov (.v 9)⟩, PO 33 (.pick (.s 1) (.s 0) (.c (.bool false))), VS 1 2 5, VS 2 3 4, VS 3 4 0]) (.ret))))), [.t 1, .t 2, .t 3]⟩
noncomputable def pC : List (Nat × Bf) := [(45, JG), (67, Hi)]
theorem iV : Aa pC 45 = some JG := rfl
theorem iU : Aa pC 67 = some Hi := rfl
noncomputable def eG : Bf := Gd pC qk [.bor]
theorem s_56 : Ad Tryz.prog 46 eG := AY _ rfl (AI gB (AI gA Ab)) (by kernel_rfl : BF Tryz.prog 46 qk qj = true)
theorem M_56 : eG.modes = [.bor] := rfl
theorem vr : eG.flat = true := rfl
attribute [go_sem] M_56 vr iV iU
theorem ut {s_ : List UInt8} {y_ : Int × Int × Bool} (h : Ep s_ = some y_) : eG.F [.str s_] = ⟨true, .tup [.int .i64 y_.1, .int .i64 y_.2.1, .bool y_.2.2], [.any]⟩ := by
 refine Br rfl ?_
 dsimp only [Ep] at h
 obtain ⟨y_1, z1, h⟩ := AE h
 have fz1 := bu z1
 try simp only [go_sem] at fz1
 obtain ⟨y_2, z2, h⟩ := AE h
 have fz2 := WB z2
 try simp only [go_sem] at fz2
 obtain ⟨y_3, z3, h⟩ := AE h
 have fz3 := WB z3
 try simp only [go_sem] at fz3
 obtain rfl := AC h
 refine ⟨0, fun L hL => ?_⟩
 simp only [go_sem, qk, fz1, fz2, fz3]
def Wu : IR := .seq (.test false [ PM 14 4, PO 15 (.bin false .neq (.s 0) (.c (.str [])))] (.s 0) (.skip) (.exit 0)) (.block 1 (.seq (.region false [ PM 17 4, PO 18 (.call 45 [(.s 0), (.c (.str [32]))]), PO 16 (.mov (.s 0)), PO 19 (.ext (.s 0) 0), PO 20 (.ext (.s 1) 1), PO 21 (.ext (.s 2) 2), VS 5 6 2, VS 6 7 1, PO 8 (.mov (.s 0))]) (.seq (.region false [ PM 23 5, PO 24 (.call 46 [(.s 0)]), PO 22 (.mov (.s 0)), PO 25 (.ext (.s 0) 0), PO 26 (.ext (.s 1) 1), PO 27 (.ext (.s 2) 2), VS 7 9 2, VS 8 10 1, VS 9 11 0]) (.seq (.test false [ PM 28 9, PO 29 (.un .not (.s 0)), PO 30 (.mov (.s 0)),
 ⟨.push, 31, (some ((.s 0), false)), .mov (.v 3)⟩, ⟨.push, 32, (some ((.s 1), false)), .len false (.s 0)⟩, ⟨.push, 33, (some ((.s 2), false)), .bin false .eql (.s 0) (I6 30)⟩, PO 34 (.pick (.s 3) (.c (.bool true)) (.s 0))] (.s 0) (.seq (.region false [ VO 1 2 (.newnil 2), VO 2 3 (.mov (.c (.bool false)))]) (.ret)) (.skip)) (.seq (.region false [ PM 35 3, PM 36 7, PM 37 8, PO 38 (.build [.int .i64 (0), .int .i64 (0)] [(0, 1, (.s 1)), (1, 1, (.s 0))]), PO 39 (.mkSl 2 (.agg [.int .i64 (0), .int .i64 (0)]) 1 [(0, (.s 0))]), PO 40 (.app 2 16 (.agg [.int .i64 (0), .int .i64 (0)]) (.s 4) (.s 0)), VS 3
 4 0]) (.region false [ PM 41 6, VS 4 5 0]))))))
def Rf : List Bool := [true, false, false, true, true, false, false, false, false, false]
def Re : List Bool := [true, false, false, true, false, false, false, false, false, false]
def Rd : List Bool := [false, true, true, false, false, false, false, false, false, false]
def rV : List Nat := [0, 2, 3, 4, 5, 6, 7, 9, 10, 11]
def nC : EL := ⟨1, 10, .seq (.region false [ VO 1 2 (.newnil 2), VO 2 3 (.mov (.c (.bool false)))]) (.seq (.region false [ PO 12 (.mkSl 2 (.agg [.int .i64 (0), .int .i64 (0)]) 0 []), VS 3 4 0]) (.seq (.seq (.region false [ PM 13 0, VS 4 5 0]) (.block 0 (.loop Rf Re Rd Wu))) (.seq (.test false [ PM 42 3, PO 43 (.call 26 [(.s 0)]), PO 44 (.un .not (.s 0)), PO 45 (.mov (.s 0)), ⟨.push, 46, (some ((.s 0), false)), .mov (.v 3)⟩, ⟨.push, 47, (some ((.s 1), false)), .call 18 [(.s 0)]⟩, ⟨.push, 48, (some ((.s 2), false)), .mov (.v 0)⟩, ⟨.push, 49, (some ((.s 3), false)), .bin
 false .neq (.s 1) (.s 0)⟩, PO 50 (.pick (.s 4) (.c (.bool true)) (.s 0))] (.s 0) (.seq (.region false [ VO 1 2 (.newnil 2), VO 2 3 (.mov (.c (.bool false)))]) (.ret)) (.skip)) (.seq (.region false [ PM 51 3, VS 1 2 0, VO 2 3 (.mov (.c (.bool true)))]) (.ret))))), [.t 1, .t 2]⟩
noncomputable def cJ : List (Nat × Bf) := [(45, JG), (46, eG), (26, Xm), (18, ZI)]
theorem iQ : Aa cJ 45 = some JG := rfl
theorem iP : Aa cJ 46 = some eG := rfl
theorem iS : Aa cJ 26 = some Xm := rfl
theorem iT : Aa cJ 18 = some ZI := rfl
noncomputable def eF : Bf := Gd cJ nC [.bor]
theorem s_57 : Ad Tryz.prog 19 eF := AY _ rfl (AI gB (AI s_56 (AI pd (AI uC Ab)))) (by kernel_rfl : BF Tryz.prog 19 nC rV = true)
theorem M_57 : eF.modes = [.bor] := rfl
theorem vq : eF.flat = true := rfl
attribute [go_sem] M_57 vq iQ iP iS iT
def Sp (s_ : List UInt8) : ((List AA) × (List UInt8)) → St
 | (list, rest_) => ⟨[.str s_, .any, .any, .own 3200000, .str rest_, .any, .any, .any, .any, .any], [], [(3200000, ⟨2, List.map AB list⟩)], true⟩
def SJ (s_ : List UInt8) : ((List AA) ⊕ ((List AA) × Bool)) → FT
 | .inl y => (.exit 0, ⟨[.str s_, .any, .any, .own 3200000, .any, .any, .any, .any, .any, .any], [], [(3200000, ⟨2, List.map AB y⟩)], true⟩)
 | .inr y => (.ret, ⟨[.any, .own 3200000, .bool y.2, .any, .any, .any, .any, .any, .any, .any], [], [(3200000, ⟨2, List.map AB y.1⟩)], true⟩)
attribute [local go_sem] nC Sp SJ Wu Rf Re Rd in
theorem KH {s_ : List UInt8} {sgm_ : (List AA) × (List UInt8)} {rho_ : (List AA) ⊕ ((List AA) × Bool)} (h : AJ (Bl s_) sgm_ = some rho_) : ∃ L0, ∀ L, L0 ≤ L → Cg (BD (Aa cJ) L Wu) Rf Re Rd L (Sp s_ sgm_) = SJ s_ rho_ := by
 refine BJ (E := Sp s_) (R := SJ s_) (fun y => by first | (intro c; cases c) | (rcases y with y | y <;> (intro c; cases c)) | (rcases y with y | y | y <;> (intro c; cases c))) ?_ h
 clear h
 rintro ⟨list, rest_⟩ o_ h
 dsimp only [Bl] at h
 rcases AF h with ⟨z1, h⟩ | ⟨z1, h⟩
 ·try simp only [go_sem, n1, n2, n3, n4] at z1
  all_goals
  obtain ⟨y_2, z2, h⟩ := AE h
  have fz2 := bu z2
  try simp only [go_sem, z1] at fz2
  obtain ⟨y_3, z3, h⟩ := AE h
  have fz3 := ut z3
  try simp only [go_sem, z1] at fz3
  rcases AF h with ⟨z4, h⟩ | ⟨z4, h⟩
  ·try simp only [go_sem, n1, n2, n3, n4, z1] at z4
   all_goals
   obtain rfl := AC h
   refine ⟨0, fun L hL => ?_⟩
   simp only [go_sem, z1, fz2, fz3, z4]
  ·try simp only [go_sem, n1, n2, n3, n4, z1] at z4
   all_goals
   obtain ⟨z5, h⟩ := AD h
   try simp only [go_sem, n1, n2, n3, n4, z1, z4] at z5
   all_goals
   obtain rfl := AC h
   refine ⟨0, fun L hL => ?_⟩
   simp only [go_sem, z1, fz2, fz3, z4, z5]
 ·try simp only [go_sem, n1, n2, n3, n4] at z1
  all_goals
  obtain rfl := AC h
  refine ⟨0, fun L hL => ?_⟩
  simp only [go_sem, z1]
attribute [local go_sem] Sp SJ Rf Re Rd nC in
theorem oY {s_ : List UInt8} {y_ : (List AA) × Bool} (h : CL s_ = some y_) : eF.F [.str s_] = ⟨true, .tup [.fresh 2 (List.map AB y_.1), .bool y_.2], [.any]⟩ := by
 refine Br (by simp only [EA, ES, Ei, List.all_cons, List.all_nil, Bool.and_self, Bo (f := AB) (fun _ => rfl)]) ?_
 dsimp only [CL] at h
 obtain ⟨y_6, z6, h⟩ := AE h
 obtain ⟨Lz6, ez6⟩ := KH z6
 rcases y_6 with y_6a | y_6b
 ·dsimp only at h
  obtain ⟨y_7, z7, h⟩ := AE h
  have fz7 := Ok z7
  try simp only [go_sem] at fz7
  obtain ⟨z8, h⟩ := AD h
  rcases Ay z8 with ⟨gz8, z8⟩ | gz8
  ·try simp only [go_sem, n1, n2, n3, n4] at gz8
   all_goals
   obtain ⟨y_8, hz8⟩ := Option.isSome_iff_exists.1 z8
   have fz8 := oZ hz8
   try simp only [go_sem, n1, n2, n3, n4, gz8] at hz8
   all_goals
   try simp only [go_sem, gz8] at fz8
   rcases AF h with ⟨z9, h⟩ | ⟨z9, h⟩
   all_goals
   try simp only [go_sem, n1, n2, n3, n4, gz8, hz8] at z9
   all_goals
   obtain rfl := AC h
   refine ⟨Lz6, fun L hL => ?_⟩
   have ez6 := ez6 L (by omega)
   try simp only [go_sem, gz8, hz8, z9] at ez6
   simp only [go_sem, fz7, gz8, hz8, fz8, z9, ez6]
  ·have gz8n := BH gz8
   have gz8nn := Fj gz8n
   try simp only [go_sem, n1, n2, n3, n4] at gz8nn
   all_goals
   rcases AF h with ⟨z9, h⟩ | ⟨z9, h⟩
   ·try simp only [go_sem, n1, n2, n3, n4, gz8nn] at z9
    all_goals
    obtain rfl := AC h
    refine ⟨Lz6, fun L hL => ?_⟩
    have ez6 := ez6 L (by omega)
    try simp only [go_sem, gz8nn, z9] at ez6
    simp only [go_sem, fz7, gz8nn, z9, ez6]
   ·try simp only [go_sem, n1, n2, n3, n4, gz8nn] at z9
    all_goals
    (simp_all)
 ·dsimp only at h
  obtain rfl := AC h
  refine ⟨Lz6, fun L hL => ?_⟩
  have ez6 := ez6 L (by omega)
  try simp only [go_sem] at ez6
  simp only [go_sem, ez6]
def Wa : IR := .seq (.test false [ PM 8 3, PO 9 (.bin false .neq (.s 0) (I6 0))] (.s 0) (.skip) (.exit 0)) (.seq (.block 1 (.seq (.region false [ PM 12 3, PO 13 (.bin false .rem (.s 0) (I6 10)), VS 4 5 0]) (.seq (.test false [ PM 14 4, PO 15 (.bin false .lss (.s 0) (I6 0))] (.s 0) (.region false [ PM 16 4, PO 17 (.un .neg (.s 0)), VS 4 5 0]) (.skip)) (.region false [ PM 18 4, PO 19 (.bin false .add (I6 48) (.s 0)), PO 20 (.conv .u8 (.s 0)), PO 21 (.mkSl 1 (.int .u8 (0)) 1 [(0, (.s 0))]), PM 22 2, PO 23 (.app 1 1 (.int .u8 (0)) (.s 1) (.s 0)), VS 2 3 0])))) (.region false [ PM 10 3, PO 11
 (.bin false .quo (.s 0) (I6 10)), VS 3 4 0]))
def Qf : List Bool := [true, false, true, true, false]
def Qe : List Bool := [true, false, true, false, false]
def Qd : List Bool := [false, true, false, false, false]
def qL : List Nat := [0, 2, 3, 4, 5]
def mi : EL := ⟨1, 5, .seq (.region false [ VO 1 2 (.mov (.c (.str [])))]) (.seq (.region false [ PO 6 (.mkSl 1 (.int .u8 (0)) 0 []), VS 2 3 0]) (.seq (.seq (.region false [ PM 7 0, VS 3 4 0]) (.block 0 (.loop Qf Qe Qd Wa))) (.seq (.test false [ PM 24 2, PO 25 (.len false (.s 0)), PO 26 (.bin false .eql (.s 0) (I6 0))] (.s 0) (.seq (.region false [ VO 1 2 (.mov (.c (.str [48])))]) (.ret)) (.skip)) (.seq (.test false [ PM 27 0, PO 28 (.bin false .lss (.s 0) (I6 0))] (.s 0) (.seq (.region false [ PM 29 2, PO 30 (.b2s (.s 0)), PO 31 (.bin false .add (.c (.str [45])) (.s 0)),
 VS 1 2 0]) (.ret)) (.skip)) (.seq (.region false [ PM 32 2, PO 33 (.b2s (.s 0)), VS 1 2 0]) (.ret)))))), [.t 1]⟩
noncomputable def tb : List (Nat × Bf) := []
noncomputable def ZH : Bf := Gd tb mi [.bor]
theorem uB : Ad Tryz.prog 68 ZH := AY _ rfl Ab (by kernel_rfl : BF Tryz.prog 68 mi qL = true)
theorem M_58 : ZH.modes = [.bor] := rfl
theorem vp : ZH.flat = true := rfl
attribute [go_sem] M_58 vp
def So (n : Int) : ((List UInt8) × Int) → St
 | (out, k) => ⟨[.int .i64 n, .any, .own 3200000, .int .i64 k, .any], [], [(3200000, ⟨1, List.map Cc out⟩)], true⟩
def SI (n : Int) (y : (List UInt8)) : FT := (.exit 0, ⟨[.int .i64 n, .any, .own 3200000, .any, .any], [], [(3200000, ⟨1, List.map Cc y⟩)], true⟩)
attribute [local go_sem] mi So SI Wa Qf Qe Qd in
theorem Mv {n : Int} {sgm_ : (List UInt8) × Int} {rho_ : (List UInt8)} (h : AJ (Ch n) sgm_ = some rho_) : ∃ L0, ∀ L, L0 ≤ L → Cg (BD (Aa tb) L Wa) Qf Qe Qd L (So n sgm_) = SI n rho_ := by
 refine BJ (E := So n) (R := SI n) (fun y => by first | (intro c; cases c) | (rcases y with y | y <;> (intro c; cases c)) | (rcases y with y | y | y <;> (intro c; cases c))) ?_ h
 clear h
 rintro ⟨out, k⟩ o_ h
 dsimp only [Ch] at h
 rcases AF h with ⟨z1, h⟩ | ⟨z1, h⟩
 ·try simp only [go_sem, n1, n2, n3, n4] at z1
  all_goals
  obtain ⟨z2, h⟩ := AD h
  try simp only [go_sem, n1, n2, n3, n4, z1] at z2
  all_goals
  rcases AF h with ⟨z3, h⟩ | ⟨z3, h⟩
  ·try simp only [go_sem, n1, n2, n3, n4, z1, z2] at z3
   all_goals
   obtain ⟨z4, h⟩ := AD h
   try simp only [go_sem, n1, n2, n3, n4, z1, z2, z3] at z4
   all_goals
   obtain rfl := AC h
   refine ⟨0, fun L hL => ?_⟩
   simp only [go_sem, z1, z2, z3, z4]
  ·try simp only [go_sem, n1, n2, n3, n4, z1, z2] at z3
   all_goals
   obtain ⟨z5, h⟩ := AD h
   try simp only [go_sem, n1, n2, n3, n4, z1, z2, z3] at z5
   all_goals
   obtain rfl := AC h
   refine ⟨0, fun L hL => ?_⟩
   simp only [go_sem, z1, z2, z3, z5]
 ·try simp only [go_sem, n1, n2, n3, n4] at z1
  all_goals
  obtain rfl := AC h
  refine ⟨0, fun L hL => ?_⟩
  simp only [go_sem, z1]
attribute [local go_sem] So SI Qf Qe Qd mi in
theorem MA {n : Int} {y_ : (List UInt8)} (h : Cl n = some y_) : ZH.F [.int .i64 n] = ⟨true, .str y_, [.any]⟩ := by
 refine Br rfl ?_
 dsimp only [Cl] at h
 obtain ⟨y_6, z6, h⟩ := AE h
 obtain ⟨Lz6, ez6⟩ := Mv z6
 rcases AF h with ⟨z7, h⟩ | ⟨z7, h⟩
 ·try simp only [go_sem, n1, n2, n3, n4] at z7
  all_goals
  obtain rfl := AC h
  refine ⟨Lz6, fun L hL => ?_⟩
  have ez6 := ez6 L (by omega)
  try simp only [go_sem, z7] at ez6
  simp only [go_sem, z7, ez6]
 ·try simp only [go_sem, n1, n2, n3, n4] at z7
  all_goals
  rcases AF h with ⟨z8, h⟩ | ⟨z8, h⟩
  ·try simp only [go_sem, n1, n2, n3, n4, z7] at z8
   all_goals
   obtain ⟨z9, h⟩ := AD h
   try simp only [go_sem, n1, n2, n3, n4, z7, z8] at z9
   all_goals
   obtain rfl := AC h
   refine ⟨Lz6, fun L hL => ?_⟩
   have ez6 := ez6 L (by omega)
   try simp only [go_sem, z7, z8, z9] at ez6
   simp only [go_sem, z7, z8, z9, ez6]
  ·try simp only [go_sem, n1, n2, n3, n4, z7] at z8
   all_goals
   obtain rfl := AC h
   refine ⟨Lz6, fun L hL => ?_⟩
   have ez6 := ez6 L (by omega)
   try simp only [go_sem, z7, z8] at ez6
   simp only [go_sem, z7, z8, ez6]
def Wk : IR := .seq (.test false [ PM 5 3, PM 6 0, PO 7 (.len false (.s 0)), PO 8 (.bin false .lss (.s 2) (.s 0))] (.s 0) (.skip) (.exit 0)) (.seq (.block 1 (.seq (.test false [ PM 11 3, PO 12 (.bin false .gtr (.s 0) (I6 0))] (.s 0) (.region false [ PM 13 2, PO 14 (.bin false .add (.s 0) (.c (.str [32]))), VS 2 3 0]) (.skip)) (.anyo 16 [ SO 0 15 (.mov (.v 2)), SO 1 16 (.mov (.v 0)), SO 2 17 (.mov (.v 3)), SO 3 18 (.ixAddr 2 (.s 1) (.s 2)), SO 4 19 (.fldAddr 0 (.s 3)), SO 5 20 (.load false 1 (.s 4)), SO 6 21 (.callp 68 [(.s 5)]), SO 7 22 (.bin false .add (.s 6) (.c (.str [46, 46]))), SO 8
 23 (.mov (.v 0)), SO 9 24 (.mov (.v 3)), SO 10 25 (.ixAddr 2 (.s 8) (.s 9)), SO 11 26 (.fldAddr 1 (.s 10)), SO 12 27 (.load false 1 (.s 11)), SO 13 28 (.callp 68 [(.s 12)]), SO 14 29 (.bin false .add (.s 7) (.s 13)), SO 15 30 (.bin false .add (.s 0) (.s 14)), VS 2 3 15] [] .skip))) (.region false [ PM 9 3, PO 10 (.bin false .add (.s 0) (I6 1)), VS 3 4 0]))
def RG : List Bool := [true, false, true, true]
def RF : List Bool := [false, false, true, false]
def RE : List Bool := [false, true, false, false]
def qi : List Nat := [0, 2, 3, 4]
def mr : EL := ⟨1, 4, .seq (.region false [ VO 1 2 (.mov (.c (.str [])))]) (.seq (.region false [ VO 2 3 (.mov (.c (.str [])))]) (.seq (.seq (.region false [ VO 3 4 (.mov (I6 0))]) (.block 0 (.loop RG RF RE Wk))) (.seq (.region false [ PM 31 2, VS 1 2 0]) (.ret)))), [.t 1]⟩
noncomputable def pB : List (Nat × Bf) := [(68, ZH)]
theorem iO : Aa pB 68 = some ZH := rfl
noncomputable def ZG : Bf := Gd pB mr [.bor]
theorem uA : Ad Tryz.prog 47 ZG := AY _ rfl (AI uB Ab) (by kernel_rfl : BF Tryz.prog 47 mr qi = true)
theorem M_59 : ZG.modes = [.bor] := rfl
theorem vo : ZG.flat = true := rfl
attribute [go_sem] M_59 vo iO
def Sn (list : List AA) : ((List UInt8) × Int) → St
 | (out, i) => ⟨[.sl 2 (List.map AB list), .any, .str out, .int .i64 i], [], [], true⟩
def SH (list : List AA) (y : (List UInt8)) : FT := (.exit 0, ⟨[.any, .any, .str y, .any], [], [], true⟩)
attribute [local go_sem] mr Sn SH Wk RG RF RE in
theorem MJ {list : List AA} {sgm_ : (List UInt8) × Int} {rho_ : (List UInt8)} (h : AJ (DH list) sgm_ = some rho_) : ∃ L0, ∀ L, L0 ≤ L → Cg (BD (Aa pB) L Wk) RG RF RE L (Sn list sgm_) = SH list rho_ := by
 refine BJ (E := Sn list) (R := SH list) (fun y => by first | (intro c; cases c) | (rcases y with y | y <;> (intro c; cases c)) | (rcases y with y | y | y <;> (intro c; cases c))) ?_ h
 clear h
 rintro ⟨out, i⟩ o_ h
 dsimp only [DH] at h
 rcases AF h with ⟨z1, h⟩ | ⟨z1, h⟩
 ·try simp only [go_sem, n1, n2, n3, n4] at z1
  all_goals
  rcases AF h with ⟨z2, h⟩ | ⟨z2, h⟩
  ·try simp only [go_sem, n1, n2, n3, n4, z1] at z2
   all_goals
   obtain ⟨z3, h⟩ := AD h
   try simp only [go_sem, n1, n2, n3, n4, z1, z2] at z3
   all_goals
   obtain ⟨z4, h⟩ := AD h
   have lz4 := BT z4
   have xz4 := AR AB list lz4
   try simp only [go_sem] at lz4
   try simp only [go_sem] at xz4
   try simp only [go_sem, n1, n2, n3, n4, z1, z2, z3] at z4
   all_goals
   obtain ⟨y_5, z5, h⟩ := AE h
   have fz5 := MA z5
   try simp only [go_sem, z1, z2, z3, z4] at fz5
   obtain ⟨z6, h⟩ := AD h
   try simp only [go_sem, n1, n2, n3, n4, z1, z2, z3, z4] at z6
   all_goals
   obtain ⟨y_7, z7, h⟩ := AE h
   have fz7 := MA z7
   try simp only [go_sem, z1, z2, z3, z4, z6] at fz7
   obtain ⟨z8, h⟩ := AD h
   try simp only [go_sem, n1, n2, n3, n4, z1, z2, z3, z4, z6] at z8
   all_goals
   obtain ⟨z9, h⟩ := AD h
   try simp only [go_sem, n1, n2, n3, n4, z1, z2, z3, z4, z6, z8] at z9
   all_goals
   obtain rfl := AC h
   refine ⟨0, fun L hL => ?_⟩
   simp only [go_sem, z1, z2, z3, z4, lz4, xz4, fz5, z6, fz7, z8, z9]
  ·try simp only [go_sem, n1, n2, n3, n4, z1] at z2
   all_goals
   obtain ⟨z10, h⟩ := AD h
   have lz10 := BT z10
   have xz10 := AR AB list lz10
   try simp only [go_sem] at lz10
   try simp only [go_sem] at xz10
   try simp only [go_sem, n1, n2, n3, n4, z1, z2] at z10
   all_goals
   obtain ⟨y_11, z11, h⟩ := AE h
   have fz11 := MA z11
   try simp only [go_sem, z1, z2, z10] at fz11
   obtain ⟨z12, h⟩ := AD h
   try simp only [go_sem, n1, n2, n3, n4, z1, z2, z10] at z12
   all_goals
   obtain ⟨y_13, z13, h⟩ := AE h
   have fz13 := MA z13
   try simp only [go_sem, z1, z2, z10, z12] at fz13
   obtain ⟨z14, h⟩ := AD h
   try simp only [go_sem, n1, n2, n3, n4, z1, z2, z10, z12] at z14
   all_goals
   obtain ⟨z15, h⟩ := AD h
   try simp only [go_sem, n1, n2, n3, n4, z1, z2, z10, z12, z14] at z15
   all_goals
   obtain rfl := AC h
   refine ⟨0, fun L hL => ?_⟩
   simp only [go_sem, z1, z2, z10, lz10, xz10, fz11, z12, fz13, z14, z15]
 ·try simp only [go_sem, n1, n2, n3, n4] at z1
  all_goals
  obtain rfl := AC h
  refine ⟨0, fun L hL => ?_⟩
  simp only [go_sem, z1]
attribute [local go_sem] Sn SH RG RF RE mr in
theorem oX {list : List AA} {y_ : (List UInt8)} (h : Fx list = some y_) : ZG.F [.sl 2 (List.map AB list)] = ⟨true, .str y_, [.any]⟩ := by
 refine Br rfl ?_
 dsimp only [Fx] at h
 obtain ⟨y_16, z16, h⟩ := AE h
 obtain ⟨Lz16, ez16⟩ := MJ z16
 obtain rfl := AC h
 refine ⟨Lz16, fun L hL => ?_⟩
 have ez16 := ez16 L (by omega)
 try simp only [go_sem] at ez16
 simp only [go_sem, ez16]
def qJ : List Nat := [0, 1, 4]
def qK : EL := ⟨2, 3, .seq (.region false [ VO 2 4 (.mov (.c (.str [])))]) (.seq (.region false [ PM 5 1, PM 6 0, PM 7 1, PO 8 (.len false (.s 0)), PO 9 (.call 37 [(.s 2), (.s 0)]), PO 10 (.ixAddr 1 (.s 4) (.s 0)), PO 11 (.load false 1 (.s 0)), VS 2 4 0]) (.ret)), [.t 2]⟩
noncomputable def tZ : List (Nat × Bf) := [(37, Uo)]
theorem iN : Aa tZ 37 = some Uo := rfl
noncomputable def eE : Bf := VP tZ qK [.io, .bor]
theorem s_60 : Ad Tryz.prog 69 eE := DF _ (AI mF Ab) (by kernel_rfl : BF Tryz.prog 69 qK qJ = true)
theorem M_60 : eE.modes = [.io, .bor] := rfl
theorem vn : eE.flat = false := rfl
attribute [go_sem] M_60 vn iN
theorem us {s_ : Aw} {list : List (List UInt8)} {y_ : (List UInt8) × Aw} (h : Em s_ list = some y_) : eE.F [.mem 3 [CE s_] 0, .sl 1 (List.map AV.str list)] = ⟨true, .str y_.1, [.mem 3 [CE y_.2] 0, .any]⟩ := by
 refine Ho ?_
 dsimp only [Em] at h
 obtain ⟨y_1, z1, h⟩ := AE h
 have fz1 := GR z1
 try simp only [go_sem] at fz1
 obtain ⟨z2, h⟩ := AD h
 have lz2 := BT z2
 have xz2 := AR AV.str list lz2
 try simp only [go_sem] at lz2
 try simp only [go_sem] at xz2
 try simp only [go_sem, n1, n2, n3, n4] at z2
 all_goals
 obtain rfl := AC h
 refine ⟨0, fun L hL => ?_⟩
 simp only [go_sem, qK, fz1, z2, lz2, xz2]
def qg : List Nat := [0, 1, 4, 5, 6, 8]
def dI : EL := ⟨2, 6, .seq (.region false [ VO 2 4 (.mov (.c (.str [])))]) (.seq (.seq (.region false [ PM 7 0, VO 5 8 (.call 37 [(.s 0), (I6 5)])]) (.block 0 (.test false [ PO 10 (.bin false .eql (.v 5) (I6 0)), PO 9 (.mov (.s 0))] (.s 0) (.seq (.region false [ PM 11 0, PM 12 1, PO 13 (.len true (.s 0)), PO 14 (.bin false .add (.s 0) (I6 1)), PO 15 (.call 37 [(.s 3), (.s 0)]), VS 3 5 0]) (.anyo 11 [ SO 0 16 (.flat (.mov (.v 1))), SO 1 17 (.flat (.mov (.v 3))), SO 2 18 (.flat (.pur (.slice 0 (.s 0) none (some (.s 1))))), SO 3 19 (.mov (.v 0)), SO 4 20 (.pur (.mkSl 1 (.str []) 7 [(0, (.c
 (.str [32]))), (1, (.c (.str [48]))), (2, (.c (.str [45]))), (3, (.c (.str [120]))), (4, (.c (.str [49]))), (5, (.c (.str [57]))), (6, (.c (.str [46])))])), SO 5 21 (.call 69 [(.s 3), (.s 4)]), SO 6 22 (.flat (.bin false .add (.s 2) (.s 5))), SO 7 23 (.flat (.mov (.v 1))), SO 8 24 (.flat (.mov (.v 3))), SO 9 25 (.flat (.pur (.slice 0 (.s 7) (some (.s 8)) none))), SO 10 26 (.flat (.bin false .add (.s 6) (.s 9))), VO 1 1 (.flat (.mov (.s 10)))] [] .skip)) (.test false [ PO 28 (.bin false .eql (.v 5) (I6 1)), PO 27 (.mov (.s 0))] (.s 0) (.test false [ PM 29 1, PO 30 (.bin false .neq (.s 0) (.c
 (.str [])))] (.s 0) (.seq (.region false [ PM 31 0, PM 32 1, PO 33 (.len true (.s 0)), PO 34 (.call 37 [(.s 2), (.s 0)]), VS 4 6 0]) (.anyo 8 [ SO 0 35 (.mov (.v 1)), SO 1 36 (.mov (.v 4)), SO 2 37 (.pur (.slice 0 (.s 0) none (some (.s 1)))), SO 3 38 (.mov (.v 1)), SO 4 39 (.mov (.v 4)), SO 5 40 (.bin false .add (.s 4) (I6 1)), SO 6 41 (.pur (.slice 0 (.s 3) (some (.s 5)) none)), SO 7 42 (.bin false .add (.s 2) (.s 6)), VS 1 1 7] [] .skip)) (.skip)) (.skip))))) (.seq (.region false [ PM 43 1, VS 2 4 0]) (.ret))), [.t 2]⟩
noncomputable def pA : List (Nat × Bf) := [(37, Uo), (69, eE)]
theorem iM : Aa pA 37 = some Uo := rfl
theorem iL : Aa pA 69 = some eE := rfl
noncomputable def eD : Bf := VP pA dI [.io, .bor]
theorem s_61 : Ad Tryz.prog 49 eD := DF _ (AI mF (AI s_60 Ab)) (by kernel_rfl : BF Tryz.prog 49 dI qg = true)
theorem M_61 : eD.modes = [.io, .bor] := rfl
theorem vk : eD.flat = false := rfl
attribute [go_sem] M_61 vk iM iL
theorem ur {s_ : Aw} {t : List UInt8} {y_ : (List UInt8) × Aw} (h : GP s_ t = some y_) : eD.F [.mem 3 [CE s_] 0, .str t] = ⟨true, .str y_.1, [.mem 3 [CE y_.2] 0, .any]⟩ := by
 refine Ho ?_
 dsimp only [GP] at h
 obtain ⟨y_1, z1, h⟩ := AE h
 have fz1 := GR z1
 try simp only [go_sem] at fz1
 rcases AF h with ⟨z2, h⟩ | ⟨z2, h⟩
 ·try simp only [go_sem, n1, n2, n3, n4] at z2
  all_goals
  obtain ⟨y_3, z3, h⟩ := AE h
  have fz3 := GR z3
  try simp only [go_sem, z2] at fz3
  obtain ⟨z4, h⟩ := AD h
  try simp only [go_sem, n1, n2, n3, n4, z2] at z4
  all_goals
  obtain ⟨y_5, z5, h⟩ := AE h
  have fz5 := us z5
  try simp only [go_sem, z2, z4] at fz5
  obtain ⟨z6, h⟩ := AD h
  try simp only [go_sem, n1, n2, n3, n4, z2, z4] at z6
  all_goals
  obtain ⟨z7, h⟩ := AD h
  try simp only [go_sem, n1, n2, n3, n4, z2, z4, z6] at z7
  all_goals
  obtain ⟨z8, h⟩ := AD h
  try simp only [go_sem, n1, n2, n3, n4, z2, z4, z6, z7] at z8
  all_goals
  obtain rfl := AC h
  refine ⟨0, fun L hL => ?_⟩
  simp only [go_sem, dI, fz1, z2, fz3, z4, fz5, z6, z7, z8]
 ·try simp only [go_sem, n1, n2, n3, n4] at z2
  all_goals
  rcases AF h with ⟨z9, h⟩ | ⟨z9, h⟩
  ·try simp only [go_sem, n1, n2, n3, n4, z2] at z9
   all_goals
   rcases AF h with ⟨z10, h⟩ | ⟨z10, h⟩
   ·try simp only [go_sem, n1, n2, n3, n4, z2, z9] at z10
    all_goals
    obtain ⟨y_11, z11, h⟩ := AE h
    have fz11 := GR z11
    try simp only [go_sem, z2, z9, z10] at fz11
    obtain ⟨z12, h⟩ := AD h
    try simp only [go_sem, n1, n2, n3, n4, z2, z9, z10] at z12
    all_goals
    obtain ⟨z13, h⟩ := AD h
    try simp only [go_sem, n1, n2, n3, n4, z2, z9, z10, z12] at z13
    all_goals
    obtain ⟨z14, h⟩ := AD h
    try simp only [go_sem, n1, n2, n3, n4, z2, z9, z10, z12, z13] at z14
    all_goals
    obtain rfl := AC h
    refine ⟨0, fun L hL => ?_⟩
    simp only [go_sem, dI, fz1, z2, z9, z10, fz11, z12, z13, z14]
   ·try simp only [go_sem, n1, n2, n3, n4, z2, z9] at z10
    all_goals
    obtain rfl := AC h
    refine ⟨0, fun L hL => ?_⟩
    simp only [go_sem, dI, fz1, z2, z9, z10]
  ·try simp only [go_sem, n1, n2, n3, n4, z2] at z9
   all_goals
   obtain rfl := AC h
   refine ⟨0, fun L hL => ?_⟩
   simp only [go_sem, dI, fz1, z2, z9]
def rU : List Nat := [0, 2, 3, 4]
def nB : EL := ⟨1, 4, .seq (.region false [ VO 1 2 (.mov (.c (.str [])))]) (.seq (.region false [ PM 5 0, PO 6 (.call 29 [(.s 0)]), VS 2 3 0]) (.seq (.region false [ PM 7 2, PO 8 (.call 48 [(.s 0)]), PO 9 (.call 47 [(.s 0)]), VS 3 4 0]) (.seq (.test false [ PM 10 2, PO 11 (.call 31 [(.s 0), (I6 3)])] (.s 0) (.seq (.region false [ PM 12 2, PM 13 3, PO 14 (.call 49 [(.s 1), (.s 0)]), VS 1 2 0]) (.ret)) (.skip)) (.seq (.region false [ PM 15 3, VS 1 2 0]) (.ret))))), [.t 1]⟩
noncomputable def cI : List (Nat × Bf) := [(29, Xl), (48, Uv), (47, ZG), (31, Lr), (49, eD)]
theorem iK : Aa cI 29 = some Xl := rfl
theorem iH : Aa cI 48 = some Uv := rfl
theorem iI : Aa cI 47 = some ZG := rfl
theorem iJ : Aa cI 31 = some Lr := rfl
theorem iG : Aa cI 49 = some eD := rfl
noncomputable def eC : Bf := Gd cI nB [.bor]
theorem s_62 : Ad Tryz.prog 20 eC := AY _ rfl (AI pc (AI pe (AI uA (AI cV (AI s_61 Ab))))) (by kernel_rfl : BF Tryz.prog 20 nB rU = true)
theorem M_62 : eC.modes = [.bor] := rfl
theorem vj : eC.flat = true := rfl
attribute [go_sem] M_62 vj iK iH iI iJ iG
theorem uq {code : List UInt8} {y_ : (List UInt8)} (h : Df code = some y_) : eC.F [.sl 1 (List.map Cc code)] = ⟨true, .str y_, [.any]⟩ := by
 refine Br rfl ?_
 dsimp only [Df] at h
 obtain ⟨y_1, z1, h⟩ := AE h
 have fz1 := aq z1
 try simp only [go_sem] at fz1
 obtain ⟨y_2, z2, h⟩ := AE h
 have fz2 := lS z2
 try simp only [go_sem] at fz2
 obtain ⟨y_3, z3, h⟩ := AE h
 have fz3 := oX z3
 try simp only [go_sem] at fz3
 obtain ⟨y_4, z4, h⟩ := AE h
 have fz4 := Fu z4
 try simp only [go_sem] at fz4
 rcases AF h with ⟨z5, h⟩ | ⟨z5, h⟩
 ·try simp only [go_sem, n1, n2, n3, n4] at z5
  all_goals
  obtain ⟨y_6, z6, h⟩ := AE h
  have fz6 := ur z6
  try simp only [go_sem, z5] at fz6
  obtain rfl := AC h
  refine ⟨0, fun L hL => ?_⟩
  simp only [go_sem, nB, fz1, fz2, fz3, fz4, z5, fz6]
 ·try simp only [go_sem, n1, n2, n3, n4] at z5
  all_goals
  obtain rfl := AC h
  refine ⟨0, fun L hL => ?_⟩
  simp only [go_sem, nB, fz1, fz2, fz3, fz4, z5]
def Wi : IR := .seq (.test false [ PM 9 5, PM 10 0, PO 11 (.len true (.s 0)), PO 12 (.bin false .lss (.s 2) (.s 0))] (.s 0) (.skip) (.exit 0)) (.seq (.block 1 (.test false [ PM 15 0, PM 16 5, PO 17 (.ixStr (.s 1) (.s 0)), PM 18 1, PO 19 (.bin false .eql (.s 1) (.s 0))] (.s 0) (.seq (.region false [ PM 20 3, PM 21 0, PM 22 4, PM 23 5, PO 24 (.slice 0 (.s 2) (some (.s 1)) (some (.s 0))), PO 25 (.mkSl 1 (.str []) 1 [(0, (.s 0))]), PO 26 (.app 1 16 (.str []) (.s 5) (.s 0)), VS 3 5 0]) (.region false [ PM 27 5, PO 28 (.bin false .add (.s 0) (I6 1)), VS 4 6 0])) (.skip))) (.region false [ PM 13
 5, PO 14 (.bin false .add (.s 0) (I6 1)), VS 5 7 0]))
def RA : List Bool := [true, true, false, true, true, true]
def Qz : List Bool := [true, false, false, true, true, false]
def Qy : List Bool := [false, false, true, false, false, false]
def qf : List Nat := [0, 1, 4, 5, 6, 7]
def mp : EL := ⟨2, 6, .seq (.region false [ VO 2 4 (.newnil 1)]) (.seq (.region false [ PO 8 (.mkSl 1 (.str []) 0 []), VS 3 5 0]) (.seq (.region false [ VO 4 6 (.mov (I6 0))]) (.seq (.seq (.region false [ VO 5 7 (.mov (I6 0))]) (.block 0 (.loop RA Qz Qy Wi))) (.seq (.region false [ PM 29 3, PM 30 0, PM 31 4, PO 32 (.slice 0 (.s 1) (some (.s 0)) none), PO 33 (.mkSl 1 (.str []) 1 [(0, (.s 0))]), PO 34 (.app 1 16 (.str []) (.s 4) (.s 0)), VS 2 4 0]) (.ret))))), [.t 2]⟩
noncomputable def tY : List (Nat × Bf) := []
noncomputable def dz : Bf := Gd tY mp [.bor, .bor]
theorem s_63 : Ad Tryz.prog 50 dz := AY _ rfl Ab (by kernel_rfl : BF Tryz.prog 50 mp qf = true)
theorem M_63 : dz.modes = [.bor, .bor] := rfl
theorem vh : dz.flat = true := rfl
attribute [go_sem] M_63 vh
def Sm (s_ : List UInt8) (by_ : UInt8) : ((List (List UInt8)) × Int × Int) → St
 | (out, from_, i) => ⟨[.str s_, .int .u8 (by_.toNat : Int), .any, .own 3200000, .int .i64 from_, .int .i64 i], [], [(3200000, ⟨1, List.map AV.str out⟩)], true⟩
def SG (s_ : List UInt8) (by_ : UInt8) (y : (List (List UInt8)) × Int) : FT := (.exit 0, ⟨[.str s_, .any, .any, .own 3200000, .int .i64 y.2, .any], [], [(3200000, ⟨1, List.map AV.str y.1⟩)], true⟩)
attribute [local go_sem] mp Sm SG Wi RA Qz Qy in
theorem Lo {s_ : List UInt8} {by_ : UInt8} {sgm_ : (List (List UInt8)) × Int × Int} {rho_ : (List (List UInt8)) × Int} (h : AJ (DN s_ by_) sgm_ = some rho_) : ∃ L0, ∀ L, L0 ≤ L → Cg (BD (Aa tY) L Wi) RA Qz Qy L (Sm s_ by_ sgm_) = SG s_ by_ rho_ := by
 refine BJ (E := Sm s_ by_) (R := SG s_ by_) (fun y => by first | (intro c; cases c) | (rcases y with y | y <;> (intro c; cases c)) | (rcases y with y | y | y <;> (intro c; cases c))) ?_ h
 clear h
 rintro ⟨out, from_, i⟩ o_ h
 dsimp only [DN] at h
 rcases AF h with ⟨z1, h⟩ | ⟨z1, h⟩
 ·try simp only [go_sem, n1, n2, n3, n4] at z1
  all_goals
  obtain ⟨z2, h⟩ := AD h
  try simp only [go_sem, n1, n2, n3, n4, z1] at z2
  all_goals
  rcases AF h with ⟨z3, h⟩ | ⟨z3, h⟩
  ·try simp only [go_sem, n1, n2, n3, n4, z1, z2] at z3
   all_goals
   obtain ⟨z4, h⟩ := AD h
   try simp only [go_sem, n1, n2, n3, n4, z1, z2, z3] at z4
   all_goals
   obtain ⟨z5, h⟩ := AD h
   try simp only [go_sem, n1, n2, n3, n4, z1, z2, z3, z4] at z5
   all_goals
   obtain rfl := AC h
   refine ⟨0, fun L hL => ?_⟩
   simp only [go_sem, z1, z2, z3, z4, z5]
  ·try simp only [go_sem, n1, n2, n3, n4, z1, z2] at z3
   all_goals
   obtain rfl := AC h
   refine ⟨0, fun L hL => ?_⟩
   simp only [go_sem, z1, z2, z3]
 ·try simp only [go_sem, n1, n2, n3, n4] at z1
  all_goals
  obtain rfl := AC h
  refine ⟨0, fun L hL => ?_⟩
  simp only [go_sem, z1]
attribute [local go_sem] Sm SG RA Qz Qy mp in
theorem oW {s_ : List UInt8} {by_ : UInt8} {y_ : (List (List UInt8))} (h : FP s_ by_ = some y_) : dz.F [.str s_, .int .u8 (by_.toNat : Int)] = ⟨true, .fresh 1 (List.map AV.str y_), [.any, .any]⟩ := by
 refine Br (by simp only [EA, ES, Ei, List.all_cons, List.all_nil, Bool.and_self, Bo (f := AV.str) (fun _ => rfl)]) ?_
 dsimp only [FP] at h
 obtain ⟨y_6, z6, h⟩ := AE h
 obtain ⟨Lz6, ez6⟩ := Lo z6
 obtain ⟨z7, h⟩ := AD h
 try simp only [go_sem, n1, n2, n3, n4] at z7
 all_goals
 obtain ⟨z8, h⟩ := AD h
 try simp only [go_sem, n1, n2, n3, n4, z7] at z8
 all_goals
 obtain rfl := AC h
 refine ⟨Lz6, fun L hL => ?_⟩
 have ez6 := ez6 L (by omega)
 try simp only [go_sem, z7, z8] at ez6
 simp only [go_sem, z7, z8, ez6]
def qG : List Nat := [0, 2]
def qH : EL := ⟨1, 2, .seq (.region false [ VO 1 2 (.mov (.c (.bool false)))]) (.seq (.region false [ PM 3 0, PO 4 (.bin false .geq (.s 0) (.c (.int .u8 (48)))), PO 5 (.mov (.s 0)), ⟨.push, 6, (some ((.s 0), true)), .mov (.v 0)⟩, ⟨.push, 7, (some ((.s 1), true)), .bin false .leq (.s 0) (.c (.int .u8 (57)))⟩, PO 8 (.pick (.s 2) (.s 0) (.c (.bool false))), VS 1 2 0]) (.ret)), [.t 1]⟩
noncomputable def t_64 : List (Nat × Bf) := []
noncomputable def dy : Bf := Gd t_64 qH [.bor]
theorem s_64 : Ad Tryz.prog 70 dy := AY _ rfl Ab (by kernel_rfl : BF Tryz.prog 70 qH qG = true)
theorem M_64 : dy.modes = [.bor] := rfl
theorem vg : dy.flat = true := rfl
attribute [go_sem] M_64 vg
theorem oV {c : UInt8} {y_ : Bool} (h : GQ c = some y_) : dy.F [.int .u8 (c.toNat : Int)] = ⟨true, .bool y_, [.any]⟩ := by
 refine Br rfl ?_
 dsimp only [GQ] at h
 obtain rfl := AC h
 refine ⟨0, fun L hL => ?_⟩
 simp only [go_sem, qH]
def Nu : IR := .seq (.test false [ PM 25 5, PM 26 3, PO 27 (.len true (.s 0)), PO 28 (.bin false .lss (.s 2) (.s 0))] (.s 0) (.skip) (.exit 0)) (.seq (.block 1 (.seq (.test false [ PM 31 3, PM 32 5, PO 33 (.ixStr (.s 1) (.s 0)), PO 34 (.call 70 [(.s 0)]), PO 35 (.un .not (.s 0))] (.s 0) (.seq (.region false [ VO 1 2 (.mov (I6 0)), VO 2 3 (.mov (.c (.bool false)))]) (.ret)) (.skip)) (.region false [ PM 36 4, PO 37 (.bin false .mul (I6 10) (.s 0)), PM 38 3, PM 39 5, PO 40 (.ixStr (.s 1) (.s 0)), PO 41 (.bin false .sub (.s 0) (.c (.int .u8 (48)))), PO 42 (.conv .i64 (.s 0)), PO 43 (.bin false
 .add (.s 5) (.s 0)), VS 4 5 0]))) (.region false [ PM 29 5, PO 30 (.bin false .add (.s 0) (I6 1)), VS 5 6 0]))
def LY : List Bool := [true, false, false, true, true, true]
def LX : List Bool := [true, false, false, true, true, false]
def LW : List Bool := [false, true, true, false, false, false]
def qe : List Nat := [0, 2, 3, 4, 5, 6]
def jt : EL := ⟨1, 6, .seq (.region false [ VO 1 2 (.mov (I6 0)), VO 2 3 (.mov (.c (.bool false)))]) (.seq (.region false [ PM 7 0, VS 3 4 0]) (.seq (.test false [ PM 8 3, PO 9 (.bin false .neq (.s 0) (.c (.str []))), PO 10 (.mov (.s 0)), ⟨.push, 11, (some ((.s 0), true)), .mov (.v 3)⟩, ⟨.push, 12, (some ((.s 1), true)), .ixStr (.s 0) (I6 0)⟩, ⟨.push, 13, (some ((.s 2), true)), .bin false .eql (.s 0) (.c (.int .u8 (45)))⟩, PO 14 (.pick (.s 3) (.s 0) (.c (.bool false)))] (.s 0) (.region false [ PM 15 3, PO 16 (.slice 0 (.s 0) (some (I6 1)) none), VS 3 4 0]) (.skip)) (.seq (.test false [ PM 17
 3, PO 18 (.len true (.s 0)), PO 19 (.bin false .lss (.s 0) (I6 1)), PO 20 (.mov (.s 0)), ⟨.push, 21, (some ((.s 0), false)), .mov (.v 3)⟩, ⟨.push, 22, (some ((.s 1), false)), .len true (.s 0)⟩, ⟨.push, 23, (some ((.s 2), false)), .bin false .gtr (.s 0) (I6 18)⟩, PO 24 (.pick (.s 3) (.c (.bool true)) (.s 0))] (.s 0) (.seq (.region false [ VO 1 2 (.mov (I6 0)), VO 2 3 (.mov (.c (.bool false)))]) (.ret)) (.skip)) (.seq (.region false [ VO 4 5 (.mov (I6 0))]) (.seq (.seq (.region false [ VO 5 6 (.mov (I6 0))]) (.block 0 (.loop LY LX LW Nu))) (.seq (.test false [ PM 44 3, PO 45
 (.len true (.s 0)), PM 46 0, PO 47 (.len true (.s 0)), PO 48 (.bin false .lss (.s 2) (.s 0))] (.s 0) (.region false [ PM 49 4, PO 50 (.un .neg (.s 0)), VS 4 5 0]) (.skip)) (.seq (.test false [ PM 51 4, PO 52 (.call 68 [(.s 0)]), PM 53 0, PO 54 (.bin false .neq (.s 1) (.s 0))] (.s 0) (.seq (.region false [ VO 1 2 (.mov (I6 0)), VO 2 3 (.mov (.c (.bool false)))]) (.ret)) (.skip)) (.seq (.region false [ PM 55 4, VS 1 2 0, VO 2 3 (.mov (.c (.bool true)))]) (.ret))))))))), [.t 1, .t 2]⟩
noncomputable def fV : List (Nat × Bf) := [(70, dy), (68, ZH)]
theorem iE : Aa fV 70 = some dy := rfl
theorem iF : Aa fV 68 = some ZH := rfl
noncomputable def dx : Bf := Gd fV jt [.bor]
theorem s_65 : Ad Tryz.prog 51 dx := AY _ rfl (AI s_64 (AI uB Ab)) (by kernel_rfl : BF Tryz.prog 51 jt qe = true)
theorem M_65 : dx.modes = [.bor] := rfl
theorem vf : dx.flat = true := rfl
attribute [go_sem] M_65 vf iE iF
def Om (s_ : List UInt8) (t : List UInt8) : (Int × Int) → St
 | (n, i) => ⟨[.str s_, .any, .any, .str t, .int .i64 n, .int .i64 i], [], [], true⟩
def Od (s_ : List UInt8) (t : List UInt8) : (Int ⊕ (Int × Bool)) → FT
 | .inl y => (.exit 0, ⟨[.str s_, .any, .any, .str t, .int .i64 y, .any], [], [], true⟩)
 | .inr y => (.ret, ⟨[.any, .int .i64 y.1, .bool y.2, .any, .any, .any], [], [], true⟩)
set_option maxHeartbeats 64000000 in
attribute [local go_sem] jt Om Od Nu LY LX LW in
theorem Kf {s_ : List UInt8} {t : List UInt8} {sgm_ : Int × Int} {rho_ : Int ⊕ (Int × Bool)} (h : AJ (Cd s_ t) sgm_ = some rho_) : ∃ L0, ∀ L, L0 ≤ L → Cg (BD (Aa fV) L Nu) LY LX LW L (Om s_ t sgm_) = Od s_ t rho_ := by
 refine BJ (E := Om s_ t) (R := Od s_ t) (fun y => by first | (intro c; cases c) | (rcases y with y | y <;> (intro c; cases c)) | (rcases y with y | y | y <;> (intro c; cases c))) ?_ h
 clear h
 rintro ⟨n, i⟩ o_ h
 dsimp only [Cd] at h
 rcases AF h with ⟨z5, h⟩ | ⟨z5, h⟩
 ·try simp only [go_sem, n1, n2, n3, n4] at z5
  all_goals
  obtain ⟨z6, h⟩ := AD h
  try simp only [go_sem, n1, n2, n3, n4, z5] at z6
  all_goals
  obtain ⟨y_7, z7, h⟩ := AE h
  have fz7 := oV z7
  try simp only [go_sem, z5, z6] at fz7
  rcases AF h with ⟨z8, h⟩ | ⟨z8, h⟩
  all_goals
  try simp only [go_sem, n1, n2, n3, n4, z5, z6] at z8
  all_goals
  obtain rfl := AC h
  refine ⟨0, fun L hL => ?_⟩
  simp only [go_sem, z5, z6, fz7, z8]
 ·try simp only [go_sem, n1, n2, n3, n4] at z5
  all_goals
  obtain rfl := AC h
  refine ⟨0, fun L hL => ?_⟩
  simp only [go_sem, z5]
def Sl (s_ : List UInt8) (t : List UInt8) : (Int × Int) → St
 | (n, i) => ⟨[.str s_, .any, .any, .str t, .int .i64 n, .int .i64 i], [], [], true⟩
def SE (s_ : List UInt8) (t : List UInt8) : (Int ⊕ (Int × Bool)) → FT
 | .inl y => (.exit 0, ⟨[.str s_, .any, .any, .str t, .int .i64 y, .any], [], [], true⟩)
 | .inr y => (.ret, ⟨[.any, .int .i64 y.1, .bool y.2, .any, .any, .any], [], [], true⟩)
set_option maxHeartbeats 64000000 in
attribute [local go_sem] jt Sl SE Nu LY LX LW Om Od in
theorem Hb {s_ : List UInt8} {t : List UInt8} {sgm_ : Int × Int} {rho_ : Int ⊕ (Int × Bool)} (h : AJ (Fa s_ t) sgm_ = some rho_) : ∃ L0, ∀ L, L0 ≤ L → Cg (BD (Aa fV) L Nu) LY LX LW L (Sl s_ t sgm_) = SE s_ t rho_ := by
 refine BJ (E := Sl s_ t) (R := SE s_ t) (fun y => by first | (intro c; cases c) | (rcases y with y | y <;> (intro c; cases c)) | (rcases y with y | y | y <;> (intro c; cases c))) ?_ h
 clear h
 rintro ⟨n, i⟩ o_ h
 dsimp only [Fa] at h
 rcases AF h with ⟨z16, h⟩ | ⟨z16, h⟩
 ·try simp only [go_sem, n1, n2, n3, n4] at z16
  all_goals
  obtain ⟨z17, h⟩ := AD h
  try simp only [go_sem, n1, n2, n3, n4, z16] at z17
  all_goals
  obtain ⟨y_18, z18, h⟩ := AE h
  have fz18 := oV z18
  try simp only [go_sem, z16, z17] at fz18
  rcases AF h with ⟨z19, h⟩ | ⟨z19, h⟩
  all_goals
  try simp only [go_sem, n1, n2, n3, n4, z16, z17] at z19
  all_goals
  obtain rfl := AC h
  refine ⟨0, fun L hL => ?_⟩
  simp only [go_sem, z16, z17, fz18, z19]
 ·try simp only [go_sem, n1, n2, n3, n4] at z16
  all_goals
  obtain rfl := AC h
  refine ⟨0, fun L hL => ?_⟩
  simp only [go_sem, z16]
set_option maxHeartbeats 64000000 in
attribute [local go_sem] jt Om Od LY LX LW Sl SE in
theorem oU {s_ : List UInt8} {y_ : Int × Bool} (h : El s_ = some y_) : dx.F [.str s_] = ⟨true, .tup [.int .i64 y_.1, .bool y_.2], [.any]⟩ := by
 refine Br rfl ?_
 dsimp only [El] at h
 obtain ⟨z1, h⟩ := AD h
 rcases Ay z1 with ⟨gz1, z1⟩ | gz1
 ·try simp only [go_sem, n1, n2, n3, n4] at gz1
  all_goals
  try simp only [go_sem, n1, n2, n3, n4, gz1] at z1
  all_goals
  rcases AF h with ⟨z2, h⟩ | ⟨z2, h⟩
  ·try simp only [go_sem, n1, n2, n3, n4, gz1, z1] at z2
   all_goals
   obtain ⟨z3, h⟩ := AD h
   try simp only [go_sem, n1, n2, n3, n4, gz1, z1, z2] at z3
   all_goals
   rcases AF h with ⟨z4, h⟩ | ⟨z4, h⟩
   ·try simp only [go_sem, n1, n2, n3, n4, gz1, z1, z2, z3] at z4
    all_goals
    obtain rfl := AC h
    refine ⟨0, fun L hL => ?_⟩
    simp only [go_sem, gz1, z1, z2, z3, z4]
   ·try simp only [go_sem, n1, n2, n3, n4, gz1, z1, z2, z3] at z4
    all_goals
    obtain ⟨y_9, z9, h⟩ := AE h
    obtain ⟨Lz9, ez9⟩ := Kf z9
    rcases y_9 with y_9a | y_9b
    ·dsimp only at h
     rcases AF h with ⟨z10, h⟩ | ⟨z10, h⟩
     ·try simp only [go_sem, n1, n2, n3, n4, gz1, z1, z2, z3, z4] at z10
      all_goals
      obtain ⟨y_11, z11, h⟩ := AE h
      have fz11 := MA z11
      try simp only [go_sem, gz1, z1, z2, z3, z4, z10] at fz11
      rcases AF h with ⟨z12, h⟩ | ⟨z12, h⟩
      all_goals
      try simp only [go_sem, n1, n2, n3, n4, gz1, z1, z2, z3, z4, z10] at z12
      all_goals
      obtain rfl := AC h
      refine ⟨Lz9, fun L hL => ?_⟩
      have ez9 := ez9 L (by omega)
      try simp only [go_sem, gz1, z1, z2, z3, z4, z10, z12] at ez9
      simp only [go_sem, gz1, z1, z2, z3, z4, z10, fz11, z12, ez9]
     ·try simp only [go_sem, n1, n2, n3, n4, gz1, z1, z2, z3, z4] at z10
      all_goals
      obtain ⟨y_13, z13, h⟩ := AE h
      have fz13 := MA z13
      try simp only [go_sem, gz1, z1, z2, z3, z4, z10] at fz13
      rcases AF h with ⟨z14, h⟩ | ⟨z14, h⟩
      all_goals
      try simp only [go_sem, n1, n2, n3, n4, gz1, z1, z2, z3, z4, z10] at z14
      all_goals
      obtain rfl := AC h
      refine ⟨Lz9, fun L hL => ?_⟩
      have ez9 := ez9 L (by omega)
      try simp only [go_sem, gz1, z1, z2, z3, z4, z10, z14] at ez9
      simp only [go_sem, gz1, z1, z2, z3, z4, z10, fz13, z14, ez9]
    ·dsimp only at h
     obtain rfl := AC h
     refine ⟨Lz9, fun L hL => ?_⟩
     have ez9 := ez9 L (by omega)
     try simp only [go_sem, gz1, z1, z2, z3, z4] at ez9
     simp only [go_sem, gz1, z1, z2, z3, z4, ez9]
  ·try simp only [go_sem, n1, n2, n3, n4, gz1, z1] at z2
   all_goals
   rcases AF h with ⟨z15, h⟩ | ⟨z15, h⟩
   ·try simp only [go_sem, n1, n2, n3, n4, gz1, z1, z2] at z15
    all_goals
    obtain rfl := AC h
    refine ⟨0, fun L hL => ?_⟩
    simp only [go_sem, gz1, z1, z2, z15]
   ·try simp only [go_sem, n1, n2, n3, n4, gz1, z1, z2] at z15
    all_goals
    obtain ⟨y_20, z20, h⟩ := AE h
    obtain ⟨Lz20, ez20⟩ := Hb z20
    rcases y_20 with y_20a | y_20b
    ·dsimp only at h
     rcases AF h with ⟨z21, h⟩ | ⟨z21, h⟩
     ·try simp only [go_sem, n1, n2, n3, n4, gz1, z1, z2, z15] at z21
      all_goals
      obtain ⟨y_22, z22, h⟩ := AE h
      have fz22 := MA z22
      try simp only [go_sem, gz1, z1, z2, z15, z21] at fz22
      rcases AF h with ⟨z23, h⟩ | ⟨z23, h⟩
      all_goals
      try simp only [go_sem, n1, n2, n3, n4, gz1, z1, z2, z15, z21] at z23
      all_goals
      obtain rfl := AC h
      refine ⟨Lz20, fun L hL => ?_⟩
      have ez20 := ez20 L (by omega)
      try simp only [go_sem, gz1, z1, z2, z15, z21, z23] at ez20
      simp only [go_sem, gz1, z1, z2, z15, z21, fz22, z23, ez20]
     ·try simp only [go_sem, n1, n2, n3, n4, gz1, z1, z2, z15] at z21
      all_goals
      obtain ⟨y_24, z24, h⟩ := AE h
      have fz24 := MA z24
      try simp only [go_sem, gz1, z1, z2, z15, z21] at fz24
      rcases AF h with ⟨z25, h⟩ | ⟨z25, h⟩
      all_goals
      try simp only [go_sem, n1, n2, n3, n4, gz1, z1, z2, z15, z21] at z25
      all_goals
      obtain rfl := AC h
      refine ⟨Lz20, fun L hL => ?_⟩
      have ez20 := ez20 L (by omega)
      try simp only [go_sem, gz1, z1, z2, z15, z21, z25] at ez20
      simp only [go_sem, gz1, z1, z2, z15, z21, fz24, z25, ez20]
    ·dsimp only at h
     obtain rfl := AC h
     refine ⟨Lz20, fun L hL => ?_⟩
     have ez20 := ez20 L (by omega)
     try simp only [go_sem, gz1, z1, z2, z15] at ez20
     simp only [go_sem, gz1, z1, z2, z15, ez20]
 ·have gz1n := BH gz1
  try simp only [go_sem, n1, n2, n3, n4] at gz1n
  all_goals
  rcases AF h with ⟨z2, h⟩ | ⟨z2, h⟩
  ·try simp only [go_sem, n1, n2, n3, n4, gz1n] at z2
   all_goals
   (simp_all)
  ·try simp only [go_sem, n1, n2, n3, n4, gz1n] at z2
   all_goals
   rcases AF h with ⟨z15, h⟩ | ⟨z15, h⟩
   ·try simp only [go_sem, n1, n2, n3, n4, gz1n, z2] at z15
    all_goals
    obtain rfl := AC h
    refine ⟨0, fun L hL => ?_⟩
    simp only [go_sem, gz1n, z2, z15]
   ·try simp only [go_sem, n1, n2, n3, n4, gz1n, z2] at z15
    all_goals
    obtain ⟨y_20, z20, h⟩ := AE h
    obtain ⟨Lz20, ez20⟩ := Hb z20
    rcases y_20 with y_20a | y_20b
    ·dsimp only at h
     rcases AF h with ⟨z21, h⟩ | ⟨z21, h⟩
     ·try simp only [go_sem, n1, n2, n3, n4, gz1n, z2, z15] at z21
      all_goals
      obtain ⟨y_22, z22, h⟩ := AE h
      have fz22 := MA z22
      try simp only [go_sem, gz1n, z2, z15, z21] at fz22
      rcases AF h with ⟨z23, h⟩ | ⟨z23, h⟩
      all_goals
      try simp only [go_sem, n1, n2, n3, n4, gz1n, z2, z15, z21] at z23
      all_goals
      obtain rfl := AC h
      refine ⟨Lz20, fun L hL => ?_⟩
      have ez20 := ez20 L (by omega)
      try simp only [go_sem, gz1n, z2, z15, z21, z23] at ez20
      simp only [go_sem, gz1n, z2, z15, z21, fz22, z23, ez20]
     ·try simp only [go_sem, n1, n2, n3, n4, gz1n, z2, z15] at z21
      all_goals
      obtain ⟨y_24, z24, h⟩ := AE h
      have fz24 := MA z24
      try simp only [go_sem, gz1n, z2, z15, z21] at fz24
      rcases AF h with ⟨z25, h⟩ | ⟨z25, h⟩
      all_goals
      try simp only [go_sem, n1, n2, n3, n4, gz1n, z2, z15, z21] at z25
      all_goals
      obtain rfl := AC h
      refine ⟨Lz20, fun L hL => ?_⟩
      have ez20 := ez20 L (by omega)
      try simp only [go_sem, gz1n, z2, z15, z21, z25] at ez20
      simp only [go_sem, gz1n, z2, z15, z21, fz24, z25, ez20]
    ·dsimp only at h
     obtain rfl := AC h
     refine ⟨Lz20, fun L hL => ?_⟩
     have ez20 := ez20 L (by omega)
     try simp only [go_sem, gz1n, z2, z15] at ez20
     simp only [go_sem, gz1n, z2, z15, ez20]
def Wt : IR := .seq (.test false [ PM 18 5, PM 19 4, PO 20 (.len false (.s 0)), PO 21 (.bin false .lss (.s 2) (.s 0))] (.s 0) (.skip) (.exit 0)) (.seq (.block 1 (.seq (.region false [ PM 24 4, PM 25 5, PO 26 (.ixAddr 1 (.s 1) (.s 0)), PO 27 (.load false 1 (.s 0)), PO 28 (.call 50 [(.s 0), (.c (.int .u8 (46)))]), VS 6 7 0]) (.seq (.test false [ PM 29 6, PO 30 (.len false (.s 0)), PO 31 (.bin false .neq (.s 0) (I6 3)), PO 32 (.mov (.s 0)), ⟨.push, 33, (some ((.s 0), false)), .mov (.v 6)⟩, ⟨.push, 34, (some ((.s 1), false)), .ixAddr 1 (.s 0) (I6 1)⟩, ⟨.push, 35, (some ((.s 2), false)), .load
 false 1 (.s 0)⟩, ⟨.push, 36, (some ((.s 3), false)), .bin false .neq (.s 0) (.c (.str []))⟩, PO 37 (.pick (.s 4) (.c (.bool true)) (.s 0))] (.s 0) (.seq (.region false [ VO 1 2 (.newnil 2), VO 2 3 (.mov (.c (.bool false)))]) (.ret)) (.skip)) (.seq (.region false [ PM 39 6, PO 40 (.ixAddr 1 (.s 0) (I6 0)), PO 41 (.load false 1 (.s 0)), PO 42 (.call 51 [(.s 0)]), PO 38 (.mov (.s 0)), PO 43 (.ext (.s 0) 0), PO 44 (.ext (.s 1) 1), VS 7 8 1, VS 8 9 0]) (.seq (.region false [ PM 46 6, PO 47 (.ixAddr 1 (.s 0) (I6 2)), PO 48 (.load false 1 (.s 0)), PO 49 (.call 51 [(.s 0)]), PO 45 (.mov (.s 0)), PO 50
 (.ext (.s 0) 0), PO 51 (.ext (.s 1) 1), VS 9 10 1, VS 10 11 0]) (.seq (.test false [ PM 52 8, PO 53 (.un .not (.s 0)), PO 54 (.mov (.s 0)), ⟨.push, 55, (some ((.s 0), false)), .mov (.v 10)⟩, ⟨.push, 56, (some ((.s 1), false)), .un .not (.s 0)⟩, PO 57 (.pick (.s 2) (.c (.bool true)) (.s 0))] (.s 0) (.seq (.region false [ VO 1 2 (.newnil 2), VO 2 3 (.mov (.c (.bool false)))]) (.ret)) (.skip)) (.region false [ PM 58 3, PM 59 7, PM 60 9, PO 61 (.build [.int .i64 (0), .int .i64 (0)] [(0, 1, (.s 1)), (1, 1, (.s 0))]), PO 62 (.mkSl 2 (.agg [.int .i64 (0), .int .i64 (0)]) 1 [(0, (.s 0))]), PO 63 (.app
 2 16 (.agg [.int .i64 (0), .int .i64 (0)]) (.s 4) (.s 0)), VS 3 4 0]))))))) (.region false [ PM 22 5, PO 23 (.bin false .add (.s 0) (I6 1)), VS 5 6 0]))
def Rc : List Bool := [false, false, false, true, true, true, false, false, false, false, false]
def Rb : List Bool := [false, false, false, true, false, false, false, false, false, false, false]
def Ra : List Bool := [false, true, true, false, false, false, false, false, false, false, false]
def rT : List Nat := [0, 2, 3, 4, 5, 6, 7, 8, 9, 10, 11]
def nA : EL := ⟨1, 11, .seq (.region false [ VO 1 2 (.newnil 2), VO 2 3 (.mov (.c (.bool false)))]) (.seq (.region false [ PO 12 (.mkSl 2 (.agg [.int .i64 (0), .int .i64 (0)]) 0 []), VS 3 4 0]) (.seq (.test false [ PM 13 0, PO 14 (.bin false .eql (.s 0) (.c (.str [])))] (.s 0) (.seq (.region false [ PM 15 3, VS 1 2 0, VO 2 3 (.mov (.c (.bool true)))]) (.ret)) (.skip)) (.seq (.region false [ PM 16 0, PO 17 (.call 50 [(.s 0), (.c (.int .u8 (32)))]), VS 4 5 0]) (.seq (.seq (.region false [ VO 5 6 (.mov (I6 0))]) (.block 0 (.loop Rc Rb Ra Wt))) (.seq (.test false [ PM 64 3,
 PO 65 (.call 35 [(.s 0)]), PO 66 (.un .not (.s 0))] (.s 0) (.seq (.region false [ VO 1 2 (.newnil 2), VO 2 3 (.mov (.c (.bool false)))]) (.ret)) (.skip)) (.seq (.region false [ PM 67 3, VS 1 2 0, VO 2 3 (.mov (.c (.bool true)))]) (.ret))))))), [.t 1, .t 2]⟩
noncomputable def fU : List (Nat × Bf) := [(50, dz), (51, dx), (35, Lq)]
theorem iC : Aa fU 50 = some dz := rfl
theorem iA : Aa fU 51 = some dx := rfl
theorem iD : Aa fU 35 = some Lq := rfl
noncomputable def dw : Bf := Gd fU nA [.bor]
theorem s_66 : Ad Tryz.prog 21 dw := AY _ rfl (AI s_63 (AI s_65 (AI cU Ab))) (by kernel_rfl : BF Tryz.prog 21 nA rT = true)
theorem M_66 : dw.modes = [.bor] := rfl
theorem ve : dw.flat = true := rfl
attribute [go_sem] M_66 ve iC iA iD
def Sk (w : List (List UInt8)) : ((List AA) × Int) → St
 | (out, i) => ⟨[.any, .any, .any, .own 3200000, .own 3200032, .int .i64 i, .any, .any, .any, .any, .any], [], [(3200000, ⟨2, List.map AB out⟩), (3200032, ⟨1, List.map AV.str w⟩)], true⟩
def SD (w : List (List UInt8)) : ((List AA) ⊕ ((List AA) × Bool)) → FT
 | .inl y => (.exit 0, ⟨[.any, .any, .any, .own 3200000, .any, .any, .any, .any, .any, .any, .any], [], [(3200000, ⟨2, List.map AB y⟩)], true⟩)
 | .inr y => (.ret, ⟨[.any, .own 3200000, .bool y.2, .any, .any, .any, .any, .any, .any, .any, .any], [], [(3200000, ⟨2, List.map AB y.1⟩)], true⟩)
set_option maxHeartbeats 64000000 in
attribute [local go_sem] nA Sk SD Wt Rc Rb Ra in
theorem Js {w : List (List UInt8)} {sgm_ : (List AA) × Int} {rho_ : (List AA) ⊕ ((List AA) × Bool)} (h : AJ (Bk w) sgm_ = some rho_) : ∃ L0, ∀ L, L0 ≤ L → Cg (BD (Aa fU) L Wt) Rc Rb Ra L (Sk w sgm_) = SD w rho_ := by
 refine BJ (E := Sk w) (R := SD w) (fun y => by first | (intro c; cases c) | (rcases y with y | y <;> (intro c; cases c)) | (rcases y with y | y | y <;> (intro c; cases c))) ?_ h
 clear h
 rintro ⟨out, i⟩ o_ h
 dsimp only [Bk] at h
 rcases AF h with ⟨z3, h⟩ | ⟨z3, h⟩
 ·try simp only [go_sem, n1, n2, n3, n4] at z3
  all_goals
  obtain ⟨z4, h⟩ := AD h
  have lz4 := BT z4
  have xz4 := AR AV.str w lz4
  try simp only [go_sem] at lz4
  try simp only [go_sem] at xz4
  try simp only [go_sem, n1, n2, n3, n4, z3] at z4
  all_goals
  obtain ⟨y_5, z5, h⟩ := AE h
  have fz5 := oW z5
  try simp only [go_sem, z3, z4] at fz5
  obtain ⟨z6, h⟩ := AD h
  rcases Ay z6 with ⟨gz6, z6⟩ | gz6
  ·try simp only [go_sem, n1, n2, n3, n4, z3, z4] at gz6
   all_goals
   have lz6 := BT z6
   have xz6 := AR AV.str y_5 lz6
   try simp only [go_sem] at lz6
   try simp only [go_sem] at xz6
   try simp only [go_sem, n1, n2, n3, n4, z3, z4, gz6] at z6
   all_goals
   rcases AF h with ⟨z7, h⟩ | ⟨z7, h⟩
   ·try simp only [go_sem, n1, n2, n3, n4, z3, z4, gz6, z6] at z7
    all_goals
    obtain rfl := AC h
    refine ⟨0, fun L hL => ?_⟩
    simp only [go_sem, z3, z4, lz4, xz4, fz5, gz6, z6, lz6, xz6, z7]
   ·try simp only [go_sem, n1, n2, n3, n4, z3, z4, gz6, z6] at z7
    all_goals
    obtain ⟨z8, h⟩ := AD h
    have lz8 := BT z8
    have xz8 := AR AV.str y_5 lz8
    try simp only [go_sem] at lz8
    try simp only [go_sem] at xz8
    try simp only [go_sem, n1, n2, n3, n4, z3, z4, gz6, z6, z7] at z8
    all_goals
    obtain ⟨y_9, z9, h⟩ := AE h
    have fz9 := oU z9
    try simp only [go_sem, z3, z4, gz6, z6, z7, z8] at fz9
    obtain ⟨z10, h⟩ := AD h
    have lz10 := BT z10
    have xz10 := AR AV.str y_5 lz10
    try simp only [go_sem] at lz10
    try simp only [go_sem] at xz10
    try simp only [go_sem, n1, n2, n3, n4, z3, z4, gz6, z6, z7, z8] at z10
    all_goals
    obtain ⟨y_11, z11, h⟩ := AE h
    have fz11 := oU z11
    try simp only [go_sem, z3, z4, gz6, z6, z7, z8, z10] at fz11
    rcases AF h with ⟨z12, h⟩ | ⟨z12, h⟩
    ·try simp only [go_sem, n1, n2, n3, n4, z3, z4, gz6, z6, z7, z8, z10] at z12
     all_goals
     obtain rfl := AC h
     refine ⟨0, fun L hL => ?_⟩
     simp only [go_sem, z3, z4, lz4, xz4, fz5, gz6, z6, lz6, xz6, z7, z8, lz8, xz8, fz9, z10, lz10, xz10, fz11, z12]
    ·try simp only [go_sem, n1, n2, n3, n4, z3, z4, gz6, z6, z7, z8, z10] at z12
     all_goals
     obtain ⟨z13, h⟩ := AD h
     try simp only [go_sem, n1, n2, n3, n4, z3, z4, gz6, z6, z7, z8, z10, z12] at z13
     all_goals
     obtain rfl := AC h
     refine ⟨0, fun L hL => ?_⟩
     simp only [go_sem, z3, z4, lz4, xz4, fz5, gz6, z6, lz6, xz6, z7, z8, lz8, xz8, fz9, z10, lz10, xz10, fz11, z12, z13]
  ·have gz6n := BH gz6
   have gz6nn := Fj gz6n
   try simp only [go_sem, n1, n2, n3, n4, z3, z4] at gz6nn
   all_goals
   rcases AF h with ⟨z7, h⟩ | ⟨z7, h⟩
   ·try simp only [go_sem, n1, n2, n3, n4, z3, z4, gz6nn] at z7
    all_goals
    obtain rfl := AC h
    refine ⟨0, fun L hL => ?_⟩
    simp only [go_sem, z3, z4, lz4, xz4, fz5, gz6nn, z7]
   ·try simp only [go_sem, n1, n2, n3, n4, z3, z4, gz6nn] at z7
    all_goals
    (simp_all)
 ·try simp only [go_sem, n1, n2, n3, n4] at z3
  all_goals
  obtain rfl := AC h
  refine ⟨0, fun L hL => ?_⟩
  simp only [go_sem, z3]
set_option maxHeartbeats 64000000 in
attribute [local go_sem] nA Sk SD Rc Rb Ra in
theorem uo {s_ : List UInt8} {y_ : (List AA) × Bool} (h : EK s_ = some y_) : dw.F [.str s_] = ⟨true, .tup [.fresh 2 (List.map AB y_.1), .bool y_.2], [.any]⟩ := by
 refine Br (by simp only [EA, ES, Ei, List.all_cons, List.all_nil, Bool.and_self, Bo (f := AB) (fun _ => rfl)]) ?_
 dsimp only [EK] at h
 rcases AF h with ⟨z1, h⟩ | ⟨z1, h⟩
 ·try simp only [go_sem, n1, n2, n3, n4] at z1
  all_goals
  obtain rfl := AC h
  refine ⟨0, fun L hL => ?_⟩
  simp only [go_sem, z1]
 ·try simp only [go_sem, n1, n2, n3, n4] at z1
  all_goals
  obtain ⟨y_2, z2, h⟩ := AE h
  have fz2 := oW z2
  try simp only [go_sem, z1] at fz2
  obtain ⟨y_14, z14, h⟩ := AE h
  obtain ⟨Lz14, ez14⟩ := Js z14
  rcases y_14 with y_14a | y_14b
  ·dsimp only at h
   obtain ⟨y_15, z15, h⟩ := AE h
   have fz15 := QH z15
   try simp only [go_sem, z1] at fz15
   rcases AF h with ⟨z16, h⟩ | ⟨z16, h⟩
   all_goals
   try simp only [go_sem, n1, n2, n3, n4, z1] at z16
   all_goals
   obtain rfl := AC h
   refine ⟨Lz14, fun L hL => ?_⟩
   have ez14 := ez14 L (by omega)
   try simp only [go_sem, z1, z16] at ez14
   simp only [go_sem, z1, fz2, fz15, z16, ez14]
  ·dsimp only at h
   obtain rfl := AC h
   refine ⟨Lz14, fun L hL => ?_⟩
   have ez14 := ez14 L (by omega)
   try simp only [go_sem, z1] at ez14
   simp only [go_sem, z1, fz2, ez14]
def rS : List Nat := [0, 2, 3, 4, 5, 6]
def Yc : EL := ⟨1, 6, .seq (.region false [ VO 1 2 (.newnil 2), VO 2 3 (.newnil 2)]) (.seq (.region false [ PM 7 0, PO 8 (.call 29 [(.s 0)]), VS 3 4 0]) (.seq (.region false [ PM 9 3, PO 10 (.call 48 [(.s 0)]), VS 4 5 0]) (.seq (.region false [ PO 11 (.mkSl 2 (.agg [.int .i64 (0), .int .i64 (0)]) 0 []), PM 12 4, PO 13 (.app 2 16 (.agg [.int .i64 (0), .int .i64 (0)]) (.s 1) (.s 0)), VS 5 6 0]) (.seq (.test false [ PM 14 5, PO 15 (.len false (.s 0)), PO 16 (.bin false .gtr (.s 0) (I6 0)), PO 17 (.mov (.s 0)), ⟨.push, 18, (some ((.s 0), true)), .mov (.v 3)⟩, ⟨.push, 19, (some ((.s 1), true)),
 .callw 31 [(.s 0), (I6 2)]⟩, PO 20 (.pick (.s 2) (.s 0) (.c (.bool false)))] (.s 0) (.anyo 9 [ SO 0 21 (.mov (.v 5)), SO 1 22 (.ixAddr 2 (.s 0) (I6 0)), SO 2 23 (.fldAddr 1 (.s 1)), SO 3 24 (.load false 1 (.s 2)), SO 4 25 (.mov (.v 3)), SO 5 26 (.call 37 [(.s 4), (I6 2)]), SO 6 27 (.flat (.bin false .add (.s 3) (.s 5))), SO 7 28 (.ixAddr 2 (.s 0) (I6 0)), SO 8 29 (.fldAddr 1 (.s 7)), ⟨.no, 0, none, .store 1 (.s 8) (.s 6)⟩] [[4, 0, 1, 2, 3, 5, 6, 7, 8, 9], [4, 0, 1, 2, 5, 3, 6, 7, 8, 9], [4, 0, 1, 5, 2, 3, 6, 7, 8, 9], [4, 0, 5, 1, 2, 3, 6, 7, 8, 9], [4, 5, 0, 1, 2, 3, 6, 7, 8, 9]] .skip)
 (.skip)) (.seq (.test false [ PM 30 3, PO 31 (.call 31 [(.s 0), (I6 5)])] (.s 0) (.region false [ PM 32 5, PO 33 (.build [.int .i64 (0), .int .i64 (0)] []), PO 34 (.mkSl 2 (.agg [.int .i64 (0), .int .i64 (0)]) 1 [(0, (.s 0))]), PO 35 (.app 2 16 (.agg [.int .i64 (0), .int .i64 (0)]) (.s 2) (.s 0)), VS 5 6 0]) (.skip)) (.seq (.region false [ PM 36 4, PM 37 5, VS 1 2 1, VS 2 3 0]) (.ret))))))), [.t 1, .t 2]⟩
noncomputable def fS : List (Nat × Bf) := [(29, Xl), (48, Uv), (31, Lr), (37, Uo)]
theorem hZ : Aa fS 29 = some Xl := rfl
theorem hG : Aa fS 48 = some Uv := rfl
theorem hU : Aa fS 31 = some Lr := rfl
theorem hO : Aa fS 37 = some Uo := rfl
noncomputable def dt : Bf := Gd fS Yc [.bor]
theorem s_67 : Ad Tryz.prog 22 dt := AY _ rfl (AI pc (AI pe (AI cV (AI mF Ab)))) (by kernel_rfl : BF Tryz.prog 22 Yc rS = true)
theorem M_67 : dt.modes = [.bor] := rfl
theorem vc : dt.flat = true := rfl
attribute [go_sem] M_67 vc hZ hG hU hO
theorem um {code : List UInt8} {y_ : (List AA) × (List AA)} (h : De code = some y_) : dt.F [.sl 1 (List.map Cc code)] = ⟨true, .tup [.fresh 2 (List.map AB y_.1), .fresh 2 (List.map AB y_.2)], [.any]⟩ := by
 refine Br (by simp only [EA, ES, Ei, List.all_cons, List.all_nil, Bool.and_self, Bo (f := AB) (fun _ => rfl), Bo (f := AB) (fun _ => rfl)]) ?_
 dsimp only [De] at h
 obtain ⟨y_1, z1, h⟩ := AE h
 have fz1 := aq z1
 try simp only [go_sem] at fz1
 obtain ⟨y_2, z2, h⟩ := AE h
 have fz2 := lS z2
 try simp only [go_sem] at fz2
 obtain ⟨z3, h⟩ := AD h
 try simp only [go_sem, n1, n2, n3, n4] at z3
 all_goals
 rcases AF h with ⟨z4, h⟩ | ⟨z4, h⟩
 ·try simp only [go_sem, n1, n2, n3, n4, z3] at z4
  all_goals
  obtain ⟨y_5, z5, h⟩ := AE h
  have fz5 := Fu z5
  try simp only [go_sem, z3, z4] at fz5
  rcases AF h with ⟨z6, h⟩ | ⟨z6, h⟩
  ·try simp only [go_sem, n1, n2, n3, n4, z3, z4] at z6
   all_goals
   obtain ⟨z7, h⟩ := AD h
   have lz7 := BT z7
   have xz7 := AR AB (([] : List AA) ++ y_2.1) lz7
   try simp only [go_sem] at lz7
   try simp only [go_sem] at xz7
   try simp only [go_sem, n1, n2, n3, n4, z3, z4, z6] at z7
   all_goals
   obtain ⟨y_8, z8, h⟩ := AE h
   have fz8 := GR z8
   try simp only [go_sem, z3, z4, z6, z7] at fz8
   obtain ⟨y_9, z9, h⟩ := AE h
   have fz9 := Fu z9
   try simp only [go_sem, z3, z4, z6, z7] at fz9
   rcases AF h with ⟨z10, h⟩ | ⟨z10, h⟩
   ·try simp only [go_sem, n1, n2, n3, n4, z3, z4, z6, z7] at z10
    all_goals
    obtain ⟨z11, h⟩ := AD h
    try simp only [go_sem, n1, n2, n3, n4, z3, z4, z6, z7, z10] at z11
    all_goals
    obtain rfl := AC h
    refine ⟨0, fun L hL => ?_⟩
    simp only [go_sem, Yc, fz1, fz2, z3, z4, fz5, z6, z7, lz7, xz7, fz8, fz9, z10, z11]
   ·try simp only [go_sem, n1, n2, n3, n4, z3, z4, z6, z7] at z10
    all_goals
    obtain rfl := AC h
    refine ⟨0, fun L hL => ?_⟩
    simp only [go_sem, Yc, fz1, fz2, z3, z4, fz5, z6, z7, lz7, xz7, fz8, fz9, z10]
  ·try simp only [go_sem, n1, n2, n3, n4, z3, z4] at z6
   all_goals
   obtain ⟨y_12, z12, h⟩ := AE h
   have fz12 := Fu z12
   try simp only [go_sem, z3, z4, z6] at fz12
   rcases AF h with ⟨z13, h⟩ | ⟨z13, h⟩
   ·try simp only [go_sem, n1, n2, n3, n4, z3, z4, z6] at z13
    all_goals
    obtain ⟨z14, h⟩ := AD h
    try simp only [go_sem, n1, n2, n3, n4, z3, z4, z6, z13] at z14
    all_goals
    obtain rfl := AC h
    refine ⟨0, fun L hL => ?_⟩
    simp only [go_sem, Yc, fz1, fz2, z3, z4, fz5, z6, fz12, z13, z14]
   ·try simp only [go_sem, n1, n2, n3, n4, z3, z4, z6] at z13
    all_goals
    obtain rfl := AC h
    refine ⟨0, fun L hL => ?_⟩
    simp only [go_sem, Yc, fz1, fz2, z3, z4, fz5, z6, fz12, z13]
 ·try simp only [go_sem, n1, n2, n3, n4, z3] at z4
  all_goals
  obtain ⟨y_15, z15, h⟩ := AE h
  have fz15 := Fu z15
  try simp only [go_sem, z3, z4] at fz15
  rcases AF h with ⟨z16, h⟩ | ⟨z16, h⟩
  ·try simp only [go_sem, n1, n2, n3, n4, z3, z4] at z16
   all_goals
   obtain ⟨z17, h⟩ := AD h
   try simp only [go_sem, n1, n2, n3, n4, z3, z4, z16] at z17
   all_goals
   obtain rfl := AC h
   refine ⟨0, fun L hL => ?_⟩
   simp only [go_sem, Yc, fz1, fz2, z3, z4, fz15, z16, z17]
  ·try simp only [go_sem, n1, n2, n3, n4, z3, z4] at z16
   all_goals
   obtain rfl := AC h
   refine ⟨0, fun L hL => ?_⟩
   simp only [go_sem, Yc, fz1, fz2, z3, z4, fz15, z16]
def Wh : IR := .seq (.test false [ PM 11 3, PM 12 0, PO 13 (.len false (.s 0)), PO 14 (.bin false .lss (.s 2) (.s 0))] (.s 0) (.skip) (.exit 0)) (.seq (.block 1 (.anyo 9 [ SO 0 17 (.mov (.v 0)), SO 1 18 (.mov (.v 3)), SO 2 19 (.ixAddr 2 (.s 0) (.s 1)), SO 3 20 (.load true 2 (.s 2)), SO 4 21 (.mov (.v 1)), SO 5 22 (.mov (.v 3)), SO 6 23 (.ixAddr 2 (.s 4) (.s 5)), SO 7 24 (.load true 2 (.s 6)), SO 8 25 (.eqA true [1, 1] (.s 3) (.s 7))] [] (.cond (.s 8) (.seq (.region false [ VO 2 4 (.mov (.c (.bool false)))]) (.ret)) (.skip)))) (.region false [ PM 15 3, PO 16 (.bin false .add (.s 0) (I6 1)),
 VS 3 5 0]))
def Qx : List Bool := [true, true, false, true]
def Qw : List Bool := [false, false, false, false]
def Qv : List Bool := [false, false, true, false]
def qd : List Nat := [0, 1, 4, 5]
def mo : EL := ⟨2, 4, .seq (.region false [ VO 2 4 (.mov (.c (.bool false)))]) (.seq (.test false [ PM 6 0, PO 7 (.len false (.s 0)), PM 8 1, PO 9 (.len false (.s 0)), PO 10 (.bin false .neq (.s 2) (.s 0))] (.s 0) (.seq (.region false [ VO 2 4 (.mov (.c (.bool false)))]) (.ret)) (.skip)) (.seq (.seq (.region false [ VO 3 5 (.mov (I6 0))]) (.block 0 (.loop Qx Qw Qv Wh))) (.seq (.region false [ VO 2 4 (.mov (.c (.bool true)))]) (.ret)))), [.t 2]⟩
noncomputable def tX : List (Nat × Bf) := []
noncomputable def dr : Bf := Gd tX mo [.bor, .bor]
theorem s_68 : Ad Tryz.prog 52 dr := AY _ rfl Ab (by kernel_rfl : BF Tryz.prog 52 mo qd = true)
theorem M_68 : dr.modes = [.bor, .bor] := rfl
theorem vZ : dr.flat = true := rfl
attribute [go_sem] M_68 vZ
def Sj (a : List AA) (b : List AA) : Int → St
 | i => ⟨[.sl 2 (List.map AB a), .sl 2 (List.map AB b), .any, .int .i64 i], [], [], true⟩
def SC (a : List AA) (b : List AA) : (Unit ⊕ Bool) → FT
 | .inl y => (.exit 0, ⟨[.any, .any, .any, .any], [], [], true⟩)
 | .inr y => (.ret, ⟨[.any, .any, .bool y, .any], [], [], true⟩)
attribute [local go_sem] mo Sj SC Wh Qx Qw Qv in
theorem MK {a : List AA} {b : List AA} {sgm_ : Int} {rho_ : Unit ⊕ Bool} (h : AJ (EV a b) sgm_ = some rho_) : ∃ L0, ∀ L, L0 ≤ L → Cg (BD (Aa tX) L Wh) Qx Qw Qv L (Sj a b sgm_) = SC a b rho_ := by
 refine BJ (E := Sj a b) (R := SC a b) (fun y => by first | (intro c; cases c) | (rcases y with y | y <;> (intro c; cases c)) | (rcases y with y | y | y <;> (intro c; cases c))) ?_ h
 clear h
 intro i o_ h
 dsimp only [EV] at h
 rcases AF h with ⟨z2, h⟩ | ⟨z2, h⟩
 ·try simp only [go_sem, n1, n2, n3, n4] at z2
  all_goals
  obtain ⟨z3, h⟩ := AD h
  have lz3 := BT z3
  have xz3 := AR AB a lz3
  try simp only [go_sem] at lz3
  try simp only [go_sem] at xz3
  try simp only [go_sem, n1, n2, n3, n4, z2] at z3
  all_goals
  obtain ⟨z4, h⟩ := AD h
  have lz4 := BT z4
  have xz4 := AR AB b lz4
  try simp only [go_sem] at lz4
  try simp only [go_sem] at xz4
  try simp only [go_sem, n1, n2, n3, n4, z2, z3] at z4
  all_goals
  rcases AF h with ⟨z5, h⟩ | ⟨z5, h⟩
  all_goals
  try simp only [go_sem, n1, n2, n3, n4, z2, z3, z4] at z5
  all_goals
  obtain rfl := AC h
  refine ⟨0, fun L hL => ?_⟩
  simp only [go_sem, z2, z3, lz3, xz3, z4, lz4, xz4, z5]
 ·try simp only [go_sem, n1, n2, n3, n4] at z2
  all_goals
  obtain rfl := AC h
  refine ⟨0, fun L hL => ?_⟩
  simp only [go_sem, z2]
attribute [local go_sem] mo Sj SC Qx Qw Qv in
theorem ul {a : List AA} {b : List AA} {y_ : Bool} (h : Hs a b = some y_) : dr.F [.sl 2 (List.map AB a), .sl 2 (List.map AB b)] = ⟨true, .bool y_, [.any, .any]⟩ := by
 refine Br rfl ?_
 dsimp only [Hs] at h
 rcases AF h with ⟨z1, h⟩ | ⟨z1, h⟩
 ·try simp only [go_sem, n1, n2, n3, n4] at z1
  all_goals
  obtain rfl := AC h
  refine ⟨0, fun L hL => ?_⟩
  simp only [go_sem, z1]
 ·try simp only [go_sem, n1, n2, n3, n4] at z1
  all_goals
  obtain ⟨y_6, z6, h⟩ := AE h
  obtain ⟨Lz6, ez6⟩ := MK z6
  rcases y_6 with y_6a | y_6b
  all_goals
  dsimp only at h
  obtain rfl := AC h
  refine ⟨Lz6, fun L hL => ?_⟩
  have ez6 := ez6 L (by omega)
  try simp only [go_sem, z1] at ez6
  simp only [go_sem, z1, ez6]
def rQ : List Nat := [0, 1, 4]
def rR : EL := ⟨2, 3, .seq (.region false [ VO 2 4 (.mov (.c (.bool false)))]) (.seq (.region false [ PM 5 0, PM 6 1, PO 7 (.call 52 [(.s 1), (.s 0)]), VS 2 4 0]) (.ret)), [.t 2]⟩
noncomputable def tW : List (Nat × Bf) := [(52, dr)]
theorem gz : Aa tW 52 = some dr := rfl
noncomputable def dq : Bf := Gd tW rR [.bor, .bor]
theorem s_69 : Ad Tryz.prog 23 dq := AY _ rfl (AI s_68 Ab) (by kernel_rfl : BF Tryz.prog 23 rR rQ = true)
theorem M_69 : dq.modes = [.bor, .bor] := rfl
theorem vY : dq.flat = true := rfl
attribute [go_sem] M_69 vY gz
theorem QG {a : List AA} {b : List AA} {y_ : Bool} (h : AH a b = some y_) : dq.F [.sl 2 (List.map AB a), .sl 2 (List.map AB b)] = ⟨true, .bool y_, [.any, .any]⟩ := by
 refine Br rfl ?_
 dsimp only [AH] at h
 obtain ⟨y_1, z1, h⟩ := AE h
 have fz1 := ul z1
 try simp only [go_sem] at fz1
 obtain rfl := AC h
 refine ⟨0, fun L hL => ?_⟩
 simp only [go_sem, rR, fz1]
def rP : List Nat := [0, 2]
def mz : EL := ⟨1, 2, .seq (.region false [ VO 1 2 (.mov (.c (.str [])))]) (.seq (.test false [ PM 3 0, PO 4 (.call 35 [(.s 0)]), PO 5 (.un .not (.s 0))] (.s 0) (.seq (.region false [ VO 1 2 (.mov (.c (.str [])))]) (.ret)) (.skip)) (.seq (.region false [ PM 6 0, PO 7 (.call 47 [(.s 0)]), VS 1 2 0]) (.ret))), [.t 1]⟩
noncomputable def oz : List (Nat × Bf) := [(35, Lq), (47, ZG)]
theorem gy : Aa oz 35 = some Lq := rfl
theorem gx : Aa oz 47 = some ZG := rfl
noncomputable def dp : Bf := Gd oz mz [.bor]
theorem s_70 : Ad Tryz.prog 24 dp := AY _ rfl (AI cU (AI uA Ab)) (by kernel_rfl : BF Tryz.prog 24 mz rP = true)
theorem M_70 : dp.modes = [.bor] := rfl
theorem vX : dp.flat = true := rfl
attribute [go_sem] M_70 vX gy gx
theorem uk {list : List AA} {y_ : (List UInt8)} (h : Bn list = some y_) : dp.F [.sl 2 (List.map AB list)] = ⟨true, .str y_, [.any]⟩ := by
 refine Br rfl ?_
 dsimp only [Bn] at h
 obtain ⟨y_1, z1, h⟩ := AE h
 have fz1 := QH z1
 try simp only [go_sem] at fz1
 rcases AF h with ⟨z2, h⟩ | ⟨z2, h⟩
 ·try simp only [go_sem, n1, n2, n3, n4] at z2
  all_goals
  obtain rfl := AC h
  refine ⟨0, fun L hL => ?_⟩
  simp only [go_sem, mz, fz1, z2]
 ·try simp only [go_sem, n1, n2, n3, n4] at z2
  all_goals
  obtain ⟨y_3, z3, h⟩ := AE h
  have fz3 := oX z3
  try simp only [go_sem, z2] at fz3
  obtain rfl := AC h
  refine ⟨0, fun L hL => ?_⟩
  simp only [go_sem, mz, fz1, z2, fz3]
def Wg : IR := .seq (.region false [ VO 6 14 (.bin false .lss (.v 5) (.v 4))]) (.seq (.cond (.v 6) (.skip) (.exit 0)) (.seq (.block 1 (.seq (.region false [ PM 15 5, VS 3 5 0]) (.anyo 9 [ SO 0 16 (.mov (.v 0)), SO 1 17 (.mov (.v 3)), SO 2 18 (.ixAddr 2 (.s 0) (.s 1)), SO 3 19 (.load true 2 (.s 2)), SO 4 20 (.mov (.v 1)), SO 5 21 (.mov (.v 3)), SO 6 22 (.ixAddr 2 (.s 4) (.s 5)), SO 7 23 (.load true 2 (.s 6)), SO 8 24 (.eqA true [1, 1] (.s 3) (.s 7))] [] (.cond (.s 8) (.seq (.region false [ VO 2 4 (.mov (.c (.bool false)))]) (.ret)) (.skip))))) (.region false [ PO 25 (.bin false .add (.v 5)
 (I6 1)), VS 5 13 0])))
def Qu : List Bool := [true, true, false, false, true, true, false]
def Qt : List Bool := [false, false, false, false, false, false, false]
def Qs : List Bool := [false, false, true, false, false, false, false]
def qc : List Nat := [0, 1, 4, 5, 12, 13, 14]
def mn : EL := ⟨2, 7, .seq (.region false [ VO 2 4 (.mov (.c (.bool false)))]) (.seq (.test false [ PM 6 0, PO 7 (.len false (.s 0)), PM 8 1, PO 9 (.len false (.s 0)), PO 10 (.bin false .neq (.s 2) (.s 0))] (.s 0) (.seq (.region false [ VO 2 4 (.mov (.c (.bool false)))]) (.ret)) (.skip)) (.seq (.seq (.region false [ PM 11 0, VO 4 12 (.len false (.s 0)), VO 5 13 (.mov (I6 0))]) (.block 0 (.loop Qu Qt Qs Wg))) (.seq (.region false [ VO 2 4 (.mov (.c (.bool true)))]) (.ret)))), [.t 2]⟩
noncomputable def tV : List (Nat × Bf) := []
noncomputable def dm : Bf := Gd tV mn [.bor, .bor]
theorem s_71 : Ad Tryz.prog 53 dm := AY _ rfl Ab (by kernel_rfl : BF Tryz.prog 53 mn qc = true)
theorem M_71 : dm.modes = [.bor, .bor] := rfl
theorem vW : dm.flat = true := rfl
attribute [go_sem] M_71 vW
def Si (s1 : List AA) (s2 : List AA) (t12 : Int) : Int → St
 | t13 => ⟨[.sl 2 (List.map AB s1), .sl 2 (List.map AB s2), .any, .any, .int .i64 t12, .int .i64 t13, .any], [], [], true⟩
def SB (s1 : List AA) (s2 : List AA) (t12 : Int) : (Unit ⊕ Bool) → FT
 | .inl y => (.exit 0, ⟨[.any, .any, .any, .any, .any, .any, .any], [], [], true⟩)
 | .inr y => (.ret, ⟨[.any, .any, .bool y, .any, .any, .any, .any], [], [], true⟩)
attribute [local go_sem] mn Si SB Wg Qu Qt Qs in
theorem FB {s1 : List AA} {s2 : List AA} {t12 : Int} {sgm_ : Int} {rho_ : Unit ⊕ Bool} (h : AJ (CS s1 s2 t12) sgm_ = some rho_) : ∃ L0, ∀ L, L0 ≤ L → Cg (BD (Aa tV) L Wg) Qu Qt Qs L (Si s1 s2 t12 sgm_) = SB s1 s2 t12 rho_ := by
 refine BJ (E := Si s1 s2 t12) (R := SB s1 s2 t12) (fun y => by first | (intro c; cases c) | (rcases y with y | y <;> (intro c; cases c)) | (rcases y with y | y | y <;> (intro c; cases c))) ?_ h
 clear h
 intro t13 o_ h
 dsimp only [CS] at h
 rcases AF h with ⟨z2, h⟩ | ⟨z2, h⟩
 ·try simp only [go_sem, n1, n2, n3, n4] at z2
  all_goals
  obtain ⟨z3, h⟩ := AD h
  have lz3 := BT z3
  have xz3 := AR AB s1 lz3
  try simp only [go_sem] at lz3
  try simp only [go_sem] at xz3
  try simp only [go_sem, n1, n2, n3, n4, z2] at z3
  all_goals
  obtain ⟨z4, h⟩ := AD h
  have lz4 := BT z4
  have xz4 := AR AB s2 lz4
  try simp only [go_sem] at lz4
  try simp only [go_sem] at xz4
  try simp only [go_sem, n1, n2, n3, n4, z2, z3] at z4
  all_goals
  rcases AF h with ⟨z5, h⟩ | ⟨z5, h⟩
  all_goals
  try simp only [go_sem, n1, n2, n3, n4, z2, z3, z4] at z5
  all_goals
  obtain rfl := AC h
  refine ⟨0, fun L hL => ?_⟩
  simp only [go_sem, z2, z3, lz3, xz3, z4, lz4, xz4, z5]
 ·try simp only [go_sem, n1, n2, n3, n4] at z2
  all_goals
  obtain rfl := AC h
  refine ⟨0, fun L hL => ?_⟩
  simp only [go_sem, z2]
attribute [local go_sem] mn Si SB Qu Qt Qs in
theorem uj {s1 : List AA} {s2 : List AA} {y_ : Bool} (h : CY s1 s2 = some y_) : dm.F [.sl 2 (List.map AB s1), .sl 2 (List.map AB s2)] = ⟨true, .bool y_, [.any, .any]⟩ := by
 refine Br rfl ?_
 dsimp only [CY] at h
 rcases AF h with ⟨z1, h⟩ | ⟨z1, h⟩
 ·try simp only [go_sem, n1, n2, n3, n4] at z1
  all_goals
  obtain rfl := AC h
  refine ⟨0, fun L hL => ?_⟩
  simp only [go_sem, z1]
 ·try simp only [go_sem, n1, n2, n3, n4] at z1
  all_goals
  obtain ⟨y_6, z6, h⟩ := AE h
  obtain ⟨Lz6, ez6⟩ := FB z6
  rcases y_6 with y_6a | y_6b
  all_goals
  dsimp only at h
  obtain rfl := AC h
  refine ⟨Lz6, fun L hL => ?_⟩
  have ez6 := ez6 L (by omega)
  try simp only [go_sem, z1] at ez6
  simp only [go_sem, z1, ez6]
def rN : List Nat := [0, 1, 4]
def rO : EL := ⟨2, 3, .seq (.region false [ VO 2 4 (.mov (.c (.bool false)))]) (.seq (.region false [ PM 5 0, PM 6 1, PO 7 (.call 53 [(.s 1), (.s 0)]), VS 2 4 0]) (.ret)), [.t 2]⟩
noncomputable def tU : List (Nat × Bf) := [(53, dm)]
theorem gw : Aa tU 53 = some dm := rfl
noncomputable def dl : Bf := Gd tU rO [.bor, .bor]
theorem s_72 : Ad Tryz.prog 25 dl := AY _ rfl (AI s_71 Ab) (by kernel_rfl : BF Tryz.prog 25 rO rN = true)
theorem M_72 : dl.modes = [.bor, .bor] := rfl
theorem vV : dl.flat = true := rfl
attribute [go_sem] M_72 vV gw
theorem oT {a : List AA} {b : List AA} {y_ : Bool} (h : Cp a b = some y_) : dl.F [.sl 2 (List.map AB a), .sl 2 (List.map AB b)] = ⟨true, .bool y_, [.any, .any]⟩ := by
 refine Br rfl ?_
 dsimp only [Cp] at h
 obtain ⟨y_1, z1, h⟩ := AE h
 have fz1 := uj z1
 try simp only [go_sem] at fz1
 obtain rfl := AC h
 refine ⟨0, fun L hL => ?_⟩
 simp only [go_sem, rO, fz1]
def rK : List Nat := [0, 2]
def rL : EL := ⟨1, 2, .seq (.region false [ VO 1 2 (.mov (.c (.bool false)))]) (.seq (.region false [ PM 3 0, PO 4 (.call 35 [(.s 0)]), VS 1 2 0]) (.ret)), [.t 1]⟩
noncomputable def tT : List (Nat × Bf) := [(35, Lq)]
theorem gt : Aa tT 35 = some Lq := rfl
noncomputable def dk : Bf := Gd tT rL [.bor]
theorem s_73 : Ad Tryz.prog 27 dk := AY _ rfl (AI cU Ab) (by kernel_rfl : BF Tryz.prog 27 rL rK = true)
theorem M_73 : dk.modes = [.bor] := rfl
theorem vU : dk.flat = true := rfl
attribute [go_sem] M_73 vU gt
theorem oS {list : List AA} {y_ : Bool} (h : Dp list = some y_) : dk.F [.sl 2 (List.map AB list)] = ⟨true, .bool y_, [.any]⟩ := by
 refine Br rfl ?_
 dsimp only [Dp] at h
 obtain ⟨y_1, z1, h⟩ := AE h
 have fz1 := QH z1
 try simp only [go_sem] at fz1
 obtain rfl := AC h
 refine ⟨0, fun L hL => ?_⟩
 simp only [go_sem, rL, fz1]
def qC : List Nat := [0, 1, 2, 3]
def qD : EL := ⟨2, 4, .seq (.region false [ VO 2 2 (.box (.v 0)), VO 3 3 (.mov (.c (.bool false)))]) (.seq (.region false [ PO 4 (.load false 1 (.v 1)), PO 5 (.fldAddr 0 (.v 2)), PO 6 (.load false 1 (.s 0)), PO 7 (.fldAddr 1 (.v 2)), PO 8 (.load false 1 (.s 0)), PO 9 (.call 39 [(.s 4), (.s 2), (.s 0)]), VS 3 3 0]) (.ret)), [.t 3]⟩
noncomputable def tS : List (Nat × Bf) := [(39, fI)]
theorem gr : Aa tS 39 = some fI := rfl
noncomputable def dj : Bf := Gd tS qD [.bor, .bor]
theorem s_74 : Ad Tryz.prog 72 dj := AY _ rfl (AI s_0 Ab) (by kernel_rfl : BF Tryz.prog 72 qD qC = true)
theorem M_74 : dj.modes = [.bor, .bor] := rfl
theorem vT : dj.flat = true := rfl
attribute [go_sem] M_74 vT gr
theorem ui {w : AA} {t1 : Int} {y_ : Bool} (h : HV w t1 = some y_) : dj.F [AB w, .ptr 1 [.int .i64 t1] 0 0] = ⟨true, .bool y_, [.any, .any]⟩ := by
 refine Br rfl ?_
 dsimp only [HV] at h
 obtain ⟨y_1, z1, h⟩ := AE h
 have fz1 := ar z1
 try simp only [go_sem] at fz1
 obtain rfl := AC h
 refine ⟨0, fun L hL => ?_⟩
 simp only [go_sem, qD, fz1]
def WZ : IR := .seq (.region false [ VO 6 9 (.bin false .lss (.v 5) (.v 4))]) (.seq (.cond (.v 6) (.skip) (.exit 0)) (.seq (.block 1 (.seq (.region false [ PM 10 5, VS 3 5 0]) (.test false [ PM 11 1, PM 12 0, PM 13 3, PO 14 (.ixAddr 2 (.s 1) (.s 0)), PO 15 (.load true 2 (.s 0)), PO 16 (.callv (.s 4) [(.s 0)])] (.s 0) (.seq (.region false [ PM 17 3, VS 2 4 0]) (.ret)) (.skip)))) (.region false [ PO 18 (.bin false .add (.v 5) (I6 1)), VS 5 8 0])))
def Qc : List Bool := [true, true, false, false, true, true, false]
def Qb : List Bool := [false, false, false, false, false, false, false]
def Qa : List Bool := [false, false, true, false, false, false, false]
def pt : List Nat := [0, 1, 4, 5, 7, 8, 9]
def mh : EL := ⟨2, 7, .seq (.region false [ VO 2 4 (.mov (I6 0))]) (.seq (.seq (.region false [ PM 6 0, VO 4 7 (.len false (.s 0)), VO 5 8 (.mov (I6 0))]) (.block 0 (.loop Qc Qb Qa WZ))) (.seq (.region false [ VO 2 4 (.mov (.c (.int .i64 (-1))))]) (.ret))), [.t 2]⟩
noncomputable def oy : List (Nat × Bf) := [(72, dj)]
theorem gq : Aa oy 72 = some dj := rfl
noncomputable def di : Bf := Gd oy mh [.bor, .bor]
theorem s_75 : Ad Tryz.prog 83 di := AY _ rfl (AI s_74 Ab) (by kernel_rfl : BF Tryz.prog 83 mh pt = true)
theorem M_75 : di.modes = [.bor, .bor] := rfl
theorem vS : di.flat = true := rfl
attribute [go_sem] M_75 vS gq
def Sg (s_ : List AA) (c : Int) (t7 : Int) : Int → St
 | t8 => ⟨[.sl 2 (List.map AB s_), .fn (.func 72) [] [.ptr 1 [.int .i64 c] 0 0], .any, .any, .int .i64 t7, .int .i64 t8, .any], [], [], true⟩
def SA (s_ : List AA) (c : Int) (t7 : Int) : (Unit ⊕ Int) → FT
 | .inl y => (.exit 0, ⟨[.any, .any, .any, .any, .any, .any, .any], [], [], true⟩)
 | .inr y => (.ret, ⟨[.any, .any, .int .i64 y, .any, .any, .any, .any], [], [], true⟩)
attribute [local go_sem] mh Sg SA WZ Qc Qb Qa in
theorem DG {s_ : List AA} {c : Int} {t7 : Int} {sgm_ : Int} {rho_ : Unit ⊕ Int} (h : AJ (AZ s_ c t7) sgm_ = some rho_) : ∃ L0, ∀ L, L0 ≤ L → Cg (BD (Aa oy) L WZ) Qc Qb Qa L (Sg s_ c t7 sgm_) = SA s_ c t7 rho_ := by
 refine BJ (E := Sg s_ c t7) (R := SA s_ c t7) (fun y => by first | (intro c; cases c) | (rcases y with y | y <;> (intro c; cases c)) | (rcases y with y | y | y <;> (intro c; cases c))) ?_ h
 clear h
 intro t8 o_ h
 dsimp only [AZ] at h
 rcases AF h with ⟨z1, h⟩ | ⟨z1, h⟩
 ·try simp only [go_sem, n1, n2, n3, n4] at z1
  all_goals
  obtain ⟨z2, h⟩ := AD h
  have lz2 := BT z2
  have xz2 := AR AB s_ lz2
  try simp only [go_sem] at lz2
  try simp only [go_sem] at xz2
  try simp only [go_sem, n1, n2, n3, n4, z1] at z2
  all_goals
  obtain ⟨y_3, z3, h⟩ := AE h
  have fz3 := ui z3
  try simp only [go_sem, z1, z2] at fz3
  rcases AF h with ⟨z4, h⟩ | ⟨z4, h⟩
  all_goals
  try simp only [go_sem, n1, n2, n3, n4, z1, z2] at z4
  all_goals
  obtain rfl := AC h
  refine ⟨0, fun L hL => ?_⟩
  simp only [go_sem, z1, z2, lz2, xz2, fz3, z4]
 ·try simp only [go_sem, n1, n2, n3, n4] at z1
  all_goals
  obtain rfl := AC h
  refine ⟨0, fun L hL => ?_⟩
  simp only [go_sem, z1]
attribute [local go_sem] Sg SA Qc Qb Qa mh in
theorem uh {s_ : List AA} {f_c0 : Int} {y_ : Int} (h : BC s_ f_c0 = some y_) : di.F [.sl 2 (List.map AB s_), .fn (.func 72) [] [.ptr 1 [.int .i64 f_c0] 0 0]] = ⟨true, .int .i64 y_, [.any, .any]⟩ := by
 refine Br rfl ?_
 dsimp only [BC] at h
 obtain ⟨y_5, z5, h⟩ := AE h
 obtain ⟨Lz5, ez5⟩ := DG z5
 rcases y_5 with y_5a | y_5b
 all_goals
 dsimp only at h
 obtain rfl := AC h
 refine ⟨Lz5, fun L hL => ?_⟩
 have ez5 := ez5 L (by omega)
 try simp only [go_sem] at ez5
 simp only [go_sem, ez5]
def qE : List Nat := [0, 1, 4]
def qF : EL := ⟨2, 3, .seq (.region false [ VO 2 4 (.mov (.c (.bool false)))]) (.seq (.region false [ PM 5 0, PM 6 1, PO 7 (.call 83 [(.s 1), (.s 0)]), PO 8 (.bin false .geq (.s 0) (I6 0)), VS 2 4 0]) (.ret)), [.t 2]⟩
noncomputable def tR : List (Nat × Bf) := [(83, di)]
theorem gp : Aa tR 83 = some di := rfl
noncomputable def dh : Bf := Gd tR qF [.bor, .bor]
theorem s_76 : Ad Tryz.prog 71 dh := AY _ rfl (AI s_75 Ab) (by kernel_rfl : BF Tryz.prog 71 qF qE = true)
theorem M_76 : dh.modes = [.bor, .bor] := rfl
theorem vR : dh.flat = true := rfl
attribute [go_sem] M_76 vR gp
theorem ug {s_ : List AA} {f_c0 : Int} {y_ : Bool} (h : Av s_ f_c0 = some y_) : dh.F [.sl 2 (List.map AB s_), .fn (.func 72) [] [.ptr 1 [.int .i64 f_c0] 0 0]] = ⟨true, .bool y_, [.any, .any]⟩ := by
 refine Br rfl ?_
 dsimp only [Av] at h
 obtain ⟨y_1, z1, h⟩ := AE h
 have fz1 := uh z1
 try simp only [go_sem] at fz1
 obtain rfl := AC h
 refine ⟨0, fun L hL => ?_⟩
 simp only [go_sem, qF, fz1]
def qW : List Nat := [0, 1, 3, 4]
def qX : EL := ⟨2, 4, .seq (.region false [ VO 2 3 (.box (.v 1)), VO 3 4 (.mov (.c (.bool false)))]) (.seq (.region false [ PM 5 0, PO 6 (.mkFn (.func 72) [] [(.v 2)]), PO 7 (.call 71 [(.s 1), (.s 0)]), VS 3 4 0]) (.ret)), [.t 3]⟩
noncomputable def tQ : List (Nat × Bf) := [(71, dh)]
theorem gn : Aa tQ 71 = some dh := rfl
noncomputable def dg : Bf := Gd tQ qX [.bor, .bor]
theorem s_77 : Ad Tryz.prog 55 dg := AY _ rfl (AI s_76 Ab) (by kernel_rfl : BF Tryz.prog 55 qX qW = true)
theorem M_77 : dg.modes = [.bor, .bor] := rfl
theorem vQ : dg.flat = true := rfl
attribute [go_sem] M_77 vQ gn
theorem uf {list : List AA} {t : Int} {y_ : Bool} (h : Ia list t = some y_) : dg.F [.sl 2 (List.map AB list), .int .i64 t] = ⟨true, .bool y_, [.any, .any]⟩ := by
 refine Br rfl ?_
 dsimp only [Ia] at h
 obtain ⟨y_1, z1, h⟩ := AE h
 have fz1 := ug z1
 try simp only [go_sem] at fz1
 obtain rfl := AC h
 refine ⟨0, fun L hL => ?_⟩
 simp only [go_sem, qX, fz1]
def rJ : List Nat := [0, 1, 4, 5]
def jv : EL := ⟨2, 4, .seq (.region false [ VO 2 4 (.mov (.c (.bool false))), VO 3 5 (.mov (I6 0))]) (.seq (.block 0 (.test false [ PM 7 0, PO 8 (.call 26 [(.s 0)]), PO 9 (.un .not (.s 0)), PO 6 (.mov (.s 0))] (.s 0) (.seq (.region false [ VO 2 4 (.mov (.c (.bool false))), VO 3 5 (.mov (I6 1))]) (.ret)) (.test false [ PM 11 1, PO 12 (.call 54 [(.s 0)]), PO 13 (.un .not (.s 0)), PO 10 (.mov (.s 0))] (.s 0) (.seq (.region false [ VO 2 4 (.mov (.c (.bool false))), VO 3 5 (.mov (I6 2))]) (.ret)) (.skip)))) (.seq (.region false [ PM 14 0, PM 15 1, PO 16 (.call 55 [(.s 1), (.s 0)]), VS 2 4 0, VO 3
 5 (.mov (I6 0))]) (.ret))), [.t 2, .t 3]⟩
noncomputable def li : List (Nat × Bf) := [(26, Xm), (54, oO), (55, dg)]
theorem gm : Aa li 26 = some Xm := rfl
theorem gl : Aa li 54 = some oO := rfl
theorem gj : Aa li 55 = some dg := rfl
noncomputable def df : Bf := Gd li jv [.bor, .bor]
theorem s_78 : Ad Tryz.prog 28 df := AY _ rfl (AI pd (AI s_1 (AI s_77 Ab))) (by kernel_rfl : BF Tryz.prog 28 jv rJ = true)
theorem M_78 : df.modes = [.bor, .bor] := rfl
theorem vP : df.flat = true := rfl
attribute [go_sem] M_78 vP gm gl gj
theorem WC {list : List AA} {t : Int} {y_ : Bool × Int} (h : Ci list t = some y_) : df.F [.sl 2 (List.map AB list), .int .i64 t] = ⟨true, .tup [.bool y_.1, .int .i64 y_.2], [.any, .any]⟩ := by
 refine Br rfl ?_
 dsimp only [Ci] at h
 obtain ⟨y_1, z1, h⟩ := AE h
 have fz1 := Ok z1
 try simp only [go_sem] at fz1
 rcases AF h with ⟨z2, h⟩ | ⟨z2, h⟩
 ·try simp only [go_sem, n1, n2, n3, n4] at z2
  all_goals
  obtain rfl := AC h
  refine ⟨0, fun L hL => ?_⟩
  simp only [go_sem, jv, fz1, z2]
 ·try simp only [go_sem, n1, n2, n3, n4] at z2
  all_goals
  obtain ⟨y_3, z3, h⟩ := AE h
  have fz3 := sZ z3
  try simp only [go_sem, z2] at fz3
  rcases AF h with ⟨z4, h⟩ | ⟨z4, h⟩
  ·try simp only [go_sem, n1, n2, n3, n4, z2] at z4
   all_goals
   obtain rfl := AC h
   refine ⟨0, fun L hL => ?_⟩
   simp only [go_sem, jv, fz1, z2, fz3, z4]
  ·try simp only [go_sem, n1, n2, n3, n4, z2] at z4
   all_goals
   obtain ⟨y_5, z5, h⟩ := AE h
   have fz5 := uf z5
   try simp only [go_sem, z2, z4] at fz5
   obtain rfl := AC h
   refine ⟨0, fun L hL => ?_⟩
   simp only [go_sem, jv, fz1, z2, fz3, z4, fz5]
def Tk : IR := .seq (.test false [ PM 288 41, PM 289 7, PO 290 (.len false (.s 0)), PO 291 (.bin false .lss (.s 2) (.s 0))] (.s 0) (.skip) (.exit 0)) (.seq (.block 1 (.seq (.region false [ PM 295 2, PM 296 7, PM 297 41, PO 298 (.ixAddr 2 (.s 1) (.s 0)), PO 299 (.fldAddr 0 (.s 0)), PO 300 (.load false 1 (.s 0)), PO 301 (.call 28 [(.s 5), (.s 0)]), PO 294 (.mov (.s 0)), PO 302 (.ext (.s 0) 0), PO 303 (.ext (.s 1) 1), VS 42 43 1, VS 43 44 0]) (.seq (.region false [ PM 305 3, PM 306 7, PM 307 41, PO 308 (.ixAddr 2 (.s 1) (.s 0)), PO 309 (.fldAddr 0 (.s 0)), PO 310 (.load false 1 (.s 0)), PO 311
 (.call 28 [(.s 5), (.s 0)]), PO 304 (.mov (.s 0)), PO 312 (.ext (.s 0) 0), PO 313 (.ext (.s 1) 1), VS 44 45 1, VS 45 46 0]) (.seq (.region false [ PM 315 4, PM 316 7, PM 317 41, PO 318 (.ixAddr 2 (.s 1) (.s 0)), PO 319 (.fldAddr 1 (.s 0)), PO 320 (.load false 1 (.s 0)), PO 321 (.call 28 [(.s 5), (.s 0)]), PO 314 (.mov (.s 0)), PO 322 (.ext (.s 0) 0), PO 323 (.ext (.s 1) 1), VS 46 47 1, VS 47 48 0]) (.test false [ PM 324 43, PO 325 (.bin false .neq (.s 0) (I6 0)), PO 326 (.mov (.s 0)), ⟨.push, 327, (some ((.s 0), false)), .mov (.v 42)⟩, ⟨.push, 328, (some ((.s 1), false)), .un .not (.s 0)⟩, PO
 329 (.pick (.s 2) (.c (.bool true)) (.s 0)), PO 330 (.mov (.s 0)), ⟨.push, 331, (some ((.s 0), false)), .mov (.v 45)⟩, ⟨.push, 332, (some ((.s 1), false)), .bin false .neq (.s 0) (I6 0)⟩, PO 333 (.pick (.s 2) (.c (.bool true)) (.s 0)), PO 334 (.mov (.s 0)), ⟨.push, 335, (some ((.s 0), false)), .mov (.v 44)⟩, PO 336 (.pick (.s 1) (.c (.bool true)) (.s 0)), PO 337 (.mov (.s 0)), ⟨.push, 338, (some ((.s 0), false)), .mov (.v 47)⟩, ⟨.push, 339, (some ((.s 1), false)), .bin false .neq (.s 0) (I6 0)⟩, PO 340 (.pick (.s 2) (.c (.bool true)) (.s 0)), PO 341 (.mov (.s 0)), ⟨.push, 342, (some ((.s 0),
 false)), .mov (.v 46)⟩, PO 343 (.pick (.s 1) (.c (.bool true)) (.s 0))] (.s 0) (.seq (.region false [ VO 1 2 (.mov (.c (.bool false)))]) (.ret)) (.skip)))))) (.region false [ PM 292 41, PO 293 (.bin false .add (.s 0) (I6 1)), VS 41 42 0]))
def PX : List Bool := [false, false, true, true, true, false, false, true, false, false, false, false, false, false, false, false, false, false, false, false, false, false, false, false, false, false, false, false, false, false, false, false, false, false, false, false, false, false, false, false, false, true, false, false, false, false, false, false]
def PW : List Bool := [false, false, false, false, false, false, false, false, false, false, false, false, false, false, false, false, false, false, false, false, false, false, false, false, false, false, false, false, false, false, false, false, false, false, false, false, false, false, false, false, false, false, false, false, false, false, false, false]
def PV : List Bool := [false, true, false, false, false, false, false, false, false, false, false, false, false, false, false, false, false, false, false, false, false, false, false, false, false, false, false, false, false, false, false, false, false, false, false, false, false, false, false, false, false, false, false, false, false, false, false, false]
def uT : List Nat := [0, 2, 3, 4, 5, 6, 7, 8, 9, 10, 11, 12, 13, 14, 15, 16, 17, 18, 19, 20, 21, 22, 23, 24, 25, 26, 27, 28, 29, 30, 31, 32, 33, 34, 35, 36, 37, 38, 39, 40, 41, 42, 43, 44, 45, 46, 47, 48]
def uU : EL := ⟨1, 48, .seq (.region false [ VO 1 2 (.mov (.c (.bool false)))]) (.seq (.test false [ PM 49 0, PO 50 (.call 4 [(.s 0)])] (.s 0) (.seq (.region false [ VO 1 2 (.mov (.c (.bool true)))]) (.ret)) (.skip)) (.seq (.region false [ PM 52 0, PO 53 (.call 5 [(.s 0)]), PO 51 (.mov (.s 0)), PO 54 (.ext (.s 0) 0), PO 55 (.ext (.s 1) 1), PO 56 (.ext (.s 2) 2), VS 2 3 2, VS 3 4 1, VS 4 5 0]) (.seq (.region false [ PM 58 2, PM 59 3, PM 60 4, PO 61 (.call 6 [(.s 2), (.s 1), (.s 0)]), PO 57 (.mov (.s 0)), PO 62 (.ext (.s 0) 0), PO 63 (.ext (.s 1) 1), VS 5 6 1, VS 6 7 0]) (.seq (.region false [
 PM 65 2, PM 66 3, PM 67 4, PO 68 (.call 7 [(.s 2), (.s 1), (.s 0)]), PO 64 (.mov (.s 0)), PO 69 (.ext (.s 0) 0), PO 70 (.ext (.s 1) 1), VS 7 8 1, VS 8 9 0]) (.seq (.region false [ PM 72 0, PO 73 (.call 8 [(.s 0)]), PO 71 (.mov (.s 0)), PO 74 (.ext (.s 0) 0), PO 75 (.ext (.s 1) 1), PO 76 (.ext (.s 2) 2), PO 77 (.ext (.s 3) 3), VS 9 10 3, VS 10 11 2, VS 11 12 1, VS 12 13 0]) (.seq (.region false [ PM 79 9, PM 80 10, PM 81 11, PM 82 12, PO 83 (.call 9 [(.s 3), (.s 2), (.s 1), (.s 0)]), PO 78 (.mov (.s 0)), PO 84 (.ext (.s 0) 0), PO 85 (.ext (.s 1) 1), VS 13 14 1, VS 14 15 0]) (.seq (.region false
 [ PM 87 9, PM 88 10, PM 89 11, PM 90 12, PO 91 (.call 10 [(.s 3), (.s 2), (.s 1), (.s 0)]), PO 86 (.mov (.s 0)), PO 92 (.ext (.s 0) 0), PO 93 (.ext (.s 1) 1), VS 15 16 1, VS 16 17 0]) (.seq (.region false [ PM 95 0, PO 96 (.call 11 [(.s 0)]), PO 94 (.mov (.s 0)), PO 97 (.ext (.s 0) 0), PO 98 (.ext (.s 1) 1), VS 17 18 1, VS 18 19 0]) (.seq (.region false [ PM 100 17, PM 101 18, PO 102 (.call 12 [(.s 1), (.s 0)]), PO 99 (.mov (.s 0)), PO 103 (.ext (.s 0) 0), PO 104 (.ext (.s 1) 1), VS 19 20 1, VS 20 21 0]) (.seq (.region false [ PM 106 17, PM 107 18, PO 108 (.call 13 [(.s 1), (.s 0)]), PO 105
 (.mov (.s 0)), PO 109 (.ext (.s 0) 0), PO 110 (.ext (.s 1) 1), VS 21 22 1, VS 22 23 0]) (.seq (.region false [ PM 111 0, PO 112 (.call 14 [(.s 0)]), VS 23 24 0]) (.seq (.region false [ PM 114 23, PO 115 (.call 15 [(.s 0)]), PO 113 (.mov (.s 0)), PO 116 (.ext (.s 0) 0), PO 117 (.ext (.s 1) 1), VS 24 25 1, VS 25 26 0]) (.seq (.region false [ PM 119 23, PO 120 (.call 16 [(.s 0)]), PO 118 (.mov (.s 0)), PO 121 (.ext (.s 0) 0), PO 122 (.ext (.s 1) 1), VS 26 27 1, VS 27 28 0]) (.seq (.region false [ PM 123 0, PO 124 (.call 17 [(.s 0)]), VS 28 29 0]) (.seq (.region false [ PM 125 28, PO 126 (.call 18
 [(.s 0)]), VS 29 30 0]) (.seq (.region false [ PM 128 29, PO 129 (.call 19 [(.s 0)]), PO 127 (.mov (.s 0)), PO 130 (.ext (.s 0) 0), PO 131 (.ext (.s 1) 1), VS 30 31 1, VS 31 32 0]) (.seq (.region false [ PM 132 0, PO 133 (.call 20 [(.s 0)]), VS 32 33 0]) (.seq (.region false [ PM 135 32, PO 136 (.call 19 [(.s 0)]), PO 134 (.mov (.s 0)), PO 137 (.ext (.s 0) 0), PO 138 (.ext (.s 1) 1), VS 33 34 1, VS 34 35 0]) (.seq (.region false [ PM 140 32, PO 141 (.call 21 [(.s 0)]), PO 139 (.mov (.s 0)), PO 142 (.ext (.s 0) 0), PO 143 (.ext (.s 1) 1), VS 35 36 1, VS 36 37 0]) (.seq (.region false [ PM 145
 0, PO 146 (.call 22 [(.s 0)]), PO 144 (.mov (.s 0)), PO 147 (.ext (.s 0) 0), PO 148 (.ext (.s 1) 1), VS 37 38 1, VS 38 39 0]) (.seq (.test false [ PM 149 6, PM 150 8, PO 151 (.bin false .neq (.s 1) (.s 0)), PO 152 (.mov (.s 0)), ⟨.push, 153, (some ((.s 0), false)), .mov (.v 5)⟩, ⟨.push, 154, (some ((.s 1), false)), .mov (.v 7)⟩, ⟨.push, 155, (some ((.s 2), false)), .call 23 [(.s 1), (.s 0)]⟩, ⟨.push, 156, (some ((.s 3), false)), .un .not (.s 0)⟩, PO 157 (.pick (.s 4) (.c (.bool true)) (.s 0)), PO 158 (.mov (.s 0)), ⟨.push, 159, (some ((.s 0), false)), .mov (.v 14)⟩, ⟨.push, 160, (some ((.s 1),
 false)), .mov (.v 16)⟩, ⟨.push, 161, (some ((.s 2), false)), .bin false .neq (.s 1) (.s 0)⟩, PO 162 (.pick (.s 3) (.c (.bool true)) (.s 0)), PO 163 (.mov (.s 0)), ⟨.push, 164, (some ((.s 0), false)), .mov (.v 13)⟩, ⟨.push, 165, (some ((.s 1), false)), .mov (.v 15)⟩, ⟨.push, 166, (some ((.s 2), false)), .call 23 [(.s 1), (.s 0)]⟩, ⟨.push, 167, (some ((.s 3), false)), .un .not (.s 0)⟩, PO 168 (.pick (.s 4) (.c (.bool true)) (.s 0)), PO 169 (.mov (.s 0)), ⟨.push, 170, (some ((.s 0), false)), .mov (.v 20)⟩, ⟨.push, 171, (some ((.s 1), false)), .mov (.v 22)⟩, ⟨.push, 172, (some ((.s 2), false)),
 .bin false .neq (.s 1) (.s 0)⟩, PO 173 (.pick (.s 3) (.c (.bool true)) (.s 0)), PO 174 (.mov (.s 0)), ⟨.push, 175, (some ((.s 0), false)), .mov (.v 19)⟩, ⟨.push, 176, (some ((.s 1), false)), .mov (.v 21)⟩, ⟨.push, 177, (some ((.s 2), false)), .call 23 [(.s 1), (.s 0)]⟩, ⟨.push, 178, (some ((.s 3), false)), .un .not (.s 0)⟩, PO 179 (.pick (.s 4) (.c (.bool true)) (.s 0)), PO 180 (.mov (.s 0)), ⟨.push, 181, (some ((.s 0), false)), .mov (.v 25)⟩, ⟨.push, 182, (some ((.s 1), false)), .mov (.v 27)⟩, ⟨.push, 183, (some ((.s 2), false)), .bin false .neq (.s 1) (.s 0)⟩, PO 184 (.pick (.s 3) (.c (.bool
 true)) (.s 0)), PO 185 (.mov (.s 0)), ⟨.push, 186, (some ((.s 0), false)), .mov (.v 24)⟩, ⟨.push, 187, (some ((.s 1), false)), .mov (.v 26)⟩, ⟨.push, 188, (some ((.s 2), false)), .bin false .neq (.s 1) (.s 0)⟩, PO 189 (.pick (.s 3) (.c (.bool true)) (.s 0)), PO 190 (.mov (.s 0)), ⟨.push, 191, (some ((.s 0), false)), .mov (.v 29)⟩, ⟨.push, 192, (some ((.s 1), false)), .mov (.v 28)⟩, ⟨.push, 193, (some ((.s 2), false)), .call 24 [(.s 0)]⟩, ⟨.push, 194, (some ((.s 3), false)), .bin false .neq (.s 2) (.s 0)⟩, PO 195 (.pick (.s 4) (.c (.bool true)) (.s 0)), PO 196 (.mov (.s 0)), ⟨.push, 197, (some
 ((.s 0), false)), .mov (.v 31)⟩, ⟨.push, 198, (some ((.s 1), false)), .un .not (.s 0)⟩, PO 199 (.pick (.s 2) (.c (.bool true)) (.s 0)), PO 200 (.mov (.s 0)), ⟨.push, 201, (some ((.s 0), false)), .mov (.v 29)⟩, ⟨.push, 202, (some ((.s 1), false)), .bin false .neq (.s 0) (.c (.str []))⟩, ⟨.push, 203, (some ((.s 2), false)), .mov (.s 0)⟩, ⟨.push, 204, (some ((.s 0), true)), .mov (.v 30)⟩, ⟨.push, 205, (some ((.s 1), true)), .mov (.v 28)⟩, ⟨.push, 206, (some ((.s 2), true)), .call 23 [(.s 1), (.s 0)]⟩, ⟨.push, 207, (some ((.s 3), true)), .un .not (.s 0)⟩, ⟨.push, 208, (some ((.s 7), false)), .pick
 (.s 4) (.s 0) (.c (.bool false))⟩, PO 209 (.pick (.s 8) (.c (.bool true)) (.s 0)), PO 210 (.mov (.s 0)), ⟨.push, 211, (some ((.s 0), false)), .mov (.v 34)⟩, ⟨.push, 212, (some ((.s 1), false)), .mov (.v 36)⟩, ⟨.push, 213, (some ((.s 2), false)), .bin true .neq (.s 1) (.s 0)⟩, PO 214 (.pick (.s 3) (.c (.bool true)) (.s 0)), PO 215 (.mov (.s 0)), ⟨.push, 216, (some ((.s 0), false)), .mov (.v 33)⟩, ⟨.push, 217, (some ((.s 1), false)), .mov (.v 35)⟩, ⟨.push, 218, (some ((.s 2), false)), .call 23 [(.s 1), (.s 0)]⟩, ⟨.push, 219, (some ((.s 3), false)), .un .not (.s 0)⟩, PO 220 (.pick (.s 4) (.c
 (.bool true)) (.s 0)), PO 221 (.mov (.s 0)), ⟨.push, 222, (some ((.s 0), false)), .mov (.v 37)⟩, ⟨.push, 223, (some ((.s 1), false)), .mov (.v 38)⟩, ⟨.push, 224, (some ((.s 2), false)), .call 25 [(.s 1), (.s 0)]⟩, ⟨.push, 225, (some ((.s 3), false)), .mov (.v 37)⟩, ⟨.push, 226, (some ((.s 4), false)), .mov (.v 38)⟩, ⟨.push, 227, (some ((.s 5), false)), .call 23 [(.s 1), (.s 0)]⟩, ⟨.push, 228, (some ((.s 6), false)), .bin true .neq (.s 3) (.s 0)⟩, PO 229 (.pick (.s 7) (.c (.bool true)) (.s 0)), PO 230 (.mov (.s 0)), ⟨.push, 231, (some ((.s 0), false)), .mov (.v 28)⟩, ⟨.push, 232, (some ((.s 1),
 false)), .call 26 [(.s 0)]⟩, ⟨.push, 233, (some ((.s 2), false)), .mov (.v 28)⟩, ⟨.push, 234, (some ((.s 3), false)), .call 27 [(.s 0)]⟩, ⟨.push, 235, (some ((.s 4), false)), .bin true .neq (.s 2) (.s 0)⟩, PO 236 (.pick (.s 5) (.c (.bool true)) (.s 0))] (.s 0) (.seq (.region false [ VO 1 2 (.mov (.c (.bool false)))]) (.ret)) (.skip)) (.seq (.test false [ PM 237 25, PO 238 (.bin false .eql (.s 0) (I6 0))] (.s 0) (.seq (.anyo 17 [ SO 0 240 (.mov (.v 23)), SO 1 241 (.mov (.v 23)), SO 2 242 (.mov (.v 26)), SO 3 243 (.ixAddr 2 (.s 1) (.s 2)), SO 4 244 (.fldAddr 1 (.s 3)), SO 5 245 (.load false 1
 (.s 4)), SO 6 246 (.mov (.v 23)), SO 7 247 (.mov (.v 26)), SO 8 248 (.ixAddr 2 (.s 6) (.s 7)), SO 9 249 (.fldAddr 0 (.s 8)), SO 10 250 (.load false 1 (.s 9)), SO 11 251 (.bin false .sub (.s 5) (.s 10)), SO 12 252 (.bin false .add (.s 11) (I6 1)), SO 13 253 (.call 12 [(.s 0), (.s 12)]), SO 14 239 (.mov (.s 13)), SO 15 254 (.ext (.s 14) 0), SO 16 255 (.ext (.s 14) 1), VS 39 40 15, VS 40 41 16] [] .skip) (.anyo 17 [ SO 0 256 (.mov (.v 40)), SO 1 257 (.bin false .neq (.s 0) (I6 0)), SO 2 258 (.mov (.s 1)), ⟨.slot 3, 259, (some ((.s 2), false)), .mov (.v 39)⟩, ⟨.slot 4, 260, (some ((.s 2), false)),
 .len false (.s 3)⟩, ⟨.slot 5, 261, (some ((.s 2), false)), .bin false .lss (.s 4) (I6 1)⟩, SO 6 262 (.pick (.s 2) (.c (.bool true)) (.s 5)), SO 7 263 (.mov (.s 6)), ⟨.slot 8, 264, (some ((.s 7), false)), .mov (.v 39)⟩, ⟨.slot 9, 265, (some ((.s 7), false)), .ixAddr 2 (.s 8) (I6 0)⟩, ⟨.slot 10, 266, (some ((.s 7), false)), .load true 2 (.s 9)⟩, ⟨.slot 11, 267, (some ((.s 7), false)), .mov (.v 23)⟩, ⟨.slot 12, 268, (some ((.s 7), false)), .mov (.v 26)⟩, ⟨.slot 13, 269, (some ((.s 7), false)), .ixAddr 2 (.s 11) (.s 12)⟩, ⟨.slot 14, 270, (some ((.s 7), false)), .load true 2 (.s 13)⟩, ⟨.slot 15,
 271, (some ((.s 7), false)), .eqA true [1, 1] (.s 10) (.s 14)⟩, SO 16 272 (.pick (.s 7) (.c (.bool true)) (.s 15))] [] (.cond (.s 16) (.seq (.region false [ VO 1 2 (.mov (.c (.bool false)))]) (.ret)) (.skip)))) (.skip)) (.seq (.test false [ PM 273 14, PO 274 (.bin false .eql (.s 0) (I6 0)), PO 275 (.mov (.s 0)), ⟨.push, 276, (some ((.s 0), true)), .mov (.v 13)⟩, ⟨.push, 277, (some ((.s 1), true)), .len false (.s 0)⟩, ⟨.push, 278, (some ((.s 2), true)), .mov (.v 10)⟩, ⟨.push, 279, (some ((.s 3), true)), .bin false .neq (.s 1) (.s 0)⟩, ⟨.push, 280, (some ((.s 4), true)), .mov (.s 0)⟩, ⟨.push,
 281, (some ((.s 0), false)), .mov (.v 13)⟩, ⟨.push, 282, (some ((.s 1), false)), .call 26 [(.s 0)]⟩, ⟨.push, 283, (some ((.s 2), false)), .un .not (.s 0)⟩, ⟨.push, 284, (some ((.s 8), true)), .pick (.s 3) (.c (.bool true)) (.s 0)⟩, PO 285 (.pick (.s 9) (.s 0) (.c (.bool false)))] (.s 0) (.seq (.region false [ VO 1 2 (.mov (.c (.bool false)))]) (.ret)) (.skip)) (.seq (.test false [ PM 286 6, PO 287 (.bin false .neq (.s 0) (I6 0))] (.s 0) (.seq (.region false [ VO 1 2 (.mov (.c (.bool true)))]) (.ret)) (.skip)) (.seq (.seq (.region false [ VO 41 42 (.mov (I6 0))]) (.block 0 (.loop PX PW
 PV Tk))) (.seq (.region false [ VO 1 2 (.mov (.c (.bool true)))]) (.ret))))))))))))))))))))))))))), [.t 1]⟩
noncomputable def Ak : List (Nat × Bf) := [(4, tB), (5, es), (6, eX), (7, eS), (8, eR), (9, eQ), (10, eP), (11, eO), (12, tC), (13, eN), (14, eM), (15, eL), (16, eK), (17, eJ), (18, ZI), (19, eF), (20, eC), (21, dw), (22, dt), (23, dq), (24, dp), (25, dl), (26, Xm), (27, dk), (28, df)]
theorem PR : Aa Ak 4 = some tB := rfl
theorem PQ : Aa Ak 5 = some es := rfl
theorem PP : Aa Ak 6 = some eX := rfl
theorem PN : Aa Ak 7 = some eS := rfl
theorem PL : Aa Ak 8 = some eR := rfl
theorem PK : Aa Ak 9 = some eQ := rfl
theorem Nk : Aa Ak 10 = some eP := rfl
theorem Nj : Aa Ak 11 = some eO := rfl
theorem Ni : Aa Ak 12 = some tC := rfl
theorem Nh : Aa Ak 13 = some eN := rfl
theorem Ng : Aa Ak 14 = some eM := rfl
theorem Nf : Aa Ak 15 = some eL := rfl
theorem Nd : Aa Ak 16 = some eK := rfl
theorem Nc : Aa Ak 17 = some eJ := rfl
theorem Na : Aa Ak 18 = some ZI := rfl
theorem NZ : Aa Ak 19 = some eF := rfl
theorem NY : Aa Ak 20 = some eC := rfl
theorem NX : Aa Ak 21 = some dw := rfl
theorem NW : Aa Ak 22 = some dt := rfl
theorem NV : Aa Ak 23 = some dq := rfl
theorem NU : Aa Ak 24 = some dp := rfl
theorem NT : Aa Ak 25 = some dl := rfl
theorem NS : Aa Ak 26 = some Xm := rfl
theorem NR : Aa Ak 27 = some dk := rfl
theorem NQ : Aa Ak 28 = some df := rfl
noncomputable def HZ : Bf := Gd Ak uU [.bor]
theorem Uq : Ad Tryz.prog 3 HZ := AY _ rfl (AI s_6 (AI s_14 (AI s_32 (AI s_39 (AI s_40 (AI s_41 (AI s_42 (AI s_43 (AI s_5 (AI s_44 (AI s_45 (AI s_46 (AI s_47 (AI s_48 (AI uC (AI s_57 (AI s_62 (AI s_66 (AI s_67 (AI s_69 (AI s_70 (AI s_72 (AI pd (AI s_73 (AI s_78 Ab))))))))))))))))))))))))) (by kernel_rfl : BF Tryz.prog 3 uU uT = true)
theorem Ly : HZ.modes = [.bor] := rfl
theorem Ul : HZ.flat = true := rfl
attribute [go_sem] Ly Ul PR PQ PP PN PL PK Nk Nj Ni Nh Ng Nf Nd Nc Na NZ NY NX NW NV NU NT NS NR NQ
def Ev (nights : List AA) (moon : List AA) (clouds : List AA) (model : List AA) : Int → St
 | i => ⟨[.any, .any, .sl 2 (List.map AB nights), .sl 2 (List.map AB moon), .sl 2 (List.map AB clouds), .any, .any, .own 3200000, .any, .any, .any, .any, .any, .any, .any, .any, .any, .any, .any, .any, .any, .any, .any, .any, .any, .any, .any, .any, .any, .any, .any, .any, .any, .any, .any, .any, .any, .any, .any, .any, .any, .int .i64 i, .any, .any, .any, .any, .any, .any], [], [(3200000, ⟨2, List.map AB model⟩)], true⟩
def Eu (nights : List AA) (moon : List AA) (clouds : List AA) (model : List AA) : (Unit ⊕ Bool) → FT
 | .inl y => (.exit 0, ⟨[.any, .any, .any, .any, .any, .any, .any, .any, .any, .any, .any, .any, .any, .any, .any, .any, .any, .any, .any, .any, .any, .any, .any, .any, .any, .any, .any, .any, .any, .any, .any, .any, .any, .any, .any, .any, .any, .any, .any, .any, .any, .any, .any, .any, .any, .any, .any, .any], [], [], true⟩)
 | .inr y => (.ret, ⟨[.any, .bool y, .any, .any, .any, .any, .any, .any, .any, .any, .any, .any, .any, .any, .any, .any, .any, .any, .any, .any, .any, .any, .any, .any, .any, .any, .any, .any, .any, .any, .any, .any, .any, .any, .any, .any, .any, .any, .any, .any, .any, .any, .any, .any, .any, .any, .any, .any], [], [], true⟩)
set_option maxHeartbeats 64000000 in
attribute [local go_sem] uU Ev Eu Tk PX PW PV in
theorem Fd {nights : List AA} {moon : List AA} {clouds : List AA} {model : List AA} {sgm_ : Int} {rho_ : Unit ⊕ Bool} (h : AJ (DA nights moon clouds model) sgm_ = some rho_) : ∃ L0, ∀ L, L0 ≤ L → Cg (BD (Aa Ak) L Tk) PX PW PV L (Ev nights moon clouds model sgm_) = Eu nights moon clouds model rho_ := by
 refine BJ (E := Ev nights moon clouds model) (R := Eu nights moon clouds model) (fun y => by first | (intro c; cases c) | (rcases y with y | y <;> (intro c; cases c)) | (rcases y with y | y | y <;> (intro c; cases c))) ?_ h
 clear h
 intro i o_ h
 dsimp only [DA] at h
 rcases AF h with ⟨z41, h⟩ | ⟨z41, h⟩
 ·try simp only [go_sem, n1, n2, n3, n4] at z41
  all_goals
  obtain ⟨z42, h⟩ := AD h
  have lz42 := BT z42
  have xz42 := AR AB model lz42
  try simp only [go_sem] at lz42
  try simp only [go_sem] at xz42
  try simp only [go_sem, n1, n2, n3, n4, z41] at z42
  all_goals
  obtain ⟨y_43, z43, h⟩ := AE h
  have fz43 := WC z43
  try simp only [go_sem, z41, z42] at fz43
  obtain ⟨y_44, z44, h⟩ := AE h
  have fz44 := WC z44
  try simp only [go_sem, z41, z42] at fz44
  obtain ⟨y_45, z45, h⟩ := AE h
  have fz45 := WC z45
  try simp only [go_sem, z41, z42] at fz45
  rcases AF h with ⟨z46, h⟩ | ⟨z46, h⟩
  all_goals
  try simp only [go_sem, n1, n2, n3, n4, z41, z42] at z46
  all_goals
  obtain rfl := AC h
  refine ⟨0, fun L hL => ?_⟩
  simp only [go_sem, z41, z42, lz42, xz42, fz43, fz44, fz45, z46]
 ·try simp only [go_sem, n1, n2, n3, n4] at z41
  all_goals
  obtain rfl := AC h
  refine ⟨0, fun L hL => ?_⟩
  simp only [go_sem, z41]
def GH (nights : List AA) (moon : List AA) (clouds : List AA) (model : List AA) : Int → St
 | i => ⟨[.any, .any, .sl 2 (List.map AB nights), .sl 2 (List.map AB moon), .sl 2 (List.map AB clouds), .any, .any, .own 3200000, .any, .any, .any, .any, .any, .any, .any, .any, .any, .any, .any, .any, .any, .any, .any, .any, .any, .any, .any, .any, .any, .any, .any, .any, .any, .any, .any, .any, .any, .any, .any, .any, .any, .int .i64 i, .any, .any, .any, .any, .any, .any], [], [(3200000, ⟨2, List.map AB model⟩)], true⟩
def GG (nights : List AA) (moon : List AA) (clouds : List AA) (model : List AA) : (Unit ⊕ Bool) → FT
 | .inl y => (.exit 0, ⟨[.any, .any, .any, .any, .any, .any, .any, .any, .any, .any, .any, .any, .any, .any, .any, .any, .any, .any, .any, .any, .any, .any, .any, .any, .any, .any, .any, .any, .any, .any, .any, .any, .any, .any, .any, .any, .any, .any, .any, .any, .any, .any, .any, .any, .any, .any, .any, .any], [], [], true⟩)
 | .inr y => (.ret, ⟨[.any, .bool y, .any, .any, .any, .any, .any, .any, .any, .any, .any, .any, .any, .any, .any, .any, .any, .any, .any, .any, .any, .any, .any, .any, .any, .any, .any, .any, .any, .any, .any, .any, .any, .any, .any, .any, .any, .any, .any, .any, .any, .any, .any, .any, .any, .any, .any, .any], [], [], true⟩)
set_option maxHeartbeats 64000000 in
attribute [local go_sem] uU GH GG Tk PX PW PV Ev Eu in
theorem Fb {nights : List AA} {moon : List AA} {clouds : List AA} {model : List AA} {sgm_ : Int} {rho_ : Unit ⊕ Bool} (h : AJ (Gs nights moon clouds model) sgm_ = some rho_) : ∃ L0, ∀ L, L0 ≤ L → Cg (BD (Aa Ak) L Tk) PX PW PV L (GH nights moon clouds model sgm_) = GG nights moon clouds model rho_ := by
 refine BJ (E := GH nights moon clouds model) (R := GG nights moon clouds model) (fun y => by first | (intro c; cases c) | (rcases y with y | y <;> (intro c; cases c)) | (rcases y with y | y | y <;> (intro c; cases c))) ?_ h
 clear h
 intro i o_ h
 dsimp only [Gs] at h
 rcases AF h with ⟨z51, h⟩ | ⟨z51, h⟩
 ·try simp only [go_sem, n1, n2, n3, n4] at z51
  all_goals
  obtain ⟨z52, h⟩ := AD h
  have lz52 := BT z52
  have xz52 := AR AB model lz52
  try simp only [go_sem] at lz52
  try simp only [go_sem] at xz52
  try simp only [go_sem, n1, n2, n3, n4, z51] at z52
  all_goals
  obtain ⟨y_53, z53, h⟩ := AE h
  have fz53 := WC z53
  try simp only [go_sem, z51, z52] at fz53
  obtain ⟨y_54, z54, h⟩ := AE h
  have fz54 := WC z54
  try simp only [go_sem, z51, z52] at fz54
  obtain ⟨y_55, z55, h⟩ := AE h
  have fz55 := WC z55
  try simp only [go_sem, z51, z52] at fz55
  rcases AF h with ⟨z56, h⟩ | ⟨z56, h⟩
  all_goals
  try simp only [go_sem, n1, n2, n3, n4, z51, z52] at z56
  all_goals
  obtain rfl := AC h
  refine ⟨0, fun L hL => ?_⟩
  simp only [go_sem, z51, z52, lz52, xz52, fz53, fz54, fz55, z56]
 ·try simp only [go_sem, n1, n2, n3, n4] at z51
  all_goals
  obtain rfl := AC h
  refine ⟨0, fun L hL => ?_⟩
  simp only [go_sem, z51]
set_option maxHeartbeats 64000000 in
attribute [local go_sem] uU Ev Eu PX PW PV GH GG in
theorem Uj {code : List UInt8} {y_ : Bool} (h : Im code = some y_) : HZ.F [.sl 1 (List.map Cc code)] = ⟨true, .bool y_, [.any]⟩ := by
 refine Br rfl ?_
 dsimp only [Im] at h
 obtain ⟨y_1, z1, h⟩ := AE h
 have fz1 := Fs_6 z1
 try simp only [go_sem] at fz1
 rcases AF h with ⟨z2, h⟩ | ⟨z2, h⟩
 ·try simp only [go_sem, n1, n2, n3, n4] at z2
  all_goals
  obtain rfl := AC h
  refine ⟨0, fun L hL => ?_⟩
  simp only [go_sem, fz1, z2]
 ·try simp only [go_sem, n1, n2, n3, n4] at z2
  all_goals
  obtain ⟨y_3, z3, h⟩ := AE h
  have fz3 := vO z3
  try simp only [go_sem, z2] at fz3
  obtain ⟨y_4, z4, h⟩ := AE h
  have fz4 := vF z4
  try simp only [go_sem, z2] at fz4
  obtain ⟨y_5, z5, h⟩ := AE h
  have fz5 := vE z5
  try simp only [go_sem, z2] at fz5
  obtain ⟨y_6, z6, h⟩ := AE h
  have fz6 := vD z6
  try simp only [go_sem, z2] at fz6
  obtain ⟨y_7, z7, h⟩ := AE h
  have fz7 := vC z7
  try simp only [go_sem, z2] at fz7
  obtain ⟨y_8, z8, h⟩ := AE h
  have fz8 := vB z8
  try simp only [go_sem, z2] at fz8
  obtain ⟨y_9, z9, h⟩ := AE h
  have fz9 := vA z9
  try simp only [go_sem, z2] at fz9
  obtain ⟨y_10, z10, h⟩ := AE h
  have fz10 := sY z10
  try simp only [go_sem, z2] at fz10
  obtain ⟨y_11, z11, h⟩ := AE h
  have fz11 := uz z11
  try simp only [go_sem, z2] at fz11
  obtain ⟨y_12, z12, h⟩ := AE h
  have fz12 := uy z12
  try simp only [go_sem, z2] at fz12
  obtain ⟨y_13, z13, h⟩ := AE h
  have fz13 := ux z13
  try simp only [go_sem, z2] at fz13
  obtain ⟨y_14, z14, h⟩ := AE h
  have fz14 := uw z14
  try simp only [go_sem, z2] at fz14
  obtain ⟨y_15, z15, h⟩ := AE h
  have fz15 := uv z15
  try simp only [go_sem, z2] at fz15
  obtain ⟨y_16, z16, h⟩ := AE h
  have fz16 := oZ z16
  try simp only [go_sem, z2] at fz16
  obtain ⟨y_17, z17, h⟩ := AE h
  have fz17 := oY z17
  try simp only [go_sem, z2] at fz17
  obtain ⟨y_18, z18, h⟩ := AE h
  have fz18 := uq z18
  try simp only [go_sem, z2] at fz18
  obtain ⟨y_19, z19, h⟩ := AE h
  have fz19 := oY z19
  try simp only [go_sem, z2] at fz19
  obtain ⟨y_20, z20, h⟩ := AE h
  have fz20 := uo z20
  try simp only [go_sem, z2] at fz20
  obtain ⟨y_21, z21, h⟩ := AE h
  have fz21 := um z21
  try simp only [go_sem, z2] at fz21
  obtain ⟨z22, h⟩ := AD h
  rcases Ay z22 with ⟨gz22, z22⟩ | gz22
  ·try simp only [go_sem, n1, n2, n3, n4, z2] at gz22
   all_goals
   obtain ⟨y_22, hz22⟩ := Option.isSome_iff_exists.1 z22
   have fz22 := QG hz22
   try simp only [go_sem, n1, n2, n3, n4, z2, gz22] at hz22
   all_goals
   try simp only [go_sem, z2, gz22] at fz22
   obtain ⟨z23, h⟩ := AD h
   rcases Ay z23 with ⟨gz23, z23⟩ | gz23
   ·try simp only [go_sem, n1, n2, n3, n4, z2, gz22, hz22] at gz23
    all_goals
    obtain ⟨y_23, hz23⟩ := Option.isSome_iff_exists.1 z23
    have fz23 := QG hz23
    try simp only [go_sem, n1, n2, n3, n4, z2, gz22, hz22, gz23] at hz23
    all_goals
    try simp only [go_sem, z2, gz22, hz22, gz23] at fz23
    obtain ⟨z24, h⟩ := AD h
    rcases Ay z24 with ⟨gz24, z24⟩ | gz24
    ·try simp only [go_sem, n1, n2, n3, n4, z2, gz22, hz22, gz23, hz23] at gz24
     all_goals
     obtain ⟨y_24, hz24⟩ := Option.isSome_iff_exists.1 z24
     have fz24 := QG hz24
     try simp only [go_sem, n1, n2, n3, n4, z2, gz22, hz22, gz23, hz23, gz24] at hz24
     all_goals
     try simp only [go_sem, z2, gz22, hz22, gz23, hz23, gz24] at fz24
     obtain ⟨z25, h⟩ := AD h
     rcases Ay z25 with ⟨gz25, z25⟩ | gz25
     ·try simp only [go_sem, n1, n2, n3, n4, z2, gz22, hz22, gz23, hz23, gz24, hz24] at gz25
      all_goals
      obtain ⟨y_25, hz25⟩ := Option.isSome_iff_exists.1 z25
      have fz25 := uk hz25
      try simp only [go_sem, n1, n2, n3, n4, z2, gz22, hz22, gz23, hz23, gz24, hz24, gz25] at hz25
      all_goals
      try simp only [go_sem, z2, gz22, hz22, gz23, hz23, gz24, hz24, gz25] at fz25
      obtain ⟨z26, h⟩ := AD h
      rcases Ay z26 with ⟨gz26, z26⟩ | gz26
      ·try simp only [go_sem, n1, n2, n3, n4, z2, gz22, hz22, gz23, hz23, gz24, hz24, gz25, hz25] at gz26
       all_goals
       obtain ⟨y_26, hz26⟩ := Option.isSome_iff_exists.1 z26
       have fz26 := QG hz26
       try simp only [go_sem, n1, n2, n3, n4, z2, gz22, hz22, gz23, hz23, gz24, hz24, gz25, hz25, gz26] at hz26
       all_goals
       try simp only [go_sem, z2, gz22, hz22, gz23, hz23, gz24, hz24, gz25, hz25, gz26] at fz26
       obtain ⟨z27, h⟩ := AD h
       rcases Ay z27 with ⟨gz27, z27⟩ | gz27
       ·try simp only [go_sem, n1, n2, n3, n4, z2, gz22, hz22, gz23, hz23, gz24, hz24, gz25, hz25, gz26, hz26] at gz27
        all_goals
        obtain ⟨y_27, hz27⟩ := Option.isSome_iff_exists.1 z27
        have fz27 := QG hz27
        try simp only [go_sem, n1, n2, n3, n4, z2, gz22, hz22, gz23, hz23, gz24, hz24, gz25, hz25, gz26, hz26, gz27] at hz27
        all_goals
        try simp only [go_sem, z2, gz22, hz22, gz23, hz23, gz24, hz24, gz25, hz25, gz26, hz26, gz27] at fz27
        obtain ⟨z28, h⟩ := AD h
        rcases Ay z28 with ⟨gz28, z28⟩ | gz28
        ·try simp only [go_sem, n1, n2, n3, n4, z2, gz22, hz22, gz23, hz23, gz24, hz24, gz25, hz25, gz26, hz26, gz27, hz27] at gz28
         all_goals
         obtain ⟨y_28, hz28⟩ := Option.isSome_iff_exists.1 z28
         have fz28 := oT hz28
         try simp only [go_sem, n1, n2, n3, n4, z2, gz22, hz22, gz23, hz23, gz24, hz24, gz25, hz25, gz26, hz26, gz27, hz27, gz28] at hz28
         all_goals
         try simp only [go_sem, z2, gz22, hz22, gz23, hz23, gz24, hz24, gz25, hz25, gz26, hz26, gz27, hz27, gz28] at fz28
         obtain ⟨z29, h⟩ := AD h
         rcases Ay z29 with ⟨gz29, z29⟩ | gz29
         ·try simp only [go_sem, n1, n2, n3, n4, z2, gz22, hz22, gz23, hz23, gz24, hz24, gz25, hz25, gz26, hz26, gz27, hz27, gz28, hz28] at gz29
          all_goals
          obtain ⟨y_29, hz29⟩ := Option.isSome_iff_exists.1 z29
          have fz29 := QG hz29
          try simp only [go_sem, n1, n2, n3, n4, z2, gz22, hz22, gz23, hz23, gz24, hz24, gz25, hz25, gz26, hz26, gz27, hz27, gz28, hz28, gz29] at hz29
          all_goals
          try simp only [go_sem, z2, gz22, hz22, gz23, hz23, gz24, hz24, gz25, hz25, gz26, hz26, gz27, hz27, gz28, hz28, gz29] at fz29
          obtain ⟨z30, h⟩ := AD h
          rcases Ay z30 with ⟨gz30, z30⟩ | gz30
          ·try simp only [go_sem, n1, n2, n3, n4, z2, gz22, hz22, gz23, hz23, gz24, hz24, gz25, hz25, gz26, hz26, gz27, hz27, gz28, hz28, gz29, hz29] at gz30
           all_goals
           obtain ⟨y_30, hz30⟩ := Option.isSome_iff_exists.1 z30
           have fz30 := Ok hz30
           try simp only [go_sem, n1, n2, n3, n4, z2, gz22, hz22, gz23, hz23, gz24, hz24, gz25, hz25, gz26, hz26, gz27, hz27, gz28, hz28, gz29, hz29, gz30] at hz30
           all_goals
           try simp only [go_sem, z2, gz22, hz22, gz23, hz23, gz24, hz24, gz25, hz25, gz26, hz26, gz27, hz27, gz28, hz28, gz29, hz29, gz30] at fz30
           obtain ⟨z31, h⟩ := AD h
           rcases Ay z31 with ⟨gz31, z31⟩ | gz31
           ·try simp only [go_sem, n1, n2, n3, n4, z2, gz22, hz22, gz23, hz23, gz24, hz24, gz25, hz25, gz26, hz26, gz27, hz27, gz28, hz28, gz29, hz29, gz30, hz30] at gz31
            all_goals
            obtain ⟨y_31, hz31⟩ := Option.isSome_iff_exists.1 z31
            have fz31 := oS hz31
            try simp only [go_sem, n1, n2, n3, n4, z2, gz22, hz22, gz23, hz23, gz24, hz24, gz25, hz25, gz26, hz26, gz27, hz27, gz28, hz28, gz29, hz29, gz30, hz30, gz31] at hz31
            all_goals
            try simp only [go_sem, z2, gz22, hz22, gz23, hz23, gz24, hz24, gz25, hz25, gz26, hz26, gz27, hz27, gz28, hz28, gz29, hz29, gz30, hz30, gz31] at fz31
            rcases AF h with ⟨z32, h⟩ | ⟨z32, h⟩
            ·try simp only [go_sem, n1, n2, n3, n4, z2, gz22, hz22, gz23, hz23, gz24, hz24, gz25, hz25, gz26, hz26, gz27, hz27, gz28, hz28, gz29, hz29, gz30, hz30, gz31, hz31] at z32
             all_goals
             obtain rfl := AC h
             refine ⟨0, fun L hL => ?_⟩
             simp only [go_sem, fz1, z2, fz3, fz4, fz5, fz6, fz7, fz8, fz9, fz10, fz11, fz12, fz13, fz14, fz15, fz16, fz17, fz18, fz19, fz20, fz21, gz22, hz22, fz22, gz23, hz23, fz23, gz24, hz24, fz24, gz25, hz25, fz25, gz26, hz26, fz26, gz27, hz27, fz27, gz28, hz28, fz28, gz29, hz29, fz29, gz30, hz30, fz30, gz31, hz31, fz31, z32]
            ·try simp only [go_sem, n1, n2, n3, n4, z2, gz22, hz22, gz23, hz23, gz24, hz24, gz25, hz25, gz26, hz26, gz27, hz27, gz28, hz28, gz29, hz29, gz30, hz30, gz31, hz31] at z32
             all_goals
             rcases AF h with ⟨z33, h⟩ | ⟨z33, h⟩
             ·try simp only [go_sem, n1, n2, n3, n4, z2, gz22, hz22, gz23, hz23, gz24, hz24, gz25, hz25, gz26, hz26, gz27, hz27, gz28, hz28, gz29, hz29, gz30, hz30, gz31, hz31, z32] at z33
              all_goals
              obtain ⟨z34, h⟩ := AD h
              have lz34 := BT z34
              have xz34 := AR AB y_12 lz34
              try simp only [go_sem] at lz34
              try simp only [go_sem] at xz34
              try simp only [go_sem, n1, n2, n3, n4, z2, gz22, hz22, gz23, hz23, gz24, hz24, gz25, hz25, gz26, hz26, gz27, hz27, gz28, hz28, gz29, hz29, gz30, hz30, gz31, hz31, z32, z33] at z34
              all_goals
              obtain ⟨y_35, z35, h⟩ := AE h
              have fz35 := sY z35
              try simp only [go_sem, z2, gz22, hz22, gz23, hz23, gz24, hz24, gz25, hz25, gz26, hz26, gz27, hz27, gz28, hz28, gz29, hz29, gz30, hz30, gz31, hz31, z32, z33, z34] at fz35
              obtain ⟨z36, h⟩ := AD h
              rcases Ay z36 with ⟨gz36, z36⟩ | gz36
              ·try simp only [go_sem, n1, n2, n3, n4, z2, gz22, hz22, gz23, hz23, gz24, hz24, gz25, hz25, gz26, hz26, gz27, hz27, gz28, hz28, gz29, hz29, gz30, hz30, gz31, hz31, z32, z33, z34] at gz36
               all_goals
               have lz36 := BT z36
               have xz36 := AR AB y_35.1 lz36
               try simp only [go_sem] at lz36
               try simp only [go_sem] at xz36
               try simp only [go_sem, n1, n2, n3, n4, z2, gz22, hz22, gz23, hz23, gz24, hz24, gz25, hz25, gz26, hz26, gz27, hz27, gz28, hz28, gz29, hz29, gz30, hz30, gz31, hz31, z32, z33, z34, gz36] at z36
               all_goals
               rcases AF h with ⟨z37, h⟩ | ⟨z37, h⟩
               ·try simp only [go_sem, n1, n2, n3, n4, z2, gz22, hz22, gz23, hz23, gz24, hz24, gz25, hz25, gz26, hz26, gz27, hz27, gz28, hz28, gz29, hz29, gz30, hz30, gz31, hz31, z32, z33, z34, gz36, z36] at z37
                all_goals
                obtain rfl := AC h
                refine ⟨0, fun L hL => ?_⟩
                simp only [go_sem, fz1, z2, fz3, fz4, fz5, fz6, fz7, fz8, fz9, fz10, fz11, fz12, fz13, fz14, fz15, fz16, fz17, fz18, fz19, fz20, fz21, gz22, hz22, fz22, gz23, hz23, fz23, gz24, hz24, fz24, gz25, hz25, fz25, gz26, hz26, fz26, gz27, hz27, fz27, gz28, hz28, fz28, gz29, hz29, fz29, gz30, hz30, fz30, gz31, hz31, fz31, z32, z33, z34, lz34, xz34, fz35, gz36, z36, lz36, xz36, z37]
               ·try simp only [go_sem, n1, n2, n3, n4, z2, gz22, hz22, gz23, hz23, gz24, hz24, gz25, hz25, gz26, hz26, gz27, hz27, gz28, hz28, gz29, hz29, gz30, hz30, gz31, hz31, z32, z33, z34, gz36, z36] at z37
                all_goals
                obtain ⟨z38, h⟩ := AD h
                rcases Ay z38 with ⟨gz38, z38⟩ | gz38
                ·try simp only [go_sem, n1, n2, n3, n4, z2, gz22, hz22, gz23, hz23, gz24, hz24, gz25, hz25, gz26, hz26, gz27, hz27, gz28, hz28, gz29, hz29, gz30, hz30, gz31, hz31, z32, z33, z34, gz36, z36, z37] at gz38
                 all_goals
                 obtain ⟨y_38, hz38⟩ := Option.isSome_iff_exists.1 z38
                 have fz38 := Ok hz38
                 try simp only [go_sem, n1, n2, n3, n4, z2, gz22, hz22, gz23, hz23, gz24, hz24, gz25, hz25, gz26, hz26, gz27, hz27, gz28, hz28, gz29, hz29, gz30, hz30, gz31, hz31, z32, z33, z34, gz36, z36, z37, gz38] at hz38
                 all_goals
                 try simp only [go_sem, z2, gz22, hz22, gz23, hz23, gz24, hz24, gz25, hz25, gz26, hz26, gz27, hz27, gz28, hz28, gz29, hz29, gz30, hz30, gz31, hz31, z32, z33, z34, gz36, z36, z37, gz38] at fz38
                 rcases AF h with ⟨z39, h⟩ | ⟨z39, h⟩
                 ·try simp only [go_sem, n1, n2, n3, n4, z2, gz22, hz22, gz23, hz23, gz24, hz24, gz25, hz25, gz26, hz26, gz27, hz27, gz28, hz28, gz29, hz29, gz30, hz30, gz31, hz31, z32, z33, z34, gz36, z36, z37, gz38, hz38] at z39
                  all_goals
                  obtain rfl := AC h
                  refine ⟨0, fun L hL => ?_⟩
                  simp only [go_sem, fz1, z2, fz3, fz4, fz5, fz6, fz7, fz8, fz9, fz10, fz11, fz12, fz13, fz14, fz15, fz16, fz17, fz18, fz19, fz20, fz21, gz22, hz22, fz22, gz23, hz23, fz23, gz24, hz24, fz24, gz25, hz25, fz25, gz26, hz26, fz26, gz27, hz27, fz27, gz28, hz28, fz28, gz29, hz29, fz29, gz30, hz30, fz30, gz31, hz31, fz31, z32, z33, z34, lz34, xz34, fz35, gz36, z36, lz36, xz36, z37, gz38, hz38, fz38, z39]
                 ·try simp only [go_sem, n1, n2, n3, n4, z2, gz22, hz22, gz23, hz23, gz24, hz24, gz25, hz25, gz26, hz26, gz27, hz27, gz28, hz28, gz29, hz29, gz30, hz30, gz31, hz31, z32, z33, z34, gz36, z36, z37, gz38, hz38] at z39
                  all_goals
                  rcases AF h with ⟨z40, h⟩ | ⟨z40, h⟩
                  ·try simp only [go_sem, n1, n2, n3, n4, z2, gz22, hz22, gz23, hz23, gz24, hz24, gz25, hz25, gz26, hz26, gz27, hz27, gz28, hz28, gz29, hz29, gz30, hz30, gz31, hz31, z32, z33, z34, gz36, z36, z37, gz38, hz38, z39] at z40
                   all_goals
                   obtain rfl := AC h
                   refine ⟨0, fun L hL => ?_⟩
                   simp only [go_sem, fz1, z2, fz3, fz4, fz5, fz6, fz7, fz8, fz9, fz10, fz11, fz12, fz13, fz14, fz15, fz16, fz17, fz18, fz19, fz20, fz21, gz22, hz22, fz22, gz23, hz23, fz23, gz24, hz24, fz24, gz25, hz25, fz25, gz26, hz26, fz26, gz27, hz27, fz27, gz28, hz28, fz28, gz29, hz29, fz29, gz30, hz30, fz30, gz31, hz31, fz31, z32, z33, z34, lz34, xz34, fz35, gz36, z36, lz36, xz36, z37, gz38, hz38, fz38, z39, z40]
                  ·try simp only [go_sem, n1, n2, n3, n4, z2, gz22, hz22, gz23, hz23, gz24, hz24, gz25, hz25, gz26, hz26, gz27, hz27, gz28, hz28, gz29, hz29, gz30, hz30, gz31, hz31, z32, z33, z34, gz36, z36, z37, gz38, hz38, z39] at z40
                   all_goals
                   obtain ⟨y_47, z47, h⟩ := AE h
                   obtain ⟨Lz47, ez47⟩ := Fd z47
                   rcases y_47 with y_47a | y_47b
                   all_goals
                   dsimp only at h
                   obtain rfl := AC h
                   refine ⟨Lz47, fun L hL => ?_⟩
                   have ez47 := ez47 L (by omega)
                   try simp only [go_sem, z2, gz22, hz22, gz23, hz23, gz24, hz24, gz25, hz25, gz26, hz26, gz27, hz27, gz28, hz28, gz29, hz29, gz30, hz30, gz31, hz31, z32, z33, z34, gz36, z36, z37, gz38, hz38, z39, z40] at ez47
                   simp only [go_sem, fz1, z2, fz3, fz4, fz5, fz6, fz7, fz8, fz9, fz10, fz11, fz12, fz13, fz14, fz15, fz16, fz17, fz18, fz19, fz20, fz21, gz22, hz22, fz22, gz23, hz23, fz23, gz24, hz24, fz24, gz25, hz25, fz25, gz26, hz26, fz26, gz27, hz27, fz27, gz28, hz28, fz28, gz29, hz29, fz29, gz30, hz30, fz30, gz31, hz31, fz31, z32, z33, z34, lz34, xz34, fz35, gz36, z36, lz36, xz36, z37, gz38, hz38, fz38, z39, z40, ez47]
                ·rcases Ud gz38 with gz38a | ⟨gz38a, gz38b⟩
                 ·try simp only [go_sem, n1, n2, n3, n4, z2, gz22, hz22, gz23, hz23, gz24, hz24, gz25, hz25, gz26, hz26, gz27, hz27, gz28, hz28, gz29, hz29, gz30, hz30, gz31, hz31, z32, z33, z34, gz36, z36, z37] at gz38a
                  all_goals
                  rcases AF h with ⟨z39, h⟩ | ⟨z39, h⟩
                  ·try simp only [go_sem, n1, n2, n3, n4, z2, gz22, hz22, gz23, hz23, gz24, hz24, gz25, hz25, gz26, hz26, gz27, hz27, gz28, hz28, gz29, hz29, gz30, hz30, gz31, hz31, z32, z33, z34, gz36, z36, z37, gz38a] at z39
                   all_goals
                   (simp_all)
                  ·try simp only [go_sem, n1, n2, n3, n4, z2, gz22, hz22, gz23, hz23, gz24, hz24, gz25, hz25, gz26, hz26, gz27, hz27, gz28, hz28, gz29, hz29, gz30, hz30, gz31, hz31, z32, z33, z34, gz36, z36, z37, gz38a] at z39
                   all_goals
                   rcases AF h with ⟨z40, h⟩ | ⟨z40, h⟩
                   ·try simp only [go_sem, n1, n2, n3, n4, z2, gz22, hz22, gz23, hz23, gz24, hz24, gz25, hz25, gz26, hz26, gz27, hz27, gz28, hz28, gz29, hz29, gz30, hz30, gz31, hz31, z32, z33, z34, gz36, z36, z37, gz38a, z39] at z40
                    all_goals
                    obtain rfl := AC h
                    refine ⟨0, fun L hL => ?_⟩
                    simp only [go_sem, fz1, z2, fz3, fz4, fz5, fz6, fz7, fz8, fz9, fz10, fz11, fz12, fz13, fz14, fz15, fz16, fz17, fz18, fz19, fz20, fz21, gz22, hz22, fz22, gz23, hz23, fz23, gz24, hz24, fz24, gz25, hz25, fz25, gz26, hz26, fz26, gz27, hz27, fz27, gz28, hz28, fz28, gz29, hz29, fz29, gz30, hz30, fz30, gz31, hz31, fz31, z32, z33, z34, lz34, xz34, fz35, gz36, z36, lz36, xz36, z37, gz38a, z39, z40]
                   ·try simp only [go_sem, n1, n2, n3, n4, z2, gz22, hz22, gz23, hz23, gz24, hz24, gz25, hz25, gz26, hz26, gz27, hz27, gz28, hz28, gz29, hz29, gz30, hz30, gz31, hz31, z32, z33, z34, gz36, z36, z37, gz38a, z39] at z40
                    all_goals
                    obtain ⟨y_47, z47, h⟩ := AE h
                    obtain ⟨Lz47, ez47⟩ := Fd z47
                    rcases y_47 with y_47a | y_47b
                    all_goals
                    dsimp only at h
                    obtain rfl := AC h
                    refine ⟨Lz47, fun L hL => ?_⟩
                    have ez47 := ez47 L (by omega)
                    try simp only [go_sem, z2, gz22, hz22, gz23, hz23, gz24, hz24, gz25, hz25, gz26, hz26, gz27, hz27, gz28, hz28, gz29, hz29, gz30, hz30, gz31, hz31, z32, z33, z34, gz36, z36, z37, gz38a, z39, z40] at ez47
                    simp only [go_sem, fz1, z2, fz3, fz4, fz5, fz6, fz7, fz8, fz9, fz10, fz11, fz12, fz13, fz14, fz15, fz16, fz17, fz18, fz19, fz20, fz21, gz22, hz22, fz22, gz23, hz23, fz23, gz24, hz24, fz24, gz25, hz25, fz25, gz26, hz26, fz26, gz27, hz27, fz27, gz28, hz28, fz28, gz29, hz29, fz29, gz30, hz30, fz30, gz31, hz31, fz31, z32, z33, z34, lz34, xz34, fz35, gz36, z36, lz36, xz36, z37, gz38a, z39, z40, ez47]
                 ·have gz38bn := BH gz38b
                  have gz38bnn := Fj gz38bn
                  try simp only [go_sem, n1, n2, n3, n4, z2, gz22, hz22, gz23, hz23, gz24, hz24, gz25, hz25, gz26, hz26, gz27, hz27, gz28, hz28, gz29, hz29, gz30, hz30, gz31, hz31, z32, z33, z34, gz36, z36, z37] at gz38a
                  all_goals
                  try simp only [go_sem, n1, n2, n3, n4, z2, gz22, hz22, gz23, hz23, gz24, hz24, gz25, hz25, gz26, hz26, gz27, hz27, gz28, hz28, gz29, hz29, gz30, hz30, gz31, hz31, z32, z33, z34, gz36, z36, z37, gz38a] at gz38bnn
                  all_goals
                  rcases AF h with ⟨z39, h⟩ | ⟨z39, h⟩
                  ·try simp only [go_sem, n1, n2, n3, n4, z2, gz22, hz22, gz23, hz23, gz24, hz24, gz25, hz25, gz26, hz26, gz27, hz27, gz28, hz28, gz29, hz29, gz30, hz30, gz31, hz31, z32, z33, z34, gz36, z36, z37, gz38a, gz38bnn] at z39
                   all_goals
                   obtain rfl := AC h
                   refine ⟨0, fun L hL => ?_⟩
                   simp only [go_sem, fz1, z2, fz3, fz4, fz5, fz6, fz7, fz8, fz9, fz10, fz11, fz12, fz13, fz14, fz15, fz16, fz17, fz18, fz19, fz20, fz21, gz22, hz22, fz22, gz23, hz23, fz23, gz24, hz24, fz24, gz25, hz25, fz25, gz26, hz26, fz26, gz27, hz27, fz27, gz28, hz28, fz28, gz29, hz29, fz29, gz30, hz30, fz30, gz31, hz31, fz31, z32, z33, z34, lz34, xz34, fz35, gz36, z36, lz36, xz36, z37, gz38a, gz38bnn, z39]
                  ·try simp only [go_sem, n1, n2, n3, n4, z2, gz22, hz22, gz23, hz23, gz24, hz24, gz25, hz25, gz26, hz26, gz27, hz27, gz28, hz28, gz29, hz29, gz30, hz30, gz31, hz31, z32, z33, z34, gz36, z36, z37, gz38a, gz38bnn] at z39
                   all_goals
                   (simp_all)
              ·have gz36n := BH gz36
               rcases JA gz36n with gz36na | ⟨gz36na, gz36nb⟩
               ·have gz36nan := Fj gz36na
                try simp only [go_sem, n1, n2, n3, n4, z2, gz22, hz22, gz23, hz23, gz24, hz24, gz25, hz25, gz26, hz26, gz27, hz27, gz28, hz28, gz29, hz29, gz30, hz30, gz31, hz31, z32, z33, z34] at gz36nan
                all_goals
                rcases AF h with ⟨z37, h⟩ | ⟨z37, h⟩
                ·try simp only [go_sem, n1, n2, n3, n4, z2, gz22, hz22, gz23, hz23, gz24, hz24, gz25, hz25, gz26, hz26, gz27, hz27, gz28, hz28, gz29, hz29, gz30, hz30, gz31, hz31, z32, z33, z34, gz36nan] at z37
                 all_goals
                 obtain rfl := AC h
                 refine ⟨0, fun L hL => ?_⟩
                 simp only [go_sem, fz1, z2, fz3, fz4, fz5, fz6, fz7, fz8, fz9, fz10, fz11, fz12, fz13, fz14, fz15, fz16, fz17, fz18, fz19, fz20, fz21, gz22, hz22, fz22, gz23, hz23, fz23, gz24, hz24, fz24, gz25, hz25, fz25, gz26, hz26, fz26, gz27, hz27, fz27, gz28, hz28, fz28, gz29, hz29, fz29, gz30, hz30, fz30, gz31, hz31, fz31, z32, z33, z34, lz34, xz34, fz35, gz36nan, z37]
                ·try simp only [go_sem, n1, n2, n3, n4, z2, gz22, hz22, gz23, hz23, gz24, hz24, gz25, hz25, gz26, hz26, gz27, hz27, gz28, hz28, gz29, hz29, gz30, hz30, gz31, hz31, z32, z33, z34, gz36nan] at z37
                 all_goals
                 (simp_all)
               ·have gz36nan := BH gz36na
                try simp only [go_sem, n1, n2, n3, n4, z2, gz22, hz22, gz23, hz23, gz24, hz24, gz25, hz25, gz26, hz26, gz27, hz27, gz28, hz28, gz29, hz29, gz30, hz30, gz31, hz31, z32, z33, z34] at gz36nan
                all_goals
                try simp only [go_sem, n1, n2, n3, n4, z2, gz22, hz22, gz23, hz23, gz24, hz24, gz25, hz25, gz26, hz26, gz27, hz27, gz28, hz28, gz29, hz29, gz30, hz30, gz31, hz31, z32, z33, z34, gz36nan] at gz36nb
                all_goals
                rcases AF h with ⟨z37, h⟩ | ⟨z37, h⟩
                ·try simp only [go_sem, n1, n2, n3, n4, z2, gz22, hz22, gz23, hz23, gz24, hz24, gz25, hz25, gz26, hz26, gz27, hz27, gz28, hz28, gz29, hz29, gz30, hz30, gz31, hz31, z32, z33, z34, gz36nan, gz36nb] at z37
                 all_goals
                 obtain rfl := AC h
                 refine ⟨0, fun L hL => ?_⟩
                 simp only [go_sem, fz1, z2, fz3, fz4, fz5, fz6, fz7, fz8, fz9, fz10, fz11, fz12, fz13, fz14, fz15, fz16, fz17, fz18, fz19, fz20, fz21, gz22, hz22, fz22, gz23, hz23, fz23, gz24, hz24, fz24, gz25, hz25, fz25, gz26, hz26, fz26, gz27, hz27, fz27, gz28, hz28, fz28, gz29, hz29, fz29, gz30, hz30, fz30, gz31, hz31, fz31, z32, z33, z34, lz34, xz34, fz35, gz36nan, gz36nb, z37]
                ·try simp only [go_sem, n1, n2, n3, n4, z2, gz22, hz22, gz23, hz23, gz24, hz24, gz25, hz25, gz26, hz26, gz27, hz27, gz28, hz28, gz29, hz29, gz30, hz30, gz31, hz31, z32, z33, z34, gz36nan, gz36nb] at z37
                 all_goals
                 (simp_all)
             ·try simp only [go_sem, n1, n2, n3, n4, z2, gz22, hz22, gz23, hz23, gz24, hz24, gz25, hz25, gz26, hz26, gz27, hz27, gz28, hz28, gz29, hz29, gz30, hz30, gz31, hz31, z32] at z33
              all_goals
              obtain ⟨z48, h⟩ := AD h
              rcases Ay z48 with ⟨gz48, z48⟩ | gz48
              ·try simp only [go_sem, n1, n2, n3, n4, z2, gz22, hz22, gz23, hz23, gz24, hz24, gz25, hz25, gz26, hz26, gz27, hz27, gz28, hz28, gz29, hz29, gz30, hz30, gz31, hz31, z32, z33] at gz48
               all_goals
               obtain ⟨y_48, hz48⟩ := Option.isSome_iff_exists.1 z48
               have fz48 := Ok hz48
               try simp only [go_sem, n1, n2, n3, n4, z2, gz22, hz22, gz23, hz23, gz24, hz24, gz25, hz25, gz26, hz26, gz27, hz27, gz28, hz28, gz29, hz29, gz30, hz30, gz31, hz31, z32, z33, gz48] at hz48
               all_goals
               try simp only [go_sem, z2, gz22, hz22, gz23, hz23, gz24, hz24, gz25, hz25, gz26, hz26, gz27, hz27, gz28, hz28, gz29, hz29, gz30, hz30, gz31, hz31, z32, z33, gz48] at fz48
               rcases AF h with ⟨z49, h⟩ | ⟨z49, h⟩
               ·try simp only [go_sem, n1, n2, n3, n4, z2, gz22, hz22, gz23, hz23, gz24, hz24, gz25, hz25, gz26, hz26, gz27, hz27, gz28, hz28, gz29, hz29, gz30, hz30, gz31, hz31, z32, z33, gz48, hz48] at z49
                all_goals
                obtain rfl := AC h
                refine ⟨0, fun L hL => ?_⟩
                simp only [go_sem, fz1, z2, fz3, fz4, fz5, fz6, fz7, fz8, fz9, fz10, fz11, fz12, fz13, fz14, fz15, fz16, fz17, fz18, fz19, fz20, fz21, gz22, hz22, fz22, gz23, hz23, fz23, gz24, hz24, fz24, gz25, hz25, fz25, gz26, hz26, fz26, gz27, hz27, fz27, gz28, hz28, fz28, gz29, hz29, fz29, gz30, hz30, fz30, gz31, hz31, fz31, z32, z33, gz48, hz48, fz48, z49]
               ·try simp only [go_sem, n1, n2, n3, n4, z2, gz22, hz22, gz23, hz23, gz24, hz24, gz25, hz25, gz26, hz26, gz27, hz27, gz28, hz28, gz29, hz29, gz30, hz30, gz31, hz31, z32, z33, gz48, hz48] at z49
                all_goals
                rcases AF h with ⟨z50, h⟩ | ⟨z50, h⟩
                ·try simp only [go_sem, n1, n2, n3, n4, z2, gz22, hz22, gz23, hz23, gz24, hz24, gz25, hz25, gz26, hz26, gz27, hz27, gz28, hz28, gz29, hz29, gz30, hz30, gz31, hz31, z32, z33, gz48, hz48, z49] at z50
                 all_goals
                 obtain rfl := AC h
                 refine ⟨0, fun L hL => ?_⟩
                 simp only [go_sem, fz1, z2, fz3, fz4, fz5, fz6, fz7, fz8, fz9, fz10, fz11, fz12, fz13, fz14, fz15, fz16, fz17, fz18, fz19, fz20, fz21, gz22, hz22, fz22, gz23, hz23, fz23, gz24, hz24, fz24, gz25, hz25, fz25, gz26, hz26, fz26, gz27, hz27, fz27, gz28, hz28, fz28, gz29, hz29, fz29, gz30, hz30, fz30, gz31, hz31, fz31, z32, z33, gz48, hz48, fz48, z49, z50]
                ·try simp only [go_sem, n1, n2, n3, n4, z2, gz22, hz22, gz23, hz23, gz24, hz24, gz25, hz25, gz26, hz26, gz27, hz27, gz28, hz28, gz29, hz29, gz30, hz30, gz31, hz31, z32, z33, gz48, hz48, z49] at z50
                 all_goals
                 obtain ⟨y_57, z57, h⟩ := AE h
                 obtain ⟨Lz57, ez57⟩ := Fb z57
                 rcases y_57 with y_57a | y_57b
                 all_goals
                 dsimp only at h
                 obtain rfl := AC h
                 refine ⟨Lz57, fun L hL => ?_⟩
                 have ez57 := ez57 L (by omega)
                 try simp only [go_sem, z2, gz22, hz22, gz23, hz23, gz24, hz24, gz25, hz25, gz26, hz26, gz27, hz27, gz28, hz28, gz29, hz29, gz30, hz30, gz31, hz31, z32, z33, gz48, hz48, z49, z50] at ez57
                 simp only [go_sem, fz1, z2, fz3, fz4, fz5, fz6, fz7, fz8, fz9, fz10, fz11, fz12, fz13, fz14, fz15, fz16, fz17, fz18, fz19, fz20, fz21, gz22, hz22, fz22, gz23, hz23, fz23, gz24, hz24, fz24, gz25, hz25, fz25, gz26, hz26, fz26, gz27, hz27, fz27, gz28, hz28, fz28, gz29, hz29, fz29, gz30, hz30, fz30, gz31, hz31, fz31, z32, z33, gz48, hz48, fz48, z49, z50, ez57]
              ·rcases Ud gz48 with gz48a | ⟨gz48a, gz48b⟩
               ·try simp only [go_sem, n1, n2, n3, n4, z2, gz22, hz22, gz23, hz23, gz24, hz24, gz25, hz25, gz26, hz26, gz27, hz27, gz28, hz28, gz29, hz29, gz30, hz30, gz31, hz31, z32, z33] at gz48a
                all_goals
                rcases AF h with ⟨z49, h⟩ | ⟨z49, h⟩
                ·try simp only [go_sem, n1, n2, n3, n4, z2, gz22, hz22, gz23, hz23, gz24, hz24, gz25, hz25, gz26, hz26, gz27, hz27, gz28, hz28, gz29, hz29, gz30, hz30, gz31, hz31, z32, z33, gz48a] at z49
                 all_goals
                 (simp_all)
                ·try simp only [go_sem, n1, n2, n3, n4, z2, gz22, hz22, gz23, hz23, gz24, hz24, gz25, hz25, gz26, hz26, gz27, hz27, gz28, hz28, gz29, hz29, gz30, hz30, gz31, hz31, z32, z33, gz48a] at z49
                 all_goals
                 rcases AF h with ⟨z50, h⟩ | ⟨z50, h⟩
                 ·try simp only [go_sem, n1, n2, n3, n4, z2, gz22, hz22, gz23, hz23, gz24, hz24, gz25, hz25, gz26, hz26, gz27, hz27, gz28, hz28, gz29, hz29, gz30, hz30, gz31, hz31, z32, z33, gz48a, z49] at z50
                  all_goals
                  obtain rfl := AC h
                  refine ⟨0, fun L hL => ?_⟩
                  simp only [go_sem, fz1, z2, fz3, fz4, fz5, fz6, fz7, fz8, fz9, fz10, fz11, fz12, fz13, fz14, fz15, fz16, fz17, fz18, fz19, fz20, fz21, gz22, hz22, fz22, gz23, hz23, fz23, gz24, hz24, fz24, gz25, hz25, fz25, gz26, hz26, fz26, gz27, hz27, fz27, gz28, hz28, fz28, gz29, hz29, fz29, gz30, hz30, fz30, gz31, hz31, fz31, z32, z33, gz48a, z49, z50]
                 ·try simp only [go_sem, n1, n2, n3, n4, z2, gz22, hz22, gz23, hz23, gz24, hz24, gz25, hz25, gz26, hz26, gz27, hz27, gz28, hz28, gz29, hz29, gz30, hz30, gz31, hz31, z32, z33, gz48a, z49] at z50
                  all_goals
                  obtain ⟨y_57, z57, h⟩ := AE h
                  obtain ⟨Lz57, ez57⟩ := Fb z57
                  rcases y_57 with y_57a | y_57b
                  all_goals
                  dsimp only at h
                  obtain rfl := AC h
                  refine ⟨Lz57, fun L hL => ?_⟩
                  have ez57 := ez57 L (by omega)
                  try simp only [go_sem, z2, gz22, hz22, gz23, hz23, gz24, hz24, gz25, hz25, gz26, hz26, gz27, hz27, gz28, hz28, gz29, hz29, gz30, hz30, gz31, hz31, z32, z33, gz48a, z49, z50] at ez57
                  simp only [go_sem, fz1, z2, fz3, fz4, fz5, fz6, fz7, fz8, fz9, fz10, fz11, fz12, fz13, fz14, fz15, fz16, fz17, fz18, fz19, fz20, fz21, gz22, hz22, fz22, gz23, hz23, fz23, gz24, hz24, fz24, gz25, hz25, fz25, gz26, hz26, fz26, gz27, hz27, fz27, gz28, hz28, fz28, gz29, hz29, fz29, gz30, hz30, fz30, gz31, hz31, fz31, z32, z33, gz48a, z49, z50, ez57]
               ·have gz48bn := BH gz48b
                have gz48bnn := Fj gz48bn
                try simp only [go_sem, n1, n2, n3, n4, z2, gz22, hz22, gz23, hz23, gz24, hz24, gz25, hz25, gz26, hz26, gz27, hz27, gz28, hz28, gz29, hz29, gz30, hz30, gz31, hz31, z32, z33] at gz48a
                all_goals
                try simp only [go_sem, n1, n2, n3, n4, z2, gz22, hz22, gz23, hz23, gz24, hz24, gz25, hz25, gz26, hz26, gz27, hz27, gz28, hz28, gz29, hz29, gz30, hz30, gz31, hz31, z32, z33, gz48a] at gz48bnn
                all_goals
                rcases AF h with ⟨z49, h⟩ | ⟨z49, h⟩
                ·try simp only [go_sem, n1, n2, n3, n4, z2, gz22, hz22, gz23, hz23, gz24, hz24, gz25, hz25, gz26, hz26, gz27, hz27, gz28, hz28, gz29, hz29, gz30, hz30, gz31, hz31, z32, z33, gz48a, gz48bnn] at z49
                 all_goals
                 obtain rfl := AC h
                 refine ⟨0, fun L hL => ?_⟩
                 simp only [go_sem, fz1, z2, fz3, fz4, fz5, fz6, fz7, fz8, fz9, fz10, fz11, fz12, fz13, fz14, fz15, fz16, fz17, fz18, fz19, fz20, fz21, gz22, hz22, fz22, gz23, hz23, fz23, gz24, hz24, fz24, gz25, hz25, fz25, gz26, hz26, fz26, gz27, hz27, fz27, gz28, hz28, fz28, gz29, hz29, fz29, gz30, hz30, fz30, gz31, hz31, fz31, z32, z33, gz48a, gz48bnn, z49]
                ·try simp only [go_sem, n1, n2, n3, n4, z2, gz22, hz22, gz23, hz23, gz24, hz24, gz25, hz25, gz26, hz26, gz27, hz27, gz28, hz28, gz29, hz29, gz30, hz30, gz31, hz31, z32, z33, gz48a, gz48bnn] at z49
                 all_goals
                 (simp_all)
           ·have gz31n := BH gz31
            try simp only [go_sem, n1, n2, n3, n4, z2, gz22, hz22, gz23, hz23, gz24, hz24, gz25, hz25, gz26, hz26, gz27, hz27, gz28, hz28, gz29, hz29, gz30, hz30] at gz31n
            all_goals
            rcases AF h with ⟨z32, h⟩ | ⟨z32, h⟩
            ·try simp only [go_sem, n1, n2, n3, n4, z2, gz22, hz22, gz23, hz23, gz24, hz24, gz25, hz25, gz26, hz26, gz27, hz27, gz28, hz28, gz29, hz29, gz30, hz30, gz31n] at z32
             all_goals
             obtain rfl := AC h
             refine ⟨0, fun L hL => ?_⟩
             simp only [go_sem, fz1, z2, fz3, fz4, fz5, fz6, fz7, fz8, fz9, fz10, fz11, fz12, fz13, fz14, fz15, fz16, fz17, fz18, fz19, fz20, fz21, gz22, hz22, fz22, gz23, hz23, fz23, gz24, hz24, fz24, gz25, hz25, fz25, gz26, hz26, fz26, gz27, hz27, fz27, gz28, hz28, fz28, gz29, hz29, fz29, gz30, hz30, fz30, gz31n, z32]
            ·try simp only [go_sem, n1, n2, n3, n4, z2, gz22, hz22, gz23, hz23, gz24, hz24, gz25, hz25, gz26, hz26, gz27, hz27, gz28, hz28, gz29, hz29, gz30, hz30, gz31n] at z32
             all_goals
             (simp_all)
          ·have gz30n := BH gz30
           try simp only [go_sem, n1, n2, n3, n4, z2, gz22, hz22, gz23, hz23, gz24, hz24, gz25, hz25, gz26, hz26, gz27, hz27, gz28, hz28, gz29, hz29] at gz30n
           all_goals
           obtain ⟨z31, h⟩ := AD h
           rcases AF h with ⟨z32, h⟩ | ⟨z32, h⟩
           ·try simp only [go_sem, n1, n2, n3, n4, z2, gz22, hz22, gz23, hz23, gz24, hz24, gz25, hz25, gz26, hz26, gz27, hz27, gz28, hz28, gz29, hz29, gz30n] at z32
            all_goals
            obtain rfl := AC h
            refine ⟨0, fun L hL => ?_⟩
            simp only [go_sem, fz1, z2, fz3, fz4, fz5, fz6, fz7, fz8, fz9, fz10, fz11, fz12, fz13, fz14, fz15, fz16, fz17, fz18, fz19, fz20, fz21, gz22, hz22, fz22, gz23, hz23, fz23, gz24, hz24, fz24, gz25, hz25, fz25, gz26, hz26, fz26, gz27, hz27, fz27, gz28, hz28, fz28, gz29, hz29, fz29, gz30n, z32]
           ·try simp only [go_sem, n1, n2, n3, n4, z2, gz22, hz22, gz23, hz23, gz24, hz24, gz25, hz25, gz26, hz26, gz27, hz27, gz28, hz28, gz29, hz29, gz30n] at z32
            all_goals
            (simp_all)
         ·have gz29n := BH gz29
          try simp only [go_sem, n1, n2, n3, n4, z2, gz22, hz22, gz23, hz23, gz24, hz24, gz25, hz25, gz26, hz26, gz27, hz27, gz28, hz28] at gz29n
          all_goals
          obtain ⟨z30, h⟩ := AD h
          obtain ⟨z31, h⟩ := AD h
          rcases AF h with ⟨z32, h⟩ | ⟨z32, h⟩
          ·try simp only [go_sem, n1, n2, n3, n4, z2, gz22, hz22, gz23, hz23, gz24, hz24, gz25, hz25, gz26, hz26, gz27, hz27, gz28, hz28, gz29n] at z32
           all_goals
           obtain rfl := AC h
           refine ⟨0, fun L hL => ?_⟩
           simp only [go_sem, fz1, z2, fz3, fz4, fz5, fz6, fz7, fz8, fz9, fz10, fz11, fz12, fz13, fz14, fz15, fz16, fz17, fz18, fz19, fz20, fz21, gz22, hz22, fz22, gz23, hz23, fz23, gz24, hz24, fz24, gz25, hz25, fz25, gz26, hz26, fz26, gz27, hz27, fz27, gz28, hz28, fz28, gz29n, z32]
          ·try simp only [go_sem, n1, n2, n3, n4, z2, gz22, hz22, gz23, hz23, gz24, hz24, gz25, hz25, gz26, hz26, gz27, hz27, gz28, hz28, gz29n] at z32
           all_goals
           (simp_all)
        ·have gz28n := BH gz28
         try simp only [go_sem, n1, n2, n3, n4, z2, gz22, hz22, gz23, hz23, gz24, hz24, gz25, hz25, gz26, hz26, gz27, hz27] at gz28n
         all_goals
         obtain ⟨z29, h⟩ := AD h
         obtain ⟨z30, h⟩ := AD h
         obtain ⟨z31, h⟩ := AD h
         rcases AF h with ⟨z32, h⟩ | ⟨z32, h⟩
         ·try simp only [go_sem, n1, n2, n3, n4, z2, gz22, hz22, gz23, hz23, gz24, hz24, gz25, hz25, gz26, hz26, gz27, hz27, gz28n] at z32
          all_goals
          obtain rfl := AC h
          refine ⟨0, fun L hL => ?_⟩
          simp only [go_sem, fz1, z2, fz3, fz4, fz5, fz6, fz7, fz8, fz9, fz10, fz11, fz12, fz13, fz14, fz15, fz16, fz17, fz18, fz19, fz20, fz21, gz22, hz22, fz22, gz23, hz23, fz23, gz24, hz24, fz24, gz25, hz25, fz25, gz26, hz26, fz26, gz27, hz27, fz27, gz28n, z32]
         ·try simp only [go_sem, n1, n2, n3, n4, z2, gz22, hz22, gz23, hz23, gz24, hz24, gz25, hz25, gz26, hz26, gz27, hz27, gz28n] at z32
          all_goals
          (simp_all)
       ·have gz27n := BH gz27
        try simp only [go_sem, n1, n2, n3, n4, z2, gz22, hz22, gz23, hz23, gz24, hz24, gz25, hz25, gz26, hz26] at gz27n
        all_goals
        obtain ⟨z28, h⟩ := AD h
        obtain ⟨z29, h⟩ := AD h
        obtain ⟨z30, h⟩ := AD h
        obtain ⟨z31, h⟩ := AD h
        rcases AF h with ⟨z32, h⟩ | ⟨z32, h⟩
        ·try simp only [go_sem, n1, n2, n3, n4, z2, gz22, hz22, gz23, hz23, gz24, hz24, gz25, hz25, gz26, hz26, gz27n] at z32
         all_goals
         obtain rfl := AC h
         refine ⟨0, fun L hL => ?_⟩
         simp only [go_sem, fz1, z2, fz3, fz4, fz5, fz6, fz7, fz8, fz9, fz10, fz11, fz12, fz13, fz14, fz15, fz16, fz17, fz18, fz19, fz20, fz21, gz22, hz22, fz22, gz23, hz23, fz23, gz24, hz24, fz24, gz25, hz25, fz25, gz26, hz26, fz26, gz27n, z32]
        ·try simp only [go_sem, n1, n2, n3, n4, z2, gz22, hz22, gz23, hz23, gz24, hz24, gz25, hz25, gz26, hz26, gz27n] at z32
         all_goals
         (simp_all)
      ·rcases Ud gz26 with gz26a | ⟨gz26a, gz26b⟩
       ·have gz26an := BH gz26a
        rcases JA gz26an with gz26ana | ⟨gz26ana, gz26anb⟩
        ·rcases JA gz26ana with gz26anaa | ⟨gz26anaa, gz26anab⟩
         ·try simp only [go_sem, n1, n2, n3, n4, z2, gz22, hz22, gz23, hz23, gz24, hz24, gz25, hz25] at gz26anaa
          all_goals
          (simp_all)
         ·obtain ⟨gz26anaaa, gz26anaab⟩ := Dh gz26anaa
          obtain ⟨gz26anaaaa, gz26anaaab⟩ := Dh gz26anaaa
          obtain ⟨gz26anaaaaa, gz26anaaaab⟩ := Dh gz26anaaaa
          obtain ⟨gz26anaaaaaa, gz26anaaaaab⟩ := Dh gz26anaaaaa
          obtain ⟨gz26anaaaaaaa, gz26anaaaaaab⟩ := Dh gz26anaaaaaa
          obtain ⟨gz26anaaaaaaaa, gz26anaaaaaaab⟩ := Dh gz26anaaaaaaa
          obtain ⟨gz26anaaaaaaaaa, gz26anaaaaaaaab⟩ := Dh gz26anaaaaaaaa
          have gz26anaaaaaaaaan := BH gz26anaaaaaaaaa
          have gz26anaaaaaaaabn := BH gz26anaaaaaaaab
          have gz26anaaaaaaabn := BH gz26anaaaaaaab
          have gz26anaaaaaabn := BH gz26anaaaaaab
          have gz26anaaaaabn := BH gz26anaaaaab
          have gz26anaaaabn := BH gz26anaaaab
          have gz26anaaabn := BH gz26anaaab
          have gz26anaabn := BH gz26anaab
          have gz26anabn := Fj gz26anab
          try simp only [go_sem, n1, n2, n3, n4, z2, gz22, hz22, gz23, hz23, gz24, hz24, gz25, hz25] at gz26anaaaaaaaaan
          all_goals
          try simp only [go_sem, n1, n2, n3, n4, z2, gz22, hz22, gz23, hz23, gz24, hz24, gz25, hz25, gz26anaaaaaaaaan] at gz26anaaaaaaaabn
          all_goals
          try simp only [go_sem, n1, n2, n3, n4, z2, gz22, hz22, gz23, hz23, gz24, hz24, gz25, hz25, gz26anaaaaaaaaan, gz26anaaaaaaaabn] at gz26anaaaaaaabn
          all_goals
          try simp only [go_sem, n1, n2, n3, n4, z2, gz22, hz22, gz23, hz23, gz24, hz24, gz25, hz25, gz26anaaaaaaaaan, gz26anaaaaaaaabn, gz26anaaaaaaabn] at gz26anaaaaaabn
          all_goals
          try simp only [go_sem, n1, n2, n3, n4, z2, gz22, hz22, gz23, hz23, gz24, hz24, gz25, hz25, gz26anaaaaaaaaan, gz26anaaaaaaaabn, gz26anaaaaaaabn, gz26anaaaaaabn] at gz26anaaaaabn
          all_goals
          try simp only [go_sem, n1, n2, n3, n4, z2, gz22, hz22, gz23, hz23, gz24, hz24, gz25, hz25, gz26anaaaaaaaaan, gz26anaaaaaaaabn, gz26anaaaaaaabn, gz26anaaaaaabn, gz26anaaaaabn] at gz26anaaaabn
          all_goals
          try simp only [go_sem, n1, n2, n3, n4, z2, gz22, hz22, gz23, hz23, gz24, hz24, gz25, hz25, gz26anaaaaaaaaan, gz26anaaaaaaaabn, gz26anaaaaaaabn, gz26anaaaaaabn, gz26anaaaaabn, gz26anaaaabn] at gz26anaaabn
          all_goals
          try simp only [go_sem, n1, n2, n3, n4, z2, gz22, hz22, gz23, hz23, gz24, hz24, gz25, hz25, gz26anaaaaaaaaan, gz26anaaaaaaaabn, gz26anaaaaaaabn, gz26anaaaaaabn, gz26anaaaaabn, gz26anaaaabn, gz26anaaabn] at gz26anaabn
          all_goals
          try simp only [go_sem, n1, n2, n3, n4, z2, gz22, hz22, gz23, hz23, gz24, hz24, gz25, hz25, gz26anaaaaaaaaan, gz26anaaaaaaaabn, gz26anaaaaaaabn, gz26anaaaaaabn, gz26anaaaaabn, gz26anaaaabn, gz26anaaabn, gz26anaabn] at gz26anabn
          all_goals
          obtain ⟨z27, h⟩ := AD h
          obtain ⟨z28, h⟩ := AD h
          obtain ⟨z29, h⟩ := AD h
          obtain ⟨z30, h⟩ := AD h
          obtain ⟨z31, h⟩ := AD h
          rcases AF h with ⟨z32, h⟩ | ⟨z32, h⟩
          ·try simp only [go_sem, n1, n2, n3, n4, z2, gz22, hz22, gz23, hz23, gz24, hz24, gz25, hz25, gz26anaaaaaaaaan, gz26anaaaaaaaabn, gz26anaaaaaaabn, gz26anaaaaaabn, gz26anaaaaabn, gz26anaaaabn, gz26anaaabn, gz26anaabn, gz26anabn] at z32
           all_goals
           obtain rfl := AC h
           refine ⟨0, fun L hL => ?_⟩
           simp only [go_sem, fz1, z2, fz3, fz4, fz5, fz6, fz7, fz8, fz9, fz10, fz11, fz12, fz13, fz14, fz15, fz16, fz17, fz18, fz19, fz20, fz21, gz22, hz22, fz22, gz23, hz23, fz23, gz24, hz24, fz24, gz25, hz25, fz25, gz26anaaaaaaaaan, gz26anaaaaaaaabn, gz26anaaaaaaabn, gz26anaaaaaabn, gz26anaaaaabn, gz26anaaaabn, gz26anaaabn, gz26anaabn, gz26anabn, z32]
          ·try simp only [go_sem, n1, n2, n3, n4, z2, gz22, hz22, gz23, hz23, gz24, hz24, gz25, hz25, gz26anaaaaaaaaan, gz26anaaaaaaaabn, gz26anaaaaaaabn, gz26anaaaaaabn, gz26anaaaaabn, gz26anaaaabn, gz26anaaabn, gz26anaabn, gz26anabn] at z32
           all_goals
           (simp_all)
        ·obtain ⟨gz26anaa, gz26anab⟩ := Dh gz26ana
         obtain ⟨gz26anaaa, gz26anaab⟩ := Dh gz26anaa
         obtain ⟨gz26anaaaa, gz26anaaab⟩ := Dh gz26anaaa
         obtain ⟨gz26anaaaaa, gz26anaaaab⟩ := Dh gz26anaaaa
         obtain ⟨gz26anaaaaaa, gz26anaaaaab⟩ := Dh gz26anaaaaa
         obtain ⟨gz26anaaaaaaa, gz26anaaaaaab⟩ := Dh gz26anaaaaaa
         obtain ⟨gz26anaaaaaaaa, gz26anaaaaaaab⟩ := Dh gz26anaaaaaaa
         obtain ⟨gz26anaaaaaaaaa, gz26anaaaaaaaab⟩ := Dh gz26anaaaaaaaa
         have gz26anaaaaaaaaan := BH gz26anaaaaaaaaa
         have gz26anaaaaaaaabn := BH gz26anaaaaaaaab
         have gz26anaaaaaaabn := BH gz26anaaaaaaab
         have gz26anaaaaaabn := BH gz26anaaaaaab
         have gz26anaaaaabn := BH gz26anaaaaab
         have gz26anaaaabn := BH gz26anaaaab
         have gz26anaaabn := BH gz26anaaab
         have gz26anaabn := BH gz26anaab
         have gz26anabn := BH gz26anab
         have gz26anbn := Fj gz26anb
         try simp only [go_sem, n1, n2, n3, n4, z2, gz22, hz22, gz23, hz23, gz24, hz24, gz25, hz25] at gz26anaaaaaaaaan
         all_goals
         try simp only [go_sem, n1, n2, n3, n4, z2, gz22, hz22, gz23, hz23, gz24, hz24, gz25, hz25, gz26anaaaaaaaaan] at gz26anaaaaaaaabn
         all_goals
         try simp only [go_sem, n1, n2, n3, n4, z2, gz22, hz22, gz23, hz23, gz24, hz24, gz25, hz25, gz26anaaaaaaaaan, gz26anaaaaaaaabn] at gz26anaaaaaaabn
         all_goals
         try simp only [go_sem, n1, n2, n3, n4, z2, gz22, hz22, gz23, hz23, gz24, hz24, gz25, hz25, gz26anaaaaaaaaan, gz26anaaaaaaaabn, gz26anaaaaaaabn] at gz26anaaaaaabn
         all_goals
         try simp only [go_sem, n1, n2, n3, n4, z2, gz22, hz22, gz23, hz23, gz24, hz24, gz25, hz25, gz26anaaaaaaaaan, gz26anaaaaaaaabn, gz26anaaaaaaabn, gz26anaaaaaabn] at gz26anaaaaabn
         all_goals
         try simp only [go_sem, n1, n2, n3, n4, z2, gz22, hz22, gz23, hz23, gz24, hz24, gz25, hz25, gz26anaaaaaaaaan, gz26anaaaaaaaabn, gz26anaaaaaaabn, gz26anaaaaaabn, gz26anaaaaabn] at gz26anaaaabn
         all_goals
         try simp only [go_sem, n1, n2, n3, n4, z2, gz22, hz22, gz23, hz23, gz24, hz24, gz25, hz25, gz26anaaaaaaaaan, gz26anaaaaaaaabn, gz26anaaaaaaabn, gz26anaaaaaabn, gz26anaaaaabn, gz26anaaaabn] at gz26anaaabn
         all_goals
         try simp only [go_sem, n1, n2, n3, n4, z2, gz22, hz22, gz23, hz23, gz24, hz24, gz25, hz25, gz26anaaaaaaaaan, gz26anaaaaaaaabn, gz26anaaaaaaabn, gz26anaaaaaabn, gz26anaaaaabn, gz26anaaaabn, gz26anaaabn] at gz26anaabn
         all_goals
         try simp only [go_sem, n1, n2, n3, n4, z2, gz22, hz22, gz23, hz23, gz24, hz24, gz25, hz25, gz26anaaaaaaaaan, gz26anaaaaaaaabn, gz26anaaaaaaabn, gz26anaaaaaabn, gz26anaaaaabn, gz26anaaaabn, gz26anaaabn, gz26anaabn] at gz26anabn
         all_goals
         try simp only [go_sem, n1, n2, n3, n4, z2, gz22, hz22, gz23, hz23, gz24, hz24, gz25, hz25, gz26anaaaaaaaaan, gz26anaaaaaaaabn, gz26anaaaaaaabn, gz26anaaaaaabn, gz26anaaaaabn, gz26anaaaabn, gz26anaaabn, gz26anaabn, gz26anabn] at gz26anbn
         all_goals
         obtain ⟨z27, h⟩ := AD h
         obtain ⟨z28, h⟩ := AD h
         obtain ⟨z29, h⟩ := AD h
         obtain ⟨z30, h⟩ := AD h
         obtain ⟨z31, h⟩ := AD h
         rcases AF h with ⟨z32, h⟩ | ⟨z32, h⟩
         ·try simp only [go_sem, n1, n2, n3, n4, z2, gz22, hz22, gz23, hz23, gz24, hz24, gz25, hz25, gz26anaaaaaaaaan, gz26anaaaaaaaabn, gz26anaaaaaaabn, gz26anaaaaaabn, gz26anaaaaabn, gz26anaaaabn, gz26anaaabn, gz26anaabn, gz26anabn, gz26anbn] at z32
          all_goals
          obtain rfl := AC h
          refine ⟨0, fun L hL => ?_⟩
          simp only [go_sem, fz1, z2, fz3, fz4, fz5, fz6, fz7, fz8, fz9, fz10, fz11, fz12, fz13, fz14, fz15, fz16, fz17, fz18, fz19, fz20, fz21, gz22, hz22, fz22, gz23, hz23, fz23, gz24, hz24, fz24, gz25, hz25, fz25, gz26anaaaaaaaaan, gz26anaaaaaaaabn, gz26anaaaaaaabn, gz26anaaaaaabn, gz26anaaaaabn, gz26anaaaabn, gz26anaaabn, gz26anaabn, gz26anabn, gz26anbn, z32]
         ·try simp only [go_sem, n1, n2, n3, n4, z2, gz22, hz22, gz23, hz23, gz24, hz24, gz25, hz25, gz26anaaaaaaaaan, gz26anaaaaaaaabn, gz26anaaaaaaabn, gz26anaaaaaabn, gz26anaaaaabn, gz26anaaaabn, gz26anaaabn, gz26anaabn, gz26anabn, gz26anbn] at z32
          all_goals
          (simp_all)
       ·have gz26an := Fj gz26a
        obtain ⟨gz26ana, gz26anb⟩ := Dh gz26an
        obtain ⟨gz26anaa, gz26anab⟩ := Dh gz26ana
        obtain ⟨gz26anaaa, gz26anaab⟩ := Dh gz26anaa
        obtain ⟨gz26anaaaa, gz26anaaab⟩ := Dh gz26anaaa
        obtain ⟨gz26anaaaaa, gz26anaaaab⟩ := Dh gz26anaaaa
        obtain ⟨gz26anaaaaaa, gz26anaaaaab⟩ := Dh gz26anaaaaa
        obtain ⟨gz26anaaaaaaa, gz26anaaaaaab⟩ := Dh gz26anaaaaaa
        obtain ⟨gz26anaaaaaaaa, gz26anaaaaaaab⟩ := Dh gz26anaaaaaaa
        obtain ⟨gz26anaaaaaaaaa, gz26anaaaaaaaab⟩ := Dh gz26anaaaaaaaa
        have gz26anaaaaaaaaan := BH gz26anaaaaaaaaa
        have gz26anaaaaaaaabn := BH gz26anaaaaaaaab
        have gz26anaaaaaaabn := BH gz26anaaaaaaab
        have gz26anaaaaaabn := BH gz26anaaaaaab
        have gz26anaaaaabn := BH gz26anaaaaab
        have gz26anaaaabn := BH gz26anaaaab
        have gz26anaaabn := BH gz26anaaab
        have gz26anaabn := BH gz26anaab
        have gz26anabn := BH gz26anab
        have gz26anbn := BH gz26anb
        have gz26bn := BH gz26b
        try simp only [go_sem, n1, n2, n3, n4, z2, gz22, hz22, gz23, hz23, gz24, hz24, gz25, hz25] at gz26anaaaaaaaaan
        all_goals
        try simp only [go_sem, n1, n2, n3, n4, z2, gz22, hz22, gz23, hz23, gz24, hz24, gz25, hz25, gz26anaaaaaaaaan] at gz26anaaaaaaaabn
        all_goals
        try simp only [go_sem, n1, n2, n3, n4, z2, gz22, hz22, gz23, hz23, gz24, hz24, gz25, hz25, gz26anaaaaaaaaan, gz26anaaaaaaaabn] at gz26anaaaaaaabn
        all_goals
        try simp only [go_sem, n1, n2, n3, n4, z2, gz22, hz22, gz23, hz23, gz24, hz24, gz25, hz25, gz26anaaaaaaaaan, gz26anaaaaaaaabn, gz26anaaaaaaabn] at gz26anaaaaaabn
        all_goals
        try simp only [go_sem, n1, n2, n3, n4, z2, gz22, hz22, gz23, hz23, gz24, hz24, gz25, hz25, gz26anaaaaaaaaan, gz26anaaaaaaaabn, gz26anaaaaaaabn, gz26anaaaaaabn] at gz26anaaaaabn
        all_goals
        try simp only [go_sem, n1, n2, n3, n4, z2, gz22, hz22, gz23, hz23, gz24, hz24, gz25, hz25, gz26anaaaaaaaaan, gz26anaaaaaaaabn, gz26anaaaaaaabn, gz26anaaaaaabn, gz26anaaaaabn] at gz26anaaaabn
        all_goals
        try simp only [go_sem, n1, n2, n3, n4, z2, gz22, hz22, gz23, hz23, gz24, hz24, gz25, hz25, gz26anaaaaaaaaan, gz26anaaaaaaaabn, gz26anaaaaaaabn, gz26anaaaaaabn, gz26anaaaaabn, gz26anaaaabn] at gz26anaaabn
        all_goals
        try simp only [go_sem, n1, n2, n3, n4, z2, gz22, hz22, gz23, hz23, gz24, hz24, gz25, hz25, gz26anaaaaaaaaan, gz26anaaaaaaaabn, gz26anaaaaaaabn, gz26anaaaaaabn, gz26anaaaaabn, gz26anaaaabn, gz26anaaabn] at gz26anaabn
        all_goals
        try simp only [go_sem, n1, n2, n3, n4, z2, gz22, hz22, gz23, hz23, gz24, hz24, gz25, hz25, gz26anaaaaaaaaan, gz26anaaaaaaaabn, gz26anaaaaaaabn, gz26anaaaaaabn, gz26anaaaaabn, gz26anaaaabn, gz26anaaabn, gz26anaabn] at gz26anabn
        all_goals
        try simp only [go_sem, n1, n2, n3, n4, z2, gz22, hz22, gz23, hz23, gz24, hz24, gz25, hz25, gz26anaaaaaaaaan, gz26anaaaaaaaabn, gz26anaaaaaaabn, gz26anaaaaaabn, gz26anaaaaabn, gz26anaaaabn, gz26anaaabn, gz26anaabn, gz26anabn] at gz26anbn
        all_goals
        try simp only [go_sem, n1, n2, n3, n4, z2, gz22, hz22, gz23, hz23, gz24, hz24, gz25, hz25, gz26anaaaaaaaaan, gz26anaaaaaaaabn, gz26anaaaaaaabn, gz26anaaaaaabn, gz26anaaaaabn, gz26anaaaabn, gz26anaaabn, gz26anaabn, gz26anabn, gz26anbn] at gz26bn
        all_goals
        obtain ⟨z27, h⟩ := AD h
        rcases Ay z27 with ⟨gz27, z27⟩ | gz27
        ·try simp only [go_sem, n1, n2, n3, n4, z2, gz22, hz22, gz23, hz23, gz24, hz24, gz25, hz25, gz26anaaaaaaaaan, gz26anaaaaaaaabn, gz26anaaaaaaabn, gz26anaaaaaabn, gz26anaaaaabn, gz26anaaaabn, gz26anaaabn, gz26anaabn, gz26anabn, gz26anbn, gz26bn] at gz27
         all_goals
         obtain ⟨y_27, hz27⟩ := Option.isSome_iff_exists.1 z27
         have fz27 := QG hz27
         try simp only [go_sem, n1, n2, n3, n4, z2, gz22, hz22, gz23, hz23, gz24, hz24, gz25, hz25, gz26anaaaaaaaaan, gz26anaaaaaaaabn, gz26anaaaaaaabn, gz26anaaaaaabn, gz26anaaaaabn, gz26anaaaabn, gz26anaaabn, gz26anaabn, gz26anabn, gz26anbn, gz26bn, gz27] at hz27
         all_goals
         try simp only [go_sem, z2, gz22, hz22, gz23, hz23, gz24, hz24, gz25, hz25, gz26anaaaaaaaaan, gz26anaaaaaaaabn, gz26anaaaaaaabn, gz26anaaaaaabn, gz26anaaaaabn, gz26anaaaabn, gz26anaaabn, gz26anaabn, gz26anabn, gz26anbn, gz26bn, gz27] at fz27
         obtain ⟨z28, h⟩ := AD h
         rcases Ay z28 with ⟨gz28, z28⟩ | gz28
         ·try simp only [go_sem, n1, n2, n3, n4, z2, gz22, hz22, gz23, hz23, gz24, hz24, gz25, hz25, gz26anaaaaaaaaan, gz26anaaaaaaaabn, gz26anaaaaaaabn, gz26anaaaaaabn, gz26anaaaaabn, gz26anaaaabn, gz26anaaabn, gz26anaabn, gz26anabn, gz26anbn, gz26bn, gz27, hz27] at gz28
          all_goals
          obtain ⟨y_28, hz28⟩ := Option.isSome_iff_exists.1 z28
          have fz28 := oT hz28
          try simp only [go_sem, n1, n2, n3, n4, z2, gz22, hz22, gz23, hz23, gz24, hz24, gz25, hz25, gz26anaaaaaaaaan, gz26anaaaaaaaabn, gz26anaaaaaaabn, gz26anaaaaaabn, gz26anaaaaabn, gz26anaaaabn, gz26anaaabn, gz26anaabn, gz26anabn, gz26anbn, gz26bn, gz27, hz27, gz28] at hz28
          all_goals
          try simp only [go_sem, z2, gz22, hz22, gz23, hz23, gz24, hz24, gz25, hz25, gz26anaaaaaaaaan, gz26anaaaaaaaabn, gz26anaaaaaaabn, gz26anaaaaaabn, gz26anaaaaabn, gz26anaaaabn, gz26anaaabn, gz26anaabn, gz26anabn, gz26anbn, gz26bn, gz27, hz27, gz28] at fz28
          obtain ⟨z29, h⟩ := AD h
          rcases Ay z29 with ⟨gz29, z29⟩ | gz29
          ·try simp only [go_sem, n1, n2, n3, n4, z2, gz22, hz22, gz23, hz23, gz24, hz24, gz25, hz25, gz26anaaaaaaaaan, gz26anaaaaaaaabn, gz26anaaaaaaabn, gz26anaaaaaabn, gz26anaaaaabn, gz26anaaaabn, gz26anaaabn, gz26anaabn, gz26anabn, gz26anbn, gz26bn, gz27, hz27, gz28, hz28] at gz29
           all_goals
           obtain ⟨y_29, hz29⟩ := Option.isSome_iff_exists.1 z29
           have fz29 := QG hz29
           try simp only [go_sem, n1, n2, n3, n4, z2, gz22, hz22, gz23, hz23, gz24, hz24, gz25, hz25, gz26anaaaaaaaaan, gz26anaaaaaaaabn, gz26anaaaaaaabn, gz26anaaaaaabn, gz26anaaaaabn, gz26anaaaabn, gz26anaaabn, gz26anaabn, gz26anabn, gz26anbn, gz26bn, gz27, hz27, gz28, hz28, gz29] at hz29
           all_goals
           try simp only [go_sem, z2, gz22, hz22, gz23, hz23, gz24, hz24, gz25, hz25, gz26anaaaaaaaaan, gz26anaaaaaaaabn, gz26anaaaaaaabn, gz26anaaaaaabn, gz26anaaaaabn, gz26anaaaabn, gz26anaaabn, gz26anaabn, gz26anabn, gz26anbn, gz26bn, gz27, hz27, gz28, hz28, gz29] at fz29
           obtain ⟨z30, h⟩ := AD h
           rcases Ay z30 with ⟨gz30, z30⟩ | gz30
           ·try simp only [go_sem, n1, n2, n3, n4, z2, gz22, hz22, gz23, hz23, gz24, hz24, gz25, hz25, gz26anaaaaaaaaan, gz26anaaaaaaaabn, gz26anaaaaaaabn, gz26anaaaaaabn, gz26anaaaaabn, gz26anaaaabn, gz26anaaabn, gz26anaabn, gz26anabn, gz26anbn, gz26bn, gz27, hz27, gz28, hz28, gz29, hz29] at gz30
            all_goals
            obtain ⟨y_30, hz30⟩ := Option.isSome_iff_exists.1 z30
            have fz30 := Ok hz30
            try simp only [go_sem, n1, n2, n3, n4, z2, gz22, hz22, gz23, hz23, gz24, hz24, gz25, hz25, gz26anaaaaaaaaan, gz26anaaaaaaaabn, gz26anaaaaaaabn, gz26anaaaaaabn, gz26anaaaaabn, gz26anaaaabn, gz26anaaabn, gz26anaabn, gz26anabn, gz26anbn, gz26bn, gz27, hz27, gz28, hz28, gz29, hz29, gz30] at hz30
            all_goals
            try simp only [go_sem, z2, gz22, hz22, gz23, hz23, gz24, hz24, gz25, hz25, gz26anaaaaaaaaan, gz26anaaaaaaaabn, gz26anaaaaaaabn, gz26anaaaaaabn, gz26anaaaaabn, gz26anaaaabn, gz26anaaabn, gz26anaabn, gz26anabn, gz26anbn, gz26bn, gz27, hz27, gz28, hz28, gz29, hz29, gz30] at fz30
            obtain ⟨z31, h⟩ := AD h
            rcases Ay z31 with ⟨gz31, z31⟩ | gz31
            ·try simp only [go_sem, n1, n2, n3, n4, z2, gz22, hz22, gz23, hz23, gz24, hz24, gz25, hz25, gz26anaaaaaaaaan, gz26anaaaaaaaabn, gz26anaaaaaaabn, gz26anaaaaaabn, gz26anaaaaabn, gz26anaaaabn, gz26anaaabn, gz26anaabn, gz26anabn, gz26anbn, gz26bn, gz27, hz27, gz28, hz28, gz29, hz29, gz30, hz30] at gz31
             all_goals
             obtain ⟨y_31, hz31⟩ := Option.isSome_iff_exists.1 z31
             have fz31 := oS hz31
             try simp only [go_sem, n1, n2, n3, n4, z2, gz22, hz22, gz23, hz23, gz24, hz24, gz25, hz25, gz26anaaaaaaaaan, gz26anaaaaaaaabn, gz26anaaaaaaabn, gz26anaaaaaabn, gz26anaaaaabn, gz26anaaaabn, gz26anaaabn, gz26anaabn, gz26anabn, gz26anbn, gz26bn, gz27, hz27, gz28, hz28, gz29, hz29, gz30, hz30, gz31] at hz31
             all_goals
             try simp only [go_sem, z2, gz22, hz22, gz23, hz23, gz24, hz24, gz25, hz25, gz26anaaaaaaaaan, gz26anaaaaaaaabn, gz26anaaaaaaabn, gz26anaaaaaabn, gz26anaaaaabn, gz26anaaaabn, gz26anaaabn, gz26anaabn, gz26anabn, gz26anbn, gz26bn, gz27, hz27, gz28, hz28, gz29, hz29, gz30, hz30, gz31] at fz31
             rcases AF h with ⟨z32, h⟩ | ⟨z32, h⟩
             ·try simp only [go_sem, n1, n2, n3, n4, z2, gz22, hz22, gz23, hz23, gz24, hz24, gz25, hz25, gz26anaaaaaaaaan, gz26anaaaaaaaabn, gz26anaaaaaaabn, gz26anaaaaaabn, gz26anaaaaabn, gz26anaaaabn, gz26anaaabn, gz26anaabn, gz26anabn, gz26anbn, gz26bn, gz27, hz27, gz28, hz28, gz29, hz29, gz30, hz30, gz31, hz31] at z32
              all_goals
              obtain rfl := AC h
              refine ⟨0, fun L hL => ?_⟩
              simp only [go_sem, fz1, z2, fz3, fz4, fz5, fz6, fz7, fz8, fz9, fz10, fz11, fz12, fz13, fz14, fz15, fz16, fz17, fz18, fz19, fz20, fz21, gz22, hz22, fz22, gz23, hz23, fz23, gz24, hz24, fz24, gz25, hz25, fz25, gz26anaaaaaaaaan, gz26anaaaaaaaabn, gz26anaaaaaaabn, gz26anaaaaaabn, gz26anaaaaabn, gz26anaaaabn, gz26anaaabn, gz26anaabn, gz26anabn, gz26anbn, gz26bn, gz27, hz27, fz27, gz28, hz28, fz28, gz29, hz29, fz29, gz30, hz30, fz30, gz31, hz31, fz31, z32]
             ·try simp only [go_sem, n1, n2, n3, n4, z2, gz22, hz22, gz23, hz23, gz24, hz24, gz25, hz25, gz26anaaaaaaaaan, gz26anaaaaaaaabn, gz26anaaaaaaabn, gz26anaaaaaabn, gz26anaaaaabn, gz26anaaaabn, gz26anaaabn, gz26anaabn, gz26anabn, gz26anbn, gz26bn, gz27, hz27, gz28, hz28, gz29, hz29, gz30, hz30, gz31, hz31] at z32
              all_goals
              rcases AF h with ⟨z33, h⟩ | ⟨z33, h⟩
              ·try simp only [go_sem, n1, n2, n3, n4, z2, gz22, hz22, gz23, hz23, gz24, hz24, gz25, hz25, gz26anaaaaaaaaan, gz26anaaaaaaaabn, gz26anaaaaaaabn, gz26anaaaaaabn, gz26anaaaaabn, gz26anaaaabn, gz26anaaabn, gz26anaabn, gz26anabn, gz26anbn, gz26bn, gz27, hz27, gz28, hz28, gz29, hz29, gz30, hz30, gz31, hz31, z32] at z33
               all_goals
               obtain ⟨z34, h⟩ := AD h
               have lz34 := BT z34
               have xz34 := AR AB y_12 lz34
               try simp only [go_sem] at lz34
               try simp only [go_sem] at xz34
               try simp only [go_sem, n1, n2, n3, n4, z2, gz22, hz22, gz23, hz23, gz24, hz24, gz25, hz25, gz26anaaaaaaaaan, gz26anaaaaaaaabn, gz26anaaaaaaabn, gz26anaaaaaabn, gz26anaaaaabn, gz26anaaaabn, gz26anaaabn, gz26anaabn, gz26anabn, gz26anbn, gz26bn, gz27, hz27, gz28, hz28, gz29, hz29, gz30, hz30, gz31, hz31, z32, z33] at z34
               all_goals
               obtain ⟨y_35, z35, h⟩ := AE h
               have fz35 := sY z35
               try simp only [go_sem, z2, gz22, hz22, gz23, hz23, gz24, hz24, gz25, hz25, gz26anaaaaaaaaan, gz26anaaaaaaaabn, gz26anaaaaaaabn, gz26anaaaaaabn, gz26anaaaaabn, gz26anaaaabn, gz26anaaabn, gz26anaabn, gz26anabn, gz26anbn, gz26bn, gz27, hz27, gz28, hz28, gz29, hz29, gz30, hz30, gz31, hz31, z32, z33, z34] at fz35
               obtain ⟨z36, h⟩ := AD h
               rcases Ay z36 with ⟨gz36, z36⟩ | gz36
               ·try simp only [go_sem, n1, n2, n3, n4, z2, gz22, hz22, gz23, hz23, gz24, hz24, gz25, hz25, gz26anaaaaaaaaan, gz26anaaaaaaaabn, gz26anaaaaaaabn, gz26anaaaaaabn, gz26anaaaaabn, gz26anaaaabn, gz26anaaabn, gz26anaabn, gz26anabn, gz26anbn, gz26bn, gz27, hz27, gz28, hz28, gz29, hz29, gz30, hz30, gz31, hz31, z32, z33, z34] at gz36
                all_goals
                have lz36 := BT z36
                have xz36 := AR AB y_35.1 lz36
                try simp only [go_sem] at lz36
                try simp only [go_sem] at xz36
                try simp only [go_sem, n1, n2, n3, n4, z2, gz22, hz22, gz23, hz23, gz24, hz24, gz25, hz25, gz26anaaaaaaaaan, gz26anaaaaaaaabn, gz26anaaaaaaabn, gz26anaaaaaabn, gz26anaaaaabn, gz26anaaaabn, gz26anaaabn, gz26anaabn, gz26anabn, gz26anbn, gz26bn, gz27, hz27, gz28, hz28, gz29, hz29, gz30, hz30, gz31, hz31, z32, z33, z34, gz36] at z36
                all_goals
                rcases AF h with ⟨z37, h⟩ | ⟨z37, h⟩
                ·try simp only [go_sem, n1, n2, n3, n4, z2, gz22, hz22, gz23, hz23, gz24, hz24, gz25, hz25, gz26anaaaaaaaaan, gz26anaaaaaaaabn, gz26anaaaaaaabn, gz26anaaaaaabn, gz26anaaaaabn, gz26anaaaabn, gz26anaaabn, gz26anaabn, gz26anabn, gz26anbn, gz26bn, gz27, hz27, gz28, hz28, gz29, hz29, gz30, hz30, gz31, hz31, z32, z33, z34, gz36, z36] at z37
                 all_goals
                 obtain rfl := AC h
                 refine ⟨0, fun L hL => ?_⟩
                 simp only [go_sem, fz1, z2, fz3, fz4, fz5, fz6, fz7, fz8, fz9, fz10, fz11, fz12, fz13, fz14, fz15, fz16, fz17, fz18, fz19, fz20, fz21, gz22, hz22, fz22, gz23, hz23, fz23, gz24, hz24, fz24, gz25, hz25, fz25, gz26anaaaaaaaaan, gz26anaaaaaaaabn, gz26anaaaaaaabn, gz26anaaaaaabn, gz26anaaaaabn, gz26anaaaabn, gz26anaaabn, gz26anaabn, gz26anabn, gz26anbn, gz26bn, gz27, hz27, fz27, gz28, hz28, fz28, gz29, hz29, fz29, gz30, hz30, fz30, gz31, hz31, fz31, z32, z33, z34, lz34, xz34, fz35, gz36, z36, lz36, xz36, z37]
                ·try simp only [go_sem, n1, n2, n3, n4, z2, gz22, hz22, gz23, hz23, gz24, hz24, gz25, hz25, gz26anaaaaaaaaan, gz26anaaaaaaaabn, gz26anaaaaaaabn, gz26anaaaaaabn, gz26anaaaaabn, gz26anaaaabn, gz26anaaabn, gz26anaabn, gz26anabn, gz26anbn, gz26bn, gz27, hz27, gz28, hz28, gz29, hz29, gz30, hz30, gz31, hz31, z32, z33, z34, gz36, z36] at z37
                 all_goals
                 obtain ⟨z38, h⟩ := AD h
                 rcases Ay z38 with ⟨gz38, z38⟩ | gz38
                 ·try simp only [go_sem, n1, n2, n3, n4, z2, gz22, hz22, gz23, hz23, gz24, hz24, gz25, hz25, gz26anaaaaaaaaan, gz26anaaaaaaaabn, gz26anaaaaaaabn, gz26anaaaaaabn, gz26anaaaaabn, gz26anaaaabn, gz26anaaabn, gz26anaabn, gz26anabn, gz26anbn, gz26bn, gz27, hz27, gz28, hz28, gz29, hz29, gz30, hz30, gz31, hz31, z32, z33, z34, gz36, z36, z37] at gz38
                  all_goals
                  obtain ⟨y_38, hz38⟩ := Option.isSome_iff_exists.1 z38
                  have fz38 := Ok hz38
                  try simp only [go_sem, n1, n2, n3, n4, z2, gz22, hz22, gz23, hz23, gz24, hz24, gz25, hz25, gz26anaaaaaaaaan, gz26anaaaaaaaabn, gz26anaaaaaaabn, gz26anaaaaaabn, gz26anaaaaabn, gz26anaaaabn, gz26anaaabn, gz26anaabn, gz26anabn, gz26anbn, gz26bn, gz27, hz27, gz28, hz28, gz29, hz29, gz30, hz30, gz31, hz31, z32, z33, z34, gz36, z36, z37, gz38] at hz38
                  all_goals
                  try simp only [go_sem, z2, gz22, hz22, gz23, hz23, gz24, hz24, gz25, hz25, gz26anaaaaaaaaan, gz26anaaaaaaaabn, gz26anaaaaaaabn, gz26anaaaaaabn, gz26anaaaaabn, gz26anaaaabn, gz26anaaabn, gz26anaabn, gz26anabn, gz26anbn, gz26bn, gz27, hz27, gz28, hz28, gz29, hz29, gz30, hz30, gz31, hz31, z32, z33, z34, gz36, z36, z37, gz38] at fz38
                  rcases AF h with ⟨z39, h⟩ | ⟨z39, h⟩
                  ·try simp only [go_sem, n1, n2, n3, n4, z2, gz22, hz22, gz23, hz23, gz24, hz24, gz25, hz25, gz26anaaaaaaaaan, gz26anaaaaaaaabn, gz26anaaaaaaabn, gz26anaaaaaabn, gz26anaaaaabn, gz26anaaaabn, gz26anaaabn, gz26anaabn, gz26anabn, gz26anbn, gz26bn, gz27, hz27, gz28, hz28, gz29, hz29, gz30, hz30, gz31, hz31, z32, z33, z34, gz36, z36, z37, gz38, hz38] at z39
                   all_goals
                   obtain rfl := AC h
                   refine ⟨0, fun L hL => ?_⟩
                   simp only [go_sem, fz1, z2, fz3, fz4, fz5, fz6, fz7, fz8, fz9, fz10, fz11, fz12, fz13, fz14, fz15, fz16, fz17, fz18, fz19, fz20, fz21, gz22, hz22, fz22, gz23, hz23, fz23, gz24, hz24, fz24, gz25, hz25, fz25, gz26anaaaaaaaaan, gz26anaaaaaaaabn, gz26anaaaaaaabn, gz26anaaaaaabn, gz26anaaaaabn, gz26anaaaabn, gz26anaaabn, gz26anaabn, gz26anabn, gz26anbn, gz26bn, gz27, hz27, fz27, gz28, hz28, fz28, gz29, hz29, fz29, gz30, hz30, fz30, gz31, hz31, fz31, z32, z33, z34, lz34, xz34, fz35, gz36, z36, lz36, xz36, z37, gz38, hz38, fz38, z39]
                  ·try simp only [go_sem, n1, n2, n3, n4, z2, gz22, hz22, gz23, hz23, gz24, hz24, gz25, hz25, gz26anaaaaaaaaan, gz26anaaaaaaaabn, gz26anaaaaaaabn, gz26anaaaaaabn, gz26anaaaaabn, gz26anaaaabn, gz26anaaabn, gz26anaabn, gz26anabn, gz26anbn, gz26bn, gz27, hz27, gz28, hz28, gz29, hz29, gz30, hz30, gz31, hz31, z32, z33, z34, gz36, z36, z37, gz38, hz38] at z39
                   all_goals
                   rcases AF h with ⟨z40, h⟩ | ⟨z40, h⟩
                   ·try simp only [go_sem, n1, n2, n3, n4, z2, gz22, hz22, gz23, hz23, gz24, hz24, gz25, hz25, gz26anaaaaaaaaan, gz26anaaaaaaaabn, gz26anaaaaaaabn, gz26anaaaaaabn, gz26anaaaaabn, gz26anaaaabn, gz26anaaabn, gz26anaabn, gz26anabn, gz26anbn, gz26bn, gz27, hz27, gz28, hz28, gz29, hz29, gz30, hz30, gz31, hz31, z32, z33, z34, gz36, z36, z37, gz38, hz38, z39] at z40
                    all_goals
                    obtain rfl := AC h
                    refine ⟨0, fun L hL => ?_⟩
                    simp only [go_sem, fz1, z2, fz3, fz4, fz5, fz6, fz7, fz8, fz9, fz10, fz11, fz12, fz13, fz14, fz15, fz16, fz17, fz18, fz19, fz20, fz21, gz22, hz22, fz22, gz23, hz23, fz23, gz24, hz24, fz24, gz25, hz25, fz25, gz26anaaaaaaaaan, gz26anaaaaaaaabn, gz26anaaaaaaabn, gz26anaaaaaabn, gz26anaaaaabn, gz26anaaaabn, gz26anaaabn, gz26anaabn, gz26anabn, gz26anbn, gz26bn, gz27, hz27, fz27, gz28, hz28, fz28, gz29, hz29, fz29, gz30, hz30, fz30, gz31, hz31, fz31, z32, z33, z34, lz34, xz34, fz35, gz36, z36, lz36, xz36, z37, gz38, hz38, fz38, z39, z40]
                   ·try simp only [go_sem, n1, n2, n3, n4, z2, gz22, hz22, gz23, hz23, gz24, hz24, gz25, hz25, gz26anaaaaaaaaan, gz26anaaaaaaaabn, gz26anaaaaaaabn, gz26anaaaaaabn, gz26anaaaaabn, gz26anaaaabn, gz26anaaabn, gz26anaabn, gz26anabn, gz26anbn, gz26bn, gz27, hz27, gz28, hz28, gz29, hz29, gz30, hz30, gz31, hz31, z32, z33, z34, gz36, z36, z37, gz38, hz38, z39] at z40
                    all_goals
                    obtain ⟨y_47, z47, h⟩ := AE h
                    obtain ⟨Lz47, ez47⟩ := Fd z47
                    rcases y_47 with y_47a | y_47b
                    all_goals
                    dsimp only at h
                    obtain rfl := AC h
                    refine ⟨Lz47, fun L hL => ?_⟩
                    have ez47 := ez47 L (by omega)
                    try simp only [go_sem, z2, gz22, hz22, gz23, hz23, gz24, hz24, gz25, hz25, gz26anaaaaaaaaan, gz26anaaaaaaaabn, gz26anaaaaaaabn, gz26anaaaaaabn, gz26anaaaaabn, gz26anaaaabn, gz26anaaabn, gz26anaabn, gz26anabn, gz26anbn, gz26bn, gz27, hz27, gz28, hz28, gz29, hz29, gz30, hz30, gz31, hz31, z32, z33, z34, gz36, z36, z37, gz38, hz38, z39, z40] at ez47
                    simp only [go_sem, fz1, z2, fz3, fz4, fz5, fz6, fz7, fz8, fz9, fz10, fz11, fz12, fz13, fz14, fz15, fz16, fz17, fz18, fz19, fz20, fz21, gz22, hz22, fz22, gz23, hz23, fz23, gz24, hz24, fz24, gz25, hz25, fz25, gz26anaaaaaaaaan, gz26anaaaaaaaabn, gz26anaaaaaaabn, gz26anaaaaaabn, gz26anaaaaabn, gz26anaaaabn, gz26anaaabn, gz26anaabn, gz26anabn, gz26anbn, gz26bn, gz27, hz27, fz27, gz28, hz28, fz28, gz29, hz29, fz29, gz30, hz30, fz30, gz31, hz31, fz31, z32, z33, z34, lz34, xz34, fz35, gz36, z36, lz36, xz36, z37, gz38, hz38, fz38, z39, z40, ez47]
                 ·rcases Ud gz38 with gz38a | ⟨gz38a, gz38b⟩
                  ·try simp only [go_sem, n1, n2, n3, n4, z2, gz22, hz22, gz23, hz23, gz24, hz24, gz25, hz25, gz26anaaaaaaaaan, gz26anaaaaaaaabn, gz26anaaaaaaabn, gz26anaaaaaabn, gz26anaaaaabn, gz26anaaaabn, gz26anaaabn, gz26anaabn, gz26anabn, gz26anbn, gz26bn, gz27, hz27, gz28, hz28, gz29, hz29, gz30, hz30, gz31, hz31, z32, z33, z34, gz36, z36, z37] at gz38a
                   all_goals
                   rcases AF h with ⟨z39, h⟩ | ⟨z39, h⟩
                   ·try simp only [go_sem, n1, n2, n3, n4, z2, gz22, hz22, gz23, hz23, gz24, hz24, gz25, hz25, gz26anaaaaaaaaan, gz26anaaaaaaaabn, gz26anaaaaaaabn, gz26anaaaaaabn, gz26anaaaaabn, gz26anaaaabn, gz26anaaabn, gz26anaabn, gz26anabn, gz26anbn, gz26bn, gz27, hz27, gz28, hz28, gz29, hz29, gz30, hz30, gz31, hz31, z32, z33, z34, gz36, z36, z37, gz38a] at z39
                    all_goals
                    (simp_all)
                   ·try simp only [go_sem, n1, n2, n3, n4, z2, gz22, hz22, gz23, hz23, gz24, hz24, gz25, hz25, gz26anaaaaaaaaan, gz26anaaaaaaaabn, gz26anaaaaaaabn, gz26anaaaaaabn, gz26anaaaaabn, gz26anaaaabn, gz26anaaabn, gz26anaabn, gz26anabn, gz26anbn, gz26bn, gz27, hz27, gz28, hz28, gz29, hz29, gz30, hz30, gz31, hz31, z32, z33, z34, gz36, z36, z37, gz38a] at z39
                    all_goals
                    rcases AF h with ⟨z40, h⟩ | ⟨z40, h⟩
                    ·try simp only [go_sem, n1, n2, n3, n4, z2, gz22, hz22, gz23, hz23, gz24, hz24, gz25, hz25, gz26anaaaaaaaaan, gz26anaaaaaaaabn, gz26anaaaaaaabn, gz26anaaaaaabn, gz26anaaaaabn, gz26anaaaabn, gz26anaaabn, gz26anaabn, gz26anabn, gz26anbn, gz26bn, gz27, hz27, gz28, hz28, gz29, hz29, gz30, hz30, gz31, hz31, z32, z33, z34, gz36, z36, z37, gz38a, z39] at z40
                     all_goals
                     obtain rfl := AC h
                     refine ⟨0, fun L hL => ?_⟩
                     simp only [go_sem, fz1, z2, fz3, fz4, fz5, fz6, fz7, fz8, fz9, fz10, fz11, fz12, fz13, fz14, fz15, fz16, fz17, fz18, fz19, fz20, fz21, gz22, hz22, fz22, gz23, hz23, fz23, gz24, hz24, fz24, gz25, hz25, fz25, gz26anaaaaaaaaan, gz26anaaaaaaaabn, gz26anaaaaaaabn, gz26anaaaaaabn, gz26anaaaaabn, gz26anaaaabn, gz26anaaabn, gz26anaabn, gz26anabn, gz26anbn, gz26bn, gz27, hz27, fz27, gz28, hz28, fz28, gz29, hz29, fz29, gz30, hz30, fz30, gz31, hz31, fz31, z32, z33, z34, lz34, xz34, fz35, gz36, z36, lz36, xz36, z37, gz38a, z39, z40]
                    ·try simp only [go_sem, n1, n2, n3, n4, z2, gz22, hz22, gz23, hz23, gz24, hz24, gz25, hz25, gz26anaaaaaaaaan, gz26anaaaaaaaabn, gz26anaaaaaaabn, gz26anaaaaaabn, gz26anaaaaabn, gz26anaaaabn, gz26anaaabn, gz26anaabn, gz26anabn, gz26anbn, gz26bn, gz27, hz27, gz28, hz28, gz29, hz29, gz30, hz30, gz31, hz31, z32, z33, z34, gz36, z36, z37, gz38a, z39] at z40
                     all_goals
                     obtain ⟨y_47, z47, h⟩ := AE h
                     obtain ⟨Lz47, ez47⟩ := Fd z47
                     rcases y_47 with y_47a | y_47b
                     all_goals
                     dsimp only at h
                     obtain rfl := AC h
                     refine ⟨Lz47, fun L hL => ?_⟩
                     have ez47 := ez47 L (by omega)
                     try simp only [go_sem, z2, gz22, hz22, gz23, hz23, gz24, hz24, gz25, hz25, gz26anaaaaaaaaan, gz26anaaaaaaaabn, gz26anaaaaaaabn, gz26anaaaaaabn, gz26anaaaaabn, gz26anaaaabn, gz26anaaabn, gz26anaabn, gz26anabn, gz26anbn, gz26bn, gz27, hz27, gz28, hz28, gz29, hz29, gz30, hz30, gz31, hz31, z32, z33, z34, gz36, z36, z37, gz38a, z39, z40] at ez47
                     simp only [go_sem, fz1, z2, fz3, fz4, fz5, fz6, fz7, fz8, fz9, fz10, fz11, fz12, fz13, fz14, fz15, fz16, fz17, fz18, fz19, fz20, fz21, gz22, hz22, fz22, gz23, hz23, fz23, gz24, hz24, fz24, gz25, hz25, fz25, gz26anaaaaaaaaan, gz26anaaaaaaaabn, gz26anaaaaaaabn, gz26anaaaaaabn, gz26anaaaaabn, gz26anaaaabn, gz26anaaabn, gz26anaabn, gz26anabn, gz26anbn, gz26bn, gz27, hz27, fz27, gz28, hz28, fz28, gz29, hz29, fz29, gz30, hz30, fz30, gz31, hz31, fz31, z32, z33, z34, lz34, xz34, fz35, gz36, z36, lz36, xz36, z37, gz38a, z39, z40, ez47]
                  ·have gz38bn := BH gz38b
                   have gz38bnn := Fj gz38bn
                   try simp only [go_sem, n1, n2, n3, n4, z2, gz22, hz22, gz23, hz23, gz24, hz24, gz25, hz25, gz26anaaaaaaaaan, gz26anaaaaaaaabn, gz26anaaaaaaabn, gz26anaaaaaabn, gz26anaaaaabn, gz26anaaaabn, gz26anaaabn, gz26anaabn, gz26anabn, gz26anbn, gz26bn, gz27, hz27, gz28, hz28, gz29, hz29, gz30, hz30, gz31, hz31, z32, z33, z34, gz36, z36, z37] at gz38a
                   all_goals
                   try simp only [go_sem, n1, n2, n3, n4, z2, gz22, hz22, gz23, hz23, gz24, hz24, gz25, hz25, gz26anaaaaaaaaan, gz26anaaaaaaaabn, gz26anaaaaaaabn, gz26anaaaaaabn, gz26anaaaaabn, gz26anaaaabn, gz26anaaabn, gz26anaabn, gz26anabn, gz26anbn, gz26bn, gz27, hz27, gz28, hz28, gz29, hz29, gz30, hz30, gz31, hz31, z32, z33, z34, gz36, z36, z37, gz38a] at gz38bnn
                   all_goals
                   rcases AF h with ⟨z39, h⟩ | ⟨z39, h⟩
                   ·try simp only [go_sem, n1, n2, n3, n4, z2, gz22, hz22, gz23, hz23, gz24, hz24, gz25, hz25, gz26anaaaaaaaaan, gz26anaaaaaaaabn, gz26anaaaaaaabn, gz26anaaaaaabn, gz26anaaaaabn, gz26anaaaabn, gz26anaaabn, gz26anaabn, gz26anabn, gz26anbn, gz26bn, gz27, hz27, gz28, hz28, gz29, hz29, gz30, hz30, gz31, hz31, z32, z33, z34, gz36, z36, z37, gz38a, gz38bnn] at z39
                    all_goals
                    obtain rfl := AC h
                    refine ⟨0, fun L hL => ?_⟩
                    simp only [go_sem, fz1, z2, fz3, fz4, fz5, fz6, fz7, fz8, fz9, fz10, fz11, fz12, fz13, fz14, fz15, fz16, fz17, fz18, fz19, fz20, fz21, gz22, hz22, fz22, gz23, hz23, fz23, gz24, hz24, fz24, gz25, hz25, fz25, gz26anaaaaaaaaan, gz26anaaaaaaaabn, gz26anaaaaaaabn, gz26anaaaaaabn, gz26anaaaaabn, gz26anaaaabn, gz26anaaabn, gz26anaabn, gz26anabn, gz26anbn, gz26bn, gz27, hz27, fz27, gz28, hz28, fz28, gz29, hz29, fz29, gz30, hz30, fz30, gz31, hz31, fz31, z32, z33, z34, lz34, xz34, fz35, gz36, z36, lz36, xz36, z37, gz38a, gz38bnn, z39]
                   ·try simp only [go_sem, n1, n2, n3, n4, z2, gz22, hz22, gz23, hz23, gz24, hz24, gz25, hz25, gz26anaaaaaaaaan, gz26anaaaaaaaabn, gz26anaaaaaaabn, gz26anaaaaaabn, gz26anaaaaabn, gz26anaaaabn, gz26anaaabn, gz26anaabn, gz26anabn, gz26anbn, gz26bn, gz27, hz27, gz28, hz28, gz29, hz29, gz30, hz30, gz31, hz31, z32, z33, z34, gz36, z36, z37, gz38a, gz38bnn] at z39
                    all_goals
                    (simp_all)
               ·have gz36n := BH gz36
                rcases JA gz36n with gz36na | ⟨gz36na, gz36nb⟩
                ·have gz36nan := Fj gz36na
                 try simp only [go_sem, n1, n2, n3, n4, z2, gz22, hz22, gz23, hz23, gz24, hz24, gz25, hz25, gz26anaaaaaaaaan, gz26anaaaaaaaabn, gz26anaaaaaaabn, gz26anaaaaaabn, gz26anaaaaabn, gz26anaaaabn, gz26anaaabn, gz26anaabn, gz26anabn, gz26anbn, gz26bn, gz27, hz27, gz28, hz28, gz29, hz29, gz30, hz30, gz31, hz31, z32, z33, z34] at gz36nan
                 all_goals
                 rcases AF h with ⟨z37, h⟩ | ⟨z37, h⟩
                 ·try simp only [go_sem, n1, n2, n3, n4, z2, gz22, hz22, gz23, hz23, gz24, hz24, gz25, hz25, gz26anaaaaaaaaan, gz26anaaaaaaaabn, gz26anaaaaaaabn, gz26anaaaaaabn, gz26anaaaaabn, gz26anaaaabn, gz26anaaabn, gz26anaabn, gz26anabn, gz26anbn, gz26bn, gz27, hz27, gz28, hz28, gz29, hz29, gz30, hz30, gz31, hz31, z32, z33, z34, gz36nan] at z37
                  all_goals
                  obtain rfl := AC h
                  refine ⟨0, fun L hL => ?_⟩
                  simp only [go_sem, fz1, z2, fz3, fz4, fz5, fz6, fz7, fz8, fz9, fz10, fz11, fz12, fz13, fz14, fz15, fz16, fz17, fz18, fz19, fz20, fz21, gz22, hz22, fz22, gz23, hz23, fz23, gz24, hz24, fz24, gz25, hz25, fz25, gz26anaaaaaaaaan, gz26anaaaaaaaabn, gz26anaaaaaaabn, gz26anaaaaaabn, gz26anaaaaabn, gz26anaaaabn, gz26anaaabn, gz26anaabn, gz26anabn, gz26anbn, gz26bn, gz27, hz27, fz27, gz28, hz28, fz28, gz29, hz29, fz29, gz30, hz30, fz30, gz31, hz31, fz31, z32, z33, z34, lz34, xz34, fz35, gz36nan, z37]
                 ·try simp only [go_sem, n1, n2, n3, n4, z2, gz22, hz22, gz23, hz23, gz24, hz24, gz25, hz25, gz26anaaaaaaaaan, gz26anaaaaaaaabn, gz26anaaaaaaabn, gz26anaaaaaabn, gz26anaaaaabn, gz26anaaaabn, gz26anaaabn, gz26anaabn, gz26anabn, gz26anbn, gz26bn, gz27, hz27, gz28, hz28, gz29, hz29, gz30, hz30, gz31, hz31, z32, z33, z34, gz36nan] at z37
                  all_goals
                  (simp_all)
                ·have gz36nan := BH gz36na
                 try simp only [go_sem, n1, n2, n3, n4, z2, gz22, hz22, gz23, hz23, gz24, hz24, gz25, hz25, gz26anaaaaaaaaan, gz26anaaaaaaaabn, gz26anaaaaaaabn, gz26anaaaaaabn, gz26anaaaaabn, gz26anaaaabn, gz26anaaabn, gz26anaabn, gz26anabn, gz26anbn, gz26bn, gz27, hz27, gz28, hz28, gz29, hz29, gz30, hz30, gz31, hz31, z32, z33, z34] at gz36nan
                 all_goals
                 try simp only [go_sem, n1, n2, n3, n4, z2, gz22, hz22, gz23, hz23, gz24, hz24, gz25, hz25, gz26anaaaaaaaaan, gz26anaaaaaaaabn, gz26anaaaaaaabn, gz26anaaaaaabn, gz26anaaaaabn, gz26anaaaabn, gz26anaaabn, gz26anaabn, gz26anabn, gz26anbn, gz26bn, gz27, hz27, gz28, hz28, gz29, hz29, gz30, hz30, gz31, hz31, z32, z33, z34, gz36nan] at gz36nb
                 all_goals
                 rcases AF h with ⟨z37, h⟩ | ⟨z37, h⟩
                 ·try simp only [go_sem, n1, n2, n3, n4, z2, gz22, hz22, gz23, hz23, gz24, hz24, gz25, hz25, gz26anaaaaaaaaan, gz26anaaaaaaaabn, gz26anaaaaaaabn, gz26anaaaaaabn, gz26anaaaaabn, gz26anaaaabn, gz26anaaabn, gz26anaabn, gz26anabn, gz26anbn, gz26bn, gz27, hz27, gz28, hz28, gz29, hz29, gz30, hz30, gz31, hz31, z32, z33, z34, gz36nan, gz36nb] at z37
                  all_goals
                  obtain rfl := AC h
                  refine ⟨0, fun L hL => ?_⟩
                  simp only [go_sem, fz1, z2, fz3, fz4, fz5, fz6, fz7, fz8, fz9, fz10, fz11, fz12, fz13, fz14, fz15, fz16, fz17, fz18, fz19, fz20, fz21, gz22, hz22, fz22, gz23, hz23, fz23, gz24, hz24, fz24, gz25, hz25, fz25, gz26anaaaaaaaaan, gz26anaaaaaaaabn, gz26anaaaaaaabn, gz26anaaaaaabn, gz26anaaaaabn, gz26anaaaabn, gz26anaaabn, gz26anaabn, gz26anabn, gz26anbn, gz26bn, gz27, hz27, fz27, gz28, hz28, fz28, gz29, hz29, fz29, gz30, hz30, fz30, gz31, hz31, fz31, z32, z33, z34, lz34, xz34, fz35, gz36nan, gz36nb, z37]
                 ·try simp only [go_sem, n1, n2, n3, n4, z2, gz22, hz22, gz23, hz23, gz24, hz24, gz25, hz25, gz26anaaaaaaaaan, gz26anaaaaaaaabn, gz26anaaaaaaabn, gz26anaaaaaabn, gz26anaaaaabn, gz26anaaaabn, gz26anaaabn, gz26anaabn, gz26anabn, gz26anbn, gz26bn, gz27, hz27, gz28, hz28, gz29, hz29, gz30, hz30, gz31, hz31, z32, z33, z34, gz36nan, gz36nb] at z37
                  all_goals
                  (simp_all)
              ·try simp only [go_sem, n1, n2, n3, n4, z2, gz22, hz22, gz23, hz23, gz24, hz24, gz25, hz25, gz26anaaaaaaaaan, gz26anaaaaaaaabn, gz26anaaaaaaabn, gz26anaaaaaabn, gz26anaaaaabn, gz26anaaaabn, gz26anaaabn, gz26anaabn, gz26anabn, gz26anbn, gz26bn, gz27, hz27, gz28, hz28, gz29, hz29, gz30, hz30, gz31, hz31, z32] at z33
               all_goals
               obtain ⟨z48, h⟩ := AD h
               rcases Ay z48 with ⟨gz48, z48⟩ | gz48
               ·try simp only [go_sem, n1, n2, n3, n4, z2, gz22, hz22, gz23, hz23, gz24, hz24, gz25, hz25, gz26anaaaaaaaaan, gz26anaaaaaaaabn, gz26anaaaaaaabn, gz26anaaaaaabn, gz26anaaaaabn, gz26anaaaabn, gz26anaaabn, gz26anaabn, gz26anabn, gz26anbn, gz26bn, gz27, hz27, gz28, hz28, gz29, hz29, gz30, hz30, gz31, hz31, z32, z33] at gz48
                all_goals
                obtain ⟨y_48, hz48⟩ := Option.isSome_iff_exists.1 z48
                have fz48 := Ok hz48
                try simp only [go_sem, n1, n2, n3, n4, z2, gz22, hz22, gz23, hz23, gz24, hz24, gz25, hz25, gz26anaaaaaaaaan, gz26anaaaaaaaabn, gz26anaaaaaaabn, gz26anaaaaaabn, gz26anaaaaabn, gz26anaaaabn, gz26anaaabn, gz26anaabn, gz26anabn, gz26anbn, gz26bn, gz27, hz27, gz28, hz28, gz29, hz29, gz30, hz30, gz31, hz31, z32, z33, gz48] at hz48
                all_goals
                try simp only [go_sem, z2, gz22, hz22, gz23, hz23, gz24, hz24, gz25, hz25, gz26anaaaaaaaaan, gz26anaaaaaaaabn, gz26anaaaaaaabn, gz26anaaaaaabn, gz26anaaaaabn, gz26anaaaabn, gz26anaaabn, gz26anaabn, gz26anabn, gz26anbn, gz26bn, gz27, hz27, gz28, hz28, gz29, hz29, gz30, hz30, gz31, hz31, z32, z33, gz48] at fz48
                rcases AF h with ⟨z49, h⟩ | ⟨z49, h⟩
                ·try simp only [go_sem, n1, n2, n3, n4, z2, gz22, hz22, gz23, hz23, gz24, hz24, gz25, hz25, gz26anaaaaaaaaan, gz26anaaaaaaaabn, gz26anaaaaaaabn, gz26anaaaaaabn, gz26anaaaaabn, gz26anaaaabn, gz26anaaabn, gz26anaabn, gz26anabn, gz26anbn, gz26bn, gz27, hz27, gz28, hz28, gz29, hz29, gz30, hz30, gz31, hz31, z32, z33, gz48, hz48] at z49
                 all_goals
                 obtain rfl := AC h
                 refine ⟨0, fun L hL => ?_⟩
                 simp only [go_sem, fz1, z2, fz3, fz4, fz5, fz6, fz7, fz8, fz9, fz10, fz11, fz12, fz13, fz14, fz15, fz16, fz17, fz18, fz19, fz20, fz21, gz22, hz22, fz22, gz23, hz23, fz23, gz24, hz24, fz24, gz25, hz25, fz25, gz26anaaaaaaaaan, gz26anaaaaaaaabn, gz26anaaaaaaabn, gz26anaaaaaabn, gz26anaaaaabn, gz26anaaaabn, gz26anaaabn, gz26anaabn, gz26anabn, gz26anbn, gz26bn, gz27, hz27, fz27, gz28, hz28, fz28, gz29, hz29, fz29, gz30, hz30, fz30, gz31, hz31, fz31, z32, z33, gz48, hz48, fz48, z49]
                ·try simp only [go_sem, n1, n2, n3, n4, z2, gz22, hz22, gz23, hz23, gz24, hz24, gz25, hz25, gz26anaaaaaaaaan, gz26anaaaaaaaabn, gz26anaaaaaaabn, gz26anaaaaaabn, gz26anaaaaabn, gz26anaaaabn, gz26anaaabn, gz26anaabn, gz26anabn, gz26anbn, gz26bn, gz27, hz27, gz28, hz28, gz29, hz29, gz30, hz30, gz31, hz31, z32, z33, gz48, hz48] at z49
                 all_goals
                 rcases AF h with ⟨z50, h⟩ | ⟨z50, h⟩
                 ·try simp only [go_sem, n1, n2, n3, n4, z2, gz22, hz22, gz23, hz23, gz24, hz24, gz25, hz25, gz26anaaaaaaaaan, gz26anaaaaaaaabn, gz26anaaaaaaabn, gz26anaaaaaabn, gz26anaaaaabn, gz26anaaaabn, gz26anaaabn, gz26anaabn, gz26anabn, gz26anbn, gz26bn, gz27, hz27, gz28, hz28, gz29, hz29, gz30, hz30, gz31, hz31, z32, z33, gz48, hz48, z49] at z50
                  all_goals
                  obtain rfl := AC h
                  refine ⟨0, fun L hL => ?_⟩
                  simp only [go_sem, fz1, z2, fz3, fz4, fz5, fz6, fz7, fz8, fz9, fz10, fz11, fz12, fz13, fz14, fz15, fz16, fz17, fz18, fz19, fz20, fz21, gz22, hz22, fz22, gz23, hz23, fz23, gz24, hz24, fz24, gz25, hz25, fz25, gz26anaaaaaaaaan, gz26anaaaaaaaabn, gz26anaaaaaaabn, gz26anaaaaaabn, gz26anaaaaabn, gz26anaaaabn, gz26anaaabn, gz26anaabn, gz26anabn, gz26anbn, gz26bn, gz27, hz27, fz27, gz28, hz28, fz28, gz29, hz29, fz29, gz30, hz30, fz30, gz31, hz31, fz31, z32, z33, gz48, hz48, fz48, z49, z50]
                 ·try simp only [go_sem, n1, n2, n3, n4, z2, gz22, hz22, gz23, hz23, gz24, hz24, gz25, hz25, gz26anaaaaaaaaan, gz26anaaaaaaaabn, gz26anaaaaaaabn, gz26anaaaaaabn, gz26anaaaaabn, gz26anaaaabn, gz26anaaabn, gz26anaabn, gz26anabn, gz26anbn, gz26bn, gz27, hz27, gz28, hz28, gz29, hz29, gz30, hz30, gz31, hz31, z32, z33, gz48, hz48, z49] at z50
                  all_goals
                  obtain ⟨y_57, z57, h⟩ := AE h
                  obtain ⟨Lz57, ez57⟩ := Fb z57
                  rcases y_57 with y_57a | y_57b
                  all_goals
                  dsimp only at h
                  obtain rfl := AC h
                  refine ⟨Lz57, fun L hL => ?_⟩
                  have ez57 := ez57 L (by omega)
                  try simp only [go_sem, z2, gz22, hz22, gz23, hz23, gz24, hz24, gz25, hz25, gz26anaaaaaaaaan, gz26anaaaaaaaabn, gz26anaaaaaaabn, gz26anaaaaaabn, gz26anaaaaabn, gz26anaaaabn, gz26anaaabn, gz26anaabn, gz26anabn, gz26anbn, gz26bn, gz27, hz27, gz28, hz28, gz29, hz29, gz30, hz30, gz31, hz31, z32, z33, gz48, hz48, z49, z50] at ez57
                  simp only [go_sem, fz1, z2, fz3, fz4, fz5, fz6, fz7, fz8, fz9, fz10, fz11, fz12, fz13, fz14, fz15, fz16, fz17, fz18, fz19, fz20, fz21, gz22, hz22, fz22, gz23, hz23, fz23, gz24, hz24, fz24, gz25, hz25, fz25, gz26anaaaaaaaaan, gz26anaaaaaaaabn, gz26anaaaaaaabn, gz26anaaaaaabn, gz26anaaaaabn, gz26anaaaabn, gz26anaaabn, gz26anaabn, gz26anabn, gz26anbn, gz26bn, gz27, hz27, fz27, gz28, hz28, fz28, gz29, hz29, fz29, gz30, hz30, fz30, gz31, hz31, fz31, z32, z33, gz48, hz48, fz48, z49, z50, ez57]
               ·rcases Ud gz48 with gz48a | ⟨gz48a, gz48b⟩
                ·try simp only [go_sem, n1, n2, n3, n4, z2, gz22, hz22, gz23, hz23, gz24, hz24, gz25, hz25, gz26anaaaaaaaaan, gz26anaaaaaaaabn, gz26anaaaaaaabn, gz26anaaaaaabn, gz26anaaaaabn, gz26anaaaabn, gz26anaaabn, gz26anaabn, gz26anabn, gz26anbn, gz26bn, gz27, hz27, gz28, hz28, gz29, hz29, gz30, hz30, gz31, hz31, z32, z33] at gz48a
                 all_goals
                 rcases AF h with ⟨z49, h⟩ | ⟨z49, h⟩
                 ·try simp only [go_sem, n1, n2, n3, n4, z2, gz22, hz22, gz23, hz23, gz24, hz24, gz25, hz25, gz26anaaaaaaaaan, gz26anaaaaaaaabn, gz26anaaaaaaabn, gz26anaaaaaabn, gz26anaaaaabn, gz26anaaaabn, gz26anaaabn, gz26anaabn, gz26anabn, gz26anbn, gz26bn, gz27, hz27, gz28, hz28, gz29, hz29, gz30, hz30, gz31, hz31, z32, z33, gz48a] at z49
                  all_goals
                  (simp_all)
                 ·try simp only [go_sem, n1, n2, n3, n4, z2, gz22, hz22, gz23, hz23, gz24, hz24, gz25, hz25, gz26anaaaaaaaaan, gz26anaaaaaaaabn, gz26anaaaaaaabn, gz26anaaaaaabn, gz26anaaaaabn, gz26anaaaabn, gz26anaaabn, gz26anaabn, gz26anabn, gz26anbn, gz26bn, gz27, hz27, gz28, hz28, gz29, hz29, gz30, hz30, gz31, hz31, z32, z33, gz48a] at z49
                  all_goals
                  rcases AF h with ⟨z50, h⟩ | ⟨z50, h⟩
                  ·try simp only [go_sem, n1, n2, n3, n4, z2, gz22, hz22, gz23, hz23, gz24, hz24, gz25, hz25, gz26anaaaaaaaaan, gz26anaaaaaaaabn, gz26anaaaaaaabn, gz26anaaaaaabn, gz26anaaaaabn, gz26anaaaabn, gz26anaaabn, gz26anaabn, gz26anabn, gz26anbn, gz26bn, gz27, hz27, gz28, hz28, gz29, hz29, gz30, hz30, gz31, hz31, z32, z33, gz48a, z49] at z50
                   all_goals
                   obtain rfl := AC h
                   refine ⟨0, fun L hL => ?_⟩
                   simp only [go_sem, fz1, z2, fz3, fz4, fz5, fz6, fz7, fz8, fz9, fz10, fz11, fz12, fz13, fz14, fz15, fz16, fz17, fz18, fz19, fz20, fz21, gz22, hz22, fz22, gz23, hz23, fz23, gz24, hz24, fz24, gz25, hz25, fz25, gz26anaaaaaaaaan, gz26anaaaaaaaabn, gz26anaaaaaaabn, gz26anaaaaaabn, gz26anaaaaabn, gz26anaaaabn, gz26anaaabn, gz26anaabn, gz26anabn, gz26anbn, gz26bn, gz27, hz27, fz27, gz28, hz28, fz28, gz29, hz29, fz29, gz30, hz30, fz30, gz31, hz31, fz31, z32, z33, gz48a, z49, z50]
                  ·try simp only [go_sem, n1, n2, n3, n4, z2, gz22, hz22, gz23, hz23, gz24, hz24, gz25, hz25, gz26anaaaaaaaaan, gz26anaaaaaaaabn, gz26anaaaaaaabn, gz26anaaaaaabn, gz26anaaaaabn, gz26anaaaabn, gz26anaaabn, gz26anaabn, gz26anabn, gz26anbn, gz26bn, gz27, hz27, gz28, hz28, gz29, hz29, gz30, hz30, gz31, hz31, z32, z33, gz48a, z49] at z50
                   all_goals
                   obtain ⟨y_57, z57, h⟩ := AE h
                   obtain ⟨Lz57, ez57⟩ := Fb z57
                   rcases y_57 with y_57a | y_57b
                   all_goals
                   dsimp only at h
                   obtain rfl := AC h
                   refine ⟨Lz57, fun L hL => ?_⟩
                   have ez57 := ez57 L (by omega)
                   try simp only [go_sem, z2, gz22, hz22, gz23, hz23, gz24, hz24, gz25, hz25, gz26anaaaaaaaaan, gz26anaaaaaaaabn, gz26anaaaaaaabn, gz26anaaaaaabn, gz26anaaaaabn, gz26anaaaabn, gz26anaaabn, gz26anaabn, gz26anabn, gz26anbn, gz26bn, gz27, hz27, gz28, hz28, gz29, hz29, gz30, hz30, gz31, hz31, z32, z33, gz48a, z49, z50] at ez57
                   simp only [go_sem, fz1, z2, fz3, fz4, fz5, fz6, fz7, fz8, fz9, fz10, fz11, fz12, fz13, fz14, fz15, fz16, fz17, fz18, fz19, fz20, fz21, gz22, hz22, fz22, gz23, hz23, fz23, gz24, hz24, fz24, gz25, hz25, fz25, gz26anaaaaaaaaan, gz26anaaaaaaaabn, gz26anaaaaaaabn, gz26anaaaaaabn, gz26anaaaaabn, gz26anaaaabn, gz26anaaabn, gz26anaabn, gz26anabn, gz26anbn, gz26bn, gz27, hz27, fz27, gz28, hz28, fz28, gz29, hz29, fz29, gz30, hz30, fz30, gz31, hz31, fz31, z32, z33, gz48a, z49, z50, ez57]
                ·have gz48bn := BH gz48b
                 have gz48bnn := Fj gz48bn
                 try simp only [go_sem, n1, n2, n3, n4, z2, gz22, hz22, gz23, hz23, gz24, hz24, gz25, hz25, gz26anaaaaaaaaan, gz26anaaaaaaaabn, gz26anaaaaaaabn, gz26anaaaaaabn, gz26anaaaaabn, gz26anaaaabn, gz26anaaabn, gz26anaabn, gz26anabn, gz26anbn, gz26bn, gz27, hz27, gz28, hz28, gz29, hz29, gz30, hz30, gz31, hz31, z32, z33] at gz48a
                 all_goals
                 try simp only [go_sem, n1, n2, n3, n4, z2, gz22, hz22, gz23, hz23, gz24, hz24, gz25, hz25, gz26anaaaaaaaaan, gz26anaaaaaaaabn, gz26anaaaaaaabn, gz26anaaaaaabn, gz26anaaaaabn, gz26anaaaabn, gz26anaaabn, gz26anaabn, gz26anabn, gz26anbn, gz26bn, gz27, hz27, gz28, hz28, gz29, hz29, gz30, hz30, gz31, hz31, z32, z33, gz48a] at gz48bnn
                 all_goals
                 rcases AF h with ⟨z49, h⟩ | ⟨z49, h⟩
                 ·try simp only [go_sem, n1, n2, n3, n4, z2, gz22, hz22, gz23, hz23, gz24, hz24, gz25, hz25, gz26anaaaaaaaaan, gz26anaaaaaaaabn, gz26anaaaaaaabn, gz26anaaaaaabn, gz26anaaaaabn, gz26anaaaabn, gz26anaaabn, gz26anaabn, gz26anabn, gz26anbn, gz26bn, gz27, hz27, gz28, hz28, gz29, hz29, gz30, hz30, gz31, hz31, z32, z33, gz48a, gz48bnn] at z49
                  all_goals
                  obtain rfl := AC h
                  refine ⟨0, fun L hL => ?_⟩
                  simp only [go_sem, fz1, z2, fz3, fz4, fz5, fz6, fz7, fz8, fz9, fz10, fz11, fz12, fz13, fz14, fz15, fz16, fz17, fz18, fz19, fz20, fz21, gz22, hz22, fz22, gz23, hz23, fz23, gz24, hz24, fz24, gz25, hz25, fz25, gz26anaaaaaaaaan, gz26anaaaaaaaabn, gz26anaaaaaaabn, gz26anaaaaaabn, gz26anaaaaabn, gz26anaaaabn, gz26anaaabn, gz26anaabn, gz26anabn, gz26anbn, gz26bn, gz27, hz27, fz27, gz28, hz28, fz28, gz29, hz29, fz29, gz30, hz30, fz30, gz31, hz31, fz31, z32, z33, gz48a, gz48bnn, z49]
                 ·try simp only [go_sem, n1, n2, n3, n4, z2, gz22, hz22, gz23, hz23, gz24, hz24, gz25, hz25, gz26anaaaaaaaaan, gz26anaaaaaaaabn, gz26anaaaaaaabn, gz26anaaaaaabn, gz26anaaaaabn, gz26anaaaabn, gz26anaaabn, gz26anaabn, gz26anabn, gz26anbn, gz26bn, gz27, hz27, gz28, hz28, gz29, hz29, gz30, hz30, gz31, hz31, z32, z33, gz48a, gz48bnn] at z49
                  all_goals
                  (simp_all)
            ·have gz31n := BH gz31
             try simp only [go_sem, n1, n2, n3, n4, z2, gz22, hz22, gz23, hz23, gz24, hz24, gz25, hz25, gz26anaaaaaaaaan, gz26anaaaaaaaabn, gz26anaaaaaaabn, gz26anaaaaaabn, gz26anaaaaabn, gz26anaaaabn, gz26anaaabn, gz26anaabn, gz26anabn, gz26anbn, gz26bn, gz27, hz27, gz28, hz28, gz29, hz29, gz30, hz30] at gz31n
             all_goals
             rcases AF h with ⟨z32, h⟩ | ⟨z32, h⟩
             ·try simp only [go_sem, n1, n2, n3, n4, z2, gz22, hz22, gz23, hz23, gz24, hz24, gz25, hz25, gz26anaaaaaaaaan, gz26anaaaaaaaabn, gz26anaaaaaaabn, gz26anaaaaaabn, gz26anaaaaabn, gz26anaaaabn, gz26anaaabn, gz26anaabn, gz26anabn, gz26anbn, gz26bn, gz27, hz27, gz28, hz28, gz29, hz29, gz30, hz30, gz31n] at z32
              all_goals
              obtain rfl := AC h
              refine ⟨0, fun L hL => ?_⟩
              simp only [go_sem, fz1, z2, fz3, fz4, fz5, fz6, fz7, fz8, fz9, fz10, fz11, fz12, fz13, fz14, fz15, fz16, fz17, fz18, fz19, fz20, fz21, gz22, hz22, fz22, gz23, hz23, fz23, gz24, hz24, fz24, gz25, hz25, fz25, gz26anaaaaaaaaan, gz26anaaaaaaaabn, gz26anaaaaaaabn, gz26anaaaaaabn, gz26anaaaaabn, gz26anaaaabn, gz26anaaabn, gz26anaabn, gz26anabn, gz26anbn, gz26bn, gz27, hz27, fz27, gz28, hz28, fz28, gz29, hz29, fz29, gz30, hz30, fz30, gz31n, z32]
             ·try simp only [go_sem, n1, n2, n3, n4, z2, gz22, hz22, gz23, hz23, gz24, hz24, gz25, hz25, gz26anaaaaaaaaan, gz26anaaaaaaaabn, gz26anaaaaaaabn, gz26anaaaaaabn, gz26anaaaaabn, gz26anaaaabn, gz26anaaabn, gz26anaabn, gz26anabn, gz26anbn, gz26bn, gz27, hz27, gz28, hz28, gz29, hz29, gz30, hz30, gz31n] at z32
              all_goals
              (simp_all)
           ·have gz30n := BH gz30
            try simp only [go_sem, n1, n2, n3, n4, z2, gz22, hz22, gz23, hz23, gz24, hz24, gz25, hz25, gz26anaaaaaaaaan, gz26anaaaaaaaabn, gz26anaaaaaaabn, gz26anaaaaaabn, gz26anaaaaabn, gz26anaaaabn, gz26anaaabn, gz26anaabn, gz26anabn, gz26anbn, gz26bn, gz27, hz27, gz28, hz28, gz29, hz29] at gz30n
            all_goals
            obtain ⟨z31, h⟩ := AD h
            rcases AF h with ⟨z32, h⟩ | ⟨z32, h⟩
            ·try simp only [go_sem, n1, n2, n3, n4, z2, gz22, hz22, gz23, hz23, gz24, hz24, gz25, hz25, gz26anaaaaaaaaan, gz26anaaaaaaaabn, gz26anaaaaaaabn, gz26anaaaaaabn, gz26anaaaaabn, gz26anaaaabn, gz26anaaabn, gz26anaabn, gz26anabn, gz26anbn, gz26bn, gz27, hz27, gz28, hz28, gz29, hz29, gz30n] at z32
             all_goals
             obtain rfl := AC h
             refine ⟨0, fun L hL => ?_⟩
             simp only [go_sem, fz1, z2, fz3, fz4, fz5, fz6, fz7, fz8, fz9, fz10, fz11, fz12, fz13, fz14, fz15, fz16, fz17, fz18, fz19, fz20, fz21, gz22, hz22, fz22, gz23, hz23, fz23, gz24, hz24, fz24, gz25, hz25, fz25, gz26anaaaaaaaaan, gz26anaaaaaaaabn, gz26anaaaaaaabn, gz26anaaaaaabn, gz26anaaaaabn, gz26anaaaabn, gz26anaaabn, gz26anaabn, gz26anabn, gz26anbn, gz26bn, gz27, hz27, fz27, gz28, hz28, fz28, gz29, hz29, fz29, gz30n, z32]
            ·try simp only [go_sem, n1, n2, n3, n4, z2, gz22, hz22, gz23, hz23, gz24, hz24, gz25, hz25, gz26anaaaaaaaaan, gz26anaaaaaaaabn, gz26anaaaaaaabn, gz26anaaaaaabn, gz26anaaaaabn, gz26anaaaabn, gz26anaaabn, gz26anaabn, gz26anabn, gz26anbn, gz26bn, gz27, hz27, gz28, hz28, gz29, hz29, gz30n] at z32
             all_goals
             (simp_all)
          ·have gz29n := BH gz29
           try simp only [go_sem, n1, n2, n3, n4, z2, gz22, hz22, gz23, hz23, gz24, hz24, gz25, hz25, gz26anaaaaaaaaan, gz26anaaaaaaaabn, gz26anaaaaaaabn, gz26anaaaaaabn, gz26anaaaaabn, gz26anaaaabn, gz26anaaabn, gz26anaabn, gz26anabn, gz26anbn, gz26bn, gz27, hz27, gz28, hz28] at gz29n
           all_goals
           obtain ⟨z30, h⟩ := AD h
           obtain ⟨z31, h⟩ := AD h
           rcases AF h with ⟨z32, h⟩ | ⟨z32, h⟩
           ·try simp only [go_sem, n1, n2, n3, n4, z2, gz22, hz22, gz23, hz23, gz24, hz24, gz25, hz25, gz26anaaaaaaaaan, gz26anaaaaaaaabn, gz26anaaaaaaabn, gz26anaaaaaabn, gz26anaaaaabn, gz26anaaaabn, gz26anaaabn, gz26anaabn, gz26anabn, gz26anbn, gz26bn, gz27, hz27, gz28, hz28, gz29n] at z32
            all_goals
            obtain rfl := AC h
            refine ⟨0, fun L hL => ?_⟩
            simp only [go_sem, fz1, z2, fz3, fz4, fz5, fz6, fz7, fz8, fz9, fz10, fz11, fz12, fz13, fz14, fz15, fz16, fz17, fz18, fz19, fz20, fz21, gz22, hz22, fz22, gz23, hz23, fz23, gz24, hz24, fz24, gz25, hz25, fz25, gz26anaaaaaaaaan, gz26anaaaaaaaabn, gz26anaaaaaaabn, gz26anaaaaaabn, gz26anaaaaabn, gz26anaaaabn, gz26anaaabn, gz26anaabn, gz26anabn, gz26anbn, gz26bn, gz27, hz27, fz27, gz28, hz28, fz28, gz29n, z32]
           ·try simp only [go_sem, n1, n2, n3, n4, z2, gz22, hz22, gz23, hz23, gz24, hz24, gz25, hz25, gz26anaaaaaaaaan, gz26anaaaaaaaabn, gz26anaaaaaaabn, gz26anaaaaaabn, gz26anaaaaabn, gz26anaaaabn, gz26anaaabn, gz26anaabn, gz26anabn, gz26anbn, gz26bn, gz27, hz27, gz28, hz28, gz29n] at z32
            all_goals
            (simp_all)
         ·have gz28n := BH gz28
          try simp only [go_sem, n1, n2, n3, n4, z2, gz22, hz22, gz23, hz23, gz24, hz24, gz25, hz25, gz26anaaaaaaaaan, gz26anaaaaaaaabn, gz26anaaaaaaabn, gz26anaaaaaabn, gz26anaaaaabn, gz26anaaaabn, gz26anaaabn, gz26anaabn, gz26anabn, gz26anbn, gz26bn, gz27, hz27] at gz28n
          all_goals
          obtain ⟨z29, h⟩ := AD h
          obtain ⟨z30, h⟩ := AD h
          obtain ⟨z31, h⟩ := AD h
          rcases AF h with ⟨z32, h⟩ | ⟨z32, h⟩
          ·try simp only [go_sem, n1, n2, n3, n4, z2, gz22, hz22, gz23, hz23, gz24, hz24, gz25, hz25, gz26anaaaaaaaaan, gz26anaaaaaaaabn, gz26anaaaaaaabn, gz26anaaaaaabn, gz26anaaaaabn, gz26anaaaabn, gz26anaaabn, gz26anaabn, gz26anabn, gz26anbn, gz26bn, gz27, hz27, gz28n] at z32
           all_goals
           obtain rfl := AC h
           refine ⟨0, fun L hL => ?_⟩
           simp only [go_sem, fz1, z2, fz3, fz4, fz5, fz6, fz7, fz8, fz9, fz10, fz11, fz12, fz13, fz14, fz15, fz16, fz17, fz18, fz19, fz20, fz21, gz22, hz22, fz22, gz23, hz23, fz23, gz24, hz24, fz24, gz25, hz25, fz25, gz26anaaaaaaaaan, gz26anaaaaaaaabn, gz26anaaaaaaabn, gz26anaaaaaabn, gz26anaaaaabn, gz26anaaaabn, gz26anaaabn, gz26anaabn, gz26anabn, gz26anbn, gz26bn, gz27, hz27, fz27, gz28n, z32]
          ·try simp only [go_sem, n1, n2, n3, n4, z2, gz22, hz22, gz23, hz23, gz24, hz24, gz25, hz25, gz26anaaaaaaaaan, gz26anaaaaaaaabn, gz26anaaaaaaabn, gz26anaaaaaabn, gz26anaaaaabn, gz26anaaaabn, gz26anaaabn, gz26anaabn, gz26anabn, gz26anbn, gz26bn, gz27, hz27, gz28n] at z32
           all_goals
           (simp_all)
        ·have gz27n := BH gz27
         try simp only [go_sem, n1, n2, n3, n4, z2, gz22, hz22, gz23, hz23, gz24, hz24, gz25, hz25, gz26anaaaaaaaaan, gz26anaaaaaaaabn, gz26anaaaaaaabn, gz26anaaaaaabn, gz26anaaaaabn, gz26anaaaabn, gz26anaaabn, gz26anaabn, gz26anabn, gz26anbn, gz26bn] at gz27n
         all_goals
         obtain ⟨z28, h⟩ := AD h
         obtain ⟨z29, h⟩ := AD h
         obtain ⟨z30, h⟩ := AD h
         obtain ⟨z31, h⟩ := AD h
         rcases AF h with ⟨z32, h⟩ | ⟨z32, h⟩
         ·try simp only [go_sem, n1, n2, n3, n4, z2, gz22, hz22, gz23, hz23, gz24, hz24, gz25, hz25, gz26anaaaaaaaaan, gz26anaaaaaaaabn, gz26anaaaaaaabn, gz26anaaaaaabn, gz26anaaaaabn, gz26anaaaabn, gz26anaaabn, gz26anaabn, gz26anabn, gz26anbn, gz26bn, gz27n] at z32
          all_goals
          obtain rfl := AC h
          refine ⟨0, fun L hL => ?_⟩
          simp only [go_sem, fz1, z2, fz3, fz4, fz5, fz6, fz7, fz8, fz9, fz10, fz11, fz12, fz13, fz14, fz15, fz16, fz17, fz18, fz19, fz20, fz21, gz22, hz22, fz22, gz23, hz23, fz23, gz24, hz24, fz24, gz25, hz25, fz25, gz26anaaaaaaaaan, gz26anaaaaaaaabn, gz26anaaaaaaabn, gz26anaaaaaabn, gz26anaaaaabn, gz26anaaaabn, gz26anaaabn, gz26anaabn, gz26anabn, gz26anbn, gz26bn, gz27n, z32]
         ·try simp only [go_sem, n1, n2, n3, n4, z2, gz22, hz22, gz23, hz23, gz24, hz24, gz25, hz25, gz26anaaaaaaaaan, gz26anaaaaaaaabn, gz26anaaaaaaabn, gz26anaaaaaabn, gz26anaaaaabn, gz26anaaaabn, gz26anaaabn, gz26anaabn, gz26anabn, gz26anbn, gz26bn, gz27n] at z32
          all_goals
          (simp_all)
     ·have gz25n := BH gz25
      rcases JA gz25n with gz25na | ⟨gz25na, gz25nb⟩
      ·rcases JA gz25na with gz25naa | ⟨gz25naa, gz25nab⟩
       ·rcases JA gz25naa with gz25naaa | ⟨gz25naaa, gz25naab⟩
        ·try simp only [go_sem, n1, n2, n3, n4, z2, gz22, hz22, gz23, hz23, gz24, hz24] at gz25naaa
         all_goals
         (simp_all)
        ·obtain ⟨gz25naaaa, gz25naaab⟩ := Dh gz25naaa
         obtain ⟨gz25naaaaa, gz25naaaab⟩ := Dh gz25naaaa
         obtain ⟨gz25naaaaaa, gz25naaaaab⟩ := Dh gz25naaaaa
         obtain ⟨gz25naaaaaaa, gz25naaaaaab⟩ := Dh gz25naaaaaa
         have gz25naaaaaaan := BH gz25naaaaaaa
         have gz25naaaaaabn := BH gz25naaaaaab
         have gz25naaaaabn := BH gz25naaaaab
         have gz25naaaabn := BH gz25naaaab
         have gz25naaabn := BH gz25naaab
         have gz25naabn := Fj gz25naab
         try simp only [go_sem, n1, n2, n3, n4, z2, gz22, hz22, gz23, hz23, gz24, hz24] at gz25naaaaaaan
         all_goals
         try simp only [go_sem, n1, n2, n3, n4, z2, gz22, hz22, gz23, hz23, gz24, hz24, gz25naaaaaaan] at gz25naaaaaabn
         all_goals
         try simp only [go_sem, n1, n2, n3, n4, z2, gz22, hz22, gz23, hz23, gz24, hz24, gz25naaaaaaan, gz25naaaaaabn] at gz25naaaaabn
         all_goals
         try simp only [go_sem, n1, n2, n3, n4, z2, gz22, hz22, gz23, hz23, gz24, hz24, gz25naaaaaaan, gz25naaaaaabn, gz25naaaaabn] at gz25naaaabn
         all_goals
         try simp only [go_sem, n1, n2, n3, n4, z2, gz22, hz22, gz23, hz23, gz24, hz24, gz25naaaaaaan, gz25naaaaaabn, gz25naaaaabn, gz25naaaabn] at gz25naaabn
         all_goals
         try simp only [go_sem, n1, n2, n3, n4, z2, gz22, hz22, gz23, hz23, gz24, hz24, gz25naaaaaaan, gz25naaaaaabn, gz25naaaaabn, gz25naaaabn, gz25naaabn] at gz25naabn
         all_goals
         obtain ⟨z26, h⟩ := AD h
         obtain ⟨z27, h⟩ := AD h
         obtain ⟨z28, h⟩ := AD h
         obtain ⟨z29, h⟩ := AD h
         obtain ⟨z30, h⟩ := AD h
         obtain ⟨z31, h⟩ := AD h
         rcases AF h with ⟨z32, h⟩ | ⟨z32, h⟩
         ·try simp only [go_sem, n1, n2, n3, n4, z2, gz22, hz22, gz23, hz23, gz24, hz24, gz25naaaaaaan, gz25naaaaaabn, gz25naaaaabn, gz25naaaabn, gz25naaabn, gz25naabn] at z32
          all_goals
          obtain rfl := AC h
          refine ⟨0, fun L hL => ?_⟩
          simp only [go_sem, fz1, z2, fz3, fz4, fz5, fz6, fz7, fz8, fz9, fz10, fz11, fz12, fz13, fz14, fz15, fz16, fz17, fz18, fz19, fz20, fz21, gz22, hz22, fz22, gz23, hz23, fz23, gz24, hz24, fz24, gz25naaaaaaan, gz25naaaaaabn, gz25naaaaabn, gz25naaaabn, gz25naaabn, gz25naabn, z32]
         ·try simp only [go_sem, n1, n2, n3, n4, z2, gz22, hz22, gz23, hz23, gz24, hz24, gz25naaaaaaan, gz25naaaaaabn, gz25naaaaabn, gz25naaaabn, gz25naaabn, gz25naabn] at z32
          all_goals
          (simp_all)
       ·obtain ⟨gz25naaa, gz25naab⟩ := Dh gz25naa
        obtain ⟨gz25naaaa, gz25naaab⟩ := Dh gz25naaa
        obtain ⟨gz25naaaaa, gz25naaaab⟩ := Dh gz25naaaa
        obtain ⟨gz25naaaaaa, gz25naaaaab⟩ := Dh gz25naaaaa
        obtain ⟨gz25naaaaaaa, gz25naaaaaab⟩ := Dh gz25naaaaaa
        have gz25naaaaaaan := BH gz25naaaaaaa
        have gz25naaaaaabn := BH gz25naaaaaab
        have gz25naaaaabn := BH gz25naaaaab
        have gz25naaaabn := BH gz25naaaab
        have gz25naaabn := BH gz25naaab
        have gz25naabn := BH gz25naab
        have gz25nabn := Fj gz25nab
        try simp only [go_sem, n1, n2, n3, n4, z2, gz22, hz22, gz23, hz23, gz24, hz24] at gz25naaaaaaan
        all_goals
        try simp only [go_sem, n1, n2, n3, n4, z2, gz22, hz22, gz23, hz23, gz24, hz24, gz25naaaaaaan] at gz25naaaaaabn
        all_goals
        try simp only [go_sem, n1, n2, n3, n4, z2, gz22, hz22, gz23, hz23, gz24, hz24, gz25naaaaaaan, gz25naaaaaabn] at gz25naaaaabn
        all_goals
        try simp only [go_sem, n1, n2, n3, n4, z2, gz22, hz22, gz23, hz23, gz24, hz24, gz25naaaaaaan, gz25naaaaaabn, gz25naaaaabn] at gz25naaaabn
        all_goals
        try simp only [go_sem, n1, n2, n3, n4, z2, gz22, hz22, gz23, hz23, gz24, hz24, gz25naaaaaaan, gz25naaaaaabn, gz25naaaaabn, gz25naaaabn] at gz25naaabn
        all_goals
        try simp only [go_sem, n1, n2, n3, n4, z2, gz22, hz22, gz23, hz23, gz24, hz24, gz25naaaaaaan, gz25naaaaaabn, gz25naaaaabn, gz25naaaabn, gz25naaabn] at gz25naabn
        all_goals
        try simp only [go_sem, n1, n2, n3, n4, z2, gz22, hz22, gz23, hz23, gz24, hz24, gz25naaaaaaan, gz25naaaaaabn, gz25naaaaabn, gz25naaaabn, gz25naaabn, gz25naabn] at gz25nabn
        all_goals
        obtain ⟨z26, h⟩ := AD h
        obtain ⟨z27, h⟩ := AD h
        obtain ⟨z28, h⟩ := AD h
        obtain ⟨z29, h⟩ := AD h
        obtain ⟨z30, h⟩ := AD h
        obtain ⟨z31, h⟩ := AD h
        rcases AF h with ⟨z32, h⟩ | ⟨z32, h⟩
        ·try simp only [go_sem, n1, n2, n3, n4, z2, gz22, hz22, gz23, hz23, gz24, hz24, gz25naaaaaaan, gz25naaaaaabn, gz25naaaaabn, gz25naaaabn, gz25naaabn, gz25naabn, gz25nabn] at z32
         all_goals
         obtain rfl := AC h
         refine ⟨0, fun L hL => ?_⟩
         simp only [go_sem, fz1, z2, fz3, fz4, fz5, fz6, fz7, fz8, fz9, fz10, fz11, fz12, fz13, fz14, fz15, fz16, fz17, fz18, fz19, fz20, fz21, gz22, hz22, fz22, gz23, hz23, fz23, gz24, hz24, fz24, gz25naaaaaaan, gz25naaaaaabn, gz25naaaaabn, gz25naaaabn, gz25naaabn, gz25naabn, gz25nabn, z32]
        ·try simp only [go_sem, n1, n2, n3, n4, z2, gz22, hz22, gz23, hz23, gz24, hz24, gz25naaaaaaan, gz25naaaaaabn, gz25naaaaabn, gz25naaaabn, gz25naaabn, gz25naabn, gz25nabn] at z32
         all_goals
         (simp_all)
      ·obtain ⟨gz25naa, gz25nab⟩ := Dh gz25na
       obtain ⟨gz25naaa, gz25naab⟩ := Dh gz25naa
       obtain ⟨gz25naaaa, gz25naaab⟩ := Dh gz25naaa
       obtain ⟨gz25naaaaa, gz25naaaab⟩ := Dh gz25naaaa
       obtain ⟨gz25naaaaaa, gz25naaaaab⟩ := Dh gz25naaaaa
       obtain ⟨gz25naaaaaaa, gz25naaaaaab⟩ := Dh gz25naaaaaa
       have gz25naaaaaaan := BH gz25naaaaaaa
       have gz25naaaaaabn := BH gz25naaaaaab
       have gz25naaaaabn := BH gz25naaaaab
       have gz25naaaabn := BH gz25naaaab
       have gz25naaabn := BH gz25naaab
       have gz25naabn := BH gz25naab
       have gz25nabn := BH gz25nab
       have gz25nbn := Fj gz25nb
       try simp only [go_sem, n1, n2, n3, n4, z2, gz22, hz22, gz23, hz23, gz24, hz24] at gz25naaaaaaan
       all_goals
       try simp only [go_sem, n1, n2, n3, n4, z2, gz22, hz22, gz23, hz23, gz24, hz24, gz25naaaaaaan] at gz25naaaaaabn
       all_goals
       try simp only [go_sem, n1, n2, n3, n4, z2, gz22, hz22, gz23, hz23, gz24, hz24, gz25naaaaaaan, gz25naaaaaabn] at gz25naaaaabn
       all_goals
       try simp only [go_sem, n1, n2, n3, n4, z2, gz22, hz22, gz23, hz23, gz24, hz24, gz25naaaaaaan, gz25naaaaaabn, gz25naaaaabn] at gz25naaaabn
       all_goals
       try simp only [go_sem, n1, n2, n3, n4, z2, gz22, hz22, gz23, hz23, gz24, hz24, gz25naaaaaaan, gz25naaaaaabn, gz25naaaaabn, gz25naaaabn] at gz25naaabn
       all_goals
       try simp only [go_sem, n1, n2, n3, n4, z2, gz22, hz22, gz23, hz23, gz24, hz24, gz25naaaaaaan, gz25naaaaaabn, gz25naaaaabn, gz25naaaabn, gz25naaabn] at gz25naabn
       all_goals
       try simp only [go_sem, n1, n2, n3, n4, z2, gz22, hz22, gz23, hz23, gz24, hz24, gz25naaaaaaan, gz25naaaaaabn, gz25naaaaabn, gz25naaaabn, gz25naaabn, gz25naabn] at gz25nabn
       all_goals
       try simp only [go_sem, n1, n2, n3, n4, z2, gz22, hz22, gz23, hz23, gz24, hz24, gz25naaaaaaan, gz25naaaaaabn, gz25naaaaabn, gz25naaaabn, gz25naaabn, gz25naabn, gz25nabn] at gz25nbn
       all_goals
       obtain ⟨z26, h⟩ := AD h
       obtain ⟨z27, h⟩ := AD h
       obtain ⟨z28, h⟩ := AD h
       obtain ⟨z29, h⟩ := AD h
       obtain ⟨z30, h⟩ := AD h
       obtain ⟨z31, h⟩ := AD h
       rcases AF h with ⟨z32, h⟩ | ⟨z32, h⟩
       ·try simp only [go_sem, n1, n2, n3, n4, z2, gz22, hz22, gz23, hz23, gz24, hz24, gz25naaaaaaan, gz25naaaaaabn, gz25naaaaabn, gz25naaaabn, gz25naaabn, gz25naabn, gz25nabn, gz25nbn] at z32
        all_goals
        obtain rfl := AC h
        refine ⟨0, fun L hL => ?_⟩
        simp only [go_sem, fz1, z2, fz3, fz4, fz5, fz6, fz7, fz8, fz9, fz10, fz11, fz12, fz13, fz14, fz15, fz16, fz17, fz18, fz19, fz20, fz21, gz22, hz22, fz22, gz23, hz23, fz23, gz24, hz24, fz24, gz25naaaaaaan, gz25naaaaaabn, gz25naaaaabn, gz25naaaabn, gz25naaabn, gz25naabn, gz25nabn, gz25nbn, z32]
       ·try simp only [go_sem, n1, n2, n3, n4, z2, gz22, hz22, gz23, hz23, gz24, hz24, gz25naaaaaaan, gz25naaaaaabn, gz25naaaaabn, gz25naaaabn, gz25naaabn, gz25naabn, gz25nabn, gz25nbn] at z32
        all_goals
        (simp_all)
    ·have gz24n := BH gz24
     rcases JA gz24n with gz24na | ⟨gz24na, gz24nb⟩
     ·rcases JA gz24na with gz24naa | ⟨gz24naa, gz24nab⟩
      ·try simp only [go_sem, n1, n2, n3, n4, z2, gz22, hz22, gz23, hz23] at gz24naa
       all_goals
       (simp_all)
      ·obtain ⟨gz24naaa, gz24naab⟩ := Dh gz24naa
       obtain ⟨gz24naaaa, gz24naaab⟩ := Dh gz24naaa
       have gz24naaaan := BH gz24naaaa
       have gz24naaabn := BH gz24naaab
       have gz24naabn := BH gz24naab
       have gz24nabn := Fj gz24nab
       try simp only [go_sem, n1, n2, n3, n4, z2, gz22, hz22, gz23, hz23] at gz24naaaan
       all_goals
       try simp only [go_sem, n1, n2, n3, n4, z2, gz22, hz22, gz23, hz23, gz24naaaan] at gz24naaabn
       all_goals
       try simp only [go_sem, n1, n2, n3, n4, z2, gz22, hz22, gz23, hz23, gz24naaaan, gz24naaabn] at gz24naabn
       all_goals
       try simp only [go_sem, n1, n2, n3, n4, z2, gz22, hz22, gz23, hz23, gz24naaaan, gz24naaabn, gz24naabn] at gz24nabn
       all_goals
       obtain ⟨z25, h⟩ := AD h
       obtain ⟨z26, h⟩ := AD h
       obtain ⟨z27, h⟩ := AD h
       obtain ⟨z28, h⟩ := AD h
       obtain ⟨z29, h⟩ := AD h
       obtain ⟨z30, h⟩ := AD h
       obtain ⟨z31, h⟩ := AD h
       rcases AF h with ⟨z32, h⟩ | ⟨z32, h⟩
       ·try simp only [go_sem, n1, n2, n3, n4, z2, gz22, hz22, gz23, hz23, gz24naaaan, gz24naaabn, gz24naabn, gz24nabn] at z32
        all_goals
        obtain rfl := AC h
        refine ⟨0, fun L hL => ?_⟩
        simp only [go_sem, fz1, z2, fz3, fz4, fz5, fz6, fz7, fz8, fz9, fz10, fz11, fz12, fz13, fz14, fz15, fz16, fz17, fz18, fz19, fz20, fz21, gz22, hz22, fz22, gz23, hz23, fz23, gz24naaaan, gz24naaabn, gz24naabn, gz24nabn, z32]
       ·try simp only [go_sem, n1, n2, n3, n4, z2, gz22, hz22, gz23, hz23, gz24naaaan, gz24naaabn, gz24naabn, gz24nabn] at z32
        all_goals
        (simp_all)
     ·obtain ⟨gz24naa, gz24nab⟩ := Dh gz24na
      obtain ⟨gz24naaa, gz24naab⟩ := Dh gz24naa
      obtain ⟨gz24naaaa, gz24naaab⟩ := Dh gz24naaa
      have gz24naaaan := BH gz24naaaa
      have gz24naaabn := BH gz24naaab
      have gz24naabn := BH gz24naab
      have gz24nabn := BH gz24nab
      have gz24nbn := Fj gz24nb
      try simp only [go_sem, n1, n2, n3, n4, z2, gz22, hz22, gz23, hz23] at gz24naaaan
      all_goals
      try simp only [go_sem, n1, n2, n3, n4, z2, gz22, hz22, gz23, hz23, gz24naaaan] at gz24naaabn
      all_goals
      try simp only [go_sem, n1, n2, n3, n4, z2, gz22, hz22, gz23, hz23, gz24naaaan, gz24naaabn] at gz24naabn
      all_goals
      try simp only [go_sem, n1, n2, n3, n4, z2, gz22, hz22, gz23, hz23, gz24naaaan, gz24naaabn, gz24naabn] at gz24nabn
      all_goals
      try simp only [go_sem, n1, n2, n3, n4, z2, gz22, hz22, gz23, hz23, gz24naaaan, gz24naaabn, gz24naabn, gz24nabn] at gz24nbn
      all_goals
      obtain ⟨z25, h⟩ := AD h
      obtain ⟨z26, h⟩ := AD h
      obtain ⟨z27, h⟩ := AD h
      obtain ⟨z28, h⟩ := AD h
      obtain ⟨z29, h⟩ := AD h
      obtain ⟨z30, h⟩ := AD h
      obtain ⟨z31, h⟩ := AD h
      rcases AF h with ⟨z32, h⟩ | ⟨z32, h⟩
      ·try simp only [go_sem, n1, n2, n3, n4, z2, gz22, hz22, gz23, hz23, gz24naaaan, gz24naaabn, gz24naabn, gz24nabn, gz24nbn] at z32
       all_goals
       obtain rfl := AC h
       refine ⟨0, fun L hL => ?_⟩
       simp only [go_sem, fz1, z2, fz3, fz4, fz5, fz6, fz7, fz8, fz9, fz10, fz11, fz12, fz13, fz14, fz15, fz16, fz17, fz18, fz19, fz20, fz21, gz22, hz22, fz22, gz23, hz23, fz23, gz24naaaan, gz24naaabn, gz24naabn, gz24nabn, gz24nbn, z32]
      ·try simp only [go_sem, n1, n2, n3, n4, z2, gz22, hz22, gz23, hz23, gz24naaaan, gz24naaabn, gz24naabn, gz24nabn, gz24nbn] at z32
       all_goals
       (simp_all)
   ·have gz23n := BH gz23
    rcases JA gz23n with gz23na | ⟨gz23na, gz23nb⟩
    ·rcases JA gz23na with gz23naa | ⟨gz23naa, gz23nab⟩
     ·try simp only [go_sem, n1, n2, n3, n4, z2, gz22, hz22] at gz23naa
      all_goals
      (simp_all)
     ·have gz23naan := BH gz23naa
      have gz23nabn := Fj gz23nab
      try simp only [go_sem, n1, n2, n3, n4, z2, gz22, hz22] at gz23naan
      all_goals
      try simp only [go_sem, n1, n2, n3, n4, z2, gz22, hz22, gz23naan] at gz23nabn
      all_goals
      obtain ⟨z24, h⟩ := AD h
      obtain ⟨z25, h⟩ := AD h
      obtain ⟨z26, h⟩ := AD h
      obtain ⟨z27, h⟩ := AD h
      obtain ⟨z28, h⟩ := AD h
      obtain ⟨z29, h⟩ := AD h
      obtain ⟨z30, h⟩ := AD h
      obtain ⟨z31, h⟩ := AD h
      rcases AF h with ⟨z32, h⟩ | ⟨z32, h⟩
      ·try simp only [go_sem, n1, n2, n3, n4, z2, gz22, hz22, gz23naan, gz23nabn] at z32
       all_goals
       obtain rfl := AC h
       refine ⟨0, fun L hL => ?_⟩
       simp only [go_sem, fz1, z2, fz3, fz4, fz5, fz6, fz7, fz8, fz9, fz10, fz11, fz12, fz13, fz14, fz15, fz16, fz17, fz18, fz19, fz20, fz21, gz22, hz22, fz22, gz23naan, gz23nabn, z32]
      ·try simp only [go_sem, n1, n2, n3, n4, z2, gz22, hz22, gz23naan, gz23nabn] at z32
       all_goals
       (simp_all)
    ·obtain ⟨gz23naa, gz23nab⟩ := Dh gz23na
     have gz23naan := BH gz23naa
     have gz23nabn := BH gz23nab
     have gz23nbn := Fj gz23nb
     try simp only [go_sem, n1, n2, n3, n4, z2, gz22, hz22] at gz23naan
     all_goals
     try simp only [go_sem, n1, n2, n3, n4, z2, gz22, hz22, gz23naan] at gz23nabn
     all_goals
     try simp only [go_sem, n1, n2, n3, n4, z2, gz22, hz22, gz23naan, gz23nabn] at gz23nbn
     all_goals
     obtain ⟨z24, h⟩ := AD h
     obtain ⟨z25, h⟩ := AD h
     obtain ⟨z26, h⟩ := AD h
     obtain ⟨z27, h⟩ := AD h
     obtain ⟨z28, h⟩ := AD h
     obtain ⟨z29, h⟩ := AD h
     obtain ⟨z30, h⟩ := AD h
     obtain ⟨z31, h⟩ := AD h
     rcases AF h with ⟨z32, h⟩ | ⟨z32, h⟩
     ·try simp only [go_sem, n1, n2, n3, n4, z2, gz22, hz22, gz23naan, gz23nabn, gz23nbn] at z32
      all_goals
      obtain rfl := AC h
      refine ⟨0, fun L hL => ?_⟩
      simp only [go_sem, fz1, z2, fz3, fz4, fz5, fz6, fz7, fz8, fz9, fz10, fz11, fz12, fz13, fz14, fz15, fz16, fz17, fz18, fz19, fz20, fz21, gz22, hz22, fz22, gz23naan, gz23nabn, gz23nbn, z32]
     ·try simp only [go_sem, n1, n2, n3, n4, z2, gz22, hz22, gz23naan, gz23nabn, gz23nbn] at z32
      all_goals
      (simp_all)
  ·have gz22n := BH gz22
   have gz22nn := Fj gz22n
   try simp only [go_sem, n1, n2, n3, n4, z2] at gz22nn
   all_goals
   obtain ⟨z23, h⟩ := AD h
   obtain ⟨z24, h⟩ := AD h
   obtain ⟨z25, h⟩ := AD h
   obtain ⟨z26, h⟩ := AD h
   obtain ⟨z27, h⟩ := AD h
   obtain ⟨z28, h⟩ := AD h
   obtain ⟨z29, h⟩ := AD h
   obtain ⟨z30, h⟩ := AD h
   obtain ⟨z31, h⟩ := AD h
   rcases AF h with ⟨z32, h⟩ | ⟨z32, h⟩
   ·try simp only [go_sem, n1, n2, n3, n4, z2, gz22nn] at z32
    all_goals
    obtain rfl := AC h
    refine ⟨0, fun L hL => ?_⟩
    simp only [go_sem, fz1, z2, fz3, fz4, fz5, fz6, fz7, fz8, fz9, fz10, fz11, fz12, fz13, fz14, fz15, fz16, fz17, fz18, fz19, fz20, fz21, gz22nn, z32]
   ·try simp only [go_sem, n1, n2, n3, n4, z2, gz22nn] at z32
    all_goals
    (simp_all)
end Go.Proofs.YthdmeanbdohehaaGreatDoor
