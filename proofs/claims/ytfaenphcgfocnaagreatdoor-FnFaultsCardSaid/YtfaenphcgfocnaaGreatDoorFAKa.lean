/- Codes and contracts of the functions that FA reaches, and that their typed forms say what they do. No condition. -/
import Derived.Test.YtfaenphcgfocnaaGreatDoorEngKinds
import Derived.Test.YtfaenphcgfocnaaGreatDoorRows
import Derived.WalkKit
namespace Go.Proofs.YtfaenphcgfocnaaGreatDoor
open Go Go.RowKit
set_option linter.unusedVariables false
set_option linter.unusedSimpArgs false
set_option maxRecDepth 10000
def iD:IR:=.seq (.region false [ VO 15 46 (.bin false .lss (.v 14) (.v 13))]) (.seq (.cond (.v 15) (.skip) (.exit 3)) (.seq (.block 4 (.seq (.region false [ PO 47 (.ixAddr 1 (.v 12) (.v 14)),PO 48 (.load false 1 (.s 0)),VS 8 13 0]) (.region false [ PM 49 6,PM 50 7,PM 51 8,PO 52 (.build [.int .i64 (0),.int .i64 (0)] [(0,1,(.s 1)),(1,1,(.s 0))]),PO 53 (.mkSl 2 (.agg [.int .i64 (0),.int .i64 (0)]) 1 [(0,(.s 0))]),PO 54 (.app 2 16 (.agg [.int .i64 (0),.int .i64 (0)]) (.s 4) (.s 0)),VS 6 10 0]))) (.region false [ PO 55 (.bin false .add (.v 14) (I6 1)),VS 14 45 0])))
def Xb:List Bool:=[true,true,true,true,false,false,true,true,false,true,true,false,true,true,true,false]
def Xa:List Bool:=[true,true,true,true,false,false,true,false,false,true,true,false,false,false,false,false]
def XZ:List Bool:=[false,false,false,false,true,true,false,false,false,false,false,false,false,false,false,false]
def iE:IR:=.seq (.region false [ VO 11 36 (.bin false .lss (.v 10) (.v 9))]) (.seq (.cond (.v 11) (.skip) (.exit 1)) (.seq (.block 2 (.seq (.region false [ PM 37 10,VS 7 11 0]) (.seq (.region false [ PM 38 0,PM 39 7,PM 40 1,PM 41 2,PM 42 3,VO 12 43 (.call 36 [(.s 4),(.s 3),(.s 2),(.s 1),(.s 0)]),VO 13 44 (.len false (.v 12)),VO 14 45 (.mov (I6 0))]) (.block 3 (.loop Xb Xa XZ iD))))) (.region false [ PO 56 (.bin false .add (.v 10) (I6 1)),VS 10 35 0])))
def bk:List Bool:=[true,true,true,true,false,false,true,false,false,true,true,false,false,false,false,false]
def bj:List Bool:=[false,false,false,false,false,false,true,false,false,false,false,false,false,false,false,false]
def bi:List Bool:=[false,false,false,false,true,true,false,false,false,false,false,false,false,false,false,false]
def AGX:List Nat:=[0,1,2,3,8,9,10,11,13,34,35,36,43,44,45,46]
def ir6:CI:=⟨4,16,.seq (.region false [ VO 4 8 (.newnil 2),VO 5 9 (.mov (I6 0))]) (.seq (.block 0 (.test false [ PM 15 0,PO 16 (.call 32 [(.s 0)]),PO 17 (.un .not (.s 0)),PO 18 (.mov (.s 0)),⟨.push,19,(some ((.s 0),false)),.mov (.v 1)⟩,⟨.push,20,(some ((.s 1),false)),.call 33 [(.s 0)]⟩,⟨.push,21,(some ((.s 2),false)),.un .not (.s 0)⟩,PO 22 (.pick (.s 3) (.c (.bool true)) (.s 0)),PO 23 (.mov (.s 0)),⟨.push,24,(some ((.s 0),false)),.mov (.v 2)⟩,⟨.push,25,(some ((.s 1),false)),.call 34 [(.s 0)]⟩,⟨.push,26,(some ((.s 2),false)),.un .not (.s 0)⟩,PO 27
 (.pick (.s 3) (.c (.bool true)) (.s 0)),PO 14 (.mov (.s 0))] (.s 0) (.seq (.region false [ VO 4 8 (.newnil 2),VO 5 9 (.mov (I6 1))]) (.ret)) (.test false [ PM 29 3,PO 30 (.call 35 [(.s 0),(I6 0),(I6 20000)]),PO 31 (.un .not (.s 0)),PO 28 (.mov (.s 0))] (.s 0) (.seq (.region false [ VO 4 8 (.newnil 2),VO 5 9 (.mov (I6 2))]) (.ret)) (.skip)))) (.seq (.region false [ PO 32 (.mkSl 2 (.agg [.int .i64 (0),.int .i64 (0)]) 0 []),VS 6 10 0]) (.seq (.seq (.region false [ PM 33 0,VO 9 34 (.len false (.s 0)),VO 10 35 (.mov (I6 0))]) (.block 1 (.loop bk bj bi iE))) (.seq
 (.region false [ PM 57 6,VS 4 8 0,VO 5 9 (.mov (I6 0))]) (.ret))))),[.t 4,.t 5]⟩
noncomputable def dL:List (Nat × Ax):=[(32,fQ),(33,oV),(34,oR),(35,Mb),(36,Fp)]
theorem rT:AR dL 32 = some fQ:=rfl
theorem rS:AR dL 33 = some oV:=rfl
theorem rR:AR dL 34 = some oR:=rfl
theorem rQ:AR dL 35 = some Mb:=rfl
theorem rP:AR dL 36 = some Fp:=rfl
noncomputable def oJ:Ax:=Di dL ir6 [.bor,.bor,.bor,.bor]
theorem s_68:AU Tryz.prog 6 oJ:=AM _ rfl (AG AFX (AG s_52 (AG s_56 (AG gJ (AG XD AP))))) (by kernel_rfl:Af Tryz.prog 6 ir6 AGX = true)
theorem M_68:oJ.modes = [.bor,.bor,.bor,.bor]:=rfl
theorem AJH:oJ.flat = true:=rfl
attribute [go_sem] M_68 AJH rT rS rR rQ rP
def Rc (list:List AA) (stars:List Star) (observers:List Observer) (margin:Int) (i:Int) (t34:Int) (t35:Int) (t43:List Int) (t44:Int):((List AJ) × Int) → St
 | (out,t45) => ⟨[.sl 5 (List.map AE list),.sl 5 (List.map Al stars),.sl 2 (List.map AX observers),.int .i64 margin,.any,.any,.own 3200000,.int .i64 i,.any,.int .i64 t34,.int .i64 t35,.any,.own 3200032,.int .i64 t44,.int .i64 t45,.any],[],[(3200000,⟨2,List.map Ae out⟩),(3200032,⟨1,List.map (AV.int .i64) t43⟩)],true⟩
def RG (list:List AA) (stars:List Star) (observers:List Observer) (margin:Int) (i:Int) (t34:Int) (t35:Int) (t43:List Int) (t44:Int) (y:(List AJ)):EB:=(.exit 3,⟨[.sl 5 (List.map AE list),.sl 5 (List.map Al stars),.sl 2 (List.map AX observers),.int .i64 margin,.any,.any,.own 3200000,.any,.any,.int .i64 t34,.int .i64 t35,.any,.any,.any,.any,.any],[],[(3200000,⟨2,List.map Ae y⟩)],true⟩)
set_option maxHeartbeats 64000000 in
attribute [local go_sem] ir6 Rc RG iD Xb Xa XZ in
theorem Kc {list:List AA} {stars:List Star} {observers:List Observer} {margin:Int} {i:Int} {t34:Int} {t35:Int} {t43:List Int} {t44:Int} {sgm_:(List AJ) × Int} {rho_:(List AJ)} (h:AL (CG list stars observers margin i t34 t35 t43 t44) sgm_ = some rho_):∃ L0,∀ L,L0 ≤ L → Bk (Az (AR dL) L iD) Xb Xa XZ L (Rc list stars observers margin i t34 t35 t43 t44 sgm_) = RG list stars observers margin i t34 t35 t43 t44 rho_:=by
 refine As (E:=Rc list stars observers margin i t34 t35 t43 t44) (R:=RG list stars observers margin i t34 t35 t43 t44) (fun y => by first | (intro c; cases c) | (rcases y with y | y <;> (intro c; cases c)) | (rcases y with y | y | y <;> (intro c; cases c))) ?_ h
 clear h
 rintro ⟨out,t45⟩ o_ h
 dsimp only [CG] at h
 rcases AD h with ⟨z9,h⟩ | ⟨z9,h⟩
 ·try simp only [go_sem,n1,n2,n3,n4] at z9
  all_goals
  obtain ⟨z10,h⟩:=AF h
  have lz10:=Au z10
  have xz10:=AK (AV.int .i64) t43 lz10
  try simp only [go_sem] at lz10
  try simp only [go_sem] at xz10
  try simp only [go_sem,n1,n2,n3,n4,z9] at z10
  all_goals
  obtain ⟨z11,h⟩:=AF h
  try simp only [go_sem,n1,n2,n3,n4,z9,z10] at z11
  all_goals
  obtain rfl:=AB h
  refine ⟨0,fun L hL => ?_⟩
  simp only [go_sem,z9,z10,lz10,xz10,z11]
 ·try simp only [go_sem,n1,n2,n3,n4] at z9
  all_goals
  obtain rfl:=AB h
  refine ⟨0,fun L hL => ?_⟩
  simp only [go_sem,z9]
def Wf (list:List AA) (stars:List Star) (observers:List Observer) (margin:Int) (t34:Int):((List AJ) × Int) → St
 | (out,t35) => ⟨[.sl 5 (List.map AE list),.sl 5 (List.map Al stars),.sl 2 (List.map AX observers),.int .i64 margin,.any,.any,.own 3200000,.any,.any,.int .i64 t34,.int .i64 t35,.any,.any,.any,.any,.any],[],[(3200000,⟨2,List.map Ae out⟩)],true⟩
def WB (list:List AA) (stars:List Star) (observers:List Observer) (margin:Int) (t34:Int) (y:(List AJ)):EB:=(.exit 1,⟨[.any,.any,.any,.any,.any,.any,.own 3200000,.any,.any,.any,.any,.any,.any,.any,.any,.any],[],[(3200000,⟨2,List.map Ae y⟩)],true⟩)
set_option maxHeartbeats 64000000 in
attribute [local go_sem] Wf WB iE bk bj bi Rc RG Xb Xa XZ ir6 in
theorem Kd {list:List AA} {stars:List Star} {observers:List Observer} {margin:Int} {t34:Int} {sgm_:(List AJ) × Int} {rho_:(List AJ)} (h:AL (BS list stars observers margin t34) sgm_ = some rho_):∃ L0,∀ L,L0 ≤ L → Bk (Az (AR dL) L iE) bk bj bi L (Wf list stars observers margin t34 sgm_) = WB list stars observers margin t34 rho_:=by
 refine As (E:=Wf list stars observers margin t34) (R:=WB list stars observers margin t34) (fun y => by first | (intro c; cases c) | (rcases y with y | y <;> (intro c; cases c)) | (rcases y with y | y | y <;> (intro c; cases c))) ?_ h
 clear h
 rintro ⟨out,t35⟩ o_ h
 dsimp only [BS] at h
 rcases AD h with ⟨z7,h⟩ | ⟨z7,h⟩
 ·try simp only [go_sem,n1,n2,n3,n4] at z7
  all_goals
  obtain ⟨y_8,z8,h⟩:=AC h
  have fz8:=MW z8
  try simp only [go_sem,z7] at fz8
  obtain ⟨y_12,z12,h⟩:=AC h
  obtain ⟨Lz12,ez12⟩:=Kc z12
  obtain rfl:=AB h
  refine ⟨Lz12,fun L hL => ?_⟩
  have ez12:=ez12 L (by omega)
  try simp only [go_sem,z7] at ez12
  simp only [go_sem,z7,fz8,ez12]
 ·try simp only [go_sem,n1,n2,n3,n4] at z7
  all_goals
  obtain rfl:=AB h
  refine ⟨0,fun L hL => ?_⟩
  simp only [go_sem,z7]
set_option maxHeartbeats 64000000 in
attribute [local go_sem] ir6 Rc RG Xb Xa XZ Wf WB bk bj bi in
theorem zW {list:List AA} {stars:List Star} {observers:List Observer} {margin:Int} {y_:(List AJ) × Int} (h:Bj list stars observers margin = some y_):oJ.F [.sl 5 (List.map AE list),.sl 5 (List.map Al stars),.sl 2 (List.map AX observers),.int .i64 margin] = ⟨true,.tup [.fresh 2 (List.map Ae y_.1),.int .i64 y_.2],[.any,.any,.any,.any]⟩:=by
 refine Ay (by simp only [Fo,Fu,GQ,List.all_cons,List.all_nil,Bool.and_self,Bx (f:=Ae) (fun _ => rfl)]) ?_
 dsimp only [Bj] at h
 obtain ⟨y_1,z1,h⟩:=AC h
 have fz1:=zX z1
 try simp only [go_sem] at fz1
 obtain ⟨z2,h⟩:=AF h
 rcases Ab z2 with ⟨gz2,z2⟩ | gz2
 ·try simp only [go_sem,n1,n2,n3,n4] at gz2
  all_goals
  obtain ⟨y_2,hz2⟩:=Option.isSome_iff_exists.1 z2
  have fz2:=AIJ hz2
  try simp only [go_sem,n1,n2,n3,n4,gz2] at hz2
  all_goals
  try simp only [go_sem,gz2] at fz2
  obtain ⟨z3,h⟩:=AF h
  rcases Ab z3 with ⟨gz3,z3⟩ | gz3
  ·try simp only [go_sem,n1,n2,n3,n4,gz2,hz2] at gz3
   all_goals
   obtain ⟨y_3,hz3⟩:=Option.isSome_iff_exists.1 z3
   have fz3:=AIG hz3
   try simp only [go_sem,n1,n2,n3,n4,gz2,hz2,gz3] at hz3
   all_goals
   try simp only [go_sem,gz2,hz2,gz3] at fz3
   rcases AD h with ⟨z4,h⟩ | ⟨z4,h⟩
   ·try simp only [go_sem,n1,n2,n3,n4,gz2,hz2,gz3,hz3] at z4
    all_goals
    obtain rfl:=AB h
    refine ⟨0,fun L hL => ?_⟩
    simp only [go_sem,fz1,gz2,hz2,fz2,gz3,hz3,fz3,z4]
   ·try simp only [go_sem,n1,n2,n3,n4,gz2,hz2,gz3,hz3] at z4
    all_goals
    obtain ⟨y_5,z5,h⟩:=AC h
    have fz5:=RY z5
    try simp only [go_sem,gz2,hz2,gz3,hz3,z4] at fz5
    rcases AD h with ⟨z6,h⟩ | ⟨z6,h⟩
    ·try simp only [go_sem,n1,n2,n3,n4,gz2,hz2,gz3,hz3,z4] at z6
     all_goals
     obtain rfl:=AB h
     refine ⟨0,fun L hL => ?_⟩
     simp only [go_sem,fz1,gz2,hz2,fz2,gz3,hz3,fz3,z4,fz5,z6]
    ·try simp only [go_sem,n1,n2,n3,n4,gz2,hz2,gz3,hz3,z4] at z6
     all_goals
     obtain ⟨y_13,z13,h⟩:=AC h
     obtain ⟨Lz13,ez13⟩:=Kd z13
     obtain rfl:=AB h
     refine ⟨Lz13,fun L hL => ?_⟩
     have ez13:=ez13 L (by omega)
     try simp only [go_sem,gz2,hz2,gz3,hz3,z4,z6] at ez13
     simp only [go_sem,fz1,gz2,hz2,fz2,gz3,hz3,fz3,z4,fz5,z6,ez13]
  ·have gz3n:=DT gz3
   rcases gU gz3n with gz3na | ⟨gz3na,gz3nb⟩
   ·try simp only [go_sem,n1,n2,n3,n4,gz2,hz2] at gz3na
    all_goals
    (simp_all)
   ·have gz3nan:=DT gz3na
    have gz3nbn:=Ha gz3nb
    try simp only [go_sem,n1,n2,n3,n4,gz2,hz2] at gz3nan
    all_goals
    try simp only [go_sem,n1,n2,n3,n4,gz2,hz2,gz3nan] at gz3nbn
    all_goals
    rcases AD h with ⟨z4,h⟩ | ⟨z4,h⟩
    ·try simp only [go_sem,n1,n2,n3,n4,gz2,hz2,gz3nan,gz3nbn] at z4
     all_goals
     obtain rfl:=AB h
     refine ⟨0,fun L hL => ?_⟩
     simp only [go_sem,fz1,gz2,hz2,fz2,gz3nan,gz3nbn,z4]
    ·try simp only [go_sem,n1,n2,n3,n4,gz2,hz2,gz3nan,gz3nbn] at z4
     all_goals
     (simp_all)
 ·have gz2n:=DT gz2
  have gz2nn:=Ha gz2n
  try simp only [go_sem,n1,n2,n3,n4] at gz2nn
  all_goals
  obtain ⟨z3,h⟩:=AF h
  rcases AD h with ⟨z4,h⟩ | ⟨z4,h⟩
  ·try simp only [go_sem,n1,n2,n3,n4,gz2nn] at z4
   all_goals
   obtain rfl:=AB h
   refine ⟨0,fun L hL => ?_⟩
   simp only [go_sem,fz1,gz2nn,z4]
  ·try simp only [go_sem,n1,n2,n3,n4,gz2nn] at z4
   all_goals
   (simp_all)
def xU:List Nat:=[0,2]
def tT:CI:=⟨1,2,.seq (.region false [ VO 1 2 (.mov (.c (.bool false)))]) (.seq (.region false [ PM 3 0,PO 4 (.call 40 [(.s 0),(I6 0),(I6 86399)]),VS 1 2 0]) (.ret)),[.t 1]⟩
noncomputable def AEn:List (Nat × Ax):=[(40,Lc)]
theorem rO:AR AEn 40 = some Lc:=rfl
noncomputable def oI:Ax:=Di AEn tT [.bor]
theorem s_69:AU Tryz.prog 126 oI:=AM _ rfl (AG dZ AP) (by kernel_rfl:Af Tryz.prog 126 tT xU = true)
theorem M_69:oI.modes = [.bor]:=rfl
theorem AJG:oI.flat = true:=rfl
attribute [go_sem] M_69 AJG rO
theorem AHu {n:Int} {y_:Bool} (h:Dj n = some y_):oI.F [.int .i64 n] = ⟨true,.bool y_,[.any]⟩:=by
 refine Ay rfl ?_
 dsimp only [Dj] at h
 obtain ⟨y_1,z1,h⟩:=AC h
 have fz1:=TY z1
 try simp only [go_sem] at fz1
 obtain rfl:=AB h
 refine ⟨0,fun L hL => ?_⟩
 simp only [go_sem,tT,fz1]
def xT:List Nat:=[0,2]
def tS:CI:=⟨1,2,.seq (.region false [ VO 1 2 (.mov (.c (.bool false)))]) (.seq (.region false [ PM 3 0,PO 4 (.call 40 [(.s 0),(.c (.int .i64 (-324000))),(I6 324000)]),VS 1 2 0]) (.ret)),[.t 1]⟩
noncomputable def AEm:List (Nat × Ax):=[(40,Lc)]
theorem rM:AR AEm 40 = some Lc:=rfl
noncomputable def oH:Ax:=Di AEm tS [.bor]
theorem s_70:AU Tryz.prog 127 oH:=AM _ rfl (AG dZ AP) (by kernel_rfl:Af Tryz.prog 127 tS xT = true)
theorem M_70:oH.modes = [.bor]:=rfl
theorem AJF:oH.flat = true:=rfl
attribute [go_sem] M_70 AJF rM
theorem AHt {n:Int} {y_:Bool} (h:Fx n = some y_):oH.F [.int .i64 n] = ⟨true,.bool y_,[.any]⟩:=by
 refine Ay rfl ?_
 dsimp only [Fx] at h
 obtain ⟨y_1,z1,h⟩:=AC h
 have fz1:=TY z1
 try simp only [go_sem] at fz1
 obtain rfl:=AB h
 refine ⟨0,fun L hL => ?_⟩
 simp only [go_sem,tS,fz1]
def AAq:List Nat:=[0,2]
def hZ:CI:=⟨1,2,.seq (.region false [ VO 1 2 (.mov (.c (.bool false)))]) (.seq (.anyo 44 [ SO 0 3 (.mov (.v 0)),SO 1 4 (.nilck (.s 0)),SO 2 5 (.fldAddr 0 (.s 1)),SO 3 6 (.load false 1 (.s 2)),SO 4 7 (.callp 111 [(.s 3)]),SO 5 8 (.mov (.s 4)),⟨.slot 6,9,(some ((.s 5),true)),.mov (.v 0)⟩,⟨.slot 7,10,(some ((.s 5),true)),.nilck (.s 6)⟩,⟨.slot 8,11,(some ((.s 5),true)),.fldAddr 1 (.s 7)⟩,⟨.slot 9,12,(some ((.s 5),true)),.load false 1 (.s 8)⟩,⟨.slot 10,13,(some ((.s 5),true)),.call 126 [(.s 9)]⟩,SO 11 14 (.pick (.s 5) (.s 10) (.c (.bool false))),SO 12 15
 (.mov (.s 11)),⟨.slot 13,16,(some ((.s 12),true)),.mov (.v 0)⟩,⟨.slot 14,17,(some ((.s 12),true)),.nilck (.s 13)⟩,⟨.slot 15,18,(some ((.s 12),true)),.fldAddr 2 (.s 14)⟩,⟨.slot 16,19,(some ((.s 12),true)),.load false 1 (.s 15)⟩,⟨.slot 17,20,(some ((.s 12),true)),.call 127 [(.s 16)]⟩,SO 18 21 (.pick (.s 12) (.s 17) (.c (.bool false))),SO 19 22 (.mov (.s 18)),⟨.slot 20,23,(some ((.s 19),true)),.mov (.v 0)⟩,⟨.slot 21,24,(some ((.s 19),true)),.nilck (.s 20)⟩,⟨.slot 22,25,(some ((.s 19),true)),.fldAddr 3 (.s 21)⟩,⟨.slot 23,26,(some ((.s 19),true)),.load
 false 1 (.s 22)⟩,⟨.slot 24,27,(some ((.s 19),true)),.call 112 [(.s 23)]⟩,SO 25 28 (.pick (.s 19) (.s 24) (.c (.bool false))),SO 26 29 (.mov (.s 25)),⟨.slot 27,30,(some ((.s 26),true)),.mov (.v 0)⟩,⟨.slot 28,31,(some ((.s 26),true)),.nilck (.s 27)⟩,⟨.slot 29,32,(some ((.s 26),true)),.fldAddr 4 (.s 28)⟩,⟨.slot 30,33,(some ((.s 26),true)),.load false 1 (.s 29)⟩,⟨.slot 31,34,(some ((.s 26),true)),.call 112 [(.s 30)]⟩,SO 32 35 (.pick (.s 26) (.s 31) (.c (.bool false))),SO 33 36 (.mov (.s 32)),⟨.slot 34,37,(some ((.s 33),true)),.mov (.v 0)⟩,⟨.slot 35,38,
 (some ((.s 33),true)),.nilck (.s 34)⟩,⟨.slot 36,39,(some ((.s 33),true)),.fldAddr 3 (.s 35)⟩,⟨.slot 37,40,(some ((.s 33),true)),.load false 1 (.s 36)⟩,⟨.slot 38,41,(some ((.s 33),true)),.mov (.v 0)⟩,⟨.slot 39,42,(some ((.s 33),true)),.nilck (.s 38)⟩,⟨.slot 40,43,(some ((.s 33),true)),.fldAddr 4 (.s 39)⟩,⟨.slot 41,44,(some ((.s 33),true)),.load false 1 (.s 40)⟩,⟨.slot 42,45,(some ((.s 33),true)),.bin false .leq (.s 37) (.s 41)⟩,SO 43 46 (.pick (.s 33) (.s 42) (.c (.bool false))),VS 1 2 43] [] .skip) (.ret)),[.t 1]⟩
noncomputable def pc:List (Nat × Ax):=[(111,Yu),(126,oI),(127,oH),(112,fV)]
theorem lA:AR pc 111 = some Yu:=rfl
theorem ky:AR pc 126 = some oI:=rfl
theorem kx:AR pc 127 = some oH:=rfl
theorem kz:AR pc 112 = some fV:=rfl
noncomputable def oG:Ax:=Di pc hZ [.bor]
theorem s_71:AU Tryz.prog 87 oG:=AM _ rfl (AG AAQ (AG s_69 (AG s_70 (AG AFc AP)))) (by kernel_rfl:Af Tryz.prog 87 hZ AAq = true)
theorem M_71:oG.modes = [.bor]:=rfl
theorem AJE:oG.flat = true:=rfl
attribute [go_sem] M_71 AJE lA ky kx kz
theorem AHs {x:Star} {y_:Bool} (h:Jc x = some y_):oG.F [.ptr 5 [Al x] 0 0] = ⟨true,.bool y_,[.any]⟩:=by
 refine Ay rfl ?_
 dsimp only [Jc] at h
 obtain ⟨y_1,z1,h⟩:=AC h
 have fz1:=kD z1
 try simp only [go_sem] at fz1
 obtain ⟨z2,h⟩:=AF h
 rcases Ab z2 with ⟨gz2,z2⟩ | gz2
 ·try simp only [go_sem,n1,n2,n3,n4] at gz2
  all_goals
  obtain ⟨y_2,hz2⟩:=Option.isSome_iff_exists.1 z2
  have fz2:=AHu hz2
  try simp only [go_sem,n1,n2,n3,n4,gz2] at hz2
  all_goals
  try simp only [go_sem,gz2] at fz2
  obtain ⟨z3,h⟩:=AF h
  rcases Ab z3 with ⟨gz3,z3⟩ | gz3
  ·try simp only [go_sem,n1,n2,n3,n4,gz2,hz2] at gz3
   all_goals
   obtain ⟨y_3,hz3⟩:=Option.isSome_iff_exists.1 z3
   have fz3:=AHt hz3
   try simp only [go_sem,n1,n2,n3,n4,gz2,hz2,gz3] at hz3
   all_goals
   try simp only [go_sem,gz2,hz2,gz3] at fz3
   obtain ⟨z4,h⟩:=AF h
   rcases Ab z4 with ⟨gz4,z4⟩ | gz4
   ·try simp only [go_sem,n1,n2,n3,n4,gz2,hz2,gz3,hz3] at gz4
    all_goals
    obtain ⟨y_4,hz4⟩:=Option.isSome_iff_exists.1 z4
    have fz4:=us hz4
    try simp only [go_sem,n1,n2,n3,n4,gz2,hz2,gz3,hz3,gz4] at hz4
    all_goals
    try simp only [go_sem,gz2,hz2,gz3,hz3,gz4] at fz4
    obtain ⟨z5,h⟩:=AF h
    rcases Ab z5 with ⟨gz5,z5⟩ | gz5
    ·try simp only [go_sem,n1,n2,n3,n4,gz2,hz2,gz3,hz3,gz4,hz4] at gz5
     all_goals
     obtain ⟨y_5,hz5⟩:=Option.isSome_iff_exists.1 z5
     have fz5:=us hz5
     try simp only [go_sem,n1,n2,n3,n4,gz2,hz2,gz3,hz3,gz4,hz4,gz5] at hz5
     all_goals
     try simp only [go_sem,gz2,hz2,gz3,hz3,gz4,hz4,gz5] at fz5
     obtain rfl:=AB h
     refine ⟨0,fun L hL => ?_⟩
     simp only [go_sem,hZ,fz1,gz2,hz2,fz2,gz3,hz3,fz3,gz4,hz4,fz4,gz5,hz5,fz5]
    ·rcases DA gz5 with gz5a | ⟨gz5a,gz5b⟩
     ·try simp only [go_sem,n1,n2,n3,n4,gz2,hz2,gz3,hz3,gz4,hz4] at gz5a
      all_goals
      (simp_all)
     ·obtain ⟨gz5aa,gz5ab⟩:=RC gz5a
      obtain ⟨gz5aaa,gz5aab⟩:=RC gz5aa
      try simp only [go_sem,n1,n2,n3,n4,gz2,hz2,gz3,hz3,gz4,hz4] at gz5aaa
      all_goals
      try simp only [go_sem,n1,n2,n3,n4,gz2,hz2,gz3,hz3,gz4,hz4,gz5aaa] at gz5aab
      all_goals
      try simp only [go_sem,n1,n2,n3,n4,gz2,hz2,gz3,hz3,gz4,hz4,gz5aaa,gz5aab] at gz5ab
      all_goals
      try simp only [go_sem,n1,n2,n3,n4,gz2,hz2,gz3,hz3,gz4,hz4,gz5aaa,gz5aab,gz5ab] at gz5b
      all_goals
      obtain rfl:=AB h
      refine ⟨0,fun L hL => ?_⟩
      simp only [go_sem,hZ,fz1,gz2,hz2,fz2,gz3,hz3,fz3,gz4,hz4,fz4,gz5aaa,gz5aab,gz5ab,gz5b]
   ·rcases DA gz4 with gz4a | ⟨gz4a,gz4b⟩
    ·try simp only [go_sem,n1,n2,n3,n4,gz2,hz2,gz3,hz3] at gz4a
     all_goals
     (simp_all)
    ·obtain ⟨gz4aa,gz4ab⟩:=RC gz4a
     try simp only [go_sem,n1,n2,n3,n4,gz2,hz2,gz3,hz3] at gz4aa
     all_goals
     try simp only [go_sem,n1,n2,n3,n4,gz2,hz2,gz3,hz3,gz4aa] at gz4ab
     all_goals
     try simp only [go_sem,n1,n2,n3,n4,gz2,hz2,gz3,hz3,gz4aa,gz4ab] at gz4b
     all_goals
     obtain ⟨z5,h⟩:=AF h
     obtain rfl:=AB h
     refine ⟨0,fun L hL => ?_⟩
     simp only [go_sem,hZ,fz1,gz2,hz2,fz2,gz3,hz3,fz3,gz4aa,gz4ab,gz4b]
  ·rcases DA gz3 with gz3a | ⟨gz3a,gz3b⟩
   ·try simp only [go_sem,n1,n2,n3,n4,gz2,hz2] at gz3a
    all_goals
    (simp_all)
   ·try simp only [go_sem,n1,n2,n3,n4,gz2,hz2] at gz3a
    all_goals
    try simp only [go_sem,n1,n2,n3,n4,gz2,hz2,gz3a] at gz3b
    all_goals
    obtain ⟨z4,h⟩:=AF h
    obtain ⟨z5,h⟩:=AF h
    obtain rfl:=AB h
    refine ⟨0,fun L hL => ?_⟩
    simp only [go_sem,hZ,fz1,gz2,hz2,fz2,gz3a,gz3b]
 ·try simp only [go_sem,n1,n2,n3,n4] at gz2
  all_goals
  obtain ⟨z3,h⟩:=AF h
  obtain ⟨z4,h⟩:=AF h
  obtain ⟨z5,h⟩:=AF h
  obtain rfl:=AB h
  refine ⟨0,fun L hL => ?_⟩
  simp only [go_sem,hZ,fz1,gz2]
def cI:IR:=.seq (.test false [ PM 4 2,PM 5 0,PO 6 (.len false (.s 0)),PO 7 (.bin false .lss (.s 2) (.s 0))] (.s 0) (.skip) (.exit 0)) (.seq (.block 1 (.anyo 23 [ SO 0 10 (.mov (.v 0)),SO 1 11 (.mov (.v 2)),SO 2 12 (.ixAddr 5 (.s 0) (.s 1)),SO 3 13 (.callp 87 [(.s 2)]),SO 4 14 (.un .not (.s 3)),SO 5 15 (.mov (.s 4)),⟨.slot 6,16,(some ((.s 5),false)),.mov (.v 2)⟩,⟨.slot 7,17,(some ((.s 5),false)),.bin false .gtr (.s 6) (I6 0)⟩,⟨.slot 8,18,(some ((.s 5),false)),.mov (.s 7)⟩,⟨.slot 9,19,(some ((.s 8),true)),.mov (.v 0)⟩,⟨.slot 10,20,(some ((.s 8),true)),
 .mov (.v 2)⟩,⟨.slot 11,21,(some ((.s 8),true)),.bin false .sub (.s 10) (I6 1)⟩,⟨.slot 12,22,(some ((.s 8),true)),.ixAddr 5 (.s 9) (.s 11)⟩,⟨.slot 13,23,(some ((.s 8),true)),.fldAddr 0 (.s 12)⟩,⟨.slot 14,24,(some ((.s 8),true)),.load false 1 (.s 13)⟩,⟨.slot 15,25,(some ((.s 8),true)),.mov (.v 0)⟩,⟨.slot 16,26,(some ((.s 8),true)),.mov (.v 2)⟩,⟨.slot 17,27,(some ((.s 8),true)),.ixAddr 5 (.s 15) (.s 16)⟩,⟨.slot 18,28,(some ((.s 8),true)),.fldAddr 0 (.s 17)⟩,⟨.slot 19,29,(some ((.s 8),true)),.load false 1 (.s 18)⟩,⟨.slot 20,30,(some ((.s 8),true)),
 .bin false .geq (.s 14) (.s 19)⟩,⟨.slot 21,31,(some ((.s 5),false)),.pick (.s 8) (.s 20) (.c (.bool false))⟩,SO 22 32 (.pick (.s 5) (.c (.bool true)) (.s 21))] [] (.cond (.s 22) (.seq (.region false [ VO 1 2 (.mov (.c (.bool false)))]) (.ret)) (.skip)))) (.region false [ PM 8 2,PO 9 (.bin false .add (.s 0) (I6 1)),VS 2 3 0]))
def VI:List Bool:=[true,false,true]
def VH:List Bool:=[true,false,false]
def VG:List Bool:=[false,true,false]
def ACC:List Nat:=[0,2,3]
def ws:CI:=⟨1,3,.seq (.region false [ VO 1 2 (.mov (.c (.bool false)))]) (.seq (.seq (.region false [ VO 2 3 (.mov (I6 0))]) (.block 0 (.loop VI VH VG cI))) (.seq (.region false [ PM 33 0,PO 34 (.len false (.s 0)),PO 35 (.bin false .leq (.s 0) (I6 60)),VS 1 2 0]) (.ret))),[.t 1]⟩
noncomputable def zt:List (Nat × Ax):=[(87,oG)]
theorem rL:AR zt 87 = some oG:=rfl
noncomputable def oF:Ax:=Di zt ws [.bor]
theorem s_72:AU Tryz.prog 38 oF:=AM _ rfl (AG s_71 AP) (by kernel_rfl:Af Tryz.prog 38 ws ACC = true)
theorem M_72:oF.modes = [.bor]:=rfl
theorem AJD:oF.flat = true:=rfl
attribute [go_sem] M_72 AJD rL
def We (list:List Star):Int → St
 | i => ⟨[.sl 5 (List.map Al list),.any,.int .i64 i],[],[],true⟩
def WA (list:List Star):(Unit ⊕ Bool) → EB
 | .inl y => (.exit 0,⟨[.sl 5 (List.map Al list),.any,.any],[],[],true⟩)
 | .inr y => (.ret,⟨[.any,.bool y,.any],[],[],true⟩)
attribute [local go_sem] ws We WA cI VI VH VG in
theorem SK {list:List Star} {sgm_:Int} {rho_:Unit ⊕ Bool} (h:AL (FQ list) sgm_ = some rho_):∃ L0,∀ L,L0 ≤ L → Bk (Az (AR zt) L cI) VI VH VG L (We list sgm_) = WA list rho_:=by
 refine As (E:=We list) (R:=WA list) (fun y => by first | (intro c; cases c) | (rcases y with y | y <;> (intro c; cases c)) | (rcases y with y | y | y <;> (intro c; cases c))) ?_ h
 clear h
 intro i o_ h
 dsimp only [FQ] at h
 rcases AD h with ⟨z1,h⟩ | ⟨z1,h⟩
 ·try simp only [go_sem,n1,n2,n3,n4] at z1
  all_goals
  obtain ⟨z2,h⟩:=AF h
  have lz2:=Au z2
  have xz2:=AK Al list lz2
  try simp only [go_sem] at lz2
  try simp only [go_sem] at xz2
  try simp only [go_sem,n1,n2,n3,n4,z1] at z2
  all_goals
  obtain ⟨y_3,z3,h⟩:=AC h
  have fz3:=AHs z3
  try simp only [go_sem,z1,z2] at fz3
  obtain ⟨z4,h⟩:=AF h
  rcases Ab z4 with ⟨gz4,z4⟩ | gz4
  ·try simp only [go_sem,n1,n2,n3,n4,z1,z2] at gz4
   all_goals
   have lz4:=Au z4
   have xz4:=AK Al list lz4
   try simp only [go_sem] at lz4
   try simp only [go_sem] at xz4
   try simp only [go_sem,n1,n2,n3,n4,z1,z2,gz4] at z4
   all_goals
   rcases AD h with ⟨z5,h⟩ | ⟨z5,h⟩
   all_goals
   try simp only [go_sem,n1,n2,n3,n4,z1,z2,gz4,z4] at z5
   all_goals
   obtain rfl:=AB h
   refine ⟨0,fun L hL => ?_⟩
   simp only [go_sem,z1,z2,lz2,xz2,fz3,gz4,z4,lz4,xz4,z5]
  ·rcases DA gz4 with gz4a | ⟨gz4a,gz4b⟩
   ·have gz4an:=DT gz4a
    have gz4ann:=Ha gz4an
    try simp only [go_sem,n1,n2,n3,n4,z1,z2] at gz4ann
    all_goals
    rcases AD h with ⟨z5,h⟩ | ⟨z5,h⟩
    ·try simp only [go_sem,n1,n2,n3,n4,z1,z2,gz4ann] at z5
     all_goals
     obtain rfl:=AB h
     refine ⟨0,fun L hL => ?_⟩
     simp only [go_sem,z1,z2,lz2,xz2,fz3,gz4ann,z5]
    ·try simp only [go_sem,n1,n2,n3,n4,z1,z2,gz4ann] at z5
     all_goals
     (simp_all)
   ·have gz4an:=Ha gz4a
    have gz4ann:=DT gz4an
    try simp only [go_sem,n1,n2,n3,n4,z1,z2] at gz4ann
    all_goals
    try simp only [go_sem,n1,n2,n3,n4,z1,z2,gz4ann] at gz4b
    all_goals
    rcases AD h with ⟨z5,h⟩ | ⟨z5,h⟩
    ·try simp only [go_sem,n1,n2,n3,n4,z1,z2,gz4ann,gz4b] at z5
     all_goals
     (simp_all)
    ·try simp only [go_sem,n1,n2,n3,n4,z1,z2,gz4ann,gz4b] at z5
     all_goals
     obtain rfl:=AB h
     refine ⟨0,fun L hL => ?_⟩
     simp only [go_sem,z1,z2,lz2,xz2,fz3,gz4ann,gz4b,z5]
 ·try simp only [go_sem,n1,n2,n3,n4] at z1
  all_goals
  obtain rfl:=AB h
  refine ⟨0,fun L hL => ?_⟩
  simp only [go_sem,z1]
attribute [local go_sem] We WA VI VH VG ws in
theorem AHr {list:List Star} {y_:Bool} (h:Hw list = some y_):oF.F [.sl 5 (List.map Al list)] = ⟨true,.bool y_,[.any]⟩:=by
 refine Ay rfl ?_
 dsimp only [Hw] at h
 obtain ⟨y_6,z6,h⟩:=AC h
 obtain ⟨Lz6,ez6⟩:=SK z6
 rcases y_6 with y_6a | y_6b
 all_goals
 dsimp only at h
 obtain rfl:=AB h
 refine ⟨Lz6,fun L hL => ?_⟩
 have ez6:=ez6 L (by omega)
 try simp only [go_sem] at ez6
 simp only [go_sem,ez6]
def AAp:List Nat:=[0,2]
def wW:CI:=⟨1,2,.seq (.region false [ VO 1 2 (.mov (.c (.bool false)))]) (.seq (.region false [ PM 3 0,PO 4 (.nilck (.s 0)),PO 5 (.fldAddr 0 (.s 0)),PO 6 (.load false 1 (.s 0)),PO 7 (.call 111 [(.s 0)]),PO 8 (.mov (.s 0)),⟨.push,9,(some ((.s 0),true)),.mov (.v 0)⟩,⟨.push,10,(some ((.s 1),true)),.nilck (.s 0)⟩,⟨.push,11,(some ((.s 2),true)),.fldAddr 1 (.s 0)⟩,⟨.push,12,(some ((.s 3),true)),.load false 1 (.s 0)⟩,⟨.push,13,(some ((.s 4),true)),.call 40 [(.s 0),(.c (.int .i64 (-2000))),(I6 2000)]⟩,PO 14 (.pick (.s 5) (.s 0) (.c (.bool false))),VS 1 2 0])
 (.ret)),[.t 1]⟩
noncomputable def zr:List (Nat × Ax):=[(111,Yu),(40,Lc)]
theorem kw:AR zr 111 = some Yu:=rfl
theorem rK:AR zr 40 = some Lc:=rfl
noncomputable def oE:Ax:=Di zr wW [.bor]
theorem s_73:AU Tryz.prog 88 oE:=AM _ rfl (AG AAQ (AG dZ AP)) (by kernel_rfl:Af Tryz.prog 88 wW AAp = true)
theorem M_73:oE.modes = [.bor]:=rfl
theorem AJC:oE.flat = true:=rfl
attribute [go_sem] M_73 AJC kw rK
theorem AHq {x:Observer} {y_:Bool} (h:Jb x = some y_):oE.F [.ptr 2 [AX x] 0 0] = ⟨true,.bool y_,[.any]⟩:=by
 refine Ay rfl ?_
 dsimp only [Jb] at h
 obtain ⟨y_1,z1,h⟩:=AC h
 have fz1:=kD z1
 try simp only [go_sem] at fz1
 obtain ⟨z2,h⟩:=AF h
 rcases Ab z2 with ⟨gz2,z2⟩ | gz2
 ·try simp only [go_sem,n1,n2,n3,n4] at gz2
  all_goals
  obtain ⟨y_2,hz2⟩:=Option.isSome_iff_exists.1 z2
  have fz2:=TY hz2
  try simp only [go_sem,n1,n2,n3,n4,gz2] at hz2
  all_goals
  try simp only [go_sem,gz2] at fz2
  obtain rfl:=AB h
  refine ⟨0,fun L hL => ?_⟩
  simp only [go_sem,wW,fz1,gz2,hz2,fz2]
 ·try simp only [go_sem,n1,n2,n3,n4] at gz2
  all_goals
  obtain rfl:=AB h
  refine ⟨0,fun L hL => ?_⟩
  simp only [go_sem,wW,fz1,gz2]
def cH:IR:=.seq (.test false [ PM 4 2,PM 5 0,PO 6 (.len false (.s 0)),PO 7 (.bin false .lss (.s 2) (.s 0))] (.s 0) (.skip) (.exit 0)) (.seq (.block 1 (.anyo 23 [ SO 0 10 (.mov (.v 0)),SO 1 11 (.mov (.v 2)),SO 2 12 (.ixAddr 2 (.s 0) (.s 1)),SO 3 13 (.callp 88 [(.s 2)]),SO 4 14 (.un .not (.s 3)),SO 5 15 (.mov (.s 4)),⟨.slot 6,16,(some ((.s 5),false)),.mov (.v 2)⟩,⟨.slot 7,17,(some ((.s 5),false)),.bin false .gtr (.s 6) (I6 0)⟩,⟨.slot 8,18,(some ((.s 5),false)),.mov (.s 7)⟩,⟨.slot 9,19,(some ((.s 8),true)),.mov (.v 0)⟩,⟨.slot 10,20,(some ((.s 8),true)),
 .mov (.v 2)⟩,⟨.slot 11,21,(some ((.s 8),true)),.bin false .sub (.s 10) (I6 1)⟩,⟨.slot 12,22,(some ((.s 8),true)),.ixAddr 2 (.s 9) (.s 11)⟩,⟨.slot 13,23,(some ((.s 8),true)),.fldAddr 0 (.s 12)⟩,⟨.slot 14,24,(some ((.s 8),true)),.load false 1 (.s 13)⟩,⟨.slot 15,25,(some ((.s 8),true)),.mov (.v 0)⟩,⟨.slot 16,26,(some ((.s 8),true)),.mov (.v 2)⟩,⟨.slot 17,27,(some ((.s 8),true)),.ixAddr 2 (.s 15) (.s 16)⟩,⟨.slot 18,28,(some ((.s 8),true)),.fldAddr 0 (.s 17)⟩,⟨.slot 19,29,(some ((.s 8),true)),.load false 1 (.s 18)⟩,⟨.slot 20,30,(some ((.s 8),true)),
 .bin false .geq (.s 14) (.s 19)⟩,⟨.slot 21,31,(some ((.s 5),false)),.pick (.s 8) (.s 20) (.c (.bool false))⟩,SO 22 32 (.pick (.s 5) (.c (.bool true)) (.s 21))] [] (.cond (.s 22) (.seq (.region false [ VO 1 2 (.mov (.c (.bool false)))]) (.ret)) (.skip)))) (.region false [ PM 8 2,PO 9 (.bin false .add (.s 0) (I6 1)),VS 2 3 0]))
def VF:List Bool:=[true,false,true]
def VE:List Bool:=[true,false,false]
def VD:List Bool:=[false,true,false]
def ACB:List Nat:=[0,2,3]
def wr:CI:=⟨1,3,.seq (.region false [ VO 1 2 (.mov (.c (.bool false)))]) (.seq (.seq (.region false [ VO 2 3 (.mov (I6 0))]) (.block 0 (.loop VF VE VD cH))) (.seq (.region false [ PM 33 0,PO 34 (.len false (.s 0)),PO 35 (.bin false .leq (.s 0) (I6 40)),VS 1 2 0]) (.ret))),[.t 1]⟩
noncomputable def zq:List (Nat × Ax):=[(88,oE)]
theorem rJ:AR zq 88 = some oE:=rfl
noncomputable def oD:Ax:=Di zq wr [.bor]
theorem s_74:AU Tryz.prog 39 oD:=AM _ rfl (AG s_73 AP) (by kernel_rfl:Af Tryz.prog 39 wr ACB = true)
theorem M_74:oD.modes = [.bor]:=rfl
theorem AJB:oD.flat = true:=rfl
attribute [go_sem] M_74 AJB rJ
def Wd (list:List Observer):Int → St
 | i => ⟨[.sl 2 (List.map AX list),.any,.int .i64 i],[],[],true⟩
def Vz (list:List Observer):(Unit ⊕ Bool) → EB
 | .inl y => (.exit 0,⟨[.sl 2 (List.map AX list),.any,.any],[],[],true⟩)
 | .inr y => (.ret,⟨[.any,.bool y,.any],[],[],true⟩)
attribute [local go_sem] wr Wd Vz cH VF VE VD in
theorem SJ {list:List Observer} {sgm_:Int} {rho_:Unit ⊕ Bool} (h:AL (FP list) sgm_ = some rho_):∃ L0,∀ L,L0 ≤ L → Bk (Az (AR zq) L cH) VF VE VD L (Wd list sgm_) = Vz list rho_:=by
 refine As (E:=Wd list) (R:=Vz list) (fun y => by first | (intro c; cases c) | (rcases y with y | y <;> (intro c; cases c)) | (rcases y with y | y | y <;> (intro c; cases c))) ?_ h
 clear h
 intro i o_ h
 dsimp only [FP] at h
 rcases AD h with ⟨z1,h⟩ | ⟨z1,h⟩
 ·try simp only [go_sem,n1,n2,n3,n4] at z1
  all_goals
  obtain ⟨z2,h⟩:=AF h
  have lz2:=Au z2
  have xz2:=AK AX list lz2
  try simp only [go_sem] at lz2
  try simp only [go_sem] at xz2
  try simp only [go_sem,n1,n2,n3,n4,z1] at z2
  all_goals
  obtain ⟨y_3,z3,h⟩:=AC h
  have fz3:=AHq z3
  try simp only [go_sem,z1,z2] at fz3
  obtain ⟨z4,h⟩:=AF h
  rcases Ab z4 with ⟨gz4,z4⟩ | gz4
  ·try simp only [go_sem,n1,n2,n3,n4,z1,z2] at gz4
   all_goals
   have lz4:=Au z4
   have xz4:=AK AX list lz4
   try simp only [go_sem] at lz4
   try simp only [go_sem] at xz4
   try simp only [go_sem,n1,n2,n3,n4,z1,z2,gz4] at z4
   all_goals
   rcases AD h with ⟨z5,h⟩ | ⟨z5,h⟩
   all_goals
   try simp only [go_sem,n1,n2,n3,n4,z1,z2,gz4,z4] at z5
   all_goals
   obtain rfl:=AB h
   refine ⟨0,fun L hL => ?_⟩
   simp only [go_sem,z1,z2,lz2,xz2,fz3,gz4,z4,lz4,xz4,z5]
  ·rcases DA gz4 with gz4a | ⟨gz4a,gz4b⟩
   ·have gz4an:=DT gz4a
    have gz4ann:=Ha gz4an
    try simp only [go_sem,n1,n2,n3,n4,z1,z2] at gz4ann
    all_goals
    rcases AD h with ⟨z5,h⟩ | ⟨z5,h⟩
    ·try simp only [go_sem,n1,n2,n3,n4,z1,z2,gz4ann] at z5
     all_goals
     obtain rfl:=AB h
     refine ⟨0,fun L hL => ?_⟩
     simp only [go_sem,z1,z2,lz2,xz2,fz3,gz4ann,z5]
    ·try simp only [go_sem,n1,n2,n3,n4,z1,z2,gz4ann] at z5
     all_goals
     (simp_all)
   ·have gz4an:=Ha gz4a
    have gz4ann:=DT gz4an
    try simp only [go_sem,n1,n2,n3,n4,z1,z2] at gz4ann
    all_goals
    try simp only [go_sem,n1,n2,n3,n4,z1,z2,gz4ann] at gz4b
    all_goals
    rcases AD h with ⟨z5,h⟩ | ⟨z5,h⟩
    ·try simp only [go_sem,n1,n2,n3,n4,z1,z2,gz4ann,gz4b] at z5
     all_goals
     (simp_all)
    ·try simp only [go_sem,n1,n2,n3,n4,z1,z2,gz4ann,gz4b] at z5
     all_goals
     obtain rfl:=AB h
     refine ⟨0,fun L hL => ?_⟩
     simp only [go_sem,z1,z2,lz2,xz2,fz3,gz4ann,gz4b,z5]
 ·try simp only [go_sem,n1,n2,n3,n4] at z1
  all_goals
  obtain rfl:=AB h
  refine ⟨0,fun L hL => ?_⟩
  simp only [go_sem,z1]
attribute [local go_sem] Wd Vz VF VE VD wr in
theorem AHp {list:List Observer} {y_:Bool} (h:JH list = some y_):oD.F [.sl 2 (List.map AX list)] = ⟨true,.bool y_,[.any]⟩:=by
 refine Ay rfl ?_
 dsimp only [JH] at h
 obtain ⟨y_6,z6,h⟩:=AC h
 obtain ⟨Lz6,ez6⟩:=SJ z6
 rcases y_6 with y_6a | y_6b
 all_goals
 dsimp only at h
 obtain rfl:=AB h
 refine ⟨Lz6,fun L hL => ?_⟩
 have ez6:=ez6 L (by omega)
 try simp only [go_sem] at ez6
 simp only [go_sem,ez6]
def ba:IR:=.seq (.test false [ PM 6 3,PM 7 0,PO 8 (.len false (.s 0)),PO 9 (.bin false .lss (.s 2) (.s 0))] (.s 0) (.skip) (.exit 0)) (.seq (.block 1 (.test false [ PM 12 0,PM 13 3,PO 14 (.ixAddr 5 (.s 1) (.s 0)),PO 15 (.fldAddr 0 (.s 0)),PO 16 (.load false 1 (.s 0)),PM 17 1,PO 18 (.bin false .eql (.s 1) (.s 0))] (.s 0) (.seq (.region false [ PM 19 3,VS 2 4 0]) (.ret)) (.skip))) (.region false [ PM 10 3,PO 11 (.bin false .add (.s 0) (I6 1)),VS 3 5 0]))
def UJ:List Bool:=[true,true,false,true]
def UI:List Bool:=[false,false,false,false]
def UH:List Bool:=[false,false,true,false]
def AAo:List Nat:=[0,1,4,5]
def wV:CI:=⟨2,4,.seq (.region false [ VO 2 4 (.mov (I6 0))]) (.seq (.seq (.region false [ VO 3 5 (.mov (I6 0))]) (.block 0 (.loop UJ UI UH ba))) (.seq (.region false [ VO 2 4 (.mov (.c (.int .i64 (-1))))]) (.ret))),[.t 2]⟩
noncomputable def AEl:List (Nat × Ax):=[]
noncomputable def oC:Ax:=Di AEl wV [.bor,.bor]
theorem s_75:AU Tryz.prog 89 oC:=AM _ rfl AP (by kernel_rfl:Af Tryz.prog 89 wV AAo = true)
theorem M_75:oC.modes = [.bor,.bor]:=rfl
theorem AJA:oC.flat = true:=rfl
attribute [go_sem] M_75 AJA
def Wc (list:List Star) (name:List UInt8):Int → St
 | i => ⟨[.sl 5 (List.map Al list),.str name,.any,.int .i64 i],[],[],true⟩
def Vy (list:List Star) (name:List UInt8):(Unit ⊕ Int) → EB
 | .inl y => (.exit 0,⟨[.any,.any,.any,.any],[],[],true⟩)
 | .inr y => (.ret,⟨[.any,.any,.int .i64 y,.any],[],[],true⟩)
attribute [local go_sem] wV Wc Vy ba UJ UI UH in
theorem OZ {list:List Star} {name:List UInt8} {sgm_:Int} {rho_:Unit ⊕ Int} (h:AL (Es list name) sgm_ = some rho_):∃ L0,∀ L,L0 ≤ L → Bk (Az (AR AEl) L ba) UJ UI UH L (Wc list name sgm_) = Vy list name rho_:=by
 refine As (E:=Wc list name) (R:=Vy list name) (fun y => by first | (intro c; cases c) | (rcases y with y | y <;> (intro c; cases c)) | (rcases y with y | y | y <;> (intro c; cases c))) ?_ h
 clear h
 intro i o_ h
 dsimp only [Es] at h
 rcases AD h with ⟨z1,h⟩ | ⟨z1,h⟩
 ·try simp only [go_sem,n1,n2,n3,n4] at z1
  all_goals
  obtain ⟨z2,h⟩:=AF h
  have lz2:=Au z2
  have xz2:=AK Al list lz2
  try simp only [go_sem] at lz2
  try simp only [go_sem] at xz2
  try simp only [go_sem,n1,n2,n3,n4,z1] at z2
  all_goals
  rcases AD h with ⟨z3,h⟩ | ⟨z3,h⟩
  all_goals
  try simp only [go_sem,n1,n2,n3,n4,z1,z2] at z3
  all_goals
  obtain rfl:=AB h
  refine ⟨0,fun L hL => ?_⟩
  simp only [go_sem,z1,z2,lz2,xz2,z3]
 ·try simp only [go_sem,n1,n2,n3,n4] at z1
  all_goals
  obtain rfl:=AB h
  refine ⟨0,fun L hL => ?_⟩
  simp only [go_sem,z1]
attribute [local go_sem] Wc Vy UJ UI UH wV in
theorem AHo {list:List Star} {name:List UInt8} {y_:Int} (h:Ic list name = some y_):oC.F [.sl 5 (List.map Al list),.str name] = ⟨true,.int .i64 y_,[.any,.any]⟩:=by
 refine Ay rfl ?_
 dsimp only [Ic] at h
 obtain ⟨y_4,z4,h⟩:=AC h
 obtain ⟨Lz4,ez4⟩:=OZ z4
 rcases y_4 with y_4a | y_4b
 all_goals
 dsimp only at h
 obtain rfl:=AB h
 refine ⟨Lz4,fun L hL => ?_⟩
 have ez4:=ez4 L (by omega)
 try simp only [go_sem] at ez4
 simp only [go_sem,ez4]
def bZ:IR:=.seq (.test false [ PM 6 3,PM 7 0,PO 8 (.len false (.s 0)),PO 9 (.bin false .lss (.s 2) (.s 0))] (.s 0) (.skip) (.exit 0)) (.seq (.block 1 (.test false [ PM 12 0,PM 13 3,PO 14 (.ixAddr 2 (.s 1) (.s 0)),PO 15 (.fldAddr 0 (.s 0)),PO 16 (.load false 1 (.s 0)),PM 17 1,PO 18 (.bin false .eql (.s 1) (.s 0))] (.s 0) (.seq (.region false [ PM 19 3,VS 2 4 0]) (.ret)) (.skip))) (.region false [ PM 10 3,PO 11 (.bin false .add (.s 0) (I6 1)),VS 3 5 0]))
def UG:List Bool:=[true,true,false,true]
def UF:List Bool:=[false,false,false,false]
def UE:List Bool:=[false,false,true,false]
def AAn:List Nat:=[0,1,4,5]
def wU:CI:=⟨2,4,.seq (.region false [ VO 2 4 (.mov (I6 0))]) (.seq (.seq (.region false [ VO 3 5 (.mov (I6 0))]) (.block 0 (.loop UG UF UE bZ))) (.seq (.region false [ VO 2 4 (.mov (.c (.int .i64 (-1))))]) (.ret))),[.t 2]⟩
noncomputable def AEk:List (Nat × Ax):=[]
noncomputable def oB:Ax:=Di AEk wU [.bor,.bor]
theorem s_76:AU Tryz.prog 90 oB:=AM _ rfl AP (by kernel_rfl:Af Tryz.prog 90 wU AAn = true)
theorem M_76:oB.modes = [.bor,.bor]:=rfl
theorem AIz:oB.flat = true:=rfl
attribute [go_sem] M_76 AIz
def Wb (list:List Observer) (name:List UInt8):Int → St
 | i => ⟨[.sl 2 (List.map AX list),.str name,.any,.int .i64 i],[],[],true⟩
def Vx (list:List Observer) (name:List UInt8):(Unit ⊕ Int) → EB
 | .inl y => (.exit 0,⟨[.any,.any,.any,.any],[],[],true⟩)
 | .inr y => (.ret,⟨[.any,.any,.int .i64 y,.any],[],[],true⟩)
attribute [local go_sem] wU Wb Vx bZ UG UF UE in
theorem OW {list:List Observer} {name:List UInt8} {sgm_:Int} {rho_:Unit ⊕ Int} (h:AL (Er list name) sgm_ = some rho_):∃ L0,∀ L,L0 ≤ L → Bk (Az (AR AEk) L bZ) UG UF UE L (Wb list name sgm_) = Vx list name rho_:=by
 refine As (E:=Wb list name) (R:=Vx list name) (fun y => by first | (intro c; cases c) | (rcases y with y | y <;> (intro c; cases c)) | (rcases y with y | y | y <;> (intro c; cases c))) ?_ h
 clear h
 intro i o_ h
 dsimp only [Er] at h
 rcases AD h with ⟨z1,h⟩ | ⟨z1,h⟩
 ·try simp only [go_sem,n1,n2,n3,n4] at z1
  all_goals
  obtain ⟨z2,h⟩:=AF h
  have lz2:=Au z2
  have xz2:=AK AX list lz2
  try simp only [go_sem] at lz2
  try simp only [go_sem] at xz2
  try simp only [go_sem,n1,n2,n3,n4,z1] at z2
  all_goals
  rcases AD h with ⟨z3,h⟩ | ⟨z3,h⟩
  all_goals
  try simp only [go_sem,n1,n2,n3,n4,z1,z2] at z3
  all_goals
  obtain rfl:=AB h
  refine ⟨0,fun L hL => ?_⟩
  simp only [go_sem,z1,z2,lz2,xz2,z3]
 ·try simp only [go_sem,n1,n2,n3,n4] at z1
  all_goals
  obtain rfl:=AB h
  refine ⟨0,fun L hL => ?_⟩
  simp only [go_sem,z1]
attribute [local go_sem] Wb Vx UG UF UE wU in
theorem zV {list:List Observer} {name:List UInt8} {y_:Int} (h:HA list name = some y_):oB.F [.sl 2 (List.map AX list),.str name] = ⟨true,.int .i64 y_,[.any,.any]⟩:=by
 refine Ay rfl ?_
 dsimp only [HA] at h
 obtain ⟨y_4,z4,h⟩:=AC h
 obtain ⟨Lz4,ez4⟩:=OW z4
 rcases y_4 with y_4a | y_4b
 all_goals
 dsimp only at h
 obtain rfl:=AB h
 refine ⟨Lz4,fun L hL => ?_⟩
 have ez4:=ez4 L (by omega)
 try simp only [go_sem] at ez4
 simp only [go_sem,ez4]
def Bv:IR:=.seq (.test false [ PM 88 9,PO 89 (.bin false .geq (.s 0) (I6 0))] (.s 0) (.skip) (.exit 0)) (.seq (.block 1 (.seq (.region false [ PM 92 0,PM 93 9,PO 94 (.ixAddr 5 (.s 1) (.s 0)),VS 10 15 0]) (.anyo 32 [ SO 0 95 (.mov (.v 10)),SO 1 96 (.nilck (.s 0)),SO 2 97 (.fldAddr 1 (.s 1)),SO 3 98 (.load false 1 (.s 2)),SO 4 99 (.mov (.v 7)),SO 5 100 (.nilck (.s 4)),SO 6 101 (.fldAddr 1 (.s 5)),SO 7 102 (.load false 1 (.s 6)),SO 8 103 (.bin false .eql (.s 3) (.s 7)),SO 9 104 (.mov (.s 8)),⟨.slot 10,105,(some ((.s 9),true)),.mov (.v 10)⟩,⟨.slot 11,106,(some ((.s 9),
 true)),.nilck (.s 10)⟩,⟨.slot 12,107,(some ((.s 9),true)),.fldAddr 2 (.s 11)⟩,⟨.slot 13,108,(some ((.s 9),true)),.load false 1 (.s 12)⟩,⟨.slot 14,109,(some ((.s 9),true)),.mov (.v 7)⟩,⟨.slot 15,110,(some ((.s 9),true)),.nilck (.s 14)⟩,⟨.slot 16,111,(some ((.s 9),true)),.fldAddr 2 (.s 15)⟩,⟨.slot 17,112,(some ((.s 9),true)),.load false 1 (.s 16)⟩,⟨.slot 18,113,(some ((.s 9),true)),.bin false .eql (.s 13) (.s 17)⟩,SO 19 114 (.pick (.s 9) (.s 18) (.c (.bool false))),SO 20 115 (.mov (.s 19)),⟨.slot 21,116,(some ((.s 20),true)),.mov (.v 7)⟩,⟨.slot 22,
 117,(some ((.s 20),true)),.nilck (.s 21)⟩,⟨.slot 23,118,(some ((.s 20),true)),.fldAddr 0 (.s 22)⟩,⟨.slot 24,119,(some ((.s 20),true)),.load false 1 (.s 23)⟩,⟨.slot 25,120,(some ((.s 20),true)),.mov (.v 10)⟩,⟨.slot 26,121,(some ((.s 20),true)),.nilck (.s 25)⟩,⟨.slot 27,122,(some ((.s 20),true)),.fldAddr 0 (.s 26)⟩,⟨.slot 28,123,(some ((.s 20),true)),.load false 1 (.s 27)⟩,⟨.slot 29,124,(some ((.s 20),true)),.bin false .sub (.s 24) (.s 28)⟩,⟨.slot 30,125,(some ((.s 20),true)),.bin false .lss (.s 29) (I6 100)⟩,SO 31 126 (.pick (.s 20) (.s 30) (.c (.bool
 false)))] [] (.cond (.s 31) (.seq (.region false [ PM 127 6,PO 128 (.mkSl 1 (.int .i64 (0)) 1 [(0,(I6 5))]),PO 129 (.app 1 8 (.int .i64 (0)) (.s 1) (.s 0)),VS 6 11 0]) (.exit 0)) (.skip))))) (.region false [ PM 90 9,PO 91 (.bin false .sub (.s 0) (I6 1)),VS 9 14 0]))
def Bp:List Bool:=[true,false,false,false,false,false,true,true,false,true,false]
def Bo:List Bool:=[false,false,false,false,false,false,true,false,false,false,false]
def Bn:List Bool:=[false,false,false,false,false,true,false,false,false,false,false]
def ABy:List Nat:=[0,1,2,3,4,10,11,12,13,14,15]
def MB:CI:=⟨5,11,.seq (.region false [ VO 5 10 (.newnil 1)]) (.seq (.region false [ PO 16 (.mkSl 1 (.int .i64 (0)) 0 []),VS 6 11 0]) (.seq (.region false [ PM 17 0,PM 18 1,PO 19 (.ixAddr 5 (.s 1) (.s 0)),VS 7 12 0]) (.seq (.region false [ PM 20 2,PM 21 7,PO 22 (.nilck (.s 0)),PO 23 (.fldAddr 1 (.s 0)),PO 24 (.load false 1 (.s 0)),PO 25 (.call 89 [(.s 4),(.s 0)]),VS 8 13 0]) (.seq (.test false [ PM 26 8,PO 27 (.bin false .lss (.s 0) (I6 0))] (.s 0) (.region false [ PM 28 6,PO 29 (.mkSl 1 (.int .i64 (0)) 1 [(0,(I6 1))]),PO 30 (.app 1 8 (.int .i64 (0)) (.s 1) (.s 0)),VS 6
 11 0]) (.skip)) (.seq (.test false [ PM 31 3,PM 32 7,PO 33 (.nilck (.s 0)),PO 34 (.fldAddr 2 (.s 0)),PO 35 (.load false 1 (.s 0)),PO 36 (.call 90 [(.s 4),(.s 0)]),PO 37 (.bin false .lss (.s 0) (I6 0))] (.s 0) (.region false [ PM 38 6,PO 39 (.mkSl 1 (.int .i64 (0)) 1 [(0,(I6 2))]),PO 40 (.app 1 8 (.int .i64 (0)) (.s 1) (.s 0)),VS 6 11 0]) (.skip)) (.seq (.anyo 16 [ SO 0 41 (.mov (.v 8)),SO 1 42 (.bin false .geq (.s 0) (I6 0)),SO 2 43 (.mov (.s 1)),⟨.slot 3,44,(some ((.s 2),true)),.mov (.v 7)⟩,⟨.slot 4,45,(some ((.s 2),true)),.nilck (.s 3)⟩,⟨.slot 5,46,(some ((.s 2),
 true)),.fldAddr 3 (.s 4)⟩,⟨.slot 6,47,(some ((.s 2),true)),.load false 1 (.s 5)⟩,⟨.slot 7,48,(some ((.s 2),true)),.mov (.v 2)⟩,⟨.slot 8,49,(some ((.s 2),true)),.mov (.v 8)⟩,⟨.slot 9,50,(some ((.s 2),true)),.ixAddr 5 (.s 7) (.s 8)⟩,⟨.slot 10,51,(some ((.s 2),true)),.fldAddr 3 (.s 9)⟩,⟨.slot 11,52,(some ((.s 2),true)),.load false 1 (.s 10)⟩,⟨.slot 12,53,(some ((.s 2),true)),.mov (.v 4)⟩,⟨.slot 13,54,(some ((.s 2),true)),.bin false .sub (.s 11) (.s 12)⟩,⟨.slot 14,55,(some ((.s 2),true)),.bin false .lss (.s 6) (.s 13)⟩,SO 15 56 (.pick (.s 2) (.s 14)
 (.c (.bool false)))] [] (.cond (.s 15) (.region false [ PM 57 6,PO 58 (.mkSl 1 (.int .i64 (0)) 1 [(0,(I6 3))]),PO 59 (.app 1 8 (.int .i64 (0)) (.s 1) (.s 0)),VS 6 11 0]) (.skip))) (.seq (.anyo 23 [ SO 0 60 (.mov (.v 8)),SO 1 61 (.bin false .geq (.s 0) (I6 0)),SO 2 62 (.mov (.s 1)),⟨.slot 3,63,(some ((.s 2),true)),.mov (.v 7)⟩,⟨.slot 4,64,(some ((.s 2),true)),.nilck (.s 3)⟩,⟨.slot 5,65,(some ((.s 2),true)),.fldAddr 4 (.s 4)⟩,⟨.slot 6,66,(some ((.s 2),true)),.load false 1 (.s 5)⟩,⟨.slot 7,67,(some ((.s 2),true)),.un .not (.s 6)⟩,SO 8 68 (.pick (.s 2) (.s 7) (.c
 (.bool false))),SO 9 69 (.mov (.s 8)),⟨.slot 10,70,(some ((.s 9),true)),.mov (.v 7)⟩,⟨.slot 11,71,(some ((.s 9),true)),.nilck (.s 10)⟩,⟨.slot 12,72,(some ((.s 9),true)),.fldAddr 3 (.s 11)⟩,⟨.slot 13,73,(some ((.s 9),true)),.load false 1 (.s 12)⟩,⟨.slot 14,74,(some ((.s 9),true)),.mov (.v 2)⟩,⟨.slot 15,75,(some ((.s 9),true)),.mov (.v 8)⟩,⟨.slot 16,76,(some ((.s 9),true)),.ixAddr 5 (.s 14) (.s 15)⟩,⟨.slot 17,77,(some ((.s 9),true)),.fldAddr 4 (.s 16)⟩,⟨.slot 18,78,(some ((.s 9),true)),.load false 1 (.s 17)⟩,⟨.slot 19,79,(some ((.s 9),true)),
 .mov (.v 4)⟩,⟨.slot 20,80,(some ((.s 9),true)),.bin false .add (.s 18) (.s 19)⟩,⟨.slot 21,81,(some ((.s 9),true)),.bin false .gtr (.s 13) (.s 20)⟩,SO 22 82 (.pick (.s 9) (.s 21) (.c (.bool false)))] [] (.cond (.s 22) (.region false [ PM 83 6,PO 84 (.mkSl 1 (.int .i64 (0)) 1 [(0,(I6 4))]),PO 85 (.app 1 8 (.int .i64 (0)) (.s 1) (.s 0)),VS 6 11 0]) (.skip))) (.seq (.seq (.region false [ PM 86 1,PO 87 (.bin false .sub (.s 0) (I6 1)),VS 9 14 0]) (.block 0 (.loop Bp Bo Bn Bv))) (.seq (.region false [ PM 130 6,VS 5 10 0]) (.ret)))))))))),[.t 5]⟩
noncomputable def Lk:List (Nat × Ax):=[(89,oC),(90,oB)]
theorem rI:AR Lk 89 = some oC:=rfl
theorem rH:AR Lk 90 = some oB:=rfl
noncomputable def oA:Ax:=Di Lk MB [.bor,.bor,.bor,.bor,.bor]
theorem s_77:AU Tryz.prog 41 oA:=AM _ rfl (AG s_75 (AG s_76 AP)) (by kernel_rfl:Af Tryz.prog 41 MB ABy = true)
theorem M_77:oA.modes = [.bor,.bor,.bor,.bor,.bor]:=rfl
theorem AIy:oA.flat = true:=rfl
attribute [go_sem] M_77 AIy rI rH
def EJ (list:List AA) (out:List Int) (e_:AA):Int → St
 | j => ⟨[.sl 5 (List.map AE list),.any,.any,.any,.any,.any,.own 3200000,.ptr 5 [AE e_] 0 0,.any,.int .i64 j,.any],[],[(3200000,⟨1,List.map (AV.int .i64) out⟩)],true⟩
def EI (list:List AA) (out:List Int) (e_:AA) (y:(List Int)):EB:=(.exit 0,⟨[.any,.any,.any,.any,.any,.any,.own 3200000,.any,.any,.any,.any],[],[(3200000,⟨1,List.map (AV.int .i64) y⟩)],true⟩)
set_option maxHeartbeats 64000000 in
attribute [local go_sem] MB EJ EI Bv Bp Bo Bn in
theorem SH {list:List AA} {out:List Int} {e_:AA} {sgm_:Int} {rho_:(List Int)} (h:AL (BN list out e_) sgm_ = some rho_):∃ L0,∀ L,L0 ≤ L → Bk (Az (AR Lk) L Bv) Bp Bo Bn L (EJ list out e_ sgm_) = EI list out e_ rho_:=by
 refine As (E:=EJ list out e_) (R:=EI list out e_) (fun y => by first | (intro c; cases c) | (rcases y with y | y <;> (intro c; cases c)) | (rcases y with y | y | y <;> (intro c; cases c))) ?_ h
 clear h
 intro j o_ h
 dsimp only [BN] at h
 rcases AD h with ⟨z14,h⟩ | ⟨z14,h⟩
 ·try simp only [go_sem,n1,n2,n3,n4] at z14
  all_goals
  obtain ⟨z15,h⟩:=AF h
  have lz15:=Au z15
  have xz15:=AK AE list lz15
  try simp only [go_sem] at lz15
  try simp only [go_sem] at xz15
  try simp only [go_sem,n1,n2,n3,n4,z14] at z15
  all_goals
  rcases AD h with ⟨z16,h⟩ | ⟨z16,h⟩
  ·try simp only [go_sem,n1,n2,n3,n4,z14,z15] at z16
   all_goals
   obtain ⟨z17,h⟩:=AF h
   try simp only [go_sem,n1,n2,n3,n4,z14,z15,z16] at z17
   all_goals
   obtain rfl:=AB h
   refine ⟨0,fun L hL => ?_⟩
   simp only [go_sem,z14,z15,lz15,xz15,z16,z17]
  ·try simp only [go_sem,n1,n2,n3,n4,z14,z15] at z16
   all_goals
   obtain rfl:=AB h
   refine ⟨0,fun L hL => ?_⟩
   simp only [go_sem,z14,z15,lz15,xz15,z16]
 ·try simp only [go_sem,n1,n2,n3,n4] at z14
  all_goals
  obtain rfl:=AB h
  refine ⟨0,fun L hL => ?_⟩
  simp only [go_sem,z14]
def Eg (list:List AA) (out:List Int) (e_:AA):Int → St
 | j => ⟨[.sl 5 (List.map AE list),.any,.any,.any,.any,.any,.own 3200000,.ptr 5 [AE e_] 0 0,.any,.int .i64 j,.any],[],[(3200000,⟨1,List.map (AV.int .i64) out⟩)],true⟩
def Ef (list:List AA) (out:List Int) (e_:AA) (y:(List Int)):EB:=(.exit 0,⟨[.any,.any,.any,.any,.any,.any,.own 3200000,.any,.any,.any,.any],[],[(3200000,⟨1,List.map (AV.int .i64) y⟩)],true⟩)
set_option maxHeartbeats 64000000 in
attribute [local go_sem] MB Eg Ef Bv Bp Bo Bn EJ EI in
theorem LN {list:List AA} {out:List Int} {e_:AA} {sgm_:Int} {rho_:(List Int)} (h:AL (JT list out e_) sgm_ = some rho_):∃ L0,∀ L,L0 ≤ L → Bk (Az (AR Lk) L Bv) Bp Bo Bn L (Eg list out e_ sgm_) = Ef list out e_ rho_:=by
 refine As (E:=Eg list out e_) (R:=Ef list out e_) (fun y => by first | (intro c; cases c) | (rcases y with y | y <;> (intro c; cases c)) | (rcases y with y | y | y <;> (intro c; cases c))) ?_ h
 clear h
 intro j o_ h
 dsimp only [JT] at h
 rcases AD h with ⟨z19,h⟩ | ⟨z19,h⟩
 ·try simp only [go_sem,n1,n2,n3,n4] at z19
  all_goals
  obtain ⟨z20,h⟩:=AF h
  have lz20:=Au z20
  have xz20:=AK AE list lz20
  try simp only [go_sem] at lz20
  try simp only [go_sem] at xz20
  try simp only [go_sem,n1,n2,n3,n4,z19] at z20
  all_goals
  rcases AD h with ⟨z21,h⟩ | ⟨z21,h⟩
  ·try simp only [go_sem,n1,n2,n3,n4,z19,z20] at z21
   all_goals
   obtain ⟨z22,h⟩:=AF h
   try simp only [go_sem,n1,n2,n3,n4,z19,z20,z21] at z22
   all_goals
   obtain rfl:=AB h
   refine ⟨0,fun L hL => ?_⟩
   simp only [go_sem,z19,z20,lz20,xz20,z21,z22]
  ·try simp only [go_sem,n1,n2,n3,n4,z19,z20] at z21
   all_goals
   obtain rfl:=AB h
   refine ⟨0,fun L hL => ?_⟩
   simp only [go_sem,z19,z20,lz20,xz20,z21]
 ·try simp only [go_sem,n1,n2,n3,n4] at z19
  all_goals
  obtain rfl:=AB h
  refine ⟨0,fun L hL => ?_⟩
  simp only [go_sem,z19]
def FM (list:List AA) (out:List Int) (e_:AA):Int → St
 | j => ⟨[.sl 5 (List.map AE list),.any,.any,.any,.any,.any,.own 3200000,.ptr 5 [AE e_] 0 0,.any,.int .i64 j,.any],[],[(3200000,⟨1,List.map (AV.int .i64) out⟩)],true⟩
def FL (list:List AA) (out:List Int) (e_:AA) (y:(List Int)):EB:=(.exit 0,⟨[.any,.any,.any,.any,.any,.any,.own 3200000,.any,.any,.any,.any],[],[(3200000,⟨1,List.map (AV.int .i64) y⟩)],true⟩)
set_option maxHeartbeats 64000000 in
attribute [local go_sem] MB FM FL Bv Bp Bo Bn EJ EI Eg Ef in
theorem SG {list:List AA} {out:List Int} {e_:AA} {sgm_:Int} {rho_:(List Int)} (h:AL (JS list out e_) sgm_ = some rho_):∃ L0,∀ L,L0 ≤ L → Bk (Az (AR Lk) L Bv) Bp Bo Bn L (FM list out e_ sgm_) = FL list out e_ rho_:=by
 refine As (E:=FM list out e_) (R:=FL list out e_) (fun y => by first | (intro c; cases c) | (rcases y with y | y <;> (intro c; cases c)) | (rcases y with y | y | y <;> (intro c; cases c))) ?_ h
 clear h
 intro j o_ h
 dsimp only [JS] at h
 rcases AD h with ⟨z27,h⟩ | ⟨z27,h⟩
 ·try simp only [go_sem,n1,n2,n3,n4] at z27
  all_goals
  obtain ⟨z28,h⟩:=AF h
  have lz28:=Au z28
  have xz28:=AK AE list lz28
  try simp only [go_sem] at lz28
  try simp only [go_sem] at xz28
  try simp only [go_sem,n1,n2,n3,n4,z27] at z28
  all_goals
  rcases AD h with ⟨z29,h⟩ | ⟨z29,h⟩
  ·try simp only [go_sem,n1,n2,n3,n4,z27,z28] at z29
   all_goals
   obtain ⟨z30,h⟩:=AF h
   try simp only [go_sem,n1,n2,n3,n4,z27,z28,z29] at z30
   all_goals
   obtain rfl:=AB h
   refine ⟨0,fun L hL => ?_⟩
   simp only [go_sem,z27,z28,lz28,xz28,z29,z30]
  ·try simp only [go_sem,n1,n2,n3,n4,z27,z28] at z29
   all_goals
   obtain rfl:=AB h
   refine ⟨0,fun L hL => ?_⟩
   simp only [go_sem,z27,z28,lz28,xz28,z29]
 ·try simp only [go_sem,n1,n2,n3,n4] at z27
  all_goals
  obtain rfl:=AB h
  refine ⟨0,fun L hL => ?_⟩
  simp only [go_sem,z27]
def Fd (list:List AA) (out:List Int) (e_:AA):Int → St
 | j => ⟨[.sl 5 (List.map AE list),.any,.any,.any,.any,.any,.own 3200000,.ptr 5 [AE e_] 0 0,.any,.int .i64 j,.any],[],[(3200000,⟨1,List.map (AV.int .i64) out⟩)],true⟩
def Fb (list:List AA) (out:List Int) (e_:AA) (y:(List Int)):EB:=(.exit 0,⟨[.any,.any,.any,.any,.any,.any,.own 3200000,.any,.any,.any,.any],[],[(3200000,⟨1,List.map (AV.int .i64) y⟩)],true⟩)
set_option maxHeartbeats 64000000 in
attribute [local go_sem] MB Fd Fb Bv Bp Bo Bn EJ EI Eg Ef FM FL in
theorem JG {list:List AA} {out:List Int} {e_:AA} {sgm_:Int} {rho_:(List Int)} (h:AL (JR list out e_) sgm_ = some rho_):∃ L0,∀ L,L0 ≤ L → Bk (Az (AR Lk) L Bv) Bp Bo Bn L (Fd list out e_ sgm_) = Fb list out e_ rho_:=by
 refine As (E:=Fd list out e_) (R:=Fb list out e_) (fun y => by first | (intro c; cases c) | (rcases y with y | y <;> (intro c; cases c)) | (rcases y with y | y | y <;> (intro c; cases c))) ?_ h
 clear h
 intro j o_ h
 dsimp only [JR] at h
 rcases AD h with ⟨z32,h⟩ | ⟨z32,h⟩
 ·try simp only [go_sem,n1,n2,n3,n4] at z32
  all_goals
  obtain ⟨z33,h⟩:=AF h
  have lz33:=Au z33
  have xz33:=AK AE list lz33
  try simp only [go_sem] at lz33
  try simp only [go_sem] at xz33
  try simp only [go_sem,n1,n2,n3,n4,z32] at z33
  all_goals
  rcases AD h with ⟨z34,h⟩ | ⟨z34,h⟩
  ·try simp only [go_sem,n1,n2,n3,n4,z32,z33] at z34
   all_goals
   obtain ⟨z35,h⟩:=AF h
   try simp only [go_sem,n1,n2,n3,n4,z32,z33,z34] at z35
   all_goals
   obtain rfl:=AB h
   refine ⟨0,fun L hL => ?_⟩
   simp only [go_sem,z32,z33,lz33,xz33,z34,z35]
  ·try simp only [go_sem,n1,n2,n3,n4,z32,z33] at z34
   all_goals
   obtain rfl:=AB h
   refine ⟨0,fun L hL => ?_⟩
   simp only [go_sem,z32,z33,lz33,xz33,z34]
 ·try simp only [go_sem,n1,n2,n3,n4] at z32
  all_goals
  obtain rfl:=AB h
  refine ⟨0,fun L hL => ?_⟩
  simp only [go_sem,z32]
def GL (list:List AA) (out:List Int) (e_:AA):Int → St
 | j => ⟨[.sl 5 (List.map AE list),.any,.any,.any,.any,.any,.own 3200000,.ptr 5 [AE e_] 0 0,.any,.int .i64 j,.any],[],[(3200000,⟨1,List.map (AV.int .i64) out⟩)],true⟩
def GI (list:List AA) (out:List Int) (e_:AA) (y:(List Int)):EB:=(.exit 0,⟨[.any,.any,.any,.any,.any,.any,.own 3200000,.any,.any,.any,.any],[],[(3200000,⟨1,List.map (AV.int .i64) y⟩)],true⟩)
set_option maxHeartbeats 64000000 in
attribute [local go_sem] MB GL GI Bv Bp Bo Bn EJ EI Eg Ef FM FL Fd Fb in
theorem SE {list:List AA} {out:List Int} {e_:AA} {sgm_:Int} {rho_:(List Int)} (h:AL (JQ list out e_) sgm_ = some rho_):∃ L0,∀ L,L0 ≤ L → Bk (Az (AR Lk) L Bv) Bp Bo Bn L (GL list out e_ sgm_) = GI list out e_ rho_:=by
 refine As (E:=GL list out e_) (R:=GI list out e_) (fun y => by first | (intro c; cases c) | (rcases y with y | y <;> (intro c; cases c)) | (rcases y with y | y | y <;> (intro c; cases c))) ?_ h
 clear h
 intro j o_ h
 dsimp only [JQ] at h
 rcases AD h with ⟨z43,h⟩ | ⟨z43,h⟩
 ·try simp only [go_sem,n1,n2,n3,n4] at z43
  all_goals
  obtain ⟨z44,h⟩:=AF h
  have lz44:=Au z44
  have xz44:=AK AE list lz44
  try simp only [go_sem] at lz44
  try simp only [go_sem] at xz44
  try simp only [go_sem,n1,n2,n3,n4,z43] at z44
  all_goals
  rcases AD h with ⟨z45,h⟩ | ⟨z45,h⟩
  ·try simp only [go_sem,n1,n2,n3,n4,z43,z44] at z45
   all_goals
   obtain ⟨z46,h⟩:=AF h
   try simp only [go_sem,n1,n2,n3,n4,z43,z44,z45] at z46
   all_goals
   obtain rfl:=AB h
   refine ⟨0,fun L hL => ?_⟩
   simp only [go_sem,z43,z44,lz44,xz44,z45,z46]
  ·try simp only [go_sem,n1,n2,n3,n4,z43,z44] at z45
   all_goals
   obtain rfl:=AB h
   refine ⟨0,fun L hL => ?_⟩
   simp only [go_sem,z43,z44,lz44,xz44,z45]
 ·try simp only [go_sem,n1,n2,n3,n4] at z43
  all_goals
  obtain rfl:=AB h
  refine ⟨0,fun L hL => ?_⟩
  simp only [go_sem,z43]
def Gj (list:List AA) (out:List Int) (e_:AA):Int → St
 | j => ⟨[.sl 5 (List.map AE list),.any,.any,.any,.any,.any,.own 3200000,.ptr 5 [AE e_] 0 0,.any,.int .i64 j,.any],[],[(3200000,⟨1,List.map (AV.int .i64) out⟩)],true⟩
def Gi (list:List AA) (out:List Int) (e_:AA) (y:(List Int)):EB:=(.exit 0,⟨[.any,.any,.any,.any,.any,.any,.own 3200000,.any,.any,.any,.any],[],[(3200000,⟨1,List.map (AV.int .i64) y⟩)],true⟩)
set_option maxHeartbeats 64000000 in
attribute [local go_sem] MB Gj Gi Bv Bp Bo Bn EJ EI Eg Ef FM FL Fd Fb GL GI in
theorem LM {list:List AA} {out:List Int} {e_:AA} {sgm_:Int} {rho_:(List Int)} (h:AL (JP list out e_) sgm_ = some rho_):∃ L0,∀ L,L0 ≤ L → Bk (Az (AR Lk) L Bv) Bp Bo Bn L (Gj list out e_ sgm_) = Gi list out e_ rho_:=by
 refine As (E:=Gj list out e_) (R:=Gi list out e_) (fun y => by first | (intro c; cases c) | (rcases y with y | y <;> (intro c; cases c)) | (rcases y with y | y | y <;> (intro c; cases c))) ?_ h
 clear h
 intro j o_ h
 dsimp only [JP] at h
 rcases AD h with ⟨z48,h⟩ | ⟨z48,h⟩
 ·try simp only [go_sem,n1,n2,n3,n4] at z48
  all_goals
  obtain ⟨z49,h⟩:=AF h
  have lz49:=Au z49
  have xz49:=AK AE list lz49
  try simp only [go_sem] at lz49
  try simp only [go_sem] at xz49
  try simp only [go_sem,n1,n2,n3,n4,z48] at z49
  all_goals
  rcases AD h with ⟨z50,h⟩ | ⟨z50,h⟩
  ·try simp only [go_sem,n1,n2,n3,n4,z48,z49] at z50
   all_goals
   obtain ⟨z51,h⟩:=AF h
   try simp only [go_sem,n1,n2,n3,n4,z48,z49,z50] at z51
   all_goals
   obtain rfl:=AB h
   refine ⟨0,fun L hL => ?_⟩
   simp only [go_sem,z48,z49,lz49,xz49,z50,z51]
  ·try simp only [go_sem,n1,n2,n3,n4,z48,z49] at z50
   all_goals
   obtain rfl:=AB h
   refine ⟨0,fun L hL => ?_⟩
   simp only [go_sem,z48,z49,lz49,xz49,z50]
 ·try simp only [go_sem,n1,n2,n3,n4] at z48
  all_goals
  obtain rfl:=AB h
  refine ⟨0,fun L hL => ?_⟩
  simp only [go_sem,z48]
def HQ (list:List AA) (out:List Int) (e_:AA):Int → St
 | j => ⟨[.sl 5 (List.map AE list),.any,.any,.any,.any,.any,.own 3200000,.ptr 5 [AE e_] 0 0,.any,.int .i64 j,.any],[],[(3200000,⟨1,List.map (AV.int .i64) out⟩)],true⟩
def HN (list:List AA) (out:List Int) (e_:AA) (y:(List Int)):EB:=(.exit 0,⟨[.any,.any,.any,.any,.any,.any,.own 3200000,.any,.any,.any,.any],[],[(3200000,⟨1,List.map (AV.int .i64) y⟩)],true⟩)
set_option maxHeartbeats 64000000 in
attribute [local go_sem] MB HQ HN Bv Bp Bo Bn EJ EI Eg Ef FM FL Fd Fb GL GI Gj Gi in
theorem SD {list:List AA} {out:List Int} {e_:AA} {sgm_:Int} {rho_:(List Int)} (h:AL (JO list out e_) sgm_ = some rho_):∃ L0,∀ L,L0 ≤ L → Bk (Az (AR Lk) L Bv) Bp Bo Bn L (HQ list out e_ sgm_) = HN list out e_ rho_:=by
 refine As (E:=HQ list out e_) (R:=HN list out e_) (fun y => by first | (intro c; cases c) | (rcases y with y | y <;> (intro c; cases c)) | (rcases y with y | y | y <;> (intro c; cases c))) ?_ h
 clear h
 intro j o_ h
 dsimp only [JO] at h
 rcases AD h with ⟨z56,h⟩ | ⟨z56,h⟩
 ·try simp only [go_sem,n1,n2,n3,n4] at z56
  all_goals
  obtain ⟨z57,h⟩:=AF h
  have lz57:=Au z57
  have xz57:=AK AE list lz57
  try simp only [go_sem] at lz57
  try simp only [go_sem] at xz57
  try simp only [go_sem,n1,n2,n3,n4,z56] at z57
  all_goals
  rcases AD h with ⟨z58,h⟩ | ⟨z58,h⟩
  ·try simp only [go_sem,n1,n2,n3,n4,z56,z57] at z58
   all_goals
   obtain ⟨z59,h⟩:=AF h
   try simp only [go_sem,n1,n2,n3,n4,z56,z57,z58] at z59
   all_goals
   obtain rfl:=AB h
   refine ⟨0,fun L hL => ?_⟩
   simp only [go_sem,z56,z57,lz57,xz57,z58,z59]
  ·try simp only [go_sem,n1,n2,n3,n4,z56,z57] at z58
   all_goals
   obtain rfl:=AB h
   refine ⟨0,fun L hL => ?_⟩
   simp only [go_sem,z56,z57,lz57,xz57,z58]
 ·try simp only [go_sem,n1,n2,n3,n4] at z56
  all_goals
  obtain rfl:=AB h
  refine ⟨0,fun L hL => ?_⟩
  simp only [go_sem,z56]
def Hv (list:List AA) (out:List Int) (e_:AA):Int → St
 | j => ⟨[.sl 5 (List.map AE list),.any,.any,.any,.any,.any,.own 3200000,.ptr 5 [AE e_] 0 0,.any,.int .i64 j,.any],[],[(3200000,⟨1,List.map (AV.int .i64) out⟩)],true⟩
def Hu (list:List AA) (out:List Int) (e_:AA) (y:(List Int)):EB:=(.exit 0,⟨[.any,.any,.any,.any,.any,.any,.own 3200000,.any,.any,.any,.any],[],[(3200000,⟨1,List.map (AV.int .i64) y⟩)],true⟩)
set_option maxHeartbeats 64000000 in
attribute [local go_sem] MB Hv Hu Bv Bp Bo Bn EJ EI Eg Ef FM FL Fd Fb GL GI Gj Gi HQ HN in
theorem JF {list:List AA} {out:List Int} {e_:AA} {sgm_:Int} {rho_:(List Int)} (h:AL (JN list out e_) sgm_ = some rho_):∃ L0,∀ L,L0 ≤ L → Bk (Az (AR Lk) L Bv) Bp Bo Bn L (Hv list out e_ sgm_) = Hu list out e_ rho_:=by
 refine As (E:=Hv list out e_) (R:=Hu list out e_) (fun y => by first | (intro c; cases c) | (rcases y with y | y <;> (intro c; cases c)) | (rcases y with y | y | y <;> (intro c; cases c))) ?_ h
 clear h
 intro j o_ h
 dsimp only [JN] at h
 rcases AD h with ⟨z61,h⟩ | ⟨z61,h⟩
 ·try simp only [go_sem,n1,n2,n3,n4] at z61
  all_goals
  obtain ⟨z62,h⟩:=AF h
  have lz62:=Au z62
  have xz62:=AK AE list lz62
  try simp only [go_sem] at lz62
  try simp only [go_sem] at xz62
  try simp only [go_sem,n1,n2,n3,n4,z61] at z62
  all_goals
  rcases AD h with ⟨z63,h⟩ | ⟨z63,h⟩
  ·try simp only [go_sem,n1,n2,n3,n4,z61,z62] at z63
   all_goals
   obtain ⟨z64,h⟩:=AF h
   try simp only [go_sem,n1,n2,n3,n4,z61,z62,z63] at z64
   all_goals
   obtain rfl:=AB h
   refine ⟨0,fun L hL => ?_⟩
   simp only [go_sem,z61,z62,lz62,xz62,z63,z64]
  ·try simp only [go_sem,n1,n2,n3,n4,z61,z62] at z63
   all_goals
   obtain rfl:=AB h
   refine ⟨0,fun L hL => ?_⟩
   simp only [go_sem,z61,z62,lz62,xz62,z63]
 ·try simp only [go_sem,n1,n2,n3,n4] at z61
  all_goals
  obtain rfl:=AB h
  refine ⟨0,fun L hL => ?_⟩
  simp only [go_sem,z61]
def Iz (list:List AA) (out:List Int) (e_:AA):Int → St
 | j => ⟨[.sl 5 (List.map AE list),.any,.any,.any,.any,.any,.own 3200000,.ptr 5 [AE e_] 0 0,.any,.int .i64 j,.any],[],[(3200000,⟨1,List.map (AV.int .i64) out⟩)],true⟩
def Ix (list:List AA) (out:List Int) (e_:AA) (y:(List Int)):EB:=(.exit 0,⟨[.any,.any,.any,.any,.any,.any,.own 3200000,.any,.any,.any,.any],[],[(3200000,⟨1,List.map (AV.int .i64) y⟩)],true⟩)
set_option maxHeartbeats 64000000 in
attribute [local go_sem] MB Iz Ix Bv Bp Bo Bn EJ EI Eg Ef FM FL Fd Fb GL GI Gj Gi HQ HN Hv Hu in
theorem SC {list:List AA} {out:List Int} {e_:AA} {sgm_:Int} {rho_:(List Int)} (h:AL (JM list out e_) sgm_ = some rho_):∃ L0,∀ L,L0 ≤ L → Bk (Az (AR Lk) L Bv) Bp Bo Bn L (Iz list out e_ sgm_) = Ix list out e_ rho_:=by
 refine As (E:=Iz list out e_) (R:=Ix list out e_) (fun y => by first | (intro c; cases c) | (rcases y with y | y <;> (intro c; cases c)) | (rcases y with y | y | y <;> (intro c; cases c))) ?_ h
 clear h
 intro j o_ h
 dsimp only [JM] at h
 rcases AD h with ⟨z75,h⟩ | ⟨z75,h⟩
 ·try simp only [go_sem,n1,n2,n3,n4] at z75
  all_goals
  obtain ⟨z76,h⟩:=AF h
  have lz76:=Au z76
  have xz76:=AK AE list lz76
  try simp only [go_sem] at lz76
  try simp only [go_sem] at xz76
  try simp only [go_sem,n1,n2,n3,n4,z75] at z76
  all_goals
  rcases AD h with ⟨z77,h⟩ | ⟨z77,h⟩
  ·try simp only [go_sem,n1,n2,n3,n4,z75,z76] at z77
   all_goals
   obtain ⟨z78,h⟩:=AF h
   try simp only [go_sem,n1,n2,n3,n4,z75,z76,z77] at z78
   all_goals
   obtain rfl:=AB h
   refine ⟨0,fun L hL => ?_⟩
   simp only [go_sem,z75,z76,lz76,xz76,z77,z78]
  ·try simp only [go_sem,n1,n2,n3,n4,z75,z76] at z77
   all_goals
   obtain rfl:=AB h
   refine ⟨0,fun L hL => ?_⟩
   simp only [go_sem,z75,z76,lz76,xz76,z77]
 ·try simp only [go_sem,n1,n2,n3,n4] at z75
  all_goals
  obtain rfl:=AB h
  refine ⟨0,fun L hL => ?_⟩
  simp only [go_sem,z75]
def Hk (list:List AA) (out:List Int) (e_:AA):Int → St
 | j => ⟨[.sl 5 (List.map AE list),.any,.any,.any,.any,.any,.own 3200000,.ptr 5 [AE e_] 0 0,.any,.int .i64 j,.any],[],[(3200000,⟨1,List.map (AV.int .i64) out⟩)],true⟩
def Hj (list:List AA) (out:List Int) (e_:AA) (y:(List Int)):EB:=(.exit 0,⟨[.any,.any,.any,.any,.any,.any,.own 3200000,.any,.any,.any,.any],[],[(3200000,⟨1,List.map (AV.int .i64) y⟩)],true⟩)
set_option maxHeartbeats 64000000 in
attribute [local go_sem] MB Hk Hj Bv Bp Bo Bn EJ EI Eg Ef FM FL Fd Fb GL GI Gj Gi HQ HN Hv Hu Iz Ix in
theorem Kf {list:List AA} {out:List Int} {e_:AA} {sgm_:Int} {rho_:(List Int)} (h:AL (IY list out e_) sgm_ = some rho_):∃ L0,∀ L,L0 ≤ L → Bk (Az (AR Lk) L Bv) Bp Bo Bn L (Hk list out e_ sgm_) = Hj list out e_ rho_:=by
 refine As (E:=Hk list out e_) (R:=Hj list out e_) (fun y => by first | (intro c; cases c) | (rcases y with y | y <;> (intro c; cases c)) | (rcases y with y | y | y <;> (intro c; cases c))) ?_ h
 clear h
 intro j o_ h
 dsimp only [IY] at h
 rcases AD h with ⟨z80,h⟩ | ⟨z80,h⟩
 ·try simp only [go_sem,n1,n2,n3,n4] at z80
  all_goals
  obtain ⟨z81,h⟩:=AF h
  have lz81:=Au z81
  have xz81:=AK AE list lz81
  try simp only [go_sem] at lz81
  try simp only [go_sem] at xz81
  try simp only [go_sem,n1,n2,n3,n4,z80] at z81
  all_goals
  rcases AD h with ⟨z82,h⟩ | ⟨z82,h⟩
  ·try simp only [go_sem,n1,n2,n3,n4,z80,z81] at z82
   all_goals
   obtain ⟨z83,h⟩:=AF h
   try simp only [go_sem,n1,n2,n3,n4,z80,z81,z82] at z83
   all_goals
   obtain rfl:=AB h
   refine ⟨0,fun L hL => ?_⟩
   simp only [go_sem,z80,z81,lz81,xz81,z82,z83]
  ·try simp only [go_sem,n1,n2,n3,n4,z80,z81] at z82
   all_goals
   obtain rfl:=AB h
   refine ⟨0,fun L hL => ?_⟩
   simp only [go_sem,z80,z81,lz81,xz81,z82]
 ·try simp only [go_sem,n1,n2,n3,n4] at z80
  all_goals
  obtain rfl:=AB h
  refine ⟨0,fun L hL => ?_⟩
  simp only [go_sem,z80]
def JA (list:List AA) (out:List Int) (e_:AA):Int → St
 | j => ⟨[.sl 5 (List.map AE list),.any,.any,.any,.any,.any,.own 3200000,.ptr 5 [AE e_] 0 0,.any,.int .i64 j,.any],[],[(3200000,⟨1,List.map (AV.int .i64) out⟩)],true⟩
def Iy (list:List AA) (out:List Int) (e_:AA) (y:(List Int)):EB:=(.exit 0,⟨[.any,.any,.any,.any,.any,.any,.own 3200000,.any,.any,.any,.any],[],[(3200000,⟨1,List.map (AV.int .i64) y⟩)],true⟩)
set_option maxHeartbeats 64000000 in
attribute [local go_sem] MB JA Iy Bv Bp Bo Bn EJ EI Eg Ef FM FL Fd Fb GL GI Gj Gi HQ HN Hv Hu Iz Ix Hk Hj in
theorem PV {list:List AA} {out:List Int} {e_:AA} {sgm_:Int} {rho_:(List Int)} (h:AL (IX list out e_) sgm_ = some rho_):∃ L0,∀ L,L0 ≤ L → Bk (Az (AR Lk) L Bv) Bp Bo Bn L (JA list out e_ sgm_) = Iy list out e_ rho_:=by
 refine As (E:=JA list out e_) (R:=Iy list out e_) (fun y => by first | (intro c; cases c) | (rcases y with y | y <;> (intro c; cases c)) | (rcases y with y | y | y <;> (intro c; cases c))) ?_ h
 clear h
 intro j o_ h
 dsimp only [IX] at h
 rcases AD h with ⟨z88,h⟩ | ⟨z88,h⟩
 ·try simp only [go_sem,n1,n2,n3,n4] at z88
  all_goals
  obtain ⟨z89,h⟩:=AF h
  have lz89:=Au z89
  have xz89:=AK AE list lz89
  try simp only [go_sem] at lz89
  try simp only [go_sem] at xz89
  try simp only [go_sem,n1,n2,n3,n4,z88] at z89
  all_goals
  rcases AD h with ⟨z90,h⟩ | ⟨z90,h⟩
  ·try simp only [go_sem,n1,n2,n3,n4,z88,z89] at z90
   all_goals
   obtain ⟨z91,h⟩:=AF h
   try simp only [go_sem,n1,n2,n3,n4,z88,z89,z90] at z91
   all_goals
   obtain rfl:=AB h
   refine ⟨0,fun L hL => ?_⟩
   simp only [go_sem,z88,z89,lz89,xz89,z90,z91]
  ·try simp only [go_sem,n1,n2,n3,n4,z88,z89] at z90
   all_goals
   obtain rfl:=AB h
   refine ⟨0,fun L hL => ?_⟩
   simp only [go_sem,z88,z89,lz89,xz89,z90]
 ·try simp only [go_sem,n1,n2,n3,n4] at z88
  all_goals
  obtain rfl:=AB h
  refine ⟨0,fun L hL => ?_⟩
  simp only [go_sem,z88]
def Jl (list:List AA) (out:List Int) (e_:AA):Int → St
 | j => ⟨[.sl 5 (List.map AE list),.any,.any,.any,.any,.any,.own 3200000,.ptr 5 [AE e_] 0 0,.any,.int .i64 j,.any],[],[(3200000,⟨1,List.map (AV.int .i64) out⟩)],true⟩
def Jj (list:List AA) (out:List Int) (e_:AA) (y:(List Int)):EB:=(.exit 0,⟨[.any,.any,.any,.any,.any,.any,.own 3200000,.any,.any,.any,.any],[],[(3200000,⟨1,List.map (AV.int .i64) y⟩)],true⟩)
set_option maxHeartbeats 64000000 in
attribute [local go_sem] MB Jl Jj Bv Bp Bo Bn EJ EI Eg Ef FM FL Fd Fb GL GI Gj Gi HQ HN Hv Hu Iz Ix Hk Hj JA Iy in
theorem IV {list:List AA} {out:List Int} {e_:AA} {sgm_:Int} {rho_:(List Int)} (h:AL (IW list out e_) sgm_ = some rho_):∃ L0,∀ L,L0 ≤ L → Bk (Az (AR Lk) L Bv) Bp Bo Bn L (Jl list out e_ sgm_) = Jj list out e_ rho_:=by
 refine As (E:=Jl list out e_) (R:=Jj list out e_) (fun y => by first | (intro c; cases c) | (rcases y with y | y <;> (intro c; cases c)) | (rcases y with y | y | y <;> (intro c; cases c))) ?_ h
 clear h
 intro j o_ h
 dsimp only [IW] at h
 rcases AD h with ⟨z93,h⟩ | ⟨z93,h⟩
 ·try simp only [go_sem,n1,n2,n3,n4] at z93
  all_goals
  obtain ⟨z94,h⟩:=AF h
  have lz94:=Au z94
  have xz94:=AK AE list lz94
  try simp only [go_sem] at lz94
  try simp only [go_sem] at xz94
  try simp only [go_sem,n1,n2,n3,n4,z93] at z94
  all_goals
  rcases AD h with ⟨z95,h⟩ | ⟨z95,h⟩
  ·try simp only [go_sem,n1,n2,n3,n4,z93,z94] at z95
   all_goals
   obtain ⟨z96,h⟩:=AF h
   try simp only [go_sem,n1,n2,n3,n4,z93,z94,z95] at z96
   all_goals
   obtain rfl:=AB h
   refine ⟨0,fun L hL => ?_⟩
   simp only [go_sem,z93,z94,lz94,xz94,z95,z96]
  ·try simp only [go_sem,n1,n2,n3,n4,z93,z94] at z95
   all_goals
   obtain rfl:=AB h
   refine ⟨0,fun L hL => ?_⟩
   simp only [go_sem,z93,z94,lz94,xz94,z95]
 ·try simp only [go_sem,n1,n2,n3,n4] at z93
  all_goals
  obtain rfl:=AB h
  refine ⟨0,fun L hL => ?_⟩
  simp only [go_sem,z93]
def KV (list:List AA) (out:List Int) (e_:AA):Int → St
 | j => ⟨[.sl 5 (List.map AE list),.any,.any,.any,.any,.any,.own 3200000,.ptr 5 [AE e_] 0 0,.any,.int .i64 j,.any],[],[(3200000,⟨1,List.map (AV.int .i64) out⟩)],true⟩
def KU (list:List AA) (out:List Int) (e_:AA) (y:(List Int)):EB:=(.exit 0,⟨[.any,.any,.any,.any,.any,.any,.own 3200000,.any,.any,.any,.any],[],[(3200000,⟨1,List.map (AV.int .i64) y⟩)],true⟩)
set_option maxHeartbeats 64000000 in
attribute [local go_sem] MB KV KU Bv Bp Bo Bn EJ EI Eg Ef FM FL Fd Fb GL GI Gj Gi HQ HN Hv Hu Iz Ix Hk Hj JA Iy Jl Jj in
theorem PU {list:List AA} {out:List Int} {e_:AA} {sgm_:Int} {rho_:(List Int)} (h:AL (IU list out e_) sgm_ = some rho_):∃ L0,∀ L,L0 ≤ L → Bk (Az (AR Lk) L Bv) Bp Bo Bn L (KV list out e_ sgm_) = KU list out e_ rho_:=by
 refine As (E:=KV list out e_) (R:=KU list out e_) (fun y => by first | (intro c; cases c) | (rcases y with y | y <;> (intro c; cases c)) | (rcases y with y | y | y <;> (intro c; cases c))) ?_ h
 clear h
 intro j o_ h
 dsimp only [IU] at h
 rcases AD h with ⟨z104,h⟩ | ⟨z104,h⟩
 ·try simp only [go_sem,n1,n2,n3,n4] at z104
  all_goals
  obtain ⟨z105,h⟩:=AF h
  have lz105:=Au z105
  have xz105:=AK AE list lz105
  try simp only [go_sem] at lz105
  try simp only [go_sem] at xz105
  try simp only [go_sem,n1,n2,n3,n4,z104] at z105
  all_goals
  rcases AD h with ⟨z106,h⟩ | ⟨z106,h⟩
  ·try simp only [go_sem,n1,n2,n3,n4,z104,z105] at z106
   all_goals
   obtain ⟨z107,h⟩:=AF h
   try simp only [go_sem,n1,n2,n3,n4,z104,z105,z106] at z107
   all_goals
   obtain rfl:=AB h
   refine ⟨0,fun L hL => ?_⟩
   simp only [go_sem,z104,z105,lz105,xz105,z106,z107]
  ·try simp only [go_sem,n1,n2,n3,n4,z104,z105] at z106
   all_goals
   obtain rfl:=AB h
   refine ⟨0,fun L hL => ?_⟩
   simp only [go_sem,z104,z105,lz105,xz105,z106]
 ·try simp only [go_sem,n1,n2,n3,n4] at z104
  all_goals
  obtain rfl:=AB h
  refine ⟨0,fun L hL => ?_⟩
  simp only [go_sem,z104]
def Lg (list:List AA) (out:List Int) (e_:AA):Int → St
 | j => ⟨[.sl 5 (List.map AE list),.any,.any,.any,.any,.any,.own 3200000,.ptr 5 [AE e_] 0 0,.any,.int .i64 j,.any],[],[(3200000,⟨1,List.map (AV.int .i64) out⟩)],true⟩
def Lf (list:List AA) (out:List Int) (e_:AA) (y:(List Int)):EB:=(.exit 0,⟨[.any,.any,.any,.any,.any,.any,.own 3200000,.any,.any,.any,.any],[],[(3200000,⟨1,List.map (AV.int .i64) y⟩)],true⟩)
set_option maxHeartbeats 64000000 in
attribute [local go_sem] MB Lg Lf Bv Bp Bo Bn EJ EI Eg Ef FM FL Fd Fb GL GI Gj Gi HQ HN Hv Hu Iz Ix Hk Hj JA Iy Jl Jj KV KU in
theorem Ke {list:List AA} {out:List Int} {e_:AA} {sgm_:Int} {rho_:(List Int)} (h:AL (IT list out e_) sgm_ = some rho_):∃ L0,∀ L,L0 ≤ L → Bk (Az (AR Lk) L Bv) Bp Bo Bn L (Lg list out e_ sgm_) = Lf list out e_ rho_:=by
 refine As (E:=Lg list out e_) (R:=Lf list out e_) (fun y => by first | (intro c; cases c) | (rcases y with y | y <;> (intro c; cases c)) | (rcases y with y | y | y <;> (intro c; cases c))) ?_ h
 clear h
 intro j o_ h
 dsimp only [IT] at h
 rcases AD h with ⟨z109,h⟩ | ⟨z109,h⟩
 ·try simp only [go_sem,n1,n2,n3,n4] at z109
  all_goals
  obtain ⟨z110,h⟩:=AF h
  have lz110:=Au z110
  have xz110:=AK AE list lz110
  try simp only [go_sem] at lz110
  try simp only [go_sem] at xz110
  try simp only [go_sem,n1,n2,n3,n4,z109] at z110
  all_goals
  rcases AD h with ⟨z111,h⟩ | ⟨z111,h⟩
  ·try simp only [go_sem,n1,n2,n3,n4,z109,z110] at z111
   all_goals
   obtain ⟨z112,h⟩:=AF h
   try simp only [go_sem,n1,n2,n3,n4,z109,z110,z111] at z112
   all_goals
   obtain rfl:=AB h
   refine ⟨0,fun L hL => ?_⟩
   simp only [go_sem,z109,z110,lz110,xz110,z111,z112]
  ·try simp only [go_sem,n1,n2,n3,n4,z109,z110] at z111
   all_goals
   obtain rfl:=AB h
   refine ⟨0,fun L hL => ?_⟩
   simp only [go_sem,z109,z110,lz110,xz110,z111]
 ·try simp only [go_sem,n1,n2,n3,n4] at z109
  all_goals
  obtain rfl:=AB h
  refine ⟨0,fun L hL => ?_⟩
  simp only [go_sem,z109]
def NO (list:List AA) (out:List Int) (e_:AA):Int → St
 | j => ⟨[.sl 5 (List.map AE list),.any,.any,.any,.any,.any,.own 3200000,.ptr 5 [AE e_] 0 0,.any,.int .i64 j,.any],[],[(3200000,⟨1,List.map (AV.int .i64) out⟩)],true⟩
def NL (list:List AA) (out:List Int) (e_:AA) (y:(List Int)):EB:=(.exit 0,⟨[.any,.any,.any,.any,.any,.any,.own 3200000,.any,.any,.any,.any],[],[(3200000,⟨1,List.map (AV.int .i64) y⟩)],true⟩)
set_option maxHeartbeats 64000000 in
attribute [local go_sem] MB NO NL Bv Bp Bo Bn EJ EI Eg Ef FM FL Fd Fb GL GI Gj Gi HQ HN Hv Hu Iz Ix Hk Hj JA Iy Jl Jj KV KU Lg Lf in
theorem PT {list:List AA} {out:List Int} {e_:AA} {sgm_:Int} {rho_:(List Int)} (h:AL (IS list out e_) sgm_ = some rho_):∃ L0,∀ L,L0 ≤ L → Bk (Az (AR Lk) L Bv) Bp Bo Bn L (NO list out e_ sgm_) = NL list out e_ rho_:=by
 refine As (E:=NO list out e_) (R:=NL list out e_) (fun y => by first | (intro c; cases c) | (rcases y with y | y <;> (intro c; cases c)) | (rcases y with y | y | y <;> (intro c; cases c))) ?_ h
 clear h
 intro j o_ h
 dsimp only [IS] at h
 rcases AD h with ⟨z117,h⟩ | ⟨z117,h⟩
 ·try simp only [go_sem,n1,n2,n3,n4] at z117
  all_goals
  obtain ⟨z118,h⟩:=AF h
  have lz118:=Au z118
  have xz118:=AK AE list lz118
  try simp only [go_sem] at lz118
  try simp only [go_sem] at xz118
  try simp only [go_sem,n1,n2,n3,n4,z117] at z118
  all_goals
  rcases AD h with ⟨z119,h⟩ | ⟨z119,h⟩
  ·try simp only [go_sem,n1,n2,n3,n4,z117,z118] at z119
   all_goals
   obtain ⟨z120,h⟩:=AF h
   try simp only [go_sem,n1,n2,n3,n4,z117,z118,z119] at z120
   all_goals
   obtain rfl:=AB h
   refine ⟨0,fun L hL => ?_⟩
   simp only [go_sem,z117,z118,lz118,xz118,z119,z120]
  ·try simp only [go_sem,n1,n2,n3,n4,z117,z118] at z119
   all_goals
   obtain rfl:=AB h
   refine ⟨0,fun L hL => ?_⟩
   simp only [go_sem,z117,z118,lz118,xz118,z119]
 ·try simp only [go_sem,n1,n2,n3,n4] at z117
  all_goals
  obtain rfl:=AB h
  refine ⟨0,fun L hL => ?_⟩
  simp only [go_sem,z117]
def Rb (list:List AA) (out:List Int) (e_:AA):Int → St
 | j => ⟨[.sl 5 (List.map AE list),.any,.any,.any,.any,.any,.own 3200000,.ptr 5 [AE e_] 0 0,.any,.int .i64 j,.any],[],[(3200000,⟨1,List.map (AV.int .i64) out⟩)],true⟩
def RF (list:List AA) (out:List Int) (e_:AA) (y:(List Int)):EB:=(.exit 0,⟨[.any,.any,.any,.any,.any,.any,.own 3200000,.any,.any,.any,.any],[],[(3200000,⟨1,List.map (AV.int .i64) y⟩)],true⟩)
set_option maxHeartbeats 64000000 in
attribute [local go_sem] MB Rb RF Bv Bp Bo Bn EJ EI Eg Ef FM FL Fd Fb GL GI Gj Gi HQ HN Hv Hu Iz Ix Hk Hj JA Iy Jl Jj KV KU Lg Lf NO NL in
theorem IP {list:List AA} {out:List Int} {e_:AA} {sgm_:Int} {rho_:(List Int)} (h:AL (IQ list out e_) sgm_ = some rho_):∃ L0,∀ L,L0 ≤ L → Bk (Az (AR Lk) L Bv) Bp Bo Bn L (Rb list out e_ sgm_) = RF list out e_ rho_:=by
 refine As (E:=Rb list out e_) (R:=RF list out e_) (fun y => by first | (intro c; cases c) | (rcases y with y | y <;> (intro c; cases c)) | (rcases y with y | y | y <;> (intro c; cases c))) ?_ h
 clear h
 intro j o_ h
 dsimp only [IQ] at h
 rcases AD h with ⟨z122,h⟩ | ⟨z122,h⟩
 ·try simp only [go_sem,n1,n2,n3,n4] at z122
  all_goals
  obtain ⟨z123,h⟩:=AF h
  have lz123:=Au z123
  have xz123:=AK AE list lz123
  try simp only [go_sem] at lz123
  try simp only [go_sem] at xz123
  try simp only [go_sem,n1,n2,n3,n4,z122] at z123
  all_goals
  rcases AD h with ⟨z124,h⟩ | ⟨z124,h⟩
  ·try simp only [go_sem,n1,n2,n3,n4,z122,z123] at z124
   all_goals
   obtain ⟨z125,h⟩:=AF h
   try simp only [go_sem,n1,n2,n3,n4,z122,z123,z124] at z125
   all_goals
   obtain rfl:=AB h
   refine ⟨0,fun L hL => ?_⟩
   simp only [go_sem,z122,z123,lz123,xz123,z124,z125]
  ·try simp only [go_sem,n1,n2,n3,n4,z122,z123] at z124
   all_goals
   obtain rfl:=AB h
   refine ⟨0,fun L hL => ?_⟩
   simp only [go_sem,z122,z123,lz123,xz123,z124]
 ·try simp only [go_sem,n1,n2,n3,n4] at z122
  all_goals
  obtain rfl:=AB h
  refine ⟨0,fun L hL => ?_⟩
  simp only [go_sem,z122]
set_option maxHeartbeats 64000000 in
attribute [local go_sem] EJ EI Bp Bo Bn Eg Ef FM FL Fd Fb GL GI Gj Gi HQ HN Hv Hu Iz Ix Hk Hj JA Iy Jl Jj KV KU Lg Lf NO NL Rb RF MB in
theorem AHn {list:List AA} {i:Int} {stars:List Star} {observers:List Observer} {margin:Int} {y_:(List Int)} (h:KE list i stars observers margin = some y_):oA.F [.sl 5 (List.map AE list),.int .i64 i,.sl 5 (List.map Al stars),.sl 2 (List.map AX observers),.int .i64 margin] = ⟨true,.fresh 1 (List.map (AV.int .i64) y_),[.any,.any,.any,.any,.any]⟩:=by
 refine Ay (by simp only [Fo,Fu,GQ,List.all_cons,List.all_nil,Bool.and_self,Bx (f:=(AV.int .i64)) (fun _ => rfl)]) ?_
 dsimp only [KE] at h
 obtain ⟨z1,h⟩:=AF h
 have lz1:=Au z1
 have xz1:=AK AE list lz1
 try simp only [go_sem] at lz1
 try simp only [go_sem] at xz1
 try simp only [go_sem,n1,n2,n3,n4] at z1
 all_goals
 obtain ⟨y_2,z2,h⟩:=AC h
 have fz2:=AHo z2
 try simp only [go_sem,z1] at fz2
 rcases AD h with ⟨z3,h⟩ | ⟨z3,h⟩
 ·try simp only [go_sem,n1,n2,n3,n4,z1] at z3
  all_goals
  obtain ⟨z4,h⟩:=AF h
  try simp only [go_sem,n1,n2,n3,n4,z1,z3] at z4
  all_goals
  obtain ⟨y_5,z5,h⟩:=AC h
  have fz5:=zV z5
  try simp only [go_sem,z1,z3,z4] at fz5
  rcases AD h with ⟨z6,h⟩ | ⟨z6,h⟩
  ·try simp only [go_sem,n1,n2,n3,n4,z1,z3,z4] at z6
   all_goals
   obtain ⟨z7,h⟩:=AF h
   try simp only [go_sem,n1,n2,n3,n4,z1,z3,z4,z6] at z7
   all_goals
   obtain ⟨z8,h⟩:=AF h
   rcases Ab z8 with ⟨gz8,z8⟩ | gz8
   ·try simp only [go_sem,n1,n2,n3,n4,z1,z3,z4,z6,z7] at gz8
    all_goals
    have lz8:=Au z8
    have xz8:=AK Al stars lz8
    try simp only [go_sem] at lz8
    try simp only [go_sem] at xz8
    try simp only [go_sem,n1,n2,n3,n4,z1,z3,z4,z6,z7,gz8] at z8
    all_goals
    rcases AD h with ⟨z9,h⟩ | ⟨z9,h⟩
    ·try simp only [go_sem,n1,n2,n3,n4,z1,z3,z4,z6,z7,gz8,z8] at z9
     all_goals
     obtain ⟨z10,h⟩:=AF h
     try simp only [go_sem,n1,n2,n3,n4,z1,z3,z4,z6,z7,gz8,z8,z9] at z10
     all_goals
     obtain ⟨z11,h⟩:=AF h
     rcases Ab z11 with ⟨gz11,z11⟩ | gz11
     ·try simp only [go_sem,n1,n2,n3,n4,z1,z3,z4,z6,z7,gz8,z8,z9,z10] at gz11
      all_goals
      have lz11:=Au z11
      have xz11:=AK Al stars lz11
      try simp only [go_sem] at lz11
      try simp only [go_sem] at xz11
      try simp only [go_sem,n1,n2,n3,n4,z1,z3,z4,z6,z7,gz8,z8,z9,z10,gz11] at z11
      all_goals
      rcases AD h with ⟨z12,h⟩ | ⟨z12,h⟩
      ·try simp only [go_sem,n1,n2,n3,n4,z1,z3,z4,z6,z7,gz8,z8,z9,z10,gz11,z11] at z12
       all_goals
       obtain ⟨z13,h⟩:=AF h
       try simp only [go_sem,n1,n2,n3,n4,z1,z3,z4,z6,z7,gz8,z8,z9,z10,gz11,z11,z12] at z13
       all_goals
       obtain ⟨y_18,z18,h⟩:=AC h
       obtain ⟨Lz18,ez18⟩:=SH z18
       obtain rfl:=AB h
       refine ⟨Lz18,fun L hL => ?_⟩
       have ez18:=ez18 L (by omega)
       try simp only [go_sem,z1,z3,z4,z6,z7,gz8,z8,z9,z10,gz11,z11,z12,z13] at ez18
       simp only [go_sem,z1,lz1,xz1,fz2,z3,z4,fz5,z6,z7,gz8,z8,lz8,xz8,z9,z10,gz11,z11,lz11,xz11,z12,z13,ez18]
      ·try simp only [go_sem,n1,n2,n3,n4,z1,z3,z4,z6,z7,gz8,z8,z9,z10,gz11,z11] at z12
       all_goals
       obtain ⟨y_23,z23,h⟩:=AC h
       obtain ⟨Lz23,ez23⟩:=LN z23
       obtain rfl:=AB h
       refine ⟨Lz23,fun L hL => ?_⟩
       have ez23:=ez23 L (by omega)
       try simp only [go_sem,z1,z3,z4,z6,z7,gz8,z8,z9,z10,gz11,z11,z12] at ez23
       simp only [go_sem,z1,lz1,xz1,fz2,z3,z4,fz5,z6,z7,gz8,z8,lz8,xz8,z9,z10,gz11,z11,lz11,xz11,z12,ez23]
     ·rcases DA gz11 with gz11a | ⟨gz11a,gz11b⟩
      ·try simp only [go_sem,n1,n2,n3,n4,z1,z3,z4,z6,z7,gz8,z8,z9,z10] at gz11a
       all_goals
       (simp_all)
      ·have gz11bn:=DT gz11b
       try simp only [go_sem,n1,n2,n3,n4,z1,z3,z4,z6,z7,gz8,z8,z9,z10] at gz11a
       all_goals
       try simp only [go_sem,n1,n2,n3,n4,z1,z3,z4,z6,z7,gz8,z8,z9,z10,gz11a] at gz11bn
       all_goals
       rcases AD h with ⟨z12,h⟩ | ⟨z12,h⟩
       ·try simp only [go_sem,n1,n2,n3,n4,z1,z3,z4,z6,z7,gz8,z8,z9,z10,gz11a,gz11bn] at z12
        all_goals
        (simp_all)
       ·try simp only [go_sem,n1,n2,n3,n4,z1,z3,z4,z6,z7,gz8,z8,z9,z10,gz11a,gz11bn] at z12
        all_goals
        obtain ⟨y_23,z23,h⟩:=AC h
        obtain ⟨Lz23,ez23⟩:=LN z23
        obtain rfl:=AB h
        refine ⟨Lz23,fun L hL => ?_⟩
        have ez23:=ez23 L (by omega)
        try simp only [go_sem,z1,z3,z4,z6,z7,gz8,z8,z9,z10,gz11a,gz11bn,z12] at ez23
        simp only [go_sem,z1,lz1,xz1,fz2,z3,z4,fz5,z6,z7,gz8,z8,lz8,xz8,z9,z10,gz11a,gz11bn,z12,ez23]
    ·try simp only [go_sem,n1,n2,n3,n4,z1,z3,z4,z6,z7,gz8,z8] at z9
     all_goals
     obtain ⟨z24,h⟩:=AF h
     rcases Ab z24 with ⟨gz24,z24⟩ | gz24
     ·try simp only [go_sem,n1,n2,n3,n4,z1,z3,z4,z6,z7,gz8,z8,z9] at gz24
      all_goals
      have lz24:=Au z24
      have xz24:=AK Al stars lz24
      try simp only [go_sem] at lz24
      try simp only [go_sem] at xz24
      try simp only [go_sem,n1,n2,n3,n4,z1,z3,z4,z6,z7,gz8,z8,z9,gz24] at z24
      all_goals
      rcases AD h with ⟨z25,h⟩ | ⟨z25,h⟩
      ·try simp only [go_sem,n1,n2,n3,n4,z1,z3,z4,z6,z7,gz8,z8,z9,gz24,z24] at z25
       all_goals
       obtain ⟨z26,h⟩:=AF h
       try simp only [go_sem,n1,n2,n3,n4,z1,z3,z4,z6,z7,gz8,z8,z9,gz24,z24,z25] at z26
       all_goals
       obtain ⟨y_31,z31,h⟩:=AC h
       obtain ⟨Lz31,ez31⟩:=SG z31
       obtain rfl:=AB h
       refine ⟨Lz31,fun L hL => ?_⟩
       have ez31:=ez31 L (by omega)
       try simp only [go_sem,z1,z3,z4,z6,z7,gz8,z8,z9,gz24,z24,z25,z26] at ez31
       simp only [go_sem,z1,lz1,xz1,fz2,z3,z4,fz5,z6,z7,gz8,z8,lz8,xz8,z9,gz24,z24,lz24,xz24,z25,z26,ez31]
      ·try simp only [go_sem,n1,n2,n3,n4,z1,z3,z4,z6,z7,gz8,z8,z9,gz24,z24] at z25
       all_goals
       obtain ⟨y_36,z36,h⟩:=AC h
       obtain ⟨Lz36,ez36⟩:=JG z36
       obtain rfl:=AB h
       refine ⟨Lz36,fun L hL => ?_⟩
       have ez36:=ez36 L (by omega)
       try simp only [go_sem,z1,z3,z4,z6,z7,gz8,z8,z9,gz24,z24,z25] at ez36
       simp only [go_sem,z1,lz1,xz1,fz2,z3,z4,fz5,z6,z7,gz8,z8,lz8,xz8,z9,gz24,z24,lz24,xz24,z25,ez36]
     ·rcases DA gz24 with gz24a | ⟨gz24a,gz24b⟩
      ·try simp only [go_sem,n1,n2,n3,n4,z1,z3,z4,z6,z7,gz8,z8,z9] at gz24a
       all_goals
       (simp_all)
      ·have gz24bn:=DT gz24b
       try simp only [go_sem,n1,n2,n3,n4,z1,z3,z4,z6,z7,gz8,z8,z9] at gz24a
       all_goals
       try simp only [go_sem,n1,n2,n3,n4,z1,z3,z4,z6,z7,gz8,z8,z9,gz24a] at gz24bn
       all_goals
       rcases AD h with ⟨z25,h⟩ | ⟨z25,h⟩
       ·try simp only [go_sem,n1,n2,n3,n4,z1,z3,z4,z6,z7,gz8,z8,z9,gz24a,gz24bn] at z25
        all_goals
        (simp_all)
       ·try simp only [go_sem,n1,n2,n3,n4,z1,z3,z4,z6,z7,gz8,z8,z9,gz24a,gz24bn] at z25
        all_goals
        obtain ⟨y_36,z36,h⟩:=AC h
        obtain ⟨Lz36,ez36⟩:=JG z36
        obtain rfl:=AB h
        refine ⟨Lz36,fun L hL => ?_⟩
        have ez36:=ez36 L (by omega)
        try simp only [go_sem,z1,z3,z4,z6,z7,gz8,z8,z9,gz24a,gz24bn,z25] at ez36
        simp only [go_sem,z1,lz1,xz1,fz2,z3,z4,fz5,z6,z7,gz8,z8,lz8,xz8,z9,gz24a,gz24bn,z25,ez36]
   ·try simp only [go_sem,n1,n2,n3,n4,z1,z3,z4,z6,z7] at gz8
    all_goals
    rcases AD h with ⟨z9,h⟩ | ⟨z9,h⟩
    ·try simp only [go_sem,n1,n2,n3,n4,z1,z3,z4,z6,z7,gz8] at z9
     all_goals
     (simp_all)
    ·try simp only [go_sem,n1,n2,n3,n4,z1,z3,z4,z6,z7,gz8] at z9
     all_goals
     obtain ⟨z24,h⟩:=AF h
     rcases AD h with ⟨z25,h⟩ | ⟨z25,h⟩
     ·try simp only [go_sem,n1,n2,n3,n4,z1,z3,z4,z6,z7,gz8,z9] at z25
      all_goals
      (simp_all)
     ·try simp only [go_sem,n1,n2,n3,n4,z1,z3,z4,z6,z7,gz8,z9] at z25
      all_goals
      obtain ⟨y_36,z36,h⟩:=AC h
      obtain ⟨Lz36,ez36⟩:=JG z36
      obtain rfl:=AB h
      refine ⟨Lz36,fun L hL => ?_⟩
      have ez36:=ez36 L (by omega)
      try simp only [go_sem,z1,z3,z4,z6,z7,gz8,z9,z25] at ez36
      simp only [go_sem,z1,lz1,xz1,fz2,z3,z4,fz5,z6,z7,gz8,z9,z25,ez36]
  ·try simp only [go_sem,n1,n2,n3,n4,z1,z3,z4] at z6
   all_goals
   obtain ⟨z37,h⟩:=AF h
   rcases Ab z37 with ⟨gz37,z37⟩ | gz37
   ·try simp only [go_sem,n1,n2,n3,n4,z1,z3,z4,z6] at gz37
    all_goals
    have lz37:=Au z37
    have xz37:=AK Al stars lz37
    try simp only [go_sem] at lz37
    try simp only [go_sem] at xz37
    try simp only [go_sem,n1,n2,n3,n4,z1,z3,z4,z6,gz37] at z37
    all_goals
    rcases AD h with ⟨z38,h⟩ | ⟨z38,h⟩
    ·try simp only [go_sem,n1,n2,n3,n4,z1,z3,z4,z6,gz37,z37] at z38
     all_goals
     obtain ⟨z39,h⟩:=AF h
     try simp only [go_sem,n1,n2,n3,n4,z1,z3,z4,z6,gz37,z37,z38] at z39
     all_goals
     obtain ⟨z40,h⟩:=AF h
     rcases Ab z40 with ⟨gz40,z40⟩ | gz40
     ·try simp only [go_sem,n1,n2,n3,n4,z1,z3,z4,z6,gz37,z37,z38,z39] at gz40
      all_goals
      have lz40:=Au z40
      have xz40:=AK Al stars lz40
      try simp only [go_sem] at lz40
      try simp only [go_sem] at xz40
      try simp only [go_sem,n1,n2,n3,n4,z1,z3,z4,z6,gz37,z37,z38,z39,gz40] at z40
      all_goals
      rcases AD h with ⟨z41,h⟩ | ⟨z41,h⟩
      ·try simp only [go_sem,n1,n2,n3,n4,z1,z3,z4,z6,gz37,z37,z38,z39,gz40,z40] at z41
       all_goals
       obtain ⟨z42,h⟩:=AF h
       try simp only [go_sem,n1,n2,n3,n4,z1,z3,z4,z6,gz37,z37,z38,z39,gz40,z40,z41] at z42
       all_goals
       obtain ⟨y_47,z47,h⟩:=AC h
       obtain ⟨Lz47,ez47⟩:=SE z47
       obtain rfl:=AB h
       refine ⟨Lz47,fun L hL => ?_⟩
       have ez47:=ez47 L (by omega)
       try simp only [go_sem,z1,z3,z4,z6,gz37,z37,z38,z39,gz40,z40,z41,z42] at ez47
       simp only [go_sem,z1,lz1,xz1,fz2,z3,z4,fz5,z6,gz37,z37,lz37,xz37,z38,z39,gz40,z40,lz40,xz40,z41,z42,ez47]
      ·try simp only [go_sem,n1,n2,n3,n4,z1,z3,z4,z6,gz37,z37,z38,z39,gz40,z40] at z41
       all_goals
       obtain ⟨y_52,z52,h⟩:=AC h
       obtain ⟨Lz52,ez52⟩:=LM z52
       obtain rfl:=AB h
       refine ⟨Lz52,fun L hL => ?_⟩
       have ez52:=ez52 L (by omega)
       try simp only [go_sem,z1,z3,z4,z6,gz37,z37,z38,z39,gz40,z40,z41] at ez52
       simp only [go_sem,z1,lz1,xz1,fz2,z3,z4,fz5,z6,gz37,z37,lz37,xz37,z38,z39,gz40,z40,lz40,xz40,z41,ez52]
     ·rcases DA gz40 with gz40a | ⟨gz40a,gz40b⟩
      ·try simp only [go_sem,n1,n2,n3,n4,z1,z3,z4,z6,gz37,z37,z38,z39] at gz40a
       all_goals
       (simp_all)
      ·have gz40bn:=DT gz40b
       try simp only [go_sem,n1,n2,n3,n4,z1,z3,z4,z6,gz37,z37,z38,z39] at gz40a
       all_goals
       try simp only [go_sem,n1,n2,n3,n4,z1,z3,z4,z6,gz37,z37,z38,z39,gz40a] at gz40bn
       all_goals
       rcases AD h with ⟨z41,h⟩ | ⟨z41,h⟩
       ·try simp only [go_sem,n1,n2,n3,n4,z1,z3,z4,z6,gz37,z37,z38,z39,gz40a,gz40bn] at z41
        all_goals
        (simp_all)
       ·try simp only [go_sem,n1,n2,n3,n4,z1,z3,z4,z6,gz37,z37,z38,z39,gz40a,gz40bn] at z41
        all_goals
        obtain ⟨y_52,z52,h⟩:=AC h
        obtain ⟨Lz52,ez52⟩:=LM z52
        obtain rfl:=AB h
        refine ⟨Lz52,fun L hL => ?_⟩
        have ez52:=ez52 L (by omega)
        try simp only [go_sem,z1,z3,z4,z6,gz37,z37,z38,z39,gz40a,gz40bn,z41] at ez52
        simp only [go_sem,z1,lz1,xz1,fz2,z3,z4,fz5,z6,gz37,z37,lz37,xz37,z38,z39,gz40a,gz40bn,z41,ez52]
    ·try simp only [go_sem,n1,n2,n3,n4,z1,z3,z4,z6,gz37,z37] at z38
     all_goals
     obtain ⟨z53,h⟩:=AF h
     rcases Ab z53 with ⟨gz53,z53⟩ | gz53
     ·try simp only [go_sem,n1,n2,n3,n4,z1,z3,z4,z6,gz37,z37,z38] at gz53
      all_goals
      have lz53:=Au z53
      have xz53:=AK Al stars lz53
      try simp only [go_sem] at lz53
      try simp only [go_sem] at xz53
      try simp only [go_sem,n1,n2,n3,n4,z1,z3,z4,z6,gz37,z37,z38,gz53] at z53
      all_goals
      rcases AD h with ⟨z54,h⟩ | ⟨z54,h⟩
      ·try simp only [go_sem,n1,n2,n3,n4,z1,z3,z4,z6,gz37,z37,z38,gz53,z53] at z54
       all_goals
       obtain ⟨z55,h⟩:=AF h
       try simp only [go_sem,n1,n2,n3,n4,z1,z3,z4,z6,gz37,z37,z38,gz53,z53,z54] at z55
       all_goals
       obtain ⟨y_60,z60,h⟩:=AC h
       obtain ⟨Lz60,ez60⟩:=SD z60
       obtain rfl:=AB h
       refine ⟨Lz60,fun L hL => ?_⟩
       have ez60:=ez60 L (by omega)
       try simp only [go_sem,z1,z3,z4,z6,gz37,z37,z38,gz53,z53,z54,z55] at ez60
       simp only [go_sem,z1,lz1,xz1,fz2,z3,z4,fz5,z6,gz37,z37,lz37,xz37,z38,gz53,z53,lz53,xz53,z54,z55,ez60]
      ·try simp only [go_sem,n1,n2,n3,n4,z1,z3,z4,z6,gz37,z37,z38,gz53,z53] at z54
       all_goals
       obtain ⟨y_65,z65,h⟩:=AC h
       obtain ⟨Lz65,ez65⟩:=JF z65
       obtain rfl:=AB h
       refine ⟨Lz65,fun L hL => ?_⟩
       have ez65:=ez65 L (by omega)
       try simp only [go_sem,z1,z3,z4,z6,gz37,z37,z38,gz53,z53,z54] at ez65
       simp only [go_sem,z1,lz1,xz1,fz2,z3,z4,fz5,z6,gz37,z37,lz37,xz37,z38,gz53,z53,lz53,xz53,z54,ez65]
     ·rcases DA gz53 with gz53a | ⟨gz53a,gz53b⟩
      ·try simp only [go_sem,n1,n2,n3,n4,z1,z3,z4,z6,gz37,z37,z38] at gz53a
       all_goals
       (simp_all)
      ·have gz53bn:=DT gz53b
       try simp only [go_sem,n1,n2,n3,n4,z1,z3,z4,z6,gz37,z37,z38] at gz53a
       all_goals
       try simp only [go_sem,n1,n2,n3,n4,z1,z3,z4,z6,gz37,z37,z38,gz53a] at gz53bn
       all_goals
       rcases AD h with ⟨z54,h⟩ | ⟨z54,h⟩
       ·try simp only [go_sem,n1,n2,n3,n4,z1,z3,z4,z6,gz37,z37,z38,gz53a,gz53bn] at z54
        all_goals
        (simp_all)
       ·try simp only [go_sem,n1,n2,n3,n4,z1,z3,z4,z6,gz37,z37,z38,gz53a,gz53bn] at z54
        all_goals
        obtain ⟨y_65,z65,h⟩:=AC h
        obtain ⟨Lz65,ez65⟩:=JF z65
        obtain rfl:=AB h
        refine ⟨Lz65,fun L hL => ?_⟩
        have ez65:=ez65 L (by omega)
        try simp only [go_sem,z1,z3,z4,z6,gz37,z37,z38,gz53a,gz53bn,z54] at ez65
        simp only [go_sem,z1,lz1,xz1,fz2,z3,z4,fz5,z6,gz37,z37,lz37,xz37,z38,gz53a,gz53bn,z54,ez65]
   ·try simp only [go_sem,n1,n2,n3,n4,z1,z3,z4,z6] at gz37
    all_goals
    rcases AD h with ⟨z38,h⟩ | ⟨z38,h⟩
    ·try simp only [go_sem,n1,n2,n3,n4,z1,z3,z4,z6,gz37] at z38
     all_goals
     (simp_all)
    ·try simp only [go_sem,n1,n2,n3,n4,z1,z3,z4,z6,gz37] at z38
     all_goals
     obtain ⟨z53,h⟩:=AF h
     rcases AD h with ⟨z54,h⟩ | ⟨z54,h⟩
     ·try simp only [go_sem,n1,n2,n3,n4,z1,z3,z4,z6,gz37,z38] at z54
      all_goals
      (simp_all)
     ·try simp only [go_sem,n1,n2,n3,n4,z1,z3,z4,z6,gz37,z38] at z54
      all_goals
      obtain ⟨y_65,z65,h⟩:=AC h
      obtain ⟨Lz65,ez65⟩:=JF z65
      obtain rfl:=AB h
      refine ⟨Lz65,fun L hL => ?_⟩
      have ez65:=ez65 L (by omega)
      try simp only [go_sem,z1,z3,z4,z6,gz37,z38,z54] at ez65
      simp only [go_sem,z1,lz1,xz1,fz2,z3,z4,fz5,z6,gz37,z38,z54,ez65]
 ·try simp only [go_sem,n1,n2,n3,n4,z1] at z3
  all_goals
  obtain ⟨y_66,z66,h⟩:=AC h
  have fz66:=zV z66
  try simp only [go_sem,z1,z3] at fz66
  rcases AD h with ⟨z67,h⟩ | ⟨z67,h⟩
  ·try simp only [go_sem,n1,n2,n3,n4,z1,z3] at z67
   all_goals
   obtain ⟨z68,h⟩:=AF h
   try simp only [go_sem,n1,n2,n3,n4,z1,z3,z67] at z68
   all_goals
   obtain ⟨z69,h⟩:=AF h
   rcases Ab z69 with ⟨gz69,z69⟩ | gz69
   ·try simp only [go_sem,n1,n2,n3,n4,z1,z3,z67,z68] at gz69
    all_goals
    have lz69:=Au z69
    have xz69:=AK Al stars lz69
    try simp only [go_sem] at lz69
    try simp only [go_sem] at xz69
    try simp only [go_sem,n1,n2,n3,n4,z1,z3,z67,z68,gz69] at z69
    all_goals
    rcases AD h with ⟨z70,h⟩ | ⟨z70,h⟩
    ·try simp only [go_sem,n1,n2,n3,n4,z1,z3,z67,z68,gz69,z69] at z70
     all_goals
     obtain ⟨z71,h⟩:=AF h
     try simp only [go_sem,n1,n2,n3,n4,z1,z3,z67,z68,gz69,z69,z70] at z71
     all_goals
     obtain ⟨z72,h⟩:=AF h
     rcases Ab z72 with ⟨gz72,z72⟩ | gz72
     ·try simp only [go_sem,n1,n2,n3,n4,z1,z3,z67,z68,gz69,z69,z70,z71] at gz72
      all_goals
      have lz72:=Au z72
      have xz72:=AK Al stars lz72
      try simp only [go_sem] at lz72
      try simp only [go_sem] at xz72
      try simp only [go_sem,n1,n2,n3,n4,z1,z3,z67,z68,gz69,z69,z70,z71,gz72] at z72
      all_goals
      rcases AD h with ⟨z73,h⟩ | ⟨z73,h⟩
      ·try simp only [go_sem,n1,n2,n3,n4,z1,z3,z67,z68,gz69,z69,z70,z71,gz72,z72] at z73
       all_goals
       obtain ⟨z74,h⟩:=AF h
       try simp only [go_sem,n1,n2,n3,n4,z1,z3,z67,z68,gz69,z69,z70,z71,gz72,z72,z73] at z74
       all_goals
       obtain ⟨y_79,z79,h⟩:=AC h
       obtain ⟨Lz79,ez79⟩:=SC z79
       obtain rfl:=AB h
       refine ⟨Lz79,fun L hL => ?_⟩
       have ez79:=ez79 L (by omega)
       try simp only [go_sem,z1,z3,z67,z68,gz69,z69,z70,z71,gz72,z72,z73,z74] at ez79
       simp only [go_sem,z1,lz1,xz1,fz2,z3,fz66,z67,z68,gz69,z69,lz69,xz69,z70,z71,gz72,z72,lz72,xz72,z73,z74,ez79]
      ·try simp only [go_sem,n1,n2,n3,n4,z1,z3,z67,z68,gz69,z69,z70,z71,gz72,z72] at z73
       all_goals
       obtain ⟨y_84,z84,h⟩:=AC h
       obtain ⟨Lz84,ez84⟩:=Kf z84
       obtain rfl:=AB h
       refine ⟨Lz84,fun L hL => ?_⟩
       have ez84:=ez84 L (by omega)
       try simp only [go_sem,z1,z3,z67,z68,gz69,z69,z70,z71,gz72,z72,z73] at ez84
       simp only [go_sem,z1,lz1,xz1,fz2,z3,fz66,z67,z68,gz69,z69,lz69,xz69,z70,z71,gz72,z72,lz72,xz72,z73,ez84]
     ·rcases DA gz72 with gz72a | ⟨gz72a,gz72b⟩
      ·try simp only [go_sem,n1,n2,n3,n4,z1,z3,z67,z68,gz69,z69,z70,z71] at gz72a
       all_goals
       (simp_all)
      ·have gz72bn:=DT gz72b
       try simp only [go_sem,n1,n2,n3,n4,z1,z3,z67,z68,gz69,z69,z70,z71] at gz72a
       all_goals
       try simp only [go_sem,n1,n2,n3,n4,z1,z3,z67,z68,gz69,z69,z70,z71,gz72a] at gz72bn
       all_goals
       rcases AD h with ⟨z73,h⟩ | ⟨z73,h⟩
       ·try simp only [go_sem,n1,n2,n3,n4,z1,z3,z67,z68,gz69,z69,z70,z71,gz72a,gz72bn] at z73
        all_goals
        (simp_all)
       ·try simp only [go_sem,n1,n2,n3,n4,z1,z3,z67,z68,gz69,z69,z70,z71,gz72a,gz72bn] at z73
        all_goals
        obtain ⟨y_84,z84,h⟩:=AC h
        obtain ⟨Lz84,ez84⟩:=Kf z84
        obtain rfl:=AB h
        refine ⟨Lz84,fun L hL => ?_⟩
        have ez84:=ez84 L (by omega)
        try simp only [go_sem,z1,z3,z67,z68,gz69,z69,z70,z71,gz72a,gz72bn,z73] at ez84
        simp only [go_sem,z1,lz1,xz1,fz2,z3,fz66,z67,z68,gz69,z69,lz69,xz69,z70,z71,gz72a,gz72bn,z73,ez84]
    ·try simp only [go_sem,n1,n2,n3,n4,z1,z3,z67,z68,gz69,z69] at z70
     all_goals
     obtain ⟨z85,h⟩:=AF h
     rcases Ab z85 with ⟨gz85,z85⟩ | gz85
     ·try simp only [go_sem,n1,n2,n3,n4,z1,z3,z67,z68,gz69,z69,z70] at gz85
      all_goals
      have lz85:=Au z85
      have xz85:=AK Al stars lz85
      try simp only [go_sem] at lz85
      try simp only [go_sem] at xz85
      try simp only [go_sem,n1,n2,n3,n4,z1,z3,z67,z68,gz69,z69,z70,gz85] at z85
      all_goals
      rcases AD h with ⟨z86,h⟩ | ⟨z86,h⟩
      ·try simp only [go_sem,n1,n2,n3,n4,z1,z3,z67,z68,gz69,z69,z70,gz85,z85] at z86
       all_goals
       obtain ⟨z87,h⟩:=AF h
       try simp only [go_sem,n1,n2,n3,n4,z1,z3,z67,z68,gz69,z69,z70,gz85,z85,z86] at z87
       all_goals
       obtain ⟨y_92,z92,h⟩:=AC h
       obtain ⟨Lz92,ez92⟩:=PV z92
       obtain rfl:=AB h
       refine ⟨Lz92,fun L hL => ?_⟩
       have ez92:=ez92 L (by omega)
       try simp only [go_sem,z1,z3,z67,z68,gz69,z69,z70,gz85,z85,z86,z87] at ez92
       simp only [go_sem,z1,lz1,xz1,fz2,z3,fz66,z67,z68,gz69,z69,lz69,xz69,z70,gz85,z85,lz85,xz85,z86,z87,ez92]
      ·try simp only [go_sem,n1,n2,n3,n4,z1,z3,z67,z68,gz69,z69,z70,gz85,z85] at z86
       all_goals
       obtain ⟨y_97,z97,h⟩:=AC h
       obtain ⟨Lz97,ez97⟩:=IV z97
       obtain rfl:=AB h
       refine ⟨Lz97,fun L hL => ?_⟩
       have ez97:=ez97 L (by omega)
       try simp only [go_sem,z1,z3,z67,z68,gz69,z69,z70,gz85,z85,z86] at ez97
       simp only [go_sem,z1,lz1,xz1,fz2,z3,fz66,z67,z68,gz69,z69,lz69,xz69,z70,gz85,z85,lz85,xz85,z86,ez97]
     ·rcases DA gz85 with gz85a | ⟨gz85a,gz85b⟩
      ·try simp only [go_sem,n1,n2,n3,n4,z1,z3,z67,z68,gz69,z69,z70] at gz85a
       all_goals
       (simp_all)
      ·have gz85bn:=DT gz85b
       try simp only [go_sem,n1,n2,n3,n4,z1,z3,z67,z68,gz69,z69,z70] at gz85a
       all_goals
       try simp only [go_sem,n1,n2,n3,n4,z1,z3,z67,z68,gz69,z69,z70,gz85a] at gz85bn
       all_goals
       rcases AD h with ⟨z86,h⟩ | ⟨z86,h⟩
       ·try simp only [go_sem,n1,n2,n3,n4,z1,z3,z67,z68,gz69,z69,z70,gz85a,gz85bn] at z86
        all_goals
        (simp_all)
       ·try simp only [go_sem,n1,n2,n3,n4,z1,z3,z67,z68,gz69,z69,z70,gz85a,gz85bn] at z86
        all_goals
        obtain ⟨y_97,z97,h⟩:=AC h
        obtain ⟨Lz97,ez97⟩:=IV z97
        obtain rfl:=AB h
        refine ⟨Lz97,fun L hL => ?_⟩
        have ez97:=ez97 L (by omega)
        try simp only [go_sem,z1,z3,z67,z68,gz69,z69,z70,gz85a,gz85bn,z86] at ez97
        simp only [go_sem,z1,lz1,xz1,fz2,z3,fz66,z67,z68,gz69,z69,lz69,xz69,z70,gz85a,gz85bn,z86,ez97]
   ·try simp only [go_sem,n1,n2,n3,n4,z1,z3,z67,z68] at gz69
    all_goals
    rcases AD h with ⟨z70,h⟩ | ⟨z70,h⟩
    ·try simp only [go_sem,n1,n2,n3,n4,z1,z3,z67,z68,gz69] at z70
     all_goals
     (simp_all)
    ·try simp only [go_sem,n1,n2,n3,n4,z1,z3,z67,z68,gz69] at z70
     all_goals
     obtain ⟨z85,h⟩:=AF h
     rcases AD h with ⟨z86,h⟩ | ⟨z86,h⟩
     ·try simp only [go_sem,n1,n2,n3,n4,z1,z3,z67,z68,gz69,z70] at z86
      all_goals
      (simp_all)
     ·try simp only [go_sem,n1,n2,n3,n4,z1,z3,z67,z68,gz69,z70] at z86
      all_goals
      obtain ⟨y_97,z97,h⟩:=AC h
      obtain ⟨Lz97,ez97⟩:=IV z97
      obtain rfl:=AB h
      refine ⟨Lz97,fun L hL => ?_⟩
      have ez97:=ez97 L (by omega)
      try simp only [go_sem,z1,z3,z67,z68,gz69,z70,z86] at ez97
      simp only [go_sem,z1,lz1,xz1,fz2,z3,fz66,z67,z68,gz69,z70,z86,ez97]
  ·try simp only [go_sem,n1,n2,n3,n4,z1,z3] at z67
   all_goals
   obtain ⟨z98,h⟩:=AF h
   rcases Ab z98 with ⟨gz98,z98⟩ | gz98
   ·try simp only [go_sem,n1,n2,n3,n4,z1,z3,z67] at gz98
    all_goals
    have lz98:=Au z98
    have xz98:=AK Al stars lz98
    try simp only [go_sem] at lz98
    try simp only [go_sem] at xz98
    try simp only [go_sem,n1,n2,n3,n4,z1,z3,z67,gz98] at z98
    all_goals
    rcases AD h with ⟨z99,h⟩ | ⟨z99,h⟩
    ·try simp only [go_sem,n1,n2,n3,n4,z1,z3,z67,gz98,z98] at z99
     all_goals
     obtain ⟨z100,h⟩:=AF h
     try simp only [go_sem,n1,n2,n3,n4,z1,z3,z67,gz98,z98,z99] at z100
     all_goals
     obtain ⟨z101,h⟩:=AF h
     rcases Ab z101 with ⟨gz101,z101⟩ | gz101
     ·try simp only [go_sem,n1,n2,n3,n4,z1,z3,z67,gz98,z98,z99,z100] at gz101
      all_goals
      have lz101:=Au z101
      have xz101:=AK Al stars lz101
      try simp only [go_sem] at lz101
      try simp only [go_sem] at xz101
      try simp only [go_sem,n1,n2,n3,n4,z1,z3,z67,gz98,z98,z99,z100,gz101] at z101
      all_goals
      rcases AD h with ⟨z102,h⟩ | ⟨z102,h⟩
      ·try simp only [go_sem,n1,n2,n3,n4,z1,z3,z67,gz98,z98,z99,z100,gz101,z101] at z102
       all_goals
       obtain ⟨z103,h⟩:=AF h
       try simp only [go_sem,n1,n2,n3,n4,z1,z3,z67,gz98,z98,z99,z100,gz101,z101,z102] at z103
       all_goals
       obtain ⟨y_108,z108,h⟩:=AC h
       obtain ⟨Lz108,ez108⟩:=PU z108
       obtain rfl:=AB h
       refine ⟨Lz108,fun L hL => ?_⟩
       have ez108:=ez108 L (by omega)
       try simp only [go_sem,z1,z3,z67,gz98,z98,z99,z100,gz101,z101,z102,z103] at ez108
       simp only [go_sem,z1,lz1,xz1,fz2,z3,fz66,z67,gz98,z98,lz98,xz98,z99,z100,gz101,z101,lz101,xz101,z102,z103,ez108]
      ·try simp only [go_sem,n1,n2,n3,n4,z1,z3,z67,gz98,z98,z99,z100,gz101,z101] at z102
       all_goals
       obtain ⟨y_113,z113,h⟩:=AC h
       obtain ⟨Lz113,ez113⟩:=Ke z113
       obtain rfl:=AB h
       refine ⟨Lz113,fun L hL => ?_⟩
       have ez113:=ez113 L (by omega)
       try simp only [go_sem,z1,z3,z67,gz98,z98,z99,z100,gz101,z101,z102] at ez113
       simp only [go_sem,z1,lz1,xz1,fz2,z3,fz66,z67,gz98,z98,lz98,xz98,z99,z100,gz101,z101,lz101,xz101,z102,ez113]
     ·rcases DA gz101 with gz101a | ⟨gz101a,gz101b⟩
      ·try simp only [go_sem,n1,n2,n3,n4,z1,z3,z67,gz98,z98,z99,z100] at gz101a
       all_goals
       (simp_all)
      ·have gz101bn:=DT gz101b
       try simp only [go_sem,n1,n2,n3,n4,z1,z3,z67,gz98,z98,z99,z100] at gz101a
       all_goals
       try simp only [go_sem,n1,n2,n3,n4,z1,z3,z67,gz98,z98,z99,z100,gz101a] at gz101bn
       all_goals
       rcases AD h with ⟨z102,h⟩ | ⟨z102,h⟩
       ·try simp only [go_sem,n1,n2,n3,n4,z1,z3,z67,gz98,z98,z99,z100,gz101a,gz101bn] at z102
        all_goals
        (simp_all)
       ·try simp only [go_sem,n1,n2,n3,n4,z1,z3,z67,gz98,z98,z99,z100,gz101a,gz101bn] at z102
        all_goals
        obtain ⟨y_113,z113,h⟩:=AC h
        obtain ⟨Lz113,ez113⟩:=Ke z113
        obtain rfl:=AB h
        refine ⟨Lz113,fun L hL => ?_⟩
        have ez113:=ez113 L (by omega)
        try simp only [go_sem,z1,z3,z67,gz98,z98,z99,z100,gz101a,gz101bn,z102] at ez113
        simp only [go_sem,z1,lz1,xz1,fz2,z3,fz66,z67,gz98,z98,lz98,xz98,z99,z100,gz101a,gz101bn,z102,ez113]
    ·try simp only [go_sem,n1,n2,n3,n4,z1,z3,z67,gz98,z98] at z99
     all_goals
     obtain ⟨z114,h⟩:=AF h
     rcases Ab z114 with ⟨gz114,z114⟩ | gz114
     ·try simp only [go_sem,n1,n2,n3,n4,z1,z3,z67,gz98,z98,z99] at gz114
      all_goals
      have lz114:=Au z114
      have xz114:=AK Al stars lz114
      try simp only [go_sem] at lz114
      try simp only [go_sem] at xz114
      try simp only [go_sem,n1,n2,n3,n4,z1,z3,z67,gz98,z98,z99,gz114] at z114
      all_goals
      rcases AD h with ⟨z115,h⟩ | ⟨z115,h⟩
      ·try simp only [go_sem,n1,n2,n3,n4,z1,z3,z67,gz98,z98,z99,gz114,z114] at z115
       all_goals
       obtain ⟨z116,h⟩:=AF h
       try simp only [go_sem,n1,n2,n3,n4,z1,z3,z67,gz98,z98,z99,gz114,z114,z115] at z116
       all_goals
       obtain ⟨y_121,z121,h⟩:=AC h
       obtain ⟨Lz121,ez121⟩:=PT z121
       obtain rfl:=AB h
       refine ⟨Lz121,fun L hL => ?_⟩
       have ez121:=ez121 L (by omega)
       try simp only [go_sem,z1,z3,z67,gz98,z98,z99,gz114,z114,z115,z116] at ez121
       simp only [go_sem,z1,lz1,xz1,fz2,z3,fz66,z67,gz98,z98,lz98,xz98,z99,gz114,z114,lz114,xz114,z115,z116,ez121]
      ·try simp only [go_sem,n1,n2,n3,n4,z1,z3,z67,gz98,z98,z99,gz114,z114] at z115
       all_goals
       obtain ⟨y_126,z126,h⟩:=AC h
       obtain ⟨Lz126,ez126⟩:=IP z126
       obtain rfl:=AB h
       refine ⟨Lz126,fun L hL => ?_⟩
       have ez126:=ez126 L (by omega)
       try simp only [go_sem,z1,z3,z67,gz98,z98,z99,gz114,z114,z115] at ez126
       simp only [go_sem,z1,lz1,xz1,fz2,z3,fz66,z67,gz98,z98,lz98,xz98,z99,gz114,z114,lz114,xz114,z115,ez126]
     ·rcases DA gz114 with gz114a | ⟨gz114a,gz114b⟩
      ·try simp only [go_sem,n1,n2,n3,n4,z1,z3,z67,gz98,z98,z99] at gz114a
       all_goals
       (simp_all)
      ·have gz114bn:=DT gz114b
       try simp only [go_sem,n1,n2,n3,n4,z1,z3,z67,gz98,z98,z99] at gz114a
       all_goals
       try simp only [go_sem,n1,n2,n3,n4,z1,z3,z67,gz98,z98,z99,gz114a] at gz114bn
       all_goals
       rcases AD h with ⟨z115,h⟩ | ⟨z115,h⟩
       ·try simp only [go_sem,n1,n2,n3,n4,z1,z3,z67,gz98,z98,z99,gz114a,gz114bn] at z115
        all_goals
        (simp_all)
       ·try simp only [go_sem,n1,n2,n3,n4,z1,z3,z67,gz98,z98,z99,gz114a,gz114bn] at z115
        all_goals
        obtain ⟨y_126,z126,h⟩:=AC h
        obtain ⟨Lz126,ez126⟩:=IP z126
        obtain rfl:=AB h
        refine ⟨Lz126,fun L hL => ?_⟩
        have ez126:=ez126 L (by omega)
        try simp only [go_sem,z1,z3,z67,gz98,z98,z99,gz114a,gz114bn,z115] at ez126
        simp only [go_sem,z1,lz1,xz1,fz2,z3,fz66,z67,gz98,z98,lz98,xz98,z99,gz114a,gz114bn,z115,ez126]
   ·try simp only [go_sem,n1,n2,n3,n4,z1,z3,z67] at gz98
    all_goals
    rcases AD h with ⟨z99,h⟩ | ⟨z99,h⟩
    ·try simp only [go_sem,n1,n2,n3,n4,z1,z3,z67,gz98] at z99
     all_goals
     (simp_all)
    ·try simp only [go_sem,n1,n2,n3,n4,z1,z3,z67,gz98] at z99
     all_goals
     obtain ⟨z114,h⟩:=AF h
     rcases AD h with ⟨z115,h⟩ | ⟨z115,h⟩
     ·try simp only [go_sem,n1,n2,n3,n4,z1,z3,z67,gz98,z99] at z115
      all_goals
      (simp_all)
     ·try simp only [go_sem,n1,n2,n3,n4,z1,z3,z67,gz98,z99] at z115
      all_goals
      obtain ⟨y_126,z126,h⟩:=AC h
      obtain ⟨Lz126,ez126⟩:=IP z126
      obtain rfl:=AB h
      refine ⟨Lz126,fun L hL => ?_⟩
      have ez126:=ez126 L (by omega)
      try simp only [go_sem,z1,z3,z67,gz98,z99,z115] at ez126
      simp only [go_sem,z1,lz1,xz1,fz2,z3,fz66,z67,gz98,z99,z115,ez126]
def iA:IR:=.seq (.test false [ PM 43 9,PM 44 8,PO 45 (.len false (.s 0)),PO 46 (.bin false .lss (.s 2) (.s 0))] (.s 0) (.skip) (.exit 2)) (.seq (.block 3 (.region false [ PM 49 6,PM 50 7,PM 51 8,PM 52 9,PO 53 (.ixAddr 1 (.s 1) (.s 0)),PO 54 (.load false 1 (.s 0)),PO 55 (.build [.int .i64 (0),.int .i64 (0)] [(0,1,(.s 4)),(1,1,(.s 0))]),PO 56 (.mkSl 2 (.agg [.int .i64 (0),.int .i64 (0)]) 1 [(0,(.s 0))]),PO 57 (.app 2 16 (.agg [.int .i64 (0),.int .i64 (0)]) (.s 7) (.s 0)),VS 6 10 0])) (.region false [ PM 47 9,PO 48 (.bin false .add (.s 0) (I6 1)),VS 9 13 0]))
def XY:List Bool:=[true,true,true,true,false,false,true,true,true,true]
def XX:List Bool:=[true,true,true,true,false,false,true,true,false,false]
def XW:List Bool:=[false,false,false,false,true,true,false,false,false,false]
def iB:IR:=.seq (.test false [ PM 31 7,PM 32 0,PO 33 (.len false (.s 0)),PO 34 (.bin false .lss (.s 2) (.s 0))] (.s 0) (.skip) (.exit 0)) (.seq (.block 1 (.seq (.region false [ PM 37 0,PM 38 7,PM 39 1,PM 40 2,PM 41 3,PO 42 (.call 41 [(.s 4),(.s 3),(.s 2),(.s 1),(.s 0)]),VS 8 12 0]) (.seq (.region false [ VO 9 13 (.mov (I6 0))]) (.block 2 (.loop XY XX XW iA))))) (.region false [ PM 35 7,PO 36 (.bin false .add (.s 0) (I6 1)),VS 7 11 0]))
def bd:List Bool:=[true,true,true,true,false,false,true,true,false,false]
def bc:List Bool:=[false,false,false,false,false,false,true,false,false,false]
def bb:List Bool:=[false,false,false,false,true,true,false,false,false,false]
def AGV:List Nat:=[0,1,2,3,8,9,10,11,12,13]
def ir7:CI:=⟨4,10,.seq (.region false [ VO 4 8 (.newnil 2),VO 5 9 (.mov (I6 0))]) (.seq (.test false [ PM 14 0,PO 15 (.call 37 [(.s 0)]),PO 16 (.un .not (.s 0)),PO 17 (.mov (.s 0)),⟨.push,18,(some ((.s 0),false)),.mov (.v 1)⟩,⟨.push,19,(some ((.s 1),false)),.call 38 [(.s 0)]⟩,⟨.push,20,(some ((.s 2),false)),.un .not (.s 0)⟩,PO 21 (.pick (.s 3) (.c (.bool true)) (.s 0)),PO 22 (.mov (.s 0)),⟨.push,23,(some ((.s 0),false)),.mov (.v 2)⟩,⟨.push,24,(some ((.s 1),false)),.call 39 [(.s 0)]⟩,⟨.push,25,(some ((.s 2),false)),.un .not (.s 0)⟩,PO 26 (.pick (.s 3)
 (.c (.bool true)) (.s 0))] (.s 0) (.seq (.region false [ VO 4 8 (.newnil 2),VO 5 9 (.mov (I6 1))]) (.ret)) (.skip)) (.seq (.test false [ PM 27 3,PO 28 (.call 40 [(.s 0),(I6 0),(I6 20000)]),PO 29 (.un .not (.s 0))] (.s 0) (.seq (.region false [ VO 4 8 (.newnil 2),VO 5 9 (.mov (I6 2))]) (.ret)) (.skip)) (.seq (.region false [ PO 30 (.mkSl 2 (.agg [.int .i64 (0),.int .i64 (0)]) 0 []),VS 6 10 0]) (.seq (.seq (.region false [ VO 7 11 (.mov (I6 0))]) (.block 0 (.loop bd bc bb iB))) (.seq (.region false [ PM 58 6,VS 4 8 0,VO 5 9 (.mov (I6 0))]) (.ret)))))),[.t 4,.t 5]⟩
noncomputable def dK:List (Nat × Ax):=[(37,Yt),(38,oF),(39,oD),(40,Lc),(41,oA)]
theorem rG:AR dK 37 = some Yt:=rfl
theorem rF:AR dK 38 = some oF:=rfl
theorem rE:AR dK 39 = some oD:=rfl
theorem rD:AR dK 40 = some Lc:=rfl
theorem rC:AR dK 41 = some oA:=rfl
noncomputable def ny:Ax:=Di dK ir7 [.bor,.bor,.bor,.bor]
theorem s_78:AU Tryz.prog 7 ny:=AM _ rfl (AG AAP (AG s_72 (AG s_74 (AG dZ (AG s_77 AP))))) (by kernel_rfl:Af Tryz.prog 7 ir7 AGV = true)
theorem M_78:ny.modes = [.bor,.bor,.bor,.bor]:=rfl
theorem AIx:ny.flat = true:=rfl
attribute [go_sem] M_78 AIx rG rF rE rD rC
def Ra (list:List AA) (stars:List Star) (observers:List Observer) (margin:Int) (i:Int) (kinds:List Int):((List AJ) × Int) → St
 | (out,k) => ⟨[.sl 5 (List.map AE list),.sl 5 (List.map Al stars),.sl 2 (List.map AX observers),.int .i64 margin,.any,.any,.own 3200000,.int .i64 i,.own 3200032,.int .i64 k],[],[(3200000,⟨2,List.map Ae out⟩),(3200032,⟨1,List.map (AV.int .i64) kinds⟩)],true⟩
def RE (list:List AA) (stars:List Star) (observers:List Observer) (margin:Int) (i:Int) (kinds:List Int) (y:(List AJ)):EB:=(.exit 2,⟨[.sl 5 (List.map AE list),.sl 5 (List.map Al stars),.sl 2 (List.map AX observers),.int .i64 margin,.any,.any,.own 3200000,.int .i64 i,.any,.any],[],[(3200000,⟨2,List.map Ae y⟩)],true⟩)
set_option maxHeartbeats 64000000 in
attribute [local go_sem] ir7 Ra RE iA XY XX XW in
theorem KX {list:List AA} {stars:List Star} {observers:List Observer} {margin:Int} {i:Int} {kinds:List Int} {sgm_:(List AJ) × Int} {rho_:(List AJ)} (h:AL (DE list stars observers margin i kinds) sgm_ = some rho_):∃ L0,∀ L,L0 ≤ L → Bk (Az (AR dK) L iA) XY XX XW L (Ra list stars observers margin i kinds sgm_) = RE list stars observers margin i kinds rho_:=by
 refine As (E:=Ra list stars observers margin i kinds) (R:=RE list stars observers margin i kinds) (fun y => by first | (intro c; cases c) | (rcases y with y | y <;> (intro c; cases c)) | (rcases y with y | y | y <;> (intro c; cases c))) ?_ h
 clear h
 rintro ⟨out,k⟩ o_ h
 dsimp only [DE] at h
 rcases AD h with ⟨z9,h⟩ | ⟨z9,h⟩
 ·try simp only [go_sem,n1,n2,n3,n4] at z9
  all_goals
  obtain ⟨z10,h⟩:=AF h
  have lz10:=Au z10
  have xz10:=AK (AV.int .i64) kinds lz10
  try simp only [go_sem] at lz10
  try simp only [go_sem] at xz10
  try simp only [go_sem,n1,n2,n3,n4,z9] at z10
  all_goals
  obtain ⟨z11,h⟩:=AF h
  try simp only [go_sem,n1,n2,n3,n4,z9,z10] at z11
  all_goals
  obtain rfl:=AB h
  refine ⟨0,fun L hL => ?_⟩
  simp only [go_sem,z9,z10,lz10,xz10,z11]
 ·try simp only [go_sem,n1,n2,n3,n4] at z9
  all_goals
  obtain rfl:=AB h
  refine ⟨0,fun L hL => ?_⟩
  simp only [go_sem,z9]
def Wa (list:List AA) (stars:List Star) (observers:List Observer) (margin:Int):((List AJ) × Int) → St
 | (out,i) => ⟨[.sl 5 (List.map AE list),.sl 5 (List.map Al stars),.sl 2 (List.map AX observers),.int .i64 margin,.any,.any,.own 3200000,.int .i64 i,.any,.any],[],[(3200000,⟨2,List.map Ae out⟩)],true⟩
def Vw (list:List AA) (stars:List Star) (observers:List Observer) (margin:Int) (y:(List AJ)):EB:=(.exit 0,⟨[.any,.any,.any,.any,.any,.any,.own 3200000,.any,.any,.any],[],[(3200000,⟨2,List.map Ae y⟩)],true⟩)
set_option maxHeartbeats 64000000 in
attribute [local go_sem] Wa Vw iB bd bc bb Ra RE XY XX XW ir7 in
theorem KY {list:List AA} {stars:List Star} {observers:List Observer} {margin:Int} {sgm_:(List AJ) × Int} {rho_:(List AJ)} (h:AL (CE list stars observers margin) sgm_ = some rho_):∃ L0,∀ L,L0 ≤ L → Bk (Az (AR dK) L iB) bd bc bb L (Wa list stars observers margin sgm_) = Vw list stars observers margin rho_:=by
 refine As (E:=Wa list stars observers margin) (R:=Vw list stars observers margin) (fun y => by first | (intro c; cases c) | (rcases y with y | y <;> (intro c; cases c)) | (rcases y with y | y | y <;> (intro c; cases c))) ?_ h
 clear h
 rintro ⟨out,i⟩ o_ h
 dsimp only [CE] at h
 rcases AD h with ⟨z7,h⟩ | ⟨z7,h⟩
 ·try simp only [go_sem,n1,n2,n3,n4] at z7
  all_goals
  obtain ⟨y_8,z8,h⟩:=AC h
  have fz8:=AHn z8
  try simp only [go_sem,z7] at fz8
  obtain ⟨y_12,z12,h⟩:=AC h
  obtain ⟨Lz12,ez12⟩:=KX z12
  obtain rfl:=AB h
  refine ⟨Lz12,fun L hL => ?_⟩
  have ez12:=ez12 L (by omega)
  try simp only [go_sem,z7] at ez12
  simp only [go_sem,z7,fz8,ez12]
 ·try simp only [go_sem,n1,n2,n3,n4] at z7
  all_goals
  obtain rfl:=AB h
  refine ⟨0,fun L hL => ?_⟩
  simp only [go_sem,z7]
set_option maxHeartbeats 64000000 in
attribute [local go_sem] ir7 Ra RE XY XX XW Wa Vw bd bc bb in
theorem AHm {list:List AA} {stars:List Star} {observers:List Observer} {margin:Int} {y_:(List AJ) × Int} (h:DO list stars observers margin = some y_):ny.F [.sl 5 (List.map AE list),.sl 5 (List.map Al stars),.sl 2 (List.map AX observers),.int .i64 margin] = ⟨true,.tup [.fresh 2 (List.map Ae y_.1),.int .i64 y_.2],[.any,.any,.any,.any]⟩:=by
 refine Ay (by simp only [Fo,Fu,GQ,List.all_cons,List.all_nil,Bool.and_self,Bx (f:=Ae) (fun _ => rfl)]) ?_
 dsimp only [DO] at h
 obtain ⟨y_1,z1,h⟩:=AC h
 have fz1:=ur z1
 try simp only [go_sem] at fz1
 obtain ⟨z2,h⟩:=AF h
 rcases Ab z2 with ⟨gz2,z2⟩ | gz2
 ·try simp only [go_sem,n1,n2,n3,n4] at gz2
  all_goals
  obtain ⟨y_2,hz2⟩:=Option.isSome_iff_exists.1 z2
  have fz2:=AHr hz2
  try simp only [go_sem,n1,n2,n3,n4,gz2] at hz2
  all_goals
  try simp only [go_sem,gz2] at fz2
  obtain ⟨z3,h⟩:=AF h
  rcases Ab z3 with ⟨gz3,z3⟩ | gz3
  ·try simp only [go_sem,n1,n2,n3,n4,gz2,hz2] at gz3
   all_goals
   obtain ⟨y_3,hz3⟩:=Option.isSome_iff_exists.1 z3
   have fz3:=AHp hz3
   try simp only [go_sem,n1,n2,n3,n4,gz2,hz2,gz3] at hz3
   all_goals
   try simp only [go_sem,gz2,hz2,gz3] at fz3
   rcases AD h with ⟨z4,h⟩ | ⟨z4,h⟩
   ·try simp only [go_sem,n1,n2,n3,n4,gz2,hz2,gz3,hz3] at z4
    all_goals
    obtain rfl:=AB h
    refine ⟨0,fun L hL => ?_⟩
    simp only [go_sem,fz1,gz2,hz2,fz2,gz3,hz3,fz3,z4]
   ·try simp only [go_sem,n1,n2,n3,n4,gz2,hz2,gz3,hz3] at z4
    all_goals
    obtain ⟨y_5,z5,h⟩:=AC h
    have fz5:=TY z5
    try simp only [go_sem,gz2,hz2,gz3,hz3,z4] at fz5
    rcases AD h with ⟨z6,h⟩ | ⟨z6,h⟩
    ·try simp only [go_sem,n1,n2,n3,n4,gz2,hz2,gz3,hz3,z4] at z6
     all_goals
     obtain rfl:=AB h
     refine ⟨0,fun L hL => ?_⟩
     simp only [go_sem,fz1,gz2,hz2,fz2,gz3,hz3,fz3,z4,fz5,z6]
    ·try simp only [go_sem,n1,n2,n3,n4,gz2,hz2,gz3,hz3,z4] at z6
     all_goals
     obtain ⟨y_13,z13,h⟩:=AC h
     obtain ⟨Lz13,ez13⟩:=KY z13
     obtain rfl:=AB h
     refine ⟨Lz13,fun L hL => ?_⟩
     have ez13:=ez13 L (by omega)
     try simp only [go_sem,gz2,hz2,gz3,hz3,z4,z6] at ez13
     simp only [go_sem,fz1,gz2,hz2,fz2,gz3,hz3,fz3,z4,fz5,z6,ez13]
  ·have gz3n:=DT gz3
   rcases gU gz3n with gz3na | ⟨gz3na,gz3nb⟩
   ·try simp only [go_sem,n1,n2,n3,n4,gz2,hz2] at gz3na
    all_goals
    (simp_all)
   ·have gz3nan:=DT gz3na
    have gz3nbn:=Ha gz3nb
    try simp only [go_sem,n1,n2,n3,n4,gz2,hz2] at gz3nan
    all_goals
    try simp only [go_sem,n1,n2,n3,n4,gz2,hz2,gz3nan] at gz3nbn
    all_goals
    rcases AD h with ⟨z4,h⟩ | ⟨z4,h⟩
    ·try simp only [go_sem,n1,n2,n3,n4,gz2,hz2,gz3nan,gz3nbn] at z4
     all_goals
     obtain rfl:=AB h
     refine ⟨0,fun L hL => ?_⟩
     simp only [go_sem,fz1,gz2,hz2,fz2,gz3nan,gz3nbn,z4]
    ·try simp only [go_sem,n1,n2,n3,n4,gz2,hz2,gz3nan,gz3nbn] at z4
     all_goals
     (simp_all)
 ·have gz2n:=DT gz2
  have gz2nn:=Ha gz2n
  try simp only [go_sem,n1,n2,n3,n4] at gz2nn
  all_goals
  obtain ⟨z3,h⟩:=AF h
  rcases AD h with ⟨z4,h⟩ | ⟨z4,h⟩
  ·try simp only [go_sem,n1,n2,n3,n4,gz2nn] at z4
   all_goals
   obtain rfl:=AB h
   refine ⟨0,fun L hL => ?_⟩
   simp only [go_sem,fz1,gz2nn,z4]
  ·try simp only [go_sem,n1,n2,n3,n4,gz2nn] at z4
   all_goals
   (simp_all)
def ABW:List Nat:=[0,2]
def ABX:CI:=⟨1,2,.seq (.region false [ VO 1 2 (.mov (.c (.bool false)))]) (.seq (.region false [ PM 3 0,PO 4 (.call 40 [(.s 0),(I6 1),(I6 5)]),VS 1 2 0]) (.ret)),[.t 1]⟩
noncomputable def AEj:List (Nat × Ax):=[(40,Lc)]
theorem rB:AR AEj 40 = some Lc:=rfl
noncomputable def fP:Ax:=Di AEj ABX [.bor]
theorem AFV:AU Tryz.prog 63 fP:=AM _ rfl (AG dZ AP) (by kernel_rfl:Af Tryz.prog 63 ABX ABW = true)
theorem M_79:fP.modes = [.bor]:=rfl
theorem AIw:fP.flat = true:=rfl
attribute [go_sem] M_79 AIw rB
theorem zU {n:Int} {y_:Bool} (h:Fv n = some y_):fP.F [.int .i64 n] = ⟨true,.bool y_,[.any]⟩:=by
 refine Ay rfl ?_
 dsimp only [Fv] at h
 obtain ⟨y_1,z1,h⟩:=AC h
 have fz1:=TY z1
 try simp only [go_sem] at fz1
 obtain rfl:=AB h
 refine ⟨0,fun L hL => ?_⟩
 simp only [go_sem,ABX,fz1]
def br:IR:=.seq (.test false [ PM 7 3,PM 8 0,PO 9 (.len false (.s 0)),PO 10 (.bin false .lss (.s 2) (.s 0))] (.s 0) (.skip) (.exit 0)) (.seq (.block 1 (.seq (.region false [ PM 13 0,PM 14 3,PO 15 (.ixAddr 2 (.s 1) (.s 0)),VS 4 6 0]) (.seq (.test false [ PM 16 4,PO 17 (.nilck (.s 0)),PO 18 (.fldAddr 0 (.s 0)),PO 19 (.load false 1 (.s 0)),PM 20 1,PO 21 (.bin false .sub (.s 0) (I6 1)),PO 22 (.call 40 [(.s 2),(I6 0),(.s 0)]),PO 23 (.un .not (.s 0)),PO 24 (.mov (.s 0)),⟨.push,25,(some ((.s 0),false)),.mov (.v 4)⟩,⟨.push,26,(some ((.s 1),false)),.nilck (.s 0)⟩,
 ⟨.push,27,(some ((.s 2),false)),.fldAddr 1 (.s 0)⟩,⟨.push,28,(some ((.s 3),false)),.load false 1 (.s 0)⟩,⟨.push,29,(some ((.s 4),false)),.call 63 [(.s 0)]⟩,⟨.push,30,(some ((.s 5),false)),.un .not (.s 0)⟩,PO 31 (.pick (.s 6) (.c (.bool true)) (.s 0))] (.s 0) (.seq (.region false [ VO 2 4 (.mov (.c (.bool false)))]) (.ret)) (.skip)) (.anyo 41 [ SO 0 32 (.mov (.v 3)),SO 1 33 (.bin false .gtr (.s 0) (I6 0)),SO 2 34 (.mov (.s 1)),⟨.slot 3,35,(some ((.s 2),true)),.mov (.v 0)⟩,⟨.slot 4,36,(some ((.s 2),true)),.mov (.v 3)⟩,⟨.slot 5,37,(some ((.s 2),true)),.bin
 false .sub (.s 4) (I6 1)⟩,⟨.slot 6,38,(some ((.s 2),true)),.ixAddr 2 (.s 3) (.s 5)⟩,⟨.slot 7,39,(some ((.s 2),true)),.fldAddr 0 (.s 6)⟩,⟨.slot 8,40,(some ((.s 2),true)),.load false 1 (.s 7)⟩,⟨.slot 9,41,(some ((.s 2),true)),.mov (.v 4)⟩,⟨.slot 10,42,(some ((.s 2),true)),.nilck (.s 9)⟩,⟨.slot 11,43,(some ((.s 2),true)),.fldAddr 0 (.s 10)⟩,⟨.slot 12,44,(some ((.s 2),true)),.load false 1 (.s 11)⟩,⟨.slot 13,45,(some ((.s 2),true)),.bin false .gtr (.s 8) (.s 12)⟩,⟨.slot 14,46,(some ((.s 2),true)),.mov (.s 13)⟩,⟨.slot 15,47,(some ((.s 14),false)),
 .mov (.v 0)⟩,⟨.slot 16,48,(some ((.s 14),false)),.mov (.v 3)⟩,⟨.slot 17,49,(some ((.s 14),false)),.bin false .sub (.s 16) (I6 1)⟩,⟨.slot 18,50,(some ((.s 14),false)),.ixAddr 2 (.s 15) (.s 17)⟩,⟨.slot 19,51,(some ((.s 14),false)),.fldAddr 0 (.s 18)⟩,⟨.slot 20,52,(some ((.s 14),false)),.load false 1 (.s 19)⟩,⟨.slot 21,53,(some ((.s 14),false)),.mov (.v 4)⟩,⟨.slot 22,54,(some ((.s 14),false)),.nilck (.s 21)⟩,⟨.slot 23,55,(some ((.s 14),false)),.fldAddr 0 (.s 22)⟩,⟨.slot 24,56,(some ((.s 14),false)),.load false 1 (.s 23)⟩,⟨.slot 25,57,(some ((.s 14),
 false)),.bin false .eql (.s 20) (.s 24)⟩,⟨.slot 26,58,(some ((.s 14),false)),.mov (.s 25)⟩,⟨.slot 27,59,(some ((.s 26),true)),.mov (.v 0)⟩,⟨.slot 28,60,(some ((.s 26),true)),.mov (.v 3)⟩,⟨.slot 29,61,(some ((.s 26),true)),.bin false .sub (.s 28) (I6 1)⟩,⟨.slot 30,62,(some ((.s 26),true)),.ixAddr 2 (.s 27) (.s 29)⟩,⟨.slot 31,63,(some ((.s 26),true)),.fldAddr 1 (.s 30)⟩,⟨.slot 32,64,(some ((.s 26),true)),.load false 1 (.s 31)⟩,⟨.slot 33,65,(some ((.s 26),true)),.mov (.v 4)⟩,⟨.slot 34,66,(some ((.s 26),true)),.nilck (.s 33)⟩,⟨.slot 35,67,(some ((.s
 26),true)),.fldAddr 1 (.s 34)⟩,⟨.slot 36,68,(some ((.s 26),true)),.load false 1 (.s 35)⟩,⟨.slot 37,69,(some ((.s 26),true)),.bin false .geq (.s 32) (.s 36)⟩,⟨.slot 38,70,(some ((.s 14),false)),.pick (.s 26) (.s 37) (.c (.bool false))⟩,⟨.slot 39,71,(some ((.s 2),true)),.pick (.s 14) (.c (.bool true)) (.s 38)⟩,SO 40 72 (.pick (.s 2) (.s 39) (.c (.bool false)))] [] (.cond (.s 40) (.seq (.region false [ VO 2 4 (.mov (.c (.bool false)))]) (.ret)) (.skip)))))) (.region false [ PM 11 3,PO 12 (.bin false .add (.s 0) (I6 1)),VS 3 5 0]))
def Uh:List Bool:=[true,true,false,true,false]
def Ug:List Bool:=[false,false,false,false,false]
def Uf:List Bool:=[false,false,true,false,false]
def ABY:List Nat:=[0,1,4,5,6]
def wh:CI:=⟨2,5,.seq (.region false [ VO 2 4 (.mov (.c (.bool false)))]) (.seq (.seq (.region false [ VO 3 5 (.mov (I6 0))]) (.block 0 (.loop Uh Ug Uf br))) (.seq (.region false [ VO 2 4 (.mov (.c (.bool true)))]) (.ret))),[.t 2]⟩
noncomputable def vU:List (Nat × Ax):=[(40,Lc),(63,fP)]
theorem rA:AR vU 40 = some Lc:=rfl
theorem qz:AR vU 63 = some fP:=rfl
noncomputable def Tg:Ax:=Di vU wh [.bor,.bor]
theorem vt:AU Tryz.prog 62 Tg:=AM _ rfl (AG dZ (AG AFV AP)) (by kernel_rfl:Af Tryz.prog 62 wh ABY = true)
theorem M_80:Tg.modes = [.bor,.bor]:=rfl
theorem AIv:Tg.flat = true:=rfl
attribute [go_sem] M_80 AIv rA qz
def WZ (faults:List AJ) (count:Int):Int → St
 | i => ⟨[.sl 2 (List.map Ae faults),.int .i64 count,.any,.int .i64 i,.any],[],[],true⟩
def Vv (faults:List AJ) (count:Int):(Unit ⊕ Bool) → EB
 | .inl y => (.exit 0,⟨[.any,.any,.any,.any,.any],[],[],true⟩)
 | .inr y => (.ret,⟨[.any,.any,.bool y,.any,.any],[],[],true⟩)
set_option maxHeartbeats 64000000 in
attribute [local go_sem] wh WZ Vv br Uh Ug Uf in
theorem Mh {faults:List AJ} {count:Int} {sgm_:Int} {rho_:Unit ⊕ Bool} (h:AL (Cd faults count) sgm_ = some rho_):∃ L0,∀ L,L0 ≤ L → Bk (Az (AR vU) L br) Uh Ug Uf L (WZ faults count sgm_) = Vv faults count rho_:=by
 refine As (E:=WZ faults count) (R:=Vv faults count) (fun y => by first | (intro c; cases c) | (rcases y with y | y <;> (intro c; cases c)) | (rcases y with y | y | y <;> (intro c; cases c))) ?_ h
 clear h
 intro i o_ h
 dsimp only [Cd] at h
 rcases AD h with ⟨z1,h⟩ | ⟨z1,h⟩
 ·try simp only [go_sem,n1,n2,n3,n4] at z1
  all_goals
  obtain ⟨z2,h⟩:=AF h
  have lz2:=Au z2
  have xz2:=AK Ae faults lz2
  try simp only [go_sem] at lz2
  try simp only [go_sem] at xz2
  try simp only [go_sem,n1,n2,n3,n4,z1] at z2
  all_goals
  obtain ⟨y_3,z3,h⟩:=AC h
  have fz3:=TY z3
  try simp only [go_sem,z1,z2] at fz3
  obtain ⟨z4,h⟩:=AF h
  rcases Ab z4 with ⟨gz4,z4⟩ | gz4
  ·try simp only [go_sem,n1,n2,n3,n4,z1,z2] at gz4
   all_goals
   obtain ⟨y_4,hz4⟩:=Option.isSome_iff_exists.1 z4
   have fz4:=zU hz4
   try simp only [go_sem,n1,n2,n3,n4,z1,z2,gz4] at hz4
   all_goals
   try simp only [go_sem,z1,z2,gz4] at fz4
   rcases AD h with ⟨z5,h⟩ | ⟨z5,h⟩
   ·try simp only [go_sem,n1,n2,n3,n4,z1,z2,gz4,hz4] at z5
    all_goals
    obtain rfl:=AB h
    refine ⟨0,fun L hL => ?_⟩
    simp only [go_sem,z1,z2,lz2,xz2,fz3,gz4,hz4,fz4,z5]
   ·try simp only [go_sem,n1,n2,n3,n4,z1,z2,gz4,hz4] at z5
    all_goals
    obtain ⟨z6,h⟩:=AF h
    rcases Ab z6 with ⟨gz6,z6⟩ | gz6
    ·try simp only [go_sem,n1,n2,n3,n4,z1,z2,gz4,hz4,z5] at gz6
     all_goals
     have lz6:=Au z6
     have xz6:=AK Ae faults lz6
     try simp only [go_sem] at lz6
     try simp only [go_sem] at xz6
     try simp only [go_sem,n1,n2,n3,n4,z1,z2,gz4,hz4,z5,gz6] at z6
     all_goals
     obtain ⟨z7,h⟩:=AF h
     rcases Ab z7 with ⟨gz7,z7⟩ | gz7
     ·try simp only [go_sem,n1,n2,n3,n4,z1,z2,gz4,hz4,z5,gz6,z6] at gz7
      all_goals
      have lz7:=Au z7
      have xz7:=AK Ae faults lz7
      try simp only [go_sem] at lz7
      try simp only [go_sem] at xz7
      try simp only [go_sem,n1,n2,n3,n4,z1,z2,gz4,hz4,z5,gz6,z6,gz7] at z7
      all_goals
      obtain ⟨z8,h⟩:=AF h
      rcases Ab z8 with ⟨gz8,z8⟩ | gz8
      ·try simp only [go_sem,n1,n2,n3,n4,z1,z2,gz4,hz4,z5,gz6,z6,gz7,z7] at gz8
       all_goals
       have lz8:=Au z8
       have xz8:=AK Ae faults lz8
       try simp only [go_sem] at lz8
       try simp only [go_sem] at xz8
       try simp only [go_sem,n1,n2,n3,n4,z1,z2,gz4,hz4,z5,gz6,z6,gz7,z7,gz8] at z8
       all_goals
       rcases AD h with ⟨z9,h⟩ | ⟨z9,h⟩
       all_goals
       try simp only [go_sem,n1,n2,n3,n4,z1,z2,gz4,hz4,z5,gz6,z6,gz7,z7,gz8,z8] at z9
       all_goals
       obtain rfl:=AB h
       refine ⟨0,fun L hL => ?_⟩
       simp only [go_sem,z1,z2,lz2,xz2,fz3,gz4,hz4,fz4,z5,gz6,z6,lz6,xz6,gz7,z7,lz7,xz7,gz8,z8,lz8,xz8,z9]
      ·rcases DA gz8 with gz8a | ⟨gz8a,gz8b⟩
       ·try simp only [go_sem,n1,n2,n3,n4,z1,z2,gz4,hz4,z5,gz6,z6,gz7,z7] at gz8a
        all_goals
        (simp_all)
       ·obtain ⟨gz8aa,gz8ab⟩:=RC gz8a
        have gz8abn:=Ha gz8ab
        try simp only [go_sem,n1,n2,n3,n4,z1,z2,gz4,hz4,z5,gz6,z6,gz7,z7] at gz8aa
        all_goals
        try simp only [go_sem,n1,n2,n3,n4,z1,z2,gz4,hz4,z5,gz6,z6,gz7,z7,gz8aa] at gz8abn
        all_goals
        try simp only [go_sem,n1,n2,n3,n4,z1,z2,gz4,hz4,z5,gz6,z6,gz7,z7,gz8aa,gz8abn] at gz8b
        all_goals
        rcases AD h with ⟨z9,h⟩ | ⟨z9,h⟩
        ·try simp only [go_sem,n1,n2,n3,n4,z1,z2,gz4,hz4,z5,gz6,z6,gz7,z7,gz8aa,gz8abn,gz8b] at z9
         all_goals
         (simp_all)
        ·try simp only [go_sem,n1,n2,n3,n4,z1,z2,gz4,hz4,z5,gz6,z6,gz7,z7,gz8aa,gz8abn,gz8b] at z9
         all_goals
         obtain rfl:=AB h
         refine ⟨0,fun L hL => ?_⟩
         simp only [go_sem,z1,z2,lz2,xz2,fz3,gz4,hz4,fz4,z5,gz6,z6,lz6,xz6,gz7,z7,lz7,xz7,gz8aa,gz8abn,gz8b,z9]
     ·rcases DA gz7 with gz7a | ⟨gz7a,gz7b⟩
      ·try simp only [go_sem,n1,n2,n3,n4,z1,z2,gz4,hz4,z5,gz6,z6] at gz7a
       all_goals
       (simp_all)
      ·have gz7bn:=DT gz7b
       try simp only [go_sem,n1,n2,n3,n4,z1,z2,gz4,hz4,z5,gz6,z6] at gz7a
       all_goals
       try simp only [go_sem,n1,n2,n3,n4,z1,z2,gz4,hz4,z5,gz6,z6,gz7a] at gz7bn
       all_goals
       obtain ⟨z8,h⟩:=AF h
       rcases AD h with ⟨z9,h⟩ | ⟨z9,h⟩
       ·try simp only [go_sem,n1,n2,n3,n4,z1,z2,gz4,hz4,z5,gz6,z6,gz7a,gz7bn] at z9
        all_goals
        obtain rfl:=AB h
        refine ⟨0,fun L hL => ?_⟩
        simp only [go_sem,z1,z2,lz2,xz2,fz3,gz4,hz4,fz4,z5,gz6,z6,lz6,xz6,gz7a,gz7bn,z9]
       ·try simp only [go_sem,n1,n2,n3,n4,z1,z2,gz4,hz4,z5,gz6,z6,gz7a,gz7bn] at z9
        all_goals
        (simp_all)
    ·try simp only [go_sem,n1,n2,n3,n4,z1,z2,gz4,hz4,z5] at gz6
     all_goals
     obtain ⟨z7,h⟩:=AF h
     obtain ⟨z8,h⟩:=AF h
     rcases AD h with ⟨z9,h⟩ | ⟨z9,h⟩
     ·try simp only [go_sem,n1,n2,n3,n4,z1,z2,gz4,hz4,z5,gz6] at z9
      all_goals
      (simp_all)
     ·try simp only [go_sem,n1,n2,n3,n4,z1,z2,gz4,hz4,z5,gz6] at z9
      all_goals
      obtain rfl:=AB h
      refine ⟨0,fun L hL => ?_⟩
      simp only [go_sem,z1,z2,lz2,xz2,fz3,gz4,hz4,fz4,z5,gz6,z9]
  ·have gz4n:=DT gz4
   have gz4nn:=Ha gz4n
   try simp only [go_sem,n1,n2,n3,n4,z1,z2] at gz4nn
   all_goals
   rcases AD h with ⟨z5,h⟩ | ⟨z5,h⟩
   ·try simp only [go_sem,n1,n2,n3,n4,z1,z2,gz4nn] at z5
    all_goals
    obtain rfl:=AB h
    refine ⟨0,fun L hL => ?_⟩
    simp only [go_sem,z1,z2,lz2,xz2,fz3,gz4nn,z5]
   ·try simp only [go_sem,n1,n2,n3,n4,z1,z2,gz4nn] at z5
    all_goals
    (simp_all)
 ·try simp only [go_sem,n1,n2,n3,n4] at z1
  all_goals
  obtain rfl:=AB h
  refine ⟨0,fun L hL => ?_⟩
  simp only [go_sem,z1]
set_option maxHeartbeats 64000000 in
attribute [local go_sem] WZ Vv Uh Ug Uf wh in
theorem fj {faults:List AJ} {count:Int} {y_:Bool} (h:CH faults count = some y_):Tg.F [.sl 2 (List.map Ae faults),.int .i64 count] = ⟨true,.bool y_,[.any,.any]⟩:=by
 refine Ay rfl ?_
 dsimp only [CH] at h
 obtain ⟨y_10,z10,h⟩:=AC h
 obtain ⟨Lz10,ez10⟩:=Mh z10
 rcases y_10 with y_10a | y_10b
 all_goals
 dsimp only at h
 obtain rfl:=AB h
 refine ⟨Lz10,fun L hL => ?_⟩
 have ez10:=ez10 L (by omega)
 try simp only [go_sem] at ez10
 simp only [go_sem,ez10]
def bY:IR:=.seq (.test false [ PM 9 4,PM 10 1,PO 11 (.call 128 [(.s 0),(I6 12)]),PO 12 (.bin false .lss (.s 2) (.s 0))] (.s 0) (.skip) (.exit 0)) (.seq (.block 1 (.seq (.test false [ PM 15 0,PO 16 (.call 29 [(.s 0),(I6 3)])] (.s 0) (.region false [ PM 17 3,PM 18 4,PM 19 0,PO 20 (.call 31 [(.s 0),(I6 5)]),PO 21 (.bin false .add (I6 1) (.s 0)),PO 22 (.build [.int .i64 (0),.int .i64 (0)] [(0,1,(.s 3)),(1,1,(.s 0))]),PO 23 (.mkSl 2 (.agg [.int .i64 (0),.int .i64 (0)]) 1 [(0,(.s 0))]),PO 24 (.app 2 16 (.agg [.int .i64 (0),.int .i64 (0)]) (.s 6) (.s 0)),VS 3 5 0])
 (.skip)) (.test false [ PM 25 0,PO 26 (.call 29 [(.s 0),(I6 8)])] (.s 0) (.seq (.region false [ PM 27 3,PM 28 4,PM 29 0,PO 30 (.call 31 [(.s 0),(I6 5)]),PO 31 (.bin false .add (I6 1) (.s 0)),PO 32 (.build [.int .i64 (0),.int .i64 (0)] [(0,1,(.s 3)),(1,1,(.s 0))]),PO 33 (.mkSl 2 (.agg [.int .i64 (0),.int .i64 (0)]) 1 [(0,(.s 0))]),PO 34 (.app 2 16 (.agg [.int .i64 (0),.int .i64 (0)]) (.s 6) (.s 0)),VS 3 5 0]) (.test false [ PM 35 3,PM 36 1,PO 37 (.call 62 [(.s 1),(.s 0)]),PO 38 (.un .not (.s 0))] (.s 0) (.region false [ PM 39 3,PM 40 3,PO 41 (.len false (.s 0)),PO 42
 (.bin false .sub (.s 0) (I6 1)),PO 43 (.trunc 2 (.s 3) (.s 0)),VS 3 5 0]) (.skip))) (.skip)))) (.region false [ PM 13 4,PO 14 (.bin false .add (.s 0) (I6 1)),VS 4 6 0]))
def UD:List Bool:=[true,true,false,true,true,false]
def UC:List Bool:=[true,true,false,true,false,false]
def UB:List Bool:=[true,false,true,false,false,false]
def AAm:List Nat:=[0,1,4,5,6,7]
def wT:CI:=⟨2,6,.seq (.region false [ VO 2 4 (.newnil 2)]) (.seq (.region false [ PO 8 (.mkSl 2 (.agg [.int .i64 (0),.int .i64 (0)]) 0 []),VS 3 5 0]) (.seq (.seq (.region false [ VO 4 6 (.mov (I6 0))]) (.block 0 (.loop UD UC UB bY))) (.seq (.test false [ PM 44 3,PO 45 (.len false (.s 0)),PO 46 (.bin false .gtr (.s 0) (I6 0)),PO 47 (.mov (.s 0)),⟨.push,48,(some ((.s 0),true)),.mov (.v 0)⟩,⟨.push,49,(some ((.s 1),true)),.callw 29 [(.s 0),(I6 10)]⟩,PO 50 (.pick (.s 2) (.s 0) (.c (.bool false)))] (.s 0) (.seq (.region false [ PM 51 3,PM 52 0,PM 53 3,
 PO 54 (.len false (.s 0)),PO 55 (.call 31 [(.s 2),(.s 0)]),PO 56 (.ixAddr 2 (.s 4) (.s 0)),VS 5 7 0]) (.seq (.region false [ PM 57 5,PM 58 0,PO 59 (.mkSl 1 (.int .i64 (0)) 4 [(0,(I6 0)),(1,(I6 5)),(2,(I6 6)),(3,(.c (.int .i64 (-1))))]),PO 60 (.call 30 [(.s 1),(.s 0)]),PO 61 (.nilck (.s 3)),PO 62 (.fldAddr 1 (.s 0)),⟨.no,0,none,.store 1 (.s 0) (.s 2)⟩]) (.anyo 16 [ SO 0 63 (.mov (.v 5)),SO 1 64 (.mov (.v 0)),SO 2 65 (.mov (.v 5)),SO 3 66 (.nilck (.s 2)),SO 4 67 (.fldAddr 0 (.s 3)),SO 5 68 (.load false 1 (.s 4)),SO 6 69 (.mov (.v 5)),SO 7 70 (.nilck (.s 6)),SO 8 71
 (.fldAddr 0 (.s 7)),SO 9 72 (.load false 1 (.s 8)),SO 10 73 (.bin false .add (.s 9) (I6 1)),SO 11 74 (.mov (.v 1)),SO 12 75 (.pur (.mkSl 1 (.int .i64 (0)) 5 [(0,(.s 5)),(1,(.s 10)),(2,(.c (.int .i64 (-1)))),(3,(.s 11)),(4,(I6 100))])),SO 13 76 (.call 30 [(.s 1),(.s 12)]),SO 14 77 (.nilck (.s 0)),SO 15 78 (.fldAddr 0 (.s 14)),⟨.no,0,none,.store 1 (.s 15) (.s 13)⟩] [[1,2,3,4,5,6,7,8,9,10,11,12,0,13,14,15,16],[1,2,3,4,5,6,7,8,9,10,11,12,13,0,14,15,16]] .skip))) (.skip)) (.seq (.region false [ PM 79 3,VS 2 4 0]) (.ret))))),[.t 2]⟩
noncomputable def gB:List (Nat × Ax):=[(128,fS),(29,PH),(31,LH),(62,Tg),(30,Ld)]
theorem kv:AR gB 128 = some fS:=rfl
theorem qy:AR gB 29 = some PH:=rfl
theorem qw:AR gB 31 = some LH:=rfl
theorem qv:AR gB 62 = some Tg:=rfl
theorem qx:AR gB 30 = some Ld:=rfl
noncomputable def nx:Ax:=OE gB wT [.io,.bor]
theorem s_81:AU Tryz.prog 91 nx:=Bb _ (AG AFZ (AG kV (AG au (AG vt (AG da AP))))) (by kernel_rfl:Af Tryz.prog 91 wT AAm = true)
theorem M_81:nx.modes = [.io,.bor]:=rfl
theorem AIu:nx.flat = false:=rfl
attribute [go_sem] M_81 AIu kv qy qw qv qx
def WY (count:Int):(AQ × (List AJ) × Int) → St
 | (s_,out,i) => ⟨[.ref 31 0 0,.int .i64 count,.any,.own 3200032,.int .i64 i,.any],[],[(31,⟨3,[Ah s_]⟩),(3200032,⟨2,List.map Ae out⟩)],true⟩
def Vu (count:Int) (y:AQ × (List AJ)):EB:=(.exit 0,⟨[.ref 31 0 0,.int .i64 count,.any,.own 3200032,.any,.any],[],[(31,⟨3,[Ah y.1]⟩),(3200032,⟨2,List.map Ae y.2⟩)],true⟩)
set_option maxHeartbeats 64000000 in
attribute [local go_sem] wT WY Vu bY UD UC UB in
theorem OR {count:Int} {sgm_:AQ × (List AJ) × Int} {rho_:AQ × (List AJ)} (h:AL (El count) sgm_ = some rho_):∃ L0,∀ L,L0 ≤ L → Bk (Az (AR gB) L bY) UD UC UB L (WY count sgm_) = Vu count rho_:=by
 refine As (E:=WY count) (R:=Vu count) (fun y => by first | (intro c; cases c) | (rcases y with y | y <;> (intro c; cases c)) | (rcases y with y | y | y <;> (intro c; cases c))) ?_ h
 clear h
 rintro ⟨s_,out,i⟩ o_ h
 dsimp only [El] at h
 obtain ⟨y_1,z1,h⟩:=AC h
 have fz1:=fl z1
 try simp only [go_sem] at fz1
 rcases AD h with ⟨z2,h⟩ | ⟨z2,h⟩
 ·try simp only [go_sem,n1,n2,n3,n4] at z2
  all_goals
  obtain ⟨y_3,z3,h⟩:=AC h
  have fz3:=Jy z3
  try simp only [go_sem,z2] at fz3
  rcases AD h with ⟨z4,h⟩ | ⟨z4,h⟩
  ·try simp only [go_sem,n1,n2,n3,n4,z2] at z4
   all_goals
   obtain ⟨y_5,z5,h⟩:=AC h
   have fz5:=Ed z5
   try simp only [go_sem,z2,z4] at fz5
   obtain ⟨z6,h⟩:=AF h
   try simp only [go_sem,n1,n2,n3,n4,z2,z4] at z6
   all_goals
   obtain ⟨y_7,z7,h⟩:=AC h
   have fz7:=Jy z7
   try simp only [go_sem,z2,z4,z6] at fz7
   rcases AD h with ⟨z8,h⟩ | ⟨z8,h⟩
   ·try simp only [go_sem,n1,n2,n3,n4,z2,z4,z6] at z8
    all_goals
    obtain ⟨y_9,z9,h⟩:=AC h
    have fz9:=Ed z9
    try simp only [go_sem,z2,z4,z6,z8] at fz9
    obtain ⟨z10,h⟩:=AF h
    try simp only [go_sem,n1,n2,n3,n4,z2,z4,z6,z8] at z10
    all_goals
    obtain ⟨y_11,z11,h⟩:=AC h
    have fz11:=fj z11
    try simp only [go_sem,z2,z4,z6,z8,z10] at fz11
    rcases AD h with ⟨z12,h⟩ | ⟨z12,h⟩
    ·try simp only [go_sem,n1,n2,n3,n4,z2,z4,z6,z8,z10] at z12
     all_goals
     obtain ⟨z13,h⟩:=AF h
     try simp only [go_sem,n1,n2,n3,n4,z2,z4,z6,z8,z10,z12] at z13
     all_goals
     obtain rfl:=AB h
     refine ⟨0,fun L hL => ?_⟩
     simp only [go_sem,fz1,z2,fz3,z4,fz5,z6,fz7,z8,fz9,z10,fz11,z12,z13]
    ·try simp only [go_sem,n1,n2,n3,n4,z2,z4,z6,z8,z10] at z12
     all_goals
     obtain rfl:=AB h
     refine ⟨0,fun L hL => ?_⟩
     simp only [go_sem,fz1,z2,fz3,z4,fz5,z6,fz7,z8,fz9,z10,fz11,z12]
   ·try simp only [go_sem,n1,n2,n3,n4,z2,z4,z6] at z8
    all_goals
    obtain rfl:=AB h
    refine ⟨0,fun L hL => ?_⟩
    simp only [go_sem,fz1,z2,fz3,z4,fz5,z6,fz7,z8]
  ·try simp only [go_sem,n1,n2,n3,n4,z2] at z4
   all_goals
   obtain ⟨y_14,z14,h⟩:=AC h
   have fz14:=Jy z14
   try simp only [go_sem,z2,z4] at fz14
   rcases AD h with ⟨z15,h⟩ | ⟨z15,h⟩
   ·try simp only [go_sem,n1,n2,n3,n4,z2,z4] at z15
    all_goals
    obtain ⟨y_16,z16,h⟩:=AC h
    have fz16:=Ed z16
    try simp only [go_sem,z2,z4,z15] at fz16
    obtain ⟨z17,h⟩:=AF h
    try simp only [go_sem,n1,n2,n3,n4,z2,z4,z15] at z17
    all_goals
    obtain ⟨y_18,z18,h⟩:=AC h
    have fz18:=fj z18
    try simp only [go_sem,z2,z4,z15,z17] at fz18
    rcases AD h with ⟨z19,h⟩ | ⟨z19,h⟩
    ·try simp only [go_sem,n1,n2,n3,n4,z2,z4,z15,z17] at z19
     all_goals
     obtain ⟨z20,h⟩:=AF h
     try simp only [go_sem,n1,n2,n3,n4,z2,z4,z15,z17,z19] at z20
     all_goals
     obtain rfl:=AB h
     refine ⟨0,fun L hL => ?_⟩
     simp only [go_sem,fz1,z2,fz3,z4,fz14,z15,fz16,z17,fz18,z19,z20]
    ·try simp only [go_sem,n1,n2,n3,n4,z2,z4,z15,z17] at z19
     all_goals
     obtain rfl:=AB h
     refine ⟨0,fun L hL => ?_⟩
     simp only [go_sem,fz1,z2,fz3,z4,fz14,z15,fz16,z17,fz18,z19]
   ·try simp only [go_sem,n1,n2,n3,n4,z2,z4] at z15
    all_goals
    obtain rfl:=AB h
    refine ⟨0,fun L hL => ?_⟩
    simp only [go_sem,fz1,z2,fz3,z4,fz14,z15]
 ·try simp only [go_sem,n1,n2,n3,n4] at z2
  all_goals
  obtain rfl:=AB h
  refine ⟨0,fun L hL => ?_⟩
  simp only [go_sem,fz1,z2]
set_option maxHeartbeats 64000000 in
attribute [local go_sem] WY Vu UD UC UB wT in
theorem AHk {s_:AQ} {count:Int} {y_:(List AJ) × AQ} (h:IZ s_ count = some y_):nx.F [.mem 3 [Ah s_] 0,.int .i64 count] = ⟨true,.fresh 2 (List.map Ae y_.1),[.mem 3 [Ah y_.2] 0,.any]⟩:=by
 refine FC ?_
 dsimp only [IZ] at h
 obtain ⟨y_21,z21,h⟩:=AC h
 obtain ⟨Lz21,ez21⟩:=OR z21
 rcases AD h with ⟨z22,h⟩ | ⟨z22,h⟩
 ·try simp only [go_sem,n1,n2,n3,n4] at z22
  all_goals
  obtain ⟨y_23,z23,h⟩:=AC h
  have fz23:=Jy z23
  try simp only [go_sem,z22] at fz23
  rcases AD h with ⟨z24,h⟩ | ⟨z24,h⟩
  ·try simp only [go_sem,n1,n2,n3,n4,z22] at z24
   all_goals
   obtain ⟨y_25,z25,h⟩:=AC h
   have fz25:=Ed z25
   try simp only [go_sem,z22,z24] at fz25
   obtain ⟨z26,h⟩:=AF h
   have lz26:=Au z26
   have xz26:=AK Ae y_21.2 lz26
   try simp only [go_sem] at lz26
   try simp only [go_sem] at xz26
   try simp only [go_sem,n1,n2,n3,n4,z22,z24] at z26
   all_goals
   obtain ⟨y_27,z27,h⟩:=AC h
   have fz27:=MX z27
   try simp only [go_sem,z22,z24,z26] at fz27
   obtain ⟨y_28,z28,h⟩:=AC h
   have fz28:=MX z28
   try simp only [go_sem,z22,z24,z26] at fz28
   obtain rfl:=AB h
   refine ⟨Lz21,fun L hL => ?_⟩
   have ez21:=ez21 L (by omega)
   try simp only [go_sem,z22,z24,z26] at ez21
   simp only [go_sem,z22,fz23,z24,fz25,z26,lz26,xz26,fz27,fz28,ez21]
  ·try simp only [go_sem,n1,n2,n3,n4,z22] at z24
   all_goals
   obtain rfl:=AB h
   refine ⟨Lz21,fun L hL => ?_⟩
   have ez21:=ez21 L (by omega)
   try simp only [go_sem,z22,z24] at ez21
   simp only [go_sem,z22,fz23,z24,ez21]
 ·try simp only [go_sem,n1,n2,n3,n4] at z22
  all_goals
  obtain rfl:=AB h
  refine ⟨Lz21,fun L hL => ?_⟩
  have ez21:=ez21 L (by omega)
  try simp only [go_sem,z22] at ez21
  simp only [go_sem,z22,ez21]
def ABw:List Nat:=[0,2,3,4,5]
def ABx:CI:=⟨1,5,.seq (.region false [ VO 1 2 (.newnil 5),VO 2 3 (.newnil 2)]) (.seq (.region false [ PM 6 0,PO 7 (.call 26 [(.s 0)]),VS 3 4 0]) (.seq (.region false [ PM 8 3,PO 9 (.call 27 [(.s 0)]),VS 4 5 0]) (.seq (.region false [ PM 10 4,PM 11 3,PM 12 4,PO 13 (.len false (.s 0)),PO 14 (.call 91 [(.s 2),(.s 0)]),VS 1 2 4,VS 2 3 0]) (.ret)))),[.t 1,.t 2]⟩
noncomputable def vT:List (Nat × Ax):=[(26,kA),(27,fT),(91,nx)]
theorem qu:AR vT 26 = some kA:=rfl
theorem qt:AR vT 27 = some fT:=rfl
theorem qs:AR vT 91 = some nx:=rfl
noncomputable def nw:Ax:=Di vT ABx [.bor]
theorem s_82:AU Tryz.prog 42 nw:=AM _ rfl (AG s_1 (AG AFa (AG s_81 AP))) (by kernel_rfl:Af Tryz.prog 42 ABx ABw = true)
theorem M_82:nw.modes = [.bor]:=rfl
theorem AIt:nw.flat = true:=rfl
attribute [go_sem] M_82 AIt qu qt qs
theorem AHj {code:List UInt8} {y_:(List AA) × (List AJ)} (h:Js code = some y_):nw.F [.sl 1 (List.map Co code)] = ⟨true,.tup [.fresh 5 (List.map AE y_.1),.fresh 2 (List.map Ae y_.2)],[.any]⟩:=by
 refine Ay (by simp only [Fo,Fu,GQ,List.all_cons,List.all_nil,Bool.and_self,Bx (f:=AE) (fun _ => rfl),Bx (f:=Ae) (fun _ => rfl)]) ?_
 dsimp only [Js] at h
 obtain ⟨y_1,z1,h⟩:=AC h
 have fz1:=vF z1
 try simp only [go_sem] at fz1
 obtain ⟨y_2,z2,h⟩:=AC h
 have fz2:=zd z2
 try simp only [go_sem] at fz2
 obtain ⟨y_3,z3,h⟩:=AC h
 have fz3:=AHk z3
 try simp only [go_sem] at fz3
 obtain rfl:=AB h
 refine ⟨0,fun L hL => ?_⟩
 simp only [go_sem,ABx,fz1,fz2,fz3]
def AGU:List Nat:=[0,2,3]
def ir8:CI:=⟨1,3,.seq (.region false [ VO 1 2 (.newnil 5),VO 2 3 (.newnil 2)]) (.seq (.region false [ PM 4 0,PO 5 (.call 42 [(.s 0)]),PO 6 (.ext (.s 0) 0),PO 7 (.ext (.s 1) 1),VS 1 2 1,VS 2 3 0]) (.ret)),[.t 1,.t 2]⟩
noncomputable def AEi:List (Nat × Ax):=[(42,nw)]
theorem qr:AR AEi 42 = some nw:=rfl
noncomputable def nu:Ax:=Di AEi ir8 [.bor]
theorem s_83:AU Tryz.prog 8 nu:=AM _ rfl (AG s_82 AP) (by kernel_rfl:Af Tryz.prog 8 ir8 AGU = true)
theorem M_83:nu.modes = [.bor]:=rfl
theorem AIs:nu.flat = true:=rfl
attribute [go_sem] M_83 AIs qr
theorem AHi {code:List UInt8} {y_:(List AA) × (List AJ)} (h:Cx code = some y_):nu.F [.sl 1 (List.map Co code)] = ⟨true,.tup [.fresh 5 (List.map AE y_.1),.fresh 2 (List.map Ae y_.2)],[.any]⟩:=by
 refine Ay (by simp only [Fo,Fu,GQ,List.all_cons,List.all_nil,Bool.and_self,Bx (f:=AE) (fun _ => rfl),Bx (f:=Ae) (fun _ => rfl)]) ?_
 dsimp only [Cx] at h
 obtain ⟨y_1,z1,h⟩:=AC h
 have fz1:=AHj z1
 try simp only [go_sem] at fz1
 obtain rfl:=AB h
 refine ⟨0,fun L hL => ?_⟩
 simp only [go_sem,ir8,fz1]
def AAk:List Nat:=[0,2]
def AAl:CI:=⟨1,2,.seq (.region false [ VO 1 2 (.mov (I6 0))]) (.seq (.region false [ PM 3 0,PO 4 (.len false (.s 0)),VS 1 2 0]) (.ret)),[.t 1]⟩
noncomputable def t_84:List (Nat × Ax):=[]
noncomputable def nt:Ax:=Di t_84 AAl [.bor]
theorem s_84:AU Tryz.prog 92 nt:=AM _ rfl AP (by kernel_rfl:Af Tryz.prog 92 AAl AAk = true)
theorem M_84:nt.modes = [.bor]:=rfl
theorem AIr:nt.flat = true:=rfl
attribute [go_sem] M_84 AIr
theorem AHh {list:List AA} {y_:Int} (h:Dg list = some y_):nt.F [.sl 5 (List.map AE list)] = ⟨true,.int .i64 y_,[.any]⟩:=by
 refine Ay rfl ?_
 dsimp only [Dg] at h
 obtain rfl:=AB h
 refine ⟨0,fun L hL => ?_⟩
 simp only [go_sem,AAl]
def bx:IR:=.seq (.region false [ VO 8 10 (.bin false .lss (.v 7) (.v 6))]) (.seq (.cond (.v 8) (.skip) (.exit 0)) (.seq (.block 1 (.seq (.region false [ PM 11 7,PO 12 (.ixAddr 2 (.v 5) (.v 7)),PO 13 (.load true 2 (.s 0)),VO 4 6 (.alloc (.agg [.int .i64 (0),.int .i64 (0)])),VS 3 5 2,⟨.no,0,none,.store 2 (.v 4) (.s 0)⟩]) (.seq (.test false [ PO 14 (.fldAddr 0 (.v 4)),PO 15 (.load false 1 (.s 0)),PM 16 1,PO 17 (.bin false .sub (.s 0) (I6 1)),PO 18 (.call 35 [(.s 2),(I6 0),(.s 0)]),PO 19 (.un .not (.s 0)),PO 20 (.mov (.s 0)),⟨.push,21,(some ((.s 0),false)),.fldAddr 1
 (.v 4)⟩,⟨.push,22,(some ((.s 1),false)),.load false 1 (.s 0)⟩,⟨.push,23,(some ((.s 2),false)),.call 35 [(.s 0),(I6 1),(I6 5)]⟩,⟨.push,24,(some ((.s 3),false)),.un .not (.s 0)⟩,PO 25 (.pick (.s 4) (.c (.bool true)) (.s 0))] (.s 0) (.seq (.region false [ VO 2 4 (.mov (.c (.bool false)))]) (.ret)) (.skip)) (.anyo 35 [ SO 0 26 (.mov (.v 3)),SO 1 27 (.bin false .gtr (.s 0) (I6 0)),SO 2 28 (.mov (.s 1)),⟨.slot 3,29,(some ((.s 2),true)),.mov (.v 0)⟩,⟨.slot 4,30,(some ((.s 2),true)),.mov (.v 3)⟩,⟨.slot 5,31,(some ((.s 2),true)),.bin false .sub (.s 4) (I6 1)⟩,⟨.slot
 6,32,(some ((.s 2),true)),.ixAddr 2 (.s 3) (.s 5)⟩,⟨.slot 7,33,(some ((.s 2),true)),.fldAddr 0 (.s 6)⟩,⟨.slot 8,34,(some ((.s 2),true)),.load false 1 (.s 7)⟩,⟨.slot 9,35,(some ((.s 2),true)),.fldAddr 0 (.v 4)⟩,⟨.slot 10,36,(some ((.s 2),true)),.load false 1 (.s 9)⟩,⟨.slot 11,37,(some ((.s 2),true)),.bin false .gtr (.s 8) (.s 10)⟩,⟨.slot 12,38,(some ((.s 2),true)),.mov (.s 11)⟩,⟨.slot 13,39,(some ((.s 12),false)),.mov (.v 0)⟩,⟨.slot 14,40,(some ((.s 12),false)),.mov (.v 3)⟩,⟨.slot 15,41,(some ((.s 12),false)),.bin false .sub (.s 14) (I6 1)⟩,
 ⟨.slot 16,42,(some ((.s 12),false)),.ixAddr 2 (.s 13) (.s 15)⟩,⟨.slot 17,43,(some ((.s 12),false)),.fldAddr 0 (.s 16)⟩,⟨.slot 18,44,(some ((.s 12),false)),.load false 1 (.s 17)⟩,⟨.slot 19,45,(some ((.s 12),false)),.fldAddr 0 (.v 4)⟩,⟨.slot 20,46,(some ((.s 12),false)),.load false 1 (.s 19)⟩,⟨.slot 21,47,(some ((.s 12),false)),.bin false .eql (.s 18) (.s 20)⟩,⟨.slot 22,48,(some ((.s 12),false)),.mov (.s 21)⟩,⟨.slot 23,49,(some ((.s 22),true)),.mov (.v 0)⟩,⟨.slot 24,50,(some ((.s 22),true)),.mov (.v 3)⟩,⟨.slot 25,51,(some ((.s 22),true)),.bin
 false .sub (.s 24) (I6 1)⟩,⟨.slot 26,52,(some ((.s 22),true)),.ixAddr 2 (.s 23) (.s 25)⟩,⟨.slot 27,53,(some ((.s 22),true)),.fldAddr 1 (.s 26)⟩,⟨.slot 28,54,(some ((.s 22),true)),.load false 1 (.s 27)⟩,⟨.slot 29,55,(some ((.s 22),true)),.fldAddr 1 (.v 4)⟩,⟨.slot 30,56,(some ((.s 22),true)),.load false 1 (.s 29)⟩,⟨.slot 31,57,(some ((.s 22),true)),.bin false .geq (.s 28) (.s 30)⟩,⟨.slot 32,58,(some ((.s 12),false)),.pick (.s 22) (.s 31) (.c (.bool false))⟩,⟨.slot 33,59,(some ((.s 2),true)),.pick (.s 12) (.c (.bool true)) (.s 32)⟩,SO 34 60 (.pick (.s 2)
 (.s 33) (.c (.bool false)))] [] (.cond (.s 34) (.seq (.region false [ VO 2 4 (.mov (.c (.bool false)))]) (.ret)) (.skip)))))) (.region false [ PO 61 (.bin false .add (.v 7) (I6 1)),VS 7 9 0])))
def Ut:List Bool:=[true,true,false,false,false,true,true,true,false]
def Us:List Bool:=[false,false,false,false,false,false,false,false,false]
def Ur:List Bool:=[false,false,true,false,false,false,false,false,false]
def ABk:List Nat:=[0,1,4,5,6,7,8,9,10]
def wl:CI:=⟨2,9,.seq (.region false [ VO 2 4 (.mov (.c (.bool false)))]) (.seq (.seq (.region false [ VO 5 7 (.mov (.v 0)),VO 6 8 (.len false (.v 5)),VO 7 9 (.mov (I6 0))]) (.block 0 (.loop Ut Us Ur bx))) (.seq (.region false [ VO 2 4 (.mov (.c (.bool true)))]) (.ret))),[.t 2]⟩
noncomputable def zp:List (Nat × Ax):=[(35,Mb)]
theorem qq:AR zp 35 = some Mb:=rfl
noncomputable def fO:Ax:=Di zp wl [.bor,.bor]
theorem AFU:AU Tryz.prog 51 fO:=AM _ rfl (AG gJ AP) (by kernel_rfl:Af Tryz.prog 51 wl ABk = true)
theorem M_85:fO.modes = [.bor,.bor]:=rfl
theorem AIq:fO.flat = true:=rfl
attribute [go_sem] M_85 AIq qq
def WX (faults:List AJ) (estimates:Int) (t7:List AJ) (t8:Int):Int → St
 | t9 => ⟨[.sl 2 (List.map Ae faults),.int .i64 estimates,.any,.any,.any,.sl 2 (List.map Ae t7),.int .i64 t8,.int .i64 t9,.any],[],[],true⟩
def Vt (faults:List AJ) (estimates:Int) (t7:List AJ) (t8:Int):(Unit ⊕ Bool) → EB
 | .inl y => (.exit 0,⟨[.any,.any,.any,.any,.any,.any,.any,.any,.any],[],[],true⟩)
 | .inr y => (.ret,⟨[.any,.any,.bool y,.any,.any,.any,.any,.any,.any],[],[],true⟩)
set_option maxHeartbeats 64000000 in
attribute [local go_sem] wl WX Vt bx Ut Us Ur in
theorem Ow {faults:List AJ} {estimates:Int} {t7:List AJ} {t8:Int} {sgm_:Int} {rho_:Unit ⊕ Bool} (h:AL (GN faults estimates t7 t8) sgm_ = some rho_):∃ L0,∀ L,L0 ≤ L → Bk (Az (AR zp) L bx) Ut Us Ur L (WX faults estimates t7 t8 sgm_) = Vt faults estimates t7 t8 rho_:=by
 refine As (E:=WX faults estimates t7 t8) (R:=Vt faults estimates t7 t8) (fun y => by first | (intro c; cases c) | (rcases y with y | y <;> (intro c; cases c)) | (rcases y with y | y | y <;> (intro c; cases c))) ?_ h
 clear h
 intro t9 o_ h
 dsimp only [GN] at h
 rcases AD h with ⟨z1,h⟩ | ⟨z1,h⟩
 ·try simp only [go_sem,n1,n2,n3,n4] at z1
  all_goals
  obtain ⟨z2,h⟩:=AF h
  have lz2:=Au z2
  have xz2:=AK Ae t7 lz2
  try simp only [go_sem] at lz2
  try simp only [go_sem] at xz2
  try simp only [go_sem,n1,n2,n3,n4,z1] at z2
  all_goals
  obtain ⟨y_3,z3,h⟩:=AC h
  have fz3:=RY z3
  try simp only [go_sem,z1,z2] at fz3
  obtain ⟨z4,h⟩:=AF h
  rcases Ab z4 with ⟨gz4,z4⟩ | gz4
  ·try simp only [go_sem,n1,n2,n3,n4,z1,z2] at gz4
   all_goals
   obtain ⟨y_4,hz4⟩:=Option.isSome_iff_exists.1 z4
   have fz4:=RY hz4
   try simp only [go_sem,n1,n2,n3,n4,z1,z2,gz4] at hz4
   all_goals
   try simp only [go_sem,z1,z2,gz4] at fz4
   rcases AD h with ⟨z5,h⟩ | ⟨z5,h⟩
   ·try simp only [go_sem,n1,n2,n3,n4,z1,z2,gz4,hz4] at z5
    all_goals
    obtain rfl:=AB h
    refine ⟨0,fun L hL => ?_⟩
    simp only [go_sem,z1,z2,lz2,xz2,fz3,gz4,hz4,fz4,z5]
   ·try simp only [go_sem,n1,n2,n3,n4,z1,z2,gz4,hz4] at z5
    all_goals
    obtain ⟨z6,h⟩:=AF h
    rcases Ab z6 with ⟨gz6,z6⟩ | gz6
    ·try simp only [go_sem,n1,n2,n3,n4,z1,z2,gz4,hz4,z5] at gz6
     all_goals
     have lz6:=Au z6
     have xz6:=AK Ae faults lz6
     try simp only [go_sem] at lz6
     try simp only [go_sem] at xz6
     try simp only [go_sem,n1,n2,n3,n4,z1,z2,gz4,hz4,z5,gz6] at z6
     all_goals
     obtain ⟨z7,h⟩:=AF h
     rcases Ab z7 with ⟨gz7,z7⟩ | gz7
     ·try simp only [go_sem,n1,n2,n3,n4,z1,z2,gz4,hz4,z5,gz6,z6] at gz7
      all_goals
      have lz7:=Au z7
      have xz7:=AK Ae faults lz7
      try simp only [go_sem] at lz7
      try simp only [go_sem] at xz7
      try simp only [go_sem,n1,n2,n3,n4,z1,z2,gz4,hz4,z5,gz6,z6,gz7] at z7
      all_goals
      obtain ⟨z8,h⟩:=AF h
      rcases Ab z8 with ⟨gz8,z8⟩ | gz8
      ·try simp only [go_sem,n1,n2,n3,n4,z1,z2,gz4,hz4,z5,gz6,z6,gz7,z7] at gz8
       all_goals
       have lz8:=Au z8
       have xz8:=AK Ae faults lz8
       try simp only [go_sem] at lz8
       try simp only [go_sem] at xz8
       try simp only [go_sem,n1,n2,n3,n4,z1,z2,gz4,hz4,z5,gz6,z6,gz7,z7,gz8] at z8
       all_goals
       rcases AD h with ⟨z9,h⟩ | ⟨z9,h⟩
       all_goals
       try simp only [go_sem,n1,n2,n3,n4,z1,z2,gz4,hz4,z5,gz6,z6,gz7,z7,gz8,z8] at z9
       all_goals
       obtain rfl:=AB h
       refine ⟨0,fun L hL => ?_⟩
       simp only [go_sem,z1,z2,lz2,xz2,fz3,gz4,hz4,fz4,z5,gz6,z6,lz6,xz6,gz7,z7,lz7,xz7,gz8,z8,lz8,xz8,z9]
      ·rcases DA gz8 with gz8a | ⟨gz8a,gz8b⟩
       ·try simp only [go_sem,n1,n2,n3,n4,z1,z2,gz4,hz4,z5,gz6,z6,gz7,z7] at gz8a
        all_goals
        (simp_all)
       ·obtain ⟨gz8aa,gz8ab⟩:=RC gz8a
        have gz8abn:=Ha gz8ab
        try simp only [go_sem,n1,n2,n3,n4,z1,z2,gz4,hz4,z5,gz6,z6,gz7,z7] at gz8aa
        all_goals
        try simp only [go_sem,n1,n2,n3,n4,z1,z2,gz4,hz4,z5,gz6,z6,gz7,z7,gz8aa] at gz8abn
        all_goals
        try simp only [go_sem,n1,n2,n3,n4,z1,z2,gz4,hz4,z5,gz6,z6,gz7,z7,gz8aa,gz8abn] at gz8b
        all_goals
        rcases AD h with ⟨z9,h⟩ | ⟨z9,h⟩
        ·try simp only [go_sem,n1,n2,n3,n4,z1,z2,gz4,hz4,z5,gz6,z6,gz7,z7,gz8aa,gz8abn,gz8b] at z9
         all_goals
         (simp_all)
        ·try simp only [go_sem,n1,n2,n3,n4,z1,z2,gz4,hz4,z5,gz6,z6,gz7,z7,gz8aa,gz8abn,gz8b] at z9
         all_goals
         obtain rfl:=AB h
         refine ⟨0,fun L hL => ?_⟩
         simp only [go_sem,z1,z2,lz2,xz2,fz3,gz4,hz4,fz4,z5,gz6,z6,lz6,xz6,gz7,z7,lz7,xz7,gz8aa,gz8abn,gz8b,z9]
     ·rcases DA gz7 with gz7a | ⟨gz7a,gz7b⟩
      ·try simp only [go_sem,n1,n2,n3,n4,z1,z2,gz4,hz4,z5,gz6,z6] at gz7a
       all_goals
       (simp_all)
      ·have gz7bn:=DT gz7b
       try simp only [go_sem,n1,n2,n3,n4,z1,z2,gz4,hz4,z5,gz6,z6] at gz7a
       all_goals
       try simp only [go_sem,n1,n2,n3,n4,z1,z2,gz4,hz4,z5,gz6,z6,gz7a] at gz7bn
       all_goals
       obtain ⟨z8,h⟩:=AF h
       rcases AD h with ⟨z9,h⟩ | ⟨z9,h⟩
       ·try simp only [go_sem,n1,n2,n3,n4,z1,z2,gz4,hz4,z5,gz6,z6,gz7a,gz7bn] at z9
        all_goals
        obtain rfl:=AB h
        refine ⟨0,fun L hL => ?_⟩
        simp only [go_sem,z1,z2,lz2,xz2,fz3,gz4,hz4,fz4,z5,gz6,z6,lz6,xz6,gz7a,gz7bn,z9]
       ·try simp only [go_sem,n1,n2,n3,n4,z1,z2,gz4,hz4,z5,gz6,z6,gz7a,gz7bn] at z9
        all_goals
        (simp_all)
    ·try simp only [go_sem,n1,n2,n3,n4,z1,z2,gz4,hz4,z5] at gz6
     all_goals
     obtain ⟨z7,h⟩:=AF h
     obtain ⟨z8,h⟩:=AF h
     rcases AD h with ⟨z9,h⟩ | ⟨z9,h⟩
     ·try simp only [go_sem,n1,n2,n3,n4,z1,z2,gz4,hz4,z5,gz6] at z9
      all_goals
      (simp_all)
     ·try simp only [go_sem,n1,n2,n3,n4,z1,z2,gz4,hz4,z5,gz6] at z9
      all_goals
      obtain rfl:=AB h
      refine ⟨0,fun L hL => ?_⟩
      simp only [go_sem,z1,z2,lz2,xz2,fz3,gz4,hz4,fz4,z5,gz6,z9]
  ·have gz4n:=DT gz4
   have gz4nn:=Ha gz4n
   try simp only [go_sem,n1,n2,n3,n4,z1,z2] at gz4nn
   all_goals
   rcases AD h with ⟨z5,h⟩ | ⟨z5,h⟩
   ·try simp only [go_sem,n1,n2,n3,n4,z1,z2,gz4nn] at z5
    all_goals
    obtain rfl:=AB h
    refine ⟨0,fun L hL => ?_⟩
    simp only [go_sem,z1,z2,lz2,xz2,fz3,gz4nn,z5]
   ·try simp only [go_sem,n1,n2,n3,n4,z1,z2,gz4nn] at z5
    all_goals
    (simp_all)
 ·try simp only [go_sem,n1,n2,n3,n4] at z1
  all_goals
  obtain rfl:=AB h
  refine ⟨0,fun L hL => ?_⟩
  simp only [go_sem,z1]
set_option maxHeartbeats 64000000 in
attribute [local go_sem] WX Vt Ut Us Ur wl in
theorem zT {faults:List AJ} {estimates:Int} {y_:Bool} (h:HJ faults estimates = some y_):fO.F [.sl 2 (List.map Ae faults),.int .i64 estimates] = ⟨true,.bool y_,[.any,.any]⟩:=by
 refine Ay rfl ?_
 dsimp only [HJ] at h
 obtain ⟨y_10,z10,h⟩:=AC h
 obtain ⟨Lz10,ez10⟩:=Ow z10
 rcases y_10 with y_10a | y_10b
 all_goals
 dsimp only at h
 obtain rfl:=AB h
 refine ⟨Lz10,fun L hL => ?_⟩
 have ez10:=ez10 L (by omega)
 try simp only [go_sem] at ez10
 simp only [go_sem,ez10]
def ABv:List Nat:=[0,1,4]
def wq:CI:=⟨2,3,.seq (.region false [ VO 2 4 (.mov (I6 0))]) (.seq (.block 0 (.test false [ PM 6 0,PO 7 (.call 32 [(.s 0)]),PO 8 (.un .not (.s 0)),PO 5 (.mov (.s 0))] (.s 0) (.seq (.region false [ VO 2 4 (.mov (I6 1))]) (.ret)) (.test false [ PM 10 1,PM 11 0,PO 12 (.call 92 [(.s 0)]),PO 13 (.call 51 [(.s 2),(.s 0)]),PO 14 (.un .not (.s 0)),PO 9 (.mov (.s 0))] (.s 0) (.seq (.region false [ VO 2 4 (.mov (I6 2))]) (.ret)) (.skip)))) (.seq (.region false [ VO 2 4 (.mov (I6 0))]) (.ret))),[.t 2]⟩
noncomputable def vS:List (Nat × Ax):=[(32,fQ),(92,nt),(51,fO)]
theorem qp:AR vS 32 = some fQ:=rfl
theorem qn:AR vS 92 = some nt:=rfl
theorem qo:AR vS 51 = some fO:=rfl
noncomputable def Yr:Ax:=Di vS wq [.bor,.bor]
theorem AAN:AU Tryz.prog 43 Yr:=AM _ rfl (AG AFX (AG s_84 (AG AFU AP))) (by kernel_rfl:Af Tryz.prog 43 wq ABv = true)
theorem M_86:Yr.modes = [.bor,.bor]:=rfl
theorem AIp:Yr.flat = true:=rfl
attribute [go_sem] M_86 AIp qp qn qo
theorem ul {list:List AA} {faults:List AJ} {y_:Int} (h:GD list faults = some y_):Yr.F [.sl 5 (List.map AE list),.sl 2 (List.map Ae faults)] = ⟨true,.int .i64 y_,[.any,.any]⟩:=by
 refine Ay rfl ?_
 dsimp only [GD] at h
 obtain ⟨y_1,z1,h⟩:=AC h
 have fz1:=zX z1
 try simp only [go_sem] at fz1
 rcases AD h with ⟨z2,h⟩ | ⟨z2,h⟩
 ·try simp only [go_sem,n1,n2,n3,n4] at z2
  all_goals
  obtain rfl:=AB h
  refine ⟨0,fun L hL => ?_⟩
  simp only [go_sem,wq,fz1,z2]
 ·try simp only [go_sem,n1,n2,n3,n4] at z2
  all_goals
  obtain ⟨y_3,z3,h⟩:=AC h
  have fz3:=AHh z3
  try simp only [go_sem,z2] at fz3
  obtain ⟨y_4,z4,h⟩:=AC h
  have fz4:=zT z4
  try simp only [go_sem,z2] at fz4
  rcases AD h with ⟨z5,h⟩ | ⟨z5,h⟩
  all_goals
  try simp only [go_sem,n1,n2,n3,n4,z2] at z5
  all_goals
  obtain rfl:=AB h
  refine ⟨0,fun L hL => ?_⟩
  simp only [go_sem,wq,fz1,z2,fz3,fz4,z5]
def AAg:List Nat:=[0,1,2,3]
def AAh:CI:=⟨2,4,.seq (.region false [ VO 2 2 (.box (.v 0)),VO 3 3 (.mov (.c (.bool false)))]) (.seq (.region false [ PO 4 (.fldAddr 0 (.v 2)),PO 5 (.load false 1 (.s 0)),PO 6 (.load false 1 (.v 1)),PO 7 (.bin false .eql (.s 1) (.s 0)),VS 3 3 0]) (.ret)),[.t 3]⟩
noncomputable def t_87:List (Nat × Ax):=[]
noncomputable def nr:Ax:=Di t_87 AAh [.bor,.bor]
theorem s_87:AU Tryz.prog 94 nr:=AM _ rfl AP (by kernel_rfl:Af Tryz.prog 94 AAh AAg = true)
theorem M_87:nr.modes = [.bor,.bor]:=rfl
theorem AIo:nr.flat = true:=rfl
attribute [go_sem] M_87 AIo
theorem AHg {x:AJ} {t1:Int} {y_:Bool} (h:HM x t1 = some y_):nr.F [Ae x,.ptr 1 [.int .i64 t1] 0 0] = ⟨true,.bool y_,[.any,.any]⟩:=by
 refine Ay rfl ?_
 dsimp only [HM] at h
 obtain rfl:=AB h
 refine ⟨0,fun L hL => ?_⟩
 simp only [go_sem,AAh]
def Xf:IR:=.seq (.region false [ VO 6 9 (.bin false .lss (.v 5) (.v 4))]) (.seq (.cond (.v 6) (.skip) (.exit 0)) (.seq (.block 1 (.seq (.region false [ PM 10 5,VS 3 5 0]) (.test false [ PM 11 1,PM 12 0,PM 13 3,PO 14 (.ixAddr 2 (.s 1) (.s 0)),PO 15 (.load true 2 (.s 0)),PO 16 (.callv (.s 4) [(.s 0)])] (.s 0) (.seq (.region false [ PM 17 3,VS 2 4 0]) (.ret)) (.skip)))) (.region false [ PO 18 (.bin false .add (.v 5) (I6 1)),VS 5 8 0])))
def QK:List Bool:=[true,true,false,false,true,true,false]
def QJ:List Bool:=[false,false,false,false,false,false,false]
def QI:List Bool:=[false,false,true,false,false,false,false]
def xR:List Nat:=[0,1,4,5,7,8,9]
def ja:CI:=⟨2,7,.seq (.region false [ VO 2 4 (.mov (I6 0))]) (.seq (.seq (.region false [ PM 6 0,VO 4 7 (.len false (.s 0)),VO 5 8 (.mov (I6 0))]) (.block 0 (.loop QK QJ QI Xf))) (.seq (.region false [ VO 2 4 (.mov (.c (.int .i64 (-1))))]) (.ret))),[.t 2]⟩
noncomputable def zo:List (Nat × Ax):=[(94,nr)]
theorem qm:AR zo 94 = some nr:=rfl
noncomputable def nq:Ax:=Di zo ja [.bor,.bor]
theorem s_88:AU Tryz.prog 129 nq:=AM _ rfl (AG s_87 AP) (by kernel_rfl:Af Tryz.prog 129 ja xR = true)
theorem M_88:nq.modes = [.bor,.bor]:=rfl
theorem AIn:nq.flat = true:=rfl
attribute [go_sem] M_88 AIn qm
def WW (s_:List AJ) (c:Int) (t7:Int):Int → St
 | t8 => ⟨[.sl 2 (List.map Ae s_),.fn (.func 94) [] [.ptr 1 [.int .i64 c] 0 0],.any,.any,.int .i64 t7,.int .i64 t8,.any],[],[],true⟩
def Vs (s_:List AJ) (c:Int) (t7:Int):(Unit ⊕ Int) → EB
 | .inl y => (.exit 0,⟨[.any,.any,.any,.any,.any,.any,.any],[],[],true⟩)
 | .inr y => (.ret,⟨[.any,.any,.int .i64 y,.any,.any,.any,.any],[],[],true⟩)
attribute [local go_sem] ja WW Vs Xf QK QJ QI in
theorem DF {s_:List AJ} {c:Int} {t7:Int} {sgm_:Int} {rho_:Unit ⊕ Int} (h:AL (Aj s_ c t7) sgm_ = some rho_):∃ L0,∀ L,L0 ≤ L → Bk (Az (AR zo) L Xf) QK QJ QI L (WW s_ c t7 sgm_) = Vs s_ c t7 rho_:=by
 refine As (E:=WW s_ c t7) (R:=Vs s_ c t7) (fun y => by first | (intro c; cases c) | (rcases y with y | y <;> (intro c; cases c)) | (rcases y with y | y | y <;> (intro c; cases c))) ?_ h
 clear h
 intro t8 o_ h
 dsimp only [Aj] at h
 rcases AD h with ⟨z1,h⟩ | ⟨z1,h⟩
 ·try simp only [go_sem,n1,n2,n3,n4] at z1
  all_goals
  obtain ⟨z2,h⟩:=AF h
  have lz2:=Au z2
  have xz2:=AK Ae s_ lz2
  try simp only [go_sem] at lz2
  try simp only [go_sem] at xz2
  try simp only [go_sem,n1,n2,n3,n4,z1] at z2
  all_goals
  obtain ⟨y_3,z3,h⟩:=AC h
  have fz3:=AHg z3
  try simp only [go_sem,z1,z2] at fz3
  rcases AD h with ⟨z4,h⟩ | ⟨z4,h⟩
  all_goals
  try simp only [go_sem,n1,n2,n3,n4,z1,z2] at z4
  all_goals
  obtain rfl:=AB h
  refine ⟨0,fun L hL => ?_⟩
  simp only [go_sem,z1,z2,lz2,xz2,fz3,z4]
 ·try simp only [go_sem,n1,n2,n3,n4] at z1
  all_goals
  obtain rfl:=AB h
  refine ⟨0,fun L hL => ?_⟩
  simp only [go_sem,z1]
attribute [local go_sem] WW Vs QK QJ QI ja in
theorem AHf {s_:List AJ} {f_c0:Int} {y_:Int} (h:BI s_ f_c0 = some y_):nq.F [.sl 2 (List.map Ae s_),.fn (.func 94) [] [.ptr 1 [.int .i64 f_c0] 0 0]] = ⟨true,.int .i64 y_,[.any,.any]⟩:=by
 refine Ay rfl ?_
 dsimp only [BI] at h
 obtain ⟨y_5,z5,h⟩:=AC h
 obtain ⟨Lz5,ez5⟩:=DF z5
 rcases y_5 with y_5a | y_5b
 all_goals
 dsimp only at h
 obtain rfl:=AB h
 refine ⟨Lz5,fun L hL => ?_⟩
 have ez5:=ez5 L (by omega)
 try simp only [go_sem] at ez5
 simp only [go_sem,ez5]
def AAi:List Nat:=[0,1,4]
def AAj:CI:=⟨2,3,.seq (.region false [ VO 2 4 (.mov (.c (.bool false)))]) (.seq (.region false [ PM 5 0,PM 6 1,PO 7 (.call 129 [(.s 1),(.s 0)]),PO 8 (.bin false .geq (.s 0) (I6 0)),VS 2 4 0]) (.ret)),[.t 2]⟩
noncomputable def AEh:List (Nat × Ax):=[(129,nq)]
theorem ku:AR AEh 129 = some nq:=rfl
noncomputable def nn:Ax:=Di AEh AAj [.bor,.bor]
theorem s_89:AU Tryz.prog 93 nn:=AM _ rfl (AG s_88 AP) (by kernel_rfl:Af Tryz.prog 93 AAj AAi = true)
theorem M_89:nn.modes = [.bor,.bor]:=rfl
theorem AIm:nn.flat = true:=rfl
attribute [go_sem] M_89 AIm ku
theorem AHe {s_:List AJ} {f_c0:Int} {y_:Bool} (h:BF s_ f_c0 = some y_):nn.F [.sl 2 (List.map Ae s_),.fn (.func 94) [] [.ptr 1 [.int .i64 f_c0] 0 0]] = ⟨true,.bool y_,[.any,.any]⟩:=by
 refine Ay rfl ?_
 dsimp only [BF] at h
 obtain ⟨y_1,z1,h⟩:=AC h
 have fz1:=AHf z1
 try simp only [go_sem] at fz1
 obtain rfl:=AB h
 refine ⟨0,fun L hL => ?_⟩
 simp only [go_sem,AAj,fz1]
def ABt:List Nat:=[0,1,3,4]
def ABu:CI:=⟨2,4,.seq (.region false [ VO 2 3 (.box (.v 1)),VO 3 4 (.mov (.c (.bool false)))]) (.seq (.region false [ PM 5 0,PO 6 (.mkFn (.func 94) [] [(.v 2)]),PO 7 (.call 93 [(.s 1),(.s 0)]),VS 3 4 0]) (.ret)),[.t 3]⟩
noncomputable def AEg:List (Nat × Ax):=[(93,nn)]
theorem ql:AR AEg 93 = some nn:=rfl
noncomputable def fN:Ax:=Di AEg ABu [.bor,.bor]
theorem AFT:AU Tryz.prog 44 fN:=AM _ rfl (AG s_89 AP) (by kernel_rfl:Af Tryz.prog 44 ABu ABt = true)
theorem M_90:fN.modes = [.bor,.bor]:=rfl
theorem AIl:fN.flat = true:=rfl
attribute [go_sem] M_90 AIl ql
theorem zS {faults:List AJ} {i:Int} {y_:Bool} (h:GU faults i = some y_):fN.F [.sl 2 (List.map Ae faults),.int .i64 i] = ⟨true,.bool y_,[.any,.any]⟩:=by
 refine Ay rfl ?_
 dsimp only [GU] at h
 obtain ⟨y_1,z1,h⟩:=AC h
 have fz1:=AHe z1
 try simp only [go_sem] at fz1
 obtain rfl:=AB h
 refine ⟨0,fun L hL => ?_⟩
 simp only [go_sem,ABu,fz1]
def hY:IR:=.seq (.region false [ VO 11 20 (.bin false .lss (.v 10) (.v 9))]) (.seq (.cond (.v 11) (.skip) (.exit 0)) (.seq (.block 1 (.seq (.region false [ PM 21 10,PO 22 (.ixAddr 5 (.v 8) (.v 10)),PO 23 (.load true 5 (.s 0)),VO 7 9 (.alloc (.agg [.int .i64 (0),.str [],.str [],.int .i64 (0),.bool false])),VS 6 8 2,⟨.no,0,none,.store 5 (.v 7) (.s 0)⟩]) (.test false [ PM 24 1,PM 25 6,PO 26 (.call 44 [(.s 1),(.s 0)]),PO 27 (.un .not (.s 0))] (.s 0) (.region false [ PM 28 5,PO 29 (.load true 5 (.v 7)),PO 30 (.mkSl 5 (.agg [.int .i64 (0),.str [],.str [],.int .i64 (0),
 .bool false]) 1 [(0,(.s 0))]),PO 31 (.app 5 56 (.agg [.int .i64 (0),.str [],.str [],.int .i64 (0),.bool false]) (.s 2) (.s 0)),VS 5 7 0]) (.skip)))) (.region false [ PO 32 (.bin false .add (.v 10) (I6 1)),VS 10 19 0])))
def bU:List Bool:=[false,true,false,false,false,true,false,false,true,true,true,false]
def bT:List Bool:=[false,false,false,false,false,true,false,false,false,false,false,false]
def bS:List Bool:=[false,false,true,true,false,false,false,false,false,false,false,false]
def AGT:List Nat:=[0,1,4,5,6,7,8,9,17,18,19,20]
def ir9:CI:=⟨2,12,.seq (.region false [ VO 2 4 (.newnil 5),VO 3 5 (.mov (I6 0))]) (.seq (.seq (.region false [ PM 10 0,PM 11 1,PO 12 (.call 43 [(.s 1),(.s 0)]),VS 4 6 0]) (.test false [ PM 13 4,PO 14 (.bin false .neq (.s 0) (I6 0))] (.s 0) (.seq (.region false [ PM 15 4,VO 2 4 (.newnil 5),VS 3 5 0]) (.ret)) (.skip))) (.seq (.region false [ PO 16 (.mkSl 5 (.agg [.int .i64 (0),.str [],.str [],.int .i64 (0),.bool false]) 0 []),VS 5 7 0]) (.seq (.seq (.region false [ VO 8 17 (.mov (.v 0)),VO 9 18 (.len false (.v 8)),VO 10 19 (.mov (I6 0))]) (.block 0 (.loop bU bT
 bS hY))) (.seq (.region false [ PM 33 5,VS 2 4 0,VO 3 5 (.mov (I6 0))]) (.ret))))),[.t 2,.t 3]⟩
noncomputable def vR:List (Nat × Ax):=[(43,Yr),(44,fN)]
theorem qk:AR vR 43 = some Yr:=rfl
theorem qj:AR vR 44 = some fN:=rfl
noncomputable def nl:Ax:=Di vR ir9 [.bor,.bor]
theorem s_91:AU Tryz.prog 9 nl:=AM _ rfl (AG AAN (AG AFT AP)) (by kernel_rfl:Af Tryz.prog 9 ir9 AGT = true)
theorem M_91:nl.modes = [.bor,.bor]:=rfl
theorem AIk:nl.flat = true:=rfl
attribute [go_sem] M_91 AIk qk qj
def WV (faults:List AJ) (t17:List AA) (t18:Int):((List AA) × Int) → St
 | (out,t19) => ⟨[.any,.sl 2 (List.map Ae faults),.any,.any,.any,.own 3200000,.any,.any,.sl 5 (List.map AE t17),.int .i64 t18,.int .i64 t19,.any],[],[(3200000,⟨5,List.map AE out⟩)],true⟩
def Vr (faults:List AJ) (t17:List AA) (t18:Int) (y:(List AA)):EB:=(.exit 0,⟨[.any,.any,.any,.any,.any,.own 3200000,.any,.any,.any,.any,.any,.any],[],[(3200000,⟨5,List.map AE y⟩)],true⟩)
attribute [local go_sem] ir9 WV Vr hY bU bT bS in
theorem Kb {faults:List AJ} {t17:List AA} {t18:Int} {sgm_:(List AA) × Int} {rho_:(List AA)} (h:AL (Bd faults t17 t18) sgm_ = some rho_):∃ L0,∀ L,L0 ≤ L → Bk (Az (AR vR) L hY) bU bT bS L (WV faults t17 t18 sgm_) = Vr faults t17 t18 rho_:=by
 refine As (E:=WV faults t17 t18) (R:=Vr faults t17 t18) (fun y => by first | (intro c; cases c) | (rcases y with y | y <;> (intro c; cases c)) | (rcases y with y | y | y <;> (intro c; cases c))) ?_ h
 clear h
 rintro ⟨out,t19⟩ o_ h
 dsimp only [Bd] at h
 rcases AD h with ⟨z3,h⟩ | ⟨z3,h⟩
 ·try simp only [go_sem,n1,n2,n3,n4] at z3
  all_goals
  obtain ⟨z4,h⟩:=AF h
  have lz4:=Au z4
  have xz4:=AK AE t17 lz4
  try simp only [go_sem] at lz4
  try simp only [go_sem] at xz4
  try simp only [go_sem,n1,n2,n3,n4,z3] at z4
  all_goals
  obtain ⟨y_5,z5,h⟩:=AC h
  have fz5:=zS z5
  try simp only [go_sem,z3,z4] at fz5
  rcases AD h with ⟨z6,h⟩ | ⟨z6,h⟩
  ·try simp only [go_sem,n1,n2,n3,n4,z3,z4] at z6
   all_goals
   obtain ⟨z7,h⟩:=AF h
   try simp only [go_sem,n1,n2,n3,n4,z3,z4,z6] at z7
   all_goals
   obtain rfl:=AB h
   refine ⟨0,fun L hL => ?_⟩
   simp only [go_sem,z3,z4,lz4,xz4,fz5,z6,z7]
  ·try simp only [go_sem,n1,n2,n3,n4,z3,z4] at z6
   all_goals
   obtain rfl:=AB h
   refine ⟨0,fun L hL => ?_⟩
   simp only [go_sem,z3,z4,lz4,xz4,fz5,z6]
 ·try simp only [go_sem,n1,n2,n3,n4] at z3
  all_goals
  obtain rfl:=AB h
  refine ⟨0,fun L hL => ?_⟩
  simp only [go_sem,z3]
attribute [local go_sem] ir9 WV Vr bU bT bS in
theorem zR {list:List AA} {faults:List AJ} {y_:(List AA) × Int} (h:CM list faults = some y_):nl.F [.sl 5 (List.map AE list),.sl 2 (List.map Ae faults)] = ⟨true,.tup [.fresh 5 (List.map AE y_.1),.int .i64 y_.2],[.any,.any]⟩:=by
 refine Ay (by simp only [Fo,Fu,GQ,List.all_cons,List.all_nil,Bool.and_self,Bx (f:=AE) (fun _ => rfl)]) ?_
 dsimp only [CM] at h
 obtain ⟨y_1,z1,h⟩:=AC h
 have fz1:=ul z1
 try simp only [go_sem] at fz1
 rcases AD h with ⟨z2,h⟩ | ⟨z2,h⟩
 ·try simp only [go_sem,n1,n2,n3,n4] at z2
  all_goals
  obtain rfl:=AB h
  refine ⟨0,fun L hL => ?_⟩
  simp only [go_sem,fz1,z2]
 ·try simp only [go_sem,n1,n2,n3,n4] at z2
  all_goals
  obtain ⟨y_8,z8,h⟩:=AC h
  obtain ⟨Lz8,ez8⟩:=Kb z8
  obtain rfl:=AB h
  refine ⟨Lz8,fun L hL => ?_⟩
  have ez8:=ez8 L (by omega)
  try simp only [go_sem,z2] at ez8
  simp only [go_sem,fz1,z2,ez8]
def ABs:List Nat:=[0,1,4]
def wo:CI:=⟨2,3,.seq (.region false [ VO 2 4 (.mov (I6 0))]) (.seq (.test false [ PM 5 0,PO 6 (.call 37 [(.s 0)]),PO 7 (.un .not (.s 0))] (.s 0) (.seq (.region false [ VO 2 4 (.mov (I6 1))]) (.ret)) (.skip)) (.seq (.test false [ PM 8 1,PM 9 0,PO 10 (.len false (.s 0)),PO 11 (.call 62 [(.s 2),(.s 0)]),PO 12 (.un .not (.s 0))] (.s 0) (.seq (.region false [ VO 2 4 (.mov (I6 2))]) (.ret)) (.skip)) (.seq (.region false [ VO 2 4 (.mov (I6 0))]) (.ret)))),[.t 2]⟩
noncomputable def zn:List (Nat × Ax):=[(37,Yt),(62,Tg)]
theorem qi:AR zn 37 = some Yt:=rfl
theorem qh:AR zn 62 = some Tg:=rfl
noncomputable def Yq:Ax:=Di zn wo [.bor,.bor]
theorem AAM:AU Tryz.prog 45 Yq:=AM _ rfl (AG AAP (AG vt AP)) (by kernel_rfl:Af Tryz.prog 45 wo ABs = true)
theorem M_92:Yq.modes = [.bor,.bor]:=rfl
theorem AIj:Yq.flat = true:=rfl
attribute [go_sem] M_92 AIj qi qh
theorem uk {list:List AA} {faults:List AJ} {y_:Int} (h:Fw list faults = some y_):Yq.F [.sl 5 (List.map AE list),.sl 2 (List.map Ae faults)] = ⟨true,.int .i64 y_,[.any,.any]⟩:=by
 refine Ay rfl ?_
 dsimp only [Fw] at h
 obtain ⟨y_1,z1,h⟩:=AC h
 have fz1:=ur z1
 try simp only [go_sem] at fz1
 rcases AD h with ⟨z2,h⟩ | ⟨z2,h⟩
 ·try simp only [go_sem,n1,n2,n3,n4] at z2
  all_goals
  obtain rfl:=AB h
  refine ⟨0,fun L hL => ?_⟩
  simp only [go_sem,wo,fz1,z2]
 ·try simp only [go_sem,n1,n2,n3,n4] at z2
  all_goals
  obtain ⟨y_3,z3,h⟩:=AC h
  have fz3:=fj z3
  try simp only [go_sem,z2] at fz3
  rcases AD h with ⟨z4,h⟩ | ⟨z4,h⟩
  all_goals
  try simp only [go_sem,n1,n2,n3,n4,z2] at z4
  all_goals
  obtain rfl:=AB h
  refine ⟨0,fun L hL => ?_⟩
  simp only [go_sem,wo,fz1,z2,fz3,z4]
def cC:IR:=.seq (.test false [ PM 6 3,PM 7 0,PO 8 (.len false (.s 0)),PO 9 (.bin false .lss (.s 2) (.s 0))] (.s 0) (.skip) (.exit 0)) (.seq (.block 1 (.test false [ PM 12 0,PM 13 3,PO 14 (.ixAddr 2 (.s 1) (.s 0)),PO 15 (.fldAddr 0 (.s 0)),PO 16 (.load false 1 (.s 0)),PM 17 1,PO 18 (.bin false .eql (.s 1) (.s 0))] (.s 0) (.seq (.region false [ VO 2 4 (.mov (.c (.bool true)))]) (.ret)) (.skip))) (.region false [ PM 10 3,PO 11 (.bin false .add (.s 0) (I6 1)),VS 3 5 0]))
def VC:List Bool:=[true,true,false,true]
def VB:List Bool:=[false,false,false,false]
def VA:List Bool:=[false,false,true,false]
def ABr:List Nat:=[0,1,4,5]
def wn:CI:=⟨2,4,.seq (.region false [ VO 2 4 (.mov (.c (.bool false)))]) (.seq (.seq (.region false [ VO 3 5 (.mov (I6 0))]) (.block 0 (.loop VC VB VA cC))) (.seq (.region false [ VO 2 4 (.mov (.c (.bool false)))]) (.ret))),[.t 2]⟩
noncomputable def AEf:List (Nat × Ax):=[]
noncomputable def fM:Ax:=Di AEf wn [.bor,.bor]
theorem AFS:AU Tryz.prog 46 fM:=AM _ rfl AP (by kernel_rfl:Af Tryz.prog 46 wn ABr = true)
theorem M_93:fM.modes = [.bor,.bor]:=rfl
theorem AIi:fM.flat = true:=rfl
attribute [go_sem] M_93 AIi
def WU (faults:List AJ) (index:Int):Int → St
 | i => ⟨[.sl 2 (List.map Ae faults),.int .i64 index,.any,.int .i64 i],[],[],true⟩
def Vq (faults:List AJ) (index:Int):(Unit ⊕ Bool) → EB
 | .inl y => (.exit 0,⟨[.any,.any,.any,.any],[],[],true⟩)
 | .inr y => (.ret,⟨[.any,.any,.bool y,.any],[],[],true⟩)
attribute [local go_sem] wn WU Vq cC VC VB VA in
theorem PW {faults:List AJ} {index:Int} {sgm_:Int} {rho_:Unit ⊕ Bool} (h:AL (Ff faults index) sgm_ = some rho_):∃ L0,∀ L,L0 ≤ L → Bk (Az (AR AEf) L cC) VC VB VA L (WU faults index sgm_) = Vq faults index rho_:=by
 refine As (E:=WU faults index) (R:=Vq faults index) (fun y => by first | (intro c; cases c) | (rcases y with y | y <;> (intro c; cases c)) | (rcases y with y | y | y <;> (intro c; cases c))) ?_ h
 clear h
 intro i o_ h
 dsimp only [Ff] at h
 rcases AD h with ⟨z1,h⟩ | ⟨z1,h⟩
 ·try simp only [go_sem,n1,n2,n3,n4] at z1
  all_goals
  obtain ⟨z2,h⟩:=AF h
  have lz2:=Au z2
  have xz2:=AK Ae faults lz2
  try simp only [go_sem] at lz2
  try simp only [go_sem] at xz2
  try simp only [go_sem,n1,n2,n3,n4,z1] at z2
  all_goals
  rcases AD h with ⟨z3,h⟩ | ⟨z3,h⟩
  all_goals
  try simp only [go_sem,n1,n2,n3,n4,z1,z2] at z3
  all_goals
  obtain rfl:=AB h
  refine ⟨0,fun L hL => ?_⟩
  simp only [go_sem,z1,z2,lz2,xz2,z3]
 ·try simp only [go_sem,n1,n2,n3,n4] at z1
  all_goals
  obtain rfl:=AB h
  refine ⟨0,fun L hL => ?_⟩
  simp only [go_sem,z1]
attribute [local go_sem] WU Vq VC VB VA wn in
theorem zQ {faults:List AJ} {index:Int} {y_:Bool} (h:IA faults index = some y_):fM.F [.sl 2 (List.map Ae faults),.int .i64 index] = ⟨true,.bool y_,[.any,.any]⟩:=by
 refine Ay rfl ?_
 dsimp only [IA] at h
 obtain ⟨y_4,z4,h⟩:=AC h
 obtain ⟨Lz4,ez4⟩:=PW z4
 rcases y_4 with y_4a | y_4b
 all_goals
 dsimp only at h
 obtain rfl:=AB h
 refine ⟨Lz4,fun L hL => ?_⟩
 have ez4:=ez4 L (by omega)
 try simp only [go_sem] at ez4
 simp only [go_sem,ez4]
def cQ:IR:=.seq (.test false [ PM 16 6,PM 17 0,PO 18 (.len false (.s 0)),PO 19 (.bin false .lss (.s 2) (.s 0))] (.s 0) (.skip) (.exit 0)) (.seq (.block 1 (.test false [ PM 22 1,PM 23 6,PO 24 (.call 46 [(.s 1),(.s 0)]),PO 25 (.un .not (.s 0))] (.s 0) (.region false [ PM 26 5,PM 27 0,PM 28 6,PO 29 (.ixAddr 5 (.s 1) (.s 0)),PO 30 (.load true 5 (.s 0)),PO 31 (.mkSl 5 (.agg [.int .i64 (0),.str [],.str [],.int .i64 (0),.bool false]) 1 [(0,(.s 0))]),PO 32 (.app 5 56 (.agg [.int .i64 (0),.str [],.str [],.int .i64 (0),.bool false]) (.s 5) (.s 0)),VS 5 7 0]) (.skip)))
 (.region false [ PM 20 6,PO 21 (.bin false .add (.s 0) (I6 1)),VS 6 8 0]))
def Vj:List Bool:=[true,true,false,false,false,true,true]
def Vi:List Bool:=[false,false,false,false,false,true,false]
def Vh:List Bool:=[false,false,true,true,false,false,false]
def ACk:List Nat:=[0,1,4,5,6,7,8]
def xy:CI:=⟨2,7,.seq (.region false [ VO 2 4 (.newnil 5),VO 3 5 (.mov (I6 0))]) (.seq (.region false [ PM 9 0,PM 10 1,PO 11 (.call 45 [(.s 1),(.s 0)]),VS 4 6 0]) (.seq (.test false [ PM 12 4,PO 13 (.bin false .neq (.s 0) (I6 0))] (.s 0) (.seq (.region false [ PM 14 4,VO 2 4 (.newnil 5),VS 3 5 0]) (.ret)) (.skip)) (.seq (.region false [ PO 15 (.mkSl 5 (.agg [.int .i64 (0),.str [],.str [],.int .i64 (0),.bool false]) 0 []),VS 5 7 0]) (.seq (.seq (.region false [ VO 6 8 (.mov (I6 0))]) (.block 0 (.loop Vj Vi Vh cQ))) (.seq (.region false [ PM 33 5,VS 2 4
 0,VO 3 5 (.mov (I6 0))]) (.ret)))))),[.t 2,.t 3]⟩
noncomputable def vQ:List (Nat × Ax):=[(45,Yq),(46,fM)]
theorem qg:AR vQ 45 = some Yq:=rfl
theorem qf:AR vQ 46 = some fM:=rfl
noncomputable def nk:Ax:=Di vQ xy [.bor,.bor]
theorem s_94:AU Tryz.prog 10 nk:=AM _ rfl (AG AAM (AG AFS AP)) (by kernel_rfl:Af Tryz.prog 10 xy ACk = true)
theorem M_94:nk.modes = [.bor,.bor]:=rfl
theorem AIh:nk.flat = true:=rfl
attribute [go_sem] M_94 AIh qg qf
def WT (list:List AA) (faults:List AJ):((List AA) × Int) → St
 | (out,i) => ⟨[.sl 5 (List.map AE list),.sl 2 (List.map Ae faults),.any,.any,.any,.own 3200000,.int .i64 i],[],[(3200000,⟨5,List.map AE out⟩)],true⟩
def Vp (list:List AA) (faults:List AJ) (y:(List AA)):EB:=(.exit 0,⟨[.any,.any,.any,.any,.any,.own 3200000,.any],[],[(3200000,⟨5,List.map AE y⟩)],true⟩)
attribute [local go_sem] xy WT Vp cQ Vj Vi Vh in
theorem KW {list:List AA} {faults:List AJ} {sgm_:(List AA) × Int} {rho_:(List AA)} (h:AL (CV list faults) sgm_ = some rho_):∃ L0,∀ L,L0 ≤ L → Bk (Az (AR vQ) L cQ) Vj Vi Vh L (WT list faults sgm_) = Vp list faults rho_:=by
 refine As (E:=WT list faults) (R:=Vp list faults) (fun y => by first | (intro c; cases c) | (rcases y with y | y <;> (intro c; cases c)) | (rcases y with y | y | y <;> (intro c; cases c))) ?_ h
 clear h
 rintro ⟨out,i⟩ o_ h
 dsimp only [CV] at h
 rcases AD h with ⟨z3,h⟩ | ⟨z3,h⟩
 ·try simp only [go_sem,n1,n2,n3,n4] at z3
  all_goals
  obtain ⟨y_4,z4,h⟩:=AC h
  have fz4:=zQ z4
  try simp only [go_sem,z3] at fz4
  rcases AD h with ⟨z5,h⟩ | ⟨z5,h⟩
  ·try simp only [go_sem,n1,n2,n3,n4,z3] at z5
   all_goals
   obtain ⟨z6,h⟩:=AF h
   have lz6:=Au z6
   have xz6:=AK AE list lz6
   try simp only [go_sem] at lz6
   try simp only [go_sem] at xz6
   try simp only [go_sem,n1,n2,n3,n4,z3,z5] at z6
   all_goals
   obtain ⟨z7,h⟩:=AF h
   try simp only [go_sem,n1,n2,n3,n4,z3,z5,z6] at z7
   all_goals
   obtain rfl:=AB h
   refine ⟨0,fun L hL => ?_⟩
   simp only [go_sem,z3,fz4,z5,z6,lz6,xz6,z7]
  ·try simp only [go_sem,n1,n2,n3,n4,z3] at z5
   all_goals
   obtain rfl:=AB h
   refine ⟨0,fun L hL => ?_⟩
   simp only [go_sem,z3,fz4,z5]
 ·try simp only [go_sem,n1,n2,n3,n4] at z3
  all_goals
  obtain rfl:=AB h
  refine ⟨0,fun L hL => ?_⟩
  simp only [go_sem,z3]
attribute [local go_sem] xy WT Vp Vj Vi Vh in
theorem AHc {list:List AA} {faults:List AJ} {y_:(List AA) × Int} (h:EA list faults = some y_):nk.F [.sl 5 (List.map AE list),.sl 2 (List.map Ae faults)] = ⟨true,.tup [.fresh 5 (List.map AE y_.1),.int .i64 y_.2],[.any,.any]⟩:=by
 refine Ay (by simp only [Fo,Fu,GQ,List.all_cons,List.all_nil,Bool.and_self,Bx (f:=AE) (fun _ => rfl)]) ?_
 dsimp only [EA] at h
 obtain ⟨y_1,z1,h⟩:=AC h
 have fz1:=uk z1
 try simp only [go_sem] at fz1
 rcases AD h with ⟨z2,h⟩ | ⟨z2,h⟩
 ·try simp only [go_sem,n1,n2,n3,n4] at z2
  all_goals
  obtain rfl:=AB h
  refine ⟨0,fun L hL => ?_⟩
  simp only [go_sem,fz1,z2]
 ·try simp only [go_sem,n1,n2,n3,n4] at z2
  all_goals
  obtain ⟨y_8,z8,h⟩:=AC h
  obtain ⟨Lz8,ez8⟩:=KW z8
  obtain rfl:=AB h
  refine ⟨Lz8,fun L hL => ?_⟩
  have ez8:=ez8 L (by omega)
  try simp only [go_sem,z2] at ez8
  simp only [go_sem,fz1,z2,ez8]
def AAd:List Nat:=[0,1,2]
def AAe:CI:=⟨1,3,.seq (.region false [ VO 1 1 (.box (.v 0)),VO 2 2 (.mov (.c (.str [])))]) (.seq (.region false [ PO 3 (.fldAddr 2 (.v 1)),PO 4 (.load false 1 (.s 0)),VS 2 2 0]) (.ret)),[.t 2]⟩
noncomputable def t_95:List (Nat × Ax):=[]
noncomputable def nj:Ax:=Di t_95 AAe [.bor]
theorem s_95:AU Tryz.prog 96 nj:=AM _ rfl AP (by kernel_rfl:Af Tryz.prog 96 AAe AAd = true)
theorem M_95:nj.modes = [.bor]:=rfl
theorem AIg:nj.flat = true:=rfl
attribute [go_sem] M_95 AIg
theorem AHb {e_:AA} {y_:(List UInt8)} (h:Hn e_ = some y_):nj.F [AE e_] = ⟨true,.str y_,[.any]⟩:=by
 refine Ay rfl ?_
 dsimp only [Hn] at h
 obtain rfl:=AB h
 refine ⟨0,fun L hL => ?_⟩
 simp only [go_sem,AAe]
theorem vp:AU Tryz.prog 130 Jw:=tk
theorem gI:AU Tryz.prog 131 GG:=eW
def bX:IR:=.seq (.region false [ VO 8 12 (.bin false .lss (.v 7) (.v 6))]) (.seq (.cond (.v 8) (.skip) (.exit 0)) (.seq (.block 1 (.seq (.region false [ PO 13 (.ixAddr 5 (.v 5) (.v 7)),PO 14 (.load true 5 (.s 0)),VO 4 7 (.alloc (.agg [.int .i64 (0),.str [],.str [],.int .i64 (0),.bool false])),⟨.no,0,none,.store 5 (.v 4) (.s 0)⟩]) (.region false [ PM 15 3,PM 16 1,PO 17 (.load true 5 (.v 4)),PO 18 (.callv (.s 1) [(.s 0)]),PO 19 (.mkSl 1 (.str []) 1 [(0,(.s 0))]),PO 20 (.app 1 16 (.str []) (.s 4) (.s 0)),VS 3 5 0]))) (.region false [ PO 21 (.bin false .add (.v 7) (I6 1)),
 VS 7 11 0])))
def UA:List Bool:=[false,true,false,true,false,true,true,true,false]
def Tz:List Bool:=[false,false,false,true,false,false,false,false,false]
def Tx:List Bool:=[false,false,true,false,false,false,false,false,false]
def AAf:List Nat:=[0,1,4,5,7,9,10,11,12]
def wS:CI:=⟨2,9,.seq (.region false [ VO 2 4 (.newnil 1)]) (.seq (.region false [ PO 8 (.mkSl 1 (.str []) 0 []),VS 3 5 0]) (.seq (.seq (.region false [ VO 5 9 (.mov (.v 0)),VO 6 10 (.len false (.v 5)),VO 7 11 (.mov (I6 0))]) (.block 0 (.loop UA Tz Tx bX))) (.seq (.region false [ PM 22 3,PO 23 (.call 130 [(.s 0)])]) (.seq (.region false [ PM 24 3,PO 25 (.call 131 [(.s 0)]),VS 2 4 0]) (.ret))))),[.t 2]⟩
noncomputable def pb:List (Nat × Ax):=[(96,nj),(130,Jw),(131,GG)]
theorem qe:AR pb 96 = some nj:=rfl
theorem kt:AR pb 130 = some Jw:=rfl
theorem kr:AR pb 131 = some GG:=rfl
noncomputable def ni:Ax:=Di pb wS [.bor,.bor]
theorem s_98:AU Tryz.prog 95 ni:=AM _ rfl (AG s_95 (AG vp (AG gI AP))) (by kernel_rfl:Af Tryz.prog 95 wS AAf = true)
theorem M_98:ni.modes = [.bor,.bor]:=rfl
theorem AIf:ni.flat = true:=rfl
attribute [go_sem] M_98 AIf qe kt kr
def WS (t9:List AA) (t10:Int):((List (List UInt8)) × Int) → St
 | (out,t11) => ⟨[.any,.fn (.func 96) [] [],.any,.own 3200000,.any,.sl 5 (List.map AE t9),.int .i64 t10,.int .i64 t11,.any],[],[(3200000,⟨1,List.map AV.str out⟩)],true⟩
def Vo (t9:List AA) (t10:Int) (y:(List (List UInt8))):EB:=(.exit 0,⟨[.any,.any,.any,.own 3200000,.any,.any,.any,.any,.any],[],[(3200000,⟨1,List.map AV.str y⟩)],true⟩)
attribute [local go_sem] wS WS Vo bX UA Tz Tx in
theorem Hg {t9:List AA} {t10:Int} {sgm_:(List (List UInt8)) × Int} {rho_:(List (List UInt8))} (h:AL (BR t9 t10) sgm_ = some rho_):∃ L0,∀ L,L0 ≤ L → Bk (Az (AR pb) L bX) UA Tz Tx L (WS t9 t10 sgm_) = Vo t9 t10 rho_:=by
 refine As (E:=WS t9 t10) (R:=Vo t9 t10) (fun y => by first | (intro c; cases c) | (rcases y with y | y <;> (intro c; cases c)) | (rcases y with y | y | y <;> (intro c; cases c))) ?_ h
 clear h
 rintro ⟨out,t11⟩ o_ h
 dsimp only [BR] at h
 rcases AD h with ⟨z1,h⟩ | ⟨z1,h⟩
 ·try simp only [go_sem,n1,n2,n3,n4] at z1
  all_goals
  obtain ⟨z2,h⟩:=AF h
  have lz2:=Au z2
  have xz2:=AK AE t9 lz2
  try simp only [go_sem] at lz2
  try simp only [go_sem] at xz2
  try simp only [go_sem,n1,n2,n3,n4,z1] at z2
  all_goals
  obtain ⟨y_3,z3,h⟩:=AC h
  have fz3:=AHb z3
  try simp only [go_sem,z1,z2] at fz3
  obtain ⟨z4,h⟩:=AF h
  try simp only [go_sem,n1,n2,n3,n4,z1,z2] at z4
  all_goals
  obtain rfl:=AB h
  refine ⟨0,fun L hL => ?_⟩
  simp only [go_sem,z1,z2,lz2,xz2,fz3,z4]
 ·try simp only [go_sem,n1,n2,n3,n4] at z1
  all_goals
  obtain rfl:=AB h
  refine ⟨0,fun L hL => ?_⟩
  simp only [go_sem,z1]
attribute [local go_sem] WS Vo UA Tz Tx wS in
theorem AHa {list:List AA} {y_:(List (List UInt8))} (h:Bh list = some y_):ni.F [.sl 5 (List.map AE list),.fn (.func 96) [] []] = ⟨true,.fresh 1 (List.map AV.str y_),[.any,.any]⟩:=by
 refine Ay (by simp only [Fo,Fu,GQ,List.all_cons,List.all_nil,Bool.and_self,Bx (f:=AV.str) (fun _ => rfl)]) ?_
 dsimp only [Bh] at h
 obtain ⟨y_5,z5,h⟩:=AC h
 obtain ⟨Lz5,ez5⟩:=Hg z5
 obtain ⟨y_6,z6,h⟩:=AC h
 have fz6:=uj z6
 try simp only [go_sem] at fz6
 obtain ⟨y_7,z7,h⟩:=AC h
 have fz7:=fh z7
 try simp only [go_sem] at fz7
 obtain rfl:=AB h
 refine ⟨Lz5,fun L hL => ?_⟩
 have ez5:=ez5 L (by omega)
 try simp only [go_sem] at ez5
 simp only [go_sem,fz6,fz7,ez5]
def xD:List Nat:=[0,2]
def tL:CI:=⟨1,2,.seq (.region false [ VO 1 2 (.mov (I6 0))]) (.seq (.test false [ PM 3 0,PO 4 (.bin false .lss (.s 0) (I6 0))] (.s 0) (.seq (.region false [ PM 5 0,PO 6 (.un .neg (.s 0)),VS 1 2 0]) (.ret)) (.skip)) (.seq (.region false [ PM 7 0,VS 1 2 0]) (.ret))),[.t 1]⟩
noncomputable def t_99:List (Nat × Ax):=[]
noncomputable def nh:Ax:=Di t_99 tL [.bor]
theorem s_99:AU Tryz.prog 150 nh:=AM _ rfl AP (by kernel_rfl:Af Tryz.prog 150 tL xD = true)
theorem M_99:nh.modes = [.bor]:=rfl
theorem AIe:nh.flat = true:=rfl
attribute [go_sem] M_99 AIe
theorem AHZ {n:Int} {y_:Int} (h:Qo n = some y_):nh.F [.int .i64 n] = ⟨true,.int .i64 y_,[.any]⟩:=by
 refine Ay rfl ?_
 dsimp only [Qo] at h
 rcases AD h with ⟨z1,h⟩ | ⟨z1,h⟩
 all_goals
 try simp only [go_sem,n1,n2,n3,n4] at z1
 all_goals
 obtain rfl:=AB h
 refine ⟨0,fun L hL => ?_⟩
 simp only [go_sem,tL,z1]
def Xe:IR:=.seq (.test false [ PM 5 1,PO 6 (.bin false .neq (.s 0) (I6 0))] (.s 0) (.skip) (.exit 0)) (.block 1 (.anyo 4 [ SO 0 7 (.mov (.v 1)),SO 1 8 (.mov (.v 0)),SO 2 9 (.mov (.v 1)),SO 3 10 (.bin false .rem (.s 1) (.s 2)),VS 0 0 0,VS 1 1 3] [] .skip))
def QH:List Bool:=[true,true,false]
def QG:List Bool:=[true,false,false]
def QF:List Bool:=[false,false,true]
def xP:List Nat:=[0,1,4]
def jZ:CI:=⟨2,3,.seq (.region false [ VO 2 4 (.mov (I6 0))]) (.seq (.block 0 (.loop QH QG QF Xe)) (.seq (.region false [ PM 11 0,PO 12 (.call 150 [(.s 0)]),VS 2 4 0]) (.ret))),[.t 2]⟩
noncomputable def pq:List (Nat × Ax):=[(150,nh)]
theorem gl:AR pq 150 = some nh:=rfl
noncomputable def ab:Ax:=Di pq jZ [.bor,.bor]
theorem AGG:AU Tryz.prog 132 ab:=AM _ rfl (AG s_99 AP) (by kernel_rfl:Af Tryz.prog 132 jZ xP = true)
theorem AHY:ab.modes = [.bor,.bor]:=rfl
theorem AER:ab.flat = true:=rfl
attribute [go_sem] AHY AER gl
def Rt :(Int × Int) → St
 | (a,b) => ⟨[.int .i64 a,.int .i64 b,.any],[],[],true⟩
def RX  (y:Int):EB:=(.exit 0,⟨[.int .i64 y,.any,.any],[],[],true⟩)
attribute [local go_sem] jZ Rt RX Xe QH QG QF in
theorem Xr  {sgm_:Int × Int} {rho_:Int} (h:AL (Kn) sgm_ = some rho_):∃ L0,∀ L,L0 ≤ L → Bk (Az (AR pq) L Xe) QH QG QF L (Rt sgm_) = RX rho_:=by
 refine As (E:=Rt) (R:=RX) (fun y => by first | (intro c; cases c) | (rcases y with y | y <;> (intro c; cases c)) | (rcases y with y | y | y <;> (intro c; cases c))) ?_ h
 clear h
 rintro ⟨a,b⟩ o_ h
 dsimp only [Kn] at h
 rcases AD h with ⟨z1,h⟩ | ⟨z1,h⟩
 ·try simp only [go_sem,n1,n2,n3,n4] at z1
  all_goals
  obtain ⟨z2,h⟩:=AF h
  try simp only [go_sem,n1,n2,n3,n4,z1] at z2
  all_goals
  obtain rfl:=AB h
  refine ⟨0,fun L hL => ?_⟩
  simp only [go_sem,z1,z2]
 ·try simp only [go_sem,n1,n2,n3,n4] at z1
  all_goals
  obtain rfl:=AB h
  refine ⟨0,fun L hL => ?_⟩
  simp only [go_sem,z1]
attribute [local go_sem] Rt RX QH QG QF jZ in
theorem ADh {a:Int} {b:Int} {y_:Int} (h:Qn a b = some y_):ab.F [.int .i64 a,.int .i64 b] = ⟨true,.int .i64 y_,[.any,.any]⟩:=by
 refine Ay rfl ?_
 dsimp only [Qn] at h
 obtain ⟨y_3,z3,h⟩:=AC h
 obtain ⟨Lz3,ez3⟩:=Xr z3
 obtain ⟨y_4,z4,h⟩:=AC h
 have fz4:=AHZ z4
 try simp only [go_sem] at fz4
 obtain rfl:=AB h
 refine ⟨Lz3,fun L hL => ?_⟩
 have ez3:=ez3 L (by omega)
 try simp only [go_sem] at ez3
 simp only [go_sem,fz4,ez3]
def AAc:List Nat:=[0,1,4,5]
def wR:CI:=⟨2,4,.seq (.region false [ VO 2 4 (.alloc (.agg [.int .i64 (0),.int .i64 (0)]))]) (.seq (.region false [ PM 6 0,PM 7 1,PO 8 (.call 132 [(.s 1),(.s 0)]),VS 3 5 0]) (.seq (.test false [ PM 9 1,PO 10 (.bin false .lss (.s 0) (I6 0))] (.s 0) (.region false [ PM 11 3,PO 12 (.un .neg (.s 0)),VS 3 5 0]) (.skip)) (.seq (.anyo 7 [ SO 0 13 (.mov (.v 0)),SO 1 14 (.mov (.v 3)),SO 2 15 (.bin false .quo (.s 0) (.s 1)),SO 3 16 (.mov (.v 1)),SO 4 17 (.mov (.v 3)),SO 5 18 (.bin false .quo (.s 3) (.s 4)),SO 6 19 (.pur (.build [.int .i64 (0),.int .i64 (0)] [(0,1,(.s 2)),(1,1,
 (.s 5))])),⟨.no,0,none,.store 2 (.v 2) (.s 6)⟩] [] .skip) (.ret)))),[.cell true 2 2]⟩
noncomputable def yp:List (Nat × Ax):=[(132,ab)]
theorem gj:AR yp 132 = some ab:=rfl
noncomputable def aZ:Ax:=OE yp wR [.bor,.bor]
theorem AGF:AU Tryz.prog 97 aZ:=Bb _ (AG AGG AP) (by kernel_rfl:Af Tryz.prog 97 wR AAc = true)
theorem AHX:aZ.modes = [.bor,.bor]:=rfl
theorem AEQ:aZ.flat = false:=rfl
attribute [go_sem] AHX AEQ gj
theorem ADg {num:Int} {den:Int} {y_:Ac} (h:Jf num den = some y_):aZ.F [.int .i64 num,.int .i64 den] = ⟨true,BQ y_,[.any,.any]⟩:=by
 refine FC ?_
 dsimp only [Jf] at h
 obtain ⟨y_1,z1,h⟩:=AC h
 have fz1:=ADh z1
 try simp only [go_sem] at fz1
 rcases AD h with ⟨z2,h⟩ | ⟨z2,h⟩
 ·try simp only [go_sem,n1,n2,n3,n4] at z2
  all_goals
  obtain ⟨z3,h⟩:=AF h
  try simp only [go_sem,n1,n2,n3,n4,z2] at z3
  all_goals
  obtain rfl:=AB h
  refine ⟨0,fun L hL => ?_⟩
  simp only [go_sem,wR,fz1,z2,z3]
 ·try simp only [go_sem,n1,n2,n3,n4] at z2
  all_goals
  obtain ⟨z4,h⟩:=AF h
  try simp only [go_sem,n1,n2,n3,n4,z2] at z4
  all_goals
  obtain rfl:=AB h
  refine ⟨0,fun L hL => ?_⟩
  simp only [go_sem,wR,fz1,z2,z4]
end Go.Proofs.YtfaenphcgfocnaaGreatDoor
