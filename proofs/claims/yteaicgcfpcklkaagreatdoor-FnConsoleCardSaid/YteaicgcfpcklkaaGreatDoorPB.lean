/- Lemmas and walks, several texts in one. No condition. -/
import Derived.Test.YteaicgcfpcklkaaGreatDoorPA
import Derived.Test.YteaicgcfpcklkaaGreatDoorRows
import Derived.WalkKit
set_option linter.unusedSimpArgs false
set_option linter.unusedVariables false
set_option maxRecDepth 10000
noncomputable section
namespace Go.Proofs.YteaicgcfpcklkaaGreatDoor
open Go Go.RowKit
def AIW:List Nat:=[0,2,3,4]
def ACg:CN:=⟨1,4,.seq (.region false [ VO 1 2 (.mov (.c (.cv (.pointer none)))),VO 2 3 (.mov (I6 0))]) (.seq (.test false [ PM 5 0,PO 6 (.len true S0),PO 7 (B4 S0 (I6 4000))] S0 (.seq (.region false [ PO 8 (.build [.str [],.int .i64 (0),.int .i64 (0),.sl 3 []] []),PO 9 (.box S0),VS 1 2 0,VO 2 3 (.mov (I6 5))]) (.ret)) (.skip)) (.seq (.region false [ PM 10 0,PO 11 (.call 66 [S0]),VS 3 4 0]) (.seq (.test false [ PM 12 3,PO 13 (.nilck S0),PO 14 (F1 S0),PO 15 (L1 S0),PM 16 0,PO 17 (.len true S0),PO 18 (.bin
 false .neq S2 S0)] S0 (.seq (.region false [ PM 19 3,VS 1 2 0,VO 2 3 (.mov (I6 8))]) (.ret)) (.skip)) (.seq (.region false [ PM 20 3,VS 1 2 0,VO 2 3 (.mov (I6 0))]) (.ret))))),[.t 1,.t 2]⟩
def AEr:List (Nat×Ak):=[(66,Gl)]
theorem sA:AP AEr 66=some Gl:=rfl
def dt:Ak:=bH AEr ACg [.bor]
theorem AMu:AQ Tryz.prog 33 dt:=DH _ (AF Ye AL) (by kernel_rfl:Ab Tryz.prog 33 ACg AIW=true)
theorem AOT:dt.modes=[.bor]:=rfl
theorem AKY:dt.flat=false:=rfl
attribute [go_sem] AOT AKY sA
theorem AJo{s_:List UInt8}{y_:Hu×Int}(h:JO s_=some y_):dt.F [.str s_]=⟨true,.tup [.mem 4 [FE y_.1] 0,.int .i64 y_.2],[.any]⟩:=by
 refine Jn ?_;dsimp only[JO] at h;rcases AE h with⟨z1,h⟩|⟨z1,h⟩
 ·try simp only[go_sem,N1] at z1
  obtain rfl:=AA h;refine⟨0,fun L hL=>?_⟩;simp only[go_sem,ACg,z1]
 ·try simp only[go_sem,N1] at z1
  obtain⟨y_2,z2,h⟩:=AB h;have fz2:=OA z2;try simp only[go_sem,z1] at fz2
  rcases AE h with⟨z3,h⟩|⟨z3,h⟩
  all_goals
  try simp only[go_sem,N1,z1] at z3
  obtain rfl:=AA h;refine⟨0,fun L hL=>?_⟩;simp only[go_sem,ACg, *]
def ADr:List Nat:=[0,2]
def zV:CN:=⟨1,2,.seq (.region false [ VO 1 2 (.mov C0)]) (.seq (.region false [ PM 3 0,PO 4 (.call 158 [S0,(I6 0),(I6 86399)]),VS 1 2 0]) (.ret)),[.t 1]⟩
def AEq:List (Nat×Ak):=[(158,Kf)]
theorem mE:AP AEq 158=some Kf:=rfl
def dr:Ak:=DN AEq zV [.bor]
theorem AMt:AQ Tryz.prog 107 dr:=AI _ rfl (AF cH AL) (by kernel_rfl:Ab Tryz.prog 107 zV ADr=true)
theorem AOS:dr.modes=[.bor]:=rfl
theorem AKX:dr.flat=true:=rfl
attribute [go_sem] AOS AKX mE
theorem AJn{n:Int}{y_:Bool}(h:EC n=some y_):dr.F [.int .i64 n]=⟨true,.bool y_,[.any]⟩:=by
 refine Ah rfl ?_;dsimp only[EC] at h;obtain⟨y_1,z1,h⟩:=AB h;have fz1:=VC z1;try simp only[go_sem] at fz1
 obtain rfl:=AA h;refine⟨0,fun L hL=>?_⟩;simp only[go_sem,zV,fz1]
def ADq:List Nat:=[0,2]
def zU:CN:=⟨1,2,.seq (.region false [ VO 1 2 (.mov C0)]) (.seq (.region false [ PM 3 0,PO 4 (.call 158 [S0,(.c (.int .i64 (-324000))),(I6 324000)]),VS 1 2 0]) (.ret)),[.t 1]⟩
def AEp:List (Nat×Ak):=[(158,Kf)]
theorem mD:AP AEp 158=some Kf:=rfl
def dq:Ak:=DN AEp zU [.bor]
theorem AMs:AQ Tryz.prog 108 dq:=AI _ rfl (AF cH AL) (by kernel_rfl:Ab Tryz.prog 108 zU ADq=true)
theorem AOR:dq.modes=[.bor]:=rfl
theorem AKW:dq.flat=true:=rfl
attribute [go_sem] AOR AKW mD
theorem AJm{n:Int}{y_:Bool}(h:Gs n=some y_):dq.F [.int .i64 n]=⟨true,.bool y_,[.any]⟩:=by
 refine Ah rfl ?_;dsimp only[Gs] at h;obtain⟨y_1,z1,h⟩:=AB h;have fz1:=VC z1;try simp only[go_sem] at fz1
 obtain rfl:=AA h;refine⟨0,fun L hL=>?_⟩;simp only[go_sem,zU,fz1]
def ADp:List Nat:=[0,2]
def zT:CN:=⟨1,2,.seq (.region false [ VO 1 2 (.mov C0)]) (.seq (.region false [ PM 3 0,PO 4 (.call 158 [S0,(.c (.int .i64 (-2000))),(I6 20000)]),VS 1 2 0]) (.ret)),[.t 1]⟩
def AEo:List (Nat×Ak):=[(158,Kf)]
theorem mC:AP AEo 158=some Kf:=rfl
def Ve:Ak:=DN AEo zT [.bor]
theorem AFH:AQ Tryz.prog 109 Ve:=AI _ rfl (AF cH AL) (by kernel_rfl:Ab Tryz.prog 109 zT ADp=true)
theorem AOQ:Ve.modes=[.bor]:=rfl
theorem AKV:Ve.flat=true:=rfl
attribute [go_sem] AOQ AKV mC
theorem oH{m:Int}{y_:Bool}(h:ED m=some y_):Ve.F [.int .i64 m]=⟨true,.bool y_,[.any]⟩:=by
 refine Ah rfl ?_;dsimp only[ED] at h;obtain⟨y_1,z1,h⟩:=AB h;have fz1:=VC z1;try simp only[go_sem] at fz1
 obtain rfl:=AA h;refine⟨0,fun L hL=>?_⟩;simp only[go_sem,zT,fz1]
def AHf:List Nat:=[0,2]
def my:CN:=⟨1,2,.seq (.region false [ VO 1 2 (.mov C0)]) (.seq (.anyo 44 [ SO 0 3 (.mov V0),SO 1 4 (.nilck S0),SO 2 5 (F0 S1),SO 3 6 (L1 S2),SO 4 7 (.callp 106 [S3]),SO 5 8 (.mov S4),⟨.slot 6,9,(G1 5),.mov V0⟩,⟨.slot 7,10,(G1 5),.nilck S6⟩,⟨.slot 8,11,(G1 5),F1 S7⟩,⟨.slot 9,12,(G1 5),L1 S8⟩,⟨.slot 10,13,(G1 5),.call 107 [S9]⟩,SO 11 14 (.pick S5 (.s 10) C0),SO 12 15
 (.mov (.s 11)),⟨.slot 13,16,(G1 12),.mov V0⟩,⟨.slot 14,17,(G1 12),.nilck (.s 13)⟩,⟨.slot 15,18,(G1 12),F2 (.s 14)⟩,⟨.slot 16,19,(G1 12),L1 (.s 15)⟩,⟨.slot 17,20,(G1 12),.call 108 [(.s 16)]⟩,SO 18 21 (.pick (.s 12) (.s 17) C0),SO 19 22 (.mov (.s 18)),⟨.slot 20,23,(G1 19),.mov V0⟩,⟨.slot 21,24,(G1 19),.nilck (.s 20)⟩,⟨.slot 22,25,(G1 19),F3 (.s 21)⟩,⟨.slot 23,26,(G1 19),.load
 false 1 (.s 22)⟩,⟨.slot 24,27,(G1 19),.call 109 [(.s 23)]⟩,SO 25 28 (.pick (.s 19) (.s 24) C0),SO 26 29 (.mov (.s 25)),⟨.slot 27,30,(G1 26),.mov V0⟩,⟨.slot 28,31,(G1 26),.nilck (.s 27)⟩,⟨.slot 29,32,(G1 26),F4 (.s 28)⟩,⟨.slot 30,33,(G1 26),L1 (.s 29)⟩,⟨.slot 31,34,(G1 26),.call 109 [(.s 30)]⟩,SO 32 35 (.pick (.s 26) (.s 31) C0),SO 33 36 (.mov (.s 32)),⟨.slot 34,37,(G1 33),.mov V0⟩,⟨.slot 35,38,
 (G1 33),.nilck (.s 34)⟩,⟨.slot 36,39,(G1 33),F3 (.s 35)⟩,⟨.slot 37,40,(G1 33),L1 (.s 36)⟩,⟨.slot 38,41,(G1 33),.mov V0⟩,⟨.slot 39,42,(G1 33),.nilck (.s 38)⟩,⟨.slot 40,43,(G1 33),F4 (.s 39)⟩,⟨.slot 41,44,(G1 33),L1 (.s 40)⟩,⟨.slot 42,45,(G1 33),B5 (.s 37) (.s 41)⟩,SO 43 46 (.pick (.s 33) (.s 42) C0),VS 1 2 43] [] .skip) (.ret)),[.t 1]⟩
def iK:List (Nat×Ak):=[(106,Pt),(107,dr),(108,dq),(109,Ve)]
theorem mB:AP iK 106=some Pt:=rfl
theorem mA:AP iK 107=some dr:=rfl
theorem lz:AP iK 108=some dq:=rfl
theorem ly:AP iK 109=some Ve:=rfl
def dp:Ak:=DN iK my [.bor]
theorem AMr:AQ Tryz.prog 67 dp:=AI _ rfl (AF wO (AF AMt (AF AMs (AF AFH AL)))) (by kernel_rfl:Ab Tryz.prog 67 my AHf=true)
theorem AOP:dp.modes=[.bor]:=rfl
theorem AKU:dp.flat=true:=rfl
attribute [go_sem] AOP AKU mB mA lz ly
theorem AJl{x:Star}{y_:Bool}(h:KI x=some y_):dp.F [.ptr 5 [BV x] 0 0]=⟨true,.bool y_,[.any]⟩:=by
 refine Ah rfl ?_;dsimp only[KI] at h;obtain⟨y_1,z1,h⟩:=AB h;have fz1:=gu z1;try simp only[go_sem] at fz1
 obtain⟨z2,h⟩:=AC h;rcases Ag z2 with⟨gz2,z2⟩|gz2
 ·try simp only[go_sem,N1] at gz2
  all_goals
  obtain⟨y_2,hz2⟩:=isX z2;have fz2:=AJn hz2;try simp only[go_sem,N1,gz2] at hz2
  all_goals
  try simp only[go_sem,gz2] at fz2
  obtain⟨z3,h⟩:=AC h;rcases Ag z3 with⟨gz3,z3⟩|gz3
  ·try simp only[go_sem,N1, *] at gz3
   all_goals
   obtain⟨y_3,hz3⟩:=isX z3;have fz3:=AJm hz3;try simp only[go_sem,N1, *] at hz3
   all_goals
   try simp only[go_sem, *] at fz3
   obtain⟨z4,h⟩:=AC h;rcases Ag z4 with⟨gz4,z4⟩|gz4
   ·try simp only[go_sem,N1, *] at gz4
    all_goals
    obtain⟨y_4,hz4⟩:=isX z4;have fz4:=oH hz4;try simp only[go_sem,N1, *] at hz4
    all_goals
    try simp only[go_sem, *] at fz4
    obtain⟨z5,h⟩:=AC h;rcases Ag z5 with⟨gz5,z5⟩|gz5
    ·try simp only[go_sem,N1, *] at gz5
     all_goals
     obtain⟨y_5,hz5⟩:=isX z5;have fz5:=oH hz5;try simp only[go_sem,N1, *] at hz5
     all_goals
     try simp only[go_sem, *] at fz5
     obtain rfl:=AA h;refine⟨0,fun L hL=>?_⟩;simp only[go_sem,my, *]
    ·rcases HU gz5 with gz5a|⟨gz5a,gz5b⟩
     ·try simp only[go_sem,N1, *] at gz5a
      all_goals
      (simp_all)
     ·obtain⟨gz5aa,gz5ab⟩:=Vj gz5a;obtain⟨gz5aaa,gz5aab⟩:=Vj gz5aa;try simp only[go_sem,N1, *] at gz5aaa
      all_goals
      try simp only[go_sem,N1, *] at gz5aab
      all_goals
      try simp only[go_sem,N1, *] at gz5ab
      all_goals
      try simp only[go_sem,N1, *] at gz5b
      all_goals
      obtain rfl:=AA h;refine⟨0,fun L hL=>?_⟩;simp only[go_sem,my, *]
   ·rcases HU gz4 with gz4a|⟨gz4a,gz4b⟩
    ·try simp only[go_sem,N1, *] at gz4a
     all_goals
     (simp_all)
    ·obtain⟨gz4aa,gz4ab⟩:=Vj gz4a;try simp only[go_sem,N1, *] at gz4aa
     all_goals
     try simp only[go_sem,N1, *] at gz4ab
     all_goals
     try simp only[go_sem,N1, *] at gz4b
     all_goals
     obtain⟨z5,h⟩:=AC h;obtain rfl:=AA h;refine⟨0,fun L hL=>?_⟩;simp only[go_sem,my, *]
  ·rcases HU gz3 with gz3a|⟨gz3a,gz3b⟩
   ·try simp only[go_sem,N1, *] at gz3a
    all_goals
    (simp_all)
   ·try simp only[go_sem,N1, *] at gz3a
    all_goals
    try simp only[go_sem,N1, *] at gz3b
    all_goals
    obtain⟨z4,h⟩:=AC h;obtain⟨z5,h⟩:=AC h;obtain rfl:=AA h;refine⟨0,fun L hL=>?_⟩;simp only[go_sem,my, *]
 ·try simp only[go_sem,N1] at gz2
  all_goals
  obtain⟨z3,h⟩:=AC h;obtain⟨z4,h⟩:=AC h;obtain⟨z5,h⟩:=AC h;obtain rfl:=AA h;refine⟨0,fun L hL=>?_⟩;simp only[go_sem,my, *]
def ft:IR:=.seq (.test false [ PM 4 2,PM 5 0,PO 6 (.len false S0),PO 7 (B1 S2 S0)] S0 (.skip) (.exit 0)) (.seq (.block 1 (.anyo 23 [ SO 0 10 (.mov V0),SO 1 11 (.mov V2),SO 2 12 (.ixAddr 5 S0 S1),SO 3 13 (.callp 67 [S2]),SO 4 14 (.un .not S3),SO 5 15 (.mov S4),⟨.slot 6,16,(G0 5),.mov V2⟩,⟨.slot 7,17,(G0 5),B4 S6 (I6 0)⟩,⟨.slot 8,18,(G0 5),.mov S7⟩,⟨.slot 9,19,(G1 8),.mov V0⟩,⟨.slot 10,20,(G1 8),
 .mov V2⟩,⟨.slot 11,21,(G1 8),B3 (.s 10) (I6 1)⟩,⟨.slot 12,22,(G1 8),.ixAddr 5 S9 (.s 11)⟩,⟨.slot 13,23,(G1 8),F0 (.s 12)⟩,⟨.slot 14,24,(G1 8),L1 (.s 13)⟩,⟨.slot 15,25,(G1 8),.mov V0⟩,⟨.slot 16,26,(G1 8),.mov V2⟩,⟨.slot 17,27,(G1 8),.ixAddr 5 (.s 15) (.s 16)⟩,⟨.slot 18,28,(G1 8),F0 (.s 17)⟩,⟨.slot 19,29,(G1 8),L1 (.s 18)⟩,⟨.slot 20,30,(G1 8),
 B6 (.s 14) (.s 19)⟩,⟨.slot 21,31,(G0 5),.pick S8 (.s 20) C0⟩,SO 22 32 (.pick S5 C1 (.s 21))] [] (.cond (.s 22) (.seq (.region false [ VO 1 2 (.mov C0)]) (.ret)) (.skip)))) (.region false [ PM 8 2,PO 9 (B0 S0 (I6 1)),VS 2 3 0]))
def XB:List Bool:=[true,false,true]
def XA:List Bool:=[true,false,false]
def Wz:List Bool:=[false,true,false]
def AIV:List Nat:=[0,2,3]
def ACf:CN:=⟨1,3,.seq (.region false [ VO 1 2 (.mov C0)]) (.seq (.seq (.region false [ VO 2 3 (.mov (I6 0))]) (.block 0 (.loop XB XA Wz ft))) (.seq (.region false [ PM 33 0,PO 34 (.len false S0),PO 35 (B5 S0 (I6 60)),VS 1 2 0]) (.ret))),[.t 1]⟩
def vv:List (Nat×Ak):=[(67,dp)]
theorem rz:AP vv 67=some dp:=rfl
def dm:Ak:=DN vv ACf [.bor]
theorem AMq:AQ Tryz.prog 34 dm:=AI _ rfl (AF AMr AL) (by kernel_rfl:Ab Tryz.prog 34 ACf AIV=true)
theorem AOO:dm.modes=[.bor]:=rfl
theorem AKT:dm.flat=true:=rfl
attribute [go_sem] AOO AKT rz
def Tq(list:List Star):Int->St
 | i=>⟨[.sl 5 (List.map BV list),.any,.int .i64 i],[],[],true⟩
def TR(list:List Star):(Unit⊕Bool)->Fw
 | .inl y=>(.exit 0,⟨[.sl 5 (List.map BV list),.any,.any],[],[],true⟩)
 | .inr y=>(.ret,⟨[.any,.bool y,.any],[],[],true⟩)
attribute [local go_sem] ACf Tq TR ft XB XA Wz in
theorem UQ{list:List Star}{sgm_:Int}{rho_:Unit⊕Bool}(h:AS (GB list) sgm_=some rho_):∃ L0,∀ L,L0<=L->CV (Aq (AP vv) L ft) XB XA Wz L (Tq list sgm_)=TR list rho_:=by
 refine Ax (E:=Tq list) (R:=TR list) (fun y=>by first|(intro c;cases c)|(rcases y with y|y<;>(intro c;cases c))|(rcases y with y|y|y<;>(intro c;cases c))) ?_ h;clear h;intro i o_ h;dsimp only[GB] at h;rcases AE h with⟨z1,h⟩|⟨z1,h⟩
 ·try simp only[go_sem,N1] at z1
  all_goals
  obtain⟨z2,h⟩:=AC h;have lz2:=Az z2;try simp only[go_sem] at lz2
  try simp only[go_sem,N1,z1] at z2
  all_goals
  obtain⟨y_3,z3,h⟩:=AB h;have fz3:=AJl z3;try simp only[go_sem, *] at fz3
  obtain⟨z4,h⟩:=AC h;rcases Ag z4 with⟨gz4,z4⟩|gz4
  ·try simp only[go_sem,N1, *] at gz4
   all_goals
   have lz4:=Az z4;try simp only[go_sem] at lz4
   try simp only[go_sem,N1, *] at z4
   all_goals
   rcases AE h with⟨z5,h⟩|⟨z5,h⟩
   all_goals
   try simp only[go_sem,N1, *] at z5
   all_goals
   obtain rfl:=AA h;refine⟨0,fun L hL=>?_⟩;simp only[go_sem, *]
  ·rcases HU gz4 with gz4a|⟨gz4a,gz4b⟩
   ·have gz4an:=FO gz4a;have gz4ann:=Is gz4an;try simp only[go_sem,N1, *] at gz4ann
    all_goals
    rcases AE h with⟨z5,h⟩|⟨z5,h⟩
    ·try simp only[go_sem,N1, *] at z5
     all_goals
     obtain rfl:=AA h;refine⟨0,fun L hL=>?_⟩;simp only[go_sem, *]
    ·try simp only[go_sem,N1, *] at z5
     all_goals
     (simp_all)
   ·have gz4an:=Is gz4a;have gz4ann:=FO gz4an;try simp only[go_sem,N1, *] at gz4ann
    all_goals
    try simp only[go_sem,N1, *] at gz4b
    all_goals
    rcases AE h with⟨z5,h⟩|⟨z5,h⟩
    ·try simp only[go_sem,N1, *] at z5
     all_goals
     (simp_all)
    ·try simp only[go_sem,N1, *] at z5
     all_goals
     obtain rfl:=AA h;refine⟨0,fun L hL=>?_⟩;simp only[go_sem, *]
 ·try simp only[go_sem,N1] at z1
  all_goals
  obtain rfl:=AA h;refine⟨0,fun L hL=>?_⟩;simp only[go_sem,z1]
attribute [local go_sem] Tq TR XB XA Wz ACf in
theorem AJk{list:List Star}{y_:Bool}(h:LI list=some y_):dm.F [.sl 5 (List.map BV list)]=⟨true,.bool y_,[.any]⟩:=by
 refine Ah rfl ?_;dsimp only[LI] at h;obtain⟨y_6,z6,h⟩:=AB h;obtain⟨Lz6,ez6⟩:=UQ z6;rcases y_6 with y_6a|y_6b
 all_goals
 dsimp only at h;obtain rfl:=AA h;refine⟨Lz6,fun L hL=>?_⟩;have ez6:=ez6 L (by omega);try simp only[go_sem] at ez6
 simp only[go_sem,ez6]
def ADo:List Nat:=[0,2]
def zS:CN:=⟨1,2,.seq (.region false [ VO 1 2 (.mov C0)]) (.seq (.region false [ PM 3 0,PO 4 (.call 158 [S0,(I6 0),(I6 10000000)]),VS 1 2 0]) (.ret)),[.t 1]⟩
def AEn:List (Nat×Ak):=[(158,Kf)]
theorem lx:AP AEn 158=some Kf:=rfl
def dk:Ak:=DN AEn zS [.bor]
theorem AMp:AQ Tryz.prog 110 dk:=AI _ rfl (AF cH AL) (by kernel_rfl:Ab Tryz.prog 110 zS ADo=true)
theorem AON:dk.modes=[.bor]:=rfl
theorem AKS:dk.flat=true:=rfl
attribute [go_sem] AON AKS lx
theorem AJj{n:Int}{y_:Bool}(h:Kj n=some y_):dk.F [.int .i64 n]=⟨true,.bool y_,[.any]⟩:=by
 refine Ah rfl ?_;dsimp only[Kj] at h;obtain⟨y_1,z1,h⟩:=AB h;have fz1:=VC z1;try simp only[go_sem] at fz1
 obtain rfl:=AA h;refine⟨0,fun L hL=>?_⟩;simp only[go_sem,zS,fz1]
def AHe:List Nat:=[0,2]
def tU:CN:=⟨1,2,.seq (.region false [ VO 1 2 (.mov C0)]) (.seq (.region false [ PM 3 0,PO 4 (.nilck S0),PO 5 (F0 S0),PO 6 (L1 S0),PO 7 (.call 110 [S0]),PO 8 (.mov S0),⟨.push,9,(G1 0),.mov V0⟩,⟨.push,10,(G1 1),.nilck S0⟩,⟨.push,11,(G1 2),F1 S0⟩,⟨.push,12,(G1 3),L1 S0⟩,⟨.push,13,(G1 4),.call 106 [S0]⟩,PO 14 (.pick S5 S0 C0),PO 15 (.mov S0),⟨.push,16,(some (S0,
 true)),.mov V0⟩,⟨.push,17,(G1 1),.nilck S0⟩,⟨.push,18,(G1 2),F2 S0⟩,⟨.push,19,(G1 3),L1 S0⟩,⟨.push,20,(G1 4),.call 106 [S0]⟩,PO 21 (.pick S5 S0 C0),PO 22 (.mov S0),⟨.push,23,(G1 0),.mov V0⟩,⟨.push,24,(G1 1),.nilck S0⟩,⟨.push,25,(G1 2),F3 S0⟩,⟨.push,26,(G1 3),L1 S0⟩,⟨.push,27,(G1 4),.call 109 [S0]⟩,PO 28 (.pick S5
 S0 C0),VS 1 2 0]) (.ret)),[.t 1]⟩
def oQ:List (Nat×Ak):=[(110,dk),(106,Pt),(109,Ve)]
theorem lr:AP oQ 110=some dk:=rfl
theorem lv:AP oQ 106=some Pt:=rfl
theorem lu:AP oQ 109=some Ve:=rfl
def dj:Ak:=DN oQ tU [.bor]
theorem AMo:AQ Tryz.prog 68 dj:=AI _ rfl (AF AMp (AF wO (AF AFH AL))) (by kernel_rfl:Ab Tryz.prog 68 tU AHe=true)
theorem AOM:dj.modes=[.bor]:=rfl
theorem AKR:dj.flat=true:=rfl
attribute [go_sem] AOM AKR lr lv lu
theorem AJi{e_:AD}{y_:Bool}(h:KH e_=some y_):dj.F [.ptr 5 [AN e_] 0 0]=⟨true,.bool y_,[.any]⟩:=by
 refine Ah rfl ?_;dsimp only[KH] at h;obtain⟨y_1,z1,h⟩:=AB h;have fz1:=AJj z1;try simp only[go_sem] at fz1
 obtain⟨z2,h⟩:=AC h;rcases Ag z2 with⟨gz2,z2⟩|gz2
 ·try simp only[go_sem,N1] at gz2
  all_goals
  obtain⟨y_2,hz2⟩:=isX z2;have fz2:=gu hz2;try simp only[go_sem,N1,gz2] at hz2
  all_goals
  try simp only[go_sem,gz2] at fz2
  obtain⟨z3,h⟩:=AC h;rcases Ag z3 with⟨gz3,z3⟩|gz3
  ·try simp only[go_sem,N1, *] at gz3
   all_goals
   obtain⟨y_3,hz3⟩:=isX z3;have fz3:=gu hz3;try simp only[go_sem,N1, *] at hz3
   all_goals
   try simp only[go_sem, *] at fz3
   obtain⟨z4,h⟩:=AC h;rcases Ag z4 with⟨gz4,z4⟩|gz4
   ·try simp only[go_sem,N1, *] at gz4
    all_goals
    obtain⟨y_4,hz4⟩:=isX z4;have fz4:=oH hz4;try simp only[go_sem,N1, *] at hz4
    all_goals
    try simp only[go_sem, *] at fz4
    obtain rfl:=AA h;refine⟨0,fun L hL=>?_⟩;simp only[go_sem,tU, *]
   ·rcases HU gz4 with gz4a|⟨gz4a,gz4b⟩
    ·try simp only[go_sem,N1, *] at gz4a
     all_goals
     (simp_all)
    ·obtain⟨gz4aa,gz4ab⟩:=Vj gz4a;try simp only[go_sem,N1, *] at gz4aa
     all_goals
     try simp only[go_sem,N1, *] at gz4ab
     all_goals
     try simp only[go_sem,N1, *] at gz4b
     all_goals
     obtain rfl:=AA h;refine⟨0,fun L hL=>?_⟩;simp only[go_sem,tU, *]
  ·rcases HU gz3 with gz3a|⟨gz3a,gz3b⟩
   ·try simp only[go_sem,N1, *] at gz3a
    all_goals
    (simp_all)
   ·try simp only[go_sem,N1, *] at gz3a
    all_goals
    try simp only[go_sem,N1, *] at gz3b
    all_goals
    obtain⟨z4,h⟩:=AC h;obtain rfl:=AA h;refine⟨0,fun L hL=>?_⟩;simp only[go_sem,tU, *]
 ·try simp only[go_sem,N1] at gz2
  all_goals
  obtain⟨z3,h⟩:=AC h;obtain⟨z4,h⟩:=AC h;obtain rfl:=AA h;refine⟨0,fun L hL=>?_⟩;simp only[go_sem,tU, *]
def AHd:List Nat:=[0,1,4]
def ACX:CN:=⟨2,3,.seq (.region false [ VO 2 4 (.mov C0)]) (.seq (.anyo 9 [ SO 0 5 (.mov V0),SO 1 6 (.nilck S0),SO 2 7 (F0 S1),SO 3 8 (L1 S2),SO 4 9 (.mov V1),SO 5 10 (.nilck S4),SO 6 11 (F0 S5),SO 7 12 (L1 S6),SO 8 13 (B7 S3 S7)] [] (.cond S8 (.seq (.anyo 9 [ SO 0 14 (.mov V0),SO 1 15 (.nilck S0),SO 2 16 (F0 S1),SO 3 17 (L1 S2),SO 4 18 (.mov V1),SO 5 19 (.nilck S4),SO 6 20 (F0 S5),SO 7 21 (L1 (.s
 6)),SO 8 22 (B1 S3 S7),VS 2 4 8] [] .skip) (.ret)) (.skip))) (.seq (.anyo 9 [ SO 0 23 (.mov V0),SO 1 24 (.nilck S0),SO 2 25 (F1 S1),SO 3 26 (L1 S2),SO 4 27 (.mov V1),SO 5 28 (.nilck S4),SO 6 29 (F1 S5),SO 7 30 (L1 S6),SO 8 31 (B7 S3 S7)] [] (.cond S8 (.seq (.anyo 9 [ SO 0 32 (.mov V0),SO 1 33 (.nilck S0),SO 2 34 (F1 S1),SO 3 35 (L1 S2),SO 4 36 (.mov V1),SO 5 37 (.nilck S4),SO 6 38 (F1 S5),SO 7 39 (.load false
 1 S6),SO 8 40 (B1 S3 S7),VS 2 4 8] [] .skip) (.ret)) (.skip))) (.seq (.anyo 9 [ SO 0 41 (.mov V0),SO 1 42 (.nilck S0),SO 2 43 (F2 S1),SO 3 44 (L1 S2),SO 4 45 (.mov V1),SO 5 46 (.nilck S4),SO 6 47 (F2 S5),SO 7 48 (L1 S6),SO 8 49 (B1 S3 S7),VS 2 4 8] [] .skip) (.ret)))),[.t 2]⟩
def ALw:List (Nat×Ak):=[]
def di:Ak:=DN ALw ACX [.bor,.bor]
theorem AMn:AQ Tryz.prog 69 di:=AI _ rfl AL (by kernel_rfl:Ab Tryz.prog 69 ACX AHd=true)
theorem AOL:di.modes=[.bor,.bor]:=rfl
theorem AKQ:di.flat=true:=rfl
attribute [go_sem] AOL AKQ
theorem AJh{a:AD}{b:AD}{y_:Bool}(h:GU a b=some y_):di.F [.ptr 5 [AN a] 0 0,.ptr 5 [AN b] 0 0]=⟨true,.bool y_,[.any,.any]⟩:=by
 refine Ah rfl ?_;dsimp only[GU] at h;rcases AE h with⟨z1,h⟩|⟨z1,h⟩
 ·try simp only[go_sem,N1] at z1
  obtain rfl:=AA h;refine⟨0,fun L hL=>?_⟩;simp only[go_sem,ACX,z1]
 ·try simp only[go_sem,N1] at z1
  rcases AE h with⟨z2,h⟩|⟨z2,h⟩
  all_goals
  try simp only[go_sem,N1,z1] at z2
  obtain rfl:=AA h;refine⟨0,fun L hL=>?_⟩;simp only[go_sem,ACX, *]
def fq:IR:=.seq (.test false [ PM 4 2,PM 5 0,PO 6 (.len false S0),PO 7 (B1 S2 S0)] S0 (.skip) (.exit 0)) (.seq (.block 1 (.anyo 20 [ SO 0 10 (.mov V0),SO 1 11 (.mov V2),SO 2 12 (.ixAddr 5 S0 S1),SO 3 13 (.callp 68 [S2]),SO 4 14 (.un .not S3),SO 5 15 (.mov S4),⟨.slot 6,16,(G0 5),.mov V2⟩,⟨.slot 7,17,(G0 5),B4 S6 (I6 0)⟩,⟨.slot 8,18,(G0 5),.mov S7⟩,⟨.slot 9,19,(G1 8),.mov V0⟩,⟨.slot 10,20,(G1 8),
 .mov V2⟩,⟨.slot 11,21,(G1 8),B3 (.s 10) (I6 1)⟩,⟨.slot 12,22,(G1 8),.ixAddr 5 S9 (.s 11)⟩,⟨.slot 13,23,(G1 8),.mov V0⟩,⟨.slot 14,24,(G1 8),.mov V2⟩,⟨.slot 15,25,(G1 8),.ixAddr 5 (.s 13) (.s 14)⟩,⟨.slot 16,26,(G1 8),.call 69 [(.s 12),(.s 15)]⟩,⟨.slot 17,27,(G1 8),.un .not (.s 16)⟩,⟨.slot 18,28,(G0 5),.pick S8 (.s 17) C0⟩,SO 19 29 (.pick S5 C1 (.s 18))] [] (.cond (.s 19) (.seq
 (.region false [ VO 1 2 (.mov C0)]) (.ret)) (.skip)))) (.region false [ PM 8 2,PO 9 (B0 S0 (I6 1)),VS 2 3 0]))
def Wy:List Bool:=[true,false,true]
def Wx:List Bool:=[true,false,false]
def Ww:List Bool:=[false,true,false]
def AIU:List Nat:=[0,2,3]
def ACe:CN:=⟨1,3,.seq (.region false [ VO 1 2 (.mov C0)]) (.seq (.seq (.region false [ VO 2 3 (.mov (I6 0))]) (.block 0 (.loop Wy Wx Ww fq))) (.seq (.region false [ PM 30 0,PO 31 (.len false S0),PO 32 (B5 S0 (I6 100)),VS 1 2 0]) (.ret))),[.t 1]⟩
def oP:List (Nat×Ak):=[(68,dj),(69,di)]
theorem ry:AP oP 68=some dj:=rfl
theorem rx:AP oP 69=some di:=rfl
def dh:Ak:=DN oP ACe [.bor]
theorem AMl:AQ Tryz.prog 35 dh:=AI _ rfl (AF AMo (AF AMn AL)) (by kernel_rfl:Ab Tryz.prog 35 ACe AIU=true)
theorem AOK:dh.modes=[.bor]:=rfl
theorem AKP:dh.flat=true:=rfl
attribute [go_sem] AOK AKP ry rx
def Tp(list:List AD):Int->St
 | i=>⟨[.sl 5 (List.map AN list),.any,.int .i64 i],[],[],true⟩
def TQ(list:List AD):(Unit⊕Bool)->Fw
 | .inl y=>(.exit 0,⟨[.sl 5 (List.map AN list),.any,.any],[],[],true⟩)
 | .inr y=>(.ret,⟨[.any,.bool y,.any],[],[],true⟩)
attribute [local go_sem] ACe Tp TQ fq Wy Wx Ww in
theorem UP{list:List AD}{sgm_:Int}{rho_:Unit⊕Bool}(h:AS (GA list) sgm_=some rho_):∃ L0,∀ L,L0<=L->CV (Aq (AP oP) L fq) Wy Wx Ww L (Tp list sgm_)=TQ list rho_:=by
 refine Ax (E:=Tp list) (R:=TQ list) (fun y=>by first|(intro c;cases c)|(rcases y with y|y<;>(intro c;cases c))|(rcases y with y|y|y<;>(intro c;cases c))) ?_ h;clear h;intro i o_ h;dsimp only[GA] at h;rcases AE h with⟨z1,h⟩|⟨z1,h⟩
 ·try simp only[go_sem,N1] at z1
  all_goals
  obtain⟨z2,h⟩:=AC h;have lz2:=Az z2;try simp only[go_sem] at lz2
  try simp only[go_sem,N1,z1] at z2
  all_goals
  obtain⟨y_3,z3,h⟩:=AB h;have fz3:=AJi z3;try simp only[go_sem, *] at fz3
  obtain⟨z4,h⟩:=AC h;rcases Ag z4 with⟨gz4,z4⟩|gz4
  ·try simp only[go_sem,N1, *] at gz4
   all_goals
   have lz4:=Az z4;try simp only[go_sem] at lz4
   try simp only[go_sem,N1, *] at z4
   all_goals
   obtain⟨z5,h⟩:=AC h;rcases Ag z5 with⟨gz5,z5⟩|gz5
   ·try simp only[go_sem,N1, *] at gz5
    all_goals
    obtain⟨y_5,hz5⟩:=isX z5;have fz5:=AJh hz5;try simp only[go_sem,N1, *] at hz5
    all_goals
    try simp only[go_sem, *] at fz5
    rcases AE h with⟨z6,h⟩|⟨z6,h⟩
    all_goals
    try simp only[go_sem,N1, *] at z6
    all_goals
    obtain rfl:=AA h;refine⟨0,fun L hL=>?_⟩;simp only[go_sem, *]
   ·rcases HU gz5 with gz5a|⟨gz5a,gz5b⟩
    ·try simp only[go_sem,N1, *] at gz5a
     all_goals
     (simp_all)
    ·have gz5an:=Is gz5a;have gz5ann:=FO gz5an;try simp only[go_sem,N1, *] at gz5ann
     all_goals
     try simp only[go_sem,N1, *] at gz5b
     all_goals
     rcases AE h with⟨z6,h⟩|⟨z6,h⟩
     ·try simp only[go_sem,N1, *] at z6
      all_goals
      (simp_all)
     ·try simp only[go_sem,N1, *] at z6
      all_goals
      obtain rfl:=AA h;refine⟨0,fun L hL=>?_⟩;simp only[go_sem, *]
  ·rcases HU gz4 with gz4a|⟨gz4a,gz4b⟩
   ·have gz4an:=FO gz4a;have gz4ann:=Is gz4an;try simp only[go_sem,N1, *] at gz4ann
    all_goals
    obtain⟨z5,h⟩:=AC h;rcases AE h with⟨z6,h⟩|⟨z6,h⟩
    ·try simp only[go_sem,N1, *] at z6
     all_goals
     obtain rfl:=AA h;refine⟨0,fun L hL=>?_⟩;simp only[go_sem, *]
    ·try simp only[go_sem,N1, *] at z6
     all_goals
     (simp_all)
   ·have gz4an:=Is gz4a;have gz4ann:=FO gz4an;try simp only[go_sem,N1, *] at gz4ann
    all_goals
    try simp only[go_sem,N1, *] at gz4b
    all_goals
    obtain⟨z5,h⟩:=AC h;rcases AE h with⟨z6,h⟩|⟨z6,h⟩
    ·try simp only[go_sem,N1, *] at z6
     all_goals
     (simp_all)
    ·try simp only[go_sem,N1, *] at z6
     all_goals
     obtain rfl:=AA h;refine⟨0,fun L hL=>?_⟩;simp only[go_sem, *]
 ·try simp only[go_sem,N1] at z1
  all_goals
  obtain rfl:=AA h;refine⟨0,fun L hL=>?_⟩;simp only[go_sem,z1]
attribute [local go_sem] Tp TQ Wy Wx Ww ACe in
theorem AJg{list:List AD}{y_:Bool}(h:Js list=some y_):dh.F [.sl 5 (List.map AN list)]=⟨true,.bool y_,[.any]⟩:=by
 refine Ah rfl ?_;dsimp only[Js] at h;obtain⟨y_7,z7,h⟩:=AB h;obtain⟨Lz7,ez7⟩:=UP z7;rcases y_7 with y_7a|y_7b
 all_goals
 dsimp only at h;obtain rfl:=AA h;refine⟨Lz7,fun L hL=>?_⟩;have ez7:=ez7 L (by omega);try simp only[go_sem] at ez7
 simp only[go_sem,ez7]
def fx:IR:=.seq (.test false [ PM 32 3,PM 33 0,PO 34 (.nilck S0),PO 35 (F1 S0),PO 36 (L1 S0),PO 37 (.len false S0),PO 38 (B1 S5 S0)] S0 (.skip) (.exit 0)) (.seq (.block 1 (.anyo 14 [ SO 0 41 (.mov V0),SO 1 42 (.nilck S0),SO 2 43 (F0 S1),SO 3 44 (L1 S2),SO 4 45 (.mov V0),SO 5 46 (.nilck S4),SO 6 47 (F1 S5),SO 7 48 (L1 S6),SO 8 49 (.mov V3),SO 9 50 (.ixAddr 5 S7 S8),SO 10 51 (F1 S9),SO 11 52 (L1 (.s 10)),SO
 12 53 (.callp 36 [S3,(.s 11)]),SO 13 54 (B1 (.s 12) (I6 0))] [] (.cond (.s 13) (.seq (.region false [ VO 1 2 (.mov C0)]) (.ret)) (.skip)))) (.region false [ PM 39 3,PO 40 (B0 S0 (I6 1)),VS 3 5 0]))
def XK:List Bool:=[true,false,false,true]
def XJ:List Bool:=[false,false,false,false]
def XI:List Bool:=[false,true,false,false]
def AIp:List Nat:=[0,2,4,5]
def ADG:CN:=⟨1,4,.seq (.region false [ VO 1 2 (.mov C0)]) (.seq (.region false [ PM 7 0,PO 8 (.nilck S0),PO 9 (F2 S0),PO 10 (L1 S0),PO 11 (.call 33 [S0]),PO 6 (.mov S0),PO 12 (.ext S0 0),PO 13 (.ext S1 1),PO 3 (.mov S1),VS 2 4 1]) (.seq (.test false [ PM 14 0,PO 15 (.nilck S0),PO 16 (F0 S0),PO 17 (L1 S0),PO 18 (.call 34 [S0]),PO 19 (.un .not S0),PO 20 (.mov S0),⟨.push,21,(G0 0),.mov V0⟩,⟨.push,22,(G0 1),.nilck S0⟩,
 ⟨.push,23,(G0 2),F1 S0⟩,⟨.push,24,(G0 3),L1 S0⟩,⟨.push,25,(G0 4),.call 35 [S0]⟩,⟨.push,26,(G0 5),.un .not S0⟩,PO 27 (.pick S6 C1 S0),PO 28 (.mov S0),⟨.push,29,(G0 0),.mov V2⟩,⟨.push,30,(G0 1),B7 S0 (I6 0)⟩,PO 31 (.pick S2 C1 S0)] S0 (.seq (.region false [ VO 1 2 (.mov C0)]) (.ret)) (.skip)) (.seq (.seq (.region false [ VO 3 5 (.mov (I6 0))]) (.block
 0 (.loop XK XJ XI fx))) (.seq (.region false [ VO 1 2 (.mov C1)]) (.ret))))),[.t 1]⟩
def bw:List (Nat×Ak):=[(33,dt),(34,dm),(35,dh),(36,eE)]
theorem ru:AP bw 33=some dt:=rfl
theorem rq:AP bw 34=some dm:=rfl
theorem rp:AP bw 35=some dh:=rfl
theorem ro:AP bw 36=some eE:=rfl
def df:Ak:=DN bw ADG [.bor]
theorem AMk:AQ Tryz.prog 16 df:=AI _ rfl (AF AMu (AF AMq (AF AMl (AF ANC AL)))) (by kernel_rfl:Ab Tryz.prog 16 ADG AIp=true)
theorem AOJ:df.modes=[.bor]:=rfl
theorem AKO:df.flat=true:=rfl
attribute [go_sem] AOJ AKO ru rq rp ro
def Tn(d:Bc):Int->St
 | i=>⟨[.ptr 3 [Cj d] 0 0,.any,.any,.int .i64 i],[],[],true⟩
def TP(d:Bc):(Unit⊕Bool)->Fw
 | .inl y=>(.exit 0,⟨[.any,.any,.any,.any],[],[],true⟩)
 | .inr y=>(.ret,⟨[.any,.bool y,.any,.any],[],[],true⟩)
attribute [local go_sem] ADG Tn TP fx XK XJ XI in
theorem UO{d:Bc}{sgm_:Int}{rho_:Unit⊕Bool}(h:AS (HW d) sgm_=some rho_):∃ L0,∀ L,L0<=L->CV (Aq (AP bw) L fx) XK XJ XI L (Tn d sgm_)=TP d rho_:=by
 refine Ax (E:=Tn d) (R:=TP d) (fun y=>by first|(intro c;cases c)|(rcases y with y|y<;>(intro c;cases c))|(rcases y with y|y|y<;>(intro c;cases c))) ?_ h;clear h;intro i o_ h;dsimp only[HW] at h;rcases AE h with⟨z5,h⟩|⟨z5,h⟩
 ·try simp only[go_sem,N1] at z5
  obtain⟨z6,h⟩:=AC h;have lz6:=Az z6;try simp only[go_sem] at lz6
  try simp only[go_sem,N1,z5] at z6
  obtain⟨y_7,z7,h⟩:=AB h;have fz7:=AJu z7;try simp only[go_sem, *] at fz7
  rcases AE h with⟨z8,h⟩|⟨z8,h⟩
  all_goals
  try simp only[go_sem,N1, *] at z8
  obtain rfl:=AA h;refine⟨0,fun L hL=>?_⟩;simp only[go_sem, *]
 ·try simp only[go_sem,N1] at z5
  obtain rfl:=AA h;refine⟨0,fun L hL=>?_⟩;simp only[go_sem,z5]
attribute [local go_sem] ADG Tn TP XK XJ XI in
theorem AJf{d:Bc}{y_:Bool}(h:LH d=some y_):df.F [.ptr 3 [Cj d] 0 0]=⟨true,.bool y_,[.any]⟩:=by
 refine Ah rfl ?_;dsimp only[LH] at h;obtain⟨y_1,z1,h⟩:=AB h;have fz1:=AJo z1;try simp only[go_sem] at fz1
 obtain⟨y_2,z2,h⟩:=AB h;have fz2:=AJk z2;try simp only[go_sem] at fz2
 obtain⟨z3,h⟩:=AC h;rcases Ag z3 with⟨gz3,z3⟩|gz3
 ·try simp only[go_sem,N1] at gz3
  all_goals
  obtain⟨y_3,hz3⟩:=isX z3;have fz3:=AJg hz3;try simp only[go_sem,N1,gz3] at hz3
  all_goals
  try simp only[go_sem,gz3] at fz3
  rcases AE h with⟨z4,h⟩|⟨z4,h⟩
  ·try simp only[go_sem,N1, *] at z4
   all_goals
   obtain rfl:=AA h;refine⟨0,fun L hL=>?_⟩;simp only[go_sem, *]
  ·try simp only[go_sem,N1, *] at z4
   all_goals
   obtain⟨y_9,z9,h⟩:=AB h;obtain⟨Lz9,ez9⟩:=UO z9;rcases y_9 with y_9a|y_9b
   all_goals
   dsimp only at h;obtain rfl:=AA h;refine⟨Lz9,fun L hL=>?_⟩;have ez9:=ez9 L (by omega);try simp only[go_sem, *] at ez9
   simp only[go_sem, *]
 ·have gz3n:=FO gz3;have gz3nn:=Is gz3n;try simp only[go_sem,N1] at gz3nn
  all_goals
  rcases AE h with⟨z4,h⟩|⟨z4,h⟩
  ·try simp only[go_sem,N1,gz3nn] at z4
   all_goals
   obtain rfl:=AA h;refine⟨0,fun L hL=>?_⟩;simp only[go_sem, *]
  ·try simp only[go_sem,N1,gz3nn] at z4
   all_goals
   (simp_all)
def ANi:List Nat:=[0,1,2]
def ir8:CN:=⟨1,3,.seq (.region false [ VO 1 1 (.box V0),VO 2 2 (.mov C0)]) (.seq (.region false [ PO 3 (.call 16 [V1]),VS 2 2 0]) (.ret)),[.t 2]⟩
def AEm:List (Nat×Ak):=[(16,df)]
theorem rn:AP AEm 16=some df:=rfl
def de:Ak:=DN AEm ir8 [.bor]
theorem AMj:AQ Tryz.prog 8 de:=AI _ rfl (AF AMk AL) (by kernel_rfl:Ab Tryz.prog 8 ir8 ANi=true)
theorem AOI:de.modes=[.bor]:=rfl
theorem AKN:de.flat=true:=rfl
attribute [go_sem] AOI AKN rn
theorem AJe{d:Bc}{y_:Bool}(h:Ev d=some y_):de.F [Cj d]=⟨true,.bool y_,[.any]⟩:=by
 refine Ah rfl ?_;dsimp only[Ev] at h;obtain⟨y_1,z1,h⟩:=AB h;have fz1:=AJf z1;try simp only[go_sem] at fz1
 obtain rfl:=AA h;refine⟨0,fun L hL=>?_⟩;simp only[go_sem,ir8,fz1]
def ANh:List Nat:=[0,1,2]
def ir9:CN:=⟨1,3,.seq (.region false [ VO 1 1 (.box V0),VO 2 2 (.mov C2)]) (.seq (.test false [ PO 3 (L3 V1),PO 4 (.call 14 [S0]),PO 5 (.un .not S0)] S0 (.seq (.region false [ VO 2 2 (.mov C2)]) (.ret)) (.skip)) (.seq (.region false [ PO 6 (L3 V1),PO 7 (.call 17 [S0]),VS 2 2 0]) (.ret))),[.t 2]⟩
def vu:List (Nat×Ak):=[(14,kb),(17,kY)]
theorem rm:AP vu 14=some kb:=rfl
theorem rl:AP vu 17=some kY:=rfl
def dd:Ak:=DN vu ir9 [.bor]
theorem AMi:AQ Tryz.prog 9 dd:=AI _ rfl (AF AMe (AF AMa AL)) (by kernel_rfl:Ab Tryz.prog 9 ir9 ANh=true)
theorem AOH:dd.modes=[.bor]:=rfl
theorem AKM:dd.flat=true:=rfl
attribute [go_sem] AOH AKM rm rl
theorem AJd{d:Bc}{y_:(List UInt8)}(h:Hf d=some y_):dd.F [Cj d]=⟨true,.str y_,[.any]⟩:=by
 refine Ah rfl ?_;dsimp only[Hf] at h;obtain⟨y_1,z1,h⟩:=AB h;have fz1:=AFy z1;try simp only[go_sem] at fz1
 rcases AE h with⟨z2,h⟩|⟨z2,h⟩
 ·try simp only[go_sem,N1] at z2
  obtain rfl:=AA h;refine⟨0,fun L hL=>?_⟩;simp only[go_sem,ir9, *]
 ·try simp only[go_sem,N1] at z2
  obtain⟨y_3,z3,h⟩:=AB h;have fz3:=AAl z3;try simp only[go_sem,z2] at fz3
  obtain rfl:=AA h;refine⟨0,fun L hL=>?_⟩;simp only[go_sem,ir9, *]
