/- Lemmas and walks, several texts in one. No condition. -/
import Derived.Test.YteaicgcfpcklkaaGreatDoorP3
import Derived.Test.YteaicgcfpcklkaaGreatDoorP4
import Derived.Test.YteaicgcfpcklkaaGreatDoorP5
import Derived.Test.YteaicgcfpcklkaaGreatDoorRows
import Derived.WalkKit
set_option linter.unusedSimpArgs false
set_option linter.unusedVariables false
set_option maxRecDepth 10000
set_option maxHeartbeats 64000000
noncomputable section
namespace Go.Proofs.YteaicgcfpcklkaaGreatDoor
open Go Go.RowKit
def AHZ:List Nat:=[0,1,2,6]
def AHa:CN:=⟨3,4,.seq (.region false [ VO 3 6 (.mov C0)]) (.seq (.region false [ PM 7 0,PM 8 1,PO 9 (B6 S1 S0),PO 10 (.mov S0),⟨.push,11,(G1 0),.mov V0⟩,⟨.push,12,(G1 1),.mov V2⟩,⟨.push,13,(G1 2),B5 S1 S0⟩,PO 14 (.pick S3 S0 C0),VS 3 6 0]) (.ret)),[.t 3]⟩
def t_0:List (Nat×Ak):=[]
def ee:Ak:=DN t_0 AHa [.bor,.bor,.bor]
theorem s_0:AQ Tryz.prog 73 ee:=AI _ rfl AL (by kernel_rfl:Ab Tryz.prog 73 AHa AHZ=true)
theorem M_0:ee.modes=[.bor,.bor,.bor]:=rfl
theorem Fl_0:ee.flat=true:=rfl
attribute [go_sem] M_0 Fl_0
theorem VD{n:Int}{low:Int}{high:Int}{y_:Bool}(h:DG n low high=some y_):ee.F [.int .i64 n,.int .i64 low,.int .i64 high]=⟨true,.bool y_,[.any,.any,.any]⟩:=by
 refine Ah rfl ?_;dsimp only[DG] at h;obtain rfl:=AA h;refine⟨0,fun L hL=>?_⟩;simp only[go_sem,AHa]
def fZ:IR:=.seq (.region false [ VO 7 17 (B1 V6 V5)]) (.seq (.cond V7 (.skip) (.exit 0)) (.seq (.block 1 (.seq (.region false [ PM 18 6,VS 2 3 0]) (.seq (.region false [ PM 19 0,PM 20 2,PO 21 (.ixStr S1 S0),PO 22 (B6 S0 (.c (.int .u8 (97)))),PO 23 (.mov S0),⟨.push,24,(G1 0),.mov V0⟩,⟨.push,25,(G1 1),.mov V2⟩,⟨.push,26,(G1 2),.ixStr S1 S0⟩,⟨.push,27,(G1 3),B5 S0 (.c (.int .u8 (122)))⟩,PO 28 (.pick S4 S0 (.c
 (.bool false))),VS 3 4 0]) (.seq (.region false [ PM 29 0,PM 30 2,PO 31 (.ixStr S1 S0),PO 32 (B6 S0 (.c (.int .u8 (48)))),PO 33 (.mov S0),⟨.push,34,(G1 0),.mov V0⟩,⟨.push,35,(G1 1),.mov V2⟩,⟨.push,36,(G1 2),.ixStr S1 S0⟩,⟨.push,37,(G1 3),B5 S0 (.c (.int .u8 (57)))⟩,PO 38 (.pick S4 S0 C0),PO 39 (.mov S0),⟨.push,40,(G0 0),.mov V0⟩,⟨.push,41,(G0 1),.mov V2⟩,⟨.push,42,(some
 (S2,false)),.ixStr S1 S0⟩,⟨.push,43,(G0 3),B2 S0 (.c (.int .u8 (45)))⟩,PO 44 (.pick S4 C1 S0),VS 4 5 0]) (.test false [ PM 45 3,PO 46 (.un .not S0),PO 47 (.mov S0),⟨.push,48,(G1 0),.mov V2⟩,⟨.push,49,(G1 1),B2 S0 (I6 0)⟩,⟨.push,50,(G1 2),.mov S0⟩,⟨.push,51,(G0 0),.mov V4⟩,⟨.push,52,(G0 1),.un .not S0⟩,⟨.push,53,(G1 5),.pick S2 C1 S0⟩,PO 54
 (.pick S6 S0 C0)] S0 (.seq (.region false [ VO 1 2 (.mov C0)]) (.ret)) (.skip)))))) (.region false [ PO 55 (B0 V6 (I6 1)),VS 6 16 0])))
def Wj:List Bool:=[true,false,false,false,false,true,true,false]
def Wi:List Bool:=[false,false,false,false,false,false,false,false]
def Wh:List Bool:=[false,true,false,false,false,false,false,false]
def AHY:List Nat:=[0,2,3,4,5,15,16,17]
def ACW:CN:=⟨1,8,.seq (.region false [ VO 1 2 (.mov C0)]) (.seq (.test false [ PM 6 0,PO 7 (.len true S0),PO 8 (B1 S0 (I6 1)),PO 9 (.mov S0),⟨.push,10,(G0 0),.mov V0⟩,⟨.push,11,(G0 1),.len true S0⟩,⟨.push,12,(G0 2),B4 S0 (I6 12)⟩,PO 13 (.pick S3 C1 S0)] S0 (.seq (.region false [ VO 1 2 (.mov C0)]) (.ret)) (.skip)) (.seq (.seq (.region false [ PM 14 0,VO 5 15 (.len true S0),VO 6 16 (.mov (I6 0))]) (.block 0
 (.loop Wj Wi Wh fZ))) (.seq (.region false [ VO 1 2 (.mov C1)]) (.ret)))),[.t 1]⟩
def t_1:List (Nat×Ak):=[]
def pm:Ak:=DN t_1 ACW [.bor]
theorem s_1:AQ Tryz.prog 74 pm:=AI _ rfl AL (by kernel_rfl:Ab Tryz.prog 74 ACW AHY=true)
theorem M_1:pm.modes=[.bor]:=rfl
theorem Fl_1:pm.flat=true:=rfl
attribute [go_sem] M_1 Fl_1
def gz(s_:List UInt8)(t15:Int):Int->St
 | t16=>⟨[.str s_,.any,.any,.any,.any,.int .i64 t15,.int .i64 t16,.any],[],[],true⟩
def gp(s_:List UInt8)(t15:Int):(Unit⊕Bool)->Fw
 | .inl y=>(.exit 0,⟨[.any,.any,.any,.any,.any,.any,.any,.any],[],[],true⟩)
 | .inr y=>(.ret,⟨[.any,.bool y,.any,.any,.any,.any,.any,.any],[],[],true⟩)
attribute [local go_sem] ACW gz gp fZ Wj Wi Wh in
theorem Sz{s_:List UInt8}{t15:Int}{sgm_:Int}{rho_:Unit⊕Bool}(h:AS (Gd s_ t15) sgm_=some rho_):∃ L0,∀ L,L0<=L->CV (Aq (AP t_1) L fZ) Wj Wi Wh L (gz s_ t15 sgm_)=gp s_ t15 rho_:=by
 refine Ax (E:=gz s_ t15) (R:=gp s_ t15) (fun y=>by first|(intro c;cases c)|(rcases y with y|y<;>(intro c;cases c))|(rcases y with y|y|y<;>(intro c;cases c))) ?_ h;clear h;intro t16 o_ h;dsimp only[Gd] at h;rcases AE h with⟨z2,h⟩|⟨z2,h⟩
 ·try simp only[go_sem,N1] at z2
  obtain⟨z3,h⟩:=AC h;try simp only[go_sem,N1,z2] at z3
  rcases AE h with⟨z4,h⟩|⟨z4,h⟩
  all_goals
  try simp only[go_sem,N1, *] at z4
  obtain rfl:=AA h;refine⟨0,fun L hL=>?_⟩;simp only[go_sem, *]
 ·try simp only[go_sem,N1] at z2
  obtain rfl:=AA h;refine⟨0,fun L hL=>?_⟩;simp only[go_sem,z2]
attribute [local go_sem] ACW gz gp Wj Wi Wh in
theorem lA{s_:List UInt8}{y_:Bool}(h:Bz s_=some y_):pm.F [.str s_]=⟨true,.bool y_,[.any]⟩:=by
 refine Ah rfl ?_;dsimp only[Bz] at h;rcases AE h with⟨z1,h⟩|⟨z1,h⟩
 ·try simp only[go_sem,N1] at z1
  obtain rfl:=AA h;refine⟨0,fun L hL=>?_⟩;simp only[go_sem,z1]
 ·try simp only[go_sem,N1] at z1
  obtain⟨y_5,z5,h⟩:=AB h;obtain⟨Lz5,ez5⟩:=Sz z5;rcases y_5 with y_5a|y_5b
  all_goals
  dsimp only at h;obtain rfl:=AA h;refine⟨Lz5,fun L hL=>?_⟩;have ez5:=ez5 L (by omega);try simp only[go_sem,z1] at ez5
  simp only[go_sem, *]
def AHW:List Nat:=[0,2]
def AHX:CN:=⟨1,2,.seq (.region false [ VO 1 2 (.mov C0)]) (.seq (.region false [ PM 3 0,PO 4 (.call 73 [S0,(.c (.int .i64 (-2000))),(I6 20000)]),VS 1 2 0]) (.ret)),[.t 1]⟩
def t_2:List (Nat×Ak):=[(73,ee)]
theorem ACK:AP t_2 73=some ee:=rfl
def vV:Ak:=DN t_2 AHX [.bor]
theorem s_2:AQ Tryz.prog 75 vV:=AI _ rfl (AF s_0 AL) (by kernel_rfl:Ab Tryz.prog 75 AHX AHW=true)
theorem M_2:vV.modes=[.bor]:=rfl
theorem Fl_2:vV.flat=true:=rfl
attribute [go_sem] M_2 Fl_2 ACK
theorem AAr{m:Int}{y_:Bool}(h:Bb m=some y_):vV.F [.int .i64 m]=⟨true,.bool y_,[.any]⟩:=by
 refine Ah rfl ?_;dsimp only[Bb] at h;obtain⟨y_1,z1,h⟩:=AB h;have fz1:=VD z1;try simp only[go_sem] at fz1
 obtain rfl:=AA h;refine⟨0,fun L hL=>?_⟩;simp only[go_sem,AHX,fz1]
def AIL:List Nat:=[0,1,2,3]
def nB:CN:=⟨1,4,.seq (.region false [ VO 1 1 (.box V0),VO 2 2 (.mov C0)]) (.seq (.region false [ PO 4 (F1 V1),PO 5 (L1 S0),PO 6 (.call 73 [S0,(I6 0),(I6 86399)]),PO 7 (.mov S0),⟨.push,8,(G1 0),F2 V1⟩,⟨.push,9,(G1 1),L1 S0⟩,⟨.push,10,(G1 2),.call 73 [S0,(.c (.int .i64 (-324000))),(I6 324000)]⟩,PO 11 (.pick S3 S0 C0),VS 3 3 0]) (.seq (.region false [ PO 12 (F0 V1),PO 13 (L1 S0),PO 14
 (.call 74 [S0]),PO 15 (.mov S0),⟨.push,16,(G1 0),.mov V3⟩,PO 17 (.pick S1 S0 C0),PO 18 (.mov S0),⟨.push,19,(G1 0),F3 V1⟩,⟨.push,20,(G1 1),L1 S0⟩,⟨.push,21,(G1 2),.call 75 [S0]⟩,PO 22 (.pick S3 S0 C0),PO 23 (.mov S0),⟨.push,24,(G1 0),F4 V1⟩,⟨.push,25,(G1 1),L1 S0⟩,⟨.push,26,(G1 2),.call 75 [S0]⟩,PO 27 (.pick S3 S0 (.c
 (.bool false))),PO 28 (.mov S0),⟨.push,29,(G1 0),F3 V1⟩,⟨.push,30,(G1 1),L1 S0⟩,⟨.push,31,(G1 2),F4 V1⟩,⟨.push,32,(G1 3),L1 S0⟩,⟨.push,33,(G1 4),B5 S2 S0⟩,PO 34 (.pick S5 S0 C0),VS 2 2 0]) (.ret))),[.t 2]⟩
def t_3:List (Nat×Ak):=[(73,ee),(74,pm),(75,vV)]
theorem ACJ:AP t_3 73=some ee:=rfl
theorem ACI:AP t_3 74=some pm:=rfl
theorem ACH:AP t_3 75=some vV:=rfl
def c_3:Ak:=DN t_3 nB [.bor]
theorem s_3:AQ Tryz.prog 43 c_3:=AI _ rfl (AF s_0 (AF s_1 (AF s_2 AL))) (by kernel_rfl:Ab Tryz.prog 43 nB AIL=true)
theorem M_3:c_3.modes=[.bor]:=rfl
theorem Fl_3:c_3.flat=true:=rfl
attribute [go_sem] M_3 Fl_3 ACJ ACI ACH
theorem APv{x:Star}{y_:Bool}(h:JF x=some y_):c_3.F [BV x]=⟨true,.bool y_,[.any]⟩:=by
 refine Ah rfl ?_;dsimp only[JF] at h;obtain⟨y_1,z1,h⟩:=AB h;have fz1:=VD z1;try simp only[go_sem] at fz1
 obtain⟨z2,h⟩:=AC h;rcases Ag z2 with⟨gz2,z2⟩|gz2
 ·try simp only[go_sem,N1] at gz2
  all_goals
  obtain⟨y_2,hz2⟩:=isX z2;have fz2:=VD hz2;try simp only[go_sem,N1,gz2] at hz2
  all_goals
  try simp only[go_sem,gz2] at fz2
  obtain⟨y_3,z3,h⟩:=AB h;have fz3:=lA z3;try simp only[go_sem, *] at fz3
  obtain⟨z4,h⟩:=AC h;rcases Ag z4 with⟨gz4,z4⟩|gz4
  ·try simp only[go_sem,N1, *] at gz4
   all_goals
   obtain⟨y_4,hz4⟩:=isX z4;have fz4:=AAr hz4;try simp only[go_sem,N1, *] at hz4
   all_goals
   try simp only[go_sem, *] at fz4
   obtain⟨z5,h⟩:=AC h;rcases Ag z5 with⟨gz5,z5⟩|gz5
   ·try simp only[go_sem,N1, *] at gz5
    all_goals
    obtain⟨y_5,hz5⟩:=isX z5;have fz5:=AAr hz5;try simp only[go_sem,N1, *] at hz5
    all_goals
    try simp only[go_sem, *] at fz5
    obtain rfl:=AA h;refine⟨0,fun L hL=>?_⟩;simp only[go_sem,nB, *]
   ·rcases HU gz5 with gz5a|⟨gz5a,gz5b⟩
    ·try simp only[go_sem,N1, *] at gz5a
     all_goals
     (simp_all)
    ·obtain⟨gz5aa,gz5ab⟩:=Vj gz5a;obtain⟨gz5aba,gz5abb⟩:=Vj gz5ab;try simp only[go_sem,N1, *] at gz5aa
     all_goals
     try simp only[go_sem,N1, *] at gz5aba
     all_goals
     try simp only[go_sem,N1, *] at gz5abb
     all_goals
     try simp only[go_sem,N1, *] at gz5b
     all_goals
     obtain rfl:=AA h;refine⟨0,fun L hL=>?_⟩;simp only[go_sem,nB, *]
  ·rcases HU gz4 with gz4a|⟨gz4a,gz4b⟩
   ·try simp only[go_sem,N1, *] at gz4a
    all_goals
    obtain⟨z5,h⟩:=AC h;obtain rfl:=AA h;refine⟨0,fun L hL=>?_⟩;simp only[go_sem,nB, *]
   ·rcases HU gz4b with gz4ba|⟨gz4ba,gz4bb⟩
    ·try simp only[go_sem,N1, *] at gz4ba
     all_goals
     (simp_all)
    ·try simp only[go_sem,N1, *] at gz4a
     all_goals
     try simp only[go_sem,N1, *] at gz4ba
     all_goals
     try simp only[go_sem,N1, *] at gz4bb
     all_goals
     obtain⟨z5,h⟩:=AC h;obtain rfl:=AA h;refine⟨0,fun L hL=>?_⟩;simp only[go_sem,nB, *]
 ·try simp only[go_sem,N1] at gz2
  all_goals
  obtain⟨y_3,z3,h⟩:=AB h;have fz3:=lA z3;try simp only[go_sem,gz2] at fz3
  obtain⟨z4,h⟩:=AC h;obtain⟨z5,h⟩:=AC h;obtain rfl:=AA h;refine⟨0,fun L hL=>?_⟩;simp only[go_sem,nB, *]
def AIJ:List Nat:=[0,1,2]
def AIK:CN:=⟨1,3,.seq (.region false [ VO 1 1 (.box V0),VO 2 2 (.mov C2)]) (.seq (.region false [ PO 3 (F0 V1),PO 4 (L1 S0),VS 2 2 0]) (.ret)),[.t 2]⟩
def t_4:List (Nat×Ak):=[]
def c_4:Ak:=DN t_4 AIK [.bor]
theorem s_4:AQ Tryz.prog 44 c_4:=AI _ rfl AL (by kernel_rfl:Ab Tryz.prog 44 AIK AIJ=true)
theorem M_4:c_4.modes=[.bor]:=rfl
theorem Fl_4:c_4.flat=true:=rfl
attribute [go_sem] M_4 Fl_4
theorem AAm{x:Star}{y_:(List UInt8)}(h:Cd x=some y_):c_4.F [BV x]=⟨true,.str y_,[.any]⟩:=by
 refine Ah rfl ?_;dsimp only[Cd] at h;obtain rfl:=AA h;refine⟨0,fun L hL=>?_⟩;simp only[go_sem,AIK]
def fj:IR:=.seq (.region false [ VO 10 18 (B1 V9 V8)]) (.seq (.cond (.v 10) (.skip) (.exit 0)) (.seq (.block 1 (.seq (.region false [ PM 19 9,PO 20 (.ixAddr 5 V7 V9),PO 21 (L5 S0),VO 6 10 (.alloc (.agg [.str [],.int .i64 (0),.int .i64 (0),.int .i64 (0),.int .i64 (0)])),VS 5 9 2,⟨.no,0,none,.store 5 V6 S0⟩]) (.anyo 21 [ SO 0 22 (.mov V2),SO 1 23 (L5 V6),SO 2 24 (.pur (.callv S0 [S1])),SO 3 25 (.un .not S2),SO 4 26 (.mov S3),⟨.slot 5,27,(G0 4),.mov V5⟩,⟨.slot 6,
 28,(G0 4),B4 S5 (I6 0)⟩,⟨.slot 7,29,(G0 4),.mov S6⟩,⟨.slot 8,30,(G1 7),.mov V3⟩,⟨.slot 9,31,(G1 7),.mov V0⟩,⟨.slot 10,32,(G1 7),.mov V5⟩,⟨.slot 11,33,(G1 7),B3 (.s 10) (I6 1)⟩,⟨.slot 12,34,(G1 7),.ixAddr 5 S9 (.s 11)⟩,⟨.slot 13,35,(G1 7),L5 (.s 12)⟩,⟨.slot 14,36,(G1 7),.callv S8 [(.s 13)]⟩,⟨.slot 15,37,(G1 7),.mov V3⟩,⟨.slot 16,38,(some
 (S7,true)),L5 V6⟩,⟨.slot 17,39,(G1 7),.callv (.s 15) [(.s 16)]⟩,⟨.slot 18,40,(G1 7),B6 (.s 14) (.s 17)⟩,⟨.slot 19,41,(G0 4),.pick S7 (.s 18) C0⟩,SO 20 42 (.pick S4 C1 (.s 19))] [] (.cond (.s 20) (.seq (.region false [ VO 4 8 (.mov C0)]) (.ret)) (.skip))))) (.region false [ PO 43 (B0 V9 (I6 1)),VS 9 17 0])))
def Ws:List Bool:=[true,false,true,true,false,false,false,true,true,true,false]
def Wr:List Bool:=[false,false,false,false,false,false,false,false,false,false,false]
def Wq:List Bool:=[false,false,false,false,true,false,false,false,false,false,false]
def AIM:List Nat:=[0,1,2,3,8,9,10,15,16,17,18]
def ACc:CN:=⟨4,11,.seq (.region false [ VO 4 8 (.mov C0)]) (.seq (.test false [ PM 11 0,PO 12 (.len false S0),PM 13 1,PO 14 (B4 S1 S0)] S0 (.seq (.region false [ VO 4 8 (.mov C0)]) (.ret)) (.skip)) (.seq (.seq (.region false [ VO 7 15 (.mov V0),VO 8 16 (.len false V7),VO 9 17 (.mov (I6 0))]) (.block 0 (.loop Ws Wr Wq fj))) (.seq (.region false [ VO 4 8 (.mov C1)]) (.ret)))),[.t 4]⟩
def t_5:List (Nat×Ak):=[(43,c_3),(44,c_4)]
theorem ACG:AP t_5 43=some c_3:=rfl
theorem ACF:AP t_5 44=some c_4:=rfl
def c_5:Ak:=DN t_5 ACc [.bor,.bor,.bor,.bor]
theorem s_5:AQ Tryz.prog 42 c_5:=AI _ rfl (AF s_3 (AF s_4 AL)) (by kernel_rfl:Ab Tryz.prog 42 ACc AIM=true)
theorem M_5:c_5.modes=[.bor,.bor,.bor,.bor]:=rfl
theorem Fl_5:c_5.flat=true:=rfl
attribute [go_sem] M_5 Fl_5 ACG ACF
def gy(list:List Star)(t15:List Star)(t16:Int):Int->St
 | t17=>⟨[.sl 5 (List.map BV list),.any,.fn (.func 43) [] [],.fn (.func 44) [] [],.any,.any,.any,.sl 5 (List.map BV t15),.int .i64 t16,.int .i64 t17,.any],[],[],true⟩
def gm(list:List Star)(t15:List Star)(t16:Int):(Unit⊕Bool)->Fw
 | .inl y=>(.exit 0,⟨[.any,.any,.any,.any,.any,.any,.any,.any,.any,.any,.any],[],[],true⟩)
 | .inr y=>(.ret,⟨[.any,.any,.any,.any,.bool y,.any,.any,.any,.any,.any,.any],[],[],true⟩)
attribute [local go_sem] ACc gy gm fj Ws Wr Wq in
theorem EI{list:List Star}{t15:List Star}{t16:Int}{sgm_:Int}{rho_:Unit⊕Bool}(h:AS (Ad list t15 t16) sgm_=some rho_):∃ L0,∀ L,L0<=L->CV (Aq (AP t_5) L fj) Ws Wr Wq L (gy list t15 t16 sgm_)=gm list t15 t16 rho_:=by
 refine Ax (E:=gy list t15 t16) (R:=gm list t15 t16) (fun y=>by first|(intro c;cases c)|(rcases y with y|y<;>(intro c;cases c))|(rcases y with y|y|y<;>(intro c;cases c))) ?_ h;clear h;intro t17 o_ h;dsimp only[Ad] at h;rcases AE h with⟨z2,h⟩|⟨z2,h⟩
 ·try simp only[go_sem,N1] at z2
  all_goals
  obtain⟨z3,h⟩:=AC h;have lz3:=Az z3;try simp only[go_sem] at lz3
  try simp only[go_sem,N1,z2] at z3
  all_goals
  obtain⟨y_4,z4,h⟩:=AB h;have fz4:=APv z4;try simp only[go_sem, *] at fz4
  obtain⟨z5,h⟩:=AC h;rcases Ag z5 with⟨gz5,z5⟩|gz5
  ·try simp only[go_sem,N1, *] at gz5
   all_goals
   have lz5:=Az z5;try simp only[go_sem] at lz5
   try simp only[go_sem,N1, *] at z5
   all_goals
   obtain⟨z6,h⟩:=AC h;rcases Ag z6 with⟨gz6,z6⟩|gz6
   ·try simp only[go_sem,N1, *] at gz6
    all_goals
    obtain⟨y_6,hz6⟩:=isX z6;have fz6:=AAm hz6;try simp only[go_sem,N1, *] at hz6
    all_goals
    try simp only[go_sem, *] at fz6
    obtain⟨z7,h⟩:=AC h;rcases Ag z7 with⟨gz7,z7⟩|gz7
    ·try simp only[go_sem,N1, *] at gz7
     all_goals
     obtain⟨y_7,hz7⟩:=isX z7;have fz7:=AAm hz7;try simp only[go_sem,N1, *] at hz7
     all_goals
     try simp only[go_sem, *] at fz7
     rcases AE h with⟨z8,h⟩|⟨z8,h⟩
     all_goals
     try simp only[go_sem,N1, *] at z8
     all_goals
     obtain rfl:=AA h;refine⟨0,fun L hL=>?_⟩;simp only[go_sem, *]
    ·rcases HU gz7 with gz7a|⟨gz7a,gz7b⟩
     ·try simp only[go_sem,N1, *] at gz7a
      all_goals
      (simp_all)
     ·have gz7an:=Is gz7a;have gz7ann:=FO gz7an;try simp only[go_sem,N1, *] at gz7ann
      all_goals
      try simp only[go_sem,N1, *] at gz7b
      all_goals
      rcases AE h with⟨z8,h⟩|⟨z8,h⟩
      ·try simp only[go_sem,N1, *] at z8
       all_goals
       (simp_all)
      ·try simp only[go_sem,N1, *] at z8
       all_goals
       obtain rfl:=AA h;refine⟨0,fun L hL=>?_⟩;simp only[go_sem, *]
   ·rcases HU gz6 with gz6a|⟨gz6a,gz6b⟩
    ·try simp only[go_sem,N1, *] at gz6a
     all_goals
     (simp_all)
    ·have gz6an:=Is gz6a;have gz6ann:=FO gz6an;try simp only[go_sem,N1, *] at gz6ann
     all_goals
     try simp only[go_sem,N1, *] at gz6b
     all_goals
     obtain⟨z7,h⟩:=AC h;rcases Ag z7 with⟨gz7,z7⟩|gz7
     ·try simp only[go_sem,N1, *] at gz7
      all_goals
      obtain⟨y_7,hz7⟩:=isX z7;have fz7:=AAm hz7;try simp only[go_sem,N1, *] at hz7
      all_goals
      try simp only[go_sem, *] at fz7
      rcases AE h with⟨z8,h⟩|⟨z8,h⟩
      all_goals
      try simp only[go_sem,N1, *] at z8
      all_goals
      obtain rfl:=AA h;refine⟨0,fun L hL=>?_⟩;simp only[go_sem, *]
     ·rcases HU gz7 with gz7a|⟨gz7a,gz7b⟩
      ·try simp only[go_sem,N1, *] at gz7a
       all_goals
       (simp_all)
      ·have gz7an:=Is gz7a;have gz7ann:=FO gz7an;try simp only[go_sem,N1, *] at gz7ann
       all_goals
       try simp only[go_sem,N1, *] at gz7b
       all_goals
       rcases AE h with⟨z8,h⟩|⟨z8,h⟩
       ·try simp only[go_sem,N1, *] at z8
        all_goals
        (simp_all)
       ·try simp only[go_sem,N1, *] at z8
        all_goals
        obtain rfl:=AA h;refine⟨0,fun L hL=>?_⟩;simp only[go_sem, *]
  ·rcases HU gz5 with gz5a|⟨gz5a,gz5b⟩
   ·have gz5an:=FO gz5a;have gz5ann:=Is gz5an;try simp only[go_sem,N1, *] at gz5ann
    all_goals
    obtain⟨z6,h⟩:=AC h;obtain⟨z7,h⟩:=AC h;rcases AE h with⟨z8,h⟩|⟨z8,h⟩
    ·try simp only[go_sem,N1, *] at z8
     all_goals
     obtain rfl:=AA h;refine⟨0,fun L hL=>?_⟩;simp only[go_sem, *]
    ·try simp only[go_sem,N1, *] at z8
     all_goals
     (simp_all)
   ·have gz5an:=Is gz5a;have gz5ann:=FO gz5an;try simp only[go_sem,N1, *] at gz5ann
    all_goals
    try simp only[go_sem,N1, *] at gz5b
    all_goals
    obtain⟨z6,h⟩:=AC h;obtain⟨z7,h⟩:=AC h;rcases AE h with⟨z8,h⟩|⟨z8,h⟩
    ·try simp only[go_sem,N1, *] at z8
     all_goals
     (simp_all)
    ·try simp only[go_sem,N1, *] at z8
     all_goals
     obtain rfl:=AA h;refine⟨0,fun L hL=>?_⟩;simp only[go_sem, *]
 ·try simp only[go_sem,N1] at z2
  all_goals
  obtain rfl:=AA h;refine⟨0,fun L hL=>?_⟩;simp only[go_sem,z2]
attribute [local go_sem] ACc gy gm Ws Wr Wq in
theorem Fs_5{list:List Star}{most:Int}{y_:Bool}(h:BQ list most=some y_):c_5.F [.sl 5 (List.map BV list),.int .i64 most,.fn (.func 43) [] [],.fn (.func 44) [] []]=⟨true,.bool y_,[.any,.any,.any,.any]⟩:=by
 refine Ah rfl ?_;dsimp only[BQ] at h;rcases AE h with⟨z1,h⟩|⟨z1,h⟩
 ·try simp only[go_sem,N1] at z1
  obtain rfl:=AA h;refine⟨0,fun L hL=>?_⟩;simp only[go_sem,z1]
 ·try simp only[go_sem,N1] at z1
  obtain⟨y_9,z9,h⟩:=AB h;obtain⟨Lz9,ez9⟩:=EI z9;rcases y_9 with y_9a|y_9b
  all_goals
  dsimp only at h;obtain rfl:=AA h;refine⟨Lz9,fun L hL=>?_⟩;have ez9:=ez9 L (by omega);try simp only[go_sem,z1] at ez9
  simp only[go_sem, *]
def AIi:List Nat:=[0,2]
def AIj:CN:=⟨1,2,.seq (.region false [ VO 1 2 (.mov C0)]) (.seq (.region false [ PM 3 0,PO 4 (.call 42 [S0,(I6 60),(.c (.fn (.func 43) [] [])),(.c (.fn (.func 44) [] []))]),VS 1 2 0]) (.ret)),[.t 1]⟩
def t_6:List (Nat×Ak):=[(42,c_5)]
theorem ACE:AP t_6 42=some c_5:=rfl
def c_6:Ak:=DN t_6 AIj [.bor]
theorem s_6:AQ Tryz.prog 24 c_6:=AI _ rfl (AF s_5 AL) (by kernel_rfl:Ab Tryz.prog 24 AIj AIi=true)
theorem M_6:c_6.modes=[.bor]:=rfl
theorem Fl_6:c_6.flat=true:=rfl
attribute [go_sem] M_6 Fl_6 ACE
theorem APf{list:List Star}{y_:Bool}(h:Fa list=some y_):c_6.F [.sl 5 (List.map BV list)]=⟨true,.bool y_,[.any]⟩:=by
 refine Ah rfl ?_;dsimp only[Fa] at h;obtain⟨y_1,z1,h⟩:=AB h;have fz1:=Fs_5 z1;try simp only[go_sem] at fz1
 obtain rfl:=AA h;refine⟨0,fun L hL=>?_⟩;simp only[go_sem,AIj,fz1]
def AHU:List Nat:=[0,2]
def AHV:CN:=⟨1,2,.seq (.region false [ VO 1 2 (.mov C0)]) (.seq (.region false [ PM 3 0,PO 4 (.call 73 [S0,(I6 0),(I6 10000000)]),VS 1 2 0]) (.ret)),[.t 1]⟩
def t_7:List (Nat×Ak):=[(73,ee)]
theorem ACD:AP t_7 73=some ee:=rfl
def c_7:Ak:=DN t_7 AHV [.bor]
theorem s_7:AQ Tryz.prog 76 c_7:=AI _ rfl (AF s_0 AL) (by kernel_rfl:Ab Tryz.prog 76 AHV AHU=true)
theorem M_7:c_7.modes=[.bor]:=rfl
theorem Fl_7:c_7.flat=true:=rfl
attribute [go_sem] M_7 Fl_7 ACD
theorem AJc{t:Int}{y_:Bool}(h:EG t=some y_):c_7.F [.int .i64 t]=⟨true,.bool y_,[.any]⟩:=by
 refine Ah rfl ?_;dsimp only[EG] at h;obtain⟨y_1,z1,h⟩:=AB h;have fz1:=VD z1;try simp only[go_sem] at fz1
 obtain rfl:=AA h;refine⟨0,fun L hL=>?_⟩;simp only[go_sem,AHV,fz1]
def AII:List Nat:=[0,1,2]
def tW:CN:=⟨1,3,.seq (.region false [ VO 1 1 (.box V0),VO 2 2 (.mov C0)]) (.seq (.region false [ PO 3 (F0 V1),PO 4 (L1 S0),PO 5 (.call 76 [S0]),PO 6 (.mov S0),⟨.push,7,(G1 0),F1 V1⟩,⟨.push,8,(G1 1),L1 S0⟩,⟨.push,9,(G1 2),.call 74 [S0]⟩,PO 10 (.pick S3 S0 C0),PO 11 (.mov S0),⟨.push,12,(G1 0),F2 V1⟩,⟨.push,13,(G1 1),L1 S0⟩,⟨.push,14,(some (S2,
 true)),.call 74 [S0]⟩,PO 15 (.pick S3 S0 C0),PO 16 (.mov S0),⟨.push,17,(G1 0),F3 V1⟩,⟨.push,18,(G1 1),L1 S0⟩,⟨.push,19,(G1 2),.call 75 [S0]⟩,PO 20 (.pick S3 S0 C0),VS 2 2 0]) (.ret)),[.t 2]⟩
def t_8:List (Nat×Ak):=[(76,c_7),(74,pm),(75,vV)]
theorem ACA:AP t_8 76=some c_7:=rfl
theorem ACC:AP t_8 74=some pm:=rfl
theorem ACB:AP t_8 75=some vV:=rfl
def c_8:Ak:=DN t_8 tW [.bor]
theorem s_8:AQ Tryz.prog 45 c_8:=AI _ rfl (AF s_7 (AF s_1 (AF s_2 AL))) (by kernel_rfl:Ab Tryz.prog 45 tW AII=true)
theorem M_8:c_8.modes=[.bor]:=rfl
theorem Fl_8:c_8.flat=true:=rfl
attribute [go_sem] M_8 Fl_8 ACA ACC ACB
theorem APR{e_:AD}{y_:Bool}(h:FY e_=some y_):c_8.F [AN e_]=⟨true,.bool y_,[.any]⟩:=by
 refine Ah rfl ?_;dsimp only[FY] at h;obtain⟨y_1,z1,h⟩:=AB h;have fz1:=AJc z1;try simp only[go_sem] at fz1
 obtain⟨z2,h⟩:=AC h;rcases Ag z2 with⟨gz2,z2⟩|gz2
 ·try simp only[go_sem,N1] at gz2
  all_goals
  obtain⟨y_2,hz2⟩:=isX z2;have fz2:=lA hz2;try simp only[go_sem,N1,gz2] at hz2
  all_goals
  try simp only[go_sem,gz2] at fz2
  obtain⟨z3,h⟩:=AC h;rcases Ag z3 with⟨gz3,z3⟩|gz3
  ·try simp only[go_sem,N1, *] at gz3
   all_goals
   obtain⟨y_3,hz3⟩:=isX z3;have fz3:=lA hz3;try simp only[go_sem,N1, *] at hz3
   all_goals
   try simp only[go_sem, *] at fz3
   obtain⟨z4,h⟩:=AC h;rcases Ag z4 with⟨gz4,z4⟩|gz4
   ·try simp only[go_sem,N1, *] at gz4
    all_goals
    obtain⟨y_4,hz4⟩:=isX z4;have fz4:=AAr hz4;try simp only[go_sem,N1, *] at hz4
    all_goals
    try simp only[go_sem, *] at fz4
    obtain rfl:=AA h;refine⟨0,fun L hL=>?_⟩;simp only[go_sem,tW, *]
   ·rcases HU gz4 with gz4a|⟨gz4a,gz4b⟩
    ·try simp only[go_sem,N1, *] at gz4a
     all_goals
     (simp_all)
    ·obtain⟨gz4aa,gz4ab⟩:=Vj gz4a;try simp only[go_sem,N1, *] at gz4aa
     all_goals
     try simp only[go_sem,N1, *] at gz4ab
     all_goals
     try simp only[go_sem,N1, *] at gz4b
     all_goals
     obtain rfl:=AA h;refine⟨0,fun L hL=>?_⟩;simp only[go_sem,tW, *]
  ·rcases HU gz3 with gz3a|⟨gz3a,gz3b⟩
   ·try simp only[go_sem,N1, *] at gz3a
    all_goals
    (simp_all)
   ·try simp only[go_sem,N1, *] at gz3a
    all_goals
    try simp only[go_sem,N1, *] at gz3b
    all_goals
    obtain⟨z4,h⟩:=AC h;obtain rfl:=AA h;refine⟨0,fun L hL=>?_⟩;simp only[go_sem,tW, *]
 ·try simp only[go_sem,N1] at gz2
  all_goals
  obtain⟨z3,h⟩:=AC h;obtain⟨z4,h⟩:=AC h;obtain rfl:=AA h;refine⟨0,fun L hL=>?_⟩;simp only[go_sem,tW, *]
def ADn:List Nat:=[0,2]
def zR:CN:=⟨1,2,.seq (.region false [ VO 1 2 (.mov C0)]) (.seq (.region false [ PM 3 0,PM 4 0,PO 5 (B7 S1 S0),VS 1 2 0]) (.ret)),[.t 1]⟩
def t_9:List (Nat×Ak):=[]
def c_9:Ak:=DN t_9 zR [.bor]
theorem s_9:AQ Tryz.prog 116 c_9:=AI _ rfl AL (by kernel_rfl:Ab Tryz.prog 116 zR ADn=true)
theorem M_9:c_9.modes=[.bor]:=rfl
theorem Fl_9:c_9.flat=true:=rfl
attribute [go_sem] M_9 Fl_9
theorem APJ{x:Int}{y_:Bool}(h:HT x=some y_):c_9.F [.int .i64 x]=⟨true,.bool y_,[.any]⟩:=by
 refine Ah rfl ?_;dsimp only[HT] at h;obtain rfl:=AA h;refine⟨0,fun L hL=>?_⟩;simp only[go_sem,zR]
def AHS:List Nat:=[0,1,4,5,6]
def tT:CN:=⟨2,5,.seq (.region false [ VO 2 4 (.mov (I6 0))]) (.seq (.region false [ PM 7 0,PO 8 (.call 116 [S0]),VS 3 5 0]) (.seq (.region false [ PM 9 1,PO 10 (.call 116 [S0]),VS 4 6 0]) (.seq (.test false [ PM 11 3] S0 (.seq (.test false [ PM 12 4] S0 (.seq (.region false [ VO 2 4 (.mov (I6 0))]) (.ret)) (.skip)) (.seq (.region false [ VO 2 4 (.mov (.c (.int .i64 (-1))))]) (.ret))) (.skip)) (.seq (.test false [ PM 13 4] S0 (.seq (.region false [ VO 2 4 (.mov (I6 1))]) (.ret)) (.skip)) (.seq (.test false [ PM 14 0,PM 15 1,PO 16 (B1 S1 (.s
 0))] S0 (.seq (.region false [ VO 2 4 (.mov (.c (.int .i64 (-1))))]) (.ret)) (.skip)) (.seq (.test false [ PM 17 0,PM 18 1,PO 19 (B4 S1 S0)] S0 (.seq (.region false [ VO 2 4 (.mov (I6 1))]) (.ret)) (.skip)) (.seq (.region false [ VO 2 4 (.mov (I6 0))]) (.ret)))))))),[.t 2]⟩
def AMJ:List (Nat×Ak):=[(116,c_9)]
theorem tC:AP AMJ 116=some c_9:=rfl
def vE:Ak:=DN AMJ tT [.bor,.bor]
theorem s_10:AQ Tryz.prog 78 vE:=AI _ rfl (AF s_9 AL) (by kernel_rfl:Ab Tryz.prog 78 tT AHS=true)
theorem M_10:vE.modes=[.bor,.bor]:=rfl
theorem ARf:vE.flat=true:=rfl
attribute [go_sem] M_10 ARf tC
theorem AQD{x:Int}{y:Int}{y_:Int}(h:Ft x y=some y_):vE.F [.int .i64 x,.int .i64 y]=⟨true,.int .i64 y_,[.any,.any]⟩:=by
 refine Ah rfl ?_;dsimp only[Ft] at h;obtain⟨y_1,z1,h⟩:=AB h;have fz1:=APJ z1;try simp only[go_sem] at fz1
 obtain⟨y_2,z2,h⟩:=AB h;have fz2:=APJ z2;try simp only[go_sem] at fz2
 rcases AE h with⟨z3,h⟩|⟨z3,h⟩
 ·try simp only[go_sem,N1] at z3
  rcases AE h with⟨z4,h⟩|⟨z4,h⟩
  all_goals
  try simp only[go_sem,N1,z3] at z4
  obtain rfl:=AA h;refine⟨0,fun L hL=>?_⟩;simp only[go_sem,tT, *]
 ·try simp only[go_sem,N1] at z3
  rcases AE h with⟨z5,h⟩|⟨z5,h⟩
  ·try simp only[go_sem,N1,z3] at z5
   obtain rfl:=AA h;refine⟨0,fun L hL=>?_⟩;simp only[go_sem,tT, *]
  ·try simp only[go_sem,N1,z3] at z5
   rcases AE h with⟨z6,h⟩|⟨z6,h⟩
   ·try simp only[go_sem,N1, *] at z6
    obtain rfl:=AA h;refine⟨0,fun L hL=>?_⟩;simp only[go_sem,tT, *]
   ·try simp only[go_sem,N1, *] at z6
    rcases AE h with⟨z7,h⟩|⟨z7,h⟩
    all_goals
    try simp only[go_sem,N1, *] at z7
    obtain rfl:=AA h;refine⟨0,fun L hL=>?_⟩;simp only[go_sem,tT, *]
theorem AGg:AQ Tryz.prog 165 Ow:=nL Tryz.func165 (by kernel_rfl) (by kernel_rfl) (by kernel_rfl) (by kernel_rfl)
def ADm:List Nat:=[0,1,4]
def zQ:CN:=⟨2,3,.seq (.region false [ VO 2 4 (.mov (I6 0))]) (.seq (.region false [ PM 5 0,PM 6 1,PO 7 (.call 165 [S1,S0]),VS 2 4 0]) (.ret)),[.t 2]⟩
def AME:List (Nat×Ak):=[(165,Ow)]
theorem sC:AP AME 165=some Ow:=rfl
def vD:Ak:=DN AME zQ [.bor,.bor]
theorem s_12:AQ Tryz.prog 117 vD:=AI _ rfl (AF AGg AL) (by kernel_rfl:Ab Tryz.prog 117 zQ ADm=true)
theorem M_12:vD.modes=[.bor,.bor]:=rfl
theorem ARe:vD.flat=true:=rfl
attribute [go_sem] M_12 ARe sC
theorem AQC{a:List UInt8}{b:List UInt8}{y_:Int}(h:Dr a b=some y_):vD.F [.str a,.str b]=⟨true,.int .i64 y_,[.any,.any]⟩:=by
 refine Ah rfl ?_;dsimp only[Dr] at h;obtain⟨y_1,z1,h⟩:=AB h;have fz1:=AEe z1;try simp only[go_sem] at fz1
 obtain rfl:=AA h;refine⟨0,fun L hL=>?_⟩;simp only[go_sem,zQ,fz1]
def AHQ:List Nat:=[0,1,4]
def AHR:CN:=⟨2,3,.seq (.region false [ VO 2 4 (.mov (I6 0))]) (.seq (.region false [ PM 5 0,PM 6 1,PO 7 (.call 117 [S1,S0]),VS 2 4 0]) (.ret)),[.t 2]⟩
def AMB:List (Nat×Ak):=[(117,vD)]
theorem sB:AP AMB 117=some vD:=rfl
def vC:Ak:=DN AMB AHR [.bor,.bor]
theorem s_13:AQ Tryz.prog 79 vC:=AI _ rfl (AF s_12 AL) (by kernel_rfl:Ab Tryz.prog 79 AHR AHQ=true)
theorem M_13:vC.modes=[.bor,.bor]:=rfl
theorem ARd:vC.flat=true:=rfl
attribute [go_sem] M_13 ARd sB
theorem AGB{a:List UInt8}{b:List UInt8}{y_:Int}(h:HD a b=some y_):vC.F [.str a,.str b]=⟨true,.int .i64 y_,[.any,.any]⟩:=by
 refine Ah rfl ?_;dsimp only[HD] at h;obtain⟨y_1,z1,h⟩:=AB h;have fz1:=AQC z1;try simp only[go_sem] at fz1
 obtain rfl:=AA h;refine⟨0,fun L hL=>?_⟩;simp only[go_sem,AHR,fz1]
def fY:IR:=.seq (.region false [ VO 7 9 (B1 V6 V5)]) (.seq (.cond V7 (.skip) (.exit 0)) (.seq (.block 1 (.seq (.region false [ PO 10 (.ixAddr 1 V4 V6),PO 11 (L1 S0),VS 3 5 0]) (.test false [ PM 12 3,PM 13 2,PO 14 (B7 S1 S0)] S0 (.seq (.region false [ PM 15 3,VS 1 2 0]) (.ret)) (.skip)))) (.region false [ PO 16 (B0 V6 (I6 1)),VS 6 8 0])))
def Wg:List Bool:=[false,false,true,false,true,true,true,false]
def Wf:List Bool:=[false,false,true,false,false,false,false,false]
def We:List Bool:=[false,true,false,false,false,false,false,false]
def AHT:List Nat:=[0,2,3,5,6,7,8,9]
def ACV:CN:=⟨1,8,.seq (.region false [ VO 1 2 (.mov (I6 0))]) (.seq (.region false [ VO 2 3 (.mov (I6 0))]) (.seq (.seq (.region false [ VO 4 6 (.mov V0),VO 5 7 (.len false V4),VO 6 8 (.mov (I6 0))]) (.block 0 (.loop Wg Wf We fY))) (.seq (.region false [ PM 17 2,VS 1 2 0]) (.ret)))),[.t 1]⟩
def ALx:List (Nat×Ak):=[]
def vB:Ak:=DN ALx ACV [.bor]
theorem s_14:AQ Tryz.prog 77 vB:=AI _ rfl AL (by kernel_rfl:Ab Tryz.prog 77 ACV AHT=true)
theorem M_14:vB.modes=[.bor]:=rfl
theorem ARc:vB.flat=true:=rfl
attribute [go_sem] M_14 ARc
def YR(zero:Int)(t6:List Int)(t7:Int):Int->St
 | t8=>⟨[.any,.any,.int .i64 zero,.any,.sl 1 (List.map (AV.int .i64) t6),.int .i64 t7,.int .i64 t8,.any],[],[],true⟩
def Xr(zero:Int)(t6:List Int)(t7:Int):(Unit⊕Int)->Fw
 | .inl y=>(.exit 0,⟨[.any,.any,.int .i64 zero,.any,.any,.any,.any,.any],[],[],true⟩)
 | .inr y=>(.ret,⟨[.any,.int .i64 y,.any,.any,.any,.any,.any,.any],[],[],true⟩)
attribute [local go_sem] ACV YR Xr fY Wg Wf We in
theorem Ut{zero:Int}{t6:List Int}{t7:Int}{sgm_:Int}{rho_:Unit⊕Int}(h:AS (Hh zero t6 t7) sgm_=some rho_):∃ L0,∀ L,L0<=L->CV (Aq (AP ALx) L fY) Wg Wf We L (YR zero t6 t7 sgm_)=Xr zero t6 t7 rho_:=by
 refine Ax (E:=YR zero t6 t7) (R:=Xr zero t6 t7) (fun y=>by first|(intro c;cases c)|(rcases y with y|y<;>(intro c;cases c))|(rcases y with y|y|y<;>(intro c;cases c))) ?_ h;clear h;intro t8 o_ h;dsimp only[Hh] at h;rcases AE h with⟨z1,h⟩|⟨z1,h⟩
 ·try simp only[go_sem,N1] at z1
  obtain⟨z2,h⟩:=AC h;have lz2:=Az z2;try simp only[go_sem] at lz2
  try simp only[go_sem,N1,z1] at z2
  rcases AE h with⟨z3,h⟩|⟨z3,h⟩
  all_goals
  try simp only[go_sem,N1, *] at z3
  obtain rfl:=AA h;refine⟨0,fun L hL=>?_⟩;simp only[go_sem, *]
 ·try simp only[go_sem,N1] at z1
  obtain rfl:=AA h;refine⟨0,fun L hL=>?_⟩;simp only[go_sem,z1]
attribute [local go_sem] YR Xr Wg Wf We ACV in
theorem AQB{vals:List Int}{y_:Int}(h:LX vals=some y_):vB.F [.sl 1 (List.map (AV.int .i64) vals)]=⟨true,.int .i64 y_,[.any]⟩:=by
 refine Ah rfl ?_;dsimp only[LX] at h;obtain⟨y_4,z4,h⟩:=AB h;obtain⟨Lz4,ez4⟩:=Ut z4;rcases y_4 with y_4a|y_4b
 all_goals
 dsimp only at h;obtain rfl:=AA h;refine⟨Lz4,fun L hL=>?_⟩;have ez4:=ez4 L (by omega);try simp only[go_sem] at ez4
 simp only[go_sem,ez4]
def AIG:List Nat:=[0,1,2,3,4]
def AIH:CN:=⟨2,5,.seq (.region false [ VO 2 2 (.box V0),VO 3 3 (.box V1),VO 4 4 (.mov (I6 0))]) (.seq (.anyo 17 [ SO 0 5 (F0 V2),SO 1 6 (L1 S0),SO 2 7 (F0 V3),SO 3 8 (L1 S2),SO 4 9 (.callp 78 [S1,S3]),SO 5 10 (F1 V2),SO 6 11 (L1 S5),SO 7 12 (F1 V3),SO 8 13 (L1 S7),SO 9 14 (.callp 79 [S6,S8]),SO 10 15 (F2 V2),SO 11 16 (L1 (.s 10)),SO 12 17 (F2 V3),SO 13 18 (L1 (.s 12)),SO 14 19 (.callp 79 [(.s
 11),(.s 13)]),SO 15 20 (.pur (.mkSl 1 (.int .i64 (0)) 3 [(0,S4),(1,S9),(2,(.s 14))])),SO 16 21 (.callp 77 [(.s 15)]),VS 4 4 16] [] .skip) (.ret)),[.t 4]⟩
def ABY:List (Nat×Ak):=[(78,vE),(79,vC),(77,vB)]
theorem yV:AP ABY 78=some vE:=rfl
theorem yU:AP ABY 79=some vC:=rfl
theorem yW:AP ABY 77=some vB:=rfl
def kg:Ak:=DN ABY AIH [.bor,.bor]
theorem AMm:AQ Tryz.prog 46 kg:=AI _ rfl (AF s_10 (AF s_13 (AF s_14 AL))) (by kernel_rfl:Ab Tryz.prog 46 AIH AIG=true)
theorem M_15:kg.modes=[.bor,.bor]:=rfl
theorem ARb:kg.flat=true:=rfl
attribute [go_sem] M_15 ARb yV yU yW
theorem AAs{a:AD}{b:AD}{y_:Int}(h:BT a b=some y_):kg.F [AN a,AN b]=⟨true,.int .i64 y_,[.any,.any]⟩:=by
 refine Ah rfl ?_;dsimp only[BT] at h;obtain⟨y_1,z1,h⟩:=AB h;have fz1:=AQD z1;try simp only[go_sem] at fz1
 obtain⟨y_2,z2,h⟩:=AB h;have fz2:=AGB z2;try simp only[go_sem] at fz2
 obtain⟨y_3,z3,h⟩:=AB h;have fz3:=AGB z3;try simp only[go_sem] at fz3
 obtain⟨y_4,z4,h⟩:=AB h;have fz4:=AQB z4;try simp only[go_sem] at fz4
 obtain rfl:=AA h;refine⟨0,fun L hL=>?_⟩;simp only[go_sem,AIH, *]
def fw:IR:=.seq (.region false [ VO 7 11 (B1 V6 V5)]) (.seq (.cond V7 (.skip) (.exit 0)) (.seq (.block 1 (.seq (.region false [ PM 12 6,PO 13 (.ixAddr 5 V4 V6),PO 14 (L5 S0),VO 3 4 (.alloc (.agg [.int .i64 (0),.str [],.str [],.int .i64 (0),.bool false])),VS 2 3 2,⟨.no,0,none,.store 5 V3 S0⟩]) (.anyo 17 [ SO 0 15 (L5 V3),SO 1 16 (.callp 45 [S0]),SO 2 17 (.un .not S1),SO 3 18 (.mov S2),⟨.slot 4,19,(G0 3),.mov V2⟩,⟨.slot 5,20,(G0 3),.bin false .gtr
 S4 (I6 0)⟩,⟨.slot 6,21,(G0 3),.mov S5⟩,⟨.slot 7,22,(G1 6),.mov V0⟩,⟨.slot 8,23,(G1 6),.mov V2⟩,⟨.slot 9,24,(G1 6),B3 S8 (I6 1)⟩,⟨.slot 10,25,(G1 6),.ixAddr 5 S7 S9⟩,⟨.slot 11,26,(G1 6),L5 (.s 10)⟩,⟨.slot 12,27,(G1 6),L5 V3⟩,⟨.slot 13,28,(G1 6),.call 46 [(.s 11),(.s 12)]⟩,⟨.slot 14,29,(G1 6),B6 (.s 13) (I6 0)⟩,⟨.slot 15,30,(some (S3,
 false)),.pick S6 (.s 14) C0⟩,SO 16 31 (.pick S3 C1 (.s 15))] [] (.cond (.s 16) (.seq (.region false [ VO 1 2 (.mov C0)]) (.ret)) (.skip))))) (.region false [ PO 32 (B0 V6 (I6 1)),VS 6 10 0])))
def XH:List Bool:=[true,false,false,false,true,true,true,false]
def XG:List Bool:=[false,false,false,false,false,false,false,false]
def XF:List Bool:=[false,true,false,false,false,false,false,false]
def AIh:List Nat:=[0,2,3,4,8,9,10,11]
def ACj:CN:=⟨1,8,.seq (.region false [ VO 1 2 (.mov C0)]) (.seq (.test false [ PM 5 0,PO 6 (.len false S0),PO 7 (B4 S0 (I6 100))] S0 (.seq (.region false [ VO 1 2 (.mov C0)]) (.ret)) (.skip)) (.seq (.seq (.region false [ VO 4 8 (.mov V0),VO 5 9 (.len false V4),VO 6 10 (.mov (I6 0))]) (.block 0 (.loop XH XG XF fw))) (.seq (.region false [ VO 1 2 (.mov C1)]) (.ret)))),[.t 1]⟩
def ABX:List (Nat×Ak):=[(45,c_8),(46,kg)]
theorem yT:AP ABX 45=some c_8:=rfl
theorem yS:AP ABX 46=some kg:=rfl
def Vw:Ak:=DN ABX ACj [.bor]
theorem wN:AQ Tryz.prog 25 Vw:=AI _ rfl (AF s_8 (AF AMm AL)) (by kernel_rfl:Ab Tryz.prog 25 ACj AIh=true)
theorem AOG:Vw.modes=[.bor]:=rfl
theorem ARa:Vw.flat=true:=rfl
attribute [go_sem] AOG ARa yT yS
def YQ(list:List AD)(t8:List AD)(t9:Int):Int->St
 | t10=>⟨[.sl 5 (List.map AN list),.any,.any,.any,.sl 5 (List.map AN t8),.int .i64 t9,.int .i64 t10,.any],[],[],true⟩
def Xq(list:List AD)(t8:List AD)(t9:Int):(Unit⊕Bool)->Fw
 | .inl y=>(.exit 0,⟨[.any,.any,.any,.any,.any,.any,.any,.any],[],[],true⟩)
 | .inr y=>(.ret,⟨[.any,.bool y,.any,.any,.any,.any,.any,.any],[],[],true⟩)
attribute [local go_sem] ACj YQ Xq fw XH XG XF in
theorem Lf{list:List AD}{t8:List AD}{t9:Int}{sgm_:Int}{rho_:Unit⊕Bool}(h:AS (CU list t8 t9) sgm_=some rho_):∃ L0,∀ L,L0<=L->CV (Aq (AP ABX) L fw) XH XG XF L (YQ list t8 t9 sgm_)=Xq list t8 t9 rho_:=by
 refine Ax (E:=YQ list t8 t9) (R:=Xq list t8 t9) (fun y=>by first|(intro c;cases c)|(rcases y with y|y<;>(intro c;cases c))|(rcases y with y|y|y<;>(intro c;cases c))) ?_ h;clear h;intro t10 o_ h;dsimp only[CU] at h;rcases AE h with⟨z2,h⟩|⟨z2,h⟩
 ·try simp only[go_sem,N1] at z2
  all_goals
  obtain⟨z3,h⟩:=AC h;have lz3:=Az z3;try simp only[go_sem] at lz3
  try simp only[go_sem,N1,z2] at z3
  all_goals
  obtain⟨y_4,z4,h⟩:=AB h;have fz4:=APR z4;try simp only[go_sem, *] at fz4
  obtain⟨z5,h⟩:=AC h;rcases Ag z5 with⟨gz5,z5⟩|gz5
  ·try simp only[go_sem,N1, *] at gz5
   all_goals
   have lz5:=Az z5;try simp only[go_sem] at lz5
   try simp only[go_sem,N1, *] at z5
   all_goals
   obtain⟨z6,h⟩:=AC h;rcases Ag z6 with⟨gz6,z6⟩|gz6
   ·try simp only[go_sem,N1, *] at gz6
    all_goals
    obtain⟨y_6,hz6⟩:=isX z6;have fz6:=AAs hz6;try simp only[go_sem,N1, *] at hz6
    all_goals
    try simp only[go_sem, *] at fz6
    rcases AE h with⟨z7,h⟩|⟨z7,h⟩
    all_goals
    try simp only[go_sem,N1, *] at z7
    all_goals
    obtain rfl:=AA h;refine⟨0,fun L hL=>?_⟩;simp only[go_sem, *]
   ·rcases HU gz6 with gz6a|⟨gz6a,gz6b⟩
    ·try simp only[go_sem,N1, *] at gz6a
     all_goals
     (simp_all)
    ·have gz6an:=Is gz6a;have gz6ann:=FO gz6an;try simp only[go_sem,N1, *] at gz6ann
     all_goals
     try simp only[go_sem,N1, *] at gz6b
     all_goals
     rcases AE h with⟨z7,h⟩|⟨z7,h⟩
     ·try simp only[go_sem,N1, *] at z7
      all_goals
      (simp_all)
     ·try simp only[go_sem,N1, *] at z7
      all_goals
      obtain rfl:=AA h;refine⟨0,fun L hL=>?_⟩;simp only[go_sem, *]
  ·rcases HU gz5 with gz5a|⟨gz5a,gz5b⟩
   ·have gz5an:=FO gz5a;have gz5ann:=Is gz5an;try simp only[go_sem,N1, *] at gz5ann
    all_goals
    obtain⟨z6,h⟩:=AC h;rcases AE h with⟨z7,h⟩|⟨z7,h⟩
    ·try simp only[go_sem,N1, *] at z7
     all_goals
     obtain rfl:=AA h;refine⟨0,fun L hL=>?_⟩;simp only[go_sem, *]
    ·try simp only[go_sem,N1, *] at z7
     all_goals
     (simp_all)
   ·have gz5an:=Is gz5a;have gz5ann:=FO gz5an;try simp only[go_sem,N1, *] at gz5ann
    all_goals
    try simp only[go_sem,N1, *] at gz5b
    all_goals
    obtain⟨z6,h⟩:=AC h;rcases AE h with⟨z7,h⟩|⟨z7,h⟩
    ·try simp only[go_sem,N1, *] at z7
     all_goals
     (simp_all)
    ·try simp only[go_sem,N1, *] at z7
     all_goals
     obtain rfl:=AA h;refine⟨0,fun L hL=>?_⟩;simp only[go_sem, *]
 ·try simp only[go_sem,N1] at z2
  all_goals
  obtain rfl:=AA h;refine⟨0,fun L hL=>?_⟩;simp only[go_sem,z2]
attribute [local go_sem] ACj YQ Xq XH XG XF in
theorem ky{list:List AD}{y_:Bool}(h:BK list=some y_):Vw.F [.sl 5 (List.map AN list)]=⟨true,.bool y_,[.any]⟩:=by
 refine Ah rfl ?_;dsimp only[BK] at h;rcases AE h with⟨z1,h⟩|⟨z1,h⟩
 ·try simp only[go_sem,N1] at z1
  obtain rfl:=AA h;refine⟨0,fun L hL=>?_⟩;simp only[go_sem,z1]
 ·try simp only[go_sem,N1] at z1
  obtain⟨y_8,z8,h⟩:=AB h;obtain⟨Lz8,ez8⟩:=Lf z8;rcases y_8 with y_8a|y_8b
  all_goals
  dsimp only at h;obtain rfl:=AA h;refine⟨Lz8,fun L hL=>?_⟩;have ez8:=ez8 L (by omega);try simp only[go_sem,z1] at ez8
  simp only[go_sem, *]
def AIC:List Nat:=[0,1,2,3]
def AID:CN:=⟨2,4,.seq (.region false [ VO 2 2 (.box V0),VO 3 3 (.mov C0)]) (.seq (.region false [ PO 4 (F0 V2),PO 5 (L1 S0),PO 6 (L1 V1),PO 7 (B2 S1 S0),VS 3 3 0]) (.ret)),[.t 3]⟩
def t_17:List (Nat×Ak):=[]
def vA:Ak:=DN t_17 AID [.bor,.bor]
theorem s_17:AQ Tryz.prog 48 vA:=AI _ rfl AL (by kernel_rfl:Ab Tryz.prog 48 AID AIC=true)
theorem M_17:vA.modes=[.bor,.bor]:=rfl
theorem ARZ:vA.flat=true:=rfl
attribute [go_sem] M_17 ARZ
theorem AQA{x:Star}{t1:List UInt8}{y_:Bool}(h:Io x t1=some y_):vA.F [BV x,.ptr 1 [.str t1] 0 0]=⟨true,.bool y_,[.any,.any]⟩:=by
 refine Ah rfl ?_;dsimp only[Io] at h;obtain rfl:=AA h;refine⟨0,fun L hL=>?_⟩;simp only[go_sem,AID]
def fX:IR:=.seq (.region false [ VO 6 9 (B1 V5 V4)]) (.seq (.cond V6 (.skip) (.exit 0)) (.seq (.block 1 (.seq (.region false [ PM 10 5,VS 3 5 0]) (.test false [ PM 11 1,PM 12 0,PM 13 3,PO 14 (.ixAddr 5 S1 S0),PO 15 (L5 S0),PO 16 (.callv S4 [S0])] S0 (.seq (.region false [ PM 17 3,VS 2 4 0]) (.ret)) (.skip)))) (.region false [ PO 18 (B0 V5 (I6 1)),VS 5 8 0])))
def Wd:List Bool:=[true,true,false,false,true,true,false]
def Wc:List Bool:=[false,false,false,false,false,false,false]
def Wb:List Bool:=[false,false,true,false,false,false,false]
def AHP:List Nat:=[0,1,4,5,7,8,9]
def ACU:CN:=⟨2,7,.seq (.region false [ VO 2 4 (.mov (I6 0))]) (.seq (.seq (.region false [ PM 6 0,VO 4 7 (.len false S0),VO 5 8 (.mov (I6 0))]) (.block 0 (.loop Wd Wc Wb fX))) (.seq (.region false [ VO 2 4 (.mov (.c (.int .i64 (-1))))]) (.ret))),[.t 2]⟩
def AGW:List (Nat×Ak):=[(48,vA)]
theorem yR:AP AGW 48=some vA:=rfl
def uz:Ak:=DN AGW ACU [.bor,.bor]
theorem s_18:AQ Tryz.prog 80 uz:=AI _ rfl (AF s_17 AL) (by kernel_rfl:Ab Tryz.prog 80 ACU AHP=true)
theorem M_18:uz.modes=[.bor,.bor]:=rfl
theorem ARY:uz.flat=true:=rfl
attribute [go_sem] M_18 ARY yR
def YP(s_:List Star)(c:List UInt8)(t7:Int):Int->St
 | t8=>⟨[.sl 5 (List.map BV s_),.fn (.func 48) [] [.ptr 1 [.str c] 0 0],.any,.any,.int .i64 t7,.int .i64 t8,.any],[],[],true⟩
def Xp(s_:List Star)(c:List UInt8)(t7:Int):(Unit⊕Int)->Fw
 | .inl y=>(.exit 0,⟨[.any,.any,.any,.any,.any,.any,.any],[],[],true⟩)
 | .inr y=>(.ret,⟨[.any,.any,.int .i64 y,.any,.any,.any,.any],[],[],true⟩)
attribute [local go_sem] ACU YP Xp fX Wd Wc Wb in
theorem Dn{s_:List Star}{c:List UInt8}{t7:Int}{sgm_:Int}{rho_:Unit⊕Int}(h:AS (Af s_ c t7) sgm_=some rho_):∃ L0,∀ L,L0<=L->CV (Aq (AP AGW) L fX) Wd Wc Wb L (YP s_ c t7 sgm_)=Xp s_ c t7 rho_:=by
 refine Ax (E:=YP s_ c t7) (R:=Xp s_ c t7) (fun y=>by first|(intro c;cases c)|(rcases y with y|y<;>(intro c;cases c))|(rcases y with y|y|y<;>(intro c;cases c))) ?_ h;clear h;intro t8 o_ h;dsimp only[Af] at h;rcases AE h with⟨z1,h⟩|⟨z1,h⟩
 ·try simp only[go_sem,N1] at z1
  obtain⟨z2,h⟩:=AC h;have lz2:=Az z2;try simp only[go_sem] at lz2
  try simp only[go_sem,N1,z1] at z2
  obtain⟨y_3,z3,h⟩:=AB h;have fz3:=AQA z3;try simp only[go_sem, *] at fz3
  rcases AE h with⟨z4,h⟩|⟨z4,h⟩
  all_goals
  try simp only[go_sem,N1, *] at z4
  obtain rfl:=AA h;refine⟨0,fun L hL=>?_⟩;simp only[go_sem, *]
 ·try simp only[go_sem,N1] at z1
  obtain rfl:=AA h;refine⟨0,fun L hL=>?_⟩;simp only[go_sem,z1]
attribute [local go_sem] YP Xp Wd Wc Wb ACU in
theorem APz{s_:List Star}{f_c0:List UInt8}{y_:Int}(h:BJ s_ f_c0=some y_):uz.F [.sl 5 (List.map BV s_),.fn (.func 48) [] [.ptr 1 [.str f_c0] 0 0]]=⟨true,.int .i64 y_,[.any,.any]⟩:=by
 refine Ah rfl ?_;dsimp only[BJ] at h;obtain⟨y_5,z5,h⟩:=AB h;obtain⟨Lz5,ez5⟩:=Dn z5;rcases y_5 with y_5a|y_5b
 all_goals
 dsimp only at h;obtain rfl:=AA h;refine⟨Lz5,fun L hL=>?_⟩;have ez5:=ez5 L (by omega);try simp only[go_sem] at ez5
 simp only[go_sem,ez5]
def AIE:List Nat:=[0,1,4]
def AIF:CN:=⟨2,3,.seq (.region false [ VO 2 4 (.mov C0)]) (.seq (.region false [ PM 5 0,PM 6 1,PO 7 (.call 80 [S1,S0]),PO 8 (B6 S0 (I6 0)),VS 2 4 0]) (.ret)),[.t 2]⟩
def ALv:List (Nat×Ak):=[(80,uz)]
theorem yQ:AP ALv 80=some uz:=rfl
def uy:Ak:=DN ALv AIF [.bor,.bor]
theorem s_19:AQ Tryz.prog 47 uy:=AI _ rfl (AF s_18 AL) (by kernel_rfl:Ab Tryz.prog 47 AIF AIE=true)
theorem M_19:uy.modes=[.bor,.bor]:=rfl
theorem ARX:uy.flat=true:=rfl
attribute [go_sem] M_19 ARX yQ
theorem APy{s_:List Star}{f_c0:List UInt8}{y_:Bool}(h:BE s_ f_c0=some y_):uy.F [.sl 5 (List.map BV s_),.fn (.func 48) [] [.ptr 1 [.str f_c0] 0 0]]=⟨true,.bool y_,[.any,.any]⟩:=by
 refine Ah rfl ?_;dsimp only[BE] at h;obtain⟨y_1,z1,h⟩:=AB h;have fz1:=APz z1;try simp only[go_sem] at fz1
 obtain rfl:=AA h;refine⟨0,fun L hL=>?_⟩;simp only[go_sem,AIF,fz1]
def AIf:List Nat:=[0,1,3,4]
def AIg:CN:=⟨2,4,.seq (.region false [ VO 2 3 (.box V1),VO 3 4 (.mov C0)]) (.seq (.region false [ PM 5 0,PO 6 (.mkFn (.func 48) [] [V2]),PO 7 (.call 47 [S1,S0]),VS 3 4 0]) (.ret)),[.t 3]⟩
def ALu:List (Nat×Ak):=[(47,uy)]
theorem yP:AP ALu 47=some uy:=rfl
def bd:Ak:=DN ALu AIg [.bor,.bor]
theorem AGn:AQ Tryz.prog 26 bd:=AI _ rfl (AF s_19 AL) (by kernel_rfl:Ab Tryz.prog 26 AIg AIf=true)
theorem M_20:bd.modes=[.bor,.bor]:=rfl
theorem ARW:bd.flat=true:=rfl
attribute [go_sem] M_20 ARW yP
theorem AAq{list:List Star}{name:List UInt8}{y_:Bool}(h:Gw list name=some y_):bd.F [.sl 5 (List.map BV list),.str name]=⟨true,.bool y_,[.any,.any]⟩:=by
 refine Ah rfl ?_;dsimp only[Gw] at h;obtain⟨y_1,z1,h⟩:=AB h;have fz1:=APy z1;try simp only[go_sem] at fz1
 obtain rfl:=AA h;refine⟨0,fun L hL=>?_⟩;simp only[go_sem,AIg,fz1]
theorem lQ:AQ Tryz.prog 19 ML:=AEA
theorem ib:AQ Tryz.prog 50 KS:=tb
theorem Yg:AQ Tryz.prog 54 Ik:=tc
def ADf:List Nat:=[0,1,2]
def ja:CN:=⟨1,3,.seq (.region false [ VO 1 1 (.box V0),VO 2 2 (.mov C0)]) (.seq (.region false [ PO 3 (F0 V1),PO 4 (L1 S0),PO 5 (.call 73 [S0,(I6 0),(I6 100000)]),PO 6 (.mov S0),⟨.push,7,(G1 0),F1 V1⟩,⟨.push,8,(G1 1),L1 S0⟩,⟨.push,9,(G1 2),.call 74 [S0]⟩,PO 10 (.pick S3 S0 C0),PO 11 (.mov S0),⟨.push,12,(G1 0),F2 V1⟩,⟨.push,13,(G1 1),L1 S0⟩,
 ⟨.push,14,(G1 2),.call 73 [S0,(.c (.int .i64 (-1000000))),(I6 1000000)]⟩,PO 15 (.pick S3 S0 C0),VS 2 2 0]) (.ret)),[.t 2]⟩
def AGV:List (Nat×Ak):=[(73,ee),(74,pm)]
theorem yO:AP AGV 73=some ee:=rfl
theorem yN:AP AGV 74=some pm:=rfl
def ke:Ak:=DN AGV ja [.bor]
theorem AMh:AQ Tryz.prog 131 ke:=AI _ rfl (AF s_0 (AF s_1 AL)) (by kernel_rfl:Ab Tryz.prog 131 ja ADf=true)
theorem M_24:ke.modes=[.bor]:=rfl
theorem ARV:ke.flat=true:=rfl
attribute [go_sem] M_24 ARV yO yN
theorem AGA{e_:Ac}{y_:Bool}(h:EQ e_=some y_):ke.F [CF e_]=⟨true,.bool y_,[.any]⟩:=by
 refine Ah rfl ?_;dsimp only[EQ] at h;obtain⟨y_1,z1,h⟩:=AB h;have fz1:=VD z1;try simp only[go_sem] at fz1
 obtain⟨z2,h⟩:=AC h;rcases Ag z2 with⟨gz2,z2⟩|gz2
 ·try simp only[go_sem,N1] at gz2
  all_goals
  obtain⟨y_2,hz2⟩:=isX z2;have fz2:=lA hz2;try simp only[go_sem,N1,gz2] at hz2
  all_goals
  try simp only[go_sem,gz2] at fz2
  obtain⟨z3,h⟩:=AC h;rcases Ag z3 with⟨gz3,z3⟩|gz3
  ·try simp only[go_sem,N1, *] at gz3
   all_goals
   obtain⟨y_3,hz3⟩:=isX z3;have fz3:=VD hz3;try simp only[go_sem,N1, *] at hz3
   all_goals
   try simp only[go_sem, *] at fz3
   obtain rfl:=AA h;refine⟨0,fun L hL=>?_⟩;simp only[go_sem,ja, *]
  ·rcases HU gz3 with gz3a|⟨gz3a,gz3b⟩
   ·try simp only[go_sem,N1, *] at gz3a
    all_goals
    (simp_all)
   ·try simp only[go_sem,N1, *] at gz3a
    all_goals
    try simp only[go_sem,N1, *] at gz3b
    all_goals
    obtain rfl:=AA h;refine⟨0,fun L hL=>?_⟩;simp only[go_sem,ja, *]
 ·try simp only[go_sem,N1] at gz2
  all_goals
  obtain⟨z3,h⟩:=AC h;obtain rfl:=AA h;refine⟨0,fun L hL=>?_⟩;simp only[go_sem,ja, *]
def ADl:List Nat:=[0,2,3,4,5,6,7,8,9,10,11,12]
def Zm:CN:=⟨1,12,.seq (.region false [ VO 1 2 (.alloc (.agg [.int .i64 (0),.str [],.int .i64 (0)])),VO 2 3 (.mov (I6 0)),VO 3 4 (.mov C0)]) (.seq (.region false [ PM 13 0,PO 14 (.call 50 [S0,C3]),VS 4 5 0]) (.seq (.test false [ PM 15 4,PO 16 (.len false S0),PO 17 (B7 S0 (I6 4))] S0 (.seq (.region false [ PO 18 (.build [.int .i64 (0),.str [],.int .i64 (0)] []),⟨.no,0,none,.store 3 V1 S0⟩,VO 2 3 (.mov (I6 0)),VO 3 4 (.mov C0)]) (.ret)) (.skip)) (.seq (.region false [ PM 20 4,PO 21
 (.ixAddr 1 S0 (I6 0)),PO 22 (L1 S0),PO 23 (.call 54 [S0]),PO 19 (.mov S0),PO 24 (.ext S0 0),PO 25 (.ext S1 1),VS 5 6 1,VS 6 7 0]) (.seq (.region false [ PM 27 4,PO 28 (.ixAddr 1 S0 (I6 2)),PO 29 (L1 S0),PO 30 (.call 54 [S0]),PO 26 (.mov S0),PO 31 (.ext S0 0),PO 32 (.ext S1 1),VS 7 8 1,VS 8 9 0]) (.seq (.region false [ PM 34 4,PO 35 (.ixAddr 1 S0 (I6 3)),PO 36 (L1 S0),PO 37 (.call 54 [S0]),PO 33 (.mov S0),PO 38 (.ext S0 0),PO 39 (.ext S1 1),VS 9 10 1,VS 10 11 0]) (.seq
 (.region false [ PM 40 5,PM 41 4,PO 42 (.ixAddr 1 S0 (I6 1)),PO 43 (L1 S0),PM 44 7,PO 45 (.build [.int .i64 (0),.str [],.int .i64 (0)] [(0,1,S4),(1,1,S1),(2,1,S0)]),VO 11 12 (.alloc (.agg [.int .i64 (0),.str [],.int .i64 (0)])),⟨.no,0,none,.store 3 (.v 11) S0⟩]) (.seq (.anyo 13 [ SO 0 46 (L3 (.v 11)),SO 1 47 (.flat (.mov V9)),SO 2 48 (.flat (.mov V6)),SO 3 49 (.flat (.mov S2)),⟨.slot 4,50,(G1 3),.mov V8⟩,SO 5 51 (.pick S3 S4 C0),SO 6 52 (.flat (.mov S5)),
 ⟨.slot 7,53,(G1 6),.mov (.v 10)⟩,SO 8 54 (.pick S6 S7 C0),SO 9 55 (.flat (.mov S8)),⟨.slot 10,56,(G1 9),L3 (.v 11)⟩,⟨.slot 11,57,(G1 9),.call 131 [(.s 10)]⟩,SO 12 58 (.pick S9 (.s 11) C0),⟨.no,0,none,.store 3 V1 S0⟩,VO 2 3 (.flat (.mov S1)),VO 3 4 (.flat (.mov (.s 12)))] [[0,1,2,3,4,5,6,7,8,9,10,11,13,12,14,15]] .skip) (.ret)))))))),[.cell true 3 1,.t 2,.t 3]⟩
def ABW:List (Nat×Ak):=[(50,KS),(54,Ik),(131,ke)]
theorem yM:AP ABW 50=some KS:=rfl
theorem yL:AP ABW 54=some Ik:=rfl
theorem rk:AP ABW 131=some ke:=rfl
def ux:Ak:=bH ABW Zm [.bor]
theorem s_25:AQ Tryz.prog 118 ux:=DH _ (AF ib (AF Yg (AF AMh AL))) (by kernel_rfl:Ab Tryz.prog 118 Zm ADl=true)
theorem M_25:ux.modes=[.bor]:=rfl
theorem ARU:ux.flat=false:=rfl
attribute [go_sem] M_25 ARU yM yL rk
theorem APx{line:List UInt8}{y_:Ac×Int×Bool}(h:IA line=some y_):ux.F [.str line]=⟨true,.tup [CF y_.1,.int .i64 y_.2.1,.bool y_.2.2],[.any]⟩:=by
 refine Jn ?_;dsimp only[IA] at h;obtain⟨y_1,z1,h⟩:=AB h;have fz1:=ep z1;try simp only[go_sem] at fz1
 rcases AE h with⟨z2,h⟩|⟨z2,h⟩
 ·try simp only[go_sem,N1] at z2
  obtain rfl:=AA h;refine⟨0,fun L hL=>?_⟩;simp only[go_sem,Zm, *]
 ·try simp only[go_sem,N1] at z2
  obtain⟨z3,h⟩:=AC h;have lz3:=Az z3;try simp only[go_sem] at lz3
  try simp only[go_sem,N1,z2] at z3
  obtain⟨y_4,z4,h⟩:=AB h;have fz4:=NG z4;try simp only[go_sem, *] at fz4
  obtain⟨z5,h⟩:=AC h;have lz5:=Az z5;try simp only[go_sem] at lz5
  try simp only[go_sem,N1, *] at z5
  obtain⟨y_6,z6,h⟩:=AB h;have fz6:=NG z6;try simp only[go_sem, *] at fz6
  obtain⟨z7,h⟩:=AC h;have lz7:=Az z7;try simp only[go_sem] at lz7
  try simp only[go_sem,N1, *] at z7
  obtain⟨y_8,z8,h⟩:=AB h;have fz8:=NG z8;try simp only[go_sem, *] at fz8
  obtain⟨z9,h⟩:=AC h;have lz9:=Az z9;try simp only[go_sem] at lz9
  try simp only[go_sem,N1, *] at z9
  obtain⟨z10,h⟩:=AC h;rcases Ag z10 with⟨gz10,z10⟩|gz10
  ·try simp only[go_sem,N1, *] at gz10
   obtain⟨y_10,hz10⟩:=isX z10;have fz10:=AGA hz10;try simp only[go_sem,N1, *] at hz10
   try simp only[go_sem, *] at fz10
   obtain rfl:=AA h;refine⟨0,fun L hL=>?_⟩;simp only[go_sem,Zm, *]
  ·rcases HU gz10 with gz10a|⟨gz10a,gz10b⟩
   ·rcases HU gz10a with gz10aa|⟨gz10aa,gz10ab⟩
    ·try simp only[go_sem,N1, *] at gz10aa
     obtain rfl:=AA h;refine⟨0,fun L hL=>?_⟩;simp only[go_sem,Zm, *]
    ·try simp only[go_sem,N1, *] at gz10aa
     try simp only[go_sem,N1, *] at gz10ab
     obtain rfl:=AA h;refine⟨0,fun L hL=>?_⟩;simp only[go_sem,Zm, *]
   ·obtain⟨gz10aa,gz10ab⟩:=Vj gz10a;try simp only[go_sem,N1, *] at gz10aa
    try simp only[go_sem,N1, *] at gz10ab
    try simp only[go_sem,N1, *] at gz10b
    obtain rfl:=AA h;refine⟨0,fun L hL=>?_⟩;simp only[go_sem,Zm, *]
theorem AGf:AQ Tryz.prog 111 Nl:=ADy
def AHb:List Nat:=[0,1,4]
def AHc:CN:=⟨2,3,.seq (.region false [ VO 2 4 (.mov C2)]) (.seq (.region false [ PM 5 0,PM 6 1,PO 7 (.call 111 [S1,S0]),VS 2 4 0]) (.ret)),[.t 2]⟩
def ALt:List (Nat×Ak):=[(111,Nl)]
theorem rj:AP ALt 111=some Nl:=rfl
def uw:Ak:=DN ALt AHc [.bor,.bor]
theorem s_27:AQ Tryz.prog 70 uw:=AI _ rfl (AF AGf AL) (by kernel_rfl:Ab Tryz.prog 70 AHc AHb=true)
theorem M_27:uw.modes=[.bor,.bor]:=rfl
theorem ART:uw.flat=true:=rfl
attribute [go_sem] M_27 ART rj
theorem APw{i:Int}{base:Int}{y_:(List UInt8)}(h:Hp i base=some y_):uw.F [.int .i64 i,.int .i64 base]=⟨true,.str y_,[.any,.any]⟩:=by
 refine Ah rfl ?_;dsimp only[Hp] at h;obtain⟨y_1,z1,h⟩:=AB h;have fz1:=AEd z1;try simp only[go_sem] at fz1
 obtain rfl:=AA h;refine⟨0,fun L hL=>?_⟩;simp only[go_sem,AHc,fz1]
def AIR:List Nat:=[0,2]
def AIS:CN:=⟨1,2,.seq (.region false [ VO 1 2 (.mov C2)]) (.seq (.region false [ PM 3 0,PO 4 (.call 70 [S0,(I6 10)]),VS 1 2 0]) (.ret)),[.t 1]⟩
def ALs:List (Nat×Ak):=[(70,uw)]
theorem yK:AP ALs 70=some uw:=rfl
def KT:Ak:=DN ALs AIS [.bor]
theorem Yi:AQ Tryz.prog 37 KT:=AI _ rfl (AF s_27 AL) (by kernel_rfl:Ab Tryz.prog 37 AIS AIR=true)
theorem M_28:KT.modes=[.bor]:=rfl
theorem ARS:KT.flat=true:=rfl
attribute [go_sem] M_28 ARS yK
theorem KU{n:Int}{y_:(List UInt8)}(h:BP n=some y_):KT.F [.int .i64 n]=⟨true,.str y_,[.any]⟩:=by
 refine Ah rfl ?_;dsimp only[BP] at h;obtain⟨y_1,z1,h⟩:=AB h;have fz1:=APw z1;try simp only[go_sem] at fz1
 obtain rfl:=AA h;refine⟨0,fun L hL=>?_⟩;simp only[go_sem,AIS,fz1]
def AHi:List Nat:=[0,1,2]
def AHj:CN:=⟨1,3,.seq (.region false [ VO 1 1 (.box V0),VO 2 2 (.mov C2)]) (.seq (.anyo 12 [ SO 0 3 (F0 V1),SO 1 4 (L1 S0),SO 2 5 (.callp 37 [S1]),SO 3 6 (B0 S2 C3),SO 4 7 (F1 V1),SO 5 8 (L1 S4),SO 6 9 (B0 S3 S5),SO 7 10 (B0 S6 C3),SO 8 11 (F2 V1),SO 9 12 (L1 S8),SO 10 13 (.callp 37 [S9]),SO 11 14 (B0 S7 (.s 10)),VS 2 2 11] [] .skip) (.ret)),[.t 2]⟩
def ALr:List (Nat×Ak):=[(37,KT)]
theorem yJ:AP ALr 37=some KT:=rfl
def bc:Ak:=DN ALr AHj [.bor]
theorem AGm:AQ Tryz.prog 64 bc:=AI _ rfl (AF Yi AL) (by kernel_rfl:Ab Tryz.prog 64 AHj AHi=true)
theorem M_29:bc.modes=[.bor]:=rfl
theorem ARR:bc.flat=true:=rfl
attribute [go_sem] M_29 ARR yJ
theorem AAp{e_:Ac}{y_:(List UInt8)}(h:Ds e_=some y_):bc.F [CF e_]=⟨true,.str y_,[.any]⟩:=by
 refine Ah rfl ?_;dsimp only[Ds] at h;obtain⟨y_1,z1,h⟩:=AB h;have fz1:=KU z1;try simp only[go_sem] at fz1
 obtain⟨z2,h⟩:=AC h;try simp only[go_sem,N1] at z2
 obtain⟨z3,h⟩:=AC h;try simp only[go_sem,N1,z2] at z3
 obtain⟨z4,h⟩:=AC h;try simp only[go_sem,N1, *] at z4
 obtain⟨y_5,z5,h⟩:=AB h;have fz5:=KU z5;try simp only[go_sem, *] at fz5
 obtain⟨z6,h⟩:=AC h;try simp only[go_sem,N1, *] at z6
 obtain rfl:=AA h;refine⟨0,fun L hL=>?_⟩;simp only[go_sem,AHj, *]
def Zl:IR:=.seq (.region false [ VO 9 16 (B1 V8 V7)]) (.seq (.cond V9 (.skip) (.exit 0)) (.seq (.block 1 (.seq (.region false [ PM 17 8,VS 6 7 0]) (.region false [ PM 18 4,PO 19 (B8 (I6 31) S0),PM 20 5,PM 21 6,PO 22 (.ixStr S1 S0),PO 23 (.conv .i64 S0),PO 24 (B0 S4 S0),PO 25 (.bin false .rem S0 (I6 65521)),VS 4 5 0]))) (.region false [ PO 26 (B0 V8 (I6 1)),VS 8 15 0])))
def Sk:List Bool:=[false,false,false,false,true,true,false,true,true,false]
def Sj:List Bool:=[false,false,false,false,true,false,false,false,false,false]
def Si:List Bool:=[false,false,false,true,false,false,false,false,false,false]
def ADk:List Nat:=[0,1,3,4,5,6,7,14,15,16]
def pZ:CN:=⟨2,10,.seq (.region false [ VO 2 3 (.box V1),VO 3 4 (.mov (I6 0))]) (.seq (.region false [ PM 8 0,PO 9 (B0 S0 (I6 23)),PO 10 (.bin false .rem S0 (I6 65521)),PO 11 (L3 V2),PO 12 (.call 64 [S0]),VS 4 5 2,VS 5 6 0]) (.seq (.seq (.region false [ PM 13 5,VO 7 14 (.len true S0),VO 8 15 (.mov (I6 0))]) (.block 0 (.loop Sk Sj Si Zl))) (.seq (.region false [ PM 27 4,VS 3 4 0]) (.ret)))),[.t 3]⟩
def AGU:List (Nat×Ak):=[(64,bc)]
theorem yI:AP AGU 64=some bc:=rfl
def kd:Ak:=DN AGU pZ [.bor,.bor]
theorem AMg:AQ Tryz.prog 119 kd:=AI _ rfl (AF AGm AL) (by kernel_rfl:Ab Tryz.prog 119 pZ ADk=true)
theorem M_30:kd.modes=[.bor,.bor]:=rfl
theorem ARQ:kd.flat=true:=rfl
attribute [go_sem] M_30 ARQ yI
def YO(words:List UInt8)(t14:Int):(Int×Int)->St
 | (sum,t15)=>⟨[.any,.any,.any,.any,.int .i64 sum,.str words,.any,.int .i64 t14,.int .i64 t15,.any],[],[],true⟩
def Xo(words:List UInt8)(t14:Int)(y:Int):Fw:=(.exit 0,⟨[.any,.any,.any,.any,.int .i64 y,.any,.any,.any,.any,.any],[],[],true⟩)
attribute [local go_sem] pZ YO Xo Zl Sk Sj Si in
theorem Um{words:List UInt8}{t14:Int}{sgm_:Int×Int}{rho_:Int}(h:AS (KD words t14) sgm_=some rho_):∃ L0,∀ L,L0<=L->CV (Aq (AP AGU) L Zl) Sk Sj Si L (YO words t14 sgm_)=Xo words t14 rho_:=by
 refine Ax (E:=YO words t14) (R:=Xo words t14) (fun y=>by first|(intro c;cases c)|(rcases y with y|y<;>(intro c;cases c))|(rcases y with y|y|y<;>(intro c;cases c))) ?_ h;clear h;rintro⟨sum,t15⟩ o_ h;dsimp only[KD] at h;rcases AE h with⟨z3,h⟩|⟨z3,h⟩
 ·try simp only[go_sem,N1] at z3
  obtain⟨z4,h⟩:=AC h;try simp only[go_sem,N1,z3] at z4
  obtain⟨z5,h⟩:=AC h;try simp only[go_sem,N1, *] at z5
  obtain rfl:=AA h;refine⟨0,fun L hL=>?_⟩;simp only[go_sem, *]
 ·try simp only[go_sem,N1] at z3
  obtain rfl:=AA h;refine⟨0,fun L hL=>?_⟩;simp only[go_sem,z3]
attribute [local go_sem] YO Xo Sk Sj Si pZ in
theorem AAo{before:Int}{e_:Ac}{y_:Int}(h:Gv before e_=some y_):kd.F [.int .i64 before,CF e_]=⟨true,.int .i64 y_,[.any,.any]⟩:=by
 refine Ah rfl ?_;dsimp only[Gv] at h;obtain⟨z1,h⟩:=AC h;try simp only[go_sem,N1] at z1
 obtain⟨y_2,z2,h⟩:=AB h;have fz2:=AAp z2;try simp only[go_sem,z1] at fz2
 obtain⟨y_6,z6,h⟩:=AB h;obtain⟨Lz6,ez6⟩:=Um z6;obtain rfl:=AA h;refine⟨Lz6,fun L hL=>?_⟩;have ez6:=ez6 L (by omega);try simp only[go_sem,z1] at ez6
 simp only[go_sem, *]
def fW:IR:=.block 1 (.seq (.region false [ PM 17 0,PM 18 5,PO 19 (.slice 0 S1 (some S0) none),PO 20 (.call 19 [S0,(.c (.str [10]))]),PO 16 (.mov S0),PO 21 (.ext S0 0),PO 22 (.ext S1 1),PO 23 (.ext S2 2),VS 8 9 2,PO 10 (.mov S1),VS 9 11 1]) (.seq (.region false [ PM 25 8,PO 26 (.call 118 [S0]),PO 24 (.mov S0),PO 27 (.ext S0 0),PO 28 (.ext S1 1),PO 29 (.ext S2 2),VO 10 12 (.alloc (.agg [.int .i64 (0),.str [],.int .i64 (0)])),⟨.no,0,none,.store 3 (.v 10) S2⟩,VS 11 13 1,VS 12 14 0]) (.seq (.test false [ PM 30
 9,PO 31 (.un .not S0),PO 32 (.mov S0),⟨.push,33,(G0 0),.mov (.v 12)⟩,⟨.push,34,(G0 1),.un .not S0⟩,PO 35 (.pick S2 C1 S0),PO 36 (.mov S0),⟨.push,37,(G0 0),F0 (.v 10)⟩,⟨.push,38,(G0 1),L1 S0⟩,⟨.push,39,(G0 2),.mov V7⟩,⟨.push,40,(G0 3),B1 S1 S0⟩,PO 41 (.pick S4 C1 S0),PO 42 (.mov S0),⟨.push,43,(G0 0),.mov (.v 11)⟩,⟨.push,44,(some ((.s
 1),false)),.mov V6⟩,⟨.push,45,(G0 2),L3 (.v 10)⟩,⟨.push,46,(G0 3),.call 119 [S1,S0]⟩,⟨.push,47,(G0 4),B7 S3 S0⟩,PO 48 (.pick S5 C1 S0)] S0 (.seq (.region false [ PM 49 4,PM 50 5,PM 51 6,VS 1 2 2,VS 2 3 1,VS 3 4 0]) (.ret)) (.skip)) (.seq (.region false [ PM 52 4,PO 53 (L3 (.v 10)),PO 54 (.mkSl 3 (.agg [.int .i64 (0),.str [],.int .i64 (0)]) 1 [(0,S0)]),PO 55 (.app 3 32 (.agg [.int .i64 (0),.str [],.int .i64 (0)]) S2 S0),VS 4 5
 0]) (.seq (.region false [ PM 56 5,PM 57 8,PO 58 (.len true S0),PO 59 (B0 S0 (I6 1)),PO 60 (B0 S3 S0),VS 5 6 0]) (.anyo 3 [ SO 0 61 (.mov (.v 11)),SO 1 62 (F0 (.v 10)),SO 2 63 (L1 S1),VS 6 7 0,VS 7 8 2] [] .skip))))))
def Wa:List Bool:=[true,false,false,false,true,true,true,true,false,false,false,false,false]
def WZ:List Bool:=[false,false,false,false,false,false,false,false,false,false,false,false,false]
def WY:List Bool:=[false,true,true,true,false,false,false,false,false,false,false,false,false]
def AHO:List Nat:=[0,2,3,4,5,6,7,8,9,11,12,13,14]
def ACT:CN:=⟨1,13,.seq (.region false [ VO 1 2 (.newnil 3),VO 2 3 (.mov (I6 0)),VO 3 4 (.mov (I6 0))]) (.seq (.region false [ PO 15 (.mkSl 3 (.agg [.int .i64 (0),.str [],.int .i64 (0)]) 0 []),VS 4 5 0,VO 5 6 (.mov (I6 0)),VO 6 7 (.mov (I6 0)),VO 7 8 (.mov (I6 0))]) (.block 0 (.loop Wa WZ WY fW))),[.t 1,.t 2,.t 3]⟩
def vt:List (Nat×Ak):=[(19,ML),(118,ux),(119,kd)]
theorem yH:AP vt 19=some ML:=rfl
theorem ri:AP vt 118=some ux:=rfl
theorem rh:AP vt 119=some kd:=rfl
def uv:Ak:=DN vt ACT [.bor]
theorem s_31:AQ Tryz.prog 81 uv:=AI _ rfl (AF lQ (AF s_25 (AF AMg AL))) (by kernel_rfl:Ab Tryz.prog 81 ACT AHO=true)
theorem M_31:uv.modes=[.bor]:=rfl
theorem ARP:uv.flat=true:=rfl
attribute [go_sem] M_31 ARP yH ri rh
def YN(log:List UInt8):((List Ac)×Int×Int×Int)->St
 | (entries,used,last,day)=>⟨[.str log,.any,.any,.any,.own 3200000,.int .i64 used,.int .i64 last,.int .i64 day,.any,.any,.any,.any,.any],[],[(3200000,⟨3,List.map CF entries⟩)],true⟩
def Xn(log:List UInt8)(y:(List Ac)×Int×Int):Fw:=(.ret,⟨[.any,.own 3200000,.int .i64 y.2.1,.int .i64 y.2.2,.any,.any,.any,.any,.any,.any,.any,.any,.any],[],[(3200000,⟨3,List.map CF y.1⟩)],true⟩)
attribute [local go_sem] ACT YN Xn fW Wa WZ WY in
theorem QY{log:List UInt8}{sgm_:(List Ac)×Int×Int×Int}{rho_:(List Ac)×Int×Int}(h:AS (EP log) sgm_=some rho_):∃ L0,∀ L,L0<=L->CV (Aq (AP vt) L fW) Wa WZ WY L (YN log sgm_)=Xn log rho_:=by
 refine Ax (E:=YN log) (R:=Xn log) (fun y=>by first|(intro c;cases c)|(rcases y with y|y<;>(intro c;cases c))|(rcases y with y|y|y<;>(intro c;cases c))) ?_ h;clear h;rintro⟨entries,used,last,day⟩ o_ h;dsimp only[EP] at h;obtain⟨z1,h⟩:=AC h;try simp only[go_sem,N1] at z1
 all_goals
 obtain⟨y_2,z2,h⟩:=AB h;have fz2:=gq z2;try simp only[go_sem,z1] at fz2
 obtain⟨y_3,z3,h⟩:=AB h;have fz3:=APx z3;try simp only[go_sem,z1] at fz3
 obtain⟨z4,h⟩:=AC h;rcases Ag z4 with⟨gz4,z4⟩|gz4
 ·try simp only[go_sem,N1,z1] at gz4
  all_goals
  obtain⟨y_4,hz4⟩:=isX z4;have fz4:=AAo hz4;try simp only[go_sem,N1, *] at hz4
  all_goals
  try simp only[go_sem, *] at fz4
  rcases AE h with⟨z5,h⟩|⟨z5,h⟩
  ·try simp only[go_sem,N1, *] at z5
   all_goals
   obtain rfl:=AA h;refine⟨0,fun L hL=>?_⟩;simp only[go_sem, *]
  ·try simp only[go_sem,N1, *] at z5
   all_goals
   obtain⟨z6,h⟩:=AC h;try simp only[go_sem,N1, *] at z6
   all_goals
   obtain rfl:=AA h;refine⟨0,fun L hL=>?_⟩;simp only[go_sem, *]
 ·have gz4n:=FO gz4;rcases bP gz4n with gz4na|⟨gz4na,gz4nb⟩
  ·rcases bP gz4na with gz4naa|⟨gz4naa,gz4nab⟩
   ·have gz4naan:=Is gz4naa;try simp only[go_sem,N1,z1] at gz4naan
    all_goals
    rcases AE h with⟨z5,h⟩|⟨z5,h⟩
    ·try simp only[go_sem,N1, *] at z5
     all_goals
     obtain rfl:=AA h;refine⟨0,fun L hL=>?_⟩;simp only[go_sem, *]
    ·try simp only[go_sem,N1, *] at z5
     all_goals
     (simp_all)
   ·have gz4naan:=FO gz4naa;have gz4nabn:=Is gz4nab;try simp only[go_sem,N1,z1] at gz4naan
    all_goals
    try simp only[go_sem,N1, *] at gz4nabn
    all_goals
    rcases AE h with⟨z5,h⟩|⟨z5,h⟩
    ·try simp only[go_sem,N1, *] at z5
     all_goals
     obtain rfl:=AA h;refine⟨0,fun L hL=>?_⟩;simp only[go_sem, *]
    ·try simp only[go_sem,N1, *] at z5
     all_goals
     (simp_all)
  ·obtain⟨gz4naa,gz4nab⟩:=ABq gz4na;have gz4naan:=FO gz4naa;have gz4nabn:=FO gz4nab;try simp only[go_sem,N1,z1] at gz4naan
   all_goals
   try simp only[go_sem,N1, *] at gz4nabn
   all_goals
   try simp only[go_sem,N1, *] at gz4nb
   all_goals
   rcases AE h with⟨z5,h⟩|⟨z5,h⟩
   ·try simp only[go_sem,N1, *] at z5
    all_goals
    obtain rfl:=AA h;refine⟨0,fun L hL=>?_⟩;simp only[go_sem, *]
   ·try simp only[go_sem,N1, *] at z5
    all_goals
    (simp_all)
attribute [local go_sem] YN Xn Wa WZ WY ACT in
theorem APu{log:List UInt8}{y_:(List Ac)×Int×Int}(h:Jc log=some y_):uv.F [.str log]=⟨true,.tup [.fresh 3 (List.map CF y_.1),.int .i64 y_.2.1,.int .i64 y_.2.2],[.any]⟩:=by
 refine Ah (by simp only[Do,EN,Ej,List.all_cons,List.all_nil,Bool.and_self,Bk (f:=CF) (fun _=>rfl)]) ?_;dsimp only[Jc] at h;obtain⟨y_7,z7,h⟩:=AB h;obtain⟨Lz7,ez7⟩:=QY z7;obtain rfl:=AA h;refine⟨Lz7,fun L hL=>?_⟩;have ez7:=ez7 L (by omega);try simp only[go_sem] at ez7
 simp only[go_sem,ez7]
def AIB:List Nat:=[0,2,3,4,5,6,7]
def ACb:CN:=⟨1,7,.seq (.region false [ VO 1 2 (.newnil 3),VO 2 3 (.mov (I6 0)),VO 3 4 (.mov (I6 0))]) (.seq (.test false [ PM 8 0,PO 9 (.len true S0),PO 10 (B4 S0 (I6 4000))] S0 (.seq (.region false [ VO 1 2 (.newnil 3),VO 2 3 (.mov (I6 0)),VO 3 4 (.mov (I6 5))]) (.ret)) (.skip)) (.seq (.region false [ PM 12 0,PO 13 (.call 81 [S0]),PO 11 (.mov S0),PO 14 (.ext S0 0),PO 15 (.ext S1 1),PO 16 (.ext S2 2),VS 4 5 2,VS 5 6 1,VS 6 7 0]) (.seq (.test false [ PM 17 5,PM 18 0,PO 19 (.len true S0),PO 20 (B1 S2 (.s
 0))] S0 (.seq (.region false [ VO 1 2 (.newnil 3),VO 2 3 (.mov (I6 0)),VO 3 4 (.mov (I6 8))]) (.ret)) (.skip)) (.seq (.region false [ PM 21 4,PM 22 6,VS 1 2 1,VS 2 3 0,VO 3 4 (.mov (I6 0))]) (.ret))))),[.t 1,.t 2,.t 3]⟩
def ALq:List (Nat×Ak):=[(81,uv)]
theorem yG:AP ALq 81=some uv:=rfl
def kc:Ak:=DN ALq ACb [.bor]
theorem AMf:AQ Tryz.prog 49 kc:=AI _ rfl (AF s_31 AL) (by kernel_rfl:Ab Tryz.prog 49 ACb AIB=true)
theorem M_32:kc.modes=[.bor]:=rfl
theorem ARO:kc.flat=true:=rfl
attribute [go_sem] M_32 ARO yG
theorem AFz{log:List UInt8}{y_:(List Ac)×Int×Int}(h:Hd log=some y_):kc.F [.str log]=⟨true,.tup [.fresh 3 (List.map CF y_.1),.int .i64 y_.2.1,.int .i64 y_.2.2],[.any]⟩:=by
 refine Ah (by simp only[Do,EN,Ej,List.all_cons,List.all_nil,Bool.and_self,Bk (f:=CF) (fun _=>rfl)]) ?_;dsimp only[Hd] at h;rcases AE h with⟨z1,h⟩|⟨z1,h⟩
 ·try simp only[go_sem,N1] at z1
  obtain rfl:=AA h;refine⟨0,fun L hL=>?_⟩;simp only[go_sem,ACb,z1]
 ·try simp only[go_sem,N1] at z1
  obtain⟨y_2,z2,h⟩:=AB h;have fz2:=APu z2;try simp only[go_sem,z1] at fz2
  rcases AE h with⟨z3,h⟩|⟨z3,h⟩
  all_goals
  try simp only[go_sem,N1,z1] at z3
  obtain rfl:=AA h;refine⟨0,fun L hL=>?_⟩;simp only[go_sem,ACb, *]
def AId:List Nat:=[0,2,3,4,6]
def AIe:CN:=⟨1,5,.seq (.region false [ VO 1 2 (.newnil 3),VO 2 3 (.mov (I6 0))]) (.seq (.region false [ PM 8 0,PO 9 (.call 49 [S0]),PO 7 (.mov S0),PO 10 (.ext S0 0),PO 11 (.ext S1 1),PO 12 (.ext S2 2),VS 3 4 2,PO 5 (.mov S1),VS 4 6 1]) (.seq (.region false [ PM 13 3,PM 14 4,VS 1 2 1,VS 2 3 0]) (.ret))),[.t 1,.t 2]⟩
def ALp:List (Nat×Ak):=[(49,kc)]
theorem yF:AP ALp 49=some kc:=rfl
def bb:Ak:=DN ALp AIe [.bor]
theorem AGl:AQ Tryz.prog 27 bb:=AI _ rfl (AF AMf AL) (by kernel_rfl:Ab Tryz.prog 27 AIe AId=true)
theorem M_33:bb.modes=[.bor]:=rfl
theorem ARN:bb.flat=true:=rfl
attribute [go_sem] M_33 ARN yF
theorem AAn{log:List UInt8}{y_:(List Ac)×Int}(h:FA log=some y_):bb.F [.str log]=⟨true,.tup [.fresh 3 (List.map CF y_.1),.int .i64 y_.2],[.any]⟩:=by
 refine Ah (by simp only[Do,EN,Ej,List.all_cons,List.all_nil,Bool.and_self,Bk (f:=CF) (fun _=>rfl)]) ?_;dsimp only[FA] at h;obtain⟨y_1,z1,h⟩:=AB h;have fz1:=AFz z1;try simp only[go_sem] at fz1
 obtain rfl:=AA h;refine⟨0,fun L hL=>?_⟩;simp only[go_sem,AIe,fz1]
def fy:IR:=.seq (.region false [ VO 8 21 (B1 V7 V6)]) (.seq (.cond V8 (.skip) (.exit 0)) (.seq (.block 1 (.seq (.region false [ PO 22 (.ixAddr 5 V5 V7),PO 23 (L5 S0),VO 3 4 (.alloc (.agg [.int .i64 (0),.str [],.str [],.int .i64 (0),.bool false])),⟨.no,0,none,.store 5 V3 S0⟩]) (.test false [ PO 24 (F0 V1),PO 25 (L1 S0),PO 26 (F1 V3),PO 27 (L1 S0),PO 28 (.call 26 [S2,S0]),PO 29 (.un .not S0)] S0 (.seq (.region false [ VO 2 2 (.mov (.c (.bool
 false)))]) (.ret)) (.skip)))) (.region false [ PO 30 (B0 V7 (I6 1)),VS 7 20 0])))
def XN:List Bool:=[false,true,false,false,false,true,true,true,false]
def XM:List Bool:=[false,true,false,false,false,false,false,false,false]
def XL:List Bool:=[false,false,true,false,false,false,false,false,false]
def AIr:List Nat:=[0,1,2,4,6,18,19,20,21]
def ADW:CN:=⟨1,9,.seq (.region false [ VO 1 1 (.box V0),VO 2 2 (.mov C0)]) (.seq (.test false [ PO 7 (F0 V1),PO 8 (L1 S0),PO 9 (.call 24 [S0]),PO 10 (.un .not S0),PO 11 (.mov S0),⟨.push,12,(G0 0),F1 V1⟩,⟨.push,13,(G0 1),L1 S0⟩,⟨.push,14,(G0 2),.call 25 [S0]⟩,⟨.push,15,(G0 3),.un .not S0⟩,PO 16 (.pick S4 C1 S0)] S0 (.seq (.region false [ VO 2 2 (.mov C0)]) (.ret))
 (.skip)) (.seq (.seq (.region false [ PO 17 (F1 V1),VO 5 18 (L1 S0),VO 6 19 (.len false V5),VO 7 20 (.mov (I6 0))]) (.block 0 (.loop XN XM XL fy))) (.seq (.region false [ PO 32 (F2 V1),PO 33 (L1 S0),PO 34 (.call 27 [S0]),PO 31 (.mov S0),PO 35 (.ext S0 0),PO 36 (.ext S1 1),PO 5 (.mov S1),VS 4 6 1]) (.seq (.region false [ PM 37 4,PO 38 (B2 S0 (I6 0)),VS 2 2 0]) (.ret))))),[.t 2]⟩
def qE:List (Nat×Ak):=[(24,c_6),(25,Vw),(26,bd),(27,bb)]
theorem yE:AP qE 24=some c_6:=rfl
theorem yD:AP qE 25=some Vw:=rfl
theorem yC:AP qE 26=some bd:=rfl
theorem yB:AP qE 27=some bb:=rfl
def kb:Ak:=DN qE ADW [.bor]
theorem AMe:AQ Tryz.prog 14 kb:=AI _ rfl (AF s_6 (AF wN (AF AGn (AF AGl AL)))) (by kernel_rfl:Ab Tryz.prog 14 ADW AIr=true)
theorem M_34:kb.modes=[.bor]:=rfl
theorem ARM:kb.flat=true:=rfl
attribute [go_sem] M_34 ARM yE yD yC yB
def YM(d:Bc)(t18:List AD)(t19:Int):Int->St
 | t20=>⟨[.any,.ref 3200000 0 0,.any,.any,.any,.sl 5 (List.map AN t18),.int .i64 t19,.int .i64 t20,.any],[],[(3200000,⟨3,[Cj d]⟩)],true⟩
def Xm(d:Bc)(t18:List AD)(t19:Int):(Unit⊕Bool)->Fw
 | .inl y=>(.exit 0,⟨[.any,.ref 3200000 0 0,.any,.any,.any,.any,.any,.any,.any],[],[(3200000,⟨3,[Cj d]⟩)],true⟩)
 | .inr y=>(.ret,⟨[.any,.any,.bool y,.any,.any,.any,.any,.any,.any],[],[],true⟩)
attribute [local go_sem] ADW YM Xm fy XN XM XL in
theorem Og{d:Bc}{t18:List AD}{t19:Int}{sgm_:Int}{rho_:Unit⊕Bool}(h:AS (EL d t18 t19) sgm_=some rho_):∃ L0,∀ L,L0<=L->CV (Aq (AP qE) L fy) XN XM XL L (YM d t18 t19 sgm_)=Xm d t18 t19 rho_:=by
 refine Ax (E:=YM d t18 t19) (R:=Xm d t18 t19) (fun y=>by first|(intro c;cases c)|(rcases y with y|y<;>(intro c;cases c))|(rcases y with y|y|y<;>(intro c;cases c))) ?_ h;clear h;intro t20 o_ h;dsimp only[EL] at h;rcases AE h with⟨z4,h⟩|⟨z4,h⟩
 ·try simp only[go_sem,N1] at z4
  obtain⟨z5,h⟩:=AC h;have lz5:=Az z5;try simp only[go_sem] at lz5
  try simp only[go_sem,N1,z4] at z5
  obtain⟨y_6,z6,h⟩:=AB h;have fz6:=AAq z6;try simp only[go_sem, *] at fz6
  rcases AE h with⟨z7,h⟩|⟨z7,h⟩
  all_goals
  try simp only[go_sem,N1, *] at z7
  obtain rfl:=AA h;refine⟨0,fun L hL=>?_⟩;simp only[go_sem, *]
 ·try simp only[go_sem,N1] at z4
  obtain rfl:=AA h;refine⟨0,fun L hL=>?_⟩;simp only[go_sem,z4]
attribute [local go_sem] ADW YM Xm XN XM XL in
theorem AFy{d:Bc}{y_:Bool}(h:Gc d=some y_):kb.F [Cj d]=⟨true,.bool y_,[.any]⟩:=by
 refine Ah rfl ?_;dsimp only[Gc] at h;obtain⟨y_1,z1,h⟩:=AB h;have fz1:=APf z1;try simp only[go_sem] at fz1
 obtain⟨z2,h⟩:=AC h;rcases Ag z2 with⟨gz2,z2⟩|gz2
 ·try simp only[go_sem,N1] at gz2
  all_goals
  obtain⟨y_2,hz2⟩:=isX z2;have fz2:=ky hz2;try simp only[go_sem,N1,gz2] at hz2
  all_goals
  try simp only[go_sem,gz2] at fz2
  rcases AE h with⟨z3,h⟩|⟨z3,h⟩
  ·try simp only[go_sem,N1, *] at z3
   all_goals
   obtain rfl:=AA h;refine⟨0,fun L hL=>?_⟩;simp only[go_sem, *]
  ·try simp only[go_sem,N1, *] at z3
   all_goals
   obtain⟨y_8,z8,h⟩:=AB h;obtain⟨Lz8,ez8⟩:=Og z8;rcases y_8 with y_8a|y_8b
   ·dsimp only at h;obtain⟨y_9,z9,h⟩:=AB h;have fz9:=AAn z9;try simp only[go_sem, *] at fz9
    obtain rfl:=AA h;refine⟨Lz8,fun L hL=>?_⟩;have ez8:=ez8 L (by omega);try simp only[go_sem, *] at ez8
    simp only[go_sem, *]
   ·dsimp only at h;obtain rfl:=AA h;refine⟨Lz8,fun L hL=>?_⟩;have ez8:=ez8 L (by omega);try simp only[go_sem, *] at ez8
    simp only[go_sem, *]
 ·have gz2n:=FO gz2;have gz2nn:=Is gz2n;try simp only[go_sem,N1] at gz2nn
  all_goals
  rcases AE h with⟨z3,h⟩|⟨z3,h⟩
  ·try simp only[go_sem,N1,gz2nn] at z3
   all_goals
   obtain rfl:=AA h;refine⟨0,fun L hL=>?_⟩;simp only[go_sem, *]
  ·try simp only[go_sem,N1,gz2nn] at z3
   all_goals
   (simp_all)
def AIb:List Nat:=[0,2]
def AIc:CN:=⟨1,2,.seq (.region false [ VO 1 2 (.newnil 5)]) (.seq (.region false [ PO 3 (.mkSl 5 (.agg [.str [],.int .i64 (0),.int .i64 (0),.int .i64 (0),.int .i64 (0)]) 0 []),PM 4 0,PO 5 (.app 5 48 (.agg [.str [],.int .i64 (0),.int .i64 (0),.int .i64 (0),.int .i64 (0)]) S1 S0),VS 1 2 0]) (.ret)),[.t 1]⟩
def t_35:List (Nat×Ak):=[]
def ka:Ak:=DN t_35 AIc [.bor]
theorem AMd:AQ Tryz.prog 28 ka:=AI _ rfl AL (by kernel_rfl:Ab Tryz.prog 28 AIc AIb=true)
theorem M_35:ka.modes=[.bor]:=rfl
theorem ARL:ka.flat=true:=rfl
attribute [go_sem] M_35 ARL
theorem AFx{list:List Star}{y_:(List Star)}(h:DJ list=some y_):ka.F [.sl 5 (List.map BV list)]=⟨true,.fresh 5 (List.map BV y_),[.any]⟩:=by
 refine Ah (by simp only[Do,EN,Ej,List.all_cons,List.all_nil,Bool.and_self,Bk (f:=BV) (fun _=>rfl)]) ?_;dsimp only[DJ] at h;obtain⟨z1,h⟩:=AC h;try simp only[go_sem,N1] at z1
 obtain rfl:=AA h;refine⟨0,fun L hL=>?_⟩;simp only[go_sem,AIc,z1]
def AIZ:List Nat:=[0,2]
def AIa:CN:=⟨1,2,.seq (.region false [ VO 1 2 (.newnil 5)]) (.seq (.region false [ PO 3 (.mkSl 5 (.agg [.int .i64 (0),.str [],.str [],.int .i64 (0),.bool false]) 0 []),PM 4 0,PO 5 (.app 5 56 (.agg [.int .i64 (0),.str [],.str [],.int .i64 (0),.bool false]) S1 S0),VS 1 2 0]) (.ret)),[.t 1]⟩
def t_36:List (Nat×Ak):=[]
def kZ:Ak:=DN t_36 AIa [.bor]
theorem AMc:AQ Tryz.prog 29 kZ:=AI _ rfl AL (by kernel_rfl:Ab Tryz.prog 29 AIa AIZ=true)
theorem M_36:kZ.modes=[.bor]:=rfl
theorem ARK:kZ.flat=true:=rfl
attribute [go_sem] M_36 ARK
theorem AFw{list:List AD}{y_:(List AD)}(h:CS list=some y_):kZ.F [.sl 5 (List.map AN list)]=⟨true,.fresh 5 (List.map AN y_),[.any]⟩:=by
 refine Ah (by simp only[Do,EN,Ej,List.all_cons,List.all_nil,Bool.and_self,Bk (f:=AN) (fun _=>rfl)]) ?_;dsimp only[CS] at h;obtain⟨z1,h⟩:=AC h;try simp only[go_sem,N1] at z1
 obtain rfl:=AA h;refine⟨0,fun L hL=>?_⟩;simp only[go_sem,AIa,z1]
def AIX:List Nat:=[0,2,3]
def ACh:CN:=⟨1,3,.seq (.region false [ VO 1 2 (.mov C2)]) (.seq (.region false [ PO 4 (.mkSl 1 (.str []) 11 [(0,(.c (.str [111,107]))),(1,(.c (.str [105,110,118,97,108,105,100]))),(2,(.c (.str [114,97,110,103,101]))),(3,(.c (.str [110,111,116,45,102,111,117,110,100]))),(4,(.c (.str [101,120,105,115,116,115]))),(5,(.c (.str [102,117,108,108]))),(6,(.c (.str [115,116,97,116,101]))),(7,(.c (.str [115,121,110,116,97,120]))),(8,(.c (.str [102,111,114,109,97,116]))),(9,(.c (.str [99,108,97,115,104]))),(10,(.c (.str
 [99,108,111,117,100,121])))]),VS 2 3 0]) (.seq (.test false [ PM 5 0,PO 6 (B1 S0 (I6 0)),PO 7 (.mov S0),⟨.push,8,(G0 0),.mov V0⟩,⟨.push,9,(G0 1),.mov V2⟩,⟨.push,10,(G0 2),.len false S0⟩,⟨.push,11,(G0 3),B6 S2 S0⟩,PO 12 (.pick S4 C1 S0)] S0 (.seq (.region false [ VO 1 2 (.mov C2)]) (.ret)) (.skip)) (.seq (.region false [ PM 13 2,PM 14 0,PO 15 (.ixAddr 1 S1 S0),PO 16 (L1 S0),VS 1 2 0])
 (.ret)))),[.t 1]⟩
def t_37:List (Nat×Ak):=[]
def uu:Ak:=DN t_37 ACh [.bor]
theorem s_37:AQ Tryz.prog 32 uu:=AI _ rfl AL (by kernel_rfl:Ab Tryz.prog 32 ACh AIX=true)
theorem M_37:uu.modes=[.bor]:=rfl
theorem ARJ:uu.flat=true:=rfl
attribute [go_sem] M_37 ARJ
theorem AFv{code:Int}{y_:(List UInt8)}(h:GG code=some y_):uu.F [.int .i64 code]=⟨true,.str y_,[.any]⟩:=by
 refine Ah rfl ?_;dsimp only[GG] at h;rcases AE h with⟨z1,h⟩|⟨z1,h⟩
 ·try simp only[go_sem,n1,n2,n3,n4] at z1
  all_goals
  obtain rfl:=AA h;refine⟨0,fun L hL=>?_⟩;simp only[go_sem,ACh,z1]
 ·try simp only[go_sem,n1,n2,n3,n4] at z1
  all_goals
  obtain⟨z2,h⟩:=AC h;have lz2:=Az z2;have xz2:=Mw AV.str ([([111,107]:List UInt8),([105,110,118,97,108,105,100]:List UInt8),([114,97,110,103,101]:List UInt8),([110,111,116,45,102,111,117,110,100]:List UInt8),([101,120,105,115,116,115]:List UInt8),([102,117,108,108]:List UInt8),([115,116,97,116,101]:List UInt8),([115,121,110,116,97,120]:List UInt8),([102,111,114,109,97,116]:List UInt8),([99,108,97,115,104]:List UInt8),([99,108,111,117,100,121]:List UInt8)]:List (List UInt8)) lz2;try simp only[go_sem] at lz2
  try simp only[go_sem] at xz2
  try simp only[go_sem,n1,n2,n3,n4,z1] at z2
  all_goals
  obtain rfl:=AA h;refine⟨0,fun L hL=>?_⟩;simp only[go_sem,ACh,z1,z2,lz2,xz2]
def AHz:List Nat:=[0,2,3,8]
def AIA:CN:=⟨1,4,.seq (.region false [ VO 1 2 (.mov C2)]) (.seq (.seq (.region false [ VO 2 3 (.mov V0)]) (.block 0 (.test false [ PO 5 (B2 V2 (.c (.str [115,116,97,114]))),PO 4 (.mov S0)] S0 (.seq (.region false [ VO 1 2 (.mov (.c (.str [119,110,110,109,109])))]) (.ret)) (.test false [ PO 7 (B2 V2 (.c (.str [101,115,116]))),PO 6 (.mov S0)] S0 (.seq (.region false [ VO 1 2 (.mov (.c (.str [110,119,119,102])))]) (.ret)) (.seq (.test false [ PO 9 (B2 V2 (.c (.str [99,117,114,118,101]))),
 VS 3 8 0] V3 (.skip) (.test false [ PO 10 (B2 V2 (.c (.str [97,109,112]))),VS 3 8 0] V3 (.skip) (.region false [ PO 11 (B2 V2 (.c (.str [108,97,115,116]))),VS 3 8 0]))) (.cond V3 (.seq (.region false [ VO 1 2 (.mov (.c (.str [119])))]) (.ret)) (.test false [ PO 13 (B2 V2 (.c (.str [98,101,115,116]))),PO 12 (.mov S0)] S0 (.seq (.region false [ VO 1 2 (.mov (.c (.str [119,110,110,110])))]) (.ret)) (.test false [ PO 15 (B2 V2 (.c (.str [102,111,108,100]))),PO 14 (.mov S0)] S0 (.seq
 (.region false [ VO 1 2 (.mov (.c (.str [119,110])))]) (.ret)) (.test false [ PO 17 (B2 V2 (.c (.str [112,97,105,114,115]))),PO 16 (.mov S0)] S0 (.seq (.region false [ VO 1 2 (.mov (.c (.str [110,110])))]) (.ret)) (.test false [ PO 19 (B2 V2 (.c (.str [101,110,116,101,114]))),PO 18 (.mov S0)] S0 (.seq (.region false [ VO 1 2 (.mov (.c (.str [110,119,110])))]) (.ret)) (.skip))))))))))) (.seq (.region false [ VO 1 2 (.mov C2)]) (.ret))),[.t 1]⟩
def t_38:List (Nat×Ak):=[]
def AEM:Ak:=DN t_38 AIA [.bor]
theorem s_38:AQ Tryz.prog 51 AEM:=AI _ rfl AL (by kernel_rfl:Ab Tryz.prog 51 AIA AHz=true)
theorem AOF:AEM.modes=[.bor]:=rfl
theorem ARI:AEM.flat=true:=rfl
attribute [go_sem] AOF ARI
attribute [local go_sem] AIA in
theorem APt{word:List UInt8}{y_:(List UInt8)}(h:BS word=some y_):AEM.F [.str word]=⟨true,.str y_,[.any]⟩:=by
 refine Ah rfl ?_;dsimp only[BS] at h;rcases AE h with⟨z1,h⟩|⟨z1,h⟩
 ·try simp only[go_sem,N1] at z1
  obtain rfl:=AA h;refine⟨0,fun L hL=>?_⟩;simp only[go_sem,z1]
 ·try simp only[go_sem,N1] at z1
  rcases AE h with⟨z2,h⟩|⟨z2,h⟩
  ·try simp only[go_sem,N1,z1] at z2
   obtain rfl:=AA h;refine⟨0,fun L hL=>?_⟩;simp only[go_sem, *]
  ·try simp only[go_sem,N1,z1] at z2
   rcases AE h with⟨z3,h⟩|⟨z3,h⟩
   ·try simp only[go_sem,N1, *] at z3
    obtain rfl:=AA h;refine⟨0,fun L hL=>?_⟩;simp only[go_sem, *]
   ·try simp only[go_sem,N1, *] at z3
    rcases AE h with⟨z4,h⟩|⟨z4,h⟩
    ·try simp only[go_sem,N1, *] at z4
     obtain rfl:=AA h;refine⟨0,fun L hL=>?_⟩;simp only[go_sem, *]
    ·try simp only[go_sem,N1, *] at z4
     rcases AE h with⟨z5,h⟩|⟨z5,h⟩
     ·try simp only[go_sem,N1, *] at z5
      obtain rfl:=AA h;refine⟨0,fun L hL=>?_⟩;simp only[go_sem, *]
     ·try simp only[go_sem,N1, *] at z5
      rcases AE h with⟨z6,h⟩|⟨z6,h⟩
      ·try simp only[go_sem,N1, *] at z6
       obtain rfl:=AA h;refine⟨0,fun L hL=>?_⟩;simp only[go_sem, *]
      ·try simp only[go_sem,N1, *] at z6
       rcases AE h with⟨z7,h⟩|⟨z7,h⟩
       ·try simp only[go_sem,N1, *] at z7
        obtain rfl:=AA h;refine⟨0,fun L hL=>?_⟩;simp only[go_sem, *]
       ·try simp only[go_sem,N1, *] at z7
        rcases AE h with⟨z8,h⟩|⟨z8,h⟩
        ·try simp only[go_sem,N1, *] at z8
         obtain rfl:=AA h;refine⟨0,fun L hL=>?_⟩;simp only[go_sem, *]
        ·try simp only[go_sem,N1, *] at z8
         rcases AE h with⟨z9,h⟩|⟨z9,h⟩
         all_goals
         try simp only[go_sem,N1, *] at z9
         obtain rfl:=AA h;refine⟨0,fun L hL=>?_⟩;simp only[go_sem, *]
def AHv:List Nat:=[0]
def AHw:CN:=⟨0,1,.seq (.region false [ VO 0 0 (.newnil 1)]) (.seq (.region false [ PO 1 (.mkSl 1 (.str []) 10 [(0,(.c (.str [97,109,112]))),(1,(.c (.str [98,101,115,116]))),(2,(.c (.str [99,117,114,118,101]))),(3,(.c (.str [101,110,116,101,114]))),(4,(.c (.str [101,115,116]))),(5,(.c (.str [102,111,108,100]))),(6,(.c (.str [108,97,115,116]))),(7,(.c (.str [108,111,103]))),(8,(.c (.str [112,97,105,114,115]))),(9,(.c (.str [115,116,97,114])))]),VS 0 0 0]) (.ret)),[.t 0]⟩
def t_39:List (Nat×Ak):=[]
def AEL:Ak:=DN t_39 AHw []
theorem s_39:AQ Tryz.prog 53 AEL:=AI _ rfl AL (by kernel_rfl:Ab Tryz.prog 53 AHw AHv=true)
theorem AOE:AEL.modes=[]:=rfl
theorem ARH:AEL.flat=true:=rfl
attribute [go_sem] AOE ARH
theorem APs  {y_:(List (List UInt8))} (h:Jd=some y_):AEL.F []=⟨true,.fresh 1 (List.map AV.str y_),[]⟩:=by
 refine Ah (by simp only[Do,EN,Ej,List.all_cons,List.all_nil,Bool.and_self,Bk (f:=AV.str) (fun _=>rfl)]) ?_;dsimp only[Jd] at h;obtain rfl:=AA h;refine⟨0,fun L hL=>?_⟩;simp only[go_sem,AHw]
def fV:IR:=.seq (.region false [ VO 6 9 (B1 V5 V4)]) (.seq (.cond V6 (.skip) (.exit 0)) (.seq (.block 1 (.seq (.region false [ PM 10 5,VS 3 5 0]) (.test false [ PM 11 1,PM 12 0,PM 13 3,PO 14 (.ixAddr 1 S1 S0),PO 15 (L1 S0),PO 16 (B2 S4 S0)] S0 (.seq (.region false [ PM 17 3,VS 2 4 0]) (.ret)) (.skip)))) (.region false [ PO 18 (B0 V5 (I6 1)),VS 5 8 0])))
def WX:List Bool:=[true,true,false,false,true,true,false]
def WW:List Bool:=[false,false,false,false,false,false,false]
def WV:List Bool:=[false,false,true,false,false,false,false]
def AHN:List Nat:=[0,1,4,5,7,8,9]
def ACS:CN:=⟨2,7,.seq (.region false [ VO 2 4 (.mov (I6 0))]) (.seq (.seq (.region false [ PM 6 0,VO 4 7 (.len false S0),VO 5 8 (.mov (I6 0))]) (.block 0 (.loop WX WW WV fV))) (.seq (.region false [ VO 2 4 (.mov (.c (.int .i64 (-1))))]) (.ret))),[.t 2]⟩
def ALo:List (Nat×Ak):=[]
def ut:Ak:=DN ALo ACS [.bor,.bor]
theorem s_40:AQ Tryz.prog 83 ut:=AI _ rfl AL (by kernel_rfl:Ab Tryz.prog 83 ACS AHN=true)
theorem M_40:ut.modes=[.bor,.bor]:=rfl
theorem ARG:ut.flat=true:=rfl
attribute [go_sem] M_40 ARG
def YL(s_:List (List UInt8))(v:List UInt8)(t7:Int):Int->St
 | t8=>⟨[.sl 1 (List.map AV.str s_),.str v,.any,.any,.int .i64 t7,.int .i64 t8,.any],[],[],true⟩
def Xl(s_:List (List UInt8))(v:List UInt8)(t7:Int):(Unit⊕Int)->Fw
 | .inl y=>(.exit 0,⟨[.any,.any,.any,.any,.any,.any,.any],[],[],true⟩)
 | .inr y=>(.ret,⟨[.any,.any,.int .i64 y,.any,.any,.any,.any],[],[],true⟩)
attribute [local go_sem] ACS YL Xl fV WX WW WV in
theorem JR{s_:List (List UInt8)}{v:List UInt8}{t7:Int}{sgm_:Int}{rho_:Unit⊕Int}(h:AS (Bj s_ v t7) sgm_=some rho_):∃ L0,∀ L,L0<=L->CV (Aq (AP ALo) L fV) WX WW WV L (YL s_ v t7 sgm_)=Xl s_ v t7 rho_:=by
 refine Ax (E:=YL s_ v t7) (R:=Xl s_ v t7) (fun y=>by first|(intro c;cases c)|(rcases y with y|y<;>(intro c;cases c))|(rcases y with y|y|y<;>(intro c;cases c))) ?_ h;clear h;intro t8 o_ h;dsimp only[Bj] at h;rcases AE h with⟨z1,h⟩|⟨z1,h⟩
 ·try simp only[go_sem,N1] at z1
  obtain⟨z2,h⟩:=AC h;have lz2:=Az z2;try simp only[go_sem] at lz2
  try simp only[go_sem,N1,z1] at z2
  rcases AE h with⟨z3,h⟩|⟨z3,h⟩
  all_goals
  try simp only[go_sem,N1, *] at z3
  obtain rfl:=AA h;refine⟨0,fun L hL=>?_⟩;simp only[go_sem, *]
 ·try simp only[go_sem,N1] at z1
  obtain rfl:=AA h;refine⟨0,fun L hL=>?_⟩;simp only[go_sem,z1]
attribute [local go_sem] YL Xl WX WW WV ACS in
theorem APr{s_:List (List UInt8)}{v:List UInt8}{y_:Int}(h:DY s_ v=some y_):ut.F [.sl 1 (List.map AV.str s_),.str v]=⟨true,.int .i64 y_,[.any,.any]⟩:=by
 refine Ah rfl ?_;dsimp only[DY] at h;obtain⟨y_4,z4,h⟩:=AB h;obtain⟨Lz4,ez4⟩:=JR z4;rcases y_4 with y_4a|y_4b
 all_goals
 dsimp only at h;obtain rfl:=AA h;refine⟨Lz4,fun L hL=>?_⟩;have ez4:=ez4 L (by omega);try simp only[go_sem] at ez4
 simp only[go_sem,ez4]
def AHx:List Nat:=[0,1,4]
def AHy:CN:=⟨2,3,.seq (.region false [ VO 2 4 (.mov C0)]) (.seq (.region false [ PM 5 0,PM 6 1,PO 7 (.call 83 [S1,S0]),PO 8 (B6 S0 (I6 0)),VS 2 4 0]) (.ret)),[.t 2]⟩
def ALn:List (Nat×Ak):=[(83,ut)]
theorem yA:AP ALn 83=some ut:=rfl
def AEK:Ak:=DN ALn AHy [.bor,.bor]
theorem s_41:AQ Tryz.prog 52 AEK:=AI _ rfl (AF s_40 AL) (by kernel_rfl:Ab Tryz.prog 52 AHy AHx=true)
theorem AOD:AEK.modes=[.bor,.bor]:=rfl
theorem ARF:AEK.flat=true:=rfl
attribute [go_sem] AOD ARF yA
theorem APq{s_:List (List UInt8)}{v:List UInt8}{y_:Bool}(h:CQ s_ v=some y_):AEK.F [.sl 1 (List.map AV.str s_),.str v]=⟨true,.bool y_,[.any,.any]⟩:=by
 refine Ah rfl ?_;dsimp only[CQ] at h;obtain⟨y_1,z1,h⟩:=AB h;have fz1:=APr z1;try simp only[go_sem] at fz1
 obtain rfl:=AA h;refine⟨0,fun L hL=>?_⟩;simp only[go_sem,AHy,fz1]
def ADi:List Nat:=[0,1,4]
def pX:CN:=⟨2,3,.seq (.region false [ VO 2 4 (.mov C0)]) (.seq (.region false [ PM 5 0,PO 6 (.len true S0),PM 7 1,PO 8 (.len true S0),PO 9 (B6 S2 S0),PO 10 (.mov S0),⟨.push,11,(G1 0),.mov V0⟩,⟨.push,12,(G1 1),.mov V1⟩,⟨.push,13,(G1 2),.len true S0⟩,⟨.push,14,(G1 3),.slice 0 S2 none (some S0)⟩,⟨.push,15,(G1 4),.mov V1⟩,⟨.push,16,(G1 5),B2 S1 S0⟩,PO 17 (.pick S6 S0 (.c
 (.bool false))),VS 2 4 0]) (.ret)),[.t 2]⟩
def t_42:List (Nat×Ak):=[]
def us:Ak:=DN t_42 pX [.bor,.bor]
theorem s_42:AQ Tryz.prog 127 us:=AI _ rfl AL (by kernel_rfl:Ab Tryz.prog 127 pX ADi=true)
theorem M_42:us.modes=[.bor,.bor]:=rfl
theorem ARE:us.flat=true:=rfl
attribute [go_sem] M_42 ARE
theorem APp{s_:List UInt8}{prefix_:List UInt8}{y_:Bool}(h:Ct s_ prefix_=some y_):us.F [.str s_,.str prefix_]=⟨true,.bool y_,[.any,.any]⟩:=by
 refine Ah rfl ?_;dsimp only[Ct] at h;obtain⟨z1,h⟩:=AC h;rcases Ag z1 with⟨gz1,z1⟩|gz1
 ·try simp only[go_sem,N1] at gz1
  try simp only[go_sem,N1,gz1] at z1
  obtain rfl:=AA h;refine⟨0,fun L hL=>?_⟩;simp only[go_sem,pX, *]
 ·try simp only[go_sem,N1] at gz1
  obtain rfl:=AA h;refine⟨0,fun L hL=>?_⟩;simp only[go_sem,pX,gz1]
def AHL:List Nat:=[0,1,4,5]
def ACR:CN:=⟨2,4,.seq (.region false [ VO 2 4 (.mov C2),VO 3 5 (.mov C0)]) (.seq (.test false [ PM 6 0,PM 7 1,PO 8 (.call 127 [S1,S0]),PO 9 (.un .not S0)] S0 (.seq (.region false [ PM 10 0,VS 2 4 0,VO 3 5 (.mov C0)]) (.ret)) (.skip)) (.seq (.region false [ PM 11 0,PM 12 1,PO 13 (.len true S0),PO 14 (.slice 0 S2 (some S0) none),VS 2 4 0,VO 3 5 (.mov C1)]) (.ret))),[.t 2,.t 3]⟩
def ALm:List (Nat×Ak):=[(127,us)]
theorem rg:AP ALm 127=some us:=rfl
def ur:Ak:=DN ALm ACR [.bor,.bor]
theorem s_43:AQ Tryz.prog 87 ur:=AI _ rfl (AF s_42 AL) (by kernel_rfl:Ab Tryz.prog 87 ACR AHL=true)
theorem M_43:ur.modes=[.bor,.bor]:=rfl
theorem ARD:ur.flat=true:=rfl
attribute [go_sem] M_43 ARD rg
theorem APo{s_:List UInt8}{prefix_:List UInt8}{y_:(List UInt8)×Bool}(h:Cu s_ prefix_=some y_):ur.F [.str s_,.str prefix_]=⟨true,.tup [.str y_.1,.bool y_.2],[.any,.any]⟩:=by
 refine Ah rfl ?_;dsimp only[Cu] at h;obtain⟨y_1,z1,h⟩:=AB h;have fz1:=APp z1;try simp only[go_sem] at fz1
 rcases AE h with⟨z2,h⟩|⟨z2,h⟩
 ·try simp only[go_sem,N1] at z2
  obtain rfl:=AA h;refine⟨0,fun L hL=>?_⟩;simp only[go_sem,ACR, *]
 ·try simp only[go_sem,N1] at z2
  obtain⟨z3,h⟩:=AC h;try simp only[go_sem,N1,z2] at z3
  obtain rfl:=AA h;refine⟨0,fun L hL=>?_⟩;simp only[go_sem,ACR, *]
def AHs:List Nat:=[0,1,4,5]
def AHt:CN:=⟨2,4,.seq (.region false [ VO 2 4 (.mov C2),VO 3 5 (.mov C0)]) (.seq (.region false [ PM 6 0,PM 7 1,PO 8 (.call 87 [S1,S0]),PO 9 (.ext S0 0),PO 10 (.ext S1 1),VS 2 4 1,VS 3 5 0]) (.ret)),[.t 2,.t 3]⟩
def ALl:List (Nat×Ak):=[(87,ur)]
theorem xz:AP ALl 87=some ur:=rfl
def uq:Ak:=DN ALl AHt [.bor,.bor]
theorem AMb:AQ Tryz.prog 56 uq:=AI _ rfl (AF s_43 AL) (by kernel_rfl:Ab Tryz.prog 56 AHt AHs=true)
theorem AOC:uq.modes=[.bor,.bor]:=rfl
theorem ARC:uq.flat=true:=rfl
attribute [go_sem] AOC ARC xz
theorem AFu{s_:List UInt8}{prefix_:List UInt8}{y_:(List UInt8)×Bool}(h:DC s_ prefix_=some y_):uq.F [.str s_,.str prefix_]=⟨true,.tup [.str y_.1,.bool y_.2],[.any,.any]⟩:=by
 refine Ah rfl ?_;dsimp only[DC] at h;obtain⟨y_1,z1,h⟩:=AB h;have fz1:=APo z1;try simp only[go_sem] at fz1
 obtain rfl:=AA h;refine⟨0,fun L hL=>?_⟩;simp only[go_sem,AHt,fz1]
def ADv:List Nat:=[0,2]
def zX:CN:=⟨1,2,.seq (.region false [ VO 1 2 (.mov (I6 0))]) (.seq (.test false [ PM 3 0,PO 4 (B1 S0 (I6 0))] S0 (.seq (.region false [ PM 5 0,PO 6 (.un .neg S0),VS 1 2 0]) (.ret)) (.skip)) (.seq (.region false [ PM 7 0,VS 1 2 0]) (.ret))),[.t 1]⟩
def t_45:List (Nat×Ak):=[]
def Vv:Ak:=DN t_45 zX [.bor]
theorem ABi:AQ Tryz.prog 102 Vv:=AI _ rfl AL (by kernel_rfl:Ab Tryz.prog 102 zX ADv=true)
theorem M_45:Vv.modes=[.bor]:=rfl
theorem ARB:Vv.flat=true:=rfl
attribute [go_sem] M_45 ARB
theorem kx{n:Int}{y_:Int}(h:EV n=some y_):Vv.F [.int .i64 n]=⟨true,.int .i64 y_,[.any]⟩:=by
 refine Ah rfl ?_;dsimp only[EV] at h;rcases AE h with⟨z1,h⟩|⟨z1,h⟩
 all_goals
 try simp only[go_sem,N1] at z1
 obtain rfl:=AA h;refine⟨0,fun L hL=>?_⟩;simp only[go_sem,zX,z1]
def Zk:IR:=.seq (.test false [ PM 8 3,PO 9 (.len true S0),PM 10 1,PO 11 (B1 S1 S0)] S0 (.skip) (.exit 0)) (.block 1 (.region false [ PM 12 3,PO 13 (B0 (.c (.str [48])) S0),VS 3 5 0]))
def Sg:List Bool:=[false,true,false,true]
def Sf:List Bool:=[false,false,false,true]
def Se:List Bool:=[false,false,true,false]
def ADj:List Nat:=[0,1,4,5]
def pY:CN:=⟨2,4,.seq (.region false [ VO 2 4 (.mov C2)]) (.seq (.region false [ PM 6 0,PO 7 (.call 37 [S0]),VS 3 5 0]) (.seq (.block 0 (.loop Sg Sf Se Zk)) (.seq (.region false [ PM 14 3,VS 2 4 0]) (.ret)))),[.t 2]⟩
def AGT:List (Nat×Ak):=[(37,KT)]
theorem xy:AP AGT 37=some KT:=rfl
def uo:Ak:=DN AGT pY [.bor,.bor]
theorem s_46:AQ Tryz.prog 126 uo:=AI _ rfl (AF Yi AL) (by kernel_rfl:Ab Tryz.prog 126 pY ADj=true)
theorem M_46:uo.modes=[.bor,.bor]:=rfl
theorem ARA:uo.flat=true:=rfl
attribute [go_sem] M_46 ARA xy
def YK(digits:Int):(List UInt8)->St
 | s_=>⟨[.any,.int .i64 digits,.any,.str s_],[],[],true⟩
def Xk(digits:Int)(y:(List UInt8)):Fw:=(.exit 0,⟨[.any,.any,.any,.str y],[],[],true⟩)
attribute [local go_sem] pY YK Xk Zk Sg Sf Se in
theorem Sw{digits:Int}{sgm_:(List UInt8)}{rho_:(List UInt8)}(h:AS (GX digits) sgm_=some rho_):∃ L0,∀ L,L0<=L->CV (Aq (AP AGT) L Zk) Sg Sf Se L (YK digits sgm_)=Xk digits rho_:=by
 refine Ax (E:=YK digits) (R:=Xk digits) (fun y=>by first|(intro c;cases c)|(rcases y with y|y<;>(intro c;cases c))|(rcases y with y|y|y<;>(intro c;cases c))) ?_ h;clear h;intro s_ o_ h;dsimp only[GX] at h;rcases AE h with⟨z2,h⟩|⟨z2,h⟩
 ·try simp only[go_sem,N1] at z2
  obtain⟨z3,h⟩:=AC h;try simp only[go_sem,N1,z2] at z3
  obtain rfl:=AA h;refine⟨0,fun L hL=>?_⟩;simp only[go_sem, *]
 ·try simp only[go_sem,N1] at z2
  obtain rfl:=AA h;refine⟨0,fun L hL=>?_⟩;simp only[go_sem,z2]
attribute [local go_sem] YK Xk Sg Sf Se pY in
theorem AFt{n:Int}{digits:Int}{y_:(List UInt8)}(h:IB n digits=some y_):uo.F [.int .i64 n,.int .i64 digits]=⟨true,.str y_,[.any,.any]⟩:=by
 refine Ah rfl ?_;dsimp only[IB] at h;obtain⟨y_1,z1,h⟩:=AB h;have fz1:=KU z1;try simp only[go_sem] at fz1
 obtain⟨y_4,z4,h⟩:=AB h;obtain⟨Lz4,ez4⟩:=Sw z4;obtain rfl:=AA h;refine⟨Lz4,fun L hL=>?_⟩;have ez4:=ez4 L (by omega);try simp only[go_sem] at ez4
 simp only[go_sem, *]
def AHM:List Nat:=[0,2,3]
def yr:CN:=⟨1,3,.seq (.region false [ VO 1 2 (.mov C2)]) (.seq (.test false [ PM 4 0,PO 5 (.call 75 [S0]),PO 6 (.un .not S0)] S0 (.seq (.region false [ VO 1 2 (.mov C2)]) (.ret)) (.skip)) (.seq (.region false [ VO 2 3 (.mov C2)]) (.seq (.test false [ PM 7 0,PO 8 (B1 S0 (I6 0))] S0 (.region false [ VO 2 3 (.mov (.c (.str [45])))]) (.skip)) (.seq (.region false [ PM 9 2,PM 10 0,PO 11 (.call 102 [S0]),PO 12 (.bin false .quo S0 (I6 1000)),PO 13 (.call 37 [S0]),PO 14 (B0 S4 S0),PO
 15 (B0 S0 (.c (.str [46]))),PM 16 0,PO 17 (.call 102 [S0]),PO 18 (.bin false .rem S0 (I6 1000)),PO 19 (.call 126 [S0,(I6 3)]),PO 20 (B0 S4 S0),VS 1 2 0]) (.ret))))),[.t 1]⟩
def vr:List (Nat×Ak):=[(75,vV),(102,Vv),(37,KT),(126,uo)]
theorem xw:AP vr 75=some vV:=rfl
theorem rc:AP vr 102=some Vv:=rfl
theorem xx:AP vr 37=some KT:=rfl
theorem ra:AP vr 126=some uo:=rfl
def ba:Ak:=DN vr yr [.bor]
theorem AGk:AQ Tryz.prog 86 ba:=AI _ rfl (AF s_2 (AF ABi (AF Yi (AF s_46 AL)))) (by kernel_rfl:Ab Tryz.prog 86 yr AHM=true)
theorem M_47:ba.modes=[.bor]:=rfl
theorem AQz:ba.flat=true:=rfl
attribute [go_sem] M_47 AQz xw rc xx ra
theorem pt{m:Int}{y_:(List UInt8)}(h:Dz m=some y_):ba.F [.int .i64 m]=⟨true,.str y_,[.any]⟩:=by
 refine Ah rfl ?_;dsimp only[Dz] at h;obtain⟨y_1,z1,h⟩:=AB h;have fz1:=AAr z1;try simp only[go_sem] at fz1
 rcases AE h with⟨z2,h⟩|⟨z2,h⟩
 ·try simp only[go_sem,N1] at z2
  obtain rfl:=AA h;refine⟨0,fun L hL=>?_⟩;simp only[go_sem,yr, *]
 ·try simp only[go_sem,N1] at z2
  rcases AE h with⟨z3,h⟩|⟨z3,h⟩
  ·try simp only[go_sem,N1,z2] at z3
   obtain⟨y_4,z4,h⟩:=AB h;have fz4:=kx z4;try simp only[go_sem, *] at fz4
   obtain⟨z5,h⟩:=AC h;try simp only[go_sem,N1, *] at z5
   obtain⟨y_6,z6,h⟩:=AB h;have fz6:=KU z6;try simp only[go_sem, *] at fz6
   obtain⟨z7,h⟩:=AC h;try simp only[go_sem,N1, *] at z7
   obtain⟨z8,h⟩:=AC h;try simp only[go_sem,N1, *] at z8
   obtain⟨y_9,z9,h⟩:=AB h;have fz9:=AFt z9;try simp only[go_sem, *] at fz9
   obtain⟨z10,h⟩:=AC h;try simp only[go_sem,N1, *] at z10
   obtain rfl:=AA h;refine⟨0,fun L hL=>?_⟩;simp only[go_sem,yr, *]
  ·try simp only[go_sem,N1,z2] at z3
   obtain⟨y_11,z11,h⟩:=AB h;have fz11:=kx z11;try simp only[go_sem, *] at fz11
   obtain⟨z12,h⟩:=AC h;try simp only[go_sem,N1, *] at z12
   obtain⟨y_13,z13,h⟩:=AB h;have fz13:=KU z13;try simp only[go_sem, *] at fz13
   obtain⟨z14,h⟩:=AC h;try simp only[go_sem,N1, *] at z14
   obtain⟨z15,h⟩:=AC h;try simp only[go_sem,N1, *] at z15
   obtain⟨y_16,z16,h⟩:=AB h;have fz16:=AFt z16;try simp only[go_sem, *] at fz16
   obtain⟨z17,h⟩:=AC h;try simp only[go_sem,N1, *] at z17
   obtain rfl:=AA h;refine⟨0,fun L hL=>?_⟩;simp only[go_sem,yr, *]
def fh:IR:=.seq (.region false [ VO 15 47 (B1 (.v 14) (.v 13))]) (.seq (.cond (.v 15) (.skip) (.exit 0)) (.seq (.block 1 (.seq (.region false [ PM 48 14,PO 49 (.ixAddr 1 (.v 12) (.v 14)),PO 50 (L1 S0),VS 10 12 2,VS 11 13 0]) (.region false [ PM 51 9,PM 52 11,PM 53 6,PM 54 10,PO 55 (.ixStr S1 S0),PO 56 (B3 S0 (.c (.int .u8 (48)))),PO 57 (.conv .i64 S0),PO 58 (B8 S5 S0),PO 59 (B0 S7 S0),VS 9 11 0]))) (.region false [ PO 60 (B0 (.v 14) (I6 1)),VS 14 46 0])))
def Wp:List Bool:=[true,false,false,false,true,false,true,false,false,true,false,false,true,true,true,false]
def Wo:List Bool:=[true,false,false,false,true,false,false,false,false,true,false,false,false,false,false,false]
def Wn:List Bool:=[false,true,true,false,false,false,false,false,false,false,false,false,false,false,false,false]
def AHu:List Nat:=[0,2,3,4,5,6,7,9,10,11,12,13,44,45,46,47]
def ACa:CN:=⟨1,16,.seq (.region false [ VO 1 2 (.mov (I6 0)),VO 2 3 (.mov C0)]) (.seq (.region false [ PM 15 0,PO 16 (.call 56 [S0,(.c (.str [45]))]),PO 14 (.mov S0),PO 17 (.ext S0 0),PO 18 (.ext S1 1),VS 3 4 1,VS 4 5 0]) (.seq (.region false [ PM 20 3,PO 21 (.call 19 [S0,(.c (.str [46]))]),PO 19 (.mov S0),PO 22 (.ext S0 0),PO 23 (.ext S1 1),PO 24 (.ext S2 2),VS 5 6 2,VS 6 7 1,PO 8 (.mov S0)]) (.seq (.region false [ PM 26 5,PO 27 (.call 54 [S0]),PO 25 (.mov S0),PO 28 (.ext S0 0),PO 29 (.ext S1
 1),VS 7 9 1,VS 8 10 0]) (.seq (.test false [ PM 30 8,PO 31 (.un .not S0),PO 32 (.mov S0),⟨.push,33,(G0 0),.mov V7⟩,⟨.push,34,(G0 1),.call 73 [S0,(I6 0),(I6 20)]⟩,⟨.push,35,(G0 2),.un .not S0⟩,PO 36 (.pick S3 C1 S0),PO 37 (.mov S0),⟨.push,38,(G0 0),.mov V6⟩,⟨.push,39,(G0 1),.len true S0⟩,⟨.push,40,(G0 2),B7 S0 (I6 3)⟩,PO 41 (.pick S3 C1 S0)] S0 (.seq (.region false [ VO
 1 2 (.mov (I6 0)),VO 2 3 (.mov C0)]) (.ret)) (.skip)) (.seq (.region false [ PM 42 7,PO 43 (B8 S0 (I6 1000)),VS 9 11 0]) (.seq (.seq (.region false [ VO 12 44 (.mkSl 1 (.int .i64 (0)) 3 [(0,(I6 100)),(1,(I6 10)),(2,(I6 1))]),VO 13 45 (.len false (.v 12)),VO 14 46 (.mov (I6 0))]) (.block 0 (.loop Wp Wo Wn fh))) (.seq (.test false [ PM 61 4] S0 (.region false [ PM 62 9,PO 63 (.un .neg S0),VS 9 11 0]) (.skip)) (.seq (.test false [ PM 64 9,PO 65 (.call 86 [S0]),PM 66 0,PO 67 (B7 S1 S0)] S0
 (.seq (.region false [ VO 1 2 (.mov (I6 0)),VO 2 3 (.mov C0)]) (.ret)) (.skip)) (.seq (.region false [ PM 68 9,VS 1 2 0,VO 2 3 (.mov C1)]) (.ret)))))))))),[.t 1,.t 2]⟩
def lM:List (Nat×Ak):=[(56,uq),(19,ML),(54,Ik),(73,ee),(86,ba)]
theorem xt:AP lM 56=some uq:=rfl
theorem xv:AP lM 19=some ML:=rfl
theorem xu:AP lM 54=some Ik:=rfl
theorem xr:AP lM 73=some ee:=rfl
theorem xq:AP lM 86=some ba:=rfl
def AEJ:Ak:=DN lM ACa [.bor]
theorem s_48:AQ Tryz.prog 55 AEJ:=AI _ rfl (AF AMb (AF lQ (AF Yg (AF s_0 (AF AGk AL))))) (by kernel_rfl:Ab Tryz.prog 55 ACa AHu=true)
theorem AOB:AEJ.modes=[.bor]:=rfl
theorem AQy:AEJ.flat=true:=rfl
attribute [go_sem] AOB AQy xt xv xu xr xq
def YJ(s_:List UInt8)(negative:Bool)(rest_:List UInt8)(t44:List Int)(t45:Int):(Int×Int)->St
 | (m,t46)=>⟨[.str s_,.any,.any,.any,.bool negative,.any,.str rest_,.any,.any,.int .i64 m,.any,.any,.own 3200000,.int .i64 t45,.int .i64 t46,.any],[],[(3200000,⟨1,List.map (AV.int .i64) t44⟩)],true⟩
def Xj(s_:List UInt8)(negative:Bool)(rest_:List UInt8)(t44:List Int)(t45:Int)(y:Int):Fw:=(.exit 0,⟨[.str s_,.any,.any,.any,.bool negative,.any,.any,.any,.any,.int .i64 y,.any,.any,.any,.any,.any,.any],[],[],true⟩)
attribute [local go_sem] ACa YJ Xj fh Wp Wo Wn in
theorem QZ{s_:List UInt8}{negative:Bool}{rest_:List UInt8}{t44:List Int}{t45:Int}{sgm_:Int×Int}{rho_:Int}(h:AS (Fb s_ negative rest_ t44 t45) sgm_=some rho_):∃ L0,∀ L,L0<=L->CV (Aq (AP lM) L fh) Wp Wo Wn L (YJ s_ negative rest_ t44 t45 sgm_)=Xj s_ negative rest_ t44 t45 rho_:=by
 refine Ax (E:=YJ s_ negative rest_ t44 t45) (R:=Xj s_ negative rest_ t44 t45) (fun y=>by first|(intro c;cases c)|(rcases y with y|y<;>(intro c;cases c))|(rcases y with y|y|y<;>(intro c;cases c))) ?_ h;clear h;rintro⟨m,t46⟩ o_ h;dsimp only[Fb] at h;rcases AE h with⟨z6,h⟩|⟨z6,h⟩
 ·try simp only[go_sem,N1] at z6
  obtain⟨z7,h⟩:=AC h;have lz7:=Az z7;try simp only[go_sem] at lz7
  try simp only[go_sem,N1,z6] at z7
  obtain⟨z8,h⟩:=AC h;try simp only[go_sem,N1, *] at z8
  obtain rfl:=AA h;refine⟨0,fun L hL=>?_⟩;simp only[go_sem, *]
 ·try simp only[go_sem,N1] at z6
  obtain rfl:=AA h;refine⟨0,fun L hL=>?_⟩;simp only[go_sem,z6]
attribute [local go_sem] ACa YJ Xj Wp Wo Wn in
theorem APn{s_:List UInt8}{y_:Int×Bool}(h:Ee s_=some y_):AEJ.F [.str s_]=⟨true,.tup [.int .i64 y_.1,.bool y_.2],[.any]⟩:=by
 refine Ah rfl ?_;dsimp only[Ee] at h;obtain⟨y_1,z1,h⟩:=AB h;have fz1:=AFu z1;try simp only[go_sem] at fz1
 obtain⟨y_2,z2,h⟩:=AB h;have fz2:=gq z2;try simp only[go_sem] at fz2
 obtain⟨y_3,z3,h⟩:=AB h;have fz3:=NG z3;try simp only[go_sem] at fz3
 obtain⟨z4,h⟩:=AC h;rcases Ag z4 with⟨gz4,z4⟩|gz4
 ·try simp only[go_sem,N1] at gz4
  all_goals
  obtain⟨y_4,hz4⟩:=isX z4;have fz4:=VD hz4;try simp only[go_sem,N1,gz4] at hz4
  all_goals
  try simp only[go_sem,gz4] at fz4
  rcases AE h with⟨z5,h⟩|⟨z5,h⟩
  ·try simp only[go_sem,N1, *] at z5
   all_goals
   obtain rfl:=AA h;refine⟨0,fun L hL=>?_⟩;simp only[go_sem, *]
  ·try simp only[go_sem,N1, *] at z5
   all_goals
   obtain⟨y_9,z9,h⟩:=AB h;obtain⟨Lz9,ez9⟩:=QZ z9;rcases AE h with⟨z10,h⟩|⟨z10,h⟩
   ·try simp only[go_sem,N1, *] at z10
    all_goals
    obtain⟨y_11,z11,h⟩:=AB h;have fz11:=pt z11;try simp only[go_sem, *] at fz11
    rcases AE h with⟨z12,h⟩|⟨z12,h⟩
    all_goals
    try simp only[go_sem,N1, *] at z12
    all_goals
    obtain rfl:=AA h;refine⟨Lz9,fun L hL=>?_⟩;have ez9:=ez9 L (by omega);try simp only[go_sem, *] at ez9
    simp only[go_sem, *]
   ·try simp only[go_sem,N1, *] at z10
    all_goals
    obtain⟨y_13,z13,h⟩:=AB h;have fz13:=pt z13;try simp only[go_sem, *] at fz13
    rcases AE h with⟨z14,h⟩|⟨z14,h⟩
    all_goals
    try simp only[go_sem,N1, *] at z14
    all_goals
    obtain rfl:=AA h;refine⟨Lz9,fun L hL=>?_⟩;have ez9:=ez9 L (by omega);try simp only[go_sem, *] at ez9
    simp only[go_sem, *]
 ·have gz4n:=FO gz4;have gz4nn:=Is gz4n;try simp only[go_sem,N1] at gz4nn
  all_goals
  rcases AE h with⟨z5,h⟩|⟨z5,h⟩
  ·try simp only[go_sem,N1,gz4nn] at z5
   all_goals
   obtain rfl:=AA h;refine⟨0,fun L hL=>?_⟩;simp only[go_sem, *]
  ·try simp only[go_sem,N1,gz4nn] at z5
   all_goals
   (simp_all)
