/- Lemmas and walks, several texts in one. No condition. -/
import Derived.Test.YteaicgcfpcklkaaGreatDoorP8
import Derived.Test.YteaicgcfpcklkaaGreatDoorRows
import Derived.WalkKit
set_option linter.unusedSimpArgs false
set_option linter.unusedVariables false
set_option maxRecDepth 10000
set_option maxHeartbeats 64000000
open Go.IntKind (i64 u64)
noncomputable section
namespace Go.Proofs.YteaicgcfpcklkaaGreatDoor
open Go Go.RowKit
def ADu:List Nat:=[0,1,2,3,4,6]
def cx:CN:=⟨3,6,.seq (.region false [ VO 3 3 (.box V0),VO 4 4 (.box V1),VO 5 6 (.mov C0)]) (.seq (.block 0 (.test false [ PO 8 (F4 V3),PO 9 (L1 S0),PO 10 (.mov S0),⟨.push,11,(G1 0),F4 V4⟩,⟨.push,12,(G1 1),L1 S0⟩,PO 13 (.pick S2 S0 C0),PO 7 (.mov S0)] S0 (.seq (.region false [ VO 5 6 (.mov C0)]) (.ret)) (.test false [ PO 15 (F4 V3),PO 16 (L1 S0),PO 14 (.mov S0)] S0 (.seq
 (.region false [ PO 17 (F3 V4),PO 18 (L1 S0),PM 19 2,PO 20 (B0 S1 S0),PO 21 (F3 V3),PO 22 (L1 S0),PO 23 (B1 S2 S0),VS 5 6 0]) (.ret)) (.test false [ PO 25 (F4 V4),PO 26 (L1 S0),PO 24 (.mov S0)] S0 (.seq (.region false [ PO 27 (F3 V3),PO 28 (L1 S0),PM 29 2,PO 30 (B0 S1 S0),PO 31 (F3 V4),PO 32 (L1 S0),PO 33 (B1 S2 S0),VS 5 6 0]) (.ret)) (.skip))))) (.seq
 (.region false [ PO 34 (F3 V3),PO 35 (L1 S0),PO 36 (F3 V4),PO 37 (L1 S0),PO 38 (B3 S2 S0),PO 39 (.call 102 [S0]),PM 40 2,PO 41 (B4 S1 S0),VS 5 6 0]) (.ret))),[.t 5]⟩
def ALk:List (Nat×Ak):=[(102,Vv)]
theorem rZ:AP ALk 102=some Vv:=rfl
def um:Ak:=DN ALk cx [.bor,.bor,.bor]
theorem s_51:AQ Tryz.prog 103 um:=AI _ rfl (AF ABi AL) (by kernel_rfl:Ab Tryz.prog 103 cx ADu=true)
theorem M_51:um.modes=[.bor,.bor,.bor]:=rfl
theorem AQx:um.flat=true:=rfl
attribute [go_sem] M_51 AQx rZ
theorem APm{a:AD}{b:AD}{by_:Int}{y_:Bool}(h:FZ a b by_=some y_):um.F [AN a,AN b,.int .i64 by_]=⟨true,.bool y_,[.any,.any,.any]⟩:=by
 refine Ah rfl ?_;dsimp only[FZ] at h;rcases AE h with⟨z1,h⟩|⟨z1,h⟩
 ·try simp only[go_sem,N1] at z1
  obtain rfl:=AA h;refine⟨0,fun L hL=>?_⟩;simp only[go_sem,cx,z1]
 ·try simp only[go_sem,N1] at z1
  rcases AE h with⟨z2,h⟩|⟨z2,h⟩
  ·have z2d0:=AJX z1 z2;try simp only[go_sem,N1,z1] at z2
   obtain rfl:=AA h;refine⟨0,fun L hL=>?_⟩;simp only[go_sem,cx, *]
  ·try simp only[go_sem,N1,z1] at z2
   rcases AE h with⟨z3,h⟩|⟨z3,h⟩
   ·have z3d0:=AJY z1 z3;try simp only[go_sem,N1, *] at z3
    obtain rfl:=AA h;refine⟨0,fun L hL=>?_⟩;simp only[go_sem,cx, *]
   ·try simp only[go_sem,N1, *] at z3
    obtain⟨y_4,z4,h⟩:=AB h;have fz4:=kx z4;try simp only[go_sem, *] at fz4
    obtain rfl:=AA h;refine⟨0,fun L hL=>?_⟩;simp only[go_sem,cx, *]
def ADw:List Nat:=[0,1,2,3,4,7,8,9]
def jb:CN:=⟨5,8,.seq (.region false [ VO 5 7 (.mov C0)]) (.seq (.anyo 8 [ SO 0 10 (.safe [8,9] (L1 V2)),SO 1 11 (.flat (.mov V0)),SO 2 12 (.safe [8,9] (.ixAddr 5 S0 S1)),SO 3 13 (.safe [8,9] (L5 S2)),SO 4 14 (.safe [8,9] (L1 V2)),SO 5 15 (.flat (.mov V1)),SO 6 16 (.safe [8,9] (.ixAddr 5 S4 S5)),SO 7 17 (.safe [8,9] (L5 S6)),VO 6 8 (.alloc (.agg [.int .i64 (0),.str [],.str [],.int .i64 (0),.bool false])),VO 7 9 (.alloc (.agg [.int .i64 (0),.str [],.str [],.int .i64
 (0),.bool false])),⟨.no,0,none,.store 5 V6 S3⟩,⟨.no,0,none,.store 5 V7 S7⟩] [[0,1,2,3,5,4,6,7,8,9,10,11],[0,1,2,3,5,4,6,7,9,8,10,11],[0,1,2,3,5,4,6,8,9,7,10,11],[0,1,2,3,5,4,6,8,9,10,7,11],[0,1,2,3,5,4,6,9,8,7,10,11],[0,1,2,3,5,4,6,9,8,10,7,11],[0,1,2,3,5,4,8,9,6,7,10,11],[0,1,2,3,5,4,8,9,6,10,7,11],[0,1,2,3,5,4,8,9,10,6,7,11],[0,1,2,3,5,4,9,8,6,7,10,11],[0,1,2,3,5,4,9,8,6,10,7,11],[0,1,2,3,5,4,9,8,10,6,7,11],[0,1,2,3,5,8,
 9,4,6,7,10,11],[0,1,2,3,5,8,9,4,6,10,7,11],[0,1,2,3,5,8,9,4,10,6,7,11],[0,1,2,3,5,8,9,10,4,6,7,11],[0,1,2,3,5,9,8,4,6,7,10,11],[0,1,2,3,5,9,8,4,6,10,7,11],[0,1,2,3,5,9,8,4,10,6,7,11],[0,1,2,3,5,9,8,10,4,6,7,11]] .skip) (.seq (.anyo 21 [ SO 0 18 (F1 V6),SO 1 19 (L1 S0),SO 2 20 (F1 V7),SO 3 21 (L1 S2),SO 4 22 (B2 S1 S3),SO 5 23 (.mov S4),⟨.slot 6,24,(G1 5),F0 V6⟩,⟨.slot 7,25,(some (S5,
 true)),L1 S6⟩,⟨.slot 8,26,(G1 5),F0 V7⟩,⟨.slot 9,27,(G1 5),L1 S8⟩,⟨.slot 10,28,(G1 5),B3 S7 S9⟩,⟨.slot 11,29,(G1 5),.call 102 [(.s 10)]⟩,⟨.slot 12,30,(G1 5),L1 V3⟩,⟨.slot 13,31,(G1 5),B5 (.s 11) (.s 12)⟩,SO 14 32 (.pick S5 (.s 13) C0),SO 15 33 (.mov (.s 14)),⟨.slot 16,34,(G1 15),L5 V6⟩,⟨.slot 17,35,(G1 15),.load true 5
 V7⟩,⟨.slot 18,36,(G1 15),L1 V4⟩,⟨.slot 19,37,(G1 15),.call 103 [(.s 16),(.s 17),(.s 18)]⟩,SO 20 38 (.pick (.s 15) (.s 19) C0),VS 5 7 20] [] .skip) (.ret))),[.t 5]⟩
def AGS:List (Nat×Ak):=[(102,Vv),(103,um)]
theorem rY:AP AGS 102=some Vv:=rfl
theorem rX:AP AGS 103=some um:=rfl
def ul:Ak:=DN AGS jb [.bor,.bor,.bor,.bor,.bor]
theorem s_52:AQ Tryz.prog 101 ul:=AI _ rfl (AF ABi (AF s_51 AL)) (by kernel_rfl:Ab Tryz.prog 101 jb ADw=true)
theorem M_52:ul.modes=[.bor,.bor,.bor,.bor,.bor]:=rfl
theorem AQw:ul.flat=true:=rfl
attribute [go_sem] M_52 AQw rY rX
theorem APl{i:Int}{k:Int}{t2:List AD}{t3:Int}{t4:Int}{y_:Bool}(h:Dd i k t2 t3 t4=some y_):ul.F [.int .i64 i,.int .i64 k,.ptr 1 [.sl 5 (List.map AN t2)] 0 0,.ptr 1 [.int .i64 t3] 0 0,.ptr 1 [.int .i64 t4] 0 0]=⟨true,.bool y_,[.any,.any,.any,.any,.any]⟩:=by
 refine Ah rfl ?_;dsimp only[Dd] at h;obtain⟨z1,h⟩:=AC h;have lz1:=Az z1;try simp only[go_sem] at lz1
 try simp only[go_sem,N1] at z1
 all_goals
 obtain⟨z2,h⟩:=AC h;have lz2:=Az z2;try simp only[go_sem] at lz2
 try simp only[go_sem,N1,z1] at z2
 all_goals
 obtain⟨z3,h⟩:=AC h;rcases Ag z3 with⟨gz3,z3⟩|gz3
 ·try simp only[go_sem,N1, *] at gz3
  all_goals
  obtain⟨y_3,hz3⟩:=isX z3;have fz3:=kx hz3;try simp only[go_sem,N1, *] at hz3
  all_goals
  try simp only[go_sem, *] at fz3
  obtain⟨z4,h⟩:=AC h;rcases Ag z4 with⟨gz4,z4⟩|gz4
  ·try simp only[go_sem,N1, *] at gz4
   all_goals
   obtain⟨y_4,hz4⟩:=isX z4;have fz4:=APm hz4;try simp only[go_sem,N1, *] at hz4
   all_goals
   try simp only[go_sem, *] at fz4
   obtain rfl:=AA h;refine⟨0,fun L hL=>?_⟩;simp only[go_sem,jb, *]
  ·rcases HU gz4 with gz4a|⟨gz4a,gz4b⟩
   ·try simp only[go_sem,N1, *] at gz4a
    all_goals
    (simp_all)
   ·try simp only[go_sem,N1, *] at gz4a
    all_goals
    try simp only[go_sem,N1, *] at gz4b
    all_goals
    obtain rfl:=AA h;refine⟨0,fun L hL=>?_⟩;simp only[go_sem,jb, *]
 ·try simp only[go_sem,N1, *] at gz3
  all_goals
  obtain⟨z4,h⟩:=AC h;obtain rfl:=AA h;refine⟨0,fun L hL=>?_⟩;simp only[go_sem,jb, *]
def Zp:IR:=.seq (.test false [ PM 15 5,PM 16 0,PO 17 (B1 S1 S0)] S0 (.skip) (.exit 2)) (.seq (.block 3 (.test false [ PM 20 1,PM 21 4,PM 22 5,PO 23 (.callv S2 [S1,S0])] S0 (.region false [ PM 24 3,PM 25 4,PM 26 5,PO 27 (.mkSl 1 (.int .i64 (0)) 2 [(0,S1),(1,S0)]),PO 28 (.mkSl 1 (.sl 1 []) 1 [(0,S0)]),PO 29 (.app 1 24 (.sl 1 []) S4 S0),VS 3 5 0]) (.skip))) (.region false [ PM 18 5,PO 19 (B0 S0 (I6 1)),VS 5 7 0]))
def Od:List Bool:=[true,true,false,true,true,true,true,true,false]
def Oc:List Bool:=[true,true,false,true,false,false,true,true,false]
def Ob:List Bool:=[false,false,true,false,false,false,false,false,false]
def Zq:IR:=.seq (.region false [ VO 8 11 (B1 V7 V6)]) (.seq (.cond V8 (.skip) (.exit 0)) (.seq (.block 1 (.seq (.region false [ PM 12 7,VS 4 6 0]) (.seq (.region false [ PM 13 4,PO 14 (B0 S0 (I6 1)),VS 5 7 0]) (.block 2 (.loop Od Oc Ob Zp))))) (.region false [ PO 30 (B0 V7 (I6 1)),VS 7 10 0])))
def Su:List Bool:=[true,true,false,true,false,false,true,true,false]
def Ss:List Bool:=[false,false,false,true,false,false,false,false,false]
def Sr:List Bool:=[false,false,true,false,false,false,false,false,false]
def ADx:List Nat:=[0,1,4,5,6,7,9,10,11]
def jc:CN:=⟨2,9,.seq (.region false [ VO 2 4 (.newnil 1)]) (.seq (.region false [ PO 8 (.mkSl 1 (.sl 1 []) 0 []),VS 3 5 0]) (.seq (.seq (.region false [ VO 6 9 (.mov V0),VO 7 10 (.mov (I6 0))]) (.block 0 (.loop Su Ss Sr Zq))) (.seq (.region false [ PM 31 3,VS 2 4 0]) (.ret)))),[.t 2]⟩
def ABV:List (Nat×Ak):=[(101,ul)]
theorem rW:AP ABV 101=some ul:=rfl
def uk:Ak:=bH ABV jc [.bor,.bor]
theorem s_53:AQ Tryz.prog 100 uk:=DH _ (AF s_52 AL) (by kernel_rfl:Ab Tryz.prog 100 jc ADx=true)
theorem M_53:uk.modes=[.bor,.bor]:=rfl
theorem AQv:uk.flat=false:=rfl
attribute [go_sem] M_53 AQv rW
def Tm(n:Int)(c:List AD)(c2:Int)(c3:Int)(i:Int)(t9:Int)(t10:Int):((List (List Int))×Int)->St
 | (out,k)=>⟨[.int .i64 n,.fn (.func 101) [] [.ptr 1 [.sl 5 (List.map AN c)] 0 0,.ptr 1 [.int .i64 c2] 0 0,.ptr 1 [.int .i64 c3] 0 0],.any,.own 3200000,.int .i64 i,.int .i64 k,.int .i64 t9,.int .i64 t10,.any],[],[(3200000,⟨1,List.map (slE 1 (AV.int .i64)) out⟩)],true⟩
def TO(n:Int)(c:List AD)(c2:Int)(c3:Int)(i:Int)(t9:Int)(t10:Int)(y:(List (List Int))):Fw:=(.exit 2,⟨[.int .i64 n,.fn (.func 101) [] [.ptr 1 [.sl 5 (List.map AN c)] 0 0,.ptr 1 [.int .i64 c2] 0 0,.ptr 1 [.int .i64 c3] 0 0],.any,.own 3200000,.any,.any,.int .i64 t9,.int .i64 t10,.any],[],[(3200000,⟨1,List.map (slE 1 (AV.int .i64)) y⟩)],true⟩)
attribute [local go_sem] jc Tm TO Zp Od Oc Ob in
theorem GJ{n:Int}{c:List AD}{c2:Int}{c3:Int}{i:Int}{t9:Int}{t10:Int}{sgm_:(List (List Int))×Int}{rho_:(List (List Int))}(h:AS (BA n c c2 c3 i t9 t10) sgm_=some rho_):∃ L0,∀ L,L0<=L->CV (Aq (AP ABV) L Zp) Od Oc Ob L (Tm n c c2 c3 i t9 t10 sgm_)=TO n c c2 c3 i t9 t10 rho_:=by
 refine Ax (E:=Tm n c c2 c3 i t9 t10) (R:=TO n c c2 c3 i t9 t10) (fun y=>by first|(intro c;cases c)|(rcases y with y|y<;>(intro c;cases c))|(rcases y with y|y|y<;>(intro c;cases c))) ?_ h;clear h;rintro⟨out,k⟩ o_ h;dsimp only[BA] at h;rcases AE h with⟨z2,h⟩|⟨z2,h⟩
 ·try simp only[go_sem,N1] at z2
  obtain⟨y_3,z3,h⟩:=AB h;have fz3:=APl z3;try simp only[go_sem,z2] at fz3
  rcases AE h with⟨z4,h⟩|⟨z4,h⟩
  ·try simp only[go_sem,N1,z2] at z4
   obtain⟨z5,h⟩:=AC h;try simp only[go_sem,N1, *] at z5
   obtain rfl:=AA h;refine⟨0,fun L hL=>?_⟩;simp only[go_sem, *]
  ·try simp only[go_sem,N1,z2] at z4
   obtain rfl:=AA h;refine⟨0,fun L hL=>?_⟩;simp only[go_sem, *]
 ·try simp only[go_sem,N1] at z2
  obtain rfl:=AA h;refine⟨0,fun L hL=>?_⟩;simp only[go_sem,z2]
def YI(n:Int)(c:List AD)(c2:Int)(c3:Int)(t9:Int):((List (List Int))×Int)->St
 | (out,t10)=>⟨[.int .i64 n,.fn (.func 101) [] [.ptr 1 [.sl 5 (List.map AN c)] 0 0,.ptr 1 [.int .i64 c2] 0 0,.ptr 1 [.int .i64 c3] 0 0],.any,.own 3200000,.any,.any,.int .i64 t9,.int .i64 t10,.any],[],[(3200000,⟨1,List.map (slE 1 (AV.int .i64)) out⟩)],true⟩
def Xi(n:Int)(c:List AD)(c2:Int)(c3:Int)(t9:Int)(y:(List (List Int))):Fw:=(.exit 0,⟨[.any,.any,.any,.own 3200000,.any,.any,.any,.any,.any],[],[(3200000,⟨1,List.map (slE 1 (AV.int .i64)) y⟩)],true⟩)
attribute [local go_sem] YI Xi Zq Su Ss Sr Tm TO Od Oc Ob jc in
theorem GK{n:Int}{c:List AD}{c2:Int}{c3:Int}{t9:Int}{sgm_:(List (List Int))×Int}{rho_:(List (List Int))}(h:AS (BB n c c2 c3 t9) sgm_=some rho_):∃ L0,∀ L,L0<=L->CV (Aq (AP ABV) L Zq) Su Ss Sr L (YI n c c2 c3 t9 sgm_)=Xi n c c2 c3 t9 rho_:=by
 refine Ax (E:=YI n c c2 c3 t9) (R:=Xi n c c2 c3 t9) (fun y=>by first|(intro c;cases c)|(rcases y with y|y<;>(intro c;cases c))|(rcases y with y|y|y<;>(intro c;cases c))) ?_ h;clear h;rintro⟨out,t10⟩ o_ h;dsimp only[BB] at h;rcases AE h with⟨z1,h⟩|⟨z1,h⟩
 ·try simp only[go_sem,N1] at z1
  obtain⟨y_6,z6,h⟩:=AB h;obtain⟨Lz6,ez6⟩:=GJ z6;obtain rfl:=AA h;refine⟨Lz6,fun L hL=>?_⟩;have ez6:=ez6 L (by omega);try simp only[go_sem,z1] at ez6
  simp only[go_sem, *]
 ·try simp only[go_sem,N1] at z1
  obtain rfl:=AA h;refine⟨0,fun L hL=>?_⟩;simp only[go_sem,z1]
attribute [local go_sem] Tm TO Od Oc Ob YI Xi Su Ss Sr jc in
theorem APk{n:Int}{wanted_c0:List AD}{wanted_c1:Int}{wanted_c2:Int}{y_:(List (List Int))}(h:Bn n wanted_c0 wanted_c1 wanted_c2=some y_):uk.F [.int .i64 n,.fn (.func 101) [] [.ptr 1 [.sl 5 (List.map AN wanted_c0)] 0 0,.ptr 1 [.int .i64 wanted_c1] 0 0,.ptr 1 [.int .i64 wanted_c2] 0 0]]=⟨true,.fresh 1 (List.map (slE 1 (AV.int .i64)) y_),[.any,.any]⟩:=by
 refine Jn ?_;dsimp only[Bn] at h;obtain⟨y_7,z7,h⟩:=AB h;obtain⟨Lz7,ez7⟩:=GK z7;obtain rfl:=AA h;refine⟨Lz7,fun L hL=>?_⟩;have ez7:=ez7 L (by omega);try simp only[go_sem] at ez7
 simp only[go_sem,ez7]
def AHm:List Nat:=[0,1,2,3,4,5,6,7]
def tV:CN:=⟨3,8,.seq (.region false [ VO 3 3 (.box V0),VO 4 4 (.box V1),VO 5 5 (.box V2),VO 6 6 (.newnil 1),VO 7 7 (.mov (I6 0))]) (.seq (.block 0 (.test false [ PO 9 (L1 V3),PO 10 (.call 25 [S0]),PO 11 (.un .not S0),PO 8 (.mov S0)] S0 (.seq (.region false [ VO 6 6 (.newnil 1),VO 7 7 (.mov (I6 1))]) (.ret)) (.test false [ PO 13 (L1 V4),PO 14 (.call 73 [S0,(I6 0),(I6 100000)]),PO 15 (.un .not S0),PO 16 (.mov S0),⟨.push,17,(G0 0),L1 V5⟩,⟨.push,18,(some (S1,
 false)),.call 73 [S0,(I6 1),(I6 20000)]⟩,⟨.push,19,(G0 2),.un .not S0⟩,PO 20 (.pick S3 C1 S0),PO 12 (.mov S0)] S0 (.seq (.region false [ VO 6 6 (.newnil 1),VO 7 7 (.mov (I6 2))]) (.ret)) (.skip)))) (.seq (.region false [ PO 21 (L1 V3),PO 22 (.len false S0),PO 23 (.mkFn (.func 101) [] [V3,V4,V5]),PO 24 (.call 100 [S1,S0]),VS 6 6 0,VO 7 7 (.mov (I6 0))]) (.ret))),[.t 6,.t 7]⟩
def ABU:List (Nat×Ak):=[(25,Vw),(73,ee),(100,uk)]
theorem xp:AP ABU 25=some Vw:=rfl
theorem xo:AP ABU 73=some ee:=rfl
theorem rV:AP ABU 100=some uk:=rfl
def uj:Ak:=bH ABU tV [.bor,.bor,.bor]
theorem s_54:AQ Tryz.prog 62 uj:=DH _ (AF wN (AF s_0 (AF s_53 AL))) (by kernel_rfl:Ab Tryz.prog 62 tV AHm=true)
theorem M_54:uj.modes=[.bor,.bor,.bor]:=rfl
theorem AQu:uj.flat=false:=rfl
attribute [go_sem] M_54 AQu xp xo rV
theorem APj{list:List AD}{apart:Int}{by_:Int}{y_:(List (List Int))×Int}(h:EX list apart by_=some y_):uj.F [.sl 5 (List.map AN list),.int .i64 apart,.int .i64 by_]=⟨true,.tup [.fresh 1 (List.map (slE 1 (AV.int .i64)) y_.1),.int .i64 y_.2],[.any,.any,.any]⟩:=by
 refine Jn ?_;dsimp only[EX] at h;obtain⟨y_1,z1,h⟩:=AB h;have fz1:=ky z1;try simp only[go_sem] at fz1
 rcases AE h with⟨z2,h⟩|⟨z2,h⟩
 ·try simp only[go_sem,N1] at z2
  all_goals
  obtain rfl:=AA h;refine⟨0,fun L hL=>?_⟩;simp only[go_sem,tV, *]
 ·try simp only[go_sem,N1] at z2
  all_goals
  obtain⟨y_3,z3,h⟩:=AB h;have fz3:=VD z3;try simp only[go_sem,z2] at fz3
  obtain⟨z4,h⟩:=AC h;rcases Ag z4 with⟨gz4,z4⟩|gz4
  ·try simp only[go_sem,N1,z2] at gz4
   all_goals
   obtain⟨y_4,hz4⟩:=isX z4;have fz4:=VD hz4;try simp only[go_sem,N1, *] at hz4
   all_goals
   try simp only[go_sem, *] at fz4
   rcases AE h with⟨z5,h⟩|⟨z5,h⟩
   ·try simp only[go_sem,N1, *] at z5
    all_goals
    obtain rfl:=AA h;refine⟨0,fun L hL=>?_⟩;simp only[go_sem,tV, *]
   ·try simp only[go_sem,N1, *] at z5
    all_goals
    obtain⟨y_6,z6,h⟩:=AB h;have fz6:=APk z6;try simp only[go_sem, *] at fz6
    obtain rfl:=AA h;refine⟨0,fun L hL=>?_⟩;simp only[go_sem,tV, *]
  ·have gz4n:=FO gz4;have gz4nn:=Is gz4n;try simp only[go_sem,N1,z2] at gz4nn
   all_goals
   rcases AE h with⟨z5,h⟩|⟨z5,h⟩
   ·try simp only[go_sem,N1, *] at z5
    all_goals
    obtain rfl:=AA h;refine⟨0,fun L hL=>?_⟩;simp only[go_sem,tV, *]
   ·try simp only[go_sem,N1, *] at z5
    all_goals
    (simp_all)
theorem lP:AQ Tryz.prog 174 Iv:=ji
def Zj:IR:=.seq (.anyo 16 [ SO 0 8 (.mov V5),SO 1 9 (.mov V0),SO 2 10 (.len false S1),SO 3 11 (B1 S0 S2),SO 4 12 (.mov S3),⟨.slot 5,13,(G1 4),.mov V2⟩,⟨.slot 6,14,(G1 4),.mov V0⟩,⟨.slot 7,15,(G1 4),.mov V5⟩,⟨.slot 8,16,(G1 4),.ixAddr 5 S6 S7⟩,⟨.slot 9,17,(G1 4),L5 S8⟩,⟨.slot 10,18,(G1 4),.callv S5 [S9]⟩,⟨.slot 11,19,(G1 4),.mov V2⟩,⟨.slot 12,20,(some (S4,
 true)),L5 V3⟩,⟨.slot 13,21,(G1 4),.callv (.s 11) [(.s 12)]⟩,⟨.slot 14,22,(G1 4),B1 (.s 10) (.s 13)⟩,SO 15 23 (.pick S4 (.s 14) C0)] [] (.cond (.s 15) (.skip) (.exit 0))) (.block 1 (.region false [ PM 24 5,PO 25 (B0 S0 (I6 1)),VS 5 7 0]))
def Sd:List Bool:=[true,false,true,true,false,true]
def Sc:List Bool:=[true,false,false,true,false,true]
def Sb:List Bool:=[false,false,false,false,true,false]
def ADh:List Nat:=[0,1,2,4,6,7]
def pW:CN:=⟨3,6,.seq (.region false [ VO 3 4 (.box V1),VO 4 6 (.newnil 5)]) (.seq (.region false [ VO 5 7 (.mov (I6 0))]) (.seq (.block 0 (.loop Sd Sc Sb Zj)) (.seq (.anyo 6 [ SO 0 26 (.mov V0),SO 1 27 (.call 28 [S0]),SO 2 28 (.flat (.mov V5)),SO 3 29 (L5 V3),SO 4 30 (.mkSl 5 (.agg [.str [],.int .i64 (0),.int .i64 (0),.int .i64 (0),.int .i64 (0)]) 1 [(0,S3)]),SO 5 31 (.call 174 [S1,S2,S4]),VS 4 6 5] [[2,0,1,3,4,5,6],[2,0,3,1,4,5,6],[2,0,3,4,1,5,6],[2,3,0,1,4,5,6],[2,3,0,
 4,1,5,6],[2,3,4,0,1,5,6]] .skip) (.ret)))),[.t 4]⟩
def vq:List (Nat×Ak):=[(44,c_4),(28,ka),(174,Iv)]
theorem xm:AP vq 44=some c_4:=rfl
theorem xn:AP vq 28=some ka:=rfl
theorem rU:AP vq 174=some Iv:=rfl
def ui:Ak:=DN vq pW [.bor,.bor,.bor]
theorem s_56:AQ Tryz.prog 128 ui:=AI _ rfl (AF s_4 (AF AMd (AF lP AL))) (by kernel_rfl:Ab Tryz.prog 128 pW ADh=true)
theorem M_56:ui.modes=[.bor,.bor,.bor]:=rfl
theorem AQt:ui.flat=true:=rfl
attribute [go_sem] M_56 AQt xm xn rU
def YH(list:List Star)(x:Star):Int->St
 | k=>⟨[.sl 5 (List.map BV list),.any,.fn (.func 44) [] [],.ref 3200000 0 0,.any,.int .i64 k],[],[(3200000,⟨5,[BV x]⟩)],true⟩
def Xh(list:List Star)(x:Star)(y:Int):Fw:=(.exit 0,⟨[.sl 5 (List.map BV list),.any,.any,.ref 3200000 0 0,.any,.int .i64 y],[],[(3200000,⟨5,[BV x]⟩)],true⟩)
attribute [local go_sem] pW YH Xh Zj Sd Sc Sb in
theorem Ga{list:List Star}{x:Star}{sgm_:Int}{rho_:Int}(h:AS (Ao list x) sgm_=some rho_):∃ L0,∀ L,L0<=L->CV (Aq (AP vq) L Zj) Sd Sc Sb L (YH list x sgm_)=Xh list x rho_:=by
 refine Ax (E:=YH list x) (R:=Xh list x) (fun y=>by first|(intro c;cases c)|(rcases y with y|y<;>(intro c;cases c))|(rcases y with y|y|y<;>(intro c;cases c))) ?_ h;clear h;intro k o_ h;dsimp only[Ao] at h;obtain⟨z1,h⟩:=AC h;rcases Ag z1 with⟨gz1,z1⟩|gz1
 ·try simp only[go_sem,N1] at gz1
  all_goals
  have lz1:=Az z1;try simp only[go_sem] at lz1
  try simp only[go_sem,N1,gz1] at z1
  all_goals
  obtain⟨z2,h⟩:=AC h;rcases Ag z2 with⟨gz2,z2⟩|gz2
  ·try simp only[go_sem,N1, *] at gz2
   all_goals
   obtain⟨y_2,hz2⟩:=isX z2;have fz2:=AAm hz2;try simp only[go_sem,N1, *] at hz2
   all_goals
   try simp only[go_sem, *] at fz2
   obtain⟨z3,h⟩:=AC h;rcases Ag z3 with⟨gz3,z3⟩|gz3
   ·try simp only[go_sem,N1, *] at gz3
    all_goals
    obtain⟨y_3,hz3⟩:=isX z3;have fz3:=AAm hz3;try simp only[go_sem,N1, *] at hz3
    all_goals
    try simp only[go_sem, *] at fz3
    rcases AE h with⟨z4,h⟩|⟨z4,h⟩
    all_goals
    try simp only[go_sem,N1, *] at z4
    all_goals
    obtain rfl:=AA h;refine⟨0,fun L hL=>?_⟩;simp only[go_sem, *]
   ·try simp only[go_sem,N1, *] at gz3
    all_goals
    rcases AE h with⟨z4,h⟩|⟨z4,h⟩
    ·try simp only[go_sem,N1, *] at z4
     all_goals
     (simp_all)
    ·try simp only[go_sem,N1, *] at z4
     all_goals
     obtain rfl:=AA h;refine⟨0,fun L hL=>?_⟩;simp only[go_sem, *]
  ·try simp only[go_sem,N1, *] at gz2
   all_goals
   obtain⟨z3,h⟩:=AC h;rcases AE h with⟨z4,h⟩|⟨z4,h⟩
   ·try simp only[go_sem,N1, *] at z4
    all_goals
    (simp_all)
   ·try simp only[go_sem,N1, *] at z4
    all_goals
    obtain rfl:=AA h;refine⟨0,fun L hL=>?_⟩;simp only[go_sem, *]
 ·try simp only[go_sem,N1] at gz1
  all_goals
  obtain⟨z2,h⟩:=AC h;obtain⟨z3,h⟩:=AC h;rcases AE h with⟨z4,h⟩|⟨z4,h⟩
  ·try simp only[go_sem,N1,gz1] at z4
   all_goals
   (simp_all)
  ·try simp only[go_sem,N1,gz1] at z4
   all_goals
   obtain rfl:=AA h;refine⟨0,fun L hL=>?_⟩;simp only[go_sem, *]
attribute [local go_sem] YH Xh Sd Sc Sb pW in
theorem APi{list:List Star}{x:Star}{y_:(List Star)}(h:By list x=some y_):ui.F [.sl 5 (List.map BV list),BV x,.fn (.func 44) [] []]=⟨true,.fresh 5 (List.map BV y_),[.any,.any,.any]⟩:=by
 refine Ah (by simp only[Do,EN,Ej,List.all_cons,List.all_nil,Bool.and_self,Bk (f:=BV) (fun _=>rfl)]) ?_;dsimp only[By] at h;obtain⟨y_5,z5,h⟩:=AB h;obtain⟨Lz5,ez5⟩:=Ga z5;obtain⟨y_6,z6,h⟩:=AB h;have fz6:=AFx z6;try simp only[go_sem] at fz6
 obtain⟨y_7,z7,h⟩:=AB h;have fz7:=(ku BV) z7;try simp only[go_sem] at fz7
 obtain rfl:=AA h;refine⟨Lz5,fun L hL=>?_⟩;have ez5:=ez5 L (by omega);try simp only[go_sem] at ez5
 simp only[go_sem, *]
def AHK:List Nat:=[0,1,3,4,5]
def mw:CN:=⟨2,5,.seq (.region false [ VO 2 3 (.box V1),VO 3 4 (.newnil 5),VO 4 5 (.mov (I6 0))]) (.seq (.block 0 (.test false [ PM 7 0,PO 8 (.call 24 [S0]),PO 9 (.un .not S0),PO 6 (.mov S0)] S0 (.seq (.region false [ VO 3 4 (.newnil 5),VO 4 5 (.mov (I6 1))]) (.ret)) (.test false [ PO 11 (L5 V2),PO 12 (.call 43 [S0]),PO 13 (.un .not S0),PO 10 (.mov S0)] S0 (.seq (.region false [ VO 3 4 (.newnil 5),VO 4 5 (.mov (I6 2))]) (.ret)) (.test false [ PM 15 0,PO 16 (F0 V2),PO 17 (L1 S0),PO 18 (.call 26 [(.s
 2),S0]),PO 14 (.mov S0)] S0 (.seq (.region false [ VO 3 4 (.newnil 5),VO 4 5 (.mov (I6 4))]) (.ret)) (.test false [ PM 20 0,PO 21 (.len false S0),PO 22 (B2 S0 (I6 60)),PO 19 (.mov S0)] S0 (.seq (.region false [ VO 3 4 (.newnil 5),VO 4 5 (.mov (I6 5))]) (.ret)) (.skip)))))) (.seq (.region false [ PM 23 0,PO 24 (L5 V2),PO 25 (.call 128 [S1,S0,(.c (.fn (.func 44) [] []))]),VS 3 4 0,VO 4 5 (.mov (I6 0))]) (.ret))),[.t 3,.t 4]⟩
def vp:List (Nat×Ak):=[(24,c_6),(43,c_3),(26,bd),(128,ui)]
theorem xl:AP vp 24=some c_6:=rfl
theorem xj:AP vp 43=some c_3:=rfl
theorem xk:AP vp 26=some bd:=rfl
theorem rT:AP vp 128=some ui:=rfl
def uh:Ak:=DN vp mw [.bor,.bor]
theorem s_57:AQ Tryz.prog 88 uh:=AI _ rfl (AF s_6 (AF s_3 (AF AGn (AF s_56 AL)))) (by kernel_rfl:Ab Tryz.prog 88 mw AHK=true)
theorem M_57:uh.modes=[.bor,.bor]:=rfl
theorem AQs:uh.flat=true:=rfl
attribute [go_sem] M_57 AQs xl xj xk rT
theorem APh{list:List Star}{x:Star}{y_:(List Star)×Int}(h:Jf list x=some y_):uh.F [.sl 5 (List.map BV list),BV x]=⟨true,.tup [.fresh 5 (List.map BV y_.1),.int .i64 y_.2],[.any,.any]⟩:=by
 refine Ah (by simp only[Do,EN,Ej,List.all_cons,List.all_nil,Bool.and_self,Bk (f:=BV) (fun _=>rfl)]) ?_;dsimp only[Jf] at h;obtain⟨y_1,z1,h⟩:=AB h;have fz1:=APf z1;try simp only[go_sem] at fz1
 rcases AE h with⟨z2,h⟩|⟨z2,h⟩
 ·try simp only[go_sem,N1] at z2
  obtain rfl:=AA h;refine⟨0,fun L hL=>?_⟩;simp only[go_sem,mw, *]
 ·try simp only[go_sem,N1] at z2
  obtain⟨y_3,z3,h⟩:=AB h;have fz3:=APv z3;try simp only[go_sem,z2] at fz3
  rcases AE h with⟨z4,h⟩|⟨z4,h⟩
  ·try simp only[go_sem,N1,z2] at z4
   obtain rfl:=AA h;refine⟨0,fun L hL=>?_⟩;simp only[go_sem,mw, *]
  ·try simp only[go_sem,N1,z2] at z4
   obtain⟨y_5,z5,h⟩:=AB h;have fz5:=AAq z5;try simp only[go_sem, *] at fz5
   rcases AE h with⟨z6,h⟩|⟨z6,h⟩
   ·try simp only[go_sem,N1, *] at z6
    obtain rfl:=AA h;refine⟨0,fun L hL=>?_⟩;simp only[go_sem,mw, *]
   ·try simp only[go_sem,N1, *] at z6
    rcases AE h with⟨z7,h⟩|⟨z7,h⟩
    ·try simp only[go_sem,N1, *] at z7
     obtain rfl:=AA h;refine⟨0,fun L hL=>?_⟩;simp only[go_sem,mw, *]
    ·try simp only[go_sem,N1, *] at z7
     obtain⟨y_8,z8,h⟩:=AB h;have fz8:=APi z8;try simp only[go_sem, *] at fz8
     obtain rfl:=AA h;refine⟨0,fun L hL=>?_⟩;simp only[go_sem,mw, *]
theorem Yh:AQ Tryz.prog 130 FC:=Vq
def Zi:IR:=.seq (.test false [ PM 15 7,PM 16 8,PO 17 (B1 S1 S0)] S0 (.skip) (.exit 0)) (.block 1 (.seq (.region false [ PM 18 7,PM 19 8,PO 20 (B0 S1 S0),PO 21 (.conv .u64 S0),PO 22 (.bin false .shr S0 (.c (.int .u64 (1)))),PO 23 (.conv .i64 S0),VS 9 11 0]) (.anyo 8 [ SO 0 24 (.mov V2),SO 1 25 (.mov V0),SO 2 26 (.mov V9),SO 3 27 (.ixAddr 5 S1 S2),SO 4 28 (L5 S3),SO 5 29 (L5 V3),SO 6 30 (.pur (.callv S0 [S4,S5])),SO 7 31 (B1 S6 (I6 0))]
 [] (.cond S7 (.region false [ PM 32 9,PO 33 (B0 S0 (I6 1)),VS 7 9 0]) (.region false [ PM 34 9,VS 8 10 0])))))
def Sa:List Bool:=[true,false,true,true,false,false,true,true,true,false]
def SZ:List Bool:=[true,false,true,true,false,false,true,true,false,false]
def SY:List Bool:=[false,false,false,false,true,true,false,false,false,false]
def ADg:List Nat:=[0,1,2,4,6,7,8,9,10,11]
def pV:CN:=⟨3,10,.seq (.region false [ VO 3 4 (.box V1),VO 4 6 (.mov (I6 0)),VO 5 7 (.mov C0)]) (.seq (.region false [ PM 12 0,PO 13 (.len false S0),VS 6 8 0]) (.seq (.region false [ PM 14 6,VO 7 9 (.mov (I6 0)),VS 8 10 0]) (.seq (.block 0 (.loop Sa SZ SY Zi)) (.seq (.anyo 14 [ SO 0 35 (.mov V7),SO 1 36 (.mov V7),SO 2 37 (.mov V6),SO 3 38 (B1 S1 S2),SO 4 39 (.mov S3),⟨.slot 5,40,(G1 4),.mov V2⟩,⟨.slot 6,41,(G1 4),.mov V0⟩,⟨.slot 7,42,(some
 (S4,true)),.mov V7⟩,⟨.slot 8,43,(G1 4),.ixAddr 5 S6 S7⟩,⟨.slot 9,44,(G1 4),L5 S8⟩,⟨.slot 10,45,(G1 4),L5 V3⟩,⟨.slot 11,46,(G1 4),.callv S5 [S9,(.s 10)]⟩,⟨.slot 12,47,(G1 4),B2 (.s 11) (I6 0)⟩,SO 13 48 (.pick S4 (.s 12) C0),VS 4 6 0,VS 5 7 13] [] .skip) (.ret))))),[.t 4,.t 5]⟩
def AGR:List (Nat×Ak):=[(46,kg)]
theorem xi:AP AGR 46=some kg:=rfl
def ug:Ak:=DN AGR pV [.bor,.bor,.bor]
theorem s_59:AQ Tryz.prog 129 ug:=AI _ rfl (AF AMm AL) (by kernel_rfl:Ab Tryz.prog 129 pV ADg=true)
theorem M_59:ug.modes=[.bor,.bor,.bor]:=rfl
theorem AQr:ug.flat=true:=rfl
attribute [go_sem] M_59 AQr xi
def YG(x:List AD)(target:AD)(n:Int):(Int×Int)->St
 | (i,j)=>⟨[.sl 5 (List.map AN x),.any,.fn (.func 46) [] [],.ref 3200000 0 0,.any,.any,.int .i64 n,.int .i64 i,.int .i64 j,.any],[],[(3200000,⟨5,[AN target]⟩)],true⟩
def Xg(x:List AD)(target:AD)(n:Int)(y:Int):Fw:=(.exit 0,⟨[.sl 5 (List.map AN x),.any,.fn (.func 46) [] [],.ref 3200000 0 0,.any,.any,.int .i64 n,.int .i64 y,.any,.any],[],[(3200000,⟨5,[AN target]⟩)],true⟩)
attribute [local go_sem] pV YG Xg Zi Sa SZ SY in
theorem Bv{x:List AD}{target:AD}{n:Int}{sgm_:Int×Int}{rho_:Int}(h:AS (AJ x target n) sgm_=some rho_):∃ L0,∀ L,L0<=L->CV (Aq (AP AGR) L Zi) Sa SZ SY L (YG x target n sgm_)=Xg x target n rho_:=by
 refine Ax (E:=YG x target n) (R:=Xg x target n) (fun y=>by first|(intro c;cases c)|(rcases y with y|y<;>(intro c;cases c))|(rcases y with y|y|y<;>(intro c;cases c))) ?_ h;clear h;rintro⟨i,j⟩ o_ h;dsimp only[AJ] at h;rcases AE h with⟨z1,h⟩|⟨z1,h⟩
 ·try simp only[go_sem,N1] at z1
  obtain⟨z2,h⟩:=AC h;try simp only[go_sem,N1,z1] at z2
  obtain⟨z3,h⟩:=AC h;have lz3:=Az z3;try simp only[go_sem] at lz3
  try simp only[go_sem,N1, *] at z3
  obtain⟨y_4,z4,h⟩:=AB h;have fz4:=AAs z4;try simp only[go_sem, *] at fz4
  rcases AE h with⟨z5,h⟩|⟨z5,h⟩
  all_goals
  try simp only[go_sem,N1, *] at z5
  obtain rfl:=AA h;refine⟨0,fun L hL=>?_⟩;simp only[go_sem, *]
 ·try simp only[go_sem,N1] at z1
  obtain rfl:=AA h;refine⟨0,fun L hL=>?_⟩;simp only[go_sem,z1]
attribute [local go_sem] YG Xg Sa SZ SY pV in
theorem APg{x:List AD}{target:AD}{y_:Int×Bool}(h:AY x target=some y_):ug.F [.sl 5 (List.map AN x),AN target,.fn (.func 46) [] []]=⟨true,.tup [.int .i64 y_.1,.bool y_.2],[.any,.any,.any]⟩:=by
 refine Ah rfl ?_;dsimp only[AY] at h;obtain⟨y_6,z6,h⟩:=AB h;obtain⟨Lz6,ez6⟩:=Bv z6;obtain⟨z7,h⟩:=AC h;rcases Ag z7 with⟨gz7,z7⟩|gz7
 ·try simp only[go_sem,N1] at gz7
  all_goals
  have lz7:=Az z7;try simp only[go_sem] at lz7
  try simp only[go_sem,N1,gz7] at z7
  all_goals
  obtain⟨z8,h⟩:=AC h;rcases Ag z8 with⟨gz8,z8⟩|gz8
  ·try simp only[go_sem,N1, *] at gz8
   all_goals
   obtain⟨y_8,hz8⟩:=isX z8;have fz8:=AAs hz8;try simp only[go_sem,N1, *] at hz8
   all_goals
   try simp only[go_sem, *] at fz8
   obtain rfl:=AA h;refine⟨Lz6,fun L hL=>?_⟩;have ez6:=ez6 L (by omega);try simp only[go_sem, *] at ez6
   simp only[go_sem, *]
  ·try simp only[go_sem,N1, *] at gz8
   all_goals
   obtain rfl:=AA h;refine⟨Lz6,fun L hL=>?_⟩;have ez6:=ez6 L (by omega);try simp only[go_sem, *] at ez6
   simp only[go_sem, *]
 ·try simp only[go_sem,N1] at gz7
  all_goals
  obtain⟨z8,h⟩:=AC h;obtain rfl:=AA h;refine⟨Lz6,fun L hL=>?_⟩;have ez6:=ez6 L (by omega);try simp only[go_sem,gz7] at ez6
  simp only[go_sem, *]
def AHJ:List Nat:=[0,1,3,4,5,6,7]
def mv:CN:=⟨2,7,.seq (.region false [ VO 2 3 (.box V1),VO 3 4 (.newnil 5),VO 4 5 (.mov (I6 0))]) (.seq (.block 0 (.test false [ PM 9 0,PO 10 (.call 25 [S0]),PO 11 (.un .not S0),PO 8 (.mov S0)] S0 (.seq (.region false [ VO 3 4 (.newnil 5),VO 4 5 (.mov (I6 1))]) (.ret)) (.test false [ PO 13 (L5 V2),PO 14 (.call 45 [S0]),PO 15 (.un .not S0),PO 12 (.mov S0)] S0 (.seq (.region false [ VO 3 4 (.newnil 5),VO 4 5 (.mov (I6 2))]) (.ret)) (.skip)))) (.seq (.region false [ PM 17 0,PO 18 (L5 V2),PO 19 (.call 129 [S1,
 S0,(.c (.fn (.func 46) [] []))]),PO 16 (.mov S0),PO 20 (.ext S0 0),PO 21 (.ext S1 1),VS 5 6 1,VS 6 7 0]) (.seq (.block 1 (.test false [ PM 23 6,PO 22 (.mov S0)] S0 (.seq (.region false [ VO 3 4 (.newnil 5),VO 4 5 (.mov (I6 4))]) (.ret)) (.test false [ PM 25 0,PO 26 (.len false S0),PO 27 (B2 S0 (I6 100)),PO 24 (.mov S0)] S0 (.seq (.region false [ VO 3 4 (.newnil 5),VO 4 5 (.mov (I6 5))]) (.ret)) (.skip)))) (.seq (.anyo 6 [ SO 0 28 (.mov V0),SO 1 29 (.call 29 [S0]),SO 2 30 (.flat (.mov V5)),SO 3 31 (L5 (.v
 2)),SO 4 32 (.mkSl 5 (.agg [.int .i64 (0),.str [],.str [],.int .i64 (0),.bool false]) 1 [(0,S3)]),SO 5 33 (.call 130 [S1,S2,S4]),VS 3 4 5,VO 4 5 (.flat (.mov (I6 0)))] [[2,0,1,3,4,5,6,7],[2,0,3,1,4,5,6,7],[2,0,3,4,1,5,6,7],[2,3,0,1,4,5,6,7],[2,3,0,4,1,5,6,7],[2,3,4,0,1,5,6,7]] .skip) (.ret))))),[.t 3,.t 4]⟩
def qD:List (Nat×Ak):=[(25,Vw),(45,c_8),(129,ug),(29,kZ),(130,FC)]
theorem xh:AP qD 25=some Vw:=rfl
theorem xf:AP qD 45=some c_8:=rfl
theorem rS:AP qD 129=some ug:=rfl
theorem xg:AP qD 29=some kZ:=rfl
theorem rR:AP qD 130=some FC:=rfl
def uf:Ak:=DN qD mv [.bor,.bor]
theorem s_60:AQ Tryz.prog 89 uf:=AI _ rfl (AF wN (AF s_8 (AF s_59 (AF AMc (AF Yh AL))))) (by kernel_rfl:Ab Tryz.prog 89 mv AHJ=true)
theorem M_60:uf.modes=[.bor,.bor]:=rfl
theorem AQq:uf.flat=true:=rfl
attribute [go_sem] M_60 AQq xh xf rS xg rR
theorem APe{list:List AD}{e_:AD}{y_:(List AD)×Int}(h:Gi list e_=some y_):uf.F [.sl 5 (List.map AN list),AN e_]=⟨true,.tup [.fresh 5 (List.map AN y_.1),.int .i64 y_.2],[.any,.any]⟩:=by
 refine Ah (by simp only[Do,EN,Ej,List.all_cons,List.all_nil,Bool.and_self,Bk (f:=AN) (fun _=>rfl)]) ?_;dsimp only[Gi] at h;obtain⟨y_1,z1,h⟩:=AB h;have fz1:=ky z1;try simp only[go_sem] at fz1
 rcases AE h with⟨z2,h⟩|⟨z2,h⟩
 ·try simp only[go_sem,N1] at z2
  obtain rfl:=AA h;refine⟨0,fun L hL=>?_⟩;simp only[go_sem,mv, *]
 ·try simp only[go_sem,N1] at z2
  obtain⟨y_3,z3,h⟩:=AB h;have fz3:=APR z3;try simp only[go_sem,z2] at fz3
  rcases AE h with⟨z4,h⟩|⟨z4,h⟩
  ·try simp only[go_sem,N1,z2] at z4
   obtain rfl:=AA h;refine⟨0,fun L hL=>?_⟩;simp only[go_sem,mv, *]
  ·try simp only[go_sem,N1,z2] at z4
   obtain⟨y_5,z5,h⟩:=AB h;have fz5:=APg z5;try simp only[go_sem, *] at fz5
   rcases AE h with⟨z6,h⟩|⟨z6,h⟩
   ·try simp only[go_sem,N1, *] at z6
    obtain rfl:=AA h;refine⟨0,fun L hL=>?_⟩;simp only[go_sem,mv, *]
   ·try simp only[go_sem,N1, *] at z6
    rcases AE h with⟨z7,h⟩|⟨z7,h⟩
    ·try simp only[go_sem,N1, *] at z7
     obtain rfl:=AA h;refine⟨0,fun L hL=>?_⟩;simp only[go_sem,mv, *]
    ·try simp only[go_sem,N1, *] at z7
     obtain⟨y_8,z8,h⟩:=AB h;have fz8:=AFw z8;try simp only[go_sem, *] at fz8
     obtain⟨y_9,z9,h⟩:=AB h;have fz9:=(WA AN) z9;try simp only[go_sem, *] at fz9
     obtain rfl:=AA h;refine⟨0,fun L hL=>?_⟩;simp only[go_sem,mv, *]
def ADe:List Nat:=[0,1,2,4]
def zO:CN:=⟨2,4,.seq (.region false [ VO 2 2 (.box V0),VO 3 4 (.mov C2)]) (.seq (.region false [ PO 5 (L3 V2),PO 6 (.call 64 [S0]),PO 7 (B0 S0 C3),PM 8 1,PO 9 (.call 37 [S0]),PO 10 (B0 S2 S0),PO 11 (B0 S0 (.c (.str [10]))),VS 3 4 0]) (.ret)),[.t 3]⟩
def AGQ:List (Nat×Ak):=[(64,bc),(37,KT)]
theorem xd:AP AGQ 64=some bc:=rfl
theorem xe:AP AGQ 37=some KT:=rfl
def ue:Ak:=DN AGQ zO [.bor,.bor]
theorem s_61:AQ Tryz.prog 132 ue:=AI _ rfl (AF AGm (AF Yi AL)) (by kernel_rfl:Ab Tryz.prog 132 zO ADe=true)
theorem M_61:ue.modes=[.bor,.bor]:=rfl
theorem AQp:ue.flat=true:=rfl
attribute [go_sem] M_61 AQp xd xe
theorem AFs{e_:Ac}{stamp:Int}{y_:(List UInt8)}(h:KO e_ stamp=some y_):ue.F [CF e_,.int .i64 stamp]=⟨true,.str y_,[.any,.any]⟩:=by
 refine Ah rfl ?_;dsimp only[KO] at h;obtain⟨y_1,z1,h⟩:=AB h;have fz1:=AAp z1;try simp only[go_sem] at fz1
 obtain⟨z2,h⟩:=AC h;try simp only[go_sem,N1] at z2
 obtain⟨y_3,z3,h⟩:=AB h;have fz3:=KU z3;try simp only[go_sem,z2] at fz3
 obtain⟨z4,h⟩:=AC h;try simp only[go_sem,N1,z2] at z4
 obtain⟨z5,h⟩:=AC h;try simp only[go_sem,N1, *] at z5
 obtain rfl:=AA h;refine⟨0,fun L hL=>?_⟩;simp only[go_sem,zO, *]
def AHI:List Nat:=[0,1,3,4,5,6,7,8]
def mu:CN:=⟨2,8,.seq (.region false [ VO 2 3 (.box V1),VO 3 4 (.mov C2),VO 4 5 (.mov (I6 0))]) (.seq (.region false [ PM 10 0,PO 11 (.call 49 [S0]),PO 9 (.mov S0),PO 12 (.ext S0 0),PO 13 (.ext S1 1),PO 14 (.ext S2 2),VS 5 6 2,VS 6 7 1,VS 7 8 0]) (.seq (.block 0 (.test false [ PM 16 7,PO 17 (B7 S0 (I6 0)),PO 15 (.mov S0)] S0 (.seq (.region false [ PM 18 7,VO 3 4 (.mov C2),VS 4 5 0]) (.ret)) (.test false [ PO 20 (L3 V2),PO 21 (.call 131 [S0]),PO 22 (.un .not S0),PO 19 (.mov (.s
 0))] S0 (.seq (.region false [ VO 3 4 (.mov C2),VO 4 5 (.mov (I6 7))]) (.ret)) (.anyo 16 [ SO 0 24 (.mov V5),SO 1 25 (.len false S0),SO 2 26 (B4 S1 (I6 0)),SO 3 27 (.mov S2),⟨.slot 4,28,(G1 3),F0 V2⟩,⟨.slot 5,29,(G1 3),L1 S4⟩,⟨.slot 6,30,(G1 3),.mov V5⟩,⟨.slot 7,31,(G1 3),.mov V5⟩,⟨.slot 8,32,(G1 3),.len false S7⟩,⟨.slot 9,33,(G1 3),B3 S8 (I6 1)⟩,⟨.slot 10,34,(some (S3,
 true)),.ixAddr 3 S6 S9⟩,⟨.slot 11,35,(G1 3),F0 (.s 10)⟩,⟨.slot 12,36,(G1 3),L1 (.s 11)⟩,⟨.slot 13,37,(G1 3),B1 S5 (.s 12)⟩,SO 14 38 (.pick S3 (.s 13) C0),SO 15 23 (.mov (.s 14))] [] (.cond (.s 15) (.seq (.region false [ VO 3 4 (.mov C2),VO 4 5 (.mov (I6 6))]) (.ret)) (.skip)))))) (.seq (.anyo 7 [ SO 0 39 (.mov V0),SO 1 40 (L3 V2),SO 2 41 (.mov V6),SO 3 42 (L3 V2),SO 4 43 (.callp 119 [S2,S3]),SO 5 44 (.callp
 132 [S1,S4]),SO 6 45 (B0 S0 S5),VS 0 0 6] [] .skip) (.seq (.test false [ PM 46 0,PO 47 (.len true S0),PO 48 (B4 S0 (I6 4000))] S0 (.seq (.region false [ VO 3 4 (.mov C2),VO 4 5 (.mov (I6 5))]) (.ret)) (.skip)) (.seq (.region false [ PM 49 0,VS 3 4 0,VO 4 5 (.mov (I6 0))]) (.ret)))))),[.t 3,.t 4]⟩
def vn:List (Nat×Ak):=[(49,kc),(131,ke),(119,kd),(132,ue)]
theorem xc:AP vn 49=some kc:=rfl
theorem rP:AP vn 131=some ke:=rfl
theorem rQ:AP vn 119=some kd:=rfl
theorem rO:AP vn 132=some ue:=rfl
def ud:Ak:=DN vn mu [.bor,.bor]
theorem s_62:AQ Tryz.prog 90 ud:=AI _ rfl (AF AMf (AF AMh (AF AMg (AF s_61 AL)))) (by kernel_rfl:Ab Tryz.prog 90 mu AHI=true)
theorem M_62:ud.modes=[.bor,.bor]:=rfl
theorem AQo:ud.flat=true:=rfl
attribute [go_sem] M_62 AQo xc rP rQ rO
theorem APd{log:List UInt8}{e_:Ac}{y_:(List UInt8)×Int}(h:Ij log e_=some y_):ud.F [.str log,CF e_]=⟨true,.tup [.str y_.1,.int .i64 y_.2],[.any,.any]⟩:=by
 refine Ah rfl ?_;dsimp only[Ij] at h;obtain⟨y_1,z1,h⟩:=AB h;have fz1:=AFz z1;try simp only[go_sem] at fz1
 rcases AE h with⟨z2,h⟩|⟨z2,h⟩
 ·try simp only[go_sem,N1] at z2
  all_goals
  obtain rfl:=AA h;refine⟨0,fun L hL=>?_⟩;simp only[go_sem,mu, *]
 ·try simp only[go_sem,N1] at z2
  all_goals
  obtain⟨y_3,z3,h⟩:=AB h;have fz3:=AGA z3;try simp only[go_sem,z2] at fz3
  rcases AE h with⟨z4,h⟩|⟨z4,h⟩
  ·try simp only[go_sem,N1,z2] at z4
   all_goals
   obtain rfl:=AA h;refine⟨0,fun L hL=>?_⟩;simp only[go_sem,mu, *]
  ·try simp only[go_sem,N1,z2] at z4
   all_goals
   obtain⟨z5,h⟩:=AC h;rcases Ag z5 with⟨gz5,z5⟩|gz5
   ·try simp only[go_sem,N1, *] at gz5
    all_goals
    have lz5:=Az z5;try simp only[go_sem] at lz5
    try simp only[go_sem,N1, *] at z5
    all_goals
    rcases AE h with⟨z6,h⟩|⟨z6,h⟩
    ·try simp only[go_sem,N1, *] at z6
     all_goals
     obtain rfl:=AA h;refine⟨0,fun L hL=>?_⟩;simp only[go_sem,mu, *]
    ·try simp only[go_sem,N1, *] at z6
     all_goals
     obtain⟨y_7,z7,h⟩:=AB h;have fz7:=AAo z7;try simp only[go_sem, *] at fz7
     obtain⟨y_8,z8,h⟩:=AB h;have fz8:=AFs z8;try simp only[go_sem, *] at fz8
     obtain⟨z9,h⟩:=AC h;try simp only[go_sem,N1, *] at z9
     all_goals
     rcases AE h with⟨z10,h⟩|⟨z10,h⟩
     all_goals
     try simp only[go_sem,N1, *] at z10
     all_goals
     obtain rfl:=AA h;refine⟨0,fun L hL=>?_⟩;simp only[go_sem,mu, *]
   ·try simp only[go_sem,N1, *] at gz5
    all_goals
    rcases AE h with⟨z6,h⟩|⟨z6,h⟩
    ·try simp only[go_sem,N1, *] at z6
     all_goals
     (simp_all)
    ·try simp only[go_sem,N1, *] at z6
     all_goals
     obtain⟨y_7,z7,h⟩:=AB h;have fz7:=AAo z7;try simp only[go_sem, *] at fz7
     obtain⟨y_8,z8,h⟩:=AB h;have fz8:=AFs z8;try simp only[go_sem, *] at fz8
     obtain⟨z9,h⟩:=AC h;try simp only[go_sem,N1, *] at z9
     all_goals
     rcases AE h with⟨z10,h⟩|⟨z10,h⟩
     all_goals
     try simp only[go_sem,N1, *] at z10
     all_goals
     obtain rfl:=AA h;refine⟨0,fun L hL=>?_⟩;simp only[go_sem,mu, *]
def ADc:List Nat:=[0,1,2,3]
def zN:CN:=⟨2,4,.seq (.region false [ VO 2 2 (.box V0),VO 3 3 (.mov C0)]) (.seq (.region false [ PO 4 (F1 V2),PO 5 (L1 S0),PO 6 (L1 V1),PO 7 (B2 S1 S0),VS 3 3 0]) (.ret)),[.t 3]⟩
def t_63:List (Nat×Ak):=[]
def uc:Ak:=DN t_63 zN [.bor,.bor]
theorem s_63:AQ Tryz.prog 134 uc:=AI _ rfl AL (by kernel_rfl:Ab Tryz.prog 134 zN ADc=true)
theorem M_63:uc.modes=[.bor,.bor]:=rfl
theorem AQn:uc.flat=true:=rfl
attribute [go_sem] M_63 AQn
theorem APc{e_:Ac}{t1:List UInt8}{y_:Bool}(h:IT e_ t1=some y_):uc.F [CF e_,.ptr 1 [.str t1] 0 0]=⟨true,.bool y_,[.any,.any]⟩:=by
 refine Ah rfl ?_;dsimp only[IT] at h;obtain rfl:=AA h;refine⟨0,fun L hL=>?_⟩;simp only[go_sem,zN]
def Zh:IR:=.seq (.region false [ VO 8 12 (B1 V7 V6)]) (.seq (.cond V8 (.skip) (.exit 0)) (.seq (.block 1 (.seq (.region false [ PO 13 (.ixAddr 3 V5 V7),PO 14 (L3 S0),VO 4 7 (.alloc (.agg [.int .i64 (0),.str [],.int .i64 (0)])),⟨.no,0,none,.store 3 V4 S0⟩]) (.test false [ PM 15 1,PO 16 (L3 V4),PO 17 (.callv S1 [S0])] S0 (.region false [ PM 18 3,PO 19 (F2 V4),PO 20 (L1 S0),PO 21 (.mkSl 1 (.int .i64 (0)) 1 [(0,S0)]),PO 22 (.app 1 8 (.int .i64 (0)) S3 S0),
 VS 3 5 0]) (.skip)))) (.region false [ PO 23 (B0 V7 (I6 1)),VS 7 11 0])))
def SX:List Bool:=[false,true,false,true,false,true,true,true,false]
def SW:List Bool:=[false,false,false,true,false,false,false,false,false]
def SV:List Bool:=[false,false,true,false,false,false,false,false,false]
def ADd:List Nat:=[0,1,4,5,7,9,10,11,12]
def pU:CN:=⟨2,9,.seq (.region false [ VO 2 4 (.newnil 1)]) (.seq (.region false [ PO 8 (.mkSl 1 (.int .i64 (0)) 0 []),VS 3 5 0]) (.seq (.seq (.region false [ VO 5 9 (.mov V0),VO 6 10 (.len false V5),VO 7 11 (.mov (I6 0))]) (.block 0 (.loop SX SW SV Zh))) (.seq (.region false [ PM 24 3,VS 2 4 0]) (.ret)))),[.t 2]⟩
def AGP:List (Nat×Ak):=[(134,uc)]
theorem rN:AP AGP 134=some uc:=rfl
def ub:Ak:=DN AGP pU [.bor,.bor]
theorem s_64:AQ Tryz.prog 133 ub:=AI _ rfl (AF s_63 AL) (by kernel_rfl:Ab Tryz.prog 133 pU ADd=true)
theorem M_64:ub.modes=[.bor,.bor]:=rfl
theorem AQm:ub.flat=true:=rfl
attribute [go_sem] M_64 AQm rN
def YF(c:List UInt8)(t9:List Ac)(t10:Int):((List Int)×Int)->St
 | (out,t11)=>⟨[.any,.fn (.func 134) [] [.ptr 1 [.str c] 0 0],.any,.own 3200000,.any,.sl 3 (List.map CF t9),.int .i64 t10,.int .i64 t11,.any],[],[(3200000,⟨1,List.map (AV.int .i64) out⟩)],true⟩
def Xf(c:List UInt8)(t9:List Ac)(t10:Int)(y:(List Int)):Fw:=(.exit 0,⟨[.any,.any,.any,.own 3200000,.any,.any,.any,.any,.any],[],[(3200000,⟨1,List.map (AV.int .i64) y⟩)],true⟩)
attribute [local go_sem] pU YF Xf Zh SX SW SV in
theorem IQ{c:List UInt8}{t9:List Ac}{t10:Int}{sgm_:(List Int)×Int}{rho_:(List Int)}(h:AS (BX c t9 t10) sgm_=some rho_):∃ L0,∀ L,L0<=L->CV (Aq (AP AGP) L Zh) SX SW SV L (YF c t9 t10 sgm_)=Xf c t9 t10 rho_:=by
 refine Ax (E:=YF c t9 t10) (R:=Xf c t9 t10) (fun y=>by first|(intro c;cases c)|(rcases y with y|y<;>(intro c;cases c))|(rcases y with y|y|y<;>(intro c;cases c))) ?_ h;clear h;rintro⟨out,t11⟩ o_ h;dsimp only[BX] at h;rcases AE h with⟨z1,h⟩|⟨z1,h⟩
 ·try simp only[go_sem,N1] at z1
  obtain⟨z2,h⟩:=AC h;have lz2:=Az z2;try simp only[go_sem] at lz2
  try simp only[go_sem,N1,z1] at z2
  obtain⟨y_3,z3,h⟩:=AB h;have fz3:=APc z3;try simp only[go_sem, *] at fz3
  rcases AE h with⟨z4,h⟩|⟨z4,h⟩
  ·try simp only[go_sem,N1, *] at z4
   obtain⟨z5,h⟩:=AC h;try simp only[go_sem,N1, *] at z5
   obtain rfl:=AA h;refine⟨0,fun L hL=>?_⟩;simp only[go_sem, *]
  ·try simp only[go_sem,N1, *] at z4
   obtain rfl:=AA h;refine⟨0,fun L hL=>?_⟩;simp only[go_sem, *]
 ·try simp only[go_sem,N1] at z1
  obtain rfl:=AA h;refine⟨0,fun L hL=>?_⟩;simp only[go_sem,z1]
attribute [local go_sem] YF Xf SX SW SV pU in
theorem APb{entries:List Ac}{wanted_c0:List UInt8}{y_:(List Int)}(h:Cl entries wanted_c0=some y_):ub.F [.sl 3 (List.map CF entries),.fn (.func 134) [] [.ptr 1 [.str wanted_c0] 0 0]]=⟨true,.fresh 1 (List.map (AV.int .i64) y_),[.any,.any]⟩:=by
 refine Ah (by simp only[Do,EN,Ej,List.all_cons,List.all_nil,Bool.and_self,Bk (f:=(AV.int .i64)) (fun _=>rfl)]) ?_;dsimp only[Cl] at h;obtain⟨y_6,z6,h⟩:=AB h;obtain⟨Lz6,ez6⟩:=IQ z6;obtain rfl:=AA h;refine⟨Lz6,fun L hL=>?_⟩;have ez6:=ez6 L (by omega);try simp only[go_sem] at ez6
 simp only[go_sem,ez6]
def AHH:List Nat:=[0,1,3,4,5,6,7]
def yq:CN:=⟨2,7,.seq (.region false [ VO 2 3 (.box V1),VO 3 4 (.newnil 1),VO 4 5 (.mov (I6 0))]) (.seq (.region false [ PM 9 0,PO 10 (.call 27 [S0]),PO 8 (.mov S0),PO 11 (.ext S0 0),PO 12 (.ext S1 1),VS 5 6 1,VS 6 7 0]) (.seq (.block 0 (.test false [ PM 14 6,PO 15 (B7 S0 (I6 0)),PO 13 (.mov S0)] S0 (.seq (.region false [ PM 16 6,VO 3 4 (.newnil 1),VS 4 5 0]) (.ret)) (.test false [ PO 18 (L1 V2),PO 19 (.call 74 [S0]),PO 20 (.un .not S0),PO 17 (.mov S0)] S0 (.seq (.region false [ VO 3 4 (.newnil
 1),VO 4 5 (.mov (I6 2))]) (.ret)) (.skip)))) (.seq (.region false [ PM 21 5,PO 22 (.mkFn (.func 134) [] [V2]),PO 23 (.call 133 [S1,S0]),VS 3 4 0,VO 4 5 (.mov (I6 0))]) (.ret)))),[.t 3,.t 4]⟩
def ABT:List (Nat×Ak):=[(27,bb),(74,pm),(133,ub)]
theorem xb:AP ABT 27=some bb:=rfl
theorem xa:AP ABT 74=some pm:=rfl
theorem rM:AP ABT 133=some ub:=rfl
def ua:Ak:=DN ABT yq [.bor,.bor]
theorem s_65:AQ Tryz.prog 91 ua:=AI _ rfl (AF AGl (AF s_1 (AF s_64 AL))) (by kernel_rfl:Ab Tryz.prog 91 yq AHH=true)
theorem M_65:ua.modes=[.bor,.bor]:=rfl
theorem AQl:ua.flat=true:=rfl
attribute [go_sem] M_65 AQl xb xa rM
theorem APa{log:List UInt8}{what:List UInt8}{y_:(List Int)×Int}(h:Ii log what=some y_):ua.F [.str log,.str what]=⟨true,.tup [.fresh 1 (List.map (AV.int .i64) y_.1),.int .i64 y_.2],[.any,.any]⟩:=by
 refine Ah (by simp only[Do,EN,Ej,List.all_cons,List.all_nil,Bool.and_self,Bk (f:=(AV.int .i64)) (fun _=>rfl)]) ?_;dsimp only[Ii] at h;obtain⟨y_1,z1,h⟩:=AB h;have fz1:=AAn z1;try simp only[go_sem] at fz1
 rcases AE h with⟨z2,h⟩|⟨z2,h⟩
 ·try simp only[go_sem,N1] at z2
  obtain rfl:=AA h;refine⟨0,fun L hL=>?_⟩;simp only[go_sem,yq, *]
 ·try simp only[go_sem,N1] at z2
  obtain⟨y_3,z3,h⟩:=AB h;have fz3:=lA z3;try simp only[go_sem,z2] at fz3
  rcases AE h with⟨z4,h⟩|⟨z4,h⟩
  ·try simp only[go_sem,N1,z2] at z4
   obtain rfl:=AA h;refine⟨0,fun L hL=>?_⟩;simp only[go_sem,yq, *]
  ·try simp only[go_sem,N1,z2] at z4
   obtain⟨y_5,z5,h⟩:=AB h;have fz5:=APb z5;try simp only[go_sem, *] at fz5
   obtain rfl:=AA h;refine⟨0,fun L hL=>?_⟩;simp only[go_sem,yq, *]
def AIP:List Nat:=[0,2]
def AIQ:CN:=⟨1,2,.seq (.region false [ VO 1 2 (.mov (I6 0))]) (.seq (.region false [ PM 3 0,PO 4 (.len false S0),VS 1 2 0]) (.ret)),[.t 1]⟩
def t_66:List (Nat×Ak):=[]
def uZ:Ak:=DN t_66 AIQ [.bor]
theorem s_66:AQ Tryz.prog 38 uZ:=AI _ rfl AL (by kernel_rfl:Ab Tryz.prog 38 AIQ AIP=true)
theorem M_66:uZ.modes=[.bor]:=rfl
theorem AQk:uZ.flat=true:=rfl
attribute [go_sem] M_66 AQk
theorem APZ{list:List Star}{y_:Int}(h:Fm list=some y_):uZ.F [.sl 5 (List.map BV list)]=⟨true,.int .i64 y_,[.any]⟩:=by
 refine Ah rfl ?_;dsimp only[Fm] at h;obtain rfl:=AA h;refine⟨0,fun L hL=>?_⟩;simp only[go_sem,AIQ]
def AIN:List Nat:=[0,2]
def AIO:CN:=⟨1,2,.seq (.region false [ VO 1 2 (.mov (I6 0))]) (.seq (.region false [ PM 3 0,PO 4 (.len false S0),VS 1 2 0]) (.ret)),[.t 1]⟩
def t_67:List (Nat×Ak):=[]
def uY:Ak:=DN t_67 AIO [.bor]
theorem s_67:AQ Tryz.prog 39 uY:=AI _ rfl AL (by kernel_rfl:Ab Tryz.prog 39 AIO AIN=true)
theorem M_67:uY.modes=[.bor]:=rfl
theorem AQj:uY.flat=true:=rfl
attribute [go_sem] M_67 AQj
theorem APY{list:List AD}{y_:Int}(h:Dy list=some y_):uY.F [.sl 5 (List.map AN list)]=⟨true,.int .i64 y_,[.any]⟩:=by
 refine Ah rfl ?_;dsimp only[Dy] at h;obtain rfl:=AA h;refine⟨0,fun L hL=>?_⟩;simp only[go_sem,AIO]
def AIn:List Nat:=[0,1,2]
def AIo:CN:=⟨1,3,.seq (.region false [ VO 1 1 (.box V0),VO 2 2 (.mov C2)]) (.seq (.anyo 11 [ SO 0 3 (F0 V1),SO 1 4 (L1 S0),SO 2 5 (.callp 38 [S1]),SO 3 6 (.callp 37 [S2]),SO 4 7 (B0 S3 (.c (.str [32,115,116,97,114,115,32]))),SO 5 8 (F1 V1),SO 6 9 (L1 S5),SO 7 10 (.callp 39 [S6]),SO 8 11 (.callp 37 [S7]),SO 9 12 (B0 S4 S8),SO 10 13 (B0 S9 (.c (.str [32,101,115,116,105,109,97,116,101,115]))),VS 2 2 10] [] .skip) (.ret)),
 [.t 2]⟩
def ABS:List (Nat×Ak):=[(38,uZ),(37,KT),(39,uY)]
theorem xY:AP ABS 38=some uZ:=rfl
theorem xZ:AP ABS 37=some KT:=rfl
theorem xX:AP ABS 39=some uY:=rfl
def kY:Ak:=DN ABS AIo [.bor]
theorem AMa:AQ Tryz.prog 17 kY:=AI _ rfl (AF s_66 (AF Yi (AF s_67 AL))) (by kernel_rfl:Ab Tryz.prog 17 AIo AIn=true)
theorem M_68:kY.modes=[.bor]:=rfl
theorem AQi:kY.flat=true:=rfl
attribute [go_sem] M_68 AQi xY xZ xX
theorem AAl{d:Bc}{y_:(List UInt8)}(h:Dc d=some y_):kY.F [Cj d]=⟨true,.str y_,[.any]⟩:=by
 refine Ah rfl ?_;dsimp only[Dc] at h;obtain⟨y_1,z1,h⟩:=AB h;have fz1:=APZ z1;try simp only[go_sem] at fz1
 obtain⟨y_2,z2,h⟩:=AB h;have fz2:=KU z2;try simp only[go_sem] at fz2
 obtain⟨z3,h⟩:=AC h;try simp only[go_sem,N1] at z3
 obtain⟨y_4,z4,h⟩:=AB h;have fz4:=APY z4;try simp only[go_sem,z3] at fz4
 obtain⟨y_5,z5,h⟩:=AB h;have fz5:=KU z5;try simp only[go_sem,z3] at fz5
 obtain⟨z6,h⟩:=AC h;try simp only[go_sem,N1,z3] at z6
 obtain⟨z7,h⟩:=AC h;try simp only[go_sem,N1, *] at z7
 obtain rfl:=AA h;refine⟨0,fun L hL=>?_⟩;simp only[go_sem,AIo, *]
def AHo:List Nat:=[0,1,4,5]
def AHp:CN:=⟨2,4,.seq (.region false [ VO 2 4 (.newnil 1),VO 3 5 (.mov (I6 0))]) (.seq (.region false [ PM 6 0,PO 7 (.mkSl 1 (.str []) 1 [(0,S0)]),PM 8 1,VS 2 4 1,VS 3 5 0]) (.ret)),[.t 2,.t 3]⟩
def t_69:List (Nat×Ak):=[]
def bZ:Ak:=DN t_69 AHp [.bor,.bor]
theorem AGj:AQ Tryz.prog 60 bZ:=AI _ rfl AL (by kernel_rfl:Ab Tryz.prog 60 AHp AHo=true)
theorem M_69:bZ.modes=[.bor,.bor]:=rfl
theorem AQh:bZ.flat=true:=rfl
attribute [go_sem] M_69 AQh
theorem Tg{line:List UInt8}{code:Int}{y_:(List (List UInt8))×Int}(h:FW line code=some y_):bZ.F [.str line,.int .i64 code]=⟨true,.tup [.fresh 1 (List.map AV.str y_.1),.int .i64 y_.2],[.any,.any]⟩:=by
 refine Ah (by simp only[Do,EN,Ej,List.all_cons,List.all_nil,Bool.and_self,Bk (f:=AV.str) (fun _=>rfl)]) ?_;dsimp only[FW] at h;obtain rfl:=AA h;refine⟨0,fun L hL=>?_⟩;simp only[go_sem,AHp]
def fU:IR:=.seq (.region false [ VO 7 9 (B1 V6 V5)]) (.seq (.cond V7 (.skip) (.exit 0)) (.seq (.block 1 (.seq (.region false [ PO 10 (.ixAddr 1 V4 V6),PO 11 (L1 S0),VS 3 5 0]) (.region false [ PM 12 2,PM 13 3,PO 14 (B0 S1 S0),VS 2 3 0]))) (.region false [ PO 15 (B0 V6 (I6 1)),VS 6 8 0])))
def WU:List Bool:=[false,false,true,false,true,true,true,false]
def WT:List Bool:=[false,false,true,false,false,false,false,false]
def WS:List Bool:=[false,true,false,false,false,false,false,false]
def AHG:List Nat:=[0,2,3,5,6,7,8,9]
def ACQ:CN:=⟨1,8,.seq (.region false [ VO 1 2 (.mov (I6 0))]) (.seq (.region false [ VO 2 3 (.mov (I6 0))]) (.seq (.seq (.region false [ VO 4 6 (.mov V0),VO 5 7 (.len false V4),VO 6 8 (.mov (I6 0))]) (.block 0 (.loop WU WT WS fU))) (.seq (.region false [ PM 16 2,VS 1 2 0]) (.ret)))),[.t 1]⟩
def ALj:List (Nat×Ak):=[]
def kX:Ak:=DN ALj ACQ [.bor]
theorem AMZ:AQ Tryz.prog 92 kX:=AI _ rfl AL (by kernel_rfl:Ab Tryz.prog 92 ACQ AHG=true)
theorem M_70:kX.modes=[.bor]:=rfl
theorem AQg:kX.flat=true:=rfl
attribute [go_sem] M_70 AQg
def YE(t6:List Int)(t7:Int):(Int×Int)->St
 | (n,t8)=>⟨[.any,.any,.int .i64 n,.any,.sl 1 (List.map (AV.int .i64) t6),.int .i64 t7,.int .i64 t8,.any],[],[],true⟩
def Xe(t6:List Int)(t7:Int)(y:Int):Fw:=(.exit 0,⟨[.any,.any,.int .i64 y,.any,.any,.any,.any,.any],[],[],true⟩)
attribute [local go_sem] ACQ YE Xe fU WU WT WS in
theorem Zt{t6:List Int}{t7:Int}{sgm_:Int×Int}{rho_:Int}(h:AS (JD t6 t7) sgm_=some rho_):∃ L0,∀ L,L0<=L->CV (Aq (AP ALj) L fU) WU WT WS L (YE t6 t7 sgm_)=Xe t6 t7 rho_:=by
 refine Ax (E:=YE t6 t7) (R:=Xe t6 t7) (fun y=>by first|(intro c;cases c)|(rcases y with y|y<;>(intro c;cases c))|(rcases y with y|y|y<;>(intro c;cases c))) ?_ h;clear h;rintro⟨n,t8⟩ o_ h;dsimp only[JD] at h;rcases AE h with⟨z1,h⟩|⟨z1,h⟩
 ·try simp only[go_sem,N1] at z1
  obtain⟨z2,h⟩:=AC h;have lz2:=Az z2;try simp only[go_sem] at lz2
  try simp only[go_sem,N1,z1] at z2
  obtain rfl:=AA h;refine⟨0,fun L hL=>?_⟩;simp only[go_sem, *]
 ·try simp only[go_sem,N1] at z1
  obtain rfl:=AA h;refine⟨0,fun L hL=>?_⟩;simp only[go_sem,z1]
attribute [local go_sem] YE Xe WU WT WS ACQ in
theorem AFr{list:List Int}{y_:Int}(h:Mr list=some y_):kX.F [.sl 1 (List.map (AV.int .i64) list)]=⟨true,.int .i64 y_,[.any]⟩:=by
 refine Ah rfl ?_;dsimp only[Mr] at h;obtain⟨y_3,z3,h⟩:=AB h;obtain⟨Lz3,ez3⟩:=Zt z3;obtain rfl:=AA h;refine⟨Lz3,fun L hL=>?_⟩;have ez3:=ez3 L (by omega);try simp only[go_sem] at ez3
 simp only[go_sem,ez3]
def AHr:List Nat:=[0,1,3,4,5,6,7,8,9,15]
def nA:CN:=⟨2,10,.seq (.region false [ VO 2 3 (.box V1),VO 3 4 (.newnil 1),VO 4 5 (.mov (I6 0))]) (.seq (.region false [ VO 5 6 (.mov (I6 0))]) (.seq (.region false [ PO 10 (F1 V2),PO 11 (L1 S0),VS 6 7 0]) (.seq (.seq (.region false [ PO 12 (F0 V2),PO 13 (L1 S0),PO 14 (.ixAddr 1 S0 (I6 0)),VO 9 15 (L1 S0)]) (.block 0 (.test false [ PO 61 (B2 V9 (.c (.str [115,116,97,114]))),PO 60 (.mov S0)] S0 (.anyo 28 [ SO 0 63 (.mov V0),SO 1 64 (.mov V0),SO 2 65 (.nilck S1),
 SO 3 66 (F0 S2),SO 4 67 (L1 S3),SO 5 68 (F0 V2),SO 6 69 (L1 S5),SO 7 70 (.ixAddr 1 S6 (I6 1)),SO 8 71 (L1 S7),SO 9 72 (.mov V6),SO 10 73 (.ixAddr 1 S9 (I6 2)),SO 11 74 (L1 (.s 10)),SO 12 75 (.mov V6),SO 13 76 (.ixAddr 1 (.s 12) (I6 3)),SO 14 77 (L1 (.s 13)),SO 15 78 (.mov V6),SO 16 79 (.ixAddr 1 (.s 15) (I6 4)),SO 17 80 (L1 (.s 16)),SO 18 81 (.mov V6),SO 19 82 (.ixAddr 1 (.s 18) (I6 5)),SO 20 83 (L1 (.s 19)),SO 21 84 (.pur (.build [.str [],
 .int .i64 (0),.int .i64 (0),.int .i64 (0),.int .i64 (0)] [(0,1,S8),(1,1,(.s 11)),(2,1,(.s 14)),(3,1,(.s 17)),(4,1,(.s 20))])),SO 22 85 (.call 88 [S4,(.s 21)]),SO 23 62 (.mov (.s 22)),SO 24 86 (.ext (.s 23) 0),SO 25 87 (.ext (.s 23) 1),SO 26 88 (.nilck S0),SO 27 89 (F0 (.s 26)),⟨.no,0,none,.store 1 (.s 27) (.s 24)⟩,VS 5 6 25] [[1,2,3,4,5,6,7,8,9,10,11,12,13,14,15,16,17,18,19,20,21,0,22,23,24,26,27,25,28,29],[1,2,3,4,5,6,7,8,9,10,11,12,13,14,15,16,17,18,19,20,21,0,22,23,24,26,27,28,25,29],
 [1,2,3,4,5,6,7,8,9,10,11,12,13,14,15,16,17,18,19,20,21,22,0,23,24,26,27,25,28,29],[1,2,3,4,5,6,7,8,9,10,11,12,13,14,15,16,17,18,19,20,21,22,0,23,24,26,27,28,25,29]] .skip) (.test false [ PO 91 (B2 V9 (.c (.str [101,115,116]))),PO 90 (.mov S0)] S0 (.seq (.anyo 10 [ SO 0 92 (.mov V0),SO 1 93 (.nilck S0),SO 2 94 (F0 S1),SO 3 95 (L1 S2),SO 4 96 (F0 V2),SO 5 97 (L1 S4),SO 6 98 (.ixAddr 1 S5 (I6 2)),SO 7 99 (L1 S6),SO 8 100
 (.callp 26 [S3,S7]),SO 9 101 (.un .not S8)] [] (.cond S9 (.seq (.region false [ VO 3 4 (.newnil 1),VO 4 5 (.mov (I6 3))]) (.ret)) (.skip))) (.anyo 28 [ SO 0 103 (.mov V0),SO 1 104 (.mov V0),SO 2 105 (.nilck S1),SO 3 106 (F1 S2),SO 4 107 (L1 S3),SO 5 108 (.mov V6),SO 6 109 (.ixAddr 1 S5 (I6 1)),SO 7 110 (L1 S6),SO 8 111 (F0 V2),SO 9 112 (L1 S8),SO 10 113 (.ixAddr 1 S9 (I6 2)),SO 11 114 (L1 (.s 10)),SO 12 115 (F0 V2),SO 13 116 (L1 (.s
 12)),SO 14 117 (.ixAddr 1 (.s 13) (I6 3)),SO 15 118 (L1 (.s 14)),SO 16 119 (.mov V6),SO 17 120 (.ixAddr 1 (.s 16) (I6 4)),SO 18 121 (L1 (.s 17)),SO 19 122 (F2 V2),SO 20 123 (L1 (.s 19)),SO 21 124 (.pur (.build [.int .i64 (0),.str [],.str [],.int .i64 (0),.bool false] [(0,1,S7),(1,1,(.s 11)),(2,1,(.s 15)),(3,1,(.s 18)),(4,1,(.s 20))])),SO 22 125 (.call 89 [S4,(.s 21)]),SO 23 102 (.mov (.s 22)),SO 24 126 (.ext (.s 23) 0),SO 25 127 (.ext (.s 23) 1),SO 26 128 (.nilck S0),SO 27 129 (F1 (.s 26)),
 ⟨.no,0,none,.store 1 (.s 27) (.s 24)⟩,VS 5 6 25] [[1,2,3,4,5,6,7,8,9,10,11,12,13,14,15,16,17,18,19,20,21,0,22,23,24,26,27,25,28,29],[1,2,3,4,5,6,7,8,9,10,11,12,13,14,15,16,17,18,19,20,21,0,22,23,24,26,27,28,25,29],[1,2,3,4,5,6,7,8,9,10,11,12,13,14,15,16,17,18,19,20,21,22,0,23,24,26,27,25,28,29],[1,2,3,4,5,6,7,8,9,10,11,12,13,14,15,16,17,18,19,20,21,22,0,23,24,26,27,28,25,29]] .skip)) (.seq (.anyo 22 [ SO 0 17 (.mov V0),SO 1 18 (.mov V0),SO 2 19 (.nilck S1),
 SO 3 20 (F2 S2),SO 4 21 (L1 S3),SO 5 22 (.mov V6),SO 6 23 (.ixAddr 1 S5 (I6 1)),SO 7 24 (L1 S6),SO 8 25 (F0 V2),SO 9 26 (L1 S8),SO 10 27 (.ixAddr 1 S9 (I6 2)),SO 11 28 (L1 (.s 10)),SO 12 29 (.mov V6),SO 13 30 (.ixAddr 1 (.s 12) (I6 3)),SO 14 31 (L1 (.s 13)),SO 15 32 (.pur (.build [.int .i64 (0),.str [],.int .i64 (0)] [(0,1,S7),(1,1,(.s 11)),(2,1,(.s 14))])),SO 16 33 (.call 90 [S4,(.s 15)]),SO 17 16 (.mov (.s 16)),SO 18 34 (.ext (.s 17) 0),SO 19 35 (.ext
 (.s 17) 1),SO 20 36 (.nilck S0),SO 21 37 (F2 (.s 20)),⟨.no,0,none,.store 1 (.s 21) (.s 18)⟩,VS 5 6 19] [[1,2,3,4,5,6,7,8,9,10,11,12,13,14,15,0,16,17,18,20,21,19,22,23],[1,2,3,4,5,6,7,8,9,10,11,12,13,14,15,0,16,17,18,20,21,22,19,23],[1,2,3,4,5,6,7,8,9,10,11,12,13,14,15,16,0,17,18,20,21,19,22,23],[1,2,3,4,5,6,7,8,9,10,11,12,13,14,15,16,0,17,18,20,21,22,19,23]] .skip) (.seq (.test false [ PM 38 5,PO 39 (B7 S0 (I6 0))] S0 (.seq (.region false [ PM 40 5,VO 3 4
 (.newnil 1),VS 4 5 0]) (.ret)) (.skip)) (.seq (.anyo 12 [ SO 0 42 (.mov V0),SO 1 43 (.nilck S0),SO 2 44 (F2 S1),SO 3 45 (L1 S2),SO 4 46 (F0 V2),SO 5 47 (L1 S4),SO 6 48 (.ixAddr 1 S5 (I6 2)),SO 7 49 (L1 S6),SO 8 50 (.call 91 [S3,S7]),SO 9 41 (.mov S8),SO 10 51 (.ext S9 0),SO 11 52 (.ext S9 1),VS 7 8 10,VS 8 9 11] [] .skip) (.seq (.region false [ PM 53 7,PO 54 (.call 92 [S0]),PO 55 (.call 37 [S0]),PM 56 8,PO 57 (.call 60 [S1,S0]),PO 58 (.ext S0 0),PO 59
 (.ext S1 1),VS 3 4 1,VS 4 5 0]) (.ret))))))))) (.seq (.region false [ PM 130 0,PO 131 (.nilck S0),PO 132 (L3 S0),PO 133 (.call 17 [S0]),PM 134 5,PO 135 (.call 60 [S1,S0]),PO 136 (.ext S0 0),PO 137 (.ext S1 1),VS 3 4 1,VS 4 5 0]) (.ret))))),[.t 3,.t 4]⟩
def bL:List (Nat×Ak):=[(88,uh),(17,kY),(60,bZ),(26,bd),(89,uf),(90,ud),(91,ua),(92,kX),(37,KT)]
theorem xS:AP bL 88=some uh:=rfl
theorem xW:AP bL 17=some kY:=rfl
theorem xT:AP bL 60=some bZ:=rfl
theorem xV:AP bL 26=some bd:=rfl
theorem xR:AP bL 89=some uf:=rfl
theorem xQ:AP bL 90=some ud:=rfl
theorem xP:AP bL 91=some ua:=rfl
theorem xO:AP bL 92=some kX:=rfl
theorem xU:AP bL 37=some KT:=rfl
def uX:Ak:=bH bL nA [.io,.bor]
theorem s_71:AQ Tryz.prog 57 uX:=DH _ (AF s_57 (AF AMa (AF AGj (AF AGn (AF s_60 (AF s_62 (AF s_65 (AF AMZ (AF Yi AL))))))))) (by kernel_rfl:Ab Tryz.prog 57 nA AHr=true)
theorem M_71:uX.modes=[.io,.bor]:=rfl
theorem AQf:uX.flat=false:=rfl
attribute [go_sem] M_71 AQf xS xW xT xV xR xQ xP xO xU
theorem AAk{d:Bc}{c:HA}{y_:(List (List UInt8))×Int×Bc}(h:DU d c=some y_):uX.F [.mem 3 [Cj d] 0,Iy c]=⟨true,.tup [.fresh 1 (List.map AV.str y_.1),.int .i64 y_.2.1],[.mem 3 [Cj y_.2.2] 0,.any]⟩:=by
 refine Jn ?_;dsimp only[DU] at h;obtain⟨z1,h⟩:=AC h;have lz1:=Az z1;try simp only[go_sem] at lz1
 try simp only[go_sem,N1] at z1
 rcases AE h with⟨z2,h⟩|⟨z2,h⟩
 ·try simp only[go_sem,N1,z1] at z2
  obtain⟨z3,h⟩:=AC h;have lz3:=Az z3;try simp only[go_sem] at lz3
  try simp only[go_sem,N1, *] at z3
  obtain⟨z4,h⟩:=AC h;have lz4:=Az z4;try simp only[go_sem] at lz4
  try simp only[go_sem,N1, *] at z4
  obtain⟨z5,h⟩:=AC h;have lz5:=Az z5;try simp only[go_sem] at lz5
  try simp only[go_sem,N1, *] at z5
  obtain⟨z6,h⟩:=AC h;have lz6:=Az z6;try simp only[go_sem] at lz6
  try simp only[go_sem,N1, *] at z6
  obtain⟨z7,h⟩:=AC h;have lz7:=Az z7;try simp only[go_sem] at lz7
  try simp only[go_sem,N1, *] at z7
  obtain⟨y_8,z8,h⟩:=AB h;have fz8:=APh z8;try simp only[go_sem, *] at fz8
  obtain⟨y_9,z9,h⟩:=AB h;have fz9:=AAl z9;try simp only[go_sem, *] at fz9
  obtain⟨y_10,z10,h⟩:=AB h;have fz10:=Tg z10;try simp only[go_sem, *] at fz10
  obtain rfl:=AA h;refine⟨0,fun L hL=>?_⟩;simp only[go_sem,nA, *]
 ·try simp only[go_sem,N1,z1] at z2
  rcases AE h with⟨z11,h⟩|⟨z11,h⟩
  ·try simp only[go_sem,N1, *] at z11
   obtain⟨z12,h⟩:=AC h;have lz12:=Az z12;try simp only[go_sem] at lz12
   try simp only[go_sem,N1, *] at z12
   obtain⟨y_13,z13,h⟩:=AB h;have fz13:=AAq z13;try simp only[go_sem, *] at fz13
   rcases AE h with⟨z14,h⟩|⟨z14,h⟩
   ·try simp only[go_sem,N1, *] at z14
    obtain rfl:=AA h;refine⟨0,fun L hL=>?_⟩;simp only[go_sem,nA, *]
   ·try simp only[go_sem,N1, *] at z14
    obtain⟨z15,h⟩:=AC h;have lz15:=Az z15;try simp only[go_sem] at lz15
    try simp only[go_sem,N1, *] at z15
    obtain⟨z16,h⟩:=AC h;have lz16:=Az z16;try simp only[go_sem] at lz16
    try simp only[go_sem,N1, *] at z16
    obtain⟨z17,h⟩:=AC h;have lz17:=Az z17;try simp only[go_sem] at lz17
    try simp only[go_sem,N1, *] at z17
    obtain⟨y_18,z18,h⟩:=AB h;have fz18:=APe z18;try simp only[go_sem, *] at fz18
    obtain⟨y_19,z19,h⟩:=AB h;have fz19:=AAl z19;try simp only[go_sem, *] at fz19
    obtain⟨y_20,z20,h⟩:=AB h;have fz20:=Tg z20;try simp only[go_sem, *] at fz20
    obtain rfl:=AA h;refine⟨0,fun L hL=>?_⟩;simp only[go_sem,nA, *]
  ·try simp only[go_sem,N1, *] at z11
   obtain⟨z21,h⟩:=AC h;have lz21:=Az z21;try simp only[go_sem] at lz21
   try simp only[go_sem,N1, *] at z21
   obtain⟨z22,h⟩:=AC h;have lz22:=Az z22;try simp only[go_sem] at lz22
   try simp only[go_sem,N1, *] at z22
   obtain⟨z23,h⟩:=AC h;have lz23:=Az z23;try simp only[go_sem] at lz23
   try simp only[go_sem,N1, *] at z23
   obtain⟨y_24,z24,h⟩:=AB h;have fz24:=APd z24;try simp only[go_sem, *] at fz24
   rcases AE h with⟨z25,h⟩|⟨z25,h⟩
   ·try simp only[go_sem,N1, *] at z25
    obtain rfl:=AA h;refine⟨0,fun L hL=>?_⟩;simp only[go_sem,nA, *]
   ·try simp only[go_sem,N1, *] at z25
    obtain⟨y_26,z26,h⟩:=AB h;have fz26:=APa z26;try simp only[go_sem, *] at fz26
    obtain⟨y_27,z27,h⟩:=AB h;have fz27:=AFr z27;try simp only[go_sem, *] at fz27
    obtain⟨y_28,z28,h⟩:=AB h;have fz28:=KU z28;try simp only[go_sem, *] at fz28
    obtain⟨y_29,z29,h⟩:=AB h;have fz29:=Tg z29;try simp only[go_sem, *] at fz29
    obtain rfl:=AA h;refine⟨0,fun L hL=>?_⟩;simp only[go_sem,nA, *]
def ADa:List Nat:=[0,1,2,3]
def zM:CN:=⟨2,4,.seq (.region false [ VO 2 2 (.box V0),VO 3 3 (.mov C0)]) (.seq (.region false [ PO 4 (F1 V2),PO 5 (L1 S0),PO 6 (L1 V1),PO 7 (B2 S1 S0),PO 8 (.mov S0),⟨.push,9,(G1 0),F4 V2⟩,⟨.push,10,(G1 1),L1 S0⟩,⟨.push,11,(G1 2),.un .not S0⟩,PO 12 (.pick S3 S0 C0),VS 3 3 0]) (.ret)),[.t 3]⟩
def t_72:List (Nat×Ak):=[]
def uW:Ak:=DN t_72 zM [.bor,.bor]
theorem s_72:AQ Tryz.prog 136 uW:=AI _ rfl AL (by kernel_rfl:Ab Tryz.prog 136 zM ADa=true)
theorem M_72:uW.modes=[.bor,.bor]:=rfl
theorem AQe:uW.flat=true:=rfl
attribute [go_sem] M_72 AQe
theorem APX{e_:AD}{t1:List UInt8}{y_:Bool}(h:Ip e_ t1=some y_):uW.F [AN e_,.ptr 1 [.str t1] 0 0]=⟨true,.bool y_,[.any,.any]⟩:=by
 refine Ah rfl ?_;dsimp only[Ip] at h;obtain rfl:=AA h;refine⟨0,fun L hL=>?_⟩;simp only[go_sem,zM]
def Zg:IR:=.seq (.region false [ VO 8 12 (B1 V7 V6)]) (.seq (.cond V8 (.skip) (.exit 0)) (.seq (.block 1 (.seq (.region false [ PO 13 (.ixAddr 5 V5 V7),PO 14 (L5 S0),VO 4 7 (.alloc (.agg [.int .i64 (0),.str [],.str [],.int .i64 (0),.bool false])),⟨.no,0,none,.store 5 V4 S0⟩]) (.test false [ PM 15 1,PO 16 (L5 V4),PO 17 (.callv S1 [S0])] S0 (.region false [ PM 18 3,PO 19 (L5 V4),PO 20 (.mkSl 5 (.agg [.int .i64 (0),.str [],.str [],.int .i64 (0),.bool false]) 1 [(0,S0)]),
 PO 21 (.app 5 56 (.agg [.int .i64 (0),.str [],.str [],.int .i64 (0),.bool false]) S2 S0),VS 3 5 0]) (.skip)))) (.region false [ PO 22 (B0 V7 (I6 1)),VS 7 11 0])))
def SU:List Bool:=[false,true,false,true,false,true,true,true,false]
def ST:List Bool:=[false,false,false,true,false,false,false,false,false]
def SS:List Bool:=[false,false,true,false,false,false,false,false,false]
def ADb:List Nat:=[0,1,4,5,7,9,10,11,12]
def pT:CN:=⟨2,9,.seq (.region false [ VO 2 4 (.newnil 5)]) (.seq (.region false [ PO 8 (.mkSl 5 (.agg [.int .i64 (0),.str [],.str [],.int .i64 (0),.bool false]) 0 []),VS 3 5 0]) (.seq (.seq (.region false [ VO 5 9 (.mov V0),VO 6 10 (.len false V5),VO 7 11 (.mov (I6 0))]) (.block 0 (.loop SU ST SS Zg))) (.seq (.region false [ PM 23 3,VS 2 4 0]) (.ret)))),[.t 2]⟩
def AGO:List (Nat×Ak):=[(136,uW)]
theorem rL:AP AGO 136=some uW:=rfl
def uV:Ak:=DN AGO pT [.bor,.bor]
theorem s_73:AQ Tryz.prog 135 uV:=AI _ rfl (AF s_72 AL) (by kernel_rfl:Ab Tryz.prog 135 pT ADb=true)
theorem M_73:uV.modes=[.bor,.bor]:=rfl
theorem AQd:uV.flat=true:=rfl
attribute [go_sem] M_73 AQd rL
def YD(c:List UInt8)(t9:List AD)(t10:Int):((List AD)×Int)->St
 | (out,t11)=>⟨[.any,.fn (.func 136) [] [.ptr 1 [.str c] 0 0],.any,.own 3200000,.any,.sl 5 (List.map AN t9),.int .i64 t10,.int .i64 t11,.any],[],[(3200000,⟨5,List.map AN out⟩)],true⟩
def Xd(c:List UInt8)(t9:List AD)(t10:Int)(y:(List AD)):Fw:=(.exit 0,⟨[.any,.any,.any,.own 3200000,.any,.any,.any,.any,.any],[],[(3200000,⟨5,List.map AN y⟩)],true⟩)
attribute [local go_sem] pT YD Xd Zg SU ST SS in
theorem FP{c:List UInt8}{t9:List AD}{t10:Int}{sgm_:(List AD)×Int}{rho_:(List AD)}(h:AS (Au c t9 t10) sgm_=some rho_):∃ L0,∀ L,L0<=L->CV (Aq (AP AGO) L Zg) SU ST SS L (YD c t9 t10 sgm_)=Xd c t9 t10 rho_:=by
 refine Ax (E:=YD c t9 t10) (R:=Xd c t9 t10) (fun y=>by first|(intro c;cases c)|(rcases y with y|y<;>(intro c;cases c))|(rcases y with y|y|y<;>(intro c;cases c))) ?_ h;clear h;rintro⟨out,t11⟩ o_ h;dsimp only[Au] at h;rcases AE h with⟨z1,h⟩|⟨z1,h⟩
 ·try simp only[go_sem,N1] at z1
  obtain⟨z2,h⟩:=AC h;have lz2:=Az z2;try simp only[go_sem] at lz2
  try simp only[go_sem,N1,z1] at z2
  obtain⟨y_3,z3,h⟩:=AB h;have fz3:=APX z3;try simp only[go_sem, *] at fz3
  rcases AE h with⟨z4,h⟩|⟨z4,h⟩
  ·try simp only[go_sem,N1, *] at z4
   obtain⟨z5,h⟩:=AC h;try simp only[go_sem,N1, *] at z5
   obtain rfl:=AA h;refine⟨0,fun L hL=>?_⟩;simp only[go_sem, *]
  ·try simp only[go_sem,N1, *] at z4
   obtain rfl:=AA h;refine⟨0,fun L hL=>?_⟩;simp only[go_sem, *]
 ·try simp only[go_sem,N1] at z1
  obtain rfl:=AA h;refine⟨0,fun L hL=>?_⟩;simp only[go_sem,z1]
attribute [local go_sem] YD Xd SU ST SS pT in
theorem APW{list:List AD}{wanted_c0:List UInt8}{y_:(List AD)}(h:BO list wanted_c0=some y_):uV.F [.sl 5 (List.map AN list),.fn (.func 136) [] [.ptr 1 [.str wanted_c0] 0 0]]=⟨true,.fresh 5 (List.map AN y_),[.any,.any]⟩:=by
 refine Ah (by simp only[Do,EN,Ej,List.all_cons,List.all_nil,Bool.and_self,Bk (f:=AN) (fun _=>rfl)]) ?_;dsimp only[BO] at h;obtain⟨y_6,z6,h⟩:=AB h;obtain⟨Lz6,ez6⟩:=FP z6;obtain rfl:=AA h;refine⟨Lz6,fun L hL=>?_⟩;have ez6:=ez6 L (by omega);try simp only[go_sem] at ez6
 simp only[go_sem,ez6]
def ADE:List Nat:=[0,2]
def zC:CN:=⟨1,2,.seq (.region false [ VO 1 2 (.mov (I6 0))]) (.seq (.region false [ PM 3 0,PO 4 (.len false S0),VS 1 2 0]) (.ret)),[.t 1]⟩
def t_74:List (Nat×Ak):=[]
def uU:Ak:=DN t_74 zC [.bor]
theorem s_74:AQ Tryz.prog 178 uU:=AI _ rfl AL (by kernel_rfl:Ab Tryz.prog 178 zC ADE=true)
theorem M_74:uU.modes=[.bor]:=rfl
theorem AQc:uU.flat=true:=rfl
attribute [go_sem] M_74 AQc
theorem APV{list:List Int}{y_:Int}(h:IS list=some y_):uU.F [.sl 1 (List.map (AV.int .i64) list)]=⟨true,.int .i64 y_,[.any]⟩:=by
 refine Ah rfl ?_;dsimp only[IS] at h;obtain rfl:=AA h;refine⟨0,fun L hL=>?_⟩;simp only[go_sem,zC]
def ACv:List Nat:=[0,1,4,5]
def yx:CN:=⟨2,4,.seq (.region false [ VO 2 4 (.mov (I6 0))]) (.seq (.region false [ PM 6 0,PM 7 1,PO 8 (.bin false .quo S1 S0),VS 3 5 0]) (.seq (.test false [ PM 9 0,PM 10 1,PO 11 (.bin false .rem S1 S0),PO 12 (B1 S0 (I6 0))] S0 (.region false [ PM 13 3,PO 14 (B3 S0 (I6 1)),VS 3 5 0]) (.skip)) (.seq (.region false [ PM 15 3,VS 2 4 0]) (.ret)))),[.t 2]⟩
def t_75:List (Nat×Ak):=[]
def kW:Ak:=DN t_75 yx [.bor,.bor]
theorem AMY:AQ Tryz.prog 202 kW:=AI _ rfl AL (by kernel_rfl:Ab Tryz.prog 202 yx ACv=true)
theorem M_75:kW.modes=[.bor,.bor]:=rfl
theorem AQb:kW.flat=true:=rfl
attribute [go_sem] M_75 AQb
theorem AFq{a:Int}{b:Int}{y_:Int}(h:Ei a b=some y_):kW.F [.int .i64 a,.int .i64 b]=⟨true,.int .i64 y_,[.any,.any]⟩:=by
 refine Ah rfl ?_;dsimp only[Ei] at h;obtain⟨z1,h⟩:=AC h;try simp only[go_sem,N1] at z1
 rcases AE h with⟨z2,h⟩|⟨z2,h⟩
 all_goals
 try simp only[go_sem,N1,z1] at z2
 obtain rfl:=AA h;refine⟨0,fun L hL=>?_⟩;simp only[go_sem,yx, *]
def ADF:List Nat:=[0,1,4,5,6]
def zD:CN:=⟨2,5,.seq (.region false [ VO 2 4 (.mov (I6 0))]) (.seq (.region false [ PM 7 0,PM 8 1,PO 9 (.call 202 [S1,S0]),VS 3 5 0]) (.seq (.seq (.region false [ PM 10 0,PM 11 3,PM 12 1,PO 13 (B8 S1 S0),PO 14 (B3 S3 S0),VS 4 6 0]) (.test false [ PM 15 4,PM 16 1,PM 17 4,PO 18 (B3 S1 S0),PO 19 (B6 S3 S0)] S0 (.region false [ PM 20 3,PO 21 (B0 S0 (I6 1)),VS 3 5 0]) (.skip))) (.seq (.region false [ PM 22 3,VS 2 4 0]) (.ret)))),[.t 2]⟩
def ALi:List (Nat×Ak):=[(202,kW)]
theorem rK:AP ALi 202=some kW:=rfl
def uT:Ak:=DN ALi zD [.bor,.bor]
theorem s_76:AQ Tryz.prog 177 uT:=AI _ rfl (AF AMY AL) (by kernel_rfl:Ab Tryz.prog 177 zD ADF=true)
theorem M_76:uT.modes=[.bor,.bor]:=rfl
theorem AQa:uT.flat=true:=rfl
attribute [go_sem] M_76 AQa rK
theorem APU{num:Int}{den:Int}{y_:Int}(h:Kp num den=some y_):uT.F [.int .i64 num,.int .i64 den]=⟨true,.int .i64 y_,[.any,.any]⟩:=by
 refine Ah rfl ?_;dsimp only[Kp] at h;obtain⟨y_1,z1,h⟩:=AB h;have fz1:=AFq z1;try simp only[go_sem] at fz1
 rcases AE h with⟨z2,h⟩|⟨z2,h⟩
 all_goals
 try simp only[go_sem,N1] at z2
 obtain rfl:=AA h;refine⟨0,fun L hL=>?_⟩;simp only[go_sem,zD, *]
def ADZ:List Nat:=[0,2]
def zL:CN:=⟨1,2,.seq (.region false [ VO 1 2 (.mov (I6 0))]) (.seq (.region false [ PM 3 0,PO 4 (.call 92 [S0]),PM 5 0,PO 6 (.call 178 [S0]),PO 7 (.call 177 [S2,S0]),VS 1 2 0]) (.ret)),[.t 1]⟩
def ABR:List (Nat×Ak):=[(92,kX),(178,uU),(177,uT)]
theorem xN:AP ABR 92=some kX:=rfl
theorem rI:AP ABR 178=some uU:=rfl
theorem rJ:AP ABR 177=some uT:=rfl
def uR:Ak:=DN ABR zL [.bor]
theorem s_77:AQ Tryz.prog 137 uR:=AI _ rfl (AF AMZ (AF s_74 (AF s_76 AL))) (by kernel_rfl:Ab Tryz.prog 137 zL ADZ=true)
theorem M_77:uR.modes=[.bor]:=rfl
theorem AQZ:uR.flat=true:=rfl
attribute [go_sem] M_77 AQZ xN rI rJ
theorem APT{list:List Int}{y_:Int}(h:Mt list=some y_):uR.F [.sl 1 (List.map (AV.int .i64) list)]=⟨true,.int .i64 y_,[.any]⟩:=by
 refine Ah rfl ?_;dsimp only[Mt] at h;obtain⟨y_1,z1,h⟩:=AB h;have fz1:=AFr z1;try simp only[go_sem] at fz1
 obtain⟨y_2,z2,h⟩:=AB h;have fz2:=APV z2;try simp only[go_sem] at fz2
 obtain⟨y_3,z3,h⟩:=AB h;have fz3:=APU z3;try simp only[go_sem] at fz3
 obtain rfl:=AA h;refine⟨0,fun L hL=>?_⟩;simp only[go_sem,zL, *]
def fS:IR:=.seq (.test false [ PM 33 7,PM 34 5,PO 35 (.len false S0),PO 36 (B1 S2 S0),PO 37 (.mov S0),⟨.push,38,(G1 0),.mov V5⟩,⟨.push,39,(G1 1),.mov V7⟩,⟨.push,40,(G1 2),.ixAddr 5 S1 S0⟩,⟨.push,41,(G1 3),F0 S0⟩,⟨.push,42,(G1 4),L1 S0⟩,⟨.push,43,(G1 5),.mov V9⟩,⟨.push,44,(G1 6),B2 S1 S0⟩,PO 45 (.pick S7 S0 C0)] S0 (.skip)
 (.exit 3)) (.seq (.block 4 (.region false [ PM 48 8,PM 49 5,PM 50 7,PO 51 (.ixAddr 5 S1 S0),PO 52 (F3 S0),PO 53 (L1 S0),PO 54 (.mkSl 1 (.int .i64 (0)) 1 [(0,S0)]),PO 55 (.app 1 8 (.int .i64 (0)) S6 S0),VS 8 9 0])) (.region false [ PM 46 7,PO 47 (B0 S0 (I6 1)),VS 7 8 0]))
def RX:List Bool:=[false,false,false,false,false,true,true,true,true,true]
def RW:List Bool:=[false,false,false,false,false,true,true,true,true,true]
def RU:List Bool:=[false,false,false,true,true,false,false,false,false,false]
def fT:IR:=.seq (.test false [ PM 23 7,PM 24 5,PO 25 (.len false S0),PO 26 (B1 S2 S0)] S0 (.skip) (.exit 1)) (.block 2 (.seq (.region false [ PO 27 (.mkSl 1 (.int .i64 (0)) 0 []),VS 8 9 0]) (.seq (.region false [ PM 28 5,PM 29 7,PO 30 (.ixAddr 5 S1 S0),PO 31 (F0 S0),PO 32 (L1 S0),VS 9 10 0]) (.seq (.block 3 (.loop RX RW RU fS)) (.region false [ PM 56 6,PM 57 9,PM 58 8,PO 59 (.call 137 [S0]),PO 60 (.build [.int .i64 (0),.int .i64 (0)] [(0,1,S2),(1,1,S0)]),PO 61 (.mkSl 2
 (.agg [.int .i64 (0),.int .i64 (0)]) 1 [(0,S0)]),PO 62 (.app 2 16 (.agg [.int .i64 (0),.int .i64 (0)]) S5 S0),VS 6 7 0])))))
def WR:List Bool:=[false,false,false,false,false,true,true,true,false,false]
def WQ:List Bool:=[false,false,false,false,false,false,true,false,false,false]
def WP:List Bool:=[false,false,false,true,true,false,false,false,false,false]
def AHF:List Nat:=[0,1,3,4,5,6,7,8,9,10]
def yp:CN:=⟨2,10,.seq (.region false [ VO 2 3 (.box V1),VO 3 4 (.newnil 2),VO 4 5 (.mov (I6 0))]) (.seq (.block 0 (.test false [ PM 12 0,PO 13 (.call 25 [S0]),PO 14 (.un .not S0),PO 11 (.mov S0)] S0 (.seq (.region false [ VO 3 4 (.newnil 2),VO 4 5 (.mov (I6 1))]) (.ret)) (.test false [ PO 16 (L1 V2),PO 17 (.call 74 [S0]),PO 18 (.un .not S0),PO 15 (.mov S0)] S0 (.seq (.region false [ VO 3 4 (.newnil 2),VO 4 5 (.mov (I6 2))]) (.ret)) (.skip)))) (.seq (.region false [ PM 19 0,PO 20 (.mkFn (.func 136) [] [V2]),PO 21 (.call
 135 [S1,S0]),VS 5 6 0]) (.seq (.region false [ PO 22 (.mkSl 2 (.agg [.int .i64 (0),.int .i64 (0)]) 0 []),VS 6 7 0]) (.seq (.seq (.region false [ VO 7 8 (.mov (I6 0))]) (.block 1 (.loop WR WQ WP fT))) (.seq (.region false [ PM 63 6,VS 3 4 0,VO 4 5 (.mov (I6 0))]) (.ret)))))),[.t 3,.t 4]⟩
def lL:List (Nat×Ak):=[(25,Vw),(74,pm),(135,uV),(137,uR)]
theorem xM:AP lL 25=some Vw:=rfl
theorem xL:AP lL 74=some pm:=rfl
theorem rH:AP lL 135=some uV:=rfl
theorem rG:AP lL 137=some uR:=rfl
def uQ:Ak:=DN lL yp [.bor,.bor]
theorem s_78:AQ Tryz.prog 93 uQ:=AI _ rfl (AF wN (AF s_1 (AF s_73 (AF s_77 AL)))) (by kernel_rfl:Ab Tryz.prog 93 yp AHF=true)
theorem M_78:uQ.modes=[.bor,.bor]:=rfl
theorem AQY:uQ.flat=true:=rfl
attribute [go_sem] M_78 AQY xM xL rH rG
def Tl(seen:List AD)(out:List Aa)(time:Int):(Int×(List Int))->St
 | (i,mags)=>⟨[.any,.any,.any,.any,.any,.own 3200000,.own 3200032,.int .i64 i,.own 3200064,.int .i64 time],[],[(3200000,⟨5,List.map AN seen⟩),(3200032,⟨2,List.map Aw out⟩),(3200064,⟨1,List.map (AV.int .i64) mags⟩)],true⟩
def TN(seen:List AD)(out:List Aa)(time:Int)(y:Int×(List Int)):Fw:=(.exit 3,⟨[.any,.any,.any,.any,.any,.own 3200000,.own 3200032,.int .i64 y.1,.own 3200064,.int .i64 time],[],[(3200000,⟨5,List.map AN seen⟩),(3200032,⟨2,List.map Aw out⟩),(3200064,⟨1,List.map (AV.int .i64) y.2⟩)],true⟩)
attribute [local go_sem] yp Tl TN fS RX RW RU in
theorem Qa{seen:List AD}{out:List Aa}{time:Int}{sgm_:Int×(List Int)}{rho_:Int×(List Int)}(h:AS (ER seen out time) sgm_=some rho_):∃ L0,∀ L,L0<=L->CV (Aq (AP lL) L fS) RX RW RU L (Tl seen out time sgm_)=TN seen out time rho_:=by
 refine Ax (E:=Tl seen out time) (R:=TN seen out time) (fun y=>by first|(intro c;cases c)|(rcases y with y|y<;>(intro c;cases c))|(rcases y with y|y|y<;>(intro c;cases c))) ?_ h;clear h;rintro⟨i,mags⟩ o_ h;dsimp only[ER] at h;obtain⟨z8,h⟩:=AC h;rcases Ag z8 with⟨gz8,z8⟩|gz8
 ·try simp only[go_sem,N1] at gz8
  all_goals
  have lz8:=Az z8;try simp only[go_sem] at lz8
  try simp only[go_sem,N1,gz8] at z8
  all_goals
  rcases AE h with⟨z9,h⟩|⟨z9,h⟩
  ·try simp only[go_sem,N1, *] at z9
   all_goals
   obtain⟨z10,h⟩:=AC h;have lz10:=Az z10;try simp only[go_sem] at lz10
   try simp only[go_sem,N1, *] at z10
   all_goals
   obtain⟨z11,h⟩:=AC h;try simp only[go_sem,N1, *] at z11
   all_goals
   obtain rfl:=AA h;refine⟨0,fun L hL=>?_⟩;simp only[go_sem, *]
  ·try simp only[go_sem,N1, *] at z9
   all_goals
   obtain rfl:=AA h;refine⟨0,fun L hL=>?_⟩;simp only[go_sem, *]
 ·try simp only[go_sem,N1] at gz8
  all_goals
  rcases AE h with⟨z9,h⟩|⟨z9,h⟩
  ·try simp only[go_sem,N1,gz8] at z9
   all_goals
   (simp_all)
  ·try simp only[go_sem,N1,gz8] at z9
   all_goals
   obtain rfl:=AA h;refine⟨0,fun L hL=>?_⟩;simp only[go_sem, *]
def YC(seen:List AD):((List Aa)×Int)->St
 | (out,i)=>⟨[.any,.any,.any,.any,.any,.own 3200000,.own 3200032,.int .i64 i,.any,.any],[],[(3200000,⟨5,List.map AN seen⟩),(3200032,⟨2,List.map Aw out⟩)],true⟩
def Xc(seen:List AD)(y:(List Aa)):Fw:=(.exit 1,⟨[.any,.any,.any,.any,.any,.any,.own 3200000,.any,.any,.any],[],[(3200000,⟨2,List.map Aw y⟩)],true⟩)
attribute [local go_sem] YC Xc fT WR WQ WP Tl TN RX RW RU yp in
theorem Qb{seen:List AD}{sgm_:(List Aa)×Int}{rho_:(List Aa)}(h:AS (Fd seen) sgm_=some rho_):∃ L0,∀ L,L0<=L->CV (Aq (AP lL) L fT) WR WQ WP L (YC seen sgm_)=Xc seen rho_:=by
 refine Ax (E:=YC seen) (R:=Xc seen) (fun y=>by first|(intro c;cases c)|(rcases y with y|y<;>(intro c;cases c))|(rcases y with y|y|y<;>(intro c;cases c))) ?_ h;clear h;rintro⟨out,i⟩ o_ h;dsimp only[Fd] at h;rcases AE h with⟨z6,h⟩|⟨z6,h⟩
 ·try simp only[go_sem,N1] at z6
  obtain⟨z7,h⟩:=AC h;have lz7:=Az z7;try simp only[go_sem] at lz7
  try simp only[go_sem,N1,z6] at z7
  obtain⟨y_12,z12,h⟩:=AB h;obtain⟨Lz12,ez12⟩:=Qa z12;obtain⟨y_13,z13,h⟩:=AB h;have fz13:=APT z13;try simp only[go_sem, *] at fz13
  obtain⟨z14,h⟩:=AC h;try simp only[go_sem,N1, *] at z14
  obtain rfl:=AA h;refine⟨Lz12,fun L hL=>?_⟩;have ez12:=ez12 L (by omega);try simp only[go_sem, *] at ez12
  simp only[go_sem, *]
 ·try simp only[go_sem,N1] at z6
  obtain rfl:=AA h;refine⟨0,fun L hL=>?_⟩;simp only[go_sem,z6]
attribute [local go_sem] yp Tl TN RX RW RU YC Xc WR WQ WP in
theorem APS{list:List AD}{star:List UInt8}{y_:(List Aa)×Int}(h:Je list star=some y_):uQ.F [.sl 5 (List.map AN list),.str star]=⟨true,.tup [.fresh 2 (List.map Aw y_.1),.int .i64 y_.2],[.any,.any]⟩:=by
 refine Ah (by simp only[Do,EN,Ej,List.all_cons,List.all_nil,Bool.and_self,Bk (f:=Aw) (fun _=>rfl)]) ?_;dsimp only[Je] at h;obtain⟨y_1,z1,h⟩:=AB h;have fz1:=ky z1;try simp only[go_sem] at fz1
 rcases AE h with⟨z2,h⟩|⟨z2,h⟩
 ·try simp only[go_sem,N1] at z2
  obtain rfl:=AA h;refine⟨0,fun L hL=>?_⟩;simp only[go_sem, *]
 ·try simp only[go_sem,N1] at z2
  obtain⟨y_3,z3,h⟩:=AB h;have fz3:=lA z3;try simp only[go_sem,z2] at fz3
  rcases AE h with⟨z4,h⟩|⟨z4,h⟩
  ·try simp only[go_sem,N1,z2] at z4
   obtain rfl:=AA h;refine⟨0,fun L hL=>?_⟩;simp only[go_sem, *]
  ·try simp only[go_sem,N1,z2] at z4
   obtain⟨y_5,z5,h⟩:=AB h;have fz5:=APW z5;try simp only[go_sem, *] at fz5
   obtain⟨y_15,z15,h⟩:=AB h;obtain⟨Lz15,ez15⟩:=Qb z15;obtain rfl:=AA h;refine⟨Lz15,fun L hL=>?_⟩;have ez15:=ez15 L (by omega);try simp only[go_sem, *] at ez15
   simp only[go_sem, *]
def Zf:IR:=.seq (.region false [ VO 7 11 (B1 V6 V5)]) (.seq (.cond V7 (.skip) (.exit 0)) (.seq (.block 1 (.seq (.region false [ PM 12 6,PO 13 (.ixAddr 2 V4 V6),PO 14 (.load true 2 S0),VO 3 4 (.alloc (.agg [.int .i64 (0),.int .i64 (0)])),VS 2 3 2,⟨.no,0,none,.store 2 V3 S0⟩]) (.anyo 25 [ SO 0 15 (F0 V3),SO 1 16 (L1 S0),SO 2 17 (.callp 76 [S1]),SO 3 18 (.un .not S2),SO 4 19 (.mov S3),⟨.slot 5,20,(G0 4),F1 V3⟩,⟨.slot 6,21,(G0 4),.load false
 1 S5⟩,⟨.slot 7,22,(G0 4),.call 75 [S6]⟩,⟨.slot 8,23,(G0 4),.un .not S7⟩,SO 9 24 (.pick S4 C1 S8),SO 10 25 (.mov S9),⟨.slot 11,26,(G0 10),.mov V2⟩,⟨.slot 12,27,(G0 10),B4 (.s 11) (I6 0)⟩,⟨.slot 13,28,(G0 10),.mov (.s 12)⟩,⟨.slot 14,29,(G1 13),.mov V0⟩,⟨.slot 15,30,(G1 13),.mov V2⟩,⟨.slot 16,31,(G1 13),B3 (.s 15) (I6 1)⟩,⟨.slot 17,32,(G1 13),
 .ixAddr 2 (.s 14) (.s 16)⟩,⟨.slot 18,33,(G1 13),F0 (.s 17)⟩,⟨.slot 19,34,(G1 13),L1 (.s 18)⟩,⟨.slot 20,35,(G1 13),F0 V3⟩,⟨.slot 21,36,(G1 13),L1 (.s 20)⟩,⟨.slot 22,37,(G1 13),B6 (.s 19) (.s 21)⟩,⟨.slot 23,38,(G0 10),.pick (.s 13) (.s 22) C0⟩,SO 24 39 (.pick (.s 10) C1 (.s 23))] [] (.cond (.s 24) (.seq (.region false [ VO 1 2 (.mov C0)]) (.ret)) (.skip))))) (.region false [ PO 40
 (B0 V6 (I6 1)),VS 6 10 0])))
def SQ:List Bool:=[true,false,false,false,true,true,true,false]
def SP:List Bool:=[false,false,false,false,false,false,false,false]
def SN:List Bool:=[false,true,false,false,false,false,false,false]
def ADY:List Nat:=[0,2,3,4,8,9,10,11]
def pS:CN:=⟨1,8,.seq (.region false [ VO 1 2 (.mov C0)]) (.seq (.test false [ PM 5 0,PO 6 (.len false S0),PO 7 (B4 S0 (I6 100))] S0 (.seq (.region false [ VO 1 2 (.mov C0)]) (.ret)) (.skip)) (.seq (.seq (.region false [ VO 4 8 (.mov V0),VO 5 9 (.len false V4),VO 6 10 (.mov (I6 0))]) (.block 0 (.loop SQ SP SN Zf))) (.seq (.region false [ VO 1 2 (.mov C1)]) (.ret)))),[.t 1]⟩
def ABQ:List (Nat×Ak):=[(76,c_7),(75,vV)]
theorem xJ:AP ABQ 76=some c_7:=rfl
theorem xK:AP ABQ 75=some vV:=rfl
def bY:Ak:=DN ABQ pS [.bor]
theorem AGi:AQ Tryz.prog 138 bY:=AI _ rfl (AF s_7 (AF s_2 AL)) (by kernel_rfl:Ab Tryz.prog 138 pS ADY=true)
theorem M_79:bY.modes=[.bor]:=rfl
theorem AQX:bY.flat=true:=rfl
attribute [go_sem] M_79 AQX xJ xK
def YB(curve:List Aa)(t8:List Aa)(t9:Int):Int->St
 | t10=>⟨[.sl 2 (List.map Aw curve),.any,.any,.any,.sl 2 (List.map Aw t8),.int .i64 t9,.int .i64 t10,.any],[],[],true⟩
def Xb(curve:List Aa)(t8:List Aa)(t9:Int):(Unit⊕Bool)->Fw
 | .inl y=>(.exit 0,⟨[.any,.any,.any,.any,.any,.any,.any,.any],[],[],true⟩)
 | .inr y=>(.ret,⟨[.any,.bool y,.any,.any,.any,.any,.any,.any],[],[],true⟩)
attribute [local go_sem] pS YB Xb Zf SQ SP SN in
theorem OC{curve:List Aa}{t8:List Aa}{t9:Int}{sgm_:Int}{rho_:Unit⊕Bool}(h:AS (DO curve t8 t9) sgm_=some rho_):∃ L0,∀ L,L0<=L->CV (Aq (AP ABQ) L Zf) SQ SP SN L (YB curve t8 t9 sgm_)=Xb curve t8 t9 rho_:=by
 refine Ax (E:=YB curve t8 t9) (R:=Xb curve t8 t9) (fun y=>by first|(intro c;cases c)|(rcases y with y|y<;>(intro c;cases c))|(rcases y with y|y|y<;>(intro c;cases c))) ?_ h;clear h;intro t10 o_ h;dsimp only[DO] at h;rcases AE h with⟨z2,h⟩|⟨z2,h⟩
 ·try simp only[go_sem,N1] at z2
  all_goals
  obtain⟨z3,h⟩:=AC h;have lz3:=Az z3;try simp only[go_sem] at lz3
  try simp only[go_sem,N1,z2] at z3
  all_goals
  obtain⟨y_4,z4,h⟩:=AB h;have fz4:=AJc z4;try simp only[go_sem, *] at fz4
  obtain⟨z5,h⟩:=AC h;rcases Ag z5 with⟨gz5,z5⟩|gz5
  ·try simp only[go_sem,N1, *] at gz5
   all_goals
   obtain⟨y_5,hz5⟩:=isX z5;have fz5:=AAr hz5;try simp only[go_sem,N1, *] at hz5
   all_goals
   try simp only[go_sem, *] at fz5
   obtain⟨z6,h⟩:=AC h;rcases Ag z6 with⟨gz6,z6⟩|gz6
   ·try simp only[go_sem,N1, *] at gz6
    all_goals
    have lz6:=Az z6;try simp only[go_sem] at lz6
    try simp only[go_sem,N1, *] at z6
    all_goals
    rcases AE h with⟨z7,h⟩|⟨z7,h⟩
    all_goals
    try simp only[go_sem,N1, *] at z7
    all_goals
    obtain rfl:=AA h;refine⟨0,fun L hL=>?_⟩;simp only[go_sem, *]
   ·rcases HU gz6 with gz6a|⟨gz6a,gz6b⟩
    ·have gz6an:=FO gz6a;rcases bP gz6an with gz6ana|⟨gz6ana,gz6anb⟩
     ·try simp only[go_sem,N1, *] at gz6ana
      all_goals
      (simp_all)
     ·have gz6anan:=FO gz6ana;have gz6anbn:=Is gz6anb;try simp only[go_sem,N1, *] at gz6anan
      all_goals
      try simp only[go_sem,N1, *] at gz6anbn
      all_goals
      rcases AE h with⟨z7,h⟩|⟨z7,h⟩
      ·try simp only[go_sem,N1, *] at z7
       all_goals
       obtain rfl:=AA h;refine⟨0,fun L hL=>?_⟩;simp only[go_sem, *]
      ·try simp only[go_sem,N1, *] at z7
       all_goals
       (simp_all)
    ·have gz6an:=Is gz6a;obtain⟨gz6ana,gz6anb⟩:=ABq gz6an;have gz6anan:=FO gz6ana;have gz6anbn:=FO gz6anb;try simp only[go_sem,N1, *] at gz6anan
     all_goals
     try simp only[go_sem,N1, *] at gz6anbn
     all_goals
     try simp only[go_sem,N1, *] at gz6b
     all_goals
     rcases AE h with⟨z7,h⟩|⟨z7,h⟩
     ·try simp only[go_sem,N1, *] at z7
      all_goals
      (simp_all)
     ·try simp only[go_sem,N1, *] at z7
      all_goals
      obtain rfl:=AA h;refine⟨0,fun L hL=>?_⟩;simp only[go_sem, *]
  ·have gz5n:=FO gz5;have gz5nn:=Is gz5n;try simp only[go_sem,N1, *] at gz5nn
   all_goals
   obtain⟨z6,h⟩:=AC h;rcases AE h with⟨z7,h⟩|⟨z7,h⟩
   ·try simp only[go_sem,N1, *] at z7
    all_goals
    obtain rfl:=AA h;refine⟨0,fun L hL=>?_⟩;simp only[go_sem, *]
   ·try simp only[go_sem,N1, *] at z7
    all_goals
    (simp_all)
 ·try simp only[go_sem,N1] at z2
  all_goals
  obtain rfl:=AA h;refine⟨0,fun L hL=>?_⟩;simp only[go_sem,z2]
attribute [local go_sem] pS YB Xb SQ SP SN in
theorem AAj{curve:List Aa}{y_:Bool}(h:Dj curve=some y_):bY.F [.sl 2 (List.map Aw curve)]=⟨true,.bool y_,[.any]⟩:=by
 refine Ah rfl ?_;dsimp only[Dj] at h;rcases AE h with⟨z1,h⟩|⟨z1,h⟩
 ·try simp only[go_sem,N1] at z1
  obtain rfl:=AA h;refine⟨0,fun L hL=>?_⟩;simp only[go_sem,z1]
 ·try simp only[go_sem,N1] at z1
  obtain⟨y_8,z8,h⟩:=AB h;obtain⟨Lz8,ez8⟩:=OC z8;rcases y_8 with y_8a|y_8b
  all_goals
  dsimp only at h;obtain rfl:=AA h;refine⟨Lz8,fun L hL=>?_⟩;have ez8:=ez8 L (by omega);try simp only[go_sem,z1] at ez8
  simp only[go_sem, *]
def ADD:List Nat:=[0,1,2]
def cq:CN:=⟨1,3,.seq (.region false [ VO 1 1 (.box V0),VO 2 2 (.mov C0)]) (.seq (.test false [ PO 3 (F0 V1),PO 4 (L1 S0),PO 5 (.call 73 [S0,(I6 1),(I6 1000000)]),PO 6 (.un .not S0),PO 7 (.mov S0),⟨.push,8,(G0 0),F1 V1⟩,⟨.push,9,(G0 1),L1 S0⟩,⟨.push,10,(G0 2),F0 V1⟩,⟨.push,11,(G0 3),L1 S0⟩,⟨.push,12,(G0 4),.call 73 [S2,S0,(I6 1000000)]⟩,⟨.push,13,(some ((.s
 5),false)),.un .not S0⟩,PO 14 (.pick S6 C1 S0),PO 15 (.mov S0),⟨.push,16,(G0 0),F2 V1⟩,⟨.push,17,(G0 1),L1 S0⟩,⟨.push,18,(G0 2),.call 73 [S0,(I6 1),(I6 1000000)]⟩,⟨.push,19,(G0 3),.un .not S0⟩,PO 20 (.pick S4 C1 S0)] S0 (.seq (.region false [ VO 2 2 (.mov C0)]) (.ret)) (.skip)) (.seq (.region false [ PO 21 (F1 V1),PO 22 (L1 S0),PO 23 (F0 V1),PO 24 (.load false
 1 S0),PO 25 (B3 S2 S0),PO 26 (F2 V1),PO 27 (L1 S0),PO 28 (.bin false .quo S2 S0),PO 29 (B0 S0 (I6 1)),PO 30 (B5 S0 (I6 500)),VS 2 2 0]) (.ret))),[.t 2]⟩
def ALh:List (Nat×Ak):=[(73,ee)]
theorem xI:AP ALh 73=some ee:=rfl
def uP:Ak:=DN ALh cq [.bor]
theorem s_80:AQ Tryz.prog 179 uP:=AI _ rfl (AF s_0 AL) (by kernel_rfl:Ab Tryz.prog 179 cq ADD=true)
theorem M_80:uP.modes=[.bor]:=rfl
theorem AQW:uP.flat=true:=rfl
attribute [go_sem] M_80 AQW xI
theorem APQ{x:If}{y_:Bool}(h:Eu x=some y_):uP.F [LE x]=⟨true,.bool y_,[.any]⟩:=by
 refine Ah rfl ?_;dsimp only[Eu] at h;obtain⟨y_1,z1,h⟩:=AB h;have fz1:=VD z1;try simp only[go_sem] at fz1
 obtain⟨z2,h⟩:=AC h;rcases Ag z2 with⟨gz2,z2⟩|gz2
 ·try simp only[go_sem,N1] at gz2
  all_goals
  obtain⟨y_2,hz2⟩:=isX z2;have fz2:=VD hz2;try simp only[go_sem,N1,gz2] at hz2
  all_goals
  try simp only[go_sem,gz2] at fz2
  obtain⟨z3,h⟩:=AC h;rcases Ag z3 with⟨gz3,z3⟩|gz3
  ·try simp only[go_sem,N1, *] at gz3
   all_goals
   obtain⟨y_3,hz3⟩:=isX z3;have fz3:=VD hz3;try simp only[go_sem,N1, *] at hz3
   all_goals
   try simp only[go_sem, *] at fz3
   rcases AE h with⟨z4,h⟩|⟨z4,h⟩
   ·try simp only[go_sem,N1, *] at z4
    all_goals
    obtain rfl:=AA h;refine⟨0,fun L hL=>?_⟩;simp only[go_sem,cq, *]
   ·try simp only[go_sem,N1, *] at z4
    all_goals
    obtain⟨z5,h⟩:=AC h;try simp only[go_sem,N1, *] at z5
    all_goals
    obtain rfl:=AA h;refine⟨0,fun L hL=>?_⟩;simp only[go_sem,cq, *]
  ·have gz3n:=FO gz3;rcases bP gz3n with gz3na|⟨gz3na,gz3nb⟩
   ·try simp only[go_sem,N1, *] at gz3na
    all_goals
    (simp_all)
   ·have gz3nan:=FO gz3na;have gz3nbn:=Is gz3nb;try simp only[go_sem,N1, *] at gz3nan
    all_goals
    try simp only[go_sem,N1, *] at gz3nbn
    all_goals
    rcases AE h with⟨z4,h⟩|⟨z4,h⟩
    ·try simp only[go_sem,N1, *] at z4
     all_goals
     obtain rfl:=AA h;refine⟨0,fun L hL=>?_⟩;simp only[go_sem,cq, *]
    ·try simp only[go_sem,N1, *] at z4
     all_goals
     (simp_all)
 ·have gz2n:=FO gz2;have gz2nn:=Is gz2n;try simp only[go_sem,N1] at gz2nn
  all_goals
  obtain⟨z3,h⟩:=AC h;rcases AE h with⟨z4,h⟩|⟨z4,h⟩
  ·try simp only[go_sem,N1,gz2nn] at z4
   all_goals
   obtain rfl:=AA h;refine⟨0,fun L hL=>?_⟩;simp only[go_sem,cq, *]
  ·try simp only[go_sem,N1,gz2nn] at z4
   all_goals
   (simp_all)
def ADV:List Nat:=[0,1,2,4,6]
def ct:CN:=⟨3,5,.seq (.region false [ VO 3 4 (.box V1),VO 4 6 (.mov (I6 0))]) (.seq (.block 0 (.test false [ PM 8 0,PO 9 (.call 138 [S0]),PO 10 (.un .not S0),PO 11 (.mov S0),⟨.push,12,(G0 0),L3 V3⟩,⟨.push,13,(G0 1),.call 179 [S0]⟩,⟨.push,14,(G0 2),.un .not S0⟩,PO 15 (.pick S3 C1 S0),PO 7 (.mov S0)] S0 (.seq (.region false [ VO 4 6 (.mov (I6 1))]) (.ret)) (.test false [ PM 17 0,PO 18 (.len false S0),PO 19 (B4 S0 (I6 40)),PO 16
 (.mov S0)] S0 (.seq (.region false [ VO 4 6 (.mov (I6 5))]) (.ret)) (.test false [ PM 21 0,PO 22 (.len false S0),PM 23 2,PO 24 (B1 S1 S0),PO 20 (.mov S0)] S0 (.seq (.region false [ VO 4 6 (.mov (I6 3))]) (.ret)) (.skip))))) (.seq (.region false [ VO 4 6 (.mov (I6 0))]) (.ret))),[.t 4]⟩
def AGN:List (Nat×Ak):=[(138,bY),(179,uP)]
theorem rF:AP AGN 138=some bY:=rfl
theorem rE:AP AGN 179=some uP:=rfl
def uO:Ak:=DN AGN ct [.bor,.bor,.bor]
theorem s_81:AQ Tryz.prog 142 uO:=AI _ rfl (AF AGi (AF s_80 AL)) (by kernel_rfl:Ab Tryz.prog 142 ct ADV=true)
theorem M_81:uO.modes=[.bor,.bor,.bor]:=rfl
theorem AQV:uO.flat=true:=rfl
attribute [go_sem] M_81 AQV rF rE
theorem APP{curve:List Aa}{x:If}{least:Int}{y_:Int}(h:Im curve x least=some y_):uO.F [.sl 2 (List.map Aw curve),LE x,.int .i64 least]=⟨true,.int .i64 y_,[.any,.any,.any]⟩:=by
 refine Ah rfl ?_;dsimp only[Im] at h;obtain⟨y_1,z1,h⟩:=AB h;have fz1:=AAj z1;try simp only[go_sem] at fz1
 obtain⟨z2,h⟩:=AC h;rcases Ag z2 with⟨gz2,z2⟩|gz2
 ·try simp only[go_sem,N1] at gz2
  all_goals
  obtain⟨y_2,hz2⟩:=isX z2;have fz2:=APQ hz2;try simp only[go_sem,N1,gz2] at hz2
  all_goals
  try simp only[go_sem,gz2] at fz2
  rcases AE h with⟨z3,h⟩|⟨z3,h⟩
  ·try simp only[go_sem,N1, *] at z3
   all_goals
   obtain rfl:=AA h;refine⟨0,fun L hL=>?_⟩;simp only[go_sem,ct, *]
  ·try simp only[go_sem,N1, *] at z3
   all_goals
   rcases AE h with⟨z4,h⟩|⟨z4,h⟩
   ·try simp only[go_sem,N1, *] at z4
    all_goals
    obtain rfl:=AA h;refine⟨0,fun L hL=>?_⟩;simp only[go_sem,ct, *]
   ·try simp only[go_sem,N1, *] at z4
    all_goals
    rcases AE h with⟨z5,h⟩|⟨z5,h⟩
    all_goals
    try simp only[go_sem,N1, *] at z5
    all_goals
    obtain rfl:=AA h;refine⟨0,fun L hL=>?_⟩;simp only[go_sem,ct, *]
 ·have gz2n:=FO gz2;have gz2nn:=Is gz2n;try simp only[go_sem,N1] at gz2nn
  all_goals
  rcases AE h with⟨z3,h⟩|⟨z3,h⟩
  ·try simp only[go_sem,N1,gz2nn] at z3
   all_goals
   obtain rfl:=AA h;refine⟨0,fun L hL=>?_⟩;simp only[go_sem,ct, *]
  ·try simp only[go_sem,N1,gz2nn] at z3
   all_goals
   (simp_all)
def Zd:IR:=.seq (.test false [ PM 8 4,PO 9 (F1 V1),PO 10 (L1 S0),PO 11 (B5 S2 S0)] S0 (.skip) (.exit 0)) (.seq (.block 1 (.region false [ PM 16 3,PM 17 4,PO 18 (.mkSl 1 (.int .i64 (0)) 1 [(0,S0)]),PO 19 (.app 1 8 (.int .i64 (0)) S2 S0),VS 3 3 0])) (.region false [ PM 12 4,PO 13 (F2 V1),PO 14 (L1 S0),PO 15 (B0 S2 S0),VS 4 4 0]))
def SJ:List Bool:=[false,true,false,true,true]
def SI:List Bool:=[false,false,false,true,false]
def SH:List Bool:=[false,false,true,false,false]
def ADT:List Nat:=[0,1,2,3,4]
def pQ:CN:=⟨1,5,.seq (.region false [ VO 1 1 (.box V0),VO 2 2 (.newnil 1)]) (.seq (.region false [ PO 5 (.mkSl 1 (.int .i64 (0)) 0 []),VS 3 3 0]) (.seq (.seq (.region false [ PO 6 (F0 V1),PO 7 (L1 S0),VS 4 4 0]) (.block 0 (.loop SJ SI SH Zd))) (.seq (.region false [ PM 20 3,VS 2 2 0]) (.ret)))),[.t 2]⟩
def ALg:List (Nat×Ak):=[]
def uN:Ak:=DN ALg pQ [.bor]
theorem s_82:AQ Tryz.prog 144 uN:=AI _ rfl AL (by kernel_rfl:Ab Tryz.prog 144 pQ ADT=true)
theorem M_82:uN.modes=[.bor]:=rfl
theorem AQU:uN.flat=true:=rfl
attribute [go_sem] M_82 AQU
def YA(x:If):((List Int)×Int)->St
 | (out,p)=>⟨[.any,.ref 3200000 0 0,.any,.own 3200032,.int .i64 p],[],[(3200000,⟨3,[LE x]⟩),(3200032,⟨1,List.map (AV.int .i64) out⟩)],true⟩
def Xa(x:If)(y:(List Int)):Fw:=(.exit 0,⟨[.any,.any,.any,.own 3200000,.any],[],[(3200000,⟨1,List.map (AV.int .i64) y⟩)],true⟩)
attribute [local go_sem] pQ YA Xa Zd SJ SI SH in
theorem Lg{x:If}{sgm_:(List Int)×Int}{rho_:(List Int)}(h:AS (Cw x) sgm_=some rho_):∃ L0,∀ L,L0<=L->CV (Aq (AP ALg) L Zd) SJ SI SH L (YA x sgm_)=Xa x rho_:=by
 refine Ax (E:=YA x) (R:=Xa x) (fun y=>by first|(intro c;cases c)|(rcases y with y|y<;>(intro c;cases c))|(rcases y with y|y|y<;>(intro c;cases c))) ?_ h;clear h;rintro⟨out,p⟩ o_ h;dsimp only[Cw] at h;rcases AE h with⟨z1,h⟩|⟨z1,h⟩
 ·try simp only[go_sem,N1] at z1
  obtain⟨z2,h⟩:=AC h;try simp only[go_sem,N1,z1] at z2
  obtain rfl:=AA h;refine⟨0,fun L hL=>?_⟩;simp only[go_sem, *]
 ·try simp only[go_sem,N1] at z1
  obtain rfl:=AA h;refine⟨0,fun L hL=>?_⟩;simp only[go_sem,z1]
attribute [local go_sem] YA Xa SJ SI SH pQ in
theorem APO{x:If}{y_:(List Int)}(h:EW x=some y_):uN.F [LE x]=⟨true,.fresh 1 (List.map (AV.int .i64) y_),[.any]⟩:=by
 refine Ah (by simp only[Do,EN,Ej,List.all_cons,List.all_nil,Bool.and_self,Bk (f:=(AV.int .i64)) (fun _=>rfl)]) ?_;dsimp only[EW] at h;obtain⟨y_3,z3,h⟩:=AB h;obtain⟨Lz3,ez3⟩:=Lg z3;obtain rfl:=AA h;refine⟨Lz3,fun L hL=>?_⟩;have ez3:=ez3 L (by omega);try simp only[go_sem] at ez3
 simp only[go_sem,ez3]
def ACs:List Nat:=[0,2]
def yw:CN:=⟨1,2,.seq (.region false [ VO 1 2 (.mov C0)]) (.seq (.region false [ VO 1 2 (.mov C1)]) (.ret)),[.t 1]⟩
def t_83:List (Nat×Ak):=[]
def uM:Ak:=DN t_83 yw [.bor]
theorem s_83:AQ Tryz.prog 205 uM:=AI _ rfl AL (by kernel_rfl:Ab Tryz.prog 205 yw ACs=true)
theorem M_83:uM.modes=[.bor]:=rfl
theorem AQT:uM.flat=true:=rfl
attribute [go_sem] M_83 AQT
theorem APN{t0:Int}{y_:Bool}(h:In t0=some y_):uM.F [.int .i64 t0]=⟨true,.bool y_,[.any]⟩:=by
 refine Ah rfl ?_;dsimp only[In] at h;obtain rfl:=AA h;refine⟨0,fun L hL=>?_⟩;simp only[go_sem,yw]
def ZW:IR:=.seq (.region false [ VO 7 10 (B1 V6 V5)]) (.seq (.cond V7 (.skip) (.exit 0)) (.seq (.block 1 (.seq (.region false [ PM 11 6,VS 4 6 0]) (.test false [ PM 12 1,PM 13 4,PO 14 (.callv S1 [S0])] S0 (.region false [ PM 15 3,PM 16 4,PO 17 (.mkSl 1 (.int .i64 (0)) 1 [(0,S0)]),PO 18 (.app 1 8 (.int .i64 (0)) S2 S0),VS 3 5 0]) (.skip)))) (.region false [ PO 19 (B0 V6 (I6 1)),VS 6 9 0])))
def Rm:List Bool:=[false,true,false,true,false,true,true,false]
def Rl:List Bool:=[false,false,false,true,false,false,false,false]
def Rk:List Bool:=[false,false,true,false,false,false,false,false]
def ACt:List Nat:=[0,1,4,5,6,8,9,10]
def pH:CN:=⟨2,8,.seq (.region false [ VO 2 4 (.newnil 1)]) (.seq (.region false [ PO 7 (.mkSl 1 (.int .i64 (0)) 0 []),VS 3 5 0]) (.seq (.seq (.region false [ VO 5 8 (.mov V0),VO 6 9 (.mov (I6 0))]) (.block 0 (.loop Rm Rl Rk ZW))) (.seq (.region false [ PM 20 3,VS 2 4 0]) (.ret)))),[.t 2]⟩
def AGM:List (Nat×Ak):=[(205,uM)]
theorem rD:AP AGM 205=some uM:=rfl
def uL:Ak:=DN AGM pH [.bor,.bor]
theorem s_84:AQ Tryz.prog 204 uL:=AI _ rfl (AF s_83 AL) (by kernel_rfl:Ab Tryz.prog 204 pH ACt=true)
theorem M_84:uL.modes=[.bor,.bor]:=rfl
theorem AQS:uL.flat=true:=rfl
attribute [go_sem] M_84 AQS rD
def Xz(t8:Int):((List Int)×Int)->St
 | (out,t9)=>⟨[.any,.fn (.func 205) [] [],.any,.own 3200000,.any,.int .i64 t8,.int .i64 t9,.any],[],[(3200000,⟨1,List.map (AV.int .i64) out⟩)],true⟩
def XZ(t8:Int)(y:(List Int)):Fw:=(.exit 0,⟨[.any,.any,.any,.own 3200000,.any,.any,.any,.any],[],[(3200000,⟨1,List.map (AV.int .i64) y⟩)],true⟩)
attribute [local go_sem] pH Xz XZ ZW Rm Rl Rk in
theorem Hn{t8:Int}{sgm_:(List Int)×Int}{rho_:(List Int)}(h:AS (BM t8) sgm_=some rho_):∃ L0,∀ L,L0<=L->CV (Aq (AP AGM) L ZW) Rm Rl Rk L (Xz t8 sgm_)=XZ t8 rho_:=by
 refine Ax (E:=Xz t8) (R:=XZ t8) (fun y=>by first|(intro c;cases c)|(rcases y with y|y<;>(intro c;cases c))|(rcases y with y|y|y<;>(intro c;cases c))) ?_ h;clear h;rintro⟨out,t9⟩ o_ h;dsimp only[BM] at h;rcases AE h with⟨z1,h⟩|⟨z1,h⟩
 ·try simp only[go_sem,N1] at z1
  obtain⟨y_2,z2,h⟩:=AB h;have fz2:=APN z2;try simp only[go_sem,z1] at fz2
  rcases AE h with⟨z3,h⟩|⟨z3,h⟩
  ·try simp only[go_sem,N1,z1] at z3
   obtain⟨z4,h⟩:=AC h;try simp only[go_sem,N1, *] at z4
   obtain rfl:=AA h;refine⟨0,fun L hL=>?_⟩;simp only[go_sem, *]
  ·try simp only[go_sem,N1,z1] at z3
   obtain rfl:=AA h;refine⟨0,fun L hL=>?_⟩;simp only[go_sem, *]
 ·try simp only[go_sem,N1] at z1
  obtain rfl:=AA h;refine⟨0,fun L hL=>?_⟩;simp only[go_sem,z1]
attribute [local go_sem] Xz XZ Rm Rl Rk pH in
theorem APM{n:Int}{y_:(List Int)}(h:Bi n=some y_):uL.F [.int .i64 n,.fn (.func 205) [] []]=⟨true,.fresh 1 (List.map (AV.int .i64) y_),[.any,.any]⟩:=by
 refine Ah (by simp only[Do,EN,Ej,List.all_cons,List.all_nil,Bool.and_self,Bk (f:=(AV.int .i64)) (fun _=>rfl)]) ?_;dsimp only[Bi] at h;obtain⟨y_5,z5,h⟩:=AB h;obtain⟨Lz5,ez5⟩:=Hn z5;obtain rfl:=AA h;refine⟨Lz5,fun L hL=>?_⟩;have ez5:=ez5 L (by omega);try simp only[go_sem] at ez5
 simp only[go_sem,ez5]
def ACp:List Nat:=[0,1,4]
def yu:CN:=⟨2,3,.seq (.region false [ VO 2 4 (.mov (I6 0))]) (.seq (.region false [ PM 5 0,PM 6 0,PM 7 1,PO 8 (.call 202 [S1,S0]),PM 9 1,PO 10 (B8 S1 S0),PO 11 (B3 S5 S0),VS 2 4 0]) (.ret)),[.t 2]⟩
def ALf:List (Nat×Ak):=[(202,kW)]
theorem rC:AP ALf 202=some kW:=rfl
def uK:Ak:=DN ALf yu [.bor,.bor]
theorem s_85:AQ Tryz.prog 208 uK:=AI _ rfl (AF AMY AL) (by kernel_rfl:Ab Tryz.prog 208 yu ACp=true)
theorem M_85:uK.modes=[.bor,.bor]:=rfl
theorem AQR:uK.flat=true:=rfl
attribute [go_sem] M_85 AQR rC
theorem APL{a:Int}{b:Int}{y_:Int}(h:Of a b=some y_):uK.F [.int .i64 a,.int .i64 b]=⟨true,.int .i64 y_,[.any,.any]⟩:=by
 refine Ah rfl ?_;dsimp only[Of] at h;obtain⟨y_1,z1,h⟩:=AB h;have fz1:=AFq z1;try simp only[go_sem] at fz1
 obtain rfl:=AA h;refine⟨0,fun L hL=>?_⟩;simp only[go_sem,yu,fz1]
def ACy:List Nat:=[0,1,2,4]
def yz:CN:=⟨2,4,.seq (.region false [ VO 2 2 (.box V0),VO 3 4 (.mov (I6 0))]) (.seq (.region false [ PM 5 1,PO 6 (F0 V2),PO 7 (L1 S0),PO 8 (B3 S2 S0),PO 9 (F1 V2),PO 10 (L1 S0),PO 11 (.call 208 [S2,S0]),VS 3 4 0]) (.ret)),[.t 3]⟩
def ALe:List (Nat×Ak):=[(208,uK)]
theorem rB:AP ALe 208=some uK:=rfl
def uJ:Ak:=DN ALe yz [.bor,.bor]
theorem s_86:AQ Tryz.prog 184 uJ:=AI _ rfl (AF s_85 AL) (by kernel_rfl:Ab Tryz.prog 184 yz ACy=true)
theorem M_86:uJ.modes=[.bor,.bor]:=rfl
theorem AQQ:uJ.flat=true:=rfl
attribute [go_sem] M_86 AQQ rB
theorem APK{e_:AX}{time:Int}{y_:Int}(h:Fp e_ time=some y_):uJ.F [Am e_,.int .i64 time]=⟨true,.int .i64 y_,[.any,.any]⟩:=by
 refine Ah rfl ?_;dsimp only[Fp] at h;obtain⟨y_1,z1,h⟩:=AB h;have fz1:=APL z1;try simp only[go_sem] at fz1
 obtain rfl:=AA h;refine⟨0,fun L hL=>?_⟩;simp only[go_sem,yz,fz1]
def ACz:List Nat:=[0,1,2,4]
def zA:CN:=⟨3,4,.seq (.region false [ VO 3 4 (.mov (I6 0))]) (.seq (.anyo 7 [ SO 0 5 (.load true 2 V1),SO 1 6 (L1 V2),SO 2 7 (.mov V0),SO 3 8 (.ixAddr 2 S1 S2),SO 4 9 (F0 S3),SO 5 10 (L1 S4),SO 6 11 (.callp 184 [S0,S5]),VS 3 4 6] [] .skip) (.ret)),[.t 3]⟩
def ALd:List (Nat×Ak):=[(184,uJ)]
theorem rA:AP ALd 184=some uJ:=rfl
def uI:Ak:=DN ALd zA [.bor,.bor,.bor]
theorem s_87:AQ Tryz.prog 183 uI:=AI _ rfl (AF s_86 AL) (by kernel_rfl:Ab Tryz.prog 183 zA ACz=true)
theorem M_87:uI.modes=[.bor,.bor,.bor]:=rfl
theorem AQP:uI.flat=true:=rfl
attribute [go_sem] M_87 AQP rA
theorem AFp{i:Int}{t1:AX}{t2:List Aa}{y_:Int}(h:EK i t1 t2=some y_):uI.F [.int .i64 i,.ptr 2 [Am t1] 0 0,.ptr 1 [.sl 2 (List.map Aw t2)] 0 0]=⟨true,.int .i64 y_,[.any,.any,.any]⟩:=by
 refine Ah rfl ?_;dsimp only[EK] at h;obtain⟨z1,h⟩:=AC h;have lz1:=Az z1;try simp only[go_sem] at lz1
 try simp only[go_sem,N1] at z1
 obtain⟨y_2,z2,h⟩:=AB h;have fz2:=APK z2;try simp only[go_sem,z1] at fz2
 obtain rfl:=AA h;refine⟨0,fun L hL=>?_⟩;simp only[go_sem,zA, *]
def ACq:List Nat:=[0,1,2,5,6,7]
def pG:CN:=⟨3,6,.seq (.region false [ VO 3 5 (.mov (I6 0))]) (.seq (.seq (.anyo 6 [ SO 0 8 (L1 V2),SO 1 9 (.mov V0),SO 2 10 (.pur (.callv S0 [S1])),SO 3 11 (L1 V2),SO 4 12 (.mov V1),SO 5 13 (.pur (.callv S3 [S4])),VS 4 6 2,VS 5 7 5] [] .skip) (.test false [ PM 14 4,PM 15 5,PO 16 (B7 S1 S0)] S0 (.seq (.test false [ PM 17 4,PM 18 5,PO 19 (B1 S1 S0)] S0 (.seq (.region false [ VO 3 5 (.mov (.c (.int .i64 (-1))))]) (.ret)) (.skip)) (.seq (.region false [ VO 3 5 (.mov (I6 1))])
 (.ret))) (.skip))) (.seq (.region false [ VO 3 5 (.mov (I6 0))]) (.ret))),[.t 3]⟩
def ALc:List (Nat×Ak):=[(183,uI)]
theorem qz:AP ALc 183=some uI:=rfl
def gX:Ak:=DN ALc pG [.bor,.bor,.bor]
theorem AMX:AQ Tryz.prog 207 gX:=AI _ rfl (AF s_87 AL) (by kernel_rfl:Ab Tryz.prog 207 pG ACq=true)
theorem M_88:gX.modes=[.bor,.bor,.bor]:=rfl
theorem AQO:gX.flat=true:=rfl
attribute [go_sem] M_88 AQO qz
theorem kw{a:Int}{b:Int}{t2_0:AX}{t2_1:List Aa}{y_:Int}(h:Cr a b t2_0 t2_1=some y_):gX.F [.int .i64 a,.int .i64 b,.ptr 1 [.fn (.func 183) [] [.ptr 2 [Am t2_0] 0 0,.ptr 1 [.sl 2 (List.map Aw t2_1)] 0 0]] 0 0]=⟨true,.int .i64 y_,[.any,.any,.any]⟩:=by
 refine Ah rfl ?_;dsimp only[Cr] at h;obtain⟨y_1,z1,h⟩:=AB h;have fz1:=AFp z1;try simp only[go_sem] at fz1
 obtain⟨y_2,z2,h⟩:=AB h;have fz2:=AFp z2;try simp only[go_sem] at fz2
 rcases AE h with⟨z3,h⟩|⟨z3,h⟩
 ·try simp only[go_sem,N1] at z3
  rcases AE h with⟨z4,h⟩|⟨z4,h⟩
  all_goals
  try simp only[go_sem,N1,z3] at z4
  obtain rfl:=AA h;refine⟨0,fun L hL=>?_⟩;simp only[go_sem,pG, *]
 ·try simp only[go_sem,N1] at z3
  obtain rfl:=AA h;refine⟨0,fun L hL=>?_⟩;simp only[go_sem,pG, *]
def ZR:IR:=.seq (.anyo 17 [ SO 0 18 (.mov V5),SO 1 19 (.mov V1),SO 2 20 (B4 S0 S1),SO 3 21 (.mov S2),⟨.slot 4,22,(G1 3),.mov V3⟩,⟨.slot 5,23,(G1 3),.mov V0⟩,⟨.slot 6,24,(G1 3),.mov V5⟩,⟨.slot 7,25,(G1 3),.ixAddr 1 S5 S6⟩,⟨.slot 8,26,(G1 3),L1 S7⟩,⟨.slot 9,27,(G1 3),.mov V0⟩,⟨.slot 10,28,(G1 3),.mov V5⟩,⟨.slot 11,29,(G1 3),B3 (.s 10) (I6 1)⟩,
 ⟨.slot 12,30,(G1 3),.ixAddr 1 S9 (.s 11)⟩,⟨.slot 13,31,(G1 3),L1 (.s 12)⟩,⟨.slot 14,32,(G1 3),.callv S4 [S8,(.s 13)]⟩,⟨.slot 15,33,(G1 3),B1 (.s 14) (I6 0)⟩,SO 16 34 (.pick S3 (.s 15) C0)] [] (.cond (.s 16) (.skip) (.exit 2))) (.seq (.block 3 (.anyo 16 [ SO 0 37 (.mov V0),SO 1 38 (.flat (.mov V5)),SO 2 39 (.mov V0),SO 3 40 (.flat (.mov V5)),SO 4 41 (.flat (B3 S3 (I6 1))),SO 5 42 (.mov V0),SO 6 43 (.flat (.mov V5)),
 SO 7 44 (.flat (B3 S6 (I6 1))),SO 8 45 (.ixAddr 1 S5 S7),SO 9 46 (L1 S8),SO 10 47 (.mov V0),SO 11 48 (.flat (.mov V5)),SO 12 49 (.ixAddr 1 (.s 10) (.s 11)),SO 13 50 (L1 (.s 12)),SO 14 51 (.ixAddr 1 S0 S1),⟨.no,0,none,.store 1 (.s 14) S9⟩,SO 15 52 (.ixAddr 1 S2 S4),⟨.no,0,none,.store 1 (.s 15) (.s 13)⟩] [[0,1,3,4,5,6,7,8,9,10,11,12,13,14,2,15,16,17],[0,1,3,4,5,6,7,8,9,10,11,12,13,14,15,2,16,17]] .skip)) (.region false [ PM 35 5,PO 36 (B3 S0 (I6 1)),
 VS 5 9 0]))
def OW:List Bool:=[true,true,true,true,true,true]
def OU:List Bool:=[true,true,true,true,true,false]
def OT:List Bool:=[true,false,false,false,false,false]
def ZS:IR:=.seq (.test false [ PM 12 4,PM 13 2,PO 14 (B1 S1 S0)] S0 (.skip) (.exit 0)) (.seq (.block 1 (.seq (.region false [ PM 17 4,VS 5 9 0]) (.block 2 (.loop OW OU OT ZR)))) (.region false [ PM 15 4,PO 16 (B0 S0 (I6 1)),VS 4 8 0]))
def Rg:List Bool:=[true,true,true,true,true,false]
def Rf:List Bool:=[true,false,false,false,false,false]
def Re:List Bool:=[true,false,false,false,false,false]
def ACn:List Nat:=[0,1,2,3,8,9]
def jX:CN:=⟨4,6,.seq (.region false [ PM 10 1,PO 11 (B0 S0 (I6 1)),VS 4 8 0]) (.block 0 (.loop Rg Rf Re ZS)),[]⟩
def ABP:List (Nat×Ak):=[(207,gX)]
theorem qy:AP ABP 207=some gX:=rfl
def uH:Ak:=bH ABP jX [.io,.bor,.bor,.bor]
theorem s_89:AQ Tryz.prog 217 uH:=DH _ (AF AMX AL) (by kernel_rfl:Ab Tryz.prog 217 jX ACn=true)
theorem M_89:uH.modes=[.io,.bor,.bor,.bor]:=rfl
theorem AQN:uH.flat=false:=rfl
attribute [go_sem] M_89 AQN qy
def Tk(a:Int)(b:Int)(c:AX)(c2:List Aa)(i:Int):((List Int)×Int)->St
 | (data,j)=>⟨[.own 31,.int .i64 a,.int .i64 b,.fn (.func 207) [] [.ptr 1 [.fn (.func 183) [] [.ptr 2 [Am c] 0 0,.ptr 1 [.sl 2 (List.map Aw c2)] 0 0]] 0 0],.int .i64 i,.int .i64 j],[],[(31,⟨1,List.map (AV.int .i64) data⟩)],true⟩
def TM(a:Int)(b:Int)(c:AX)(c2:List Aa)(i:Int)(y:(List Int)):Fw:=(.exit 2,⟨[.own 31,.int .i64 a,.int .i64 b,.fn (.func 207) [] [.ptr 1 [.fn (.func 183) [] [.ptr 2 [Am c] 0 0,.ptr 1 [.sl 2 (List.map Aw c2)] 0 0]] 0 0],.int .i64 i,.any],[],[(31,⟨1,List.map (AV.int .i64) y⟩)],true⟩)
attribute [local go_sem] jX Tk TM ZR OW OU OT in
theorem EE{a:Int}{b:Int}{c:AX}{c2:List Aa}{i:Int}{sgm_:(List Int)×Int}{rho_:(List Int)}(h:AS (Ai a b c c2 i) sgm_=some rho_):∃ L0,∀ L,L0<=L->CV (Aq (AP ABP) L ZR) OW OU OT L (Tk a b c c2 i sgm_)=TM a b c c2 i rho_:=by
 refine Ax (E:=Tk a b c c2 i) (R:=TM a b c c2 i) (fun y=>by first|(intro c;cases c)|(rcases y with y|y<;>(intro c;cases c))|(rcases y with y|y|y<;>(intro c;cases c))) ?_ h;clear h;rintro⟨data,j⟩ o_ h;dsimp only[Ai] at h;obtain⟨z2,h⟩:=AC h;rcases Ag z2 with⟨gz2,z2⟩|gz2
 ·try simp only[go_sem,N1] at gz2
  all_goals
  have lz2:=Az z2;try simp only[go_sem] at lz2
  try simp only[go_sem,N1,gz2] at z2
  all_goals
  obtain⟨z3,h⟩:=AC h;rcases Ag z3 with⟨gz3,z3⟩|gz3
  ·try simp only[go_sem,N1, *] at gz3
   all_goals
   have lz3:=Az z3;try simp only[go_sem] at lz3
   try simp only[go_sem,N1, *] at z3
   all_goals
   obtain⟨z4,h⟩:=AC h;rcases Ag z4 with⟨gz4,z4⟩|gz4
   ·try simp only[go_sem,N1, *] at gz4
    all_goals
    obtain⟨y_4,hz4⟩:=isX z4;have fz4:=kw hz4;try simp only[go_sem,N1, *] at hz4
    all_goals
    try simp only[go_sem, *] at fz4
    rcases AE h with⟨z5,h⟩|⟨z5,h⟩
    ·try simp only[go_sem,N1, *] at z5
     all_goals
     obtain⟨z6,h⟩:=AC h;have lz6:=Az z6;try simp only[go_sem] at lz6
     try simp only[go_sem,N1, *] at z6
     all_goals
     obtain⟨z7,h⟩:=AC h;have lz7:=Az z7;try simp only[go_sem] at lz7
     try simp only[go_sem,N1, *] at z7
     all_goals
     have xz8:=(by rw[← List.map_set];exact Mw (AV.int .i64) (data.set j.toNat (data.getD (i64.wrap (j-1)).toNat default)) (by first|(rw[List.length_set];exact lz6)|(simp;omega)):((List.map (AV.int .i64) data).set j.toNat ((AV.int .i64) (data.getD (i64.wrap (j-1)).toNat default))).getD ((i64.wrap (j-1)).toNat) .any=(AV.int .i64) ((data.set j.toNat (data.getD (i64.wrap (j-1)).toNat default)).getD ((i64.wrap (j-1)).toNat) default));obtain rfl:=AA h;refine⟨0,fun L hL=>?_⟩;simp only[go_sem, *]
    ·try simp only[go_sem,N1, *] at z5
     all_goals
     obtain rfl:=AA h;refine⟨0,fun L hL=>?_⟩;simp only[go_sem, *]
   ·try simp only[go_sem,N1, *] at gz4
    all_goals
    rcases AE h with⟨z5,h⟩|⟨z5,h⟩
    ·try simp only[go_sem,N1, *] at z5
     all_goals
     (simp_all)
    ·try simp only[go_sem,N1, *] at z5
     all_goals
     obtain rfl:=AA h;refine⟨0,fun L hL=>?_⟩;simp only[go_sem, *]
  ·try simp only[go_sem,N1, *] at gz3
   all_goals
   obtain⟨z4,h⟩:=AC h;rcases AE h with⟨z5,h⟩|⟨z5,h⟩
   ·try simp only[go_sem,N1, *] at z5
    all_goals
    (simp_all)
   ·try simp only[go_sem,N1, *] at z5
    all_goals
    obtain rfl:=AA h;refine⟨0,fun L hL=>?_⟩;simp only[go_sem, *]
 ·try simp only[go_sem,N1] at gz2
  all_goals
  obtain⟨z3,h⟩:=AC h;obtain⟨z4,h⟩:=AC h;rcases AE h with⟨z5,h⟩|⟨z5,h⟩
  ·try simp only[go_sem,N1,gz2] at z5
   all_goals
   (simp_all)
  ·try simp only[go_sem,N1,gz2] at z5
   all_goals
   obtain rfl:=AA h;refine⟨0,fun L hL=>?_⟩;simp only[go_sem, *]
def Xy(a:Int)(b:Int)(c:AX)(c2:List Aa):((List Int)×Int)->St
 | (data,i)=>⟨[.own 31,.int .i64 a,.int .i64 b,.fn (.func 207) [] [.ptr 1 [.fn (.func 183) [] [.ptr 2 [Am c] 0 0,.ptr 1 [.sl 2 (List.map Aw c2)] 0 0]] 0 0],.int .i64 i,.any],[],[(31,⟨1,List.map (AV.int .i64) data⟩)],true⟩
def XY(a:Int)(b:Int)(c:AX)(c2:List Aa)(y:(List Int)):Fw:=(.exit 0,⟨[.own 31,.any,.any,.any,.any,.any],[],[(31,⟨1,List.map (AV.int .i64) y⟩)],true⟩)
attribute [local go_sem] Xy XY ZS Rg Rf Re Tk TM OW OU OT jX in
theorem EF{a:Int}{b:Int}{c:AX}{c2:List Aa}{sgm_:(List Int)×Int}{rho_:(List Int)}(h:AS (Aj a b c c2) sgm_=some rho_):∃ L0,∀ L,L0<=L->CV (Aq (AP ABP) L ZS) Rg Rf Re L (Xy a b c c2 sgm_)=XY a b c c2 rho_:=by
 refine Ax (E:=Xy a b c c2) (R:=XY a b c c2) (fun y=>by first|(intro c;cases c)|(rcases y with y|y<;>(intro c;cases c))|(rcases y with y|y|y<;>(intro c;cases c))) ?_ h;clear h;rintro⟨data,i⟩ o_ h;dsimp only[Aj] at h;rcases AE h with⟨z1,h⟩|⟨z1,h⟩
 ·try simp only[go_sem,N1] at z1
  obtain⟨y_9,z9,h⟩:=AB h;obtain⟨Lz9,ez9⟩:=EE z9;obtain rfl:=AA h;refine⟨Lz9,fun L hL=>?_⟩;have ez9:=ez9 L (by omega);try simp only[go_sem,z1] at ez9
  simp only[go_sem, *]
 ·try simp only[go_sem,N1] at z1
  obtain rfl:=AA h;refine⟨0,fun L hL=>?_⟩;simp only[go_sem,z1]
attribute [local go_sem] Tk TM OW OU OT Xy XY Rg Rf Re jX in
theorem AFo{data:List Int}{a:Int}{b:Int}{cmp_c0_f_0:AX}{cmp_c0_f_1:List Aa}{y_:(List Int)}(h:Al data a b cmp_c0_f_0 cmp_c0_f_1=some y_):uH.F [.fresh 1 (List.map (AV.int .i64) data),.int .i64 a,.int .i64 b,.fn (.func 207) [] [.ptr 1 [.fn (.func 183) [] [.ptr 2 [Am cmp_c0_f_0] 0 0,.ptr 1 [.sl 2 (List.map Aw cmp_c0_f_1)] 0 0]] 0 0]]=⟨true,.cv undef,[.fresh 1 (List.map (AV.int .i64) y_),.any,.any,.any]⟩:=by
 refine Jn ?_;dsimp only[Al] at h;obtain⟨y_10,z10,h⟩:=AB h;obtain⟨Lz10,ez10⟩:=EF z10;obtain⟨z11,h⟩:=AC h;try simp only[go_sem,N1] at z11
 obtain rfl:=AA h;refine⟨Lz10,fun L hL=>?_⟩;have ez10:=ez10 L (by omega);try simp only[go_sem,z11] at ez10
 simp only[go_sem, *]
def ZL:IR:=.seq (.test false [ PM 11 5,PM 12 3,PO 13 (B1 S1 S0)] S0 (.skip) (.exit 0)) (.seq (.block 1 (.anyo 22 [ SO 0 16 (.mov V0),SO 1 17 (.flat (.mov V1)),SO 2 18 (.flat (.mov V5)),SO 3 19 (.flat (B0 S1 S2)),SO 4 20 (.mov V0),SO 5 21 (.flat (.mov V2)),SO 6 22 (.flat (.mov V5)),SO 7 23 (.flat (B0 S5 S6)),SO 8 24 (.mov V0),SO 9 25 (.flat (.mov V2)),SO 10 26 (.flat (.mov V5)),SO 11 27 (.flat (B0 S9 (.s 10))),SO 12 28 (.ixAddr 1 S8 (.s 11)),SO 13
 29 (L1 (.s 12)),SO 14 30 (.mov V0),SO 15 31 (.flat (.mov V1)),SO 16 32 (.flat (.mov V5)),SO 17 33 (.flat (B0 (.s 15) (.s 16))),SO 18 34 (.ixAddr 1 (.s 14) (.s 17)),SO 19 35 (L1 (.s 18)),SO 20 36 (.ixAddr 1 S0 S3),⟨.no,0,none,.store 1 (.s 20) (.s 13)⟩,SO 21 37 (.ixAddr 1 S4 S7),⟨.no,0,none,.store 1 (.s 21) (.s 19)⟩] [[0,1,2,3,5,6,7,8,9,10,11,12,13,14,15,16,17,18,19,20,4,21,22,23],[0,1,2,3,5,6,7,8,9,10,11,12,13,14,15,16,17,18,19,20,21,4,22,23]] .skip)) (.region false [ PM
 14 5,PO 15 (B0 S0 (I6 1)),VS 5 10 0]))
def Ra:List Bool:=[true,true,true,true,false,true]
def RZ:List Bool:=[true,false,false,false,false,false]
def RY:List Bool:=[true,false,false,false,false,false]
def ACk:List Nat:=[0,1,2,3,4,10]
def pE:CN:=⟨5,6,.seq (.region false [ VO 5 10 (.mov (I6 0))]) (.block 0 (.loop Ra RZ RY ZL)),[]⟩
def ALb:List (Nat×Ak):=[]
def uG:Ak:=bH ALb pE [.io,.bor,.bor,.bor,.bor]
theorem s_90:AQ Tryz.prog 220 uG:=DH _ AL (by kernel_rfl:Ab Tryz.prog 220 pE ACk=true)
theorem M_90:uG.modes=[.io,.bor,.bor,.bor,.bor]:=rfl
theorem AQM:uG.flat=false:=rfl
attribute [go_sem] M_90 AQM
def Xx(a:Int)(b:Int)(n:Int):((List Int)×Int)->St
 | (data,i)=>⟨[.own 31,.int .i64 a,.int .i64 b,.int .i64 n,.any,.int .i64 i],[],[(31,⟨1,List.map (AV.int .i64) data⟩)],true⟩
def XX(a:Int)(b:Int)(n:Int)(y:(List Int)):Fw:=(.exit 0,⟨[.own 31,.any,.any,.any,.any,.any],[],[(31,⟨1,List.map (AV.int .i64) y⟩)],true⟩)
attribute [local go_sem] pE Xx XX ZL Ra RZ RY in
theorem Eb{a:Int}{b:Int}{n:Int}{sgm_:(List Int)×Int}{rho_:(List Int)}(h:AS (Bl a b n) sgm_=some rho_):∃ L0,∀ L,L0<=L->CV (Aq (AP ALb) L ZL) Ra RZ RY L (Xx a b n sgm_)=XX a b n rho_:=by
 refine Ax (E:=Xx a b n) (R:=XX a b n) (fun y=>by first|(intro c;cases c)|(rcases y with y|y<;>(intro c;cases c))|(rcases y with y|y|y<;>(intro c;cases c))) ?_ h;clear h;rintro⟨data,i⟩ o_ h;dsimp only[Bl] at h;rcases AE h with⟨z1,h⟩|⟨z1,h⟩
 ·try simp only[go_sem,N1] at z1
  obtain⟨z2,h⟩:=AC h;have lz2:=Az z2;try simp only[go_sem] at lz2
  try simp only[go_sem,N1,z1] at z2
  obtain⟨z3,h⟩:=AC h;have lz3:=Az z3;try simp only[go_sem] at lz3
  try simp only[go_sem,N1, *] at z3
  have xz4:=(by rw[← List.map_set];exact Mw (AV.int .i64) (data.set ((i64.wrap (a+i)).toNat) (data.getD (i64.wrap (b+i)).toNat default)) (by first|(rw[List.length_set];exact lz2)|(simp;omega)):((List.map (AV.int .i64) data).set ((i64.wrap (a+i)).toNat) ((AV.int .i64) (data.getD (i64.wrap (b+i)).toNat default))).getD ((i64.wrap (b+i)).toNat) .any=(AV.int .i64) ((data.set ((i64.wrap (a+i)).toNat) (data.getD (i64.wrap (b+i)).toNat default)).getD ((i64.wrap (b+i)).toNat) default));obtain rfl:=AA h;refine⟨0,fun L hL=>?_⟩;simp only[go_sem, *]
 ·try simp only[go_sem,N1] at z1
  obtain rfl:=AA h;refine⟨0,fun L hL=>?_⟩;simp only[go_sem,z1]
attribute [local go_sem] Xx XX Ra RZ RY pE in
theorem AAi{data:List Int}{a:Int}{b:Int}{n:Int}{cmp_c0_f_0:AX}{cmp_c0_f_1:List Aa}{y_:(List Int)}(h:BH data a b n cmp_c0_f_0 cmp_c0_f_1=some y_):uG.F [.fresh 1 (List.map (AV.int .i64) data),.int .i64 a,.int .i64 b,.int .i64 n,.fn (.func 207) [] [.ptr 1 [.fn (.func 183) [] [.ptr 2 [Am cmp_c0_f_0] 0 0,.ptr 1 [.sl 2 (List.map Aw cmp_c0_f_1)] 0 0]] 0 0]]=⟨true,.cv undef,[.fresh 1 (List.map (AV.int .i64) y_),.any,.any,.any,.any]⟩:=by
 refine Jn ?_;dsimp only[BH] at h;obtain⟨y_5,z5,h⟩:=AB h;obtain⟨Lz5,ez5⟩:=Eb z5;obtain⟨z6,h⟩:=AC h;try simp only[go_sem,N1] at z6
 obtain rfl:=AA h;refine⟨Lz5,fun L hL=>?_⟩;have ez5:=ez5 L (by omega);try simp only[go_sem,z6] at ez5
 simp only[go_sem, *]
def ZM:IR:=.seq (.test false [ PM 18 5,PM 19 6,PO 20 (B7 S1 S0)] S0 (.skip) (.exit 0)) (.block 1 (.test false [ PM 21 5,PM 22 6,PO 23 (B4 S1 S0)] S0 (.seq (.region false [ PM 24 0,PM 25 2,PM 26 5,PO 27 (B3 S1 S0),PM 28 2,PM 29 6,PM 30 4,PO 31 (.call 220 [S6,S3,S2,S1,S0])]) (.region false [ PM 32 5,PM 33 6,PO 34 (B3 S1 S0),VS 5 10 0])) (.seq (.region false [ PM 35 0,PM 36 2,PM 37 5,PO 38 (B3 S1 S0),PM 39 2,PM 40 6,PO 41 (.bin false
 .add S1 S0),PM 42 5,PO 43 (B3 S1 S0),PM 44 5,PM 45 4,PO 46 (.call 220 [(.s 10),S7,S2,S1,S0])]) (.region false [ PM 47 6,PM 48 5,PO 49 (B3 S1 S0),VS 6 11 0]))))
def Rd:List Bool:=[true,false,true,false,true,true,true]
def Rc:List Bool:=[true,false,true,false,true,true,false]
def Rb:List Bool:=[true,false,false,false,false,false,false]
def ACl:List Nat:=[0,1,2,3,4,10,11]
def pF:CN:=⟨5,7,.seq (.region false [ PM 12 2,PM 13 1,PO 14 (B3 S1 S0),VS 5 10 0]) (.seq (.region false [ PM 15 3,PM 16 2,PO 17 (B3 S1 S0),VS 6 11 0]) (.seq (.block 0 (.loop Rd Rc Rb ZM)) (.region false [ PM 50 0,PM 51 2,PM 52 5,PO 53 (B3 S1 S0),PM 54 2,PM 55 5,PM 56 4,PO 57 (.call 220 [S6,S3,S2,S1,S0])]))),[]⟩
def AGL:List (Nat×Ak):=[(220,uG)]
theorem qw:AP AGL 220=some uG:=rfl
def ng:Ak:=bH AGL pF [.io,.bor,.bor,.bor,.bor]
theorem s_91:AQ Tryz.prog 219 ng:=DH _ (AF s_90 AL) (by kernel_rfl:Ab Tryz.prog 219 pF ACl=true)
theorem M_91:ng.modes=[.io,.bor,.bor,.bor,.bor]:=rfl
theorem AQL:ng.flat=false:=rfl
attribute [go_sem] M_91 AQL qw
def Xw(m:Int)(c:AX)(c2:List Aa):((List Int)×Int×Int)->St
 | (data,i,j)=>⟨[.own 31,.any,.int .i64 m,.any,.fn (.func 207) [] [.ptr 1 [.fn (.func 183) [] [.ptr 2 [Am c] 0 0,.ptr 1 [.sl 2 (List.map Aw c2)] 0 0]] 0 0],.int .i64 i,.int .i64 j],[],[(31,⟨1,List.map (AV.int .i64) data⟩)],true⟩
def XW(m:Int)(c:AX)(c2:List Aa)(y:(List Int)×Int):Fw:=(.exit 0,⟨[.own 31,.any,.int .i64 m,.any,.fn (.func 207) [] [.ptr 1 [.fn (.func 183) [] [.ptr 2 [Am c] 0 0,.ptr 1 [.sl 2 (List.map Aw c2)] 0 0]] 0 0],.int .i64 y.2,.any],[],[(31,⟨1,List.map (AV.int .i64) y.1⟩)],true⟩)
attribute [local go_sem] pF Xw XW ZM Rd Rc Rb in
theorem FI{m:Int}{c:AX}{c2:List Aa}{sgm_:(List Int)×Int×Int}{rho_:(List Int)×Int}(h:AS (CB m c c2) sgm_=some rho_):∃ L0,∀ L,L0<=L->CV (Aq (AP AGL) L ZM) Rd Rc Rb L (Xw m c c2 sgm_)=XW m c c2 rho_:=by
 refine Ax (E:=Xw m c c2) (R:=XW m c c2) (fun y=>by first|(intro c;cases c)|(rcases y with y|y<;>(intro c;cases c))|(rcases y with y|y|y<;>(intro c;cases c))) ?_ h;clear h;rintro⟨data,i,j⟩ o_ h;dsimp only[CB] at h;rcases AE h with⟨z1,h⟩|⟨z1,h⟩
 ·try simp only[go_sem,N1] at z1
  rcases AE h with⟨z2,h⟩|⟨z2,h⟩
  ·try simp only[go_sem,N1,z1] at z2
   obtain⟨y_3,z3,h⟩:=AB h;have fz3:=AAi z3;try simp only[go_sem, *] at fz3
   obtain rfl:=AA h;refine⟨0,fun L hL=>?_⟩;simp only[go_sem, *]
  ·try simp only[go_sem,N1,z1] at z2
   obtain⟨y_4,z4,h⟩:=AB h;have fz4:=AAi z4;try simp only[go_sem, *] at fz4
   obtain rfl:=AA h;refine⟨0,fun L hL=>?_⟩;simp only[go_sem, *]
 ·try simp only[go_sem,N1] at z1
  obtain rfl:=AA h;refine⟨0,fun L hL=>?_⟩;simp only[go_sem,z1]
attribute [local go_sem] Xw XW Rd Rc Rb pF in
theorem AFm{data:List Int}{a:Int}{m:Int}{b:Int}{cmp_c0_f_0:AX}{cmp_c0_f_1:List Aa}{y_:(List Int)}(h:Bf data a m b cmp_c0_f_0 cmp_c0_f_1=some y_):ng.F [.fresh 1 (List.map (AV.int .i64) data),.int .i64 a,.int .i64 m,.int .i64 b,.fn (.func 207) [] [.ptr 1 [.fn (.func 183) [] [.ptr 2 [Am cmp_c0_f_0] 0 0,.ptr 1 [.sl 2 (List.map Aw cmp_c0_f_1)] 0 0]] 0 0]]=⟨true,.cv undef,[.fresh 1 (List.map (AV.int .i64) y_),.any,.any,.any,.any]⟩:=by
 refine Jn ?_;dsimp only[Bf] at h;obtain⟨y_5,z5,h⟩:=AB h;obtain⟨Lz5,ez5⟩:=FI z5;obtain⟨y_6,z6,h⟩:=AB h;have fz6:=AAi z6;try simp only[go_sem] at fz6
 obtain⟨z7,h⟩:=AC h;try simp only[go_sem,N1] at z7
 obtain rfl:=AA h;refine⟨Lz5,fun L hL=>?_⟩;have ez5:=ez5 L (by omega);try simp only[go_sem,z7] at ez5
 simp only[go_sem, *]
def ZQ:IR:=.seq (.test false [ PM 31 5,PM 32 6,PO 33 (B1 S1 S0)] S0 (.skip) (.exit 0)) (.block 1 (.seq (.region false [ PM 34 5,PM 35 6,PO 36 (B0 S1 S0),PO 37 (.conv .u64 S0),PO 38 (.bin false .shr S0 (.c (.int .u64 (1)))),PO 39 (.conv .i64 S0),VS 7 12 0]) (.anyo 11 [ SO 0 40 (.mov V4),SO 1 41 (.mov V0),SO 2 42 (.mov V7),SO 3 43 (.ixAddr 1 S1 S2),SO 4 44 (L1 S3),SO 5 45 (.mov V0),SO 6 46 (.mov V1),SO 7 47 (.ixAddr 1 S5 S6),SO 8 48 (L1 S7),SO 9 49
 (.pur (.callv S0 [S4,S8])),SO 10 50 (B1 S9 (I6 0))] [] (.cond (.s 10) (.region false [ PM 51 7,PO 52 (B0 S0 (I6 1)),VS 5 10 0]) (.region false [ PM 53 7,VS 6 11 0])))))
def Jb:List Bool:=[true,true,false,false,true,true,true,false,false,false,false,false,false,false,false,false,false,false,false,false]
def Ja:List Bool:=[true,true,false,false,false,true,false,false,false,false,false,false,false,false,false,false,false,false,false,false]
def JZ:List Bool:=[true,false,false,false,false,false,false,false,false,false,false,false,false,false,false,false,false,false,false,false]
def ZP:IR:=.seq (.test false [ PM 55 8,PM 56 5,PO 57 (B3 S0 (I6 1)),PO 58 (B1 S2 S0)] S0 (.skip) (.exit 2)) (.seq (.block 3 (.anyo 16 [ SO 0 61 (.mov V0),SO 1 62 (.flat (.mov V8)),SO 2 63 (.mov V0),SO 3 64 (.flat (.mov V8)),SO 4 65 (.flat (B0 S3 (I6 1))),SO 5 66 (.mov V0),SO 6 67 (.flat (.mov V8)),SO 7 68 (.flat (B0 S6 (I6 1))),SO 8 69 (.ixAddr 1 S5 S7),SO 9 70 (L1 S8),SO 10 71 (.mov V0),SO 11 72 (.flat (.mov V8)),SO 12 73 (.ixAddr 1 (.s 10)
 (.s 11)),SO 13 74 (L1 (.s 12)),SO 14 75 (.ixAddr 1 S0 S1),⟨.no,0,none,.store 1 (.s 14) S9⟩,SO 15 76 (.ixAddr 1 S2 S4),⟨.no,0,none,.store 1 (.s 15) (.s 13)⟩] [[0,1,3,4,5,6,7,8,9,10,11,12,13,14,2,15,16,17],[0,1,3,4,5,6,7,8,9,10,11,12,13,14,15,2,16,17]] .skip)) (.region false [ PM 59 8,PO 60 (B0 S0 (I6 1)),VS 8 13 0]))
def KM:List Bool:=[true,false,false,false,false,true,false,false,true,false,false,false,false,false,false,false,false,false,false,false]
def KL:List Bool:=[true,false,false,false,false,false,false,false,false,false,false,false,false,false,false,false,false,false,false,false]
def KK:List Bool:=[true,false,false,false,false,false,false,false,false,false,false,false,false,false,false,false,false,false,false,false]
def ZO:IR:=.seq (.test false [ PM 83 9,PM 84 10,PO 85 (B1 S1 S0)] S0 (.skip) (.exit 4)) (.block 5 (.seq (.region false [ PM 86 9,PM 87 10,PO 88 (B0 S1 S0),PO 89 (.conv .u64 S0),PO 90 (.bin false .shr S0 (.c (.int .u64 (1)))),PO 91 (.conv .i64 S0),VS 11 16 0]) (.anyo 12 [ SO 0 92 (.mov V4),SO 1 93 (.mov V0),SO 2 94 (.mov V2),SO 3 95 (.ixAddr 1 S1 S2),SO 4 96 (L1 S3),SO 5 97 (.mov V0),SO 6 98 (.mov (.v 11)),SO 7 99 (.ixAddr 1 S5 S6),SO 8 100 (L1 S7),SO
 9 101 (.pur (.callv S0 [S4,S8])),SO 10 102 (B1 S9 (I6 0)),SO 11 103 (.un .not (.s 10))] [] (.cond (.s 11) (.region false [ PM 104 11,PO 105 (B0 S0 (I6 1)),VS 9 14 0]) (.region false [ PM 106 11,VS 10 15 0])))))
def LT:List Bool:=[true,false,true,false,true,false,false,false,false,true,true,false,false,false,false,false,false,false,false,false]
def LR:List Bool:=[true,false,true,false,false,false,false,false,false,true,false,false,false,false,false,false,false,false,false,false]
def LQ:List Bool:=[true,false,false,false,false,false,false,false,false,false,false,false,false,false,false,false,false,false,false,false]
def ZN:IR:=.seq (.test false [ PM 108 12,PM 109 9,PO 110 (B4 S1 S0)] S0 (.skip) (.exit 6)) (.seq (.block 7 (.anyo 16 [ SO 0 113 (.mov V0),SO 1 114 (.flat (.mov (.v 12))),SO 2 115 (.mov V0),SO 3 116 (.flat (.mov (.v 12))),SO 4 117 (.flat (B3 S3 (I6 1))),SO 5 118 (.mov V0),SO 6 119 (.flat (.mov (.v 12))),SO 7 120 (.flat (B3 S6 (I6 1))),SO 8 121 (.ixAddr 1 S5 S7),SO 9 122 (L1 S8),SO 10 123 (.mov V0),SO 11 124 (.flat (.mov (.v 12))),SO 12 125 (.ixAddr 1 (.s 10) (.s 11)),SO 13
 126 (L1 (.s 12)),SO 14 127 (.ixAddr 1 S0 S1),⟨.no,0,none,.store 1 (.s 14) S9⟩,SO 15 128 (.ixAddr 1 S2 S4),⟨.no,0,none,.store 1 (.s 15) (.s 13)⟩] [[0,1,3,4,5,6,7,8,9,10,11,12,13,14,2,15,16,17],[0,1,3,4,5,6,7,8,9,10,11,12,13,14,15,2,16,17]] .skip)) (.region false [ PM 111 12,PO 112 (B3 S0 (I6 1)),VS 12 17 0]))
def Mi:List Bool:=[true,false,false,false,false,false,false,false,false,true,false,false,true,false,false,false,false,false,false,false]
def Mg:List Bool:=[true,false,false,false,false,false,false,false,false,false,false,false,false,false,false,false,false,false,false,false]
def Me:List Bool:=[true,false,false,false,false,false,false,false,false,false,false,false,false,false,false,false,false,false,false,false]
def OS:IR:=.seq (.test false [ PM 149 15,PM 150 16,PO 151 (B1 S1 S0)] S0 (.skip) (.exit 8)) (.block 9 (.seq (.region false [ PM 152 15,PM 153 16,PO 154 (B0 S1 S0),PO 155 (.conv .u64 S0),PO 156 (.bin false .shr S0 (.c (.int .u64 (1)))),PO 157 (.conv .i64 S0),VS 18 23 0]) (.anyo 14 [ SO 0 158 (.mov V4),SO 1 159 (.mov V0),SO 2 160 (.mov (.v 17)),SO 3 161 (.mov (.v 18)),SO 4 162 (B3 S2 S3),SO 5 163 (.ixAddr 1 S1 S4),SO 6 164 (L1 S5),SO 7 165 (.mov V0),SO 8 166
 (.mov (.v 18)),SO 9 167 (.ixAddr 1 S7 S8),SO 10 168 (L1 S9),SO 11 169 (.pur (.callv S0 [S6,(.s 10)])),SO 12 170 (B1 (.s 11) (I6 0)),SO 13 171 (.un .not (.s 12))] [] (.cond (.s 13) (.region false [ PM 172 18,PO 173 (B0 S0 (I6 1)),VS 15 20 0]) (.region false [ PM 174 18,VS 16 21 0])))))
def Mh:List Bool:=[true,true,true,true,true,false,false,false,false,false,false,false,false,true,true,true,true,true,false,false]
def Mf:List Bool:=[true,true,true,true,true,false,false,false,false,false,false,false,false,true,true,true,false,false,false,false]
def Mc:List Bool:=[true,false,false,false,false,false,false,false,false,false,false,false,false,false,false,false,false,false,false,false]
def ACm:List Nat:=[0,1,2,3,4,10,11,12,13,14,15,16,17,18,19,20,21,22,23,24]
def Po:CN:=⟨5,20,.seq (.test false [ PM 25 2,PM 26 1,PO 27 (B3 S1 S0),PO 28 (B2 S0 (I6 1))] S0 (.seq (.region false [ PM 29 2,VS 5 10 0]) (.seq (.region false [ PM 30 3,VS 6 11 0]) (.seq (.block 0 (.loop Jb Ja JZ ZQ)) (.seq (.seq (.region false [ PM 54 1,VS 8 13 0]) (.block 2 (.loop KM KL KK ZP))) (.ret))))) (.skip)) (.seq (.test false [ PM 77 3,PM 78 2,PO 79 (B3 S1 S0),PO 80 (B2 S0 (I6 1))] S0 (.seq (.region false [ PM 81 1,VS 9 14 0]) (.seq
 (.region false [ PM 82 2,VS 10 15 0]) (.seq (.block 4 (.loop LT LR LQ ZO)) (.seq (.seq (.region false [ PM 107 2,VS 12 17 0]) (.block 6 (.loop Mi Mg Me ZN))) (.ret))))) (.skip)) (.seq (.region false [ PM 129 1,PM 130 3,PO 131 (B0 S1 S0),PO 132 (.conv .u64 S0),PO 133 (.bin false .shr S0 (.c (.int .u64 (1)))),PO 134 (.conv .i64 S0),VS 13 18 0]) (.seq (.region false [ PM 135 13,PM 136 2,PO 137 (B0 S1 S0),VS 14 19 0]) (.seq (.region false [ VO 15 20 (.mov (I6 0)),VO 16 21 (.mov (I6
 0))]) (.seq (.test false [ PM 138 2,PM 139 13,PO 140 (B4 S1 S0)] S0 (.seq (.region false [ PM 141 14,PM 142 3,PO 143 (B3 S1 S0),VS 15 20 0]) (.region false [ PM 144 13,VS 16 21 0])) (.seq (.region false [ PM 145 1,VS 15 20 0]) (.region false [ PM 146 2,VS 16 21 0]))) (.seq (.region false [ PM 147 14,PO 148 (B3 S0 (I6 1)),VS 17 22 0]) (.seq (.block 8 (.loop Mh Mf Mc OS)) (.seq (.region false [ PM 175 14,PM 176 15,PO 177 (B3 S1 S0),VS 19 24 0]) (.seq (.test false [ PM 178 15,
 PM 179 2,PO 180 (B1 S1 S0),PO 181 (.mov S0),⟨.push,182,(G1 0),.mov V2⟩,⟨.push,183,(G1 1),.mov (.v 19)⟩,⟨.push,184,(G1 2),B1 S1 S0⟩,PO 185 (.pick S3 S0 C0)] S0 (.region false [ PM 186 0,PM 187 15,PM 188 2,PM 189 19,PM 190 4,PO 191 (.call 219 [S4,S3,S2,S1,S0])]) (.skip)) (.seq (.test false [ PM 192 1,PM 193 15,PO 194 (B1 S1 S0),PO 195 (.mov S0),⟨.push,196,(G1 0),.mov (.v 15)⟩,⟨.push,
 197,(G1 1),.mov (.v 13)⟩,⟨.push,198,(G1 2),B1 S1 S0⟩,PO 199 (.pick S3 S0 C0)] S0 (.region false [ PM 200 0,PM 201 1,PM 202 15,PM 203 13,PM 204 4,PO 205 (.call 218 [S4,S3,S2,S1,S0])]) (.skip)) (.test false [ PM 206 13,PM 207 19,PO 208 (B1 S1 S0),PO 209 (.mov S0),⟨.push,210,(G1 0),.mov (.v 19)⟩,⟨.push,211,(G1 1),.mov V3⟩,⟨.push,212,(G1 2),B1 S1 S0⟩,PO 213 (.pick S3 (.s
 0) C0)] S0 (.region false [ PM 214 0,PM 215 13,PM 216 19,PM 217 3,PM 218 4,PO 219 (.call 218 [S4,S3,S2,S1,S0])]) (.skip)))))))))))),[]⟩
def AZ:Nat->Ak
 | 0=>AJU [.io,.bor,.bor,.bor,.bor]
 | n_+1=>bH [(207,gX),(219,ng),(218,(AZ n_))] Po [.io,.bor,.bor,.bor,.bor]
theorem Cz(n_:Nat):(AZ n_).modes=[.io,.bor,.bor,.bor,.bor]:=by cases n_<;>rfl
theorem Cs(n_:Nat):(AZ n_).flat=false:=by cases n_<;>rfl
attribute [go_sem] Cz Cs
def bK (n_:Nat):List (Nat×Ak):=[(207,gX),(219,ng),(218,(AZ n_))]
theorem qv(n_:Nat):AP (bK n_) 207=some gX:=rfl
theorem qt(n_:Nat):AP (bK n_) 219=some ng:=rfl
theorem qu(n_:Nat):AP (bK n_) 218=some (AZ n_):=rfl
theorem FJ(n_:Nat):AZ (n_+1)=bH (bK n_) Po [.io,.bor,.bor,.bor,.bor]:=rfl
theorem Cy:∀ n_:Nat,AQ Tryz.prog 218 (AZ n_)
 | 0=>ny
 | n_+1=>DH _ (AF AMX (AF s_91 (AF (Cy n_) AL))) (by kernel_rfl:Ab Tryz.prog 218 Po ACm=true)
def uF:Ak:=AZ 64
theorem s_92:AQ Tryz.prog 218 uF:=Cy 64
theorem M_92:uF.modes=[.io,.bor,.bor,.bor,.bor]:=Cz 64
theorem AQK:uF.flat=false:=Cs 64
attribute [go_sem] M_92 AQK qv qt qu
def Kx(data:List Int)(a:Int)(c:AX)(c2:List Aa):(Int×Int)->St
 | (i,j)=>⟨[.own 31,.int .i64 a,.any,.any,.fn (.func 207) [] [.ptr 1 [.fn (.func 183) [] [.ptr 2 [Am c] 0 0,.ptr 1 [.sl 2 (List.map Aw c2)] 0 0]] 0 0],.int .i64 i,.int .i64 j,.any,.any,.any,.any,.any,.any,.any,.any,.any,.any,.any,.any,.any],[],[(31,⟨1,List.map (AV.int .i64) data⟩)],true⟩
def Ku(data:List Int)(a:Int)(c:AX)(c2:List Aa)(y:Int):Fw:=(.exit 0,⟨[.own 31,.int .i64 a,.any,.any,.any,.int .i64 y,.any,.any,.any,.any,.any,.any,.any,.any,.any,.any,.any,.any,.any,.any],[],[(31,⟨1,List.map (AV.int .i64) data⟩)],true⟩)
attribute [local go_sem] Po Kx Ku ZQ Jb Ja JZ in
theorem Es(n_:Nat){data:List Int}{a:Int}{c:AX}{c2:List Aa}{sgm_:Int×Int}{rho_:Int}(h:AS (Bu data a c c2) sgm_=some rho_):∃ L0,∀ L,L0<=L->CV (Aq (AP (bK n_)) L ZQ) Jb Ja JZ L (Kx data a c c2 sgm_)=Ku data a c c2 rho_:=by
 refine Ax (E:=Kx data a c c2) (R:=Ku data a c c2) (fun y=>by first|(intro c;cases c)|(rcases y with y|y<;>(intro c;cases c))|(rcases y with y|y|y<;>(intro c;cases c))) ?_ h;clear h;rintro⟨i,j⟩ o_ h;dsimp only[Bu] at h;rcases AE h with⟨z2,h⟩|⟨z2,h⟩
 ·try simp only[go_sem,N1] at z2
  obtain⟨z3,h⟩:=AC h;try simp only[go_sem,N1,z2] at z3
  obtain⟨z4,h⟩:=AC h;have lz4:=Az z4;try simp only[go_sem] at lz4
  try simp only[go_sem,N1, *] at z4
  obtain⟨z5,h⟩:=AC h;have lz5:=Az z5;try simp only[go_sem] at lz5
  try simp only[go_sem,N1, *] at z5
  obtain⟨y_6,z6,h⟩:=AB h;have fz6:=kw z6;try simp only[go_sem, *] at fz6
  rcases AE h with⟨z7,h⟩|⟨z7,h⟩
  all_goals
  try simp only[go_sem,N1, *] at z7
  obtain rfl:=AA h;refine⟨0,fun L hL=>?_⟩;simp only[go_sem, *]
 ·try simp only[go_sem,N1] at z2
  obtain rfl:=AA h;refine⟨0,fun L hL=>?_⟩;simp only[go_sem,z2]
def Lx(i:Int):((List Int)×Int)->St
 | (data,k)=>⟨[.own 31,.any,.any,.any,.any,.int .i64 i,.any,.any,.int .i64 k,.any,.any,.any,.any,.any,.any,.any,.any,.any,.any,.any],[],[(31,⟨1,List.map (AV.int .i64) data⟩)],true⟩
def Lw(i:Int)(y:(List Int)):Fw:=(.exit 2,⟨[.own 31,.any,.any,.any,.any,.any,.any,.any,.any,.any,.any,.any,.any,.any,.any,.any,.any,.any,.any,.any],[],[(31,⟨1,List.map (AV.int .i64) y⟩)],true⟩)
attribute [local go_sem] Po Lx Lw ZP KM KL KK Kx Ku Jb Ja JZ in
theorem Er(n_:Nat){i:Int}{sgm_:(List Int)×Int}{rho_:(List Int)}(h:AS (Bt i) sgm_=some rho_):∃ L0,∀ L,L0<=L->CV (Aq (AP (bK n_)) L ZP) KM KL KK L (Lx i sgm_)=Lw i rho_:=by
 refine Ax (E:=Lx i) (R:=Lw i) (fun y=>by first|(intro c;cases c)|(rcases y with y|y<;>(intro c;cases c))|(rcases y with y|y|y<;>(intro c;cases c))) ?_ h;clear h;rintro⟨data,k⟩ o_ h;dsimp only[Bt] at h;rcases AE h with⟨z9,h⟩|⟨z9,h⟩
 ·try simp only[go_sem,N1] at z9
  obtain⟨z10,h⟩:=AC h;have lz10:=Az z10;try simp only[go_sem] at lz10
  try simp only[go_sem,N1,z9] at z10
  obtain⟨z11,h⟩:=AC h;have lz11:=Az z11;try simp only[go_sem] at lz11
  try simp only[go_sem,N1, *] at z11
  have xz12:=(by rw[← List.map_set];exact Mw (AV.int .i64) (data.set k.toNat (data.getD (i64.wrap (k+1)).toNat default)) (by first|(rw[List.length_set];exact lz10)|(simp;omega)):((List.map (AV.int .i64) data).set k.toNat ((AV.int .i64) (data.getD (i64.wrap (k+1)).toNat default))).getD ((i64.wrap (k+1)).toNat) .any=(AV.int .i64) ((data.set k.toNat (data.getD (i64.wrap (k+1)).toNat default)).getD ((i64.wrap (k+1)).toNat) default));obtain rfl:=AA h;refine⟨0,fun L hL=>?_⟩;simp only[go_sem, *]
 ·try simp only[go_sem,N1] at z9
  obtain rfl:=AA h;refine⟨0,fun L hL=>?_⟩;simp only[go_sem,z9]
def Nv(data:List Int)(m:Int)(c:AX)(c2:List Aa):(Int×Int)->St
 | (i,j)=>⟨[.own 31,.any,.int .i64 m,.any,.fn (.func 207) [] [.ptr 1 [.fn (.func 183) [] [.ptr 2 [Am c] 0 0,.ptr 1 [.sl 2 (List.map Aw c2)] 0 0]] 0 0],.any,.any,.any,.any,.int .i64 i,.int .i64 j,.any,.any,.any,.any,.any,.any,.any,.any,.any],[],[(31,⟨1,List.map (AV.int .i64) data⟩)],true⟩
def Nr(data:List Int)(m:Int)(c:AX)(c2:List Aa)(y:Int):Fw:=(.exit 4,⟨[.own 31,.any,.int .i64 m,.any,.any,.any,.any,.any,.any,.int .i64 y,.any,.any,.any,.any,.any,.any,.any,.any,.any,.any],[],[(31,⟨1,List.map (AV.int .i64) data⟩)],true⟩)
attribute [local go_sem] Po Nv Nr ZO LT LR LQ Kx Ku Jb Ja JZ Lx Lw KM KL KK in
theorem Ep(n_:Nat){data:List Int}{m:Int}{c:AX}{c2:List Aa}{sgm_:Int×Int}{rho_:Int}(h:AS (Br data m c c2) sgm_=some rho_):∃ L0,∀ L,L0<=L->CV (Aq (AP (bK n_)) L ZO) LT LR LQ L (Nv data m c c2 sgm_)=Nr data m c c2 rho_:=by
 refine Ax (E:=Nv data m c c2) (R:=Nr data m c c2) (fun y=>by first|(intro c;cases c)|(rcases y with y|y<;>(intro c;cases c))|(rcases y with y|y|y<;>(intro c;cases c))) ?_ h;clear h;rintro⟨i,j⟩ o_ h;dsimp only[Br] at h;rcases AE h with⟨z16,h⟩|⟨z16,h⟩
 ·try simp only[go_sem,N1] at z16
  obtain⟨z17,h⟩:=AC h;try simp only[go_sem,N1,z16] at z17
  obtain⟨z18,h⟩:=AC h;have lz18:=Az z18;try simp only[go_sem] at lz18
  try simp only[go_sem,N1, *] at z18
  obtain⟨z19,h⟩:=AC h;have lz19:=Az z19;try simp only[go_sem] at lz19
  try simp only[go_sem,N1, *] at z19
  obtain⟨y_20,z20,h⟩:=AB h;have fz20:=kw z20;try simp only[go_sem, *] at fz20
  rcases AE h with⟨z21,h⟩|⟨z21,h⟩
  all_goals
  try simp only[go_sem,N1, *] at z21
  obtain rfl:=AA h;refine⟨0,fun L hL=>?_⟩;simp only[go_sem, *]
 ·try simp only[go_sem,N1] at z16
  obtain rfl:=AA h;refine⟨0,fun L hL=>?_⟩;simp only[go_sem,z16]
def Pa(i:Int):((List Int)×Int)->St
 | (data,k)=>⟨[.own 31,.any,.any,.any,.any,.any,.any,.any,.any,.int .i64 i,.any,.any,.int .i64 k,.any,.any,.any,.any,.any,.any,.any],[],[(31,⟨1,List.map (AV.int .i64) data⟩)],true⟩
def PY(i:Int)(y:(List Int)):Fw:=(.exit 6,⟨[.own 31,.any,.any,.any,.any,.any,.any,.any,.any,.any,.any,.any,.any,.any,.any,.any,.any,.any,.any,.any],[],[(31,⟨1,List.map (AV.int .i64) y⟩)],true⟩)
attribute [local go_sem] Po Pa PY ZN Mi Mg Me Kx Ku Jb Ja JZ Lx Lw KM KL KK Nv Nr LT LR LQ in
theorem Eo(n_:Nat){i:Int}{sgm_:(List Int)×Int}{rho_:(List Int)}(h:AS (Bq i) sgm_=some rho_):∃ L0,∀ L,L0<=L->CV (Aq (AP (bK n_)) L ZN) Mi Mg Me L (Pa i sgm_)=PY i rho_:=by
 refine Ax (E:=Pa i) (R:=PY i) (fun y=>by first|(intro c;cases c)|(rcases y with y|y<;>(intro c;cases c))|(rcases y with y|y|y<;>(intro c;cases c))) ?_ h;clear h;rintro⟨data,k⟩ o_ h;dsimp only[Bq] at h;rcases AE h with⟨z23,h⟩|⟨z23,h⟩
 ·try simp only[go_sem,N1] at z23
  obtain⟨z24,h⟩:=AC h;have lz24:=Az z24;try simp only[go_sem] at lz24
  try simp only[go_sem,N1,z23] at z24
  obtain⟨z25,h⟩:=AC h;have lz25:=Az z25;try simp only[go_sem] at lz25
  try simp only[go_sem,N1, *] at z25
  have xz26:=(by rw[← List.map_set];exact Mw (AV.int .i64) (data.set k.toNat (data.getD (i64.wrap (k-1)).toNat default)) (by first|(rw[List.length_set];exact lz24)|(simp;omega)):((List.map (AV.int .i64) data).set k.toNat ((AV.int .i64) (data.getD (i64.wrap (k-1)).toNat default))).getD ((i64.wrap (k-1)).toNat) .any=(AV.int .i64) ((data.set k.toNat (data.getD (i64.wrap (k-1)).toNat default)).getD ((i64.wrap (k-1)).toNat) default));obtain rfl:=AA h;refine⟨0,fun L hL=>?_⟩;simp only[go_sem, *]
 ·try simp only[go_sem,N1] at z23
  obtain rfl:=AA h;refine⟨0,fun L hL=>?_⟩;simp only[go_sem,z23]
def Tj(data:List Int)(a:Int)(m:Int)(b:Int)(c:AX)(c2:List Aa)(mid:Int)(n:Int)(p:Int):(Int×Int)->St
 | (start,r)=>⟨[.own 31,.int .i64 a,.int .i64 m,.int .i64 b,.fn (.func 207) [] [.ptr 1 [.fn (.func 183) [] [.ptr 2 [Am c] 0 0,.ptr 1 [.sl 2 (List.map Aw c2)] 0 0]] 0 0],.any,.any,.any,.any,.any,.any,.any,.any,.int .i64 mid,.int .i64 n,.int .i64 start,.int .i64 r,.int .i64 p,.any,.any],[],[(31,⟨1,List.map (AV.int .i64) data⟩)],true⟩
def TL(data:List Int)(a:Int)(m:Int)(b:Int)(c:AX)(c2:List Aa)(mid:Int)(n:Int)(p:Int)(y:Int):Fw:=(.exit 8,⟨[.own 31,.int .i64 a,.int .i64 m,.int .i64 b,.fn (.func 207) [] [.ptr 1 [.fn (.func 183) [] [.ptr 2 [Am c] 0 0,.ptr 1 [.sl 2 (List.map Aw c2)] 0 0]] 0 0],.any,.any,.any,.any,.any,.any,.any,.any,.int .i64 mid,.int .i64 n,.int .i64 y,.any,.any,.any,.any],[],[(31,⟨1,List.map (AV.int .i64) data⟩)],true⟩)
attribute [local go_sem] Po Tj TL OS Mh Mf Mc Kx Ku Jb Ja JZ Lx Lw KM KL KK Nv Nr LT LR LQ Pa PY Mi Mg Me in
theorem En(n_:Nat){data:List Int}{a:Int}{m:Int}{b:Int}{c:AX}{c2:List Aa}{mid:Int}{n:Int}{p:Int}{sgm_:Int×Int}{rho_:Int}(h:AS (Bp data a m b c c2 mid n p) sgm_=some rho_):∃ L0,∀ L,L0<=L->CV (Aq (AP (bK n_)) L OS) Mh Mf Mc L (Tj data a m b c c2 mid n p sgm_)=TL data a m b c c2 mid n p rho_:=by
 refine Ax (E:=Tj data a m b c c2 mid n p) (R:=TL data a m b c c2 mid n p) (fun y=>by first|(intro c;cases c)|(rcases y with y|y<;>(intro c;cases c))|(rcases y with y|y|y<;>(intro c;cases c))) ?_ h;clear h;rintro⟨start,r⟩ o_ h;dsimp only[Bp] at h;rcases AE h with⟨z31,h⟩|⟨z31,h⟩
 ·try simp only[go_sem,N1] at z31
  obtain⟨z32,h⟩:=AC h;try simp only[go_sem,N1,z31] at z32
  obtain⟨z33,h⟩:=AC h;have lz33:=Az z33;try simp only[go_sem] at lz33
  try simp only[go_sem,N1, *] at z33
  obtain⟨z34,h⟩:=AC h;have lz34:=Az z34;try simp only[go_sem] at lz34
  try simp only[go_sem,N1, *] at z34
  obtain⟨y_35,z35,h⟩:=AB h;have fz35:=kw z35;try simp only[go_sem, *] at fz35
  rcases AE h with⟨z36,h⟩|⟨z36,h⟩
  all_goals
  try simp only[go_sem,N1, *] at z36
  obtain rfl:=AA h;refine⟨0,fun L hL=>?_⟩;simp only[go_sem, *]
 ·try simp only[go_sem,N1] at z31
  obtain rfl:=AA h;refine⟨0,fun L hL=>?_⟩;simp only[go_sem,z31]
def Xv(data:List Int)(a:Int)(m:Int)(b:Int)(c:AX)(c2:List Aa)(mid:Int)(n:Int)(p:Int):(Int×Int)->St
 | (start,r)=>⟨[.own 31,.int .i64 a,.int .i64 m,.int .i64 b,.fn (.func 207) [] [.ptr 1 [.fn (.func 183) [] [.ptr 2 [Am c] 0 0,.ptr 1 [.sl 2 (List.map Aw c2)] 0 0]] 0 0],.any,.any,.any,.any,.any,.any,.any,.any,.int .i64 mid,.int .i64 n,.int .i64 start,.int .i64 r,.int .i64 p,.any,.any],[],[(31,⟨1,List.map (AV.int .i64) data⟩)],true⟩
def XV(data:List Int)(a:Int)(m:Int)(b:Int)(c:AX)(c2:List Aa)(mid:Int)(n:Int)(p:Int)(y:Int):Fw:=(.exit 8,⟨[.own 31,.int .i64 a,.int .i64 m,.int .i64 b,.fn (.func 207) [] [.ptr 1 [.fn (.func 183) [] [.ptr 2 [Am c] 0 0,.ptr 1 [.sl 2 (List.map Aw c2)] 0 0]] 0 0],.any,.any,.any,.any,.any,.any,.any,.any,.int .i64 mid,.int .i64 n,.int .i64 y,.any,.any,.any,.any],[],[(31,⟨1,List.map (AV.int .i64) data⟩)],true⟩)
attribute [local go_sem] Po Xv XV OS Mh Mf Mc Kx Ku Jb Ja JZ Lx Lw KM KL KK Nv Nr LT LR LQ Pa PY Mi Mg Me Tj TL in
theorem Em(n_:Nat){data:List Int}{a:Int}{m:Int}{b:Int}{c:AX}{c2:List Aa}{mid:Int}{n:Int}{p:Int}{sgm_:Int×Int}{rho_:Int}(h:AS (Bo data a m b c c2 mid n p) sgm_=some rho_):∃ L0,∀ L,L0<=L->CV (Aq (AP (bK n_)) L OS) Mh Mf Mc L (Xv data a m b c c2 mid n p sgm_)=XV data a m b c c2 mid n p rho_:=by
 refine Ax (E:=Xv data a m b c c2 mid n p) (R:=XV data a m b c c2 mid n p) (fun y=>by first|(intro c;cases c)|(rcases y with y|y<;>(intro c;cases c))|(rcases y with y|y|y<;>(intro c;cases c))) ?_ h;clear h;rintro⟨start,r⟩ o_ h;dsimp only[Bo] at h;rcases AE h with⟨z59,h⟩|⟨z59,h⟩
 ·try simp only[go_sem,N1] at z59
  obtain⟨z60,h⟩:=AC h;try simp only[go_sem,N1,z59] at z60
  obtain⟨z61,h⟩:=AC h;have lz61:=Az z61;try simp only[go_sem] at lz61
  try simp only[go_sem,N1, *] at z61
  obtain⟨z62,h⟩:=AC h;have lz62:=Az z62;try simp only[go_sem] at lz62
  try simp only[go_sem,N1, *] at z62
  obtain⟨y_63,z63,h⟩:=AB h;have fz63:=kw z63;try simp only[go_sem, *] at fz63
  rcases AE h with⟨z64,h⟩|⟨z64,h⟩
  all_goals
  try simp only[go_sem,N1, *] at z64
  obtain rfl:=AA h;refine⟨0,fun L hL=>?_⟩;simp only[go_sem, *]
 ·try simp only[go_sem,N1] at z59
  obtain rfl:=AA h;refine⟨0,fun L hL=>?_⟩;simp only[go_sem,z59]
attribute [local go_sem] Kx Ku Jb Ja JZ Lx Lw KM KL KK Nv Nr LT LR LQ Pa PY Mi Mg Me Tj TL Mh Mf Mc Xv XV Po in
theorem FK:∀ (n_:Nat) {data:List Int} {a:Int} {m:Int} {b:Int} {cmp_c0_f_0:AX} {cmp_c0_f_1:List Aa} {y_:(List Int)} (h:AM n_ data a m b cmp_c0_f_0 cmp_c0_f_1=some y_),(AZ n_).F [.fresh 1 (List.map (AV.int .i64) data),.int .i64 a,.int .i64 m,.int .i64 b,.fn (.func 207) [] [.ptr 1 [.fn (.func 183) [] [.ptr 2 [Am cmp_c0_f_0] 0 0,.ptr 1 [.sl 2 (List.map Aw cmp_c0_f_1)] 0 0]] 0 0]]=⟨true,.cv undef,[.fresh 1 (List.map (AV.int .i64) y_),.any,.any,.any,.any]⟩:=by
 intro n_
 induction n_ with
 | zero=>intro data a m b cmp_c0_f_0 cmp_c0_f_1 y_ h;cases h
 | succ n_ ih_=>
 intro data a m b cmp_c0_f_0 cmp_c0_f_1 y_ h;rw[FJ];refine Jn ?_;dsimp only[AM] at h;rcases AE h with⟨z1,h⟩|⟨z1,h⟩
 ·try simp only[go_sem,N1] at z1
  obtain⟨y_8,z8,h⟩:=AB h;obtain⟨Lz8,ez8⟩:=Es n_ z8;obtain⟨y_13,z13,h⟩:=AB h;obtain⟨Lz13,ez13⟩:=Er n_ z13;obtain⟨z14,h⟩:=AC h;try simp only[go_sem,N1,z1] at z14
  obtain rfl:=AA h;refine⟨Lz8+Lz13,fun L hL=>?_⟩;have ez8:=ez8 L (by omega);have ez13:=ez13 L (by omega);try simp only[go_sem, *] at ez8
  try simp only[go_sem, *] at ez13
  simp only[go_sem, *]
 ·try simp only[go_sem,N1] at z1
  rcases AE h with⟨z15,h⟩|⟨z15,h⟩
  ·try simp only[go_sem,N1,z1] at z15
   obtain⟨y_22,z22,h⟩:=AB h;obtain⟨Lz22,ez22⟩:=Ep n_ z22;obtain⟨y_27,z27,h⟩:=AB h;obtain⟨Lz27,ez27⟩:=Eo n_ z27;obtain⟨z28,h⟩:=AC h;try simp only[go_sem,N1, *] at z28
   obtain rfl:=AA h;refine⟨Lz22+Lz27,fun L hL=>?_⟩;have ez22:=ez22 L (by omega);have ez27:=ez27 L (by omega);try simp only[go_sem, *] at ez22
   try simp only[go_sem, *] at ez27
   simp only[go_sem, *]
  ·try simp only[go_sem,N1,z1] at z15
   obtain⟨z29,h⟩:=AC h;try simp only[go_sem,N1, *] at z29
   rcases AE h with⟨z30,h⟩|⟨z30,h⟩
   ·try simp only[go_sem,N1, *] at z30
    obtain⟨y_37,z37,h⟩:=AB h;obtain⟨Lz37,ez37⟩:=En n_ z37;rcases AE h with⟨z38,h⟩|⟨z38,h⟩
    ·try simp only[go_sem,N1, *] at z38
     obtain⟨y_39,z39,h⟩:=AB h;have fz39:=AFm z39;try simp only[go_sem, *] at fz39
     rcases AE h with⟨z40,h⟩|⟨z40,h⟩
     ·try simp only[go_sem,N1, *] at z40
      obtain⟨y_41,z41,h⟩:=AB h;have fz41:=ih_ z41;try simp only[go_sem, *] at fz41
      rcases AE h with⟨z42,h⟩|⟨z42,h⟩
      ·try simp only[go_sem,N1, *] at z42
       obtain⟨y_43,z43,h⟩:=AB h;have fz43:=ih_ z43;try simp only[go_sem, *] at fz43
       obtain⟨z44,h⟩:=AC h;try simp only[go_sem,N1, *] at z44
       obtain rfl:=AA h;refine⟨Lz37,fun L hL=>?_⟩;have ez37:=ez37 L (by omega);try simp only[go_sem, *] at ez37
       simp only[go_sem, *]
      ·try simp only[go_sem,N1, *] at z42
       obtain⟨z45,h⟩:=AC h;try simp only[go_sem,N1, *] at z45
       obtain rfl:=AA h;refine⟨Lz37,fun L hL=>?_⟩;have ez37:=ez37 L (by omega);try simp only[go_sem, *] at ez37
       simp only[go_sem, *]
     ·try simp only[go_sem,N1, *] at z40
      rcases AE h with⟨z46,h⟩|⟨z46,h⟩
      ·try simp only[go_sem,N1, *] at z46
       obtain⟨y_47,z47,h⟩:=AB h;have fz47:=ih_ z47;try simp only[go_sem, *] at fz47
       obtain⟨z48,h⟩:=AC h;try simp only[go_sem,N1, *] at z48
       obtain rfl:=AA h;refine⟨Lz37,fun L hL=>?_⟩;have ez37:=ez37 L (by omega);try simp only[go_sem, *] at ez37
       simp only[go_sem, *]
      ·try simp only[go_sem,N1, *] at z46
       obtain⟨z49,h⟩:=AC h;try simp only[go_sem,N1, *] at z49
       obtain rfl:=AA h;refine⟨Lz37,fun L hL=>?_⟩;have ez37:=ez37 L (by omega);try simp only[go_sem, *] at ez37
       simp only[go_sem, *]
    ·try simp only[go_sem,N1, *] at z38
     rcases AE h with⟨z50,h⟩|⟨z50,h⟩
     ·try simp only[go_sem,N1, *] at z50
      obtain⟨y_51,z51,h⟩:=AB h;have fz51:=ih_ z51;try simp only[go_sem, *] at fz51
      rcases AE h with⟨z52,h⟩|⟨z52,h⟩
      ·try simp only[go_sem,N1, *] at z52
       obtain⟨y_53,z53,h⟩:=AB h;have fz53:=ih_ z53;try simp only[go_sem, *] at fz53
       obtain⟨z54,h⟩:=AC h;try simp only[go_sem,N1, *] at z54
       obtain rfl:=AA h;refine⟨Lz37,fun L hL=>?_⟩;have ez37:=ez37 L (by omega);try simp only[go_sem, *] at ez37
       simp only[go_sem, *]
      ·try simp only[go_sem,N1, *] at z52
       obtain⟨z55,h⟩:=AC h;try simp only[go_sem,N1, *] at z55
       obtain rfl:=AA h;refine⟨Lz37,fun L hL=>?_⟩;have ez37:=ez37 L (by omega);try simp only[go_sem, *] at ez37
       simp only[go_sem, *]
     ·try simp only[go_sem,N1, *] at z50
      rcases AE h with⟨z56,h⟩|⟨z56,h⟩
      ·try simp only[go_sem,N1, *] at z56
       obtain⟨y_57,z57,h⟩:=AB h;have fz57:=ih_ z57;try simp only[go_sem, *] at fz57
       obtain⟨z58,h⟩:=AC h;try simp only[go_sem,N1, *] at z58
       obtain rfl:=AA h;refine⟨Lz37,fun L hL=>?_⟩;have ez37:=ez37 L (by omega);try simp only[go_sem, *] at ez37
       simp only[go_sem, *]
      ·try simp only[go_sem,N1, *] at z56
       obtain rfl:=AA h;refine⟨Lz37,fun L hL=>?_⟩;have ez37:=ez37 L (by omega);try simp only[go_sem, *] at ez37
       simp only[go_sem, *]
   ·try simp only[go_sem,N1, *] at z30
    obtain⟨y_65,z65,h⟩:=AB h;obtain⟨Lz65,ez65⟩:=Em n_ z65;rcases AE h with⟨z66,h⟩|⟨z66,h⟩
    ·try simp only[go_sem,N1, *] at z66
     obtain⟨y_67,z67,h⟩:=AB h;have fz67:=AFm z67;try simp only[go_sem, *] at fz67
     rcases AE h with⟨z68,h⟩|⟨z68,h⟩
     ·try simp only[go_sem,N1, *] at z68
      obtain⟨y_69,z69,h⟩:=AB h;have fz69:=ih_ z69;try simp only[go_sem, *] at fz69
      rcases AE h with⟨z70,h⟩|⟨z70,h⟩
      ·try simp only[go_sem,N1, *] at z70
       obtain⟨y_71,z71,h⟩:=AB h;have fz71:=ih_ z71;try simp only[go_sem, *] at fz71
       obtain⟨z72,h⟩:=AC h;try simp only[go_sem,N1, *] at z72
       obtain rfl:=AA h;refine⟨Lz65,fun L hL=>?_⟩;have ez65:=ez65 L (by omega);try simp only[go_sem, *] at ez65
       simp only[go_sem, *]
      ·try simp only[go_sem,N1, *] at z70
       obtain⟨z73,h⟩:=AC h;try simp only[go_sem,N1, *] at z73
       obtain rfl:=AA h;refine⟨Lz65,fun L hL=>?_⟩;have ez65:=ez65 L (by omega);try simp only[go_sem, *] at ez65
       simp only[go_sem, *]
     ·try simp only[go_sem,N1, *] at z68
      rcases AE h with⟨z74,h⟩|⟨z74,h⟩
      ·try simp only[go_sem,N1, *] at z74
       obtain⟨y_75,z75,h⟩:=AB h;have fz75:=ih_ z75;try simp only[go_sem, *] at fz75
       obtain⟨z76,h⟩:=AC h;try simp only[go_sem,N1, *] at z76
       obtain rfl:=AA h;refine⟨Lz65,fun L hL=>?_⟩;have ez65:=ez65 L (by omega);try simp only[go_sem, *] at ez65
       simp only[go_sem, *]
      ·try simp only[go_sem,N1, *] at z74
       obtain⟨z77,h⟩:=AC h;try simp only[go_sem,N1, *] at z77
       obtain rfl:=AA h;refine⟨Lz65,fun L hL=>?_⟩;have ez65:=ez65 L (by omega);try simp only[go_sem, *] at ez65
       simp only[go_sem, *]
    ·try simp only[go_sem,N1, *] at z66
     rcases AE h with⟨z78,h⟩|⟨z78,h⟩
     ·try simp only[go_sem,N1, *] at z78
      obtain⟨y_79,z79,h⟩:=AB h;have fz79:=ih_ z79;try simp only[go_sem, *] at fz79
      rcases AE h with⟨z80,h⟩|⟨z80,h⟩
      ·try simp only[go_sem,N1, *] at z80
       obtain⟨y_81,z81,h⟩:=AB h;have fz81:=ih_ z81;try simp only[go_sem, *] at fz81
       obtain⟨z82,h⟩:=AC h;try simp only[go_sem,N1, *] at z82
       obtain rfl:=AA h;refine⟨Lz65,fun L hL=>?_⟩;have ez65:=ez65 L (by omega);try simp only[go_sem, *] at ez65
       simp only[go_sem, *]
      ·try simp only[go_sem,N1, *] at z80
       obtain⟨z83,h⟩:=AC h;try simp only[go_sem,N1, *] at z83
       obtain rfl:=AA h;refine⟨Lz65,fun L hL=>?_⟩;have ez65:=ez65 L (by omega);try simp only[go_sem, *] at ez65
       simp only[go_sem, *]
     ·try simp only[go_sem,N1, *] at z78
      rcases AE h with⟨z84,h⟩|⟨z84,h⟩
      ·try simp only[go_sem,N1, *] at z84
       obtain⟨y_85,z85,h⟩:=AB h;have fz85:=ih_ z85;try simp only[go_sem, *] at fz85
       obtain⟨z86,h⟩:=AC h;try simp only[go_sem,N1, *] at z86
       obtain rfl:=AA h;refine⟨Lz65,fun L hL=>?_⟩;have ez65:=ez65 L (by omega);try simp only[go_sem, *] at ez65
       simp only[go_sem, *]
      ·try simp only[go_sem,N1, *] at z84
       obtain rfl:=AA h;refine⟨Lz65,fun L hL=>?_⟩;have ez65:=ez65 L (by omega);try simp only[go_sem, *] at ez65
       simp only[go_sem, *]
theorem AFl{data:List Int}{a:Int}{m:Int}{b:Int}{cmp_c0_f_0:AX}{cmp_c0_f_1:List Aa}{y_:(List Int)}(h:CG data a m b cmp_c0_f_0 cmp_c0_f_1=some y_):uF.F [.fresh 1 (List.map (AV.int .i64) data),.int .i64 a,.int .i64 m,.int .i64 b,.fn (.func 207) [] [.ptr 1 [.fn (.func 183) [] [.ptr 2 [Am cmp_c0_f_0] 0 0,.ptr 1 [.sl 2 (List.map Aw cmp_c0_f_1)] 0 0]] 0 0]]=⟨true,.cv undef,[.fresh 1 (List.map (AV.int .i64) y_),.any,.any,.any,.any]⟩:=FK 64 h
def ZV:IR:=.seq (.test false [ PM 11 5,PM 12 1,PO 13 (B5 S1 S0)] S0 (.skip) (.exit 0)) (.block 1 (.seq (.region false [ PM 14 0,PM 15 4,PM 16 5,PM 17 2,PO 18 (.call 217 [S3,S2,S1,S0])]) (.seq (.region false [ PM 19 5,VS 4 7 0]) (.region false [ PM 20 5,PM 21 3,PO 22 (B0 S1 S0),VS 5 8 0]))))
def Mm:List Bool:=[true,true,true,true,true,true,false]
def Ml:List Bool:=[true,true,true,true,true,false,false]
def Mj:List Bool:=[true,false,false,false,false,false,false]
def ZT:IR:=.seq (.test false [ PM 33 5,PM 34 1,PO 35 (B5 S1 S0)] S0 (.skip) (.exit 4)) (.block 5 (.seq (.region false [ PM 36 0,PM 37 4,PM 38 4,PM 39 3,PO 40 (B0 S1 S0),PM 41 5,PM 42 2,PO 43 (.call 218 [S6,S5,S2,S1,S0])]) (.seq (.region false [ PM 44 5,VS 4 7 0]) (.region false [ PM 45 5,PM 46 3,PO 47 (B8 (I6 2) S0),PO 48 (B0 S2 S0),VS 5 8 0]))))
def OZ:List Bool:=[true,true,true,true,true,true,false]
def OY:List Bool:=[true,true,true,true,true,false,false]
def OX:List Bool:=[true,false,false,false,false,false,false]
def ZU:IR:=.seq (.test false [ PM 28 3,PM 29 1,PO 30 (B1 S1 S0)] S0 (.skip) (.exit 2)) (.block 3 (.seq (.region false [ PM 31 3,PO 32 (B8 (I6 2) S0),VO 4 7 (.mov (I6 0)),VS 5 8 0]) (.seq (.block 4 (.loop OZ OY OX ZT)) (.seq (.seq (.region false [ PM 49 4,PM 50 3,PO 51 (B0 S1 S0),VS 6 9 0]) (.test false [ PM 52 6,PM 53 1,PO 54 (B1 S1 S0)] S0 (.region false [ PM 55 0,PM 56 4,PM 57 6,PM 58 1,PM 59 2,PO 60 (.call 218 [S4,S3,S2,S1,S0])])
 (.skip))) (.region false [ PM 61 3,PO 62 (B8 S0 (I6 2)),VS 3 6 0])))))
def Rj:List Bool:=[true,true,true,true,false,false,false]
def Ri:List Bool:=[true,false,false,false,false,false,false]
def Rh:List Bool:=[true,false,false,false,false,false,false]
def ACo:List Nat:=[0,1,2,6,7,8,9]
def cp:CN:=⟨3,7,.seq (.region false [ VO 3 6 (.mov (I6 20))]) (.seq (.region false [ PM 10 3,VO 4 7 (.mov (I6 0)),VS 5 8 0]) (.seq (.block 0 (.loop Mm Ml Mj ZV)) (.seq (.region false [ PM 23 0,PM 24 4,PM 25 1,PM 26 2,PO 27 (.call 217 [S3,S2,S1,S0])]) (.block 2 (.loop Rj Ri Rh ZU))))),[]⟩
def qC:List (Nat×Ak):=[(217,uH),(218,uF)]
theorem qs:AP qC 217=some uH:=rfl
theorem qr:AP qC 218=some uF:=rfl
def uE:Ak:=bH qC cp [.io,.bor,.bor]
theorem s_93:AQ Tryz.prog 215 uE:=DH _ (AF s_89 (AF s_92 AL)) (by kernel_rfl:Ab Tryz.prog 215 cp ACo=true)
theorem M_93:uE.modes=[.io,.bor,.bor]:=rfl
theorem AQJ:uE.flat=false:=rfl
attribute [go_sem] M_93 AQJ qs qr
def PZ(n:Int)(c:AX)(c2:List Aa)(blockSize:Int):((List Int)×Int×Int)->St
 | (data,a,b)=>⟨[.own 31,.int .i64 n,.fn (.func 207) [] [.ptr 1 [.fn (.func 183) [] [.ptr 2 [Am c] 0 0,.ptr 1 [.sl 2 (List.map Aw c2)] 0 0]] 0 0],.int .i64 blockSize,.int .i64 a,.int .i64 b,.any],[],[(31,⟨1,List.map (AV.int .i64) data⟩)],true⟩
def PX(n:Int)(c:AX)(c2:List Aa)(blockSize:Int)(y:(List Int)×Int):Fw:=(.exit 0,⟨[.own 31,.int .i64 n,.fn (.func 207) [] [.ptr 1 [.fn (.func 183) [] [.ptr 2 [Am c] 0 0,.ptr 1 [.sl 2 (List.map Aw c2)] 0 0]] 0 0],.int .i64 blockSize,.int .i64 y.2,.any,.any],[],[(31,⟨1,List.map (AV.int .i64) y.1⟩)],true⟩)
attribute [local go_sem] cp PZ PX ZV Mm Ml Mj in
theorem FH{n:Int}{c:AX}{c2:List Aa}{blockSize:Int}{sgm_:(List Int)×Int×Int}{rho_:(List Int)×Int}(h:AS (Ba n c c2 blockSize) sgm_=some rho_):∃ L0,∀ L,L0<=L->CV (Aq (AP qC) L ZV) Mm Ml Mj L (PZ n c c2 blockSize sgm_)=PX n c c2 blockSize rho_:=by
 refine Ax (E:=PZ n c c2 blockSize) (R:=PX n c c2 blockSize) (fun y=>by first|(intro c;cases c)|(rcases y with y|y<;>(intro c;cases c))|(rcases y with y|y|y<;>(intro c;cases c))) ?_ h;clear h;rintro⟨data,a,b⟩ o_ h;dsimp only[Ba] at h;rcases AE h with⟨z1,h⟩|⟨z1,h⟩
 ·try simp only[go_sem,N1] at z1
  obtain⟨y_2,z2,h⟩:=AB h;have fz2:=AFo z2;try simp only[go_sem,z1] at fz2
  obtain rfl:=AA h;refine⟨0,fun L hL=>?_⟩;simp only[go_sem, *]
 ·try simp only[go_sem,N1] at z1
  obtain rfl:=AA h;refine⟨0,fun L hL=>?_⟩;simp only[go_sem,z1]
def Ti(n:Int)(c:AX)(c2:List Aa)(blockSize:Int):((List Int)×Int×Int)->St
 | (data,a,b)=>⟨[.own 31,.int .i64 n,.fn (.func 207) [] [.ptr 1 [.fn (.func 183) [] [.ptr 2 [Am c] 0 0,.ptr 1 [.sl 2 (List.map Aw c2)] 0 0]] 0 0],.int .i64 blockSize,.int .i64 a,.int .i64 b,.any],[],[(31,⟨1,List.map (AV.int .i64) data⟩)],true⟩
def TK(n:Int)(c:AX)(c2:List Aa)(blockSize:Int)(y:(List Int)×Int):Fw:=(.exit 4,⟨[.own 31,.int .i64 n,.fn (.func 207) [] [.ptr 1 [.fn (.func 183) [] [.ptr 2 [Am c] 0 0,.ptr 1 [.sl 2 (List.map Aw c2)] 0 0]] 0 0],.int .i64 blockSize,.int .i64 y.2,.any,.any],[],[(31,⟨1,List.map (AV.int .i64) y.1⟩)],true⟩)
attribute [local go_sem] cp Ti TK ZT OZ OY OX PZ PX Mm Ml Mj in
theorem FF{n:Int}{c:AX}{c2:List Aa}{blockSize:Int}{sgm_:(List Int)×Int×Int}{rho_:(List Int)×Int}(h:AS (CA n c c2 blockSize) sgm_=some rho_):∃ L0,∀ L,L0<=L->CV (Aq (AP qC) L ZT) OZ OY OX L (Ti n c c2 blockSize sgm_)=TK n c c2 blockSize rho_:=by
 refine Ax (E:=Ti n c c2 blockSize) (R:=TK n c c2 blockSize) (fun y=>by first|(intro c;cases c)|(rcases y with y|y<;>(intro c;cases c))|(rcases y with y|y|y<;>(intro c;cases c))) ?_ h;clear h;rintro⟨data,a,b⟩ o_ h;dsimp only[CA] at h;rcases AE h with⟨z6,h⟩|⟨z6,h⟩
 ·try simp only[go_sem,N1] at z6
  obtain⟨y_7,z7,h⟩:=AB h;have fz7:=AFl z7;try simp only[go_sem,z6] at fz7
  obtain rfl:=AA h;refine⟨0,fun L hL=>?_⟩;simp only[go_sem, *]
 ·try simp only[go_sem,N1] at z6
  obtain rfl:=AA h;refine⟨0,fun L hL=>?_⟩;simp only[go_sem,z6]
def Xu(n:Int)(c:AX)(c2:List Aa):((List Int)×Int)->St
 | (data,blockSize)=>⟨[.own 31,.int .i64 n,.fn (.func 207) [] [.ptr 1 [.fn (.func 183) [] [.ptr 2 [Am c] 0 0,.ptr 1 [.sl 2 (List.map Aw c2)] 0 0]] 0 0],.int .i64 blockSize,.any,.any,.any],[],[(31,⟨1,List.map (AV.int .i64) data⟩)],true⟩
def XU(n:Int)(c:AX)(c2:List Aa)(y:(List Int)):Fw:=(.exit 2,⟨[.own 31,.any,.any,.any,.any,.any,.any],[],[(31,⟨1,List.map (AV.int .i64) y⟩)],true⟩)
attribute [local go_sem] Xu XU ZU Rj Ri Rh PZ PX Mm Ml Mj Ti TK OZ OY OX cp in
theorem FG{n:Int}{c:AX}{c2:List Aa}{sgm_:(List Int)×Int}{rho_:(List Int)}(h:AS (BZ n c c2) sgm_=some rho_):∃ L0,∀ L,L0<=L->CV (Aq (AP qC) L ZU) Rj Ri Rh L (Xu n c c2 sgm_)=XU n c c2 rho_:=by
 refine Ax (E:=Xu n c c2) (R:=XU n c c2) (fun y=>by first|(intro c;cases c)|(rcases y with y|y<;>(intro c;cases c))|(rcases y with y|y|y<;>(intro c;cases c))) ?_ h;clear h;rintro⟨data,blockSize⟩ o_ h;dsimp only[BZ] at h;rcases AE h with⟨z5,h⟩|⟨z5,h⟩
 ·try simp only[go_sem,N1] at z5
  obtain⟨y_8,z8,h⟩:=AB h;obtain⟨Lz8,ez8⟩:=FF z8;rcases AE h with⟨z9,h⟩|⟨z9,h⟩
  ·try simp only[go_sem,N1,z5] at z9
   obtain⟨y_10,z10,h⟩:=AB h;have fz10:=AFl z10;try simp only[go_sem, *] at fz10
   obtain rfl:=AA h;refine⟨Lz8,fun L hL=>?_⟩;have ez8:=ez8 L (by omega);try simp only[go_sem, *] at ez8
   simp only[go_sem, *]
  ·try simp only[go_sem,N1,z5] at z9
   obtain rfl:=AA h;refine⟨Lz8,fun L hL=>?_⟩;have ez8:=ez8 L (by omega);try simp only[go_sem, *] at ez8
   simp only[go_sem, *]
 ·try simp only[go_sem,N1] at z5
  obtain rfl:=AA h;refine⟨0,fun L hL=>?_⟩;simp only[go_sem,z5]
attribute [local go_sem] PZ PX Mm Ml Mj Ti TK OZ OY OX Xu XU Rj Ri Rh cp in
theorem API{data:List Int}{n:Int}{cmp_c0_f_0:AX}{cmp_c0_f_1:List Aa}{y_:(List Int)}(h:Be data n cmp_c0_f_0 cmp_c0_f_1=some y_):uE.F [.fresh 1 (List.map (AV.int .i64) data),.int .i64 n,.fn (.func 207) [] [.ptr 1 [.fn (.func 183) [] [.ptr 2 [Am cmp_c0_f_0] 0 0,.ptr 1 [.sl 2 (List.map Aw cmp_c0_f_1)] 0 0]] 0 0]]=⟨true,.cv undef,[.fresh 1 (List.map (AV.int .i64) y_),.any,.any]⟩:=by
 refine Jn ?_;dsimp only[Be] at h;obtain⟨y_3,z3,h⟩:=AB h;obtain⟨Lz3,ez3⟩:=FH z3;obtain⟨y_4,z4,h⟩:=AB h;have fz4:=AFo z4;try simp only[go_sem] at fz4
 obtain⟨y_11,z11,h⟩:=AB h;obtain⟨Lz11,ez11⟩:=FG z11;obtain⟨z12,h⟩:=AC h;try simp only[go_sem,N1] at z12
 obtain rfl:=AA h;refine⟨Lz3+Lz11,fun L hL=>?_⟩;have ez3:=ez3 L (by omega);have ez11:=ez11 L (by omega);try simp only[go_sem,z12] at ez3
 try simp only[go_sem,z12] at ez11
 simp only[go_sem, *]
def ACr:List Nat:=[0,1]
def yv:CN:=⟨2,2,.region false [ PM 4 0,PM 5 0,PO 6 (.len false S0),PM 7 1,PO 8 (.call 215 [S3,S1,S0])],[]⟩
def ALa:List (Nat×Ak):=[(215,uE)]
theorem qq:AP ALa 215=some uE:=rfl
def uD:Ak:=bH ALa yv [.io,.bor]
theorem s_94:AQ Tryz.prog 206 uD:=DH _ (AF s_93 AL) (by kernel_rfl:Ab Tryz.prog 206 yv ACr=true)
theorem M_94:uD.modes=[.io,.bor]:=rfl
theorem AQI:uD.flat=false:=rfl
attribute [go_sem] M_94 AQI qq
theorem APH{x:List Int}{cmp_c0_f_0:AX}{cmp_c0_f_1:List Aa}{y_:(List Int)}(h:BN x cmp_c0_f_0 cmp_c0_f_1=some y_):uD.F [.fresh 1 (List.map (AV.int .i64) x),.fn (.func 207) [] [.ptr 1 [.fn (.func 183) [] [.ptr 2 [Am cmp_c0_f_0] 0 0,.ptr 1 [.sl 2 (List.map Aw cmp_c0_f_1)] 0 0]] 0 0]]=⟨true,.cv undef,[.fresh 1 (List.map (AV.int .i64) y_),.any]⟩:=by
 refine Jn ?_;dsimp only[BN] at h;obtain⟨y_1,z1,h⟩:=AB h;have fz1:=API z1;try simp only[go_sem] at fz1
 obtain⟨z2,h⟩:=AC h;try simp only[go_sem,N1] at z2
 obtain rfl:=AA h;refine⟨0,fun L hL=>?_⟩;simp only[go_sem,yv, *]
def ADA:List Nat:=[0,1,3,4,5]
def zB:CN:=⟨2,5,.seq (.region false [ VO 2 3 (.box V1),VO 3 4 (.newnil 1)]) (.seq (.region false [ PM 6 0,PO 7 (.call 204 [S0,(.c (.fn (.func 205) [] []))]),VS 4 5 0]) (.seq (.region false [ PM 8 4,PO 9 (.mkFn (.func 207) [] [V2]),PO 10 (.call 206 [S1,S0])]) (.seq (.region false [ PM 11 4,VS 3 4 0]) (.ret)))),[.t 3]⟩
def AGK:List (Nat×Ak):=[(204,uL),(206,uD)]
theorem qp:AP AGK 204=some uL:=rfl
theorem qo:AP AGK 206=some uD:=rfl
def uC:Ak:=DN AGK zB [.bor,.bor]
theorem s_95:AQ Tryz.prog 182 uC:=AI _ rfl (AF s_84 (AF s_94 AL)) (by kernel_rfl:Ab Tryz.prog 182 zB ADA=true)
theorem M_95:uC.modes=[.bor,.bor]:=rfl
theorem AQH:uC.flat=true:=rfl
attribute [go_sem] M_95 AQH qp qo
theorem APG{n:Int}{number_c0:AX}{number_c1:List Aa}{y_:(List Int)}(h:CE n number_c0 number_c1=some y_):uC.F [.int .i64 n,.fn (.func 183) [] [.ptr 2 [Am number_c0] 0 0,.ptr 1 [.sl 2 (List.map Aw number_c1)] 0 0]]=⟨true,.fresh 1 (List.map (AV.int .i64) y_),[.any,.any]⟩:=by
 refine Ah (by simp only[Do,EN,Ej,List.all_cons,List.all_nil,Bool.and_self,Bk (f:=(AV.int .i64)) (fun _=>rfl)]) ?_;dsimp only[CE] at h;obtain⟨y_1,z1,h⟩:=AB h;have fz1:=APM z1;try simp only[go_sem] at fz1
 obtain⟨y_2,z2,h⟩:=AB h;have fz2:=APH z2;try simp only[go_sem] at fz2
 obtain rfl:=AA h;refine⟨0,fun L hL=>?_⟩;simp only[go_sem,zB, *]
def ADR:List Nat:=[0,1,2,3,4]
def zJ:CN:=⟨2,5,.seq (.region false [ VO 2 2 (.box V0),VO 3 3 (.box V1),VO 4 4 (.newnil 1)]) (.seq (.region false [ PO 5 (L1 V3),PO 6 (.len false S0),PO 7 (.mkFn (.func 183) [] [V2,V3]),PO 8 (.call 182 [S1,S0]),VS 4 4 0]) (.ret)),[.t 4]⟩
def ALZ:List (Nat×Ak):=[(182,uC)]
theorem qn:AP ALZ 182=some uC:=rfl
def kV:Ak:=DN ALZ zJ [.bor,.bor]
theorem AMW:AQ Tryz.prog 146 kV:=AI _ rfl (AF s_95 AL) (by kernel_rfl:Ab Tryz.prog 146 zJ ADR=true)
theorem M_96:kV.modes=[.bor,.bor]:=rfl
theorem AQG:kV.flat=true:=rfl
attribute [go_sem] M_96 AQG qn
theorem AFk{e_:AX}{curve:List Aa}{y_:(List Int)}(h:Gb e_ curve=some y_):kV.F [Am e_,.sl 2 (List.map Aw curve)]=⟨true,.fresh 1 (List.map (AV.int .i64) y_),[.any,.any]⟩:=by
 refine Ah (by simp only[Do,EN,Ej,List.all_cons,List.all_nil,Bool.and_self,Bk (f:=(AV.int .i64)) (fun _=>rfl)]) ?_;dsimp only[Gb] at h;obtain⟨y_1,z1,h⟩:=AB h;have fz1:=APG z1;try simp only[go_sem] at fz1
 obtain rfl:=AA h;refine⟨0,fun L hL=>?_⟩;simp only[go_sem,zJ,fz1]
def ZX:IR:=.seq (.region false [ VO 11 17 (B1 (.v 10) V9)]) (.seq (.cond (.v 11) (.skip) (.exit 0)) (.seq (.block 1 (.seq (.region false [ PM 18 10,PO 19 (.ixAddr 1 V8 (.v 10)),PO 20 (L1 S0),VS 5 7 2,VS 6 8 0]) (.seq (.region false [ PM 21 3,PM 22 5,PO 23 (B0 S0 (I6 1)),PM 24 3,PO 25 (.len false S0),PO 26 (.bin false .rem S2 S0),PO 27 (.ixAddr 1 S5 S0),PO 28 (L1 S0),VS 7 9 0]) (.anyo 14 [ SO 0 29 (.mov V4),SO 1 30 (.mov V0),SO 2 31 (.mov V6),SO 3 32 (.ixAddr 2 S1 (.s
 2)),SO 4 33 (F1 S3),SO 5 34 (L1 S4),SO 6 35 (.mov V0),SO 7 36 (.mov V7),SO 8 37 (.ixAddr 2 S6 S7),SO 9 38 (F1 S8),SO 10 39 (L1 S9),SO 11 40 (B3 S5 (.s 10)),SO 12 41 (.callp 102 [(.s 11)]),SO 13 42 (B0 S0 (.s 12)),VS 4 6 13] [] .skip)))) (.region false [ PO 43 (B0 (.v 10) (I6 1)),VS 10 16 0])))
def Rp:List Bool:=[true,false,false,true,true,false,false,false,true,true,true,false]
def Ro:List Bool:=[false,false,false,false,true,false,false,false,false,false,false,false]
def Rn:List Bool:=[false,false,true,false,false,false,false,false,false,false,false,false]
def ACu:List Nat:=[0,1,4,5,6,7,8,9,14,15,16,17]
def pI:CN:=⟨2,12,.seq (.region false [ VO 2 4 (.mov (I6 0))]) (.seq (.region false [ PM 10 1,PO 11 (.build [.int .i64 (0),.int .i64 (0)] [(1,1,S0)]),PM 12 0,PO 13 (.call 146 [S1,S0]),VS 3 5 0]) (.seq (.region false [ VO 4 6 (.mov (I6 0))]) (.seq (.seq (.region false [ VO 8 14 (.mov V3),VO 9 15 (.len false V8),VO 10 16 (.mov (I6 0))]) (.block 0 (.loop Rp Ro Rn ZX))) (.seq (.region false [ PM 44 4,VS 2 4 0]) (.ret))))),[.t 2]⟩
def ABO:List (Nat×Ak):=[(146,kV),(102,Vv)]
theorem ql:AP ABO 146=some kV:=rfl
theorem qm:AP ABO 102=some Vv:=rfl
def uB:Ak:=DN ABO pI [.bor,.bor]
theorem s_97:AQ Tryz.prog 203 uB:=AI _ rfl (AF AMW (AF ABi AL)) (by kernel_rfl:Ab Tryz.prog 203 pI ACu=true)
theorem M_97:uB.modes=[.bor,.bor]:=rfl
theorem AQF:uB.flat=true:=rfl
attribute [go_sem] M_97 AQF ql qm
def Xt(curve:List Aa)(order:List Int)(t15:Int):(Int×Int)->St
 | (length,t16)=>⟨[.sl 2 (List.map Aw curve),.any,.any,.own 3200000,.int .i64 length,.any,.any,.any,.own 3200000,.int .i64 t15,.int .i64 t16,.any],[],[(3200000,⟨1,List.map (AV.int .i64) order⟩)],true⟩
def XT(curve:List Aa)(order:List Int)(t15:Int)(y:Int):Fw:=(.exit 0,⟨[.any,.any,.any,.any,.int .i64 y,.any,.any,.any,.any,.any,.any,.any],[],[],true⟩)
attribute [local go_sem] pI Xt XT ZX Rp Ro Rn in
theorem Ms{curve:List Aa}{order:List Int}{t15:Int}{sgm_:Int×Int}{rho_:Int}(h:AS (DR curve order t15) sgm_=some rho_):∃ L0,∀ L,L0<=L->CV (Aq (AP ABO) L ZX) Rp Ro Rn L (Xt curve order t15 sgm_)=XT curve order t15 rho_:=by
 refine Ax (E:=Xt curve order t15) (R:=XT curve order t15) (fun y=>by first|(intro c;cases c)|(rcases y with y|y<;>(intro c;cases c))|(rcases y with y|y|y<;>(intro c;cases c))) ?_ h;clear h;rintro⟨length,t16⟩ o_ h;dsimp only[DR] at h;rcases AE h with⟨z2,h⟩|⟨z2,h⟩
 ·try simp only[go_sem,N1] at z2
  obtain⟨z3,h⟩:=AC h;have lz3:=Az z3;try simp only[go_sem] at lz3
  try simp only[go_sem,N1,z2] at z3
  obtain⟨z4,h⟩:=AC h;try simp only[go_sem,N1, *] at z4
  obtain⟨z5,h⟩:=AC h;have lz5:=Az z5;try simp only[go_sem] at lz5
  try simp only[go_sem,N1, *] at z5
  obtain⟨z6,h⟩:=AC h;have lz6:=Az z6;try simp only[go_sem] at lz6
  try simp only[go_sem,N1, *] at z6
  obtain⟨z7,h⟩:=AC h;have lz7:=Az z7;try simp only[go_sem] at lz7
  try simp only[go_sem,N1, *] at z7
  obtain⟨y_8,z8,h⟩:=AB h;have fz8:=kx z8;try simp only[go_sem, *] at fz8
  obtain rfl:=AA h;refine⟨0,fun L hL=>?_⟩;simp only[go_sem, *]
 ·try simp only[go_sem,N1] at z2
  obtain rfl:=AA h;refine⟨0,fun L hL=>?_⟩;simp only[go_sem,z2]
attribute [local go_sem] Xt XT Rp Ro Rn pI in
theorem APF{curve:List Aa}{period:Int}{y_:Int}(h:Fl curve period=some y_):uB.F [.sl 2 (List.map Aw curve),.int .i64 period]=⟨true,.int .i64 y_,[.any,.any]⟩:=by
 refine Ah rfl ?_;dsimp only[Fl] at h;obtain⟨y_1,z1,h⟩:=AB h;have fz1:=AFk z1;try simp only[go_sem] at fz1
 obtain⟨y_9,z9,h⟩:=AB h;obtain⟨Lz9,ez9⟩:=Ms z9;obtain rfl:=AA h;refine⟨Lz9,fun L hL=>?_⟩;have ez9:=ez9 L (by omega);try simp only[go_sem] at ez9
 simp only[go_sem, *]
def Za:IR:=.seq (.region false [ VO 8 12 (B1 V7 V6)]) (.seq (.cond V8 (.skip) (.exit 0)) (.seq (.block 1 (.seq (.region false [ PO 13 (.ixAddr 1 V5 V7),PO 14 (L1 S0),VS 4 7 0]) (.region false [ PM 15 3,PM 16 0,PM 17 4,PO 18 (.call 203 [S1,S0]),PO 19 (.mkSl 1 (.int .i64 (0)) 1 [(0,S0)]),PO 20 (.app 1 8 (.int .i64 (0)) S4 S0),VS 3 5 0]))) (.region false [ PO 21 (B0 V7 (I6 1)),VS 7 11 0])))
def Rz:List Bool:=[true,false,false,true,false,true,true,true,false]
def Ry:List Bool:=[false,false,false,true,false,false,false,false,false]
def Rx:List Bool:=[false,false,true,false,false,false,false,false,false]
def ADC:List Nat:=[0,1,4,5,7,9,10,11,12]
def pL:CN:=⟨2,9,.seq (.region false [ VO 2 4 (.newnil 1)]) (.seq (.region false [ PO 8 (.mkSl 1 (.int .i64 (0)) 0 []),VS 3 5 0]) (.seq (.seq (.region false [ VO 5 9 (.mov V1),VO 6 10 (.len false V5),VO 7 11 (.mov (I6 0))]) (.block 0 (.loop Rz Ry Rx Za))) (.seq (.region false [ PM 22 3,VS 2 4 0]) (.ret)))),[.t 2]⟩
def AGJ:List (Nat×Ak):=[(203,uB)]
theorem qk:AP AGJ 203=some uB:=rfl
def uA:Ak:=DN AGJ pL [.bor,.bor]
theorem s_98:AQ Tryz.prog 180 uA:=AI _ rfl (AF s_97 AL) (by kernel_rfl:Ab Tryz.prog 180 pL ADC=true)
theorem M_98:uA.modes=[.bor,.bor]:=rfl
theorem AQE:uA.flat=true:=rfl
attribute [go_sem] M_98 AQE qk
def Xs(curve:List Aa)(t9:List Int)(t10:Int):((List Int)×Int)->St
 | (out,t11)=>⟨[.sl 2 (List.map Aw curve),.any,.any,.own 3200000,.any,.sl 1 (List.map (AV.int .i64) t9),.int .i64 t10,.int .i64 t11,.any],[],[(3200000,⟨1,List.map (AV.int .i64) out⟩)],true⟩
def XS(curve:List Aa)(t9:List Int)(t10:Int)(y:(List Int)):Fw:=(.exit 0,⟨[.any,.any,.any,.own 3200000,.any,.any,.any,.any,.any],[],[(3200000,⟨1,List.map (AV.int .i64) y⟩)],true⟩)
attribute [local go_sem] pL Xs XS Za Rz Ry Rx in
theorem MJ{curve:List Aa}{t9:List Int}{t10:Int}{sgm_:(List Int)×Int}{rho_:(List Int)}(h:AS (DI curve t9 t10) sgm_=some rho_):∃ L0,∀ L,L0<=L->CV (Aq (AP AGJ) L Za) Rz Ry Rx L (Xs curve t9 t10 sgm_)=XS curve t9 t10 rho_:=by
 refine Ax (E:=Xs curve t9 t10) (R:=XS curve t9 t10) (fun y=>by first|(intro c;cases c)|(rcases y with y|y<;>(intro c;cases c))|(rcases y with y|y|y<;>(intro c;cases c))) ?_ h;clear h;rintro⟨out,t11⟩ o_ h;dsimp only[DI] at h;rcases AE h with⟨z1,h⟩|⟨z1,h⟩
 ·try simp only[go_sem,N1] at z1
  obtain⟨z2,h⟩:=AC h;have lz2:=Az z2;try simp only[go_sem] at lz2
  try simp only[go_sem,N1,z1] at z2
  obtain⟨y_3,z3,h⟩:=AB h;have fz3:=APF z3;try simp only[go_sem, *] at fz3
  obtain⟨z4,h⟩:=AC h;try simp only[go_sem,N1, *] at z4
  obtain rfl:=AA h;refine⟨0,fun L hL=>?_⟩;simp only[go_sem, *]
 ·try simp only[go_sem,N1] at z1
  obtain rfl:=AA h;refine⟨0,fun L hL=>?_⟩;simp only[go_sem,z1]
attribute [local go_sem] Xs XS Rz Ry Rx pL in
theorem APE{curve:List Aa}{periods:List Int}{y_:(List Int)}(h:Ey curve periods=some y_):uA.F [.sl 2 (List.map Aw curve),.sl 1 (List.map (AV.int .i64) periods)]=⟨true,.fresh 1 (List.map (AV.int .i64) y_),[.any,.any]⟩:=by
 refine Ah (by simp only[Do,EN,Ej,List.all_cons,List.all_nil,Bool.and_self,Bk (f:=(AV.int .i64)) (fun _=>rfl)]) ?_;dsimp only[Ey] at h;obtain⟨y_5,z5,h⟩:=AB h;obtain⟨Lz5,ez5⟩:=MJ z5;obtain rfl:=AA h;refine⟨Lz5,fun L hL=>?_⟩;have ez5:=ez5 L (by omega);try simp only[go_sem] at ez5
 simp only[go_sem,ez5]
theorem oe:AQ Tryz.prog 141 Kt:=zg
def ZZ:IR:=.seq (.region false [ VO 6 9 (B1 V5 V4)]) (.seq (.cond V6 (.skip) (.exit 0)) (.seq (.block 1 (.seq (.region false [ PM 10 5,VS 3 5 0]) (.test false [ PM 11 1,PM 12 0,PM 13 3,PO 14 (.ixAddr 1 S1 S0),PO 15 (L1 S0),PO 16 (B2 S4 S0)] S0 (.seq (.region false [ PM 17 3,VS 2 4 0]) (.ret)) (.skip)))) (.region false [ PO 18 (B0 V5 (I6 1)),VS 5 8 0])))
def Rw:List Bool:=[true,true,false,false,true,true,false]
def Rv:List Bool:=[false,false,false,false,false,false,false]
def Ru:List Bool:=[false,false,true,false,false,false,false]
def ADB:List Nat:=[0,1,4,5,7,8,9]
def pK:CN:=⟨2,7,.seq (.region false [ VO 2 4 (.mov (I6 0))]) (.seq (.seq (.region false [ PM 6 0,VO 4 7 (.len false S0),VO 5 8 (.mov (I6 0))]) (.block 0 (.loop Rw Rv Ru ZZ))) (.seq (.region false [ VO 2 4 (.mov (.c (.int .i64 (-1))))]) (.ret))),[.t 2]⟩
def AFB:List (Nat×Ak):=[]
def ed:Ak:=DN AFB pK [.bor,.bor]
theorem ANX:AQ Tryz.prog 181 ed:=AI _ rfl AL (by kernel_rfl:Ab Tryz.prog 181 pK ADB=true)
theorem APD:ed.modes=[.bor,.bor]:=rfl
theorem ALJ:ed.flat=true:=rfl
attribute [go_sem] APD ALJ
def UD(s_:List Int)(v:Int)(t7:Int):Int->St
 | t8=>⟨[.sl 1 (List.map (AV.int .i64) s_),.int .i64 v,.any,.any,.int .i64 t7,.int .i64 t8,.any],[],[],true⟩
def Td(s_:List Int)(v:Int)(t7:Int):(Unit⊕Int)->Fw
 | .inl y=>(.exit 0,⟨[.any,.any,.any,.any,.any,.any,.any],[],[],true⟩)
 | .inr y=>(.ret,⟨[.any,.any,.int .i64 y,.any,.any,.any,.any],[],[],true⟩)
attribute [local go_sem] pK UD Td ZZ Rw Rv Ru in
theorem Jt{s_:List Int}{v:Int}{t7:Int}{sgm_:Int}{rho_:Unit⊕Int}(h:AS (CC s_ v t7) sgm_=some rho_):∃ L0,∀ L,L0<=L->CV (Aq (AP AFB) L ZZ) Rw Rv Ru L (UD s_ v t7 sgm_)=Td s_ v t7 rho_:=by
 refine Ax (E:=UD s_ v t7) (R:=Td s_ v t7) (fun y=>by first|(intro c;cases c)|(rcases y with y|y<;>(intro c;cases c))|(rcases y with y|y|y<;>(intro c;cases c))) ?_ h;clear h;intro t8 o_ h;dsimp only[CC] at h;rcases AE h with⟨z1,h⟩|⟨z1,h⟩
 ·try simp only[go_sem,N1] at z1
  obtain⟨z2,h⟩:=AC h;have lz2:=Az z2;try simp only[go_sem] at lz2
  try simp only[go_sem,N1,z1] at z2
  rcases AE h with⟨z3,h⟩|⟨z3,h⟩
  all_goals
  try simp only[go_sem,N1, *] at z3
  obtain rfl:=AA h;refine⟨0,fun L hL=>?_⟩;simp only[go_sem, *]
 ·try simp only[go_sem,N1] at z1
  obtain rfl:=AA h;refine⟨0,fun L hL=>?_⟩;simp only[go_sem,z1]
attribute [local go_sem] UD Td Rw Rv Ru pK in
theorem AKL{s_:List Int}{v:Int}{y_:Int}(h:DL s_ v=some y_):ed.F [.sl 1 (List.map (AV.int .i64) s_),.int .i64 v]=⟨true,.int .i64 y_,[.any,.any]⟩:=by
 refine Ah rfl ?_;dsimp only[DL] at h;obtain⟨y_4,z4,h⟩:=AB h;obtain⟨Lz4,ez4⟩:=Jt z4;rcases y_4 with y_4a|y_4b
 all_goals
 dsimp only at h;obtain rfl:=AA h;refine⟨Lz4,fun L hL=>?_⟩;have ez4:=ez4 L (by omega);try simp only[go_sem] at ez4
 simp only[go_sem,ez4]
def ADU:List Nat:=[0,1,4,5]
def zK:CN:=⟨2,4,.seq (.region false [ VO 2 4 (.mov (I6 0))]) (.seq (.region false [ PM 6 0,PM 7 1,PO 8 (.call 180 [S1,S0]),VS 3 5 0]) (.seq (.region false [ PM 9 1,PM 10 3,PM 11 3,PO 12 (.call 141 [S0]),PO 13 (.call 181 [S2,S0]),PO 14 (.ixAddr 1 S4 S0),PO 15 (L1 S0),VS 2 4 0]) (.ret))),[.t 2]⟩
def oX:List (Nat×Ak):=[(180,uA),(141,Kt),(181,ed)]
theorem mc:AP oX 180=some uA:=rfl
theorem me:AP oX 141=some Kt:=rfl
theorem mb:AP oX 181=some ed:=rfl
def eZ:Ak:=DN oX zK [.bor,.bor]
theorem ANW:AQ Tryz.prog 143 eZ:=AI _ rfl (AF s_98 (AF oe (AF ANX AL))) (by kernel_rfl:Ab Tryz.prog 143 zK ADU=true)
theorem APC:eZ.modes=[.bor,.bor]:=rfl
theorem ALI:eZ.flat=true:=rfl
attribute [go_sem] APC ALI mc me mb
theorem AKK{curve:List Aa}{periods:List Int}{y_:Int}(h:KE curve periods=some y_):eZ.F [.sl 2 (List.map Aw curve),.sl 1 (List.map (AV.int .i64) periods)]=⟨true,.int .i64 y_,[.any,.any]⟩:=by
 refine Ah rfl ?_;dsimp only[KE] at h;obtain⟨y_1,z1,h⟩:=AB h;have fz1:=APE z1;try simp only[go_sem] at fz1
 obtain⟨y_2,z2,h⟩:=AB h;have fz2:=kt z2;try simp only[go_sem] at fz2
 obtain⟨y_3,z3,h⟩:=AB h;have fz3:=AKL z3;try simp only[go_sem] at fz3
 obtain⟨z4,h⟩:=AC h;have lz4:=Az z4;try simp only[go_sem] at lz4
 try simp only[go_sem,N1] at z4
 obtain rfl:=AA h;refine⟨0,fun L hL=>?_⟩;simp only[go_sem,zK, *]
def AHD:List Nat:=[0,1,3,4,5,6]
def ACP:CN:=⟨2,6,.seq (.region false [ VO 2 3 (.box V1),VO 3 4 (.mov (I6 0)),VO 4 5 (.mov (I6 0))]) (.seq (.seq (.region false [ PM 7 0,PO 8 (L3 V2),PO 9 (.call 142 [S1,S0,(I6 3)]),VS 5 6 0]) (.test false [ PM 10 5,PO 11 (B7 S0 (I6 0))] S0 (.seq (.region false [ PM 12 5,VO 3 4 (.mov (I6 0)),VS 4 5 0]) (.ret)) (.skip))) (.seq (.region false [ PM 13 0,PO 14 (L3 V2),PO 15 (.call 144 [S0]),PO 16 (.call 143 [S2,S0]),VS 3 4 0,VO 4 5 (.mov (I6 0))]) (.ret))),[.t 3,.t 4]⟩
def oW:List (Nat×Ak):=[(142,uO),(144,uN),(143,eZ)]
theorem ma:AP oW 142=some uO:=rfl
theorem mY:AP oW 144=some uN:=rfl
theorem mZ:AP oW 143=some eZ:=rfl
def eY:Ak:=DN oW ACP [.bor,.bor]
theorem ANV:AQ Tryz.prog 95 eY:=AI _ rfl (AF s_81 (AF s_82 (AF ANW AL))) (by kernel_rfl:Ab Tryz.prog 95 ACP AHD=true)
theorem APB:eY.modes=[.bor,.bor]:=rfl
theorem ALH:eY.flat=true:=rfl
attribute [go_sem] APB ALH ma mY mZ
theorem AKJ{curve:List Aa}{x:If}{y_:Int×Int}(h:HM curve x=some y_):eY.F [.sl 2 (List.map Aw curve),LE x]=⟨true,.tup [.int .i64 y_.1,.int .i64 y_.2],[.any,.any]⟩:=by
 refine Ah rfl ?_;dsimp only[HM] at h;obtain⟨y_1,z1,h⟩:=AB h;have fz1:=APP z1;try simp only[go_sem] at fz1
 rcases AE h with⟨z2,h⟩|⟨z2,h⟩
 ·try simp only[go_sem,N1] at z2
  obtain rfl:=AA h;refine⟨0,fun L hL=>?_⟩;simp only[go_sem,ACP, *]
 ·try simp only[go_sem,N1] at z2
  obtain⟨y_3,z3,h⟩:=AB h;have fz3:=APO z3;try simp only[go_sem,z2] at fz3
  obtain⟨y_4,z4,h⟩:=AB h;have fz4:=AKK z4;try simp only[go_sem,z2] at fz4
  obtain rfl:=AA h;refine⟨0,fun L hL=>?_⟩;simp only[go_sem,ACP, *]
def Ze:IR:=.seq (.region false [ VO 7 10 (B1 V6 V5)]) (.seq (.cond V7 (.skip) (.exit 0)) (.seq (.block 1 (.seq (.region false [ PO 11 (.ixAddr 2 V4 V6),PO 12 (.load true 2 S0),VO 3 5 (.alloc (.agg [.int .i64 (0),.int .i64 (0)])),⟨.no,0,none,.store 2 V3 S0⟩]) (.region false [ PM 13 2,PO 14 (F1 V3),PO 15 (L1 S0),PO 16 (.mkSl 1 (.int .i64 (0)) 1 [(0,S0)]),PO 17 (.app 1 8 (.int .i64 (0)) S3 S0),VS 2 3 0]))) (.region false [ PO 18 (B0 V6 (I6 1)),VS 6 9 0])))
def SM:List Bool:=[false,false,true,false,true,true,true,false]
def SL:List Bool:=[false,false,true,false,false,false,false,false]
def SK:List Bool:=[false,true,false,false,false,false,false,false]
def ADX:List Nat:=[0,2,3,5,7,8,9,10]
def pR:CN:=⟨1,8,.seq (.region false [ VO 1 2 (.newnil 1)]) (.seq (.region false [ PO 6 (.mkSl 1 (.int .i64 (0)) 0 []),VS 2 3 0]) (.seq (.seq (.region false [ VO 4 7 (.mov V0),VO 5 8 (.len false V4),VO 6 9 (.mov (I6 0))]) (.block 0 (.loop SM SL SK Ze))) (.seq (.region false [ PM 19 2,VS 1 2 0]) (.ret)))),[.t 1]⟩
def AFA:List (Nat×Ak):=[]
def eX:Ak:=DN AFA pR [.bor]
theorem ANU:AQ Tryz.prog 139 eX:=AI _ rfl AL (by kernel_rfl:Ab Tryz.prog 139 pR ADX=true)
theorem APA:eX.modes=[.bor]:=rfl
theorem ALG:eX.flat=true:=rfl
attribute [go_sem] APA ALG
def UC(t7:List Aa)(t8:Int):((List Int)×Int)->St
 | (out,t9)=>⟨[.any,.any,.own 3200000,.any,.sl 2 (List.map Aw t7),.int .i64 t8,.int .i64 t9,.any],[],[(3200000,⟨1,List.map (AV.int .i64) out⟩)],true⟩
def Tc(t7:List Aa)(t8:Int)(y:(List Int)):Fw:=(.exit 0,⟨[.any,.any,.own 3200000,.any,.any,.any,.any,.any],[],[(3200000,⟨1,List.map (AV.int .i64) y⟩)],true⟩)
attribute [local go_sem] pR UC Tc Ze SM SL SK in
theorem Sx{t7:List Aa}{t8:Int}{sgm_:(List Int)×Int}{rho_:(List Int)}(h:AS (GY t7 t8) sgm_=some rho_):∃ L0,∀ L,L0<=L->CV (Aq (AP AFA) L Ze) SM SL SK L (UC t7 t8 sgm_)=Tc t7 t8 rho_:=by
 refine Ax (E:=UC t7 t8) (R:=Tc t7 t8) (fun y=>by first|(intro c;cases c)|(rcases y with y|y<;>(intro c;cases c))|(rcases y with y|y|y<;>(intro c;cases c))) ?_ h;clear h;rintro⟨out,t9⟩ o_ h;dsimp only[GY] at h;rcases AE h with⟨z1,h⟩|⟨z1,h⟩
 ·try simp only[go_sem,N1] at z1
  obtain⟨z2,h⟩:=AC h;have lz2:=Az z2;try simp only[go_sem] at lz2
  try simp only[go_sem,N1,z1] at z2
  obtain⟨z3,h⟩:=AC h;try simp only[go_sem,N1, *] at z3
  obtain rfl:=AA h;refine⟨0,fun L hL=>?_⟩;simp only[go_sem, *]
 ·try simp only[go_sem,N1] at z1
  obtain rfl:=AA h;refine⟨0,fun L hL=>?_⟩;simp only[go_sem,z1]
attribute [local go_sem] UC Tc SM SL SK pR in
theorem AKI{curve:List Aa}{y_:(List Int)}(h:KN curve=some y_):eX.F [.sl 2 (List.map Aw curve)]=⟨true,.fresh 1 (List.map (AV.int .i64) y_),[.any]⟩:=by
 refine Ah (by simp only[Do,EN,Ej,List.all_cons,List.all_nil,Bool.and_self,Bk (f:=(AV.int .i64)) (fun _=>rfl)]) ?_;dsimp only[KN] at h;obtain⟨y_4,z4,h⟩:=AB h;obtain⟨Lz4,ez4⟩:=Sx z4;obtain rfl:=AA h;refine⟨Lz4,fun L hL=>?_⟩;have ez4:=ez4 L (by omega);try simp only[go_sem] at ez4
 simp only[go_sem,ez4]
theorem ABf:AQ Tryz.prog 140 Nk:=zh
def AHE:List Nat:=[0,2,3,4]
def yo:CN:=⟨1,4,.seq (.region false [ VO 1 2 (.mov (I6 0)),VO 2 3 (.mov (I6 0))]) (.seq (.block 0 (.test false [ PM 6 0,PO 7 (.call 138 [S0]),PO 8 (.un .not S0),PO 5 (.mov S0)] S0 (.seq (.region false [ VO 1 2 (.mov (I6 0)),VO 2 3 (.mov (I6 1))]) (.ret)) (.test false [ PM 10 0,PO 11 (.len false S0),PO 12 (B2 S0 (I6 0)),PO 9 (.mov S0)] S0 (.seq (.region false [ VO 1 2 (.mov (I6 0)),VO 2 3 (.mov (I6 3))]) (.ret)) (.skip)))) (.seq (.region false [ PM 13 0,PO 14 (.call 139 [S0]),VS 3 4 0]) (.seq (.region false [ PM 15 3,PO 16
 (.call 140 [S0]),PM 17 3,PO 18 (.call 141 [S0]),PO 19 (B3 S2 S0),VS 1 2 0,VO 2 3 (.mov (I6 0))]) (.ret)))),[.t 1,.t 2]⟩
def iO:List (Nat×Ak):=[(138,bY),(139,eX),(140,Nk),(141,Kt)]
theorem mX:AP iO 138=some bY:=rfl
theorem mW:AP iO 139=some eX:=rfl
theorem mV:AP iO 140=some Nk:=rfl
theorem mU:AP iO 141=some Kt:=rfl
def eW:Ak:=DN iO yo [.bor]
theorem ANT:AQ Tryz.prog 94 eW:=AI _ rfl (AF AGi (AF ANU (AF ABf (AF oe AL)))) (by kernel_rfl:Ab Tryz.prog 94 yo AHE=true)
theorem AOz:eW.modes=[.bor]:=rfl
theorem ALF:eW.flat=true:=rfl
attribute [go_sem] AOz ALF mX mW mV mU
theorem AKH{curve:List Aa}{y_:Int×Int}(h:Gg curve=some y_):eW.F [.sl 2 (List.map Aw curve)]=⟨true,.tup [.int .i64 y_.1,.int .i64 y_.2],[.any]⟩:=by
 refine Ah rfl ?_;dsimp only[Gg] at h;obtain⟨y_1,z1,h⟩:=AB h;have fz1:=AAj z1;try simp only[go_sem] at fz1
 rcases AE h with⟨z2,h⟩|⟨z2,h⟩
 ·try simp only[go_sem,N1] at z2
  obtain rfl:=AA h;refine⟨0,fun L hL=>?_⟩;simp only[go_sem,yo, *]
 ·try simp only[go_sem,N1] at z2
  rcases AE h with⟨z3,h⟩|⟨z3,h⟩
  ·try simp only[go_sem,N1,z2] at z3
   obtain rfl:=AA h;refine⟨0,fun L hL=>?_⟩;simp only[go_sem,yo, *]
  ·try simp only[go_sem,N1,z2] at z3
   obtain⟨y_4,z4,h⟩:=AB h;have fz4:=AKI z4;try simp only[go_sem, *] at fz4
   obtain⟨y_5,z5,h⟩:=AB h;have fz5:=AAh z5;try simp only[go_sem, *] at fz5
   obtain⟨y_6,z6,h⟩:=AB h;have fz6:=kt z6;try simp only[go_sem, *] at fz6
   obtain rfl:=AA h;refine⟨0,fun L hL=>?_⟩;simp only[go_sem,yo, *]
def ADS:List Nat:=[0,1,2]
def pP:CN:=⟨1,3,.seq (.region false [ VO 1 1 (.box V0),VO 2 2 (.mov C0)]) (.seq (.region false [ PO 3 (F0 V1),PO 4 (L1 S0),PO 5 (.call 76 [S0]),PO 6 (.mov S0),⟨.push,7,(G1 0),F1 V1⟩,⟨.push,8,(G1 1),L1 S0⟩,⟨.push,9,(G1 2),.call 73 [S0,(I6 1),(I6 1000000)]⟩,PO 10 (.pick S3 S0 C0),VS 2 2 0]) (.ret)),[.t 2]⟩
def wA:List (Nat×Ak):=[(76,c_7),(73,ee)]
theorem tF:AP wA 76=some c_7:=rfl
theorem tG:AP wA 73=some ee:=rfl
def eV:Ak:=DN wA pP [.bor]
theorem ANS:AQ Tryz.prog 145 eV:=AI _ rfl (AF s_7 (AF s_0 AL)) (by kernel_rfl:Ab Tryz.prog 145 pP ADS=true)
theorem AOy:eV.modes=[.bor]:=rfl
theorem ALE:eV.flat=true:=rfl
attribute [go_sem] AOy ALE tF tG
theorem AKG{e_:AX}{y_:Bool}(h:GO e_=some y_):eV.F [Am e_]=⟨true,.bool y_,[.any]⟩:=by
 refine Ah rfl ?_;dsimp only[GO] at h;obtain⟨y_1,z1,h⟩:=AB h;have fz1:=AJc z1;try simp only[go_sem] at fz1
 obtain⟨z2,h⟩:=AC h;rcases Ag z2 with⟨gz2,z2⟩|gz2
 ·try simp only[go_sem,N1] at gz2
  obtain⟨y_2,hz2⟩:=isX z2;have fz2:=VD hz2;try simp only[go_sem,N1,gz2] at hz2
  try simp only[go_sem,gz2] at fz2
  obtain rfl:=AA h;refine⟨0,fun L hL=>?_⟩;simp only[go_sem,pP, *]
 ·try simp only[go_sem,N1] at gz2
  obtain rfl:=AA h;refine⟨0,fun L hL=>?_⟩;simp only[go_sem,pP, *]
def AHC:List Nat:=[0,1,2,4,5]
def yn:CN:=⟨2,5,.seq (.region false [ VO 2 2 (.box V0),VO 3 4 (.newnil 1),VO 4 5 (.mov (I6 0))]) (.seq (.test false [ PO 6 (.load true 2 V2),PO 7 (.call 145 [S0]),PO 8 (.un .not S0),PO 9 (.mov S0),⟨.push,10,(G0 0),.mov V1⟩,⟨.push,11,(G0 1),.call 138 [S0]⟩,⟨.push,12,(G0 2),.un .not S0⟩,PO 13 (.pick S3 C1 S0)] S0 (.seq (.region false [ VO 3 4 (.newnil 1),VO 4 5 (.mov (I6 1))]) (.ret)) (.skip)) (.seq (.region false [ PO 14 (.load true 2 V2),PM 15 1,PO 16
 (.call 146 [S1,S0]),VS 3 4 0,VO 4 5 (.mov (I6 0))]) (.ret))),[.t 3,.t 4]⟩
def oV:List (Nat×Ak):=[(145,eV),(138,bY),(146,kV)]
theorem mS:AP oV 145=some eV:=rfl
theorem mT:AP oV 138=some bY:=rfl
theorem mR:AP oV 146=some kV:=rfl
def eU:Ak:=DN oV yn [.bor,.bor]
theorem ANR:AQ Tryz.prog 96 eU:=AI _ rfl (AF ANS (AF AGi (AF AMW AL))) (by kernel_rfl:Ab Tryz.prog 96 yn AHC=true)
theorem AOx:eU.modes=[.bor,.bor]:=rfl
theorem ALD:eU.flat=true:=rfl
attribute [go_sem] AOx ALD mS mT mR
theorem AKF{e_:AX}{curve:List Aa}{y_:(List Int)×Int}(h:IC e_ curve=some y_):eU.F [Am e_,.sl 2 (List.map Aw curve)]=⟨true,.tup [.fresh 1 (List.map (AV.int .i64) y_.1),.int .i64 y_.2],[.any,.any]⟩:=by
 refine Ah (by simp only[Do,EN,Ej,List.all_cons,List.all_nil,Bool.and_self,Bk (f:=(AV.int .i64)) (fun _=>rfl)]) ?_;dsimp only[IC] at h;obtain⟨y_1,z1,h⟩:=AB h;have fz1:=AKG z1;try simp only[go_sem] at fz1
 obtain⟨z2,h⟩:=AC h;rcases Ag z2 with⟨gz2,z2⟩|gz2
 ·try simp only[go_sem,N1] at gz2
  all_goals
  obtain⟨y_2,hz2⟩:=isX z2;have fz2:=AAj hz2;try simp only[go_sem,N1,gz2] at hz2
  all_goals
  try simp only[go_sem,gz2] at fz2
  rcases AE h with⟨z3,h⟩|⟨z3,h⟩
  ·try simp only[go_sem,N1, *] at z3
   all_goals
   obtain rfl:=AA h;refine⟨0,fun L hL=>?_⟩;simp only[go_sem,yn, *]
  ·try simp only[go_sem,N1, *] at z3
   all_goals
   obtain⟨y_4,z4,h⟩:=AB h;have fz4:=AFk z4;try simp only[go_sem, *] at fz4
   obtain rfl:=AA h;refine⟨0,fun L hL=>?_⟩;simp only[go_sem,yn, *]
 ·have gz2n:=FO gz2;have gz2nn:=Is gz2n;try simp only[go_sem,N1] at gz2nn
  all_goals
  rcases AE h with⟨z3,h⟩|⟨z3,h⟩
  ·try simp only[go_sem,N1,gz2nn] at z3
   all_goals
   obtain rfl:=AA h;refine⟨0,fun L hL=>?_⟩;simp only[go_sem,yn, *]
  ·try simp only[go_sem,N1,gz2nn] at z3
   all_goals
   (simp_all)
theorem og:AQ Tryz.prog 99 IY:=zi
def fR:IR:=.seq (.region false [ VO 7 10 (B1 V6 V5)]) (.seq (.cond V7 (.skip) (.exit 0)) (.seq (.block 1 (.seq (.region false [ PO 11 (.ixAddr 1 V4 V6),PO 12 (L1 S0),VS 3 5 0]) (.region false [ PM 13 2,PM 14 3,PO 15 (.call 37 [S0]),PO 16 (.mkSl 1 (.str []) 1 [(0,S0)]),PO 17 (.app 1 16 (.str []) S3 S0),VS 2 3 0]))) (.region false [ PO 18 (B0 V6 (I6 1)),VS 6 9 0])))
def WO:List Bool:=[false,false,true,false,true,true,true,false]
def WN:List Bool:=[false,false,true,false,false,false,false,false]
def WM:List Bool:=[false,true,false,false,false,false,false,false]
def AHB:List Nat:=[0,2,3,5,7,8,9,10]
def ACO:CN:=⟨1,8,.seq (.region false [ VO 1 2 (.mov C2)]) (.seq (.region false [ PO 6 (.mkSl 1 (.str []) 0 []),VS 2 3 0]) (.seq (.seq (.region false [ VO 4 7 (.mov V0),VO 5 8 (.len false V4),VO 6 9 (.mov (I6 0))]) (.block 0 (.loop WO WN WM fR))) (.seq (.region false [ PM 19 2,PO 20 (.call 99 [S0,C3]),VS 1 2 0]) (.ret)))),[.t 1]⟩
def oU:List (Nat×Ak):=[(37,KT),(99,IY)]
theorem tE:AP oU 37=some KT:=rfl
theorem tD:AP oU 99=some IY:=rfl
def eT:Ak:=DN oU ACO [.bor]
theorem ANQ:AQ Tryz.prog 97 eT:=AI _ rfl (AF Yi (AF og AL)) (by kernel_rfl:Ab Tryz.prog 97 ACO AHB=true)
theorem AOw:eT.modes=[.bor]:=rfl
theorem ALC:eT.flat=true:=rfl
attribute [go_sem] AOw ALC tE tD
def UB(t7:List Int)(t8:Int):((List (List UInt8))×Int)->St
 | (words,t9)=>⟨[.any,.any,.own 3200000,.any,.sl 1 (List.map (AV.int .i64) t7),.int .i64 t8,.int .i64 t9,.any],[],[(3200000,⟨1,List.map AV.str words⟩)],true⟩
def Tb(t7:List Int)(t8:Int)(y:(List (List UInt8))):Fw:=(.exit 0,⟨[.any,.any,.own 3200000,.any,.any,.any,.any,.any],[],[(3200000,⟨1,List.map AV.str y⟩)],true⟩)
attribute [local go_sem] ACO UB Tb fR WO WN WM in
theorem Sy{t7:List Int}{t8:Int}{sgm_:(List (List UInt8))×Int}{rho_:(List (List UInt8))}(h:AS (GZ t7 t8) sgm_=some rho_):∃ L0,∀ L,L0<=L->CV (Aq (AP oU) L fR) WO WN WM L (UB t7 t8 sgm_)=Tb t7 t8 rho_:=by
 refine Ax (E:=UB t7 t8) (R:=Tb t7 t8) (fun y=>by first|(intro c;cases c)|(rcases y with y|y<;>(intro c;cases c))|(rcases y with y|y|y<;>(intro c;cases c))) ?_ h;clear h;rintro⟨words,t9⟩ o_ h;dsimp only[GZ] at h;rcases AE h with⟨z1,h⟩|⟨z1,h⟩
 ·try simp only[go_sem,N1] at z1
  obtain⟨z2,h⟩:=AC h;have lz2:=Az z2;try simp only[go_sem] at lz2
  try simp only[go_sem,N1,z1] at z2
  obtain⟨y_3,z3,h⟩:=AB h;have fz3:=KU z3;try simp only[go_sem, *] at fz3
  obtain⟨z4,h⟩:=AC h;try simp only[go_sem,N1, *] at z4
  obtain rfl:=AA h;refine⟨0,fun L hL=>?_⟩;simp only[go_sem, *]
 ·try simp only[go_sem,N1] at z1
  obtain rfl:=AA h;refine⟨0,fun L hL=>?_⟩;simp only[go_sem,z1]
attribute [local go_sem] UB Tb WO WN WM ACO in
theorem AKE{list:List Int}{y_:(List UInt8)}(h:KP list=some y_):eT.F [.sl 1 (List.map (AV.int .i64) list)]=⟨true,.str y_,[.any]⟩:=by
 refine Ah rfl ?_;dsimp only[KP] at h;obtain⟨y_5,z5,h⟩:=AB h;obtain⟨Lz5,ez5⟩:=Sy z5;obtain⟨y_6,z6,h⟩:=AB h;have fz6:=az z6;try simp only[go_sem] at fz6
 obtain rfl:=AA h;refine⟨Lz5,fun L hL=>?_⟩;have ez5:=ez5 L (by omega);try simp only[go_sem] at ez5
 simp only[go_sem, *]
def ADt:List Nat:=[0,2]
def zW:CN:=⟨1,2,.seq (.region false [ VO 1 2 (.mov (I6 0))]) (.seq (.region false [ PM 3 0,PO 4 (.len false S0),VS 1 2 0]) (.ret)),[.t 1]⟩
def AMI:List (Nat×Ak):=[]
def eS:Ak:=DN AMI zW [.bor]
theorem ANP:AQ Tryz.prog 104 eS:=AI _ rfl AL (by kernel_rfl:Ab Tryz.prog 104 zW ADt=true)
theorem AOv:eS.modes=[.bor]:=rfl
theorem ALB:eS.flat=true:=rfl
attribute [go_sem] AOv ALB
theorem AKD{list:List (List UInt8)}{y_:Int}(h:Hr list=some y_):eS.F [.sl 1 (List.map AV.str list)]=⟨true,.int .i64 y_,[.any]⟩:=by
 refine Ah rfl ?_;dsimp only[Hr] at h;obtain rfl:=AA h;refine⟨0,fun L hL=>?_⟩;simp only[go_sem,zW]
def AHg:List Nat:=[0,2]
def AHh:CN:=⟨1,2,.seq (.region false [ VO 1 2 (.newnil 1)]) (.seq (.region false [ PM 3 0,PM 4 0,PO 5 (.call 104 [S0]),PO 6 (.call 37 [S0]),PO 7 (B0 (.c (.str [111,107,32])) S0),PO 8 (.mkSl 1 (.str []) 1 [(0,S0)]),PO 9 (.app 1 16 (.str []) S5 S0),VS 1 2 0]) (.ret)),[.t 1]⟩
def vz:List (Nat×Ak):=[(104,eS),(37,KT)]
theorem mQ:AP vz 104=some eS:=rfl
theorem sy:AP vz 37=some KT:=rfl
def Vh:Ak:=DN vz AHh [.mov]
theorem AFM:AQ Tryz.prog 65 Vh:=AI _ rfl (AF ANP (AF Yi AL)) (by kernel_rfl:Ab Tryz.prog 65 AHh AHg=true)
theorem AOu:Vh.modes=[.mov]:=rfl
theorem ALA:Vh.flat=true:=rfl
attribute [go_sem] AOu ALA mQ sy
theorem AAz{lines:List (List UInt8)}{y_:(List (List UInt8))}(h:JE lines=some y_):Vh.F [.fresh 1 (List.map AV.str lines)]=⟨true,.fresh 1 (List.map AV.str y_),[.any]⟩:=by
 refine Ah (by simp only[Do,EN,Ej,List.all_cons,List.all_nil,Bool.and_self,Bk (f:=AV.str) (fun _=>rfl)]) ?_;dsimp only[JE] at h;obtain⟨y_1,z1,h⟩:=AB h;have fz1:=AKD z1;try simp only[go_sem] at fz1
 obtain⟨y_2,z2,h⟩:=AB h;have fz2:=KU z2;try simp only[go_sem] at fz2
 obtain⟨z3,h⟩:=AC h;try simp only[go_sem,N1] at z3
 obtain⟨z4,h⟩:=AC h;try simp only[go_sem,N1,z3] at z4
 obtain rfl:=AA h;refine⟨0,fun L hL=>?_⟩;simp only[go_sem,AHh, *]
