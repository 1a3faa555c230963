/- Lemmas and walks, several texts in one. No condition. -/
import Derived.Test.YteaicgcfpcklkaaGreatDoorP9
import Derived.Test.YteaicgcfpcklkaaGreatDoorRows
import Derived.WalkKit
import Derived.Lib.Hide
import Derived.Deep.RegionLaw
import Derived.Deep.AppendLies
set_option linter.unusedSimpArgs false
set_option linter.unusedVariables false
set_option maxRecDepth 100000
set_option maxHeartbeats 64000000
open Go.IntKind (i64 u64)
noncomputable section
namespace Go.Proofs.YteaicgcfpcklkaaGreatDoor
open Go Go.RowKit
def fg:IR:=.seq (.region false [ VO 20 103 (B1 (.v 19) (.v 18))]) (.seq (.cond (.v 20) (.skip) (.exit 1)) (.seq (.block 2 (.seq (.region false [ PO 104 (.ixAddr 2 (.v 17) (.v 19)),PO 105 (.load true 2 S0),VO 15 17 (.alloc (.agg [.int .i64 (0),.int .i64 (0)])),⟨.no,0,none,.store 2 (.v 15) S0⟩]) (.anyo 11 [ SO 0 106 (.mov (.v 14)),SO 1 107 (F0 (.v 15)),SO 2 108 (L1 S1),SO 3 109 (.callp 37 [S2]),SO 4 110 (B0 S3 C3),SO 5 111 (F1 (.v 15)),SO 6 112 (L1 S5),SO 7 113 (.callp 86
 [S6]),SO 8 114 (B0 S4 S7),SO 9 115 (.pur (.mkSl 1 (.str []) 1 [(0,S8)])),SO 10 116 (.app 1 16 (.str []) S0 S9),VS 14 15 10] [] .skip))) (.region false [ PO 117 (B0 (.v 19) (I6 1)),VS 19 102 0])))
def Wm:List Bool:=[false,false,false,false,false,false,false,false,false,false,false,false,false,false,true,false,false,true,true,true,false]
def Wl:List Bool:=[false,false,false,false,false,false,false,false,false,false,false,false,false,false,true,false,false,false,false,false,false]
def Wk:List Bool:=[false,false,false,true,true,false,false,false,false,false,false,false,false,false,false,false,false,false,false,false,false]
def AHq:List Nat:=[0,1,3,4,5,6,7,8,9,10,11,12,13,14,15,17,38,100,101,102,103]
def ACZ:CN:=⟨2,21,.seq (.region false [ VO 2 3 (.box V1),VO 3 4 (.newnil 1),VO 4 5 (.mov (I6 0))]) (.seq (.anyo 12 [ SO 0 19 (.mov V0),SO 1 20 (.nilck S0),SO 2 21 (F1 S1),SO 3 22 (L1 S2),SO 4 23 (F0 V2),SO 5 24 (L1 S4),SO 6 25 (.ixAddr 1 S5 (I6 1)),SO 7 26 (L1 S6),SO 8 27 (.call 93 [S3,S7]),SO 9 18 (.mov S8),SO 10 28 (.ext S9 0),SO 11 29 (.ext S9 1),VS 5 6 10,VS 6 7 11] [] .skip) (.seq (.test false [ PM 30 6,PO 31 (B7 S0 (I6 0))] S0 (.seq
 (.region false [ PM 32 6,VO 3 4 (.newnil 1),VS 4 5 0]) (.ret)) (.skip)) (.seq (.region false [ PO 33 (F1 V2),PO 34 (L1 S0),VS 7 8 0]) (.seq (.seq (.region false [ PO 35 (F0 V2),PO 36 (L1 S0),PO 37 (.ixAddr 1 S0 (I6 0)),VO 16 38 (L1 S0)]) (.block 0 (.test false [ PO 40 (B2 (.v 16) (.c (.str [97,109,112]))),PO 39 (.mov S0)] S0 (.seq (.region false [ PM 42 5,PO 43 (.call 94 [S0]),PO 41 (.mov S0),PO 44 (.ext S0 0),PO 45 (.ext S1 1),VS 8 9 1,VS 9 10 0]) (.seq (.region false
 [ PM 46 8,PO 47 (.call 37 [S0]),PM 48 9,PO 49 (.call 60 [S1,S0]),PO 50 (.ext S0 0),PO 51 (.ext S1 1),VS 3 4 1,VS 4 5 0]) (.ret))) (.test false [ PO 53 (B2 (.v 16) (.c (.str [98,101,115,116]))),PO 52 (.mov S0)] S0 (.seq (.anyo 15 [ SO 0 55 (.mov V5),SO 1 56 (.mov V7),SO 2 57 (.ixAddr 1 S1 (I6 2)),SO 3 58 (L1 S2),SO 4 59 (.mov V7),SO 5 60 (.ixAddr 1 S4 (I6 3)),SO 6 61 (L1 S5),SO 7 62 (.mov V7),SO 8 63 (.ixAddr 1 S7 (I6 4)),SO 9 64 (L1 S8),SO 10 65 (.pur (.build
 [.int .i64 (0),.int .i64 (0),.int .i64 (0)] [(0,1,S3),(1,1,S6),(2,1,S9)])),SO 11 66 (.call 95 [S0,(.s 10)]),SO 12 54 (.mov (.s 11)),SO 13 67 (.ext (.s 12) 0),SO 14 68 (.ext (.s 12) 1),VS 10 11 13,VS 11 12 14] [] .skip) (.seq (.region false [ PM 69 10,PO 70 (.call 37 [S0]),PM 71 11,PO 72 (.call 60 [S1,S0]),PO 73 (.ext S0 0),PO 74 (.ext S1 1),VS 3 4 1,VS 4 5 0]) (.ret))) (.test false [ PO 76 (B2 (.v 16) (.c (.str [102,111,108,100]))),PO 75 (.mov S0)] S0 (.seq (.region false [ PM 78 7,PO 79 (.ixAddr 1 S0
 (I6 2)),PO 80 (L1 S0),PO 81 (.build [.int .i64 (0),.int .i64 (0)] [(0,1,(I6 0)),(1,1,S0)]),PM 82 5,PO 83 (.call 96 [S1,S0]),PO 77 (.mov S0),PO 84 (.ext S0 0),PO 85 (.ext S1 1),VS 12 13 1,VS 13 14 0]) (.seq (.test false [ PM 86 12,PO 87 (.len false S0),PO 88 (B2 S0 (I6 0))] S0 (.seq (.region false [ PM 89 13,PO 90 (.call 60 [(.c (.str [45])),S0]),PO 91 (.ext S0 0),PO 92 (.ext S1 1),VS 3 4 1,VS 4 5 0]) (.ret)) (.skip)) (.seq (.region false [ PM 93 12,PO 94 (.call 97 [S0]),PM 95 13,PO 96
 (.call 60 [S1,S0]),PO 97 (.ext S0 0),PO 98 (.ext S1 1),VS 3 4 1,VS 4 5 0]) (.ret)))) (.skip)))))) (.seq (.region false [ PO 99 (.mkSl 1 (.str []) 0 []),VS 14 15 0]) (.seq (.seq (.region false [ VO 17 100 (.mov V5),VO 18 101 (.len false (.v 17)),VO 19 102 (.mov (I6 0))]) (.block 1 (.loop Wm Wl Wk fg))) (.seq (.region false [ PM 118 14,PO 119 (.call 65 [S0]),VS 3 4 0,VO 4 5 (.mov (I6 0))]) (.ret)))))))),[.t 3,.t 4]⟩
def OF:List (Nat×Ak):=[(93,uQ),(94,eW),(37,KT),(60,bZ),(95,eY),(96,eU),(97,eT),(86,ba),(65,Vh)]
theorem sq:AP OF 93=some uQ:=rfl
theorem so:AP OF 94=some eW:=rfl
theorem sx:AP OF 37=some KT:=rfl
theorem sw:AP OF 60=some bZ:=rfl
theorem sn:AP OF 95=some eY:=rfl
theorem sm:AP OF 96=some eU:=rfl
theorem sk:AP OF 97=some eT:=rfl
theorem sr:AP OF 86=some ba:=rfl
theorem su:AP OF 65=some Vh:=rfl
def eR:Ak:=DN OF ACZ [.bor,.bor]
theorem ANO:AQ Tryz.prog 58 eR:=AI _ rfl (AF s_78 (AF ANT (AF Yi (AF AGj (AF ANV (AF ANR (AF ANQ (AF AGk (AF AFM AL))))))))) (by kernel_rfl:Ab Tryz.prog 58 ACZ AHq=true)
theorem AOt:eR.modes=[.bor,.bor]:=rfl
theorem AKz:eR.flat=true:=rfl
attribute [go_sem] AOt AKz sq so sx sw sn sm sk sr su
def UA(t100:List Aa)(t101:Int):((List (List UInt8))×Int)->St
 | (lines,t102)=>⟨[.any,.any,.any,.any,.any,.any,.any,.any,.any,.any,.any,.any,.any,.any,.own 3200000,.any,.any,.own 3200032,.int .i64 t101,.int .i64 t102,.any],[],[(3200000,⟨1,List.map AV.str lines⟩),(3200032,⟨2,List.map Aw t100⟩)],true⟩
def Ta(t100:List Aa)(t101:Int)(y:(List (List UInt8))):Fw:=(.exit 1,⟨[.any,.any,.any,.any,.any,.any,.any,.any,.any,.any,.any,.any,.any,.any,.own 3200000,.any,.any,.any,.any,.any,.any],[],[(3200000,⟨1,List.map AV.str y⟩)],true⟩)
attribute [local go_sem] ACZ UA Ta fg Wm Wl Wk in
theorem Mu{t100:List Aa}{t101:Int}{sgm_:(List (List UInt8))×Int}{rho_:(List (List UInt8))}(h:AS (DS t100 t101) sgm_=some rho_):∃ L0,∀ L,L0<=L->CV (Aq (AP OF) L fg) Wm Wl Wk L (UA t100 t101 sgm_)=Ta t100 t101 rho_:=by
 refine Ax (E:=UA t100 t101) (R:=Ta t100 t101) (fun y=>by first|(intro c;cases c)|(rcases y with y|y<;>(intro c;cases c))|(rcases y with y|y|y<;>(intro c;cases c))) ?_ h;clear h;rintro⟨lines,t102⟩ o_ h;dsimp only[DS] at h;rcases AE h with⟨z23,h⟩|⟨z23,h⟩
 ·try simp only[go_sem,N1] at z23
  obtain⟨z24,h⟩:=AC h;have lz24:=Az z24;try simp only[go_sem] at lz24
  try simp only[go_sem,N1,z23] at z24
  obtain⟨y_25,z25,h⟩:=AB h;have fz25:=KU z25;try simp only[go_sem, *] at fz25
  obtain⟨z26,h⟩:=AC h;try simp only[go_sem,N1, *] at z26
  obtain⟨y_27,z27,h⟩:=AB h;have fz27:=pt z27;try simp only[go_sem, *] at fz27
  obtain⟨z28,h⟩:=AC h;try simp only[go_sem,N1, *] at z28
  obtain⟨z29,h⟩:=AC h;try simp only[go_sem,N1, *] at z29
  obtain rfl:=AA h;refine⟨0,fun L hL=>?_⟩;simp only[go_sem, *]
 ·try simp only[go_sem,N1] at z23
  obtain rfl:=AA h;refine⟨0,fun L hL=>?_⟩;simp only[go_sem,z23]
attribute [local go_sem] ACZ UA Ta Wm Wl Wk in
theorem gv{d:Bc}{c:HA}{y_:(List (List UInt8))×Int}(h:Ci d c=some y_):eR.F [.ptr 3 [Cj d] 0 0,Iy c]=⟨true,.tup [.fresh 1 (List.map AV.str y_.1),.int .i64 y_.2],[.any,.any]⟩:=by
 refine Ah (by simp only[Do,EN,Ej,List.all_cons,List.all_nil,Bool.and_self,Bk (f:=AV.str) (fun _=>rfl)]) ?_;dsimp only[Ci] at h;obtain⟨z1,h⟩:=AC h;have lz1:=Az z1;try simp only[go_sem] at lz1
 try simp only[go_sem,N1] at z1
 obtain⟨y_2,z2,h⟩:=AB h;have fz2:=APS z2;try simp only[go_sem,z1] at fz2
 rcases AE h with⟨z3,h⟩|⟨z3,h⟩
 ·try simp only[go_sem,N1,z1] at z3
  obtain rfl:=AA h;refine⟨0,fun L hL=>?_⟩;simp only[go_sem, *]
 ·try simp only[go_sem,N1,z1] at z3
  obtain⟨z4,h⟩:=AC h;have lz4:=Az z4;try simp only[go_sem] at lz4
  try simp only[go_sem,N1, *] at z4
  rcases AE h with⟨z5,h⟩|⟨z5,h⟩
  ·try simp only[go_sem,N1, *] at z5
   obtain⟨y_6,z6,h⟩:=AB h;have fz6:=AKH z6;try simp only[go_sem, *] at fz6
   obtain⟨y_7,z7,h⟩:=AB h;have fz7:=KU z7;try simp only[go_sem, *] at fz7
   obtain⟨y_8,z8,h⟩:=AB h;have fz8:=Tg z8;try simp only[go_sem, *] at fz8
   obtain rfl:=AA h;refine⟨0,fun L hL=>?_⟩;simp only[go_sem, *]
  ·try simp only[go_sem,N1, *] at z5
   rcases AE h with⟨z9,h⟩|⟨z9,h⟩
   ·try simp only[go_sem,N1, *] at z9
    obtain⟨z10,h⟩:=AC h;have lz10:=Az z10;try simp only[go_sem] at lz10
    try simp only[go_sem,N1, *] at z10
    obtain⟨z11,h⟩:=AC h;have lz11:=Az z11;try simp only[go_sem] at lz11
    try simp only[go_sem,N1, *] at z11
    obtain⟨z12,h⟩:=AC h;have lz12:=Az z12;try simp only[go_sem] at lz12
    try simp only[go_sem,N1, *] at z12
    obtain⟨y_13,z13,h⟩:=AB h;have fz13:=AKJ z13;try simp only[go_sem, *] at fz13
    obtain⟨y_14,z14,h⟩:=AB h;have fz14:=KU z14;try simp only[go_sem, *] at fz14
    obtain⟨y_15,z15,h⟩:=AB h;have fz15:=Tg z15;try simp only[go_sem, *] at fz15
    obtain rfl:=AA h;refine⟨0,fun L hL=>?_⟩;simp only[go_sem, *]
   ·try simp only[go_sem,N1, *] at z9
    rcases AE h with⟨z16,h⟩|⟨z16,h⟩
    ·try simp only[go_sem,N1, *] at z16
     obtain⟨z17,h⟩:=AC h;have lz17:=Az z17;try simp only[go_sem] at lz17
     try simp only[go_sem,N1, *] at z17
     obtain⟨y_18,z18,h⟩:=AB h;have fz18:=AKF z18;try simp only[go_sem, *] at fz18
     rcases AE h with⟨z19,h⟩|⟨z19,h⟩
     ·try simp only[go_sem,N1, *] at z19
      obtain⟨y_20,z20,h⟩:=AB h;have fz20:=Tg z20;try simp only[go_sem, *] at fz20
      obtain rfl:=AA h;refine⟨0,fun L hL=>?_⟩;simp only[go_sem, *]
     ·try simp only[go_sem,N1, *] at z19
      obtain⟨y_21,z21,h⟩:=AB h;have fz21:=AKE z21;try simp only[go_sem, *] at fz21
      obtain⟨y_22,z22,h⟩:=AB h;have fz22:=Tg z22;try simp only[go_sem, *] at fz22
      obtain rfl:=AA h;refine⟨0,fun L hL=>?_⟩;simp only[go_sem, *]
    ·try simp only[go_sem,N1, *] at z16
     obtain⟨y_30,z30,h⟩:=AB h;obtain⟨Lz30,ez30⟩:=Mu z30;obtain⟨y_31,z31,h⟩:=AB h;have fz31:=AAz z31;try simp only[go_sem, *] at fz31
     obtain rfl:=AA h;refine⟨Lz30,fun L hL=>?_⟩;have ez30:=ez30 L (by omega);try simp only[go_sem, *] at ez30
     simp only[go_sem, *]
def AHn:List Nat:=[0,1,2,3]
def ACY:CN:=⟨1,4,.seq (.region false [ VO 1 1 (.box V0),VO 2 2 (.mov C2)]) (.seq (.region false [ PO 4 (F3 V1),PO 5 (L1 S0),PO 6 (.call 86 [S0]),VS 3 3 0]) (.seq (.test false [ PO 7 (F4 V1),PO 8 (L1 S0)] S0 (.region false [ PM 9 3,PO 10 (B0 (.c (.str [60])) S0),VS 3 3 0]) (.skip)) (.seq (.anyo 10 [ SO 0 11 (F0 V1),SO 1 12 (L1 S0),SO 2 13 (.callp 37 [S1]),SO 3 14 (F1 V1),SO 4 15 (L1 S3),SO 5 16 (F2 V1),SO 6 17
 (L1 S5),SO 7 18 (.mov V3),SO 8 19 (.pur (.mkSl 1 (.str []) 4 [(0,S2),(1,S4),(2,S6),(3,S7)])),SO 9 20 (.callp 99 [S8,C3]),VS 2 2 9] [] .skip) (.ret)))),[.t 2]⟩
def oT:List (Nat×Ak):=[(86,ba),(37,KT),(99,IY)]
theorem si:AP oT 86=some ba:=rfl
theorem sj:AP oT 37=some KT:=rfl
theorem sg:AP oT 99=some IY:=rfl
def eQ:Ak:=DN oT ACY [.bor]
theorem ANN:AQ Tryz.prog 61 eQ:=AI _ rfl (AF AGk (AF Yi (AF og AL))) (by kernel_rfl:Ab Tryz.prog 61 ACY AHn=true)
theorem AOs:eQ.modes=[.bor]:=rfl
theorem AKy:eQ.flat=true:=rfl
attribute [go_sem] AOs AKy si sj sg
theorem AKC{e_:AD}{y_:(List UInt8)}(h:Ez e_=some y_):eQ.F [AN e_]=⟨true,.str y_,[.any]⟩:=by
 refine Ah rfl ?_;dsimp only[Ez] at h;obtain⟨y_1,z1,h⟩:=AB h;have fz1:=pt z1;try simp only[go_sem] at fz1
 rcases AE h with⟨z2,h⟩|⟨z2,h⟩
 ·try simp only[go_sem,N1] at z2
  obtain⟨z3,h⟩:=AC h;try simp only[go_sem,N1,z2] at z3
  obtain⟨y_4,z4,h⟩:=AB h;have fz4:=KU z4;try simp only[go_sem, *] at fz4
  obtain⟨y_5,z5,h⟩:=AB h;have fz5:=az z5;try simp only[go_sem, *] at fz5
  obtain rfl:=AA h;refine⟨0,fun L hL=>?_⟩;simp only[go_sem,ACY, *]
 ·try simp only[go_sem,N1] at z2
  obtain⟨y_6,z6,h⟩:=AB h;have fz6:=KU z6;try simp only[go_sem,z2] at fz6
  obtain⟨y_7,z7,h⟩:=AB h;have fz7:=az z7;try simp only[go_sem,z2] at fz7
  obtain rfl:=AA h;refine⟨0,fun L hL=>?_⟩;simp only[go_sem,ACY, *]
def AHk:List Nat:=[0,2]
def AHl:CN:=⟨1,2,.seq (.region false [ VO 1 2 (.mov (I6 0))]) (.seq (.region false [ PM 3 0,PO 4 (.len false S0),VS 1 2 0]) (.ret)),[.t 1]⟩
def AMH:List (Nat×Ak):=[]
def eP:Ak:=DN AMH AHl [.bor]
theorem ANM:AQ Tryz.prog 63 eP:=AI _ rfl AL (by kernel_rfl:Ab Tryz.prog 63 AHl AHk=true)
theorem AOr:eP.modes=[.bor]:=rfl
theorem AKx:eP.flat=true:=rfl
attribute [go_sem] AOr AKx
theorem AKB{list:List (List Int)}{y_:Int}(h:Gx list=some y_):eP.F [.sl 1 (List.map (slE 1 (AV.int .i64)) list)]=⟨true,.int .i64 y_,[.any]⟩:=by
 refine Ah rfl ?_;dsimp only[Gx] at h;obtain rfl:=AA h;refine⟨0,fun L hL=>?_⟩;simp only[go_sem,AHl]
def fv:IR:=.seq (.region false [ VO 19 95 (B1 (.v 18) (.v 17))]) (.seq (.cond (.v 19) (.skip) (.exit 1)) (.seq (.block 2 (.seq (.region false [ PO 96 (.ixAddr 3 (.v 16) (.v 18)),PO 97 (L3 S0),VO 12 14 (.alloc (.agg [.int .i64 (0),.str [],.int .i64 (0)])),⟨.no,0,none,.store 3 (.v 12) S0⟩]) (.region false [ PM 98 11,PO 99 (L3 (.v 12)),PO 100 (.call 64 [S0]),PO 101 (.mkSl 1 (.str []) 1 [(0,S0)]),PO 102 (.app 1 16 (.str []) S3 S0),VS 11 12 0]))) (.region false [ PO 103 (B0 (.v 18) (I6 1)),VS 18 94 0])))
def XE:List Bool:=[true,false,false,false,false,false,false,false,false,false,true,true,false,false,false,false,true,true,true,false]
def XD:List Bool:=[true,false,false,false,false,false,false,false,false,false,true,true,false,false,false,false,false,false,false,false]
def XC:List Bool:=[true,false,false,true,true,false,false,false,false,false,false,false,false,false,false,false,false,false,false,false]
def AIY:List Nat:=[0,1,3,4,5,6,7,8,9,10,11,12,14,18,19,28,92,93,94,95]
def ACi:CN:=⟨2,20,.seq (.region false [ VO 2 3 (.box V1),VO 3 4 (.newnil 1),VO 4 5 (.mov (I6 0))]) (.seq (.seq (.region false [ PO 15 (F0 V2),PO 16 (L1 S0),PO 17 (.ixAddr 1 S0 (I6 0)),VO 13 18 (L1 S0)]) (.block 0 (.seq (.test false [ PO 20 (B2 (.v 13) (.c (.str [115,116,97,114]))),VS 14 19 0] (.v 14) (.skip) (.test false [ PO 21 (B2 (.v 13) (.c (.str [101,115,116]))),VS 14 19 0] (.v 14) (.skip) (.region false [ PO 22 (B2 (.v 13) (.c (.str [101,110,116,101,114]))),VS 14 19 0])))
 (.cond (.v 14) (.seq (.region false [ PM 23 0,PO 24 (.load true 4 V2),PO 25 (.call 57 [S1,S0]),PO 26 (.ext S0 0),PO 27 (.ext S1 1),VS 3 4 1,VS 4 5 0]) (.ret)) (.seq (.test false [ PO 29 (B2 (.v 13) (.c (.str [99,117,114,118,101]))),VS 15 28 0] (.v 15) (.skip) (.test false [ PO 30 (B2 (.v 13) (.c (.str [97,109,112]))),VS 15 28 0] (.v 15) (.skip) (.test false [ PO 31 (B2 (.v 13) (.c (.str [98,101,115,116]))),VS 15 28 0] (.v 15) (.skip) (.region false [ PO 32 (B2 (.v 13) (.c (.str [102,111,108,100]))),
 VS 15 28 0])))) (.cond (.v 15) (.seq (.region false [ PM 33 0,PO 34 (.load true 4 V2),PO 35 (.call 58 [S1,S0]),PO 36 (.ext S0 0),PO 37 (.ext S1 1),VS 3 4 1,VS 4 5 0]) (.ret)) (.test false [ PO 39 (B2 (.v 13) (.c (.str [108,97,115,116]))),PO 38 (.mov S0)] S0 (.seq (.anyo 12 [ SO 0 41 (.safe [6] (.mov V0)),SO 1 42 (.safe [6] (.nilck S0)),SO 2 43 (.safe [6] (F1 S1)),SO 3 44 (.safe [6] (L1 S2)),SO 4 45 (.safe [6] (F0 V2)),SO 5 46 (.safe [6] (L1 S4)),SO 6 47 (.safe [6] (.ixAddr 1
 S5 (I6 1))),SO 7 48 (.safe [6] (L1 S6)),SO 8 49 (.call 59 [S3,S7]),SO 9 40 (.safe [6] (.mov S8)),SO 10 50 (.safe [6] (.ext S9 0)),SO 11 51 (.safe [6] (.ext S9 1)),VO 5 6 (.alloc (.agg [.int .i64 (0),.str [],.str [],.int .i64 (0),.bool false])),⟨.no,0,none,.store 5 V5 (.s 10)⟩,VO 6 7 (.flat (.mov (.s 11)))] [[0,1,2,3,4,5,6,7,8,9,10,12,11,13,14],[0,1,2,3,4,5,6,7,8,9,10,12,13,11,14],[0,1,2,3,4,5,6,7,12,8,9,10,11,13,14],[0,1,2,3,4,5,6,7,12,8,9,10,13,11,14]] .skip) (.seq (.region
 false [ PO 52 (L5 V5),PO 53 (.call 61 [S0]),PM 54 6,PO 55 (.call 60 [S1,S0]),PO 56 (.ext S0 0),PO 57 (.ext S1 1),VS 3 4 1,VS 4 5 0]) (.ret))) (.test false [ PO 59 (B2 (.v 13) (.c (.str [112,97,105,114,115]))),PO 58 (.mov S0)] S0 (.seq (.anyo 16 [ SO 0 61 (.mov V0),SO 1 62 (.nilck S0),SO 2 63 (F1 S1),SO 3 64 (L1 S2),SO 4 65 (F1 V2),SO 5 66 (L1 S4),SO 6 67 (.ixAddr 1 S5 (I6 1)),SO 7 68 (L1 S6),SO 8 69 (F1 V2),SO 9 70 (.load
 false 1 S8),SO 10 71 (.ixAddr 1 S9 (I6 2)),SO 11 72 (L1 (.s 10)),SO 12 73 (.call 62 [S3,S7,(.s 11)]),SO 13 60 (.mov (.s 12)),SO 14 74 (.ext (.s 13) 0),SO 15 75 (.ext (.s 13) 1),VS 7 8 14,VS 8 9 15] [] .skip) (.seq (.region false [ PM 76 7,PO 77 (.call 63 [S0]),PO 78 (.call 37 [S0]),PM 79 8,PO 80 (.call 60 [S1,S0]),PO 81 (.ext S0 0),PO 82 (.ext S1 1),VS 3 4 1,VS 4 5 0]) (.ret))) (.skip))))))))) (.seq (.region false [ PM 84 0,PO 85 (.nilck S0),PO 86 (F2 S0),PO 87 (L1 S0),PO 88 (.call 27 [(.s
 0)]),PO 83 (.mov S0),PO 89 (.ext S0 0),PO 90 (.ext S1 1),VS 9 10 1,VS 10 11 0]) (.seq (.region false [ PO 91 (.mkSl 1 (.str []) 0 []),VS 11 12 0]) (.seq (.seq (.region false [ VO 16 92 (.mov V9),VO 17 93 (.len false (.v 16)),VO 18 94 (.mov (I6 0))]) (.block 1 (.loop XE XD XC fv))) (.seq (.region false [ PM 104 11,PO 105 (.call 65 [S0]),PM 106 10,VS 3 4 1,VS 4 5 0]) (.ret)))))),[.t 3,.t 4]⟩
def MS:List (Nat×Ak):=[(57,uX),(58,eR),(59,Hi),(61,eQ),(60,bZ),(62,uj),(63,eP),(37,KT),(27,bb),(64,bc),(65,Vh)]
theorem sd:AP MS 57=some uX:=rfl
theorem sZ:AP MS 58=some eR:=rfl
theorem sY:AP MS 59=some Hi:=rfl
theorem sW:AP MS 61=some eQ:=rfl
theorem sX:AP MS 60=some bZ:=rfl
theorem sV:AP MS 62=some uj:=rfl
theorem sU:AP MS 63=some eP:=rfl
theorem se:AP MS 37=some KT:=rfl
theorem sf:AP MS 27=some bb:=rfl
theorem sS:AP MS 64=some bc:=rfl
theorem sR:AP MS 65=some Vh:=rfl
def eO:Ak:=bH MS ACi [.io,.bor]
theorem ANL:AQ Tryz.prog 31 eO:=DH _ (AF s_71 (AF ANO (AF bM (AF ANN (AF AGj (AF s_54 (AF ANM (AF Yi (AF AGl (AF AGm (AF AFM AL))))))))))) (by kernel_rfl:Ab Tryz.prog 31 ACi AIY=true)
theorem AOq:eO.modes=[.io,.bor]:=rfl
theorem AKw:eO.flat=false:=rfl
attribute [go_sem] AOq AKw sd sZ sY sW sX sV sU se sf sS sR
def Tz(d:Bc)(code:Int)(t92:List Ac)(t93:Int):((List (List UInt8))×Int)->St
 | (lines,t94)=>⟨[.ref 31 0 0,.any,.any,.any,.any,.any,.any,.any,.any,.any,.int .i64 code,.own 3200032,.any,.any,.any,.any,.own 3200064,.int .i64 t93,.int .i64 t94,.any],[],[(31,⟨3,[Cj d]⟩),(3200032,⟨1,List.map AV.str lines⟩),(3200064,⟨3,List.map CF t92⟩)],true⟩
def TZ(d:Bc)(code:Int)(t92:List Ac)(t93:Int)(y:(List (List UInt8))):Fw:=(.exit 1,⟨[.ref 31 0 0,.any,.any,.any,.any,.any,.any,.any,.any,.any,.int .i64 code,.own 3200032,.any,.any,.any,.any,.any,.any,.any,.any],[],[(31,⟨3,[Cj d]⟩),(3200032,⟨1,List.map AV.str y⟩)],true⟩)
attribute [local go_sem] ACi Tz TZ fv XE XD XC in
theorem Mv{d:Bc}{code:Int}{t92:List Ac}{t93:Int}{sgm_:(List (List UInt8))×Int}{rho_:(List (List UInt8))}(h:AS (DT d code t92 t93) sgm_=some rho_):∃ L0,∀ L,L0<=L->CV (Aq (AP MS) L fv) XE XD XC L (Tz d code t92 t93 sgm_)=TZ d code t92 t93 rho_:=by
 refine Ax (E:=Tz d code t92 t93) (R:=TZ d code t92 t93) (fun y=>by first|(intro c;cases c)|(rcases y with y|y<;>(intro c;cases c))|(rcases y with y|y|y<;>(intro c;cases c))) ?_ h;clear h;rintro⟨lines,t94⟩ o_ h;dsimp only[DT] at h;rcases AE h with⟨z29,h⟩|⟨z29,h⟩
 ·try simp only[go_sem,N1] at z29
  obtain⟨z30,h⟩:=AC h;have lz30:=Az z30;try simp only[go_sem] at lz30
  try simp only[go_sem,N1,z29] at z30
  obtain⟨y_31,z31,h⟩:=AB h;have fz31:=AAp z31;try simp only[go_sem, *] at fz31
  obtain⟨z32,h⟩:=AC h;try simp only[go_sem,N1, *] at z32
  obtain rfl:=AA h;refine⟨0,fun L hL=>?_⟩;simp only[go_sem, *]
 ·try simp only[go_sem,N1] at z29
  obtain rfl:=AA h;refine⟨0,fun L hL=>?_⟩;simp only[go_sem,z29]
attribute [local go_sem] ACi Tz TZ XE XD XC in
theorem AKA{d:Bc}{c:HA}{y_:(List (List UInt8))×Int×Bc}(h:Fq d c=some y_):eO.F [.mem 3 [Cj d] 0,Iy c]=⟨true,.tup [.fresh 1 (List.map AV.str y_.1),.int .i64 y_.2.1],[.mem 3 [Cj y_.2.2] 0,.any]⟩:=by
 refine Jn ?_;dsimp only[Fq] at h;obtain⟨z1,h⟩:=AC h;have lz1:=Az z1;try simp only[go_sem] at lz1
 try simp only[go_sem,N1] at z1
 rcases AE h with⟨z2,h⟩|⟨z2,h⟩
 ·try simp only[go_sem,N1,z1] at z2
  obtain⟨y_3,z3,h⟩:=AB h;have fz3:=AAk z3;try simp only[go_sem, *] at fz3
  obtain rfl:=AA h;refine⟨0,fun L hL=>?_⟩;simp only[go_sem, *]
 ·try simp only[go_sem,N1,z1] at z2
  rcases AE h with⟨z4,h⟩|⟨z4,h⟩
  ·try simp only[go_sem,N1, *] at z4
   obtain⟨y_5,z5,h⟩:=AB h;have fz5:=AAk z5;try simp only[go_sem, *] at fz5
   obtain rfl:=AA h;refine⟨0,fun L hL=>?_⟩;simp only[go_sem, *]
  ·try simp only[go_sem,N1, *] at z4
   rcases AE h with⟨z6,h⟩|⟨z6,h⟩
   ·try simp only[go_sem,N1, *] at z6
    obtain⟨y_7,z7,h⟩:=AB h;have fz7:=AAk z7;try simp only[go_sem, *] at fz7
    obtain rfl:=AA h;refine⟨0,fun L hL=>?_⟩;simp only[go_sem, *]
   ·try simp only[go_sem,N1, *] at z6
    rcases AE h with⟨z8,h⟩|⟨z8,h⟩
    ·try simp only[go_sem,N1, *] at z8
     obtain⟨y_9,z9,h⟩:=AB h;have fz9:=gv z9;try simp only[go_sem, *] at fz9
     obtain rfl:=AA h;refine⟨0,fun L hL=>?_⟩;simp only[go_sem, *]
    ·try simp only[go_sem,N1, *] at z8
     rcases AE h with⟨z10,h⟩|⟨z10,h⟩
     ·try simp only[go_sem,N1, *] at z10
      obtain⟨y_11,z11,h⟩:=AB h;have fz11:=gv z11;try simp only[go_sem, *] at fz11
      obtain rfl:=AA h;refine⟨0,fun L hL=>?_⟩;simp only[go_sem, *]
     ·try simp only[go_sem,N1, *] at z10
      rcases AE h with⟨z12,h⟩|⟨z12,h⟩
      ·try simp only[go_sem,N1, *] at z12
       obtain⟨y_13,z13,h⟩:=AB h;have fz13:=gv z13;try simp only[go_sem, *] at fz13
       obtain rfl:=AA h;refine⟨0,fun L hL=>?_⟩;simp only[go_sem, *]
      ·try simp only[go_sem,N1, *] at z12
       rcases AE h with⟨z14,h⟩|⟨z14,h⟩
       ·try simp only[go_sem,N1, *] at z14
        obtain⟨y_15,z15,h⟩:=AB h;have fz15:=gv z15;try simp only[go_sem, *] at fz15
        obtain rfl:=AA h;refine⟨0,fun L hL=>?_⟩;simp only[go_sem, *]
       ·try simp only[go_sem,N1, *] at z14
        rcases AE h with⟨z16,h⟩|⟨z16,h⟩
        ·try simp only[go_sem,N1, *] at z16
         obtain⟨z17,h⟩:=AC h;have lz17:=Az z17;try simp only[go_sem] at lz17
         try simp only[go_sem,N1, *] at z17
         obtain⟨y_18,z18,h⟩:=AB h;have fz18:=PB z18;try simp only[go_sem, *] at fz18
         obtain⟨y_19,z19,h⟩:=AB h;have fz19:=AKC z19;try simp only[go_sem, *] at fz19
         obtain⟨y_20,z20,h⟩:=AB h;have fz20:=Tg z20;try simp only[go_sem, *] at fz20
         obtain rfl:=AA h;refine⟨0,fun L hL=>?_⟩;simp only[go_sem, *]
        ·try simp only[go_sem,N1, *] at z16
         rcases AE h with⟨z21,h⟩|⟨z21,h⟩
         ·try simp only[go_sem,N1, *] at z21
          obtain⟨z22,h⟩:=AC h;have lz22:=Az z22;try simp only[go_sem] at lz22
          try simp only[go_sem,N1, *] at z22
          obtain⟨z23,h⟩:=AC h;have lz23:=Az z23;try simp only[go_sem] at lz23
          try simp only[go_sem,N1, *] at z23
          obtain⟨y_24,z24,h⟩:=AB h;have fz24:=APj z24;try simp only[go_sem, *] at fz24
          obtain⟨y_25,z25,h⟩:=AB h;have fz25:=AKB z25;try simp only[go_sem, *] at fz25
          obtain⟨y_26,z26,h⟩:=AB h;have fz26:=KU z26;try simp only[go_sem, *] at fz26
          obtain⟨y_27,z27,h⟩:=AB h;have fz27:=Tg z27;try simp only[go_sem, *] at fz27
          obtain rfl:=AA h;refine⟨0,fun L hL=>?_⟩;simp only[go_sem, *]
         ·try simp only[go_sem,N1, *] at z21
          obtain⟨y_28,z28,h⟩:=AB h;have fz28:=AAn z28;try simp only[go_sem, *] at fz28
          obtain⟨y_33,z33,h⟩:=AB h;obtain⟨Lz33,ez33⟩:=Mv z33;obtain⟨y_34,z34,h⟩:=AB h;have fz34:=AAz z34;try simp only[go_sem, *] at fz34
          obtain rfl:=AA h;refine⟨Lz33,fun L hL=>?_⟩;have ez33:=ez33 L (by omega);try simp only[go_sem, *] at ez33
          simp only[go_sem, *]
def AIq:List Nat:=[0,1,2,4,5,6,7,8,9,10,11,12]
def nE:CN:=⟨2,12,.seq (.region false [ VO 2 2 (.box V0),VO 3 4 (.alloc (.agg [.sl 5 [],.sl 5 [],.str []])),VO 4 5 (.newnil 1),VO 5 6 (.mov C0)]) (.seq (.anyo 9 [ SO 0 13 (.safe [7] (F0 V2)),SO 1 14 (.safe [7] (L1 S0)),SO 2 15 (.safe [7] (.pur (.call 28 [S1]))),SO 3 16 (.safe [7] (F1 V2)),SO 4 17 (.safe [7] (L1 S3)),SO 5 18 (.safe [7] (.pur (.call 29 [S4]))),SO 6 19 (.safe [7] (F2 V2)),SO 7 20 (.safe [7] (L1 S6)),SO 8 21 (.safe [7] (.pur (.build [.sl 5 [],.sl 5 [],
 .str []] [(0,1,S2),(1,1,S5),(2,1,S7)]))),VO 6 7 (.alloc (.agg [.sl 5 [],.sl 5 [],.str []])),⟨.no,0,none,.store 3 V6 S8⟩] [] .skip) (.seq (.region false [ PM 23 1,PO 24 (.call 30 [S0]),PO 22 (.mov S0),PO 25 (.ext S0 0),PO 26 (.ext S1 1),VO 7 8 (.alloc (.agg [.sl 1 [],.sl 1 [],.bool false,.bool false])),⟨.no,0,none,.store 4 V7 S1⟩,VS 8 9 0]) (.seq (.test false [ PM 27 8,PO 28 (.un .not S0)] S0 (.seq (.region false [ PO 29 (.build [.sl 5 [],.sl 5 [],.str []] []),⟨.no,0,none,.store 3 V3 S0⟩,VO 4 5
 (.newnil 1),VO 5 6 (.mov C0)]) (.ret)) (.skip)) (.seq (.region false [ VO 9 10 (.mov (I6 7))]) (.seq (.anyo 2 [ SO 0 30 (.pur (.mkSl 1 (.str []) 0 [])),SO 1 31 (L3 V6),VO 11 12 (.alloc (.agg [.sl 5 [],.sl 5 [],.str []])),VS 10 11 0,⟨.no,0,none,.store 3 (.v 11) S1⟩] [[0,2,1,3,4],[1,0,2,3,4],[1,2,0,3,4],[2,0,1,3,4]] .skip) (.seq (.test false [ PO 32 (F3 V7),PO 33 (L1 S0),PO 34 (.un .not S0)] S0 (.region false [ PO 36 (.load true 4 V7),PO 37 (.call 31 [(.v 11),S0]),PO 35 (.mov S0),
 PO 38 (.ext S0 0),PO 39 (.ext S1 1),VS 10 11 1,VS 9 10 0]) (.skip)) (.seq (.test false [ PM 40 9,PO 41 (B7 S0 (I6 0))] S0 (.seq (.anyo 5 [ SO 0 42 (L3 V6),SO 1 43 (.mov V9),SO 2 44 (.callp 32 [S1]),SO 3 45 (B0 (.c (.str [101,114,114,111,114,32])) S2),SO 4 46 (.pur (.mkSl 1 (.str []) 1 [(0,S3)])),⟨.no,0,none,.store 3 V3 S0⟩,VS 4 5 4,VO 5 6 (.mov C1)] [[0,1,2,3,5,4,6,7],[0,1,2,5,3,4,6,7]] .skip) (.ret)) (.skip)) (.seq (.region false [ PO 47 (L3 (.v 11)),PM
 48 10,⟨.no,0,none,.store 3 V3 S1⟩,VS 4 5 0,VO 5 6 (.mov C1)]) (.ret))))))))),[.cell true 3 3,.t 4,.t 5]⟩
def bx:List (Nat×Ak):=[(28,ka),(29,kZ),(30,Du),(31,eO),(32,uu)]
theorem sQ:AP bx 28=some ka:=rfl
theorem sP:AP bx 29=some kZ:=rfl
theorem sO:AP bx 30=some Du:=rfl
theorem sN:AP bx 31=some eO:=rfl
theorem sM:AP bx 32=some uu:=rfl
def eN:Ak:=mkZ bx nE [.bor,.bor]
theorem AFL:AQ Tryz.prog 15 eN:=cW _ (AF AMd (AF AMc (AF QN (AF ANL (AF s_37 AL))))) (by kernel_rfl:Ab Tryz.prog 15 nE AIq=true)
theorem AFj:eN.modes=[.bor,.bor]:=rfl
theorem AKv:eN.flat=false:=rfl
attribute [go_sem] AFj AKv sQ sP sO sN sM
theorem AAy{d:Bc}{line:List UInt8}{y_:Bc×(List (List UInt8))×Bool}(h:He d line=some y_):eN.F [Cj d,.str line]=⟨true,.tup [Cj y_.1,.sl 1 (List.map AV.str y_.2.1),.bool y_.2.2],[.any,.any]⟩:=by
 refine AFQ ?_;dsimp only[He] at h;obtain⟨y_1,z1,h⟩:=AB h;have fz1:=AFx z1;try simp only[go_sem] at fz1
 obtain⟨y_2,z2,h⟩:=AB h;have fz2:=AFw z2;try simp only[go_sem] at fz2
 obtain⟨y_3,z3,h⟩:=AB h;have fz3:=Kg z3;try simp only[go_sem] at fz3
 rcases AE h with⟨z4,h⟩|⟨z4,h⟩
 ·try simp only[go_sem,N1] at z4
  all_goals
  obtain rfl:=AA h;refine⟨0,fun L hL=>?_⟩;simp only[go_sem,nE, *]
 ·try simp only[go_sem,N1] at z4
  all_goals
  rcases AE h with⟨z5,h⟩|⟨z5,h⟩
  ·try simp only[go_sem,N1,z4] at z5
   all_goals
   obtain⟨y_6,z6,h⟩:=AB h;have fz6:=AKA z6;try simp only[go_sem, *] at fz6
   rcases AE h with⟨z7,h⟩|⟨z7,h⟩
   ·try simp only[go_sem,N1, *] at z7
    all_goals
    obtain⟨y_8,z8,h⟩:=AB h;have fz8:=AFv z8;try simp only[go_sem, *] at fz8
    obtain⟨z9,h⟩:=AC h;try simp only[go_sem,N1, *] at z9
    all_goals
    obtain rfl:=AA h;refine⟨0,fun L hL=>?_⟩;simp only[go_sem,nE, *]
   ·try simp only[go_sem,N1, *] at z7
    all_goals
    obtain rfl:=AA h;refine⟨0,fun L hL=>?_⟩;simp only[go_sem,nE, *]
  ·try simp only[go_sem,N1,z4] at z5
   all_goals
   rcases AE h with⟨z10,h⟩|⟨z10,h⟩
   ·try simp only[go_sem,N1, *] at z10
    all_goals
    obtain⟨y_11,z11,h⟩:=AB h;have fz11:=AFv z11;try simp only[go_sem, *] at fz11
    obtain⟨z12,h⟩:=AC h;try simp only[go_sem,N1, *] at z12
    all_goals
    obtain rfl:=AA h;refine⟨0,fun L hL=>?_⟩;simp only[go_sem,nE, *]
   ·try simp only[go_sem,N1, *] at z10
    all_goals
    obtain rfl:=AA h;refine⟨0,fun L hL=>?_⟩;simp only[go_sem,nE, *]
def ANj:List Nat:=[0,1,2,4,5,6,7,8,9]
def ir7:CN:=⟨2,9,.seq (.region false [ VO 2 2 (.box V0),VO 3 4 (.alloc (.agg [.sl 5 [],.sl 5 [],.str []])),VO 4 5 (.newnil 1),VO 5 6 (.mov (I6 0))]) (.seq (.test false [ PO 10 (L3 V2),PO 11 (.call 14 [S0]),PO 12 (.un .not S0)] S0 (.seq (.region false [ PO 13 (.build [.sl 5 [],.sl 5 [],.str []] []),⟨.no,0,none,.store 3 V3 S0⟩,VO 4 5 (.newnil 1),VO 5 6 (.mov (I6 1))]) (.ret)) (.skip)) (.seq (.region false [ PO 15 (L3 V2),PM 16 1,PO 17 (.call 15 [S1,S0]),PO 14 (.mov S0),PO 18 (.ext S0 0),PO 19 (.ext (.s
 1) 1),PO 20 (.ext S2 2),VO 6 7 (.alloc (.agg [.sl 5 [],.sl 5 [],.str []])),⟨.no,0,none,.store 3 V6 S2⟩,VS 7 8 1,VS 8 9 0]) (.seq (.test false [ PM 21 8,PO 22 (.un .not S0)] S0 (.seq (.region false [ PO 23 (.build [.sl 5 [],.sl 5 [],.str []] []),⟨.no,0,none,.store 3 V3 S0⟩,VO 4 5 (.newnil 1),VO 5 6 (.mov (I6 7))]) (.ret)) (.skip)) (.seq (.region false [ PO 24 (L3 V6),PM 25 7,⟨.no,0,none,.store 3 V3 S1⟩,VS 4 5 0,VO 5 6 (.mov (I6 0))]) (.ret))))),[.cell true 3 3,.t 4,.t 5]⟩
def vy:List (Nat×Ak):=[(14,kb),(15,eN)]
theorem sL:AP vy 14=some kb:=rfl
theorem sK:AP vy 15=some eN:=rfl
def eM:Ak:=mkZ vy ir7 [.bor,.bor]
theorem ANK:AQ Tryz.prog 7 eM:=cW _ (AF AMe (AF AFL AL)) (by kernel_rfl:Ab Tryz.prog 7 ir7 ANj=true)
theorem AOo:eM.modes=[.bor,.bor]:=rfl
theorem AKu:eM.flat=false:=rfl
attribute [go_sem] AOo AKu sL sK
theorem AJz{d:Bc}{line:List UInt8}{y_:Bc×(List (List UInt8))×Int}(h:Gf d line=some y_):eM.F [Cj d,.str line]=⟨true,.tup [Cj y_.1,.sl 1 (List.map AV.str y_.2.1),.int .i64 y_.2.2],[.any,.any]⟩:=by
 refine AFQ ?_;dsimp only[Gf] at h;obtain⟨y_1,z1,h⟩:=AB h;have fz1:=AFy z1;try simp only[go_sem] at fz1
 rcases AE h with⟨z2,h⟩|⟨z2,h⟩
 ·try simp only[go_sem,N1] at z2
  obtain rfl:=AA h;refine⟨0,fun L hL=>?_⟩;simp only[go_sem,ir7, *]
 ·try simp only[go_sem,N1] at z2
  obtain⟨y_3,z3,h⟩:=AB h;have fz3:=AAy z3;try simp only[go_sem,z2] at fz3
  rcases AE h with⟨z4,h⟩|⟨z4,h⟩
  all_goals
  try simp only[go_sem,N1,z2] at z4
  obtain rfl:=AA h;refine⟨0,fun L hL=>?_⟩;simp only[go_sem,ir7, *]
def ANm:List Nat:=[0,1,4]
def ir4:CN:=⟨2,3,.seq (.region false [ VO 2 4 (.mov C0)]) (.seq (.region false [ PM 5 0,PO 6 (.len false S0),PO 7 (B4 S0 (I6 3000)),PO 8 (.mov S0),⟨.push,9,(G0 0),.mov V1⟩,⟨.push,10,(G0 1),.len false S0⟩,⟨.push,11,(G0 2),B4 S0 (I6 3000)⟩,PO 12 (.pick S3 C1 S0),VS 2 4 0]) (.ret)),[.t 2]⟩
def AMG:List (Nat×Ak):=[]
def eL:Ak:=DN AMG ir4 [.bor,.bor]
theorem ANJ:AQ Tryz.prog 4 eL:=AI _ rfl AL (by kernel_rfl:Ab Tryz.prog 4 ir4 ANm=true)
theorem AOn:eL.modes=[.bor,.bor]:=rfl
theorem AKt:eL.flat=true:=rfl
attribute [go_sem] AOn AKt
theorem AJy{code:List UInt8}{more:List UInt8}{y_:Bool}(h:Lr code more=some y_):eL.F [.sl 1 (List.map Dv code),.sl 1 (List.map Dv more)]=⟨true,.bool y_,[.any,.any]⟩:=by
 refine Ah rfl ?_;dsimp only[Lr] at h;obtain rfl:=AA h;refine⟨0,fun L hL=>?_⟩;simp only[go_sem,ir4]
def AIv:List Nat:=[0,2]
def AIw:CN:=⟨1,2,.seq (.region false [ VO 1 2 (.mov (.c (.cv (.pointer none))))]) (.seq (.region false [ PM 3 0,PO 4 (.build [.sl 1 [],.int .i64 (0),.int .u64 (0)] [(0,1,S0)]),PO 5 (.box S0),VS 1 2 0]) (.ret)),[.t 1]⟩
def AMF:List (Nat×Ak):=[]
def eK:Ak:=bH AMF AIw [.bor]
theorem ANI:AQ Tryz.prog 11 eK:=DH _ AL (by kernel_rfl:Ab Tryz.prog 11 AIw AIv=true)
theorem AOm:eK.modes=[.bor]:=rfl
theorem AKs:eK.flat=false:=rfl
attribute [go_sem] AOm AKs
theorem AJx{code:List UInt8}{y_:Cq}(h:Kk code=some y_):eK.F [.sl 1 (List.map Dv code)]=⟨true,.mem 3 [Gp y_] 0,[.any]⟩:=by
 refine Jn ?_;dsimp only[Kk] at h;obtain rfl:=AA h;refine⟨0,fun L hL=>?_⟩;simp only[go_sem,AIw]
def AIm:List Nat:=[0,2,3]
def tX:CN:=⟨1,3,.seq (.region false [ VO 1 2 (.mov (I6 0))]) (.seq (.region false [ VO 2 3 (.mov (I6 0))]) (.seq (.anyo 10 [ SO 0 4 (.mov V0),SO 1 5 (.nilck S0),SO 2 6 (F1 S1),SO 3 7 (L1 S2),SO 4 8 (.mov V0),SO 5 9 (.nilck S4),SO 6 10 (F0 S5),SO 7 11 (L1 S6),SO 8 12 (.len false S7),SO 9 13 (B1 S3 S8)] [] (.cond S9 (.anyo 11 [ SO 0 14 (.mov V0),SO 1 15 (.nilck S0),SO 2 16 (F0 S1),SO 3 17 (L1 S2),SO 4 18 (.mov V0),SO 5 19 (.nilck S4),
 SO 6 20 (F1 S5),SO 7 21 (L1 S6),SO 8 22 (.ixAddr 1 S3 S7),SO 9 23 (L1 S8),SO 10 24 (.conv .i64 S9),VS 2 3 10] [] .skip) (.skip))) (.seq (.region false [ PM 25 0,PO 26 (.nilck S0),PO 27 (F1 S0),PO 28 (L1 S0),PO 29 (B0 S0 (I6 1)),PO 30 (.nilck S4),PO 31 (F1 S0),⟨.no,0,none,.store 1 S0 S2⟩]) (.seq (.region false [ PM 32 0,PM 33 0,PO 34 (.nilck S0),PO 35 (F2 S0),PO 36 (L1 S0),PO 37 (B8 S0 (.c (.int .u64
 (6364136223846793005)))),PM 38 2,PO 39 (.conv .u64 S0),PO 40 (B0 S2 S0),PO 41 (B0 S0 (.c (.int .u64 (1442695040888963407)))),PO 42 (.nilck S9),PO 43 (F2 S0),⟨.no,0,none,.store 1 S0 S2⟩]) (.seq (.anyo 10 [ SO 0 44 (.mov V0),SO 1 45 (.nilck S0),SO 2 46 (F1 S1),SO 3 47 (L1 S2),SO 4 48 (.mov V0),SO 5 49 (.nilck S4),SO 6 50 (F0 S5),SO 7 51 (L1 S6),SO 8 52 (.len false S7),SO 9 53 (B5 S3 S8)] [] (.cond S9 (.seq (.region
 false [ PM 54 2,VS 1 2 0]) (.ret)) (.skip))) (.seq (.region false [ PM 55 0,PO 56 (.nilck S0),PO 57 (F2 S0),PO 58 (L1 S0),PO 59 (.bin false .shr S0 (.c (.int .u64 (40)))),PO 60 (.bin false .and S0 (.c (.int .u64 (255)))),PO 61 (.conv .i64 S0),VS 1 2 0]) (.ret))))))),[.t 1]⟩
def AMD:List (Nat×Ak):=[]
def eJ:Ak:=bH AMD tX [.io]
theorem ANH:AQ Tryz.prog 22 eJ:=DH _ AL (by kernel_rfl:Ab Tryz.prog 22 tX AIm=true)
theorem AOl:eJ.modes=[.io]:=rfl
theorem AKr:eJ.flat=false:=rfl
attribute [go_sem] AOl AKr
theorem AAx{s_:Cq}{y_:Int×Cq}(h:El s_=some y_):eJ.F [.mem 3 [Gp s_] 0]=⟨true,.int .i64 y_.1,[.mem 3 [Gp y_.2] 0]⟩:=by
 refine Jn ?_;dsimp only[El] at h;rcases AE h with⟨z1,h⟩|⟨z1,h⟩
 ·try simp only[go_sem,N1] at z1
  obtain⟨z2,h⟩:=AC h;have lz2:=Az z2;try simp only[go_sem] at lz2
  try simp only[go_sem,N1,z1] at z2
  rcases AE h with⟨z3,h⟩|⟨z3,h⟩
  ·try simp only[go_sem,N1, *] at z3
   obtain rfl:=AA h;refine⟨0,fun L hL=>?_⟩;simp only[go_sem,tX, *]
  ·try simp only[go_sem,N1, *] at z3
   obtain⟨z4,h⟩:=AC h;try simp only[go_sem,N1, *] at z4
   obtain rfl:=AA h;refine⟨0,fun L hL=>?_⟩;simp only[go_sem,tX, *]
 ·try simp only[go_sem,N1] at z1
  rcases AE h with⟨z5,h⟩|⟨z5,h⟩
  ·try simp only[go_sem,N1,z1] at z5
   obtain rfl:=AA h;refine⟨0,fun L hL=>?_⟩;simp only[go_sem,tX, *]
  ·try simp only[go_sem,N1,z1] at z5
   obtain⟨z6,h⟩:=AC h;try simp only[go_sem,N1, *] at z6
   obtain rfl:=AA h;refine⟨0,fun L hL=>?_⟩;simp only[go_sem,tX, *]
def AIu:List Nat:=[0,1,4,5]
def zP:CN:=⟨2,4,.seq (.region false [ VO 2 4 (.mov (I6 0))]) (.seq (.test false [ PM 6 1,PO 7 (B5 S0 (I6 1))] S0 (.seq (.region false [ VO 2 4 (.mov (I6 0))]) (.ret)) (.skip)) (.seq (.region false [ PM 8 0,PO 9 (.call 22 [S0]),VS 3 5 0]) (.seq (.test false [ PM 10 1,PO 11 (B4 S0 (I6 200))] S0 (.region false [ PM 12 3,PO 13 (B8 S0 (I6 256)),PM 14 0,PO 15 (.call 22 [S0]),PO 16 (B0 S2 S0),VS 3 5 0]) (.skip)) (.seq (.region false [ PM 17 3,PM 18 1,PO 19 (.bin false .rem S1 S0),VS 2 4
 0]) (.ret))))),[.t 2]⟩
def AEz:List (Nat×Ak):=[(22,eJ)]
theorem sJ:AP AEz 22=some eJ:=rfl
def Pv:Ak:=bH AEz zP [.io,.bor]
theorem wQ:AQ Tryz.prog 12 Pv:=DH _ (AF ANH AL) (by kernel_rfl:Ab Tryz.prog 12 zP AIu=true)
theorem AOk:Pv.modes=[.io,.bor]:=rfl
theorem AKq:Pv.flat=false:=rfl
attribute [go_sem] AOk AKq sJ
theorem oJ{s_:Cq}{n:Int}{y_:Int×Cq}(h:Dq s_ n=some y_):Pv.F [.mem 3 [Gp s_] 0,.int .i64 n]=⟨true,.int .i64 y_.1,[.mem 3 [Gp y_.2] 0,.any]⟩:=by
 refine Jn ?_;dsimp only[Dq] at h;rcases AE h with⟨z1,h⟩|⟨z1,h⟩
 ·try simp only[go_sem,N1] at z1
  obtain rfl:=AA h;refine⟨0,fun L hL=>?_⟩;simp only[go_sem,zP,z1]
 ·try simp only[go_sem,N1] at z1
  obtain⟨y_2,z2,h⟩:=AB h;have fz2:=AAx z2;try simp only[go_sem,z1] at fz2
  rcases AE h with⟨z3,h⟩|⟨z3,h⟩
  ·try simp only[go_sem,N1,z1] at z3
   obtain⟨y_4,z4,h⟩:=AB h;have fz4:=AAx z4;try simp only[go_sem, *] at fz4
   obtain⟨z5,h⟩:=AC h;try simp only[go_sem,N1, *] at z5
   obtain rfl:=AA h;refine⟨0,fun L hL=>?_⟩;simp only[go_sem,zP, *]
  ·try simp only[go_sem,N1,z1] at z3
   obtain⟨z6,h⟩:=AC h;try simp only[go_sem,N1, *] at z6
   obtain rfl:=AA h;refine⟨0,fun L hL=>?_⟩;simp only[go_sem,zP, *]
def AIk:List Nat:=[0,1,4]
def AIl:CN:=⟨2,3,.seq (.region false [ VO 2 4 (.mov C2)]) (.seq (.region false [ PM 5 1,PM 6 0,PM 7 1,PO 8 (.len false S0),PO 9 (.call 12 [S2,S0]),PO 10 (.ixAddr 1 S4 S0),PO 11 (L1 S0),VS 2 4 0]) (.ret)),[.t 2]⟩
def AEy:List (Nat×Ak):=[(12,Pv)]
theorem sI:AP AEy 12=some Pv:=rfl
def eI:Ak:=bH AEy AIl [.io,.bor]
theorem ANG:AQ Tryz.prog 23 eI:=DH _ (AF wQ AL) (by kernel_rfl:Ab Tryz.prog 23 AIl AIk=true)
theorem AOj:eI.modes=[.io,.bor]:=rfl
theorem AKp:eI.flat=false:=rfl
attribute [go_sem] AOj AKp sI
theorem PC{s_:Cq}{list:List (List UInt8)}{y_:(List UInt8)×Cq}(h:Bh s_ list=some y_):eI.F [.mem 3 [Gp s_] 0,.sl 1 (List.map AV.str list)]=⟨true,.str y_.1,[.mem 3 [Gp y_.2] 0,.any]⟩:=by
 refine Jn ?_;dsimp only[Bh] at h;obtain⟨y_1,z1,h⟩:=AB h;have fz1:=oJ z1;try simp only[go_sem] at fz1
 obtain⟨z2,h⟩:=AC h;have lz2:=Az z2;try simp only[go_sem] at lz2
 try simp only[go_sem,N1] at z2
 obtain rfl:=AA h;refine⟨0,fun L hL=>?_⟩;simp only[go_sem,AIl, *]
def AIs:List Nat:=[0,2,4,10]
def AIt:CN:=⟨1,4,.seq (.region false [ VO 1 2 (.mov C2)]) (.seq (.seq (.region false [ PM 3 0,VO 2 4 (.call 12 [S0,(I6 8)])]) (.block 0 (.test false [ PO 6 (B2 V2 (I6 0)),PO 5 (.mov S0)] S0 (.seq (.region false [ PM 7 0,PO 8 (.mkSl 1 (.str []) 7 [(0,(.c (.str [115,116,97,114,32,109,105,114,97,32,56,51,54,48,32,45,49,48,55,50,51,32,50,46,48,48,48,32,49,48,46,49,48,48]))),(1,(.c (.str [115,116,97,114,32,114,114,45,108,121,114,32,54,57,57,48,48,32,49,53,52,50,48,48,32,55,46,49,48,
 48,32,56,46,49,48,48]))),(2,(.c (.str [115,116,97,114,32,115,115,45,99,121,103,32,55,56,49,48,48,32,49,53,54,57,48,48,32,55,46,55,48,48,32,49,50,46,52,48,48]))),(3,(.c (.str [115,116,97,114,32,109,105,114,97,32,49,32,49,32,49,46,48,48,48,32,50,46,48,48,48]))),(4,(.c (.str [115,116,97,114,32,120,32,56,54,52,48,48,32,48,32,49,46,48,48,48,32,50,46,48,48,48]))),(5,(.c (.str [115,116,97,114,32,89,32,49,32,49,32,49,46,48,48,48,32,50,46,48,48,48]))),(6,(.c (.str [115,116,97,
 114,32,122,32,49,32,120,32,49,46,48,48,48,32,50,46,48,48,48])))]),PO 9 (.call 23 [S1,S0]),VS 1 2 0]) (.ret)) (.seq (.test false [ PO 11 (B2 V2 (I6 1)),VS 3 10 0] V3 (.skip) (.test false [ PO 12 (B2 V2 (I6 2)),VS 3 10 0] V3 (.skip) (.region false [ PO 13 (B2 V2 (I6 3)),VS 3 10 0]))) (.cond V3 (.seq (.region false [ PM 14 0,PO 15 (.mkSl 1 (.str []) 12 [(0,(.c (.str [101,115,116,32,49,48,48,32,109,105,114,97,32,97,98,32,51,46,52,48,48]))),(1,(.c (.str [101,115,116,32,50,48,
 48,32,109,105,114,97,32,97,98,32,51,46,54,48,48]))),(2,(.c (.str [101,115,116,32,51,53,48,32,109,105,114,97,32,99,100,32,52,46,53,48,48]))),(3,(.c (.str [101,115,116,32,51,53,48,32,109,105,114,97,32,97,98,32,53,46,53,48,48]))),(4,(.c (.str [101,115,116,32,52,48,48,32,109,105,114,97,32,97,98,32,60,54,46,48,48,48]))),(5,(.c (.str [101,115,116,32,53,48,48,32,114,114,45,108,121,114,32,97,98,32,55,46,52,48,48]))),(6,(.c (.str [101,115,116,32,55,48,48,32,114,114,45,108,121,114,32,
 99,100,32,55,46,57,48,48]))),(7,(.c (.str [101,115,116,32,57,49,48,32,109,105,114,97,32,101,32,51,46,52,53,48]))),(8,(.c (.str [101,115,116,32,49,48,48,32,110,111,110,101,32,97,98,32,51,46,52,48,48]))),(9,(.c (.str [101,115,116,32,49,48,48,32,109,105,114,97,32,65,66,32,51,46,52,48,48]))),(10,(.c (.str [101,115,116,32,49,48,48,32,109,105,114,97,32,97,98,32,51,46,52]))),(11,(.c (.str [101,115,116,32,120,32,109,105,114,97,32,97,98,32,51,46,52,48,48])))]),PO 16 (.call 23 [S1,(.s
 0)]),VS 1 2 0]) (.ret)) (.test false [ PO 18 (B2 V2 (I6 4)),PO 17 (.mov S0)] S0 (.seq (.region false [ PM 19 0,PO 20 (.mkSl 1 (.str []) 6 [(0,(.c (.str [99,117,114,118,101,32,109,105,114,97]))),(1,(.c (.str [99,117,114,118,101,32,114,114,45,108,121,114]))),(2,(.c (.str [99,117,114,118,101,32,77]))),(3,(.c (.str [97,109,112,32,109,105,114,97]))),(4,(.c (.str [97,109,112,32,114,114,45,108,121,114]))),(5,(.c (.str [97,109,112,32,110,111,110,101])))]),PO 21 (.call 23 [S1,S0]),VS 1 2 0]) (.ret))
 (.test false [ PO 23 (B2 V2 (I6 5)),PO 22 (.mov S0)] S0 (.seq (.region false [ PM 24 0,PO 25 (.mkSl 1 (.str []) 8 [(0,(.c (.str [98,101,115,116,32,109,105,114,97,32,49,48,48,32,53,48,48,32,53,48]))),(1,(.c (.str [98,101,115,116,32,109,105,114,97,32,50,48,48,32,51,48,48,32,49,48]))),(2,(.c (.str [98,101,115,116,32,114,114,45,108,121,114,32,49,48,48,32,50,48,48,32,53,48]))),(3,(.c (.str [98,101,115,116,32,109,105,114,97,32,48,32,49,32,49]))),(4,(.c (.str [102,111,108,100,32,109,105,
 114,97,32,50,53,48]))),(5,(.c (.str [102,111,108,100,32,109,105,114,97,32,48]))),(6,(.c (.str [102,111,108,100,32,110,111,110,101,32,49,48,48]))),(7,(.c (.str [98,101,115,116,32,109,105,114,97,32,120,32,49,32,49])))]),PO 26 (.call 23 [S1,S0]),VS 1 2 0]) (.ret)) (.test false [ PO 28 (B2 V2 (I6 6)),PO 27 (.mov S0)] S0 (.seq (.region false [ PM 29 0,PO 30 (.mkSl 1 (.str []) 8 [(0,(.c (.str [108,97,115,116,32,109,105,114,97]))),(1,(.c (.str [108,97,115,116,32,114,114,45,108,121,114]))),(2,
 (.c (.str [108,97,115,116,32,110,111,110,101]))),(3,(.c (.str [108,97,115,116,32,77]))),(4,(.c (.str [112,97,105,114,115,32,49,48,48,32,53,48,48]))),(5,(.c (.str [112,97,105,114,115,32,48,32,49,48,48]))),(6,(.c (.str [112,97,105,114,115,32,45,49,32,53]))),(7,(.c (.str [112,97,105,114,115,32,53,32,120])))]),PO 31 (.call 23 [S1,S0]),VS 1 2 0]) (.ret)) (.skip))))))))) (.seq (.region false [ PM 32 0,PO 33 (.mkSl 1 (.str []) 9 [(0,(.c (.str [101,110,116,101,114,32,51,32,104,111,117,114,115,32,53]))),(1,(.c
 (.str [101,110,116,101,114,32,52,32,104,111,117,114,115,32,45,50]))),(2,(.c (.str [101,110,116,101,114,32,50,32,115,101,101,110,32,49]))),(3,(.c (.str [101,110,116,101,114,32,57,32,83,101,101,110,32,49]))),(4,(.c (.str [108,111,103]))),(5,(.c (.str [108,111,103,32,49]))),(6,C2),(7,(.c (.str [102,111,111]))),(8,(.c (.str [99,117,114,118,101])))]),PO 34 (.call 23 [S1,S0]),VS 1 2 0]) (.ret))),[.t 1]⟩
def vx:List (Nat×Ak):=[(12,Pv),(23,eI)]
theorem sH:AP vx 12=some Pv:=rfl
theorem sG:AP vx 23=some eI:=rfl
def eH:Ak:=bH vx AIt [.io]
theorem ANF:AQ Tryz.prog 13 eH:=DH _ (AF wQ (AF ANG AL)) (by kernel_rfl:Ab Tryz.prog 13 AIt AIs=true)
theorem AOi:eH.modes=[.io]:=rfl
theorem AKo:eH.flat=false:=rfl
attribute [go_sem] AOi AKo sH sG
attribute [local go_sem] AIt in
theorem AJw{s_:Cq}{y_:(List UInt8)×Cq}(h:JM s_=some y_):eH.F [.mem 3 [Gp s_] 0]=⟨true,.str y_.1,[.mem 3 [Gp y_.2] 0]⟩:=by
 refine Jn ?_;dsimp only[JM] at h;obtain⟨y_1,z1,h⟩:=AB h;have fz1:=oJ z1;try simp only[go_sem] at fz1
 rcases AE h with⟨z2,h⟩|⟨z2,h⟩
 ·try simp only[go_sem,N1] at z2
  obtain⟨y_3,z3,h⟩:=AB h;have fz3:=PC z3;try simp only[go_sem,z2] at fz3
  obtain rfl:=AA h;refine⟨0,fun L hL=>?_⟩;simp only[go_sem, *]
 ·try simp only[go_sem,N1] at z2
  rcases AE h with⟨z4,h⟩|⟨z4,h⟩
  ·try simp only[go_sem,N1,z2] at z4
   obtain⟨y_5,z5,h⟩:=AB h;have fz5:=PC z5;try simp only[go_sem, *] at fz5
   obtain rfl:=AA h;refine⟨0,fun L hL=>?_⟩;simp only[go_sem, *]
  ·try simp only[go_sem,N1,z2] at z4
   rcases AE h with⟨z6,h⟩|⟨z6,h⟩
   ·try simp only[go_sem,N1, *] at z6
    obtain⟨y_7,z7,h⟩:=AB h;have fz7:=PC z7;try simp only[go_sem, *] at fz7
    obtain rfl:=AA h;refine⟨0,fun L hL=>?_⟩;simp only[go_sem, *]
   ·try simp only[go_sem,N1, *] at z6
    rcases AE h with⟨z8,h⟩|⟨z8,h⟩
    ·try simp only[go_sem,N1, *] at z8
     obtain⟨y_9,z9,h⟩:=AB h;have fz9:=PC z9;try simp only[go_sem, *] at fz9
     obtain rfl:=AA h;refine⟨0,fun L hL=>?_⟩;simp only[go_sem, *]
    ·try simp only[go_sem,N1, *] at z8
     rcases AE h with⟨z10,h⟩|⟨z10,h⟩
     ·try simp only[go_sem,N1, *] at z10
      obtain⟨y_11,z11,h⟩:=AB h;have fz11:=PC z11;try simp only[go_sem, *] at fz11
      obtain rfl:=AA h;refine⟨0,fun L hL=>?_⟩;simp only[go_sem, *]
     ·try simp only[go_sem,N1, *] at z10
      rcases AE h with⟨z12,h⟩|⟨z12,h⟩
      ·try simp only[go_sem,N1, *] at z12
       obtain⟨y_13,z13,h⟩:=AB h;have fz13:=PC z13;try simp only[go_sem, *] at fz13
       obtain rfl:=AA h;refine⟨0,fun L hL=>?_⟩;simp only[go_sem, *]
      ·try simp only[go_sem,N1, *] at z12
       rcases AE h with⟨z14,h⟩|⟨z14,h⟩
       ·try simp only[go_sem,N1, *] at z14
        obtain⟨y_15,z15,h⟩:=AB h;have fz15:=PC z15;try simp only[go_sem, *] at fz15
        obtain rfl:=AA h;refine⟨0,fun L hL=>?_⟩;simp only[go_sem, *]
       ·try simp only[go_sem,N1, *] at z14
        obtain⟨y_16,z16,h⟩:=AB h;have fz16:=PC z16;try simp only[go_sem, *] at fz16
        obtain rfl:=AA h;refine⟨0,fun L hL=>?_⟩;simp only[go_sem, *]
def mz:IR:=.seq (.test false [ PM 12 4,PO 13 (B4 S0 (I6 0))] S0 (.skip) (.exit 0)) (.seq (.block 1 (.region false [ PM 16 3,PM 17 2,PO 18 (.call 13 [S0]),PO 19 (.mkSl 1 (.str []) 1 [(0,S0)]),PO 20 (.app 1 16 (.str []) S3 S0),VS 3 4 0])) (.region false [ PM 14 4,PO 15 (B3 S0 (I6 1)),VS 4 5 0]))
def fe:List Bool:=[false,false,true,true,true]
def fc:List Bool:=[false,false,false,true,false]
def fa:List Bool:=[false,true,false,false,false]
def ANl:List Nat:=[0,2,3,4,5]
def ir5:CN:=⟨1,5,.seq (.region false [ VO 1 2 (.newnil 1)]) (.seq (.region false [ PM 6 0,PO 7 (.call 11 [S0]),VS 2 3 0]) (.seq (.region false [ PO 8 (.mkSl 1 (.str []) 1 [(0,(.c (.str [115,116,97,114,32,109,105,114,97,32,56,51,54,48,32,45,49,48,55,50,51,32,50,46,48,48,48,32,49,48,46,49,48,48])))]),VS 3 4 0]) (.seq (.seq (.region false [ PM 9 2,PO 10 (.call 12 [S0,(I6 10)]),PO 11 (B0 (I6 1) S0),VS 4 5 0]) (.block 0 (.loop fe fc fa mz))) (.seq (.region false [ PM 21 3,VS 1 2 0]) (.ret))))),[.t 1]⟩
def iM:List (Nat×Ak):=[(11,eK),(12,Pv),(13,eH)]
theorem sF:AP iM 11=some eK:=rfl
theorem sE:AP iM 12=some Pv:=rfl
theorem sD:AP iM 13=some eH:=rfl
def eG:Ak:=DN iM ir5 [.bor]
theorem ANE:AQ Tryz.prog 5 eG:=AI _ rfl (AF ANI (AF wQ (AF ANF AL))) (by kernel_rfl:Ab Tryz.prog 5 ir5 ANl=true)
theorem AOh:eG.modes=[.bor]:=rfl
theorem AKn:eG.flat=true:=rfl
attribute [go_sem] AOh AKn sF sE sD
def Tx :(Cq×(List (List UInt8))×Int)->St
 | (s_,out,k)=>⟨[.any,.any,.ref 3200000 0 0,.own 3200032,.int .i64 k],[],[(3200000,⟨3,[Gp s_]⟩),(3200032,⟨1,List.map AV.str out⟩)],true⟩
def TY  (y:(List (List UInt8))):Fw:=(.exit 0,⟨[.any,.any,.any,.own 3200000,.any],[],[(3200000,⟨1,List.map AV.str y⟩)],true⟩)
attribute [local go_sem] ir5 Tx TY mz fe fc fa in
theorem QK  {sgm_:Cq×(List (List UInt8))×Int} {rho_:(List (List UInt8))} (h:AS (HF) sgm_=some rho_):∃ L0,∀ L,L0<=L->CV (Aq (AP iM) L mz) fe fc fa L (Tx sgm_)=TY rho_:=by
 refine Ax (E:=Tx) (R:=TY) (fun y=>by first|(intro c;cases c)|(rcases y with y|y<;>(intro c;cases c))|(rcases y with y|y|y<;>(intro c;cases c))) ?_ h;clear h;rintro⟨s_,out,k⟩ o_ h;dsimp only[HF] at h;rcases AE h with⟨z3,h⟩|⟨z3,h⟩
 ·try simp only[go_sem,N1] at z3
  obtain⟨y_4,z4,h⟩:=AB h;have fz4:=AJw z4;try simp only[go_sem,z3] at fz4
  obtain⟨z5,h⟩:=AC h;try simp only[go_sem,N1,z3] at z5
  obtain rfl:=AA h;refine⟨0,fun L hL=>?_⟩;simp only[go_sem, *]
 ·try simp only[go_sem,N1] at z3
  obtain rfl:=AA h;refine⟨0,fun L hL=>?_⟩;simp only[go_sem,z3]
attribute [local go_sem] Tx TY fe fc fa ir5 in
theorem AJv{code:List UInt8}{y_:(List (List UInt8))}(h:JQ code=some y_):eG.F [.sl 1 (List.map Dv code)]=⟨true,.fresh 1 (List.map AV.str y_),[.any]⟩:=by
 refine Ah (by simp only[Do,EN,Ej,List.all_cons,List.all_nil,Bool.and_self,Bk (f:=AV.str) (fun _=>rfl)]) ?_;dsimp only[JQ] at h;obtain⟨y_1,z1,h⟩:=AB h;have fz1:=AJx z1;try simp only[go_sem] at fz1
 obtain⟨y_2,z2,h⟩:=AB h;have fz2:=oJ z2;try simp only[go_sem] at fz2
 obtain⟨y_6,z6,h⟩:=AB h;obtain⟨Lz6,ez6⟩:=QK z6;obtain rfl:=AA h;refine⟨Lz6,fun L hL=>?_⟩;have ez6:=ez6 L (by omega);try simp only[go_sem] at ez6
 simp only[go_sem, *]
def ANk:List Nat:=[0]
def ir6:CN:=⟨0,1,.seq (.region false [ VO 0 0 (.alloc (.agg [.sl 5 [],.sl 5 [],.str []]))]) (.seq (.region false [ PO 1 (.mkSl 5 (.agg [.str [],.int .i64 (0),.int .i64 (0),.int .i64 (0),.int .i64 (0)]) 0 []),PO 2 (.mkSl 5 (.agg [.int .i64 (0),.str [],.str [],.int .i64 (0),.bool false]) 0 []),PO 3 (.build [.sl 5 [],.sl 5 [],.str []] [(0,1,S1),(1,1,S0)]),⟨.no,0,none,.store 3 V0 S0⟩]) (.ret)),[.cell true 3 0]⟩
def AMC:List (Nat×Ak):=[]
def eF:Ak:=bH AMC ir6 []
theorem AFK:AQ Tryz.prog 6 eF:=DH _ AL (by kernel_rfl:Ab Tryz.prog 6 ir6 ANk=true)
theorem AFi:eF.modes=[]:=rfl
theorem AKm:eF.flat=false:=rfl
attribute [go_sem] AFi AKm
theorem AAw  {y_:Bc} (h:IU=some y_):eF.F []=⟨true,Cj y_,[]⟩:=by
 refine Jn ?_;dsimp only[IU] at h;obtain rfl:=AA h;refine⟨0,fun L hL=>?_⟩;simp only[go_sem,ir6]
def fp:IR:=.seq (.test false [ PM 6 3,PM 7 0,PO 8 (.len false S0),PO 9 (B1 S2 S0)] S0 (.skip) (.exit 0)) (.seq (.block 1 (.test false [ PM 12 0,PM 13 3,PO 14 (.ixAddr 5 S1 S0),PO 15 (F0 S0),PO 16 (L1 S0),PM 17 1,PO 18 (B2 S1 S0)] S0 (.seq (.region false [ PM 19 3,VS 2 4 0]) (.ret)) (.skip))) (.region false [ PM 10 3,PO 11 (B0 S0 (I6 1)),VS 3 5 0]))
def Wv:List Bool:=[true,true,false,true]
def Wu:List Bool:=[false,false,false,false]
def Wt:List Bool:=[false,false,true,false]
def AIT:List Nat:=[0,1,4,5]
def ACd:CN:=⟨2,4,.seq (.region false [ VO 2 4 (.mov (I6 0))]) (.seq (.seq (.region false [ VO 3 5 (.mov (I6 0))]) (.block 0 (.loop Wv Wu Wt fp))) (.seq (.region false [ VO 2 4 (.mov (.c (.int .i64 (-1))))]) (.ret))),[.t 2]⟩
def AEx:List (Nat×Ak):=[]
def eE:Ak:=DN AEx ACd [.bor,.bor]
theorem ANC:AQ Tryz.prog 36 eE:=AI _ rfl AL (by kernel_rfl:Ab Tryz.prog 36 ACd AIT=true)
theorem AOg:eE.modes=[.bor,.bor]:=rfl
theorem AKl:eE.flat=true:=rfl
attribute [go_sem] AOg AKl
def Tw(list:List Star)(name:List UInt8):Int->St
 | i=>⟨[.sl 5 (List.map BV list),.str name,.any,.int .i64 i],[],[],true⟩
def TX(list:List Star)(name:List UInt8):(Unit⊕Int)->Fw
 | .inl y=>(.exit 0,⟨[.any,.any,.any,.any],[],[],true⟩)
 | .inr y=>(.ret,⟨[.any,.any,.int .i64 y,.any],[],[],true⟩)
attribute [local go_sem] ACd Tw TX fp Wv Wu Wt in
theorem QJ{list:List Star}{name:List UInt8}{sgm_:Int}{rho_:Unit⊕Int}(h:AS (FU list name) sgm_=some rho_):∃ L0,∀ L,L0<=L->CV (Aq (AP AEx) L fp) Wv Wu Wt L (Tw list name sgm_)=TX list name rho_:=by
 refine Ax (E:=Tw list name) (R:=TX list name) (fun y=>by first|(intro c;cases c)|(rcases y with y|y<;>(intro c;cases c))|(rcases y with y|y|y<;>(intro c;cases c))) ?_ h;clear h;intro i o_ h;dsimp only[FU] at h;rcases AE h with⟨z1,h⟩|⟨z1,h⟩
 ·try simp only[go_sem,N1] at z1
  obtain⟨z2,h⟩:=AC h;have lz2:=Az z2;try simp only[go_sem] at lz2
  try simp only[go_sem,N1,z1] at z2
  rcases AE h with⟨z3,h⟩|⟨z3,h⟩
  all_goals
  try simp only[go_sem,N1, *] at z3
  obtain rfl:=AA h;refine⟨0,fun L hL=>?_⟩;simp only[go_sem, *]
 ·try simp only[go_sem,N1] at z1
  obtain rfl:=AA h;refine⟨0,fun L hL=>?_⟩;simp only[go_sem,z1]
attribute [local go_sem] Tw TX Wv Wu Wt ACd in
theorem AJu{list:List Star}{name:List UInt8}{y_:Int}(h:JP list name=some y_):eE.F [.sl 5 (List.map BV list),.str name]=⟨true,.int .i64 y_,[.any,.any]⟩:=by
 refine Ah rfl ?_;dsimp only[JP] at h;obtain⟨y_4,z4,h⟩:=AB h;obtain⟨Lz4,ez4⟩:=QJ z4;rcases y_4 with y_4a|y_4b
 all_goals
 dsimp only at h;obtain rfl:=AA h;refine⟨Lz4,fun L hL=>?_⟩;have ez4:=ez4 L (by omega);try simp only[go_sem] at ez4
 simp only[go_sem,ez4]
def Zc:IR:=.seq (.test false [ PM 9 5,PM 10 0,PO 11 (.len true S0),PO 12 (B1 S2 S0)] S0 (.skip) (.exit 0)) (.seq (.block 1 (.test false [ PM 15 0,PM 16 5,PO 17 (.ixStr S1 S0),PM 18 1,PO 19 (B2 S1 S0)] S0 (.seq (.region false [ PM 20 3,PM 21 0,PM 22 4,PM 23 5,PO 24 (.slice 0 S2 (some S1) (some S0)),PO 25 (.mkSl 1 (.str []) 1 [(0,S0)]),PO 26 (.app 1 16 (.str []) S5 S0),VS 3 5 0]) (.region false [ PM 27 5,PO 28 (B0 S0 (I6 1)),VS 4 6 0])) (.skip))) (.region false [ PM 13
 5,PO 14 (B0 S0 (I6 1)),VS 5 7 0]))
def SG:List Bool:=[true,true,false,true,true,true]
def SE:List Bool:=[true,false,false,true,true,false]
def SD:List Bool:=[false,false,true,false,false,false]
def ADQ:List Nat:=[0,1,4,5,6,7]
def pO:CN:=⟨2,6,.seq (.region false [ VO 2 4 (.newnil 1)]) (.seq (.region false [ PO 8 (.mkSl 1 (.str []) 0 []),VS 3 5 0]) (.seq (.region false [ VO 4 6 (.mov (I6 0))]) (.seq (.seq (.region false [ VO 5 7 (.mov (I6 0))]) (.block 0 (.loop SG SE SD Zc))) (.seq (.region false [ PM 29 3,PM 30 0,PM 31 4,PO 32 (.slice 0 S1 (some S0) none),PO 33 (.mkSl 1 (.str []) 1 [(0,S0)]),PO 34 (.app 1 16 (.str []) S4 S0),VS 2 4 0]) (.ret))))),[.t 2]⟩
def AEw:List (Nat×Ak):=[]
def eD:Ak:=DN AEw pO [.bor,.bor]
theorem ANB:AQ Tryz.prog 149 eD:=AI _ rfl AL (by kernel_rfl:Ab Tryz.prog 149 pO ADQ=true)
theorem AOf:eD.modes=[.bor,.bor]:=rfl
theorem AKk:eD.flat=true:=rfl
attribute [go_sem] AOf AKk
def Tv(s_:List UInt8)(by_:UInt8):((List (List UInt8))×Int×Int)->St
 | (out,from_,i)=>⟨[.str s_,.int .u8 (by_.toNat:Int),.any,.own 3200000,.int .i64 from_,.int .i64 i],[],[(3200000,⟨1,List.map AV.str out⟩)],true⟩
def TW(s_:List UInt8)(by_:UInt8)(y:(List (List UInt8))×Int):Fw:=(.exit 0,⟨[.str s_,.any,.any,.own 3200000,.int .i64 y.2,.any],[],[(3200000,⟨1,List.map AV.str y.1⟩)],true⟩)
attribute [local go_sem] pO Tv TW Zc SG SE SD in
theorem Pc{s_:List UInt8}{by_:UInt8}{sgm_:(List (List UInt8))×Int×Int}{rho_:(List (List UInt8))×Int}(h:AS (Dp s_ by_) sgm_=some rho_):∃ L0,∀ L,L0<=L->CV (Aq (AP AEw) L Zc) SG SE SD L (Tv s_ by_ sgm_)=TW s_ by_ rho_:=by
 refine Ax (E:=Tv s_ by_) (R:=TW s_ by_) (fun y=>by first|(intro c;cases c)|(rcases y with y|y<;>(intro c;cases c))|(rcases y with y|y|y<;>(intro c;cases c))) ?_ h;clear h;rintro⟨out,from_,i⟩ o_ h;dsimp only[Dp] at h;rcases AE h with⟨z1,h⟩|⟨z1,h⟩
 ·try simp only[go_sem,N1] at z1
  obtain⟨z2,h⟩:=AC h;try simp only[go_sem,N1,z1] at z2
  rcases AE h with⟨z3,h⟩|⟨z3,h⟩
  ·try simp only[go_sem,N1, *] at z3
   obtain⟨z4,h⟩:=AC h;try simp only[go_sem,N1, *] at z4
   obtain⟨z5,h⟩:=AC h;try simp only[go_sem,N1, *] at z5
   obtain rfl:=AA h;refine⟨0,fun L hL=>?_⟩;simp only[go_sem, *]
  ·try simp only[go_sem,N1, *] at z3
   obtain rfl:=AA h;refine⟨0,fun L hL=>?_⟩;simp only[go_sem, *]
 ·try simp only[go_sem,N1] at z1
  obtain rfl:=AA h;refine⟨0,fun L hL=>?_⟩;simp only[go_sem,z1]
attribute [local go_sem] Tv TW SG SE SD pO in
theorem AJt{s_:List UInt8}{by_:UInt8}{y_:(List (List UInt8))}(h:Ig s_ by_=some y_):eD.F [.str s_,.int .u8 (by_.toNat:Int)]=⟨true,.fresh 1 (List.map AV.str y_),[.any,.any]⟩:=by
 refine Ah (by simp only[Do,EN,Ej,List.all_cons,List.all_nil,Bool.and_self,Bk (f:=AV.str) (fun _=>rfl)]) ?_;dsimp only[Ig] at h;obtain⟨y_6,z6,h⟩:=AB h;obtain⟨Lz6,ez6⟩:=Pc z6;obtain⟨z7,h⟩:=AC h;try simp only[go_sem,N1] at z7
 obtain⟨z8,h⟩:=AC h;try simp only[go_sem,N1,z7] at z8
 obtain rfl:=AA h;refine⟨Lz6,fun L hL=>?_⟩;have ez6:=ez6 L (by omega);try simp only[go_sem, *] at ez6
 simp only[go_sem, *]
def ZY:IR:=.seq (.test false [ PM 8 3,PO 9 (B7 S0 (I6 0))] S0 (.skip) (.exit 0)) (.seq (.block 1 (.seq (.region false [ PM 12 3,PO 13 (.bin false .rem S0 (I6 10)),VS 4 5 0]) (.seq (.test false [ PM 14 4,PO 15 (B1 S0 (I6 0))] S0 (.region false [ PM 16 4,PO 17 (.un .neg S0),VS 4 5 0]) (.skip)) (.region false [ PM 18 4,PO 19 (B0 (I6 48) S0),PO 20 (.conv .u8 S0),PO 21 (.mkSl 1 (.int .u8 (0)) 1 [(0,S0)]),PM 22 2,PO 23 (.app 1 1 (.int .u8 (0)) S1 S0),VS 2 3 0])))) (.region false [ PM 10 3,PO 11
 (.bin false .quo S0 (I6 10)),VS 3 4 0]))
def Rt:List Bool:=[true,false,true,true,false]
def Rr:List Bool:=[true,false,true,false,false]
def Rq:List Bool:=[false,true,false,false,false]
def ACx:List Nat:=[0,2,3,4,5]
def pJ:CN:=⟨1,5,.seq (.region false [ VO 1 2 (.mov C2)]) (.seq (.region false [ PO 6 (.mkSl 1 (.int .u8 (0)) 0 []),VS 2 3 0]) (.seq (.seq (.region false [ PM 7 0,VS 3 4 0]) (.block 0 (.loop Rt Rr Rq ZY))) (.seq (.test false [ PM 24 2,PO 25 (.len false S0),PO 26 (B2 S0 (I6 0))] S0 (.seq (.region false [ VO 1 2 (.mov (.c (.str [48])))]) (.ret)) (.skip)) (.seq (.test false [ PM 27 0,PO 28 (B1 S0 (I6 0))] S0 (.seq (.region false [ PM 29 2,PO 30 (.b2s S0),PO 31 (B0 (.c (.str [45])) (.s
 0)),VS 1 2 0]) (.ret)) (.skip)) (.seq (.region false [ PM 32 2,PO 33 (.b2s S0),VS 1 2 0]) (.ret)))))),[.t 1]⟩
def AEv:List (Nat×Ak):=[]
def Pu:Ak:=DN AEv pJ [.bor]
theorem wP:AQ Tryz.prog 186 Pu:=AI _ rfl AL (by kernel_rfl:Ab Tryz.prog 186 pJ ACx=true)
theorem AOe:Pu.modes=[.bor]:=rfl
theorem AKj:Pu.flat=true:=rfl
attribute [go_sem] AOe AKj
def Tu(n:Int):((List UInt8)×Int)->St
 | (out,k)=>⟨[.int .i64 n,.any,.own 3200000,.int .i64 k,.any],[],[(3200000,⟨1,List.map Dv out⟩)],true⟩
def TV(n:Int)(y:(List UInt8)):Fw:=(.exit 0,⟨[.int .i64 n,.any,.own 3200000,.any,.any],[],[(3200000,⟨1,List.map Dv y⟩)],true⟩)
attribute [local go_sem] pJ Tu TV ZY Rt Rr Rq in
theorem Qu{n:Int}{sgm_:(List UInt8)×Int}{rho_:(List UInt8)}(h:AS (DK n) sgm_=some rho_):∃ L0,∀ L,L0<=L->CV (Aq (AP AEv) L ZY) Rt Rr Rq L (Tu n sgm_)=TV n rho_:=by
 refine Ax (E:=Tu n) (R:=TV n) (fun y=>by first|(intro c;cases c)|(rcases y with y|y<;>(intro c;cases c))|(rcases y with y|y|y<;>(intro c;cases c))) ?_ h;clear h;rintro⟨out,k⟩ o_ h;dsimp only[DK] at h;rcases AE h with⟨z1,h⟩|⟨z1,h⟩
 ·try simp only[go_sem,N1] at z1
  obtain⟨z2,h⟩:=AC h;try simp only[go_sem,N1,z1] at z2
  rcases AE h with⟨z3,h⟩|⟨z3,h⟩
  ·try simp only[go_sem,N1, *] at z3
   obtain⟨z4,h⟩:=AC h;try simp only[go_sem,N1, *] at z4
   obtain rfl:=AA h;refine⟨0,fun L hL=>?_⟩;simp only[go_sem, *]
  ·try simp only[go_sem,N1, *] at z3
   obtain⟨z5,h⟩:=AC h;try simp only[go_sem,N1, *] at z5
   obtain rfl:=AA h;refine⟨0,fun L hL=>?_⟩;simp only[go_sem, *]
 ·try simp only[go_sem,N1] at z1
  obtain rfl:=AA h;refine⟨0,fun L hL=>?_⟩;simp only[go_sem,z1]
attribute [local go_sem] Tu TV Rt Rr Rq pJ in
theorem Nt{n:Int}{y_:(List UInt8)}(h:Di n=some y_):Pu.F [.int .i64 n]=⟨true,.str y_,[.any]⟩:=by
 refine Ah rfl ?_;dsimp only[Di] at h;obtain⟨y_6,z6,h⟩:=AB h;obtain⟨Lz6,ez6⟩:=Qu z6;rcases AE h with⟨z7,h⟩|⟨z7,h⟩
 ·try simp only[go_sem,N1] at z7
  obtain rfl:=AA h;refine⟨Lz6,fun L hL=>?_⟩;have ez6:=ez6 L (by omega);try simp only[go_sem,z7] at ez6
  simp only[go_sem, *]
 ·try simp only[go_sem,N1] at z7
  rcases AE h with⟨z8,h⟩|⟨z8,h⟩
  ·try simp only[go_sem,N1,z7] at z8
   obtain⟨z9,h⟩:=AC h;try simp only[go_sem,N1, *] at z9
   obtain rfl:=AA h;refine⟨Lz6,fun L hL=>?_⟩;have ez6:=ez6 L (by omega);try simp only[go_sem, *] at ez6
   simp only[go_sem, *]
  ·try simp only[go_sem,N1,z7] at z8
   obtain rfl:=AA h;refine⟨Lz6,fun L hL=>?_⟩;have ez6:=ez6 L (by omega);try simp only[go_sem, *] at ez6
   simp only[go_sem, *]
def ADL:List Nat:=[0,2]
def zI:CN:=⟨1,2,.seq (.region false [ VO 1 2 (.mov C2)]) (.seq (.anyo 18 [ SO 0 3 (.mov V0),SO 1 4 (.nilck S0),SO 2 5 (F0 S1),SO 3 6 (L1 S2),SO 4 7 (.callp 186 [S3]),SO 5 8 (B0 S4 C3),SO 6 9 (.mov V0),SO 7 10 (.nilck S6),SO 8 11 (F1 S7),SO 9 12 (L1 S8),SO 10 13 (B0 S5 S9),SO 11 14 (B0 (.s 10) C3),SO 12 15 (.mov V0),SO 13 16 (.nilck (.s 12)),SO 14 17 (F2 (.s 13)),SO 15 18 (L1 (.s 14)),
 SO 16 19 (.callp 186 [(.s 15)]),SO 17 20 (B0 (.s 11) (.s 16)),VS 1 2 17] [] .skip) (.ret)),[.t 1]⟩
def AEu:List (Nat×Ak):=[(186,Pu)]
theorem mP:AP AEu 186=some Pu:=rfl
def Vg:Ak:=DN AEu zI [.bor]
theorem AFJ:AQ Tryz.prog 154 Vg:=AI _ rfl (AF wP AL) (by kernel_rfl:Ab Tryz.prog 154 zI ADL=true)
theorem AOd:Vg.modes=[.bor]:=rfl
theorem AKi:Vg.flat=true:=rfl
attribute [go_sem] AOd AKi mP
theorem AAv{e_:Ac}{y_:(List UInt8)}(h:Ha e_=some y_):Vg.F [.ptr 3 [CF e_] 0 0]=⟨true,.str y_,[.any]⟩:=by
 refine Ah rfl ?_;dsimp only[Ha] at h;obtain⟨y_1,z1,h⟩:=AB h;have fz1:=Nt z1;try simp only[go_sem] at fz1
 obtain⟨z2,h⟩:=AC h;try simp only[go_sem,N1] at z2
 obtain⟨z3,h⟩:=AC h;try simp only[go_sem,N1,z2] at z3
 obtain⟨z4,h⟩:=AC h;try simp only[go_sem,N1, *] at z4
 obtain⟨y_5,z5,h⟩:=AB h;have fz5:=Nt z5;try simp only[go_sem, *] at fz5
 obtain⟨z6,h⟩:=AC h;try simp only[go_sem,N1, *] at z6
 obtain rfl:=AA h;refine⟨0,fun L hL=>?_⟩;simp only[go_sem,zI, *]
def Zb:IR:=.seq (.test false [ PM 10 4,PM 11 1,PO 12 (.len true S0),PO 13 (B1 S2 S0)] S0 (.skip) (.exit 0)) (.seq (.block 1 (.region false [ PM 16 3,PO 17 (B8 (I6 31) S0),PM 18 1,PM 19 4,PO 20 (.ixStr S1 S0),PO 21 (.conv .i64 S0),PO 22 (B0 S4 S0),PO 23 (.bin false .rem S0 (I6 65521)),VS 3 5 0])) (.region false [ PM 14 4,PO 15 (B0 S0 (I6 1)),VS 4 6 0]))
def SC:List Bool:=[false,true,false,true,true]
def SB:List Bool:=[false,false,false,true,false]
def SA:List Bool:=[false,false,true,false,false]
def ADM:List Nat:=[0,1,4,5,6]
def pM:CN:=⟨2,5,.seq (.region false [ VO 2 4 (.mov (I6 0))]) (.seq (.region false [ PM 7 0,PO 8 (B0 S0 (I6 23)),PO 9 (.bin false .rem S0 (I6 65521)),VS 3 5 0]) (.seq (.seq (.region false [ VO 4 6 (.mov (I6 0))]) (.block 0 (.loop SC SB SA Zb))) (.seq (.region false [ PM 24 3,VS 2 4 0]) (.ret)))),[.t 2]⟩
def AEt:List (Nat×Ak):=[]
def eC:Ak:=DN AEt pM [.bor,.bor]
theorem ANA:AQ Tryz.prog 153 eC:=AI _ rfl AL (by kernel_rfl:Ab Tryz.prog 153 pM ADM=true)
theorem AOc:eC.modes=[.bor,.bor]:=rfl
theorem AKh:eC.flat=true:=rfl
attribute [go_sem] AOc AKh
def Tt(words:List UInt8):(Int×Int)->St
 | (sum,i)=>⟨[.any,.str words,.any,.int .i64 sum,.int .i64 i],[],[],true⟩
def TU(words:List UInt8)(y:Int):Fw:=(.exit 0,⟨[.any,.any,.any,.int .i64 y,.any],[],[],true⟩)
attribute [local go_sem] pM Tt TU Zb SC SB SA in
theorem Pb{words:List UInt8}{sgm_:Int×Int}{rho_:Int}(h:AS (DP words) sgm_=some rho_):∃ L0,∀ L,L0<=L->CV (Aq (AP AEt) L Zb) SC SB SA L (Tt words sgm_)=TU words rho_:=by
 refine Ax (E:=Tt words) (R:=TU words) (fun y=>by first|(intro c;cases c)|(rcases y with y|y<;>(intro c;cases c))|(rcases y with y|y|y<;>(intro c;cases c))) ?_ h;clear h;rintro⟨sum,i⟩ o_ h;dsimp only[DP] at h;rcases AE h with⟨z2,h⟩|⟨z2,h⟩
 ·try simp only[go_sem,N1] at z2
  obtain⟨z3,h⟩:=AC h;try simp only[go_sem,N1,z2] at z3
  obtain⟨z4,h⟩:=AC h;try simp only[go_sem,N1, *] at z4
  obtain rfl:=AA h;refine⟨0,fun L hL=>?_⟩;simp only[go_sem, *]
 ·try simp only[go_sem,N1] at z2
  obtain rfl:=AA h;refine⟨0,fun L hL=>?_⟩;simp only[go_sem,z2]
attribute [local go_sem] Tt TU SC SB SA pM in
theorem AJs{before:Int}{words:List UInt8}{y_:Int}(h:Hb before words=some y_):eC.F [.int .i64 before,.str words]=⟨true,.int .i64 y_,[.any,.any]⟩:=by
 refine Ah rfl ?_;dsimp only[Hb] at h;obtain⟨z1,h⟩:=AC h;try simp only[go_sem,N1] at z1
 obtain⟨y_5,z5,h⟩:=AB h;obtain⟨Lz5,ez5⟩:=Pb z5;obtain rfl:=AA h;refine⟨Lz5,fun L hL=>?_⟩;have ez5:=ez5 L (by omega);try simp only[go_sem,z1] at ez5
 simp only[go_sem, *]
def ADK:List Nat:=[0,1,4]
def zH:CN:=⟨2,3,.seq (.region false [ VO 2 4 (.mov C2)]) (.seq (.region false [ PM 5 1,PO 6 (.call 154 [S0]),PO 7 (B0 S0 C3),PM 8 0,PO 9 (.call 186 [S0]),PO 10 (B0 S2 S0),PO 11 (B0 S0 (.c (.str [10]))),VS 2 4 0]) (.ret)),[.t 2]⟩
def vw:List (Nat×Ak):=[(154,Vg),(186,Pu)]
theorem mO:AP vw 154=some Vg:=rfl
theorem mN:AP vw 186=some Pu:=rfl
def eB:Ak:=DN vw zH [.bor,.bor]
theorem AMz:AQ Tryz.prog 155 eB:=AI _ rfl (AF AFJ (AF wP AL)) (by kernel_rfl:Ab Tryz.prog 155 zH ADK=true)
theorem AOb:eB.modes=[.bor,.bor]:=rfl
theorem AKg:eB.flat=true:=rfl
attribute [go_sem] AOb AKg mO mN
theorem AJr{stamp:Int}{e_:Ac}{y_:(List UInt8)}(h:JN stamp e_=some y_):eB.F [.int .i64 stamp,.ptr 3 [CF e_] 0 0]=⟨true,.str y_,[.any,.any]⟩:=by
 refine Ah rfl ?_;dsimp only[JN] at h;obtain⟨y_1,z1,h⟩:=AB h;have fz1:=AAv z1;try simp only[go_sem] at fz1
 obtain⟨z2,h⟩:=AC h;try simp only[go_sem,N1] at z2
 obtain⟨y_3,z3,h⟩:=AB h;have fz3:=Nt z3;try simp only[go_sem,z2] at fz3
 obtain⟨z4,h⟩:=AC h;try simp only[go_sem,N1,z2] at z4
 obtain⟨z5,h⟩:=AC h;try simp only[go_sem,N1, *] at z5
 obtain rfl:=AA h;refine⟨0,fun L hL=>?_⟩;simp only[go_sem,zH, *]
def ADI:List Nat:=[0,2]
def zF:CN:=⟨1,2,.seq (.region false [ VO 1 2 (.mov C0)]) (.seq (.region false [ PM 3 0,PO 4 (B6 S0 (.c (.int .u8 (48)))),PO 5 (.mov S0),⟨.push,6,(G1 0),.mov V0⟩,⟨.push,7,(G1 1),B5 S0 (.c (.int .u8 (57)))⟩,PO 8 (.pick S2 S0 C0),VS 1 2 0]) (.ret)),[.t 1]⟩
def AMA:List (Nat×Ak):=[]
def Vf:Ak:=DN AMA zF [.bor]
theorem AFI:AQ Tryz.prog 157 Vf:=AI _ rfl AL (by kernel_rfl:Ab Tryz.prog 157 zF ADI=true)
theorem AOa:Vf.modes=[.bor]:=rfl
theorem AKf:Vf.flat=true:=rfl
attribute [go_sem] AOa AKf
theorem oI{c:UInt8}{y_:Bool}(h:Dw c=some y_):Vf.F [.int .u8 (c.toNat:Int)]=⟨true,.bool y_,[.any]⟩:=by
 refine Ah rfl ?_;dsimp only[Dw] at h;obtain rfl:=AA h;refine⟨0,fun L hL=>?_⟩;simp only[go_sem,zF]
def Oa:IR:=.seq (.test false [ PM 25 5,PM 26 3,PO 27 (.len true S0),PO 28 (B1 S2 S0)] S0 (.skip) (.exit 0)) (.seq (.block 1 (.seq (.test false [ PM 31 3,PM 32 5,PO 33 (.ixStr S1 S0),PO 34 (.call 157 [S0]),PO 35 (.un .not S0)] S0 (.seq (.region false [ VO 1 2 (.mov (I6 0)),VO 2 3 (.mov C0)]) (.ret)) (.skip)) (.region false [ PM 36 4,PO 37 (B8 (I6 10) S0),PM 38 3,PM 39 5,PO 40 (.ixStr S1 S0),PO 41 (B3 S0 (.c (.int .u8 (48)))),PO 42 (.conv .i64 S0),PO 43 (.bin
 false .add S5 S0),VS 4 5 0]))) (.region false [ PM 29 5,PO 30 (B0 S0 (I6 1)),VS 5 6 0]))
def Mp:List Bool:=[true,false,false,true,true,true]
def Mo:List Bool:=[true,false,false,true,true,false]
def Mn:List Bool:=[false,true,true,false,false,false]
def ADP:List Nat:=[0,2,3,4,5,6]
def jZ:CN:=⟨1,6,.seq (.region false [ VO 1 2 (.mov (I6 0)),VO 2 3 (.mov C0)]) (.seq (.region false [ PM 7 0,VS 3 4 0]) (.seq (.test false [ PM 8 3,PO 9 (B7 S0 C2),PO 10 (.mov S0),⟨.push,11,(G1 0),.mov V3⟩,⟨.push,12,(G1 1),.ixStr S0 (I6 0)⟩,⟨.push,13,(G1 2),B2 S0 (.c (.int .u8 (45)))⟩,PO 14 (.pick S3 S0 C0)] S0 (.region false [ PM 15 3,PO 16 (.slice 0 S0 (some (I6 1)) none),VS 3 4 0]) (.skip)) (.seq (.test false [ PM
 17 3,PO 18 (.len true S0),PO 19 (B1 S0 (I6 1)),PO 20 (.mov S0),⟨.push,21,(G0 0),.mov V3⟩,⟨.push,22,(G0 1),.len true S0⟩,⟨.push,23,(G0 2),B4 S0 (I6 18)⟩,PO 24 (.pick S3 C1 S0)] S0 (.seq (.region false [ VO 1 2 (.mov (I6 0)),VO 2 3 (.mov C0)]) (.ret)) (.skip)) (.seq (.region false [ VO 4 5 (.mov (I6 0))]) (.seq (.seq (.region false [ VO 5 6 (.mov (I6 0))]) (.block 0 (.loop Mp Mo Mn Oa))) (.seq (.test false [ PM 44 3,
 PO 45 (.len true S0),PM 46 0,PO 47 (.len true S0),PO 48 (B1 S2 S0)] S0 (.region false [ PM 49 4,PO 50 (.un .neg S0),VS 4 5 0]) (.skip)) (.seq (.test false [ PM 51 4,PO 52 (.call 186 [S0]),PM 53 0,PO 54 (B7 S1 S0)] S0 (.seq (.region false [ VO 1 2 (.mov (I6 0)),VO 2 3 (.mov C0)]) (.ret)) (.skip)) (.seq (.region false [ PM 55 4,VS 1 2 0,VO 2 3 (.mov C1)]) (.ret))))))))),[.t 1,.t 2]⟩
def iL:List (Nat×Ak):=[(157,Vf),(186,Pu)]
theorem mM:AP iL 157=some Vf:=rfl
theorem mL:AP iL 186=some Pu:=rfl
def eA:Ak:=DN iL jZ [.bor]
theorem AMy:AQ Tryz.prog 150 eA:=AI _ rfl (AF AFI (AF wP AL)) (by kernel_rfl:Ab Tryz.prog 150 jZ ADP=true)
theorem AOZ:eA.modes=[.bor]:=rfl
theorem AKe:eA.flat=true:=rfl
attribute [go_sem] AOZ AKe mM mL
def PD(s_:List UInt8)(t:List UInt8):(Int×Int)->St
 | (n,i)=>⟨[.str s_,.any,.any,.str t,.int .i64 n,.int .i64 i],[],[],true⟩
def PA(s_:List UInt8)(t:List UInt8):(Int⊕(Int×Bool))->Fw
 | .inl y=>(.exit 0,⟨[.str s_,.any,.any,.str t,.int .i64 y,.any],[],[],true⟩)
 | .inr y=>(.ret,⟨[.any,.int .i64 y.1,.bool y.2,.any,.any,.any],[],[],true⟩)
attribute [local go_sem] jZ PD PA Oa Mp Mo Mn in
theorem OI{s_:List UInt8}{t:List UInt8}{sgm_:Int×Int}{rho_:Int⊕(Int×Bool)}(h:AS (DD s_ t) sgm_=some rho_):∃ L0,∀ L,L0<=L->CV (Aq (AP iL) L Oa) Mp Mo Mn L (PD s_ t sgm_)=PA s_ t rho_:=by
 refine Ax (E:=PD s_ t) (R:=PA s_ t) (fun y=>by first|(intro c;cases c)|(rcases y with y|y<;>(intro c;cases c))|(rcases y with y|y|y<;>(intro c;cases c))) ?_ h;clear h;rintro⟨n,i⟩ o_ h;dsimp only[DD] at h;rcases AE h with⟨z5,h⟩|⟨z5,h⟩
 ·try simp only[go_sem,N1] at z5
  obtain⟨z6,h⟩:=AC h;try simp only[go_sem,N1,z5] at z6
  obtain⟨y_7,z7,h⟩:=AB h;have fz7:=oI z7;try simp only[go_sem, *] at fz7
  rcases AE h with⟨z8,h⟩|⟨z8,h⟩
  all_goals
  try simp only[go_sem,N1, *] at z8
  obtain rfl:=AA h;refine⟨0,fun L hL=>?_⟩;simp only[go_sem, *]
 ·try simp only[go_sem,N1] at z5
  obtain rfl:=AA h;refine⟨0,fun L hL=>?_⟩;simp only[go_sem,z5]
def Ts(s_:List UInt8)(t:List UInt8):(Int×Int)->St
 | (n,i)=>⟨[.str s_,.any,.any,.str t,.int .i64 n,.int .i64 i],[],[],true⟩
def TT(s_:List UInt8)(t:List UInt8):(Int⊕(Int×Bool))->Fw
 | .inl y=>(.exit 0,⟨[.str s_,.any,.any,.str t,.int .i64 y,.any],[],[],true⟩)
 | .inr y=>(.ret,⟨[.any,.int .i64 y.1,.bool y.2,.any,.any,.any],[],[],true⟩)
attribute [local go_sem] jZ Ts TT Oa Mp Mo Mn PD PA in
theorem KJ{s_:List UInt8}{t:List UInt8}{sgm_:Int×Int}{rho_:Int⊕(Int×Bool)}(h:AS (Hq s_ t) sgm_=some rho_):∃ L0,∀ L,L0<=L->CV (Aq (AP iL) L Oa) Mp Mo Mn L (Ts s_ t sgm_)=TT s_ t rho_:=by
 refine Ax (E:=Ts s_ t) (R:=TT s_ t) (fun y=>by first|(intro c;cases c)|(rcases y with y|y<;>(intro c;cases c))|(rcases y with y|y|y<;>(intro c;cases c))) ?_ h;clear h;rintro⟨n,i⟩ o_ h;dsimp only[Hq] at h;rcases AE h with⟨z16,h⟩|⟨z16,h⟩
 ·try simp only[go_sem,N1] at z16
  obtain⟨z17,h⟩:=AC h;try simp only[go_sem,N1,z16] at z17
  obtain⟨y_18,z18,h⟩:=AB h;have fz18:=oI z18;try simp only[go_sem, *] at fz18
  rcases AE h with⟨z19,h⟩|⟨z19,h⟩
  all_goals
  try simp only[go_sem,N1, *] at z19
  obtain rfl:=AA h;refine⟨0,fun L hL=>?_⟩;simp only[go_sem, *]
 ·try simp only[go_sem,N1] at z16
  obtain rfl:=AA h;refine⟨0,fun L hL=>?_⟩;simp only[go_sem,z16]
attribute [local go_sem] jZ PD PA Mp Mo Mn Ts TT in
theorem AAu{s_:List UInt8}{y_:Int×Bool}(h:GV s_=some y_):eA.F [.str s_]=⟨true,.tup [.int .i64 y_.1,.bool y_.2],[.any]⟩:=by
 refine Ah rfl ?_;dsimp only[GV] at h;obtain⟨z1,h⟩:=AC h;rcases Ag z1 with⟨gz1,z1⟩|gz1
 ·try simp only[go_sem,N1] at gz1
  all_goals
  try simp only[go_sem,N1,gz1] at z1
  all_goals
  rcases AE h with⟨z2,h⟩|⟨z2,h⟩
  ·try simp only[go_sem,N1, *] at z2
   all_goals
   obtain⟨z3,h⟩:=AC h;try simp only[go_sem,N1, *] at z3
   all_goals
   rcases AE h with⟨z4,h⟩|⟨z4,h⟩
   ·try simp only[go_sem,N1, *] at z4
    all_goals
    obtain rfl:=AA h;refine⟨0,fun L hL=>?_⟩;simp only[go_sem, *]
   ·try simp only[go_sem,N1, *] at z4
    all_goals
    obtain⟨y_9,z9,h⟩:=AB h;obtain⟨Lz9,ez9⟩:=OI z9;rcases y_9 with y_9a|y_9b
    ·dsimp only at h;rcases AE h with⟨z10,h⟩|⟨z10,h⟩
     ·try simp only[go_sem,N1, *] at z10
      all_goals
      obtain⟨y_11,z11,h⟩:=AB h;have fz11:=Nt z11;try simp only[go_sem, *] at fz11
      rcases AE h with⟨z12,h⟩|⟨z12,h⟩
      all_goals
      try simp only[go_sem,N1, *] at z12
      all_goals
      obtain rfl:=AA h;refine⟨Lz9,fun L hL=>?_⟩;have ez9:=ez9 L (by omega);try simp only[go_sem, *] at ez9
      simp only[go_sem, *]
     ·try simp only[go_sem,N1, *] at z10
      all_goals
      obtain⟨y_13,z13,h⟩:=AB h;have fz13:=Nt z13;try simp only[go_sem, *] at fz13
      rcases AE h with⟨z14,h⟩|⟨z14,h⟩
      all_goals
      try simp only[go_sem,N1, *] at z14
      all_goals
      obtain rfl:=AA h;refine⟨Lz9,fun L hL=>?_⟩;have ez9:=ez9 L (by omega);try simp only[go_sem, *] at ez9
      simp only[go_sem, *]
    ·dsimp only at h;obtain rfl:=AA h;refine⟨Lz9,fun L hL=>?_⟩;have ez9:=ez9 L (by omega);try simp only[go_sem, *] at ez9
     simp only[go_sem, *]
  ·try simp only[go_sem,N1, *] at z2
   all_goals
   rcases AE h with⟨z15,h⟩|⟨z15,h⟩
   ·try simp only[go_sem,N1, *] at z15
    all_goals
    obtain rfl:=AA h;refine⟨0,fun L hL=>?_⟩;simp only[go_sem, *]
   ·try simp only[go_sem,N1, *] at z15
    all_goals
    obtain⟨y_20,z20,h⟩:=AB h;obtain⟨Lz20,ez20⟩:=KJ z20;rcases y_20 with y_20a|y_20b
    ·dsimp only at h;rcases AE h with⟨z21,h⟩|⟨z21,h⟩
     ·try simp only[go_sem,N1, *] at z21
      all_goals
      obtain⟨y_22,z22,h⟩:=AB h;have fz22:=Nt z22;try simp only[go_sem, *] at fz22
      rcases AE h with⟨z23,h⟩|⟨z23,h⟩
      all_goals
      try simp only[go_sem,N1, *] at z23
      all_goals
      obtain rfl:=AA h;refine⟨Lz20,fun L hL=>?_⟩;have ez20:=ez20 L (by omega);try simp only[go_sem, *] at ez20
      simp only[go_sem, *]
     ·try simp only[go_sem,N1, *] at z21
      all_goals
      obtain⟨y_24,z24,h⟩:=AB h;have fz24:=Nt z24;try simp only[go_sem, *] at fz24
      rcases AE h with⟨z25,h⟩|⟨z25,h⟩
      all_goals
      try simp only[go_sem,N1, *] at z25
      all_goals
      obtain rfl:=AA h;refine⟨Lz20,fun L hL=>?_⟩;have ez20:=ez20 L (by omega);try simp only[go_sem, *] at ez20
      simp only[go_sem, *]
    ·dsimp only at h;obtain rfl:=AA h;refine⟨Lz20,fun L hL=>?_⟩;have ez20:=ez20 L (by omega);try simp only[go_sem, *] at ez20
     simp only[go_sem, *]
 ·have gz1n:=FO gz1;try simp only[go_sem,N1] at gz1n
  all_goals
  rcases AE h with⟨z2,h⟩|⟨z2,h⟩
  ·try simp only[go_sem,N1,gz1n] at z2
   all_goals
   (simp_all)
  ·try simp only[go_sem,N1,gz1n] at z2
   all_goals
   rcases AE h with⟨z15,h⟩|⟨z15,h⟩
   ·try simp only[go_sem,N1, *] at z15
    all_goals
    obtain rfl:=AA h;refine⟨0,fun L hL=>?_⟩;simp only[go_sem, *]
   ·try simp only[go_sem,N1, *] at z15
    all_goals
    obtain⟨y_20,z20,h⟩:=AB h;obtain⟨Lz20,ez20⟩:=KJ z20;rcases y_20 with y_20a|y_20b
    ·dsimp only at h;rcases AE h with⟨z21,h⟩|⟨z21,h⟩
     ·try simp only[go_sem,N1, *] at z21
      all_goals
      obtain⟨y_22,z22,h⟩:=AB h;have fz22:=Nt z22;try simp only[go_sem, *] at fz22
      rcases AE h with⟨z23,h⟩|⟨z23,h⟩
      all_goals
      try simp only[go_sem,N1, *] at z23
      all_goals
      obtain rfl:=AA h;refine⟨Lz20,fun L hL=>?_⟩;have ez20:=ez20 L (by omega);try simp only[go_sem, *] at ez20
      simp only[go_sem, *]
     ·try simp only[go_sem,N1, *] at z21
      all_goals
      obtain⟨y_24,z24,h⟩:=AB h;have fz24:=Nt z24;try simp only[go_sem, *] at fz24
      rcases AE h with⟨z25,h⟩|⟨z25,h⟩
      all_goals
      try simp only[go_sem,N1, *] at z25
      all_goals
      obtain rfl:=AA h;refine⟨Lz20,fun L hL=>?_⟩;have ez20:=ez20 L (by omega);try simp only[go_sem, *] at ez20
      simp only[go_sem, *]
    ·dsimp only at h;obtain rfl:=AA h;refine⟨Lz20,fun L hL=>?_⟩;have ez20:=ez20 L (by omega);try simp only[go_sem, *] at ez20
     simp only[go_sem, *]
def ADH:List Nat:=[0,1,2,6]
def zE:CN:=⟨3,4,.seq (.region false [ VO 3 6 (.mov C0)]) (.seq (.region false [ PM 7 0,PM 8 1,PO 9 (B6 S1 S0),PO 10 (.mov S0),⟨.push,11,(G1 0),.mov V0⟩,⟨.push,12,(G1 1),.mov V2⟩,⟨.push,13,(G1 2),B5 S1 S0⟩,PO 14 (.pick S3 S0 C0),VS 3 6 0]) (.ret)),[.t 3]⟩
def ALz:List (Nat×Ak):=[]
def Kf:Ak:=DN ALz zE [.bor,.bor,.bor]
theorem cH:AQ Tryz.prog 158 Kf:=AI _ rfl AL (by kernel_rfl:Ab Tryz.prog 158 zE ADH=true)
theorem AOY:Kf.modes=[.bor,.bor,.bor]:=rfl
theorem AKd:Kf.flat=true:=rfl
attribute [go_sem] AOY AKd
theorem VC{n:Int}{low:Int}{high:Int}{y_:Bool}(h:GD n low high=some y_):Kf.F [.int .i64 n,.int .i64 low,.int .i64 high]=⟨true,.bool y_,[.any,.any,.any]⟩:=by
 refine Ah rfl ?_;dsimp only[GD] at h;obtain rfl:=AA h;refine⟨0,fun L hL=>?_⟩;simp only[go_sem,zE]
def ACw:List Nat:=[0,2]
def yy:CN:=⟨1,2,.seq (.region false [ VO 1 2 (.mov C0)]) (.seq (.region false [ PM 3 0,PO 4 (.call 158 [S0,(I6 0),(I6 100000)]),VS 1 2 0]) (.ret)),[.t 1]⟩
def AEs:List (Nat×Ak):=[(158,Kf)]
theorem mK:AP AEs 158=some Kf:=rfl
def dy:Ak:=DN AEs yy [.bor]
theorem AMx:AQ Tryz.prog 187 dy:=AI _ rfl (AF cH AL) (by kernel_rfl:Ab Tryz.prog 187 yy ACw=true)
theorem AOX:dy.modes=[.bor]:=rfl
theorem AKc:dy.flat=true:=rfl
attribute [go_sem] AOX AKc mK
theorem AJq{n:Int}{y_:Bool}(h:Lk n=some y_):dy.F [.int .i64 n]=⟨true,.bool y_,[.any]⟩:=by
 refine Ah rfl ?_;dsimp only[Lk] at h;obtain⟨y_1,z1,h⟩:=AB h;have fz1:=VC z1;try simp only[go_sem] at fz1
 obtain rfl:=AA h;refine⟨0,fun L hL=>?_⟩;simp only[go_sem,yy,fz1]
def ADJ:List Nat:=[0,2]
def zG:CN:=⟨1,2,.seq (.region false [ VO 1 2 (.mov C0)]) (.seq (.region false [ PM 3 0,PO 4 (B6 S0 (.c (.int .u8 (97)))),PO 5 (.mov S0),⟨.push,6,(G1 0),.mov V0⟩,⟨.push,7,(G1 1),B5 S0 (.c (.int .u8 (122)))⟩,PO 8 (.pick S2 S0 C0),VS 1 2 0]) (.ret)),[.t 1]⟩
def ALy:List (Nat×Ak):=[]
def dx:Ak:=DN ALy zG [.bor]
theorem AMw:AQ Tryz.prog 156 dx:=AI _ rfl AL (by kernel_rfl:Ab Tryz.prog 156 zG ADJ=true)
theorem AOW:dx.modes=[.bor]:=rfl
theorem AKb:dx.flat=true:=rfl
attribute [go_sem] AOW AKb
theorem AAt{c:UInt8}{y_:Bool}(h:GC c=some y_):dx.F [.int .u8 (c.toNat:Int)]=⟨true,.bool y_,[.any]⟩:=by
 refine Ah rfl ?_;dsimp only[GC] at h;obtain rfl:=AA h;refine⟨0,fun L hL=>?_⟩;simp only[go_sem,zG]
def Zn:IR:=.seq (.test false [ PM 17 2,PM 18 0,PO 19 (.len true S0),PO 20 (B1 S2 S0)] S0 (.skip) (.exit 0)) (.seq (.block 1 (.test false [ PM 23 0,PM 24 2,PO 25 (.ixStr S1 S0),PO 26 (.call 156 [S0]),PO 27 (.un .not S0),PO 28 (.mov S0),⟨.push,29,(G1 0),.mov V0⟩,⟨.push,30,(G1 1),.mov V2⟩,⟨.push,31,(G1 2),.ixStr S1 S0⟩,⟨.push,32,(G1 3),.call 157 [S0]⟩,⟨.push,33,(G1 4),.un .not S0⟩,PO 34 (.pick S5 S0 (.c
 (.bool false))),PO 35 (.mov S0),⟨.push,36,(G1 0),.mov V0⟩,⟨.push,37,(G1 1),.mov V2⟩,⟨.push,38,(G1 2),.ixStr S1 S0⟩,⟨.push,39,(G1 3),B7 S0 (.c (.int .u8 (45)))⟩,PO 40 (.pick S4 S0 C0)] S0 (.seq (.region false [ VO 1 2 (.mov C0)]) (.ret)) (.skip))) (.region false [ PM 21 2,PO 22 (B0 S0 (I6 1)),VS 2 3 0]))
def Sn:List Bool:=[true,false,true]
def Sm:List Bool:=[false,false,false]
def Sl:List Bool:=[false,true,false]
def ADs:List Nat:=[0,2,3]
def pb:CN:=⟨1,3,.seq (.region false [ VO 1 2 (.mov C0)]) (.seq (.test false [ PM 4 0,PO 5 (B2 S0 C2),PO 6 (.mov S0),⟨.push,7,(G0 0),.mov V0⟩,⟨.push,8,(G0 1),.len true S0⟩,⟨.push,9,(G0 2),B4 S0 (I6 12)⟩,PO 10 (.pick S3 C1 S0),PO 11 (.mov S0),⟨.push,12,(G0 0),.mov V0⟩,⟨.push,13,(G0 1),.ixStr S0 (I6 0)⟩,⟨.push,14,(G0 2),.call 156 [S0]⟩,⟨.push,15,(some
 (S3,false)),.un .not S0⟩,PO 16 (.pick S4 C1 S0)] S0 (.seq (.region false [ VO 1 2 (.mov C0)]) (.ret)) (.skip)) (.seq (.seq (.region false [ VO 2 3 (.mov (I6 0))]) (.block 0 (.loop Sn Sm Sl Zn))) (.seq (.region false [ VO 1 2 (.mov C1)]) (.ret)))),[.t 1]⟩
def oS:List (Nat×Ak):=[(156,dx),(157,Vf)]
theorem mJ:AP oS 156=some dx:=rfl
theorem mI:AP oS 157=some Vf:=rfl
def Pt:Ak:=DN oS pb [.bor]
theorem wO:AQ Tryz.prog 106 Pt:=AI _ rfl (AF AMw (AF AFI AL)) (by kernel_rfl:Ab Tryz.prog 106 pb ADs=true)
theorem AOV:Pt.modes=[.bor]:=rfl
theorem AKa:Pt.flat=true:=rfl
attribute [go_sem] AOV AKa mJ mI
def Tr(s_:List UInt8):Int->St
 | i=>⟨[.str s_,.any,.int .i64 i],[],[],true⟩
def TS(s_:List UInt8):(Unit⊕Bool)->Fw
 | .inl y=>(.exit 0,⟨[.any,.any,.any],[],[],true⟩)
 | .inr y=>(.ret,⟨[.any,.bool y,.any],[],[],true⟩)
attribute [local go_sem] pb Tr TS Zn Sn Sm Sl in
theorem Ll{s_:List UInt8}{sgm_:Int}{rho_:Unit⊕Bool}(h:AS (GW s_) sgm_=some rho_):∃ L0,∀ L,L0<=L->CV (Aq (AP oS) L Zn) Sn Sm Sl L (Tr s_ sgm_)=TS s_ rho_:=by
 refine Ax (E:=Tr s_) (R:=TS s_) (fun y=>by first|(intro c;cases c)|(rcases y with y|y<;>(intro c;cases c))|(rcases y with y|y|y<;>(intro c;cases c))) ?_ h;clear h;intro i o_ h;dsimp only[GW] at h;rcases AE h with⟨z4,h⟩|⟨z4,h⟩
 ·try simp only[go_sem,N1] at z4
  all_goals
  obtain⟨z5,h⟩:=AC h;try simp only[go_sem,N1,z4] at z5
  all_goals
  obtain⟨y_6,z6,h⟩:=AB h;have fz6:=AAt z6;try simp only[go_sem, *] at fz6
  obtain⟨z7,h⟩:=AC h;rcases Ag z7 with⟨gz7,z7⟩|gz7
  ·try simp only[go_sem,N1, *] at gz7
   all_goals
   obtain⟨y_7,hz7⟩:=isX z7;have fz7:=oI hz7;try simp only[go_sem,N1, *] at hz7
   all_goals
   try simp only[go_sem, *] at fz7
   rcases AE h with⟨z8,h⟩|⟨z8,h⟩
   all_goals
   try simp only[go_sem,N1, *] at z8
   all_goals
   obtain rfl:=AA h;refine⟨0,fun L hL=>?_⟩;simp only[go_sem, *]
  ·have gz7n:=FO gz7;try simp only[go_sem,N1, *] at gz7n
   all_goals
   rcases AE h with⟨z8,h⟩|⟨z8,h⟩
   ·try simp only[go_sem,N1, *] at z8
    all_goals
    (simp_all)
   ·try simp only[go_sem,N1, *] at z8
    all_goals
    obtain rfl:=AA h;refine⟨0,fun L hL=>?_⟩;simp only[go_sem, *]
 ·try simp only[go_sem,N1] at z4
  all_goals
  obtain rfl:=AA h;refine⟨0,fun L hL=>?_⟩;simp only[go_sem,z4]
attribute [local go_sem] pb Tr TS Sn Sm Sl in
theorem gu{s_:List UInt8}{y_:Bool}(h:Co s_=some y_):Pt.F [.str s_]=⟨true,.bool y_,[.any]⟩:=by
 refine Ah rfl ?_;dsimp only[Co] at h;obtain⟨z1,h⟩:=AC h;rcases Ag z1 with⟨gz1,z1⟩|gz1
 ·try simp only[go_sem,N1] at gz1
  all_goals
  try simp only[go_sem,N1,gz1] at z1
  all_goals
  obtain⟨z2,h⟩:=AC h;rcases Ag z2 with⟨gz2,z2⟩|gz2
  ·try simp only[go_sem,N1, *] at gz2
   all_goals
   obtain⟨y_2,hz2⟩:=isX z2;have fz2:=AAt hz2;try simp only[go_sem,N1, *] at hz2
   all_goals
   try simp only[go_sem, *] at fz2
   rcases AE h with⟨z3,h⟩|⟨z3,h⟩
   ·try simp only[go_sem,N1, *] at z3
    all_goals
    obtain rfl:=AA h;refine⟨0,fun L hL=>?_⟩;simp only[go_sem, *]
   ·try simp only[go_sem,N1, *] at z3
    all_goals
    obtain⟨y_9,z9,h⟩:=AB h;obtain⟨Lz9,ez9⟩:=Ll z9;rcases y_9 with y_9a|y_9b
    all_goals
    dsimp only at h;obtain rfl:=AA h;refine⟨Lz9,fun L hL=>?_⟩;have ez9:=ez9 L (by omega);try simp only[go_sem, *] at ez9
    simp only[go_sem, *]
  ·have gz2n:=FO gz2;rcases bP gz2n with gz2na|⟨gz2na,gz2nb⟩
   ·try simp only[go_sem,N1, *] at gz2na
    all_goals
    (simp_all)
   ·try simp only[go_sem,N1, *] at gz2na
    all_goals
    try simp only[go_sem,N1, *] at gz2nb
    all_goals
    rcases AE h with⟨z3,h⟩|⟨z3,h⟩
    ·try simp only[go_sem,N1, *] at z3
     all_goals
     obtain rfl:=AA h;refine⟨0,fun L hL=>?_⟩;simp only[go_sem, *]
    ·try simp only[go_sem,N1, *] at z3
     all_goals
     obtain⟨y_9,z9,h⟩:=AB h;obtain⟨Lz9,ez9⟩:=Ll z9;rcases y_9 with y_9a|y_9b
     all_goals
     dsimp only at h;obtain rfl:=AA h;refine⟨Lz9,fun L hL=>?_⟩;have ez9:=ez9 L (by omega);try simp only[go_sem, *] at ez9
     simp only[go_sem, *]
 ·have gz1n:=FO gz1;rcases bP gz1n with gz1na|⟨gz1na,gz1nb⟩
  ·try simp only[go_sem,N1] at gz1na
   all_goals
   obtain⟨z2,h⟩:=AC h;rcases AE h with⟨z3,h⟩|⟨z3,h⟩
   ·try simp only[go_sem,N1,gz1na] at z3
    all_goals
    obtain rfl:=AA h;refine⟨0,fun L hL=>?_⟩;simp only[go_sem, *]
   ·try simp only[go_sem,N1,gz1na] at z3
    all_goals
    (simp_all)
  ·try simp only[go_sem,N1] at gz1na
   all_goals
   try simp only[go_sem,N1,gz1na] at gz1nb
   all_goals
   obtain⟨z2,h⟩:=AC h;rcases AE h with⟨z3,h⟩|⟨z3,h⟩
   ·try simp only[go_sem,N1, *] at z3
    all_goals
    obtain rfl:=AA h;refine⟨0,fun L hL=>?_⟩;simp only[go_sem, *]
   ·try simp only[go_sem,N1, *] at z3
    all_goals
    (simp_all)
def ADO:List Nat:=[0,2]
def jY:CN:=⟨1,2,.seq (.region false [ VO 1 2 (.mov C0)]) (.seq (.region false [ PM 3 0,PO 4 (.nilck S0),PO 5 (F0 S0),PO 6 (L1 S0),PO 7 (.call 187 [S0]),PO 8 (.mov S0),⟨.push,9,(G1 0),.mov V0⟩,⟨.push,10,(G1 1),.nilck S0⟩,⟨.push,11,(G1 2),F1 S0⟩,⟨.push,12,(G1 3),L1 S0⟩,⟨.push,13,(G1 4),.call 106 [S0]⟩,PO 14 (.pick S5 S0 C0),PO 15 (.mov S0),⟨.push,16,(some (S0,
 true)),.mov V0⟩,⟨.push,17,(G1 1),.nilck S0⟩,⟨.push,18,(G1 2),F2 S0⟩,⟨.push,19,(G1 3),L1 S0⟩,⟨.push,20,(G1 4),.call 158 [S0,(.c (.int .i64 (-1000000))),(I6 1000000)]⟩,PO 21 (.pick S5 S0 C0),VS 1 2 0]) (.ret)),[.t 1]⟩
def oR:List (Nat×Ak):=[(187,dy),(106,Pt),(158,Kf)]
theorem mF:AP oR 187=some dy:=rfl
theorem mH:AP oR 106=some Pt:=rfl
theorem mG:AP oR 158=some Kf:=rfl
def du:Ak:=DN oR jY [.bor]
theorem AMv:AQ Tryz.prog 151 du:=AI _ rfl (AF AMx (AF wO (AF cH AL))) (by kernel_rfl:Ab Tryz.prog 151 jY ADO=true)
theorem AOU:du.modes=[.bor]:=rfl
theorem AKZ:du.flat=true:=rfl
attribute [go_sem] AOU AKZ mF mH mG
theorem AJp{e_:Ac}{y_:Bool}(h:Ir e_=some y_):du.F [.ptr 3 [CF e_] 0 0]=⟨true,.bool y_,[.any]⟩:=by
 refine Ah rfl ?_;dsimp only[Ir] at h;obtain⟨y_1,z1,h⟩:=AB h;have fz1:=AJq z1;try simp only[go_sem] at fz1
 obtain⟨z2,h⟩:=AC h;rcases Ag z2 with⟨gz2,z2⟩|gz2
 ·try simp only[go_sem,N1] at gz2
  all_goals
  obtain⟨y_2,hz2⟩:=isX z2;have fz2:=gu hz2;try simp only[go_sem,N1,gz2] at hz2
  all_goals
  try simp only[go_sem,gz2] at fz2
  obtain⟨z3,h⟩:=AC h;rcases Ag z3 with⟨gz3,z3⟩|gz3
  ·try simp only[go_sem,N1, *] at gz3
   all_goals
   obtain⟨y_3,hz3⟩:=isX z3;have fz3:=VC hz3;try simp only[go_sem,N1, *] at hz3
   all_goals
   try simp only[go_sem, *] at fz3
   obtain rfl:=AA h;refine⟨0,fun L hL=>?_⟩;simp only[go_sem,jY, *]
  ·rcases HU gz3 with gz3a|⟨gz3a,gz3b⟩
   ·try simp only[go_sem,N1, *] at gz3a
    all_goals
    (simp_all)
   ·try simp only[go_sem,N1, *] at gz3a
    all_goals
    try simp only[go_sem,N1, *] at gz3b
    all_goals
    obtain rfl:=AA h;refine⟨0,fun L hL=>?_⟩;simp only[go_sem,jY, *]
 ·try simp only[go_sem,N1] at gz2
  all_goals
  obtain⟨z3,h⟩:=AC h;obtain rfl:=AA h;refine⟨0,fun L hL=>?_⟩;simp only[go_sem,jY, *]
def ADN:List Nat:=[0,2]
def pN:CN:=⟨1,2,.seq (.region false [ VO 1 2 (.mov (I6 0))]) (.seq (.test false [ PM 3 0,PO 4 (.nilck S0),PO 5 (F3 S0),PO 6 (L1 S0),PO 7 (.len false S0),PO 8 (B2 S0 (I6 0))] S0 (.seq (.region false [ VO 1 2 (.mov (I6 0))]) (.ret)) (.skip)) (.seq (.anyo 13 [ SO 0 9 (.mov V0),SO 1 10 (.nilck S0),SO 2 11 (F3 S1),SO 3 12 (L1 S2),SO 4 13 (.mov V0),SO 5 14 (.nilck S4),SO 6 15 (F3 S5),SO 7 16 (L1 S6),SO 8 17 (.len false S7),SO 9 18 (.bin false .sub
 S8 (I6 1)),SO 10 19 (.ixAddr 3 S3 S9),SO 11 20 (F0 (.s 10)),SO 12 21 (L1 (.s 11)),VS 1 2 12] [] .skip) (.ret))),[.t 1]⟩
def Vm:List (Nat×Ak):=[]
def Ff:Ak:=DN Vm pN [.bor]
theorem Vo:AQ Tryz.prog 152 Ff:=AI _ rfl AL (by kernel_rfl:Ab Tryz.prog 152 pN ADN=true)
theorem Vz:Ff.modes=[.bor]:=rfl
theorem VE:Ff.flat=true:=rfl
attribute [go_sem] Vz VE
theorem VB{r:Hu}{y_:Int}(h:Hc r=some y_):Ff.F [.ptr 4 [FE r] 0 0]=⟨true,.int .i64 y_,[.any]⟩:=by
 refine Ah rfl ?_;dsimp only[Hc] at h;rcases AE h with⟨z1,h⟩|⟨z1,h⟩
 ·try simp only[go_sem,N1] at z1
  obtain rfl:=AA h;refine⟨0,fun L hL=>?_⟩;simp only[go_sem,pN,z1]
 ·try simp only[go_sem,N1] at z1
  obtain⟨z2,h⟩:=AC h;have lz2:=Az z2;try simp only[go_sem] at lz2
  try simp only[go_sem,N1,z1] at z2
  obtain rfl:=AA h;refine⟨0,fun L hL=>?_⟩;simp only[go_sem,pN, *]
section
variable (PINV:Value)
def Zo:IR:=.seq (.test false [ PM 15 2,PM 16 0,PO 17 (.nilck S0),PO 18 (F0 S0),PO 19 (L1 S0),PO 20 (.len true S0),PO 21 (B1 S5 S0),PO 22 (.mov S0),⟨.push,23,(G1 0),.mov V0⟩,⟨.push,24,(G1 1),.nilck S0⟩,⟨.push,25,(G1 2),F0 S0⟩,⟨.push,26,(G1 3),L1 S0⟩,⟨.push,27,(G1 4),.mov V2⟩,⟨.push,28,(G1 5),.ixStr S1 S0⟩,⟨.push,29,(G1 6),B7 (.s
 0) (.c (.int .u8 (10)))⟩,PO 30 (.pick S7 S0 C0)] S0 (.skip) (.exit 0)) (.block 1 (.region false [ PM 31 2,PO 32 (B0 S0 (I6 1)),VS 2 3 0]))
def Sq:List Bool:=[true,true,true,false,false,false,false,false,true,true,true]
def Sp:List Bool:=[true,true,true,false,false,false,false,false,true,true,true]
def So:List Bool:=[false,true,true,false,false,false,false,false,true,true,true]
def gA:List Nat:=[0,2,3,4,5,6,7,8,9,10,0]
def cw:CN:=⟨1,11,.seq (.region false [ VO 1 2 (.mov C0)]) (.seq (.region false [ PM 11 0,PO 12 (.nilck S0),PO 13 (F1 S0),PO 14 (L1 S0),VS 2 3 0]) (.seq (.block 0 (.loop Sq Sp So Zo)) (.seq (.test false [ PM 33 2,PM 34 0,PO 35 (.nilck S0),PO 36 (F0 S0),PO 37 (L1 S0),PO 38 (.len true S0),PO 39 (B6 S5 S0)] S0 (.seq (.region false [ VO 1 2 (.mov C0)]) (.ret)) (.skip)) (.seq (.anyo 11 [ SO 0 40 (.mov V0),SO 1 41 (.nilck S0),
 SO 2 42 (F0 S1),SO 3 43 (L1 S2),SO 4 44 (.mov V0),SO 5 45 (.nilck S4),SO 6 46 (F1 S5),SO 7 47 (L1 S6),SO 8 48 (.mov V2),SO 9 49 (.pur (.slice 0 S3 (some S7) (some S8))),SO 10 50 (.pur (.call 149 [S9,(.c (.int .u8 (32)))])),VS 3 4 10] [] .skip) (.seq (.test false [ PM 51 3,PO 52 (.len false S0),PO 53 (B7 S0 (I6 4))] S0 (.seq (.region false [ VO 1 2 (.mov C0)]) (.ret)) (.skip)) (.seq (.region false [ PM 55 3,PO 56 (.ixAddr 1 S0 (I6 0)),PO 57 (.load false 1
 S0),PO 58 (.call 150 [S0]),PO 54 (.mov S0),PO 59 (.ext S0 0),PO 60 (.ext S1 1),VS 4 5 1,VS 5 6 0]) (.seq (.region false [ PM 62 3,PO 63 (.ixAddr 1 S0 (I6 2)),PO 64 (L1 S0),PO 65 (.call 150 [S0]),PO 61 (.mov S0),PO 66 (.ext S0 0),PO 67 (.ext S1 1),VS 6 7 1,VS 7 8 0]) (.seq (.region false [ PM 68 4,PM 69 3,PO 70 (.ixAddr 1 S0 (I6 1)),PO 71 (L1 S0),PM 72 6,PO 73 (.build [.int .i64 (0),.str [],.int .i64 (0)] [(0,1,S4),(1,1,S1),(2,1,S0)]),VO 8 9 (.alloc (.agg [.int .i64 (0),.str [],
 .int .i64 (0)])),⟨.no,0,none,.store 3 V8 S0⟩]) (.seq (.anyo 17 [ SO 0 74 (.mov V5),SO 1 75 (.un .not S0),SO 2 76 (.mov S1),⟨.slot 3,77,(G0 2),.mov V7⟩,⟨.slot 4,78,(G0 2),.un .not S3⟩,SO 5 79 (.pick S2 C1 S4),SO 6 80 (.mov S5),⟨.slot 7,81,(G0 6),.call 151 [V8]⟩,⟨.slot 8,82,(G0 6),.un .not S7⟩,SO 9 83 (.pick S6 C1 S8),SO 10 84 (.mov S9),⟨.slot 11,85,(G0 10),F0 V8⟩,⟨.slot 12,86,(some
 ((.s 10),false)),L1 (.s 11)⟩,⟨.slot 13,87,(G0 10),.mov V0⟩,⟨.slot 14,88,(G0 10),.call 152 [(.s 13)]⟩,⟨.slot 15,89,(G0 10),B1 (.s 12) (.s 14)⟩,SO 16 90 (.pick (.s 10) C1 (.s 15))] [] (.cond (.s 16) (.seq (.region false [ VO 1 2 (.mov C0)]) (.ret)) (.skip))) (.seq (.anyo 6 [ SO 0 91 (.mov V0),SO 1 92 (.nilck S0),SO 2 93 (F2 S1),SO 3 94 (L1 S2),SO 4 95 (.callp 154 [V8]),SO 5 96 (.callp 153 [S3,S4]),VS 9 10 5] [] .skip)
 (.seq (.anyo 14 [ SO 0 97 (.mov V9),SO 1 98 (.callp 155 [S0,V8]),SO 2 99 (.mov V0),SO 3 100 (.nilck S2),SO 4 101 (F0 S3),SO 5 102 (L1 S4),SO 6 103 (.mov V0),SO 7 104 (.nilck S6),SO 8 105 (F1 S7),SO 9 106 (L1 S8),SO 10 107 (.mov V2),SO 11 108 (B0 (.s 10) (I6 1)),SO 12 109 (.pur (.slice 0 S5 (some S9) (some (.s 11)))),SO 13 110 (B7 S1 (.s 12))] [] (.cond (.s 13) (.seq (.region false [ VO 1 2 (.mov C0)]) (.ret)) (.skip))) (.skip)))))))))))),[.t
 1,.t 2,.t 8,.t 9]⟩
def Bw:List (Nat×Ak):=[(149,eD),(150,eA),(151,du),(152,Ff),(154,Vg),(153,eC),(155,eB)]
theorem NW:AP Bw 149=some eD:=rfl
theorem NV:AP Bw 150=some eA:=rfl
theorem NU:AP Bw 151=some du:=rfl
theorem NT:AP Bw 152=some Ff:=rfl
theorem NR:AP Bw 154=some Vg:=rfl
theorem NS:AP Bw 153=some eC:=rfl
theorem NQ:AP Bw 155=some eB:=rfl
attribute [go_sem] NW NV NU NT NR NS NQ
def Fy(r:Hu)(t2:Bool):Int->St
 | end_=>⟨[.ptr 4 [FE r] 0 0,.bool t2,.int .i64 end_,.any,.any,.any,.any,.any,.any,.any,.cv PINV],[],[],true⟩
def Fx(r:Hu)(t2:Bool)(y:Int):Fw:=(.exit 0,⟨[.ptr 4 [FE r] 0 0,.bool t2,.int .i64 y,.any,.any,.any,.any,.any,.any,.any,.cv PINV],[],[],true⟩)
attribute [local go_sem] cw Fy Fx Zo Sq Sp So in
theorem OB{r:Hu}{t2:Bool}{sgm_:Int}{rho_:Int}(h:AS (Cn r t2) sgm_=some rho_):∃ L0,∀ L,L0<=L->CV (Aq (AP Bw) L Zo) Sq Sp So L (Fy PINV r t2 sgm_)=Fx PINV r t2 rho_:=by
 refine Ax (E:=Fy PINV r t2) (R:=Fx PINV r t2) (fun y=>by first|(intro c;cases c)|(rcases y with y|y<;>(intro c;cases c))|(rcases y with y|y|y<;>(intro c;cases c))) ?_ h;clear h;intro end_ o_ h;dsimp only[Cn] at h;obtain⟨z1,h⟩:=AC h;rcases Ag z1 with⟨gz1,z1⟩|gz1
 ·try simp only[go_sem,N1] at gz1
  all_goals
  try simp only[go_sem,N1,gz1] at z1
  all_goals
  rcases AE h with⟨z2,h⟩|⟨z2,h⟩
  all_goals
  try simp only[go_sem,N1, *] at z2
  all_goals
  obtain rfl:=AA h;refine⟨0,fun L hL=>?_⟩;simp only[go_sem, *]
 ·try simp only[go_sem,N1] at gz1
  all_goals
  rcases AE h with⟨z2,h⟩|⟨z2,h⟩
  ·try simp only[go_sem,N1,gz1] at z2
   all_goals
   (simp_all)
  ·try simp only[go_sem,N1,gz1] at z2
   all_goals
   obtain rfl:=AA h;refine⟨0,fun L hL=>?_⟩;simp only[go_sem, *]
def ALL(q:Fw)(y:Option (Int×Int×Ac)):Prop:=match y with
 | none=>q.1 = .ret∧(q.2.ok=true∧q.2.vs.getD 1 .any = .bool false)
 | some p=>q.1 = .norm∧(q.2.ok=true∧(q.2.vs.getD 2 .any = .int .i64 p.1∧(q.2.vs.getD 9 .any = .int .i64 p.2.1∧q.2.vs.getD 10 .any = .cv PINV∧∃ k,q.2.vs.getD 8 .any = .ref k 0 0∧AK k q.2.ob=some ⟨3,[CF p.2.2]⟩)))
attribute [local go_sem] Fy Fx Sq Sp So cw in
theorem tM{r:Hu}{y_:Option (Int×Int×Ac)}(h:HE r=some y_):∃ L0,∀ L,L0<=L->ALL PINV (Aq (AP Bw) L cw.body ⟨[.ptr 4 [FE r] 0 0,.any,.any,.any,.any,.any,.any,.any,.any,.any,.cv PINV],[],[],true⟩) y_:=by
 dsimp only[HE] at h;obtain⟨y_3,z3,h⟩:=AB h;obtain⟨Lz3,ez3⟩:=OB PINV z3;rcases AE h with⟨z4,h⟩|⟨z4,h⟩
 ·try simp only[go_sem,N1] at z4
  all_goals
  obtain rfl:=AA h;refine⟨Lz3,fun L hL=>?_⟩;have ez3:=ez3 L (by omega);try simp only[go_sem,z4] at ez3
  simp only[go_sem, *];exact⟨rfl,rfl,rfl⟩
 ·try simp only[go_sem,N1] at z4
  all_goals
  obtain⟨z5,h⟩:=AC h;try simp only[go_sem,N1,z4] at z5
  all_goals
  obtain⟨y_6,z6,h⟩:=AB h;have fz6:=AJt z6;try simp only[go_sem, *] at fz6
  rcases AE h with⟨z7,h⟩|⟨z7,h⟩
  ·try simp only[go_sem,N1, *] at z7
   all_goals
   obtain rfl:=AA h;refine⟨Lz3,fun L hL=>?_⟩;have ez3:=ez3 L (by omega);try simp only[go_sem, *] at ez3
   simp only[go_sem, *];exact⟨rfl,rfl,rfl⟩
  ·try simp only[go_sem,N1, *] at z7
   all_goals
   obtain⟨z8,h⟩:=AC h;have lz8:=Az z8;try simp only[go_sem] at lz8
   try simp only[go_sem,N1, *] at z8
   all_goals
   obtain⟨y_9,z9,h⟩:=AB h;have fz9:=AAu z9;try simp only[go_sem, *] at fz9
   obtain⟨z10,h⟩:=AC h;have lz10:=Az z10;try simp only[go_sem] at lz10
   try simp only[go_sem,N1, *] at z10
   all_goals
   obtain⟨y_11,z11,h⟩:=AB h;have fz11:=AAu z11;try simp only[go_sem, *] at fz11
   obtain⟨z12,h⟩:=AC h;have lz12:=Az z12;try simp only[go_sem] at lz12
   try simp only[go_sem,N1, *] at z12
   all_goals
   obtain⟨z13,h⟩:=AC h;rcases Ag z13 with⟨gz13,z13⟩|gz13
   ·try simp only[go_sem,N1, *] at gz13
    all_goals
    obtain⟨y_13,hz13⟩:=isX z13;have fz13:=AJp hz13;try simp only[go_sem,N1, *] at hz13
    all_goals
    try simp only[go_sem, *] at fz13
    obtain⟨z14,h⟩:=AC h;rcases Ag z14 with⟨gz14,z14⟩|gz14
    ·try simp only[go_sem,N1, *] at gz14
     all_goals
     obtain⟨y_14,hz14⟩:=isX z14;have fz14:=VB hz14;try simp only[go_sem,N1, *] at hz14
     all_goals
     try simp only[go_sem, *] at fz14
     rcases AE h with⟨z15,h⟩|⟨z15,h⟩
     ·try simp only[go_sem,N1, *] at z15
      all_goals
      obtain rfl:=AA h;refine⟨Lz3,fun L hL=>?_⟩;have ez3:=ez3 L (by omega);try simp only[go_sem, *] at ez3
      simp only[go_sem, *];exact⟨rfl,rfl,rfl⟩
     ·try simp only[go_sem,N1, *] at z15
      all_goals
      obtain⟨y_16,z16,h⟩:=AB h;have fz16:=AAv z16;try simp only[go_sem, *] at fz16
      obtain⟨y_17,z17,h⟩:=AB h;have fz17:=AJs z17;try simp only[go_sem, *] at fz17
      obtain⟨y_18,z18,h⟩:=AB h;have fz18:=AJr z18;try simp only[go_sem, *] at fz18
      obtain⟨z19,h⟩:=AC h;try simp only[go_sem,N1, *] at z19
      all_goals
      rcases AE h with⟨z20,h⟩|⟨z20,h⟩
      ·try simp only[go_sem,N1, *] at z20
       all_goals
       obtain rfl:=AA h;refine⟨Lz3,fun L hL=>?_⟩;have ez3:=ez3 L (by omega);try simp only[go_sem, *] at ez3
       simp only[go_sem, *];exact⟨rfl,rfl,rfl⟩
      ·try simp only[go_sem,N1, *] at z20
       all_goals
       obtain rfl:=AA h;refine⟨Lz3,fun L hL=>?_⟩;have ez3:=ez3 L (by omega);try simp only[go_sem, *] at ez3
       simp only[go_sem, *];exact⟨rfl,rfl,rfl,rfl,rfl,_,rfl,rfl⟩
    ·have gz14n:=FO gz14;rcases bP gz14n with gz14na|⟨gz14na,gz14nb⟩
     ·try simp only[go_sem,N1, *] at gz14na
      all_goals
      (simp_all)
     ·obtain⟨gz14naa,gz14nab⟩:=ABq gz14na;have gz14naan:=FO gz14naa;have gz14nabn:=FO gz14nab;have gz14nbn:=Is gz14nb;try simp only[go_sem,N1, *] at gz14naan
      all_goals
      try simp only[go_sem,N1, *] at gz14nabn
      all_goals
      try simp only[go_sem,N1, *] at gz14nbn
      all_goals
      rcases AE h with⟨z15,h⟩|⟨z15,h⟩
      ·try simp only[go_sem,N1, *] at z15
       all_goals
       obtain rfl:=AA h;refine⟨Lz3,fun L hL=>?_⟩;have ez3:=ez3 L (by omega);try simp only[go_sem, *] at ez3
       simp only[go_sem, *];exact⟨rfl,rfl,rfl⟩
      ·try simp only[go_sem,N1, *] at z15
       all_goals
       (simp_all)
   ·have gz13n:=FO gz13;rcases bP gz13n with gz13na|⟨gz13na,gz13nb⟩
    ·have gz13nan:=Is gz13na;try simp only[go_sem,N1, *] at gz13nan
     all_goals
     obtain⟨z14,h⟩:=AC h;rcases AE h with⟨z15,h⟩|⟨z15,h⟩
     ·try simp only[go_sem,N1, *] at z15
      all_goals
      obtain rfl:=AA h;refine⟨Lz3,fun L hL=>?_⟩;have ez3:=ez3 L (by omega);try simp only[go_sem, *] at ez3
      simp only[go_sem, *];exact⟨rfl,rfl,rfl⟩
     ·try simp only[go_sem,N1, *] at z15
      all_goals
      (simp_all)
    ·have gz13nan:=FO gz13na;have gz13nbn:=Is gz13nb;try simp only[go_sem,N1, *] at gz13nan
     all_goals
     try simp only[go_sem,N1, *] at gz13nbn
     all_goals
     obtain⟨z14,h⟩:=AC h;rcases AE h with⟨z15,h⟩|⟨z15,h⟩
     ·try simp only[go_sem,N1, *] at z15
      all_goals
      obtain rfl:=AA h;refine⟨Lz3,fun L hL=>?_⟩;have ez3:=ez3 L (by omega);try simp only[go_sem, *] at ez3
      simp only[go_sem, *];exact⟨rfl,rfl,rfl⟩
     ·try simp only[go_sem,N1, *] at z15
      all_goals
      (simp_all)
end
def bu:Nat->Code->Code
 | n+1,.seq _ b=>bu n b
 | _,c=>c
theorem lK(c:Code):bu 0 c=c:=by cases c<;>rfl
def Qg(P:Program)(n:Nat)(vm:List Nat):Nat->Code->IR->Bool
 | 0,_,.skip=>true
 | m+1,.seq a b,.seq a' b'=>nY P n vm a a'&&Qg P n vm m b b'
 | _,_,_=>false
theorem jz{F Iow:Nat->Prop}{w0:World}{g0:Gh}{o0:CI}{ds:List Deferred}{vm:List Nat}{P:Program}{T:Il}{n L:Nat}(hT:Ix P T):
  ∀ (m:Nat) (c:Code) (ir:IR) {Q:Exit->Act->World->Prop} {s:St} {g:Gh} {w:World} {tmps:Array Value},Qg P n vm m c ir=true->FX F Iow w0 g0 o0 g w tmps vm [] s->tmps.size=n->(Aq T L ir s).2.ok=true ->
  (∀ tmps' w' g',tmps'.size=n->FX F Iow w0 g0 o0 g' w' tmps' vm [] (Aq T L ir s).2->Exit.then ((bu m c).wp P Q) Q (UI (Aq T L ir s).1) ⟨tmps',ds⟩ w')->c.wp P Q ⟨tmps,ds⟩ w
 | 0,c,ir,Q,s,g,w,tmps,hc,h,hn,hok,hK=>by
  cases ir<;>first|(simp[Qg] at hc;done)|skip
  have:=hK tmps w g hn h;rw[lK] at this;exact this
 | m+1,c,ir,Q,s,g,w,tmps,hc,h,hn,hok,hK=>by
  cases c<;>first|(simp[Qg] at hc;done)|skip
  rename_i a b;cases ir<;>first|(simp[Qg] at hc;done)|skip
  rename_i a' b';simp only[Qg,baT] at hc;simp only[Aq] at hok hK
  have hfst:(Aq T L a' s).2.ok=true:=by
   revert hok;generalize Aq T L a' s=r;intro hok;obtain⟨e,s'⟩:=r;cases e
   ·have h3:=DV b' hok;exact h3
   ·exact hok
   ·exact hok
  refine wp_seq (IW hT trivial a a' hc.1 h hn hfst fun tmps' w' g' hn' hfx=>?_);revert hok hK hfx;generalize Aq T L a' s=r;intro hok hK hfx;obtain⟨e,s'⟩:=r;cases e
  ·exact jz hT m b b' hc.2 hfx hn' hok hK
  ·exact hK _ _ _ hn' hfx
  ·exact hK _ _ _ hn' hfx
def Ur(e:Ac):List Value:=[.int .i64 e.Day,.string ⟨e.What.toArray⟩,.int .i64 e.Value]
def Pr(l:List Ac):List Value:=l.flatMap Ur
theorem dR:∀ (l:List Ac) (i j:Nat),i<l.length->j<3->(Pr l)[i*3+j]? = (Ur (l.getD i default))[j]?
 | [],i,j,hi,_=>absurd hi (by simp)
 | e::l,0,j,_,hj=>by
  simp only[Pr,List.flatMap_cons,Nat.zero_mul,Nat.zero_add,List.getD_cons_zero];exact List.getElem?_append_left (by simpa[Ur] using hj)
 | e::l,i+1,j,hi,hj=>by
  have ih:=dR l i j (by simpa using hi) hj;simp only[Pr,List.flatMap_cons,List.getD_cons_succ] at ih ⊢;rw[List.getElem?_append_right (by simp only[Ur,List.length_cons,List.length_nil];omega),← ih]
  congr 1
  simp only[Ur,List.length_cons,List.length_nil];omega
structure LS(N rb:Nat)(w:World)(r:Hu)(v:Value):Prop where
 blk:∃ T,w.heap[rb]? = some (.cells #[.string ⟨r.s_.toArray⟩,.int .i64 r.at_,.int .i64 r.stamp_,v] T (0,0))
 row:w.ownsRow N 112 3 v r.list_.length (Pr r.list_)
 own:v.ownBlock≠some rb
 low:N<=rb
theorem nS(e:Ac){j:Nat}(hj:j<3){S:Nat->Prop}{w:World}{u:Value}(hu:(Ur e)[j]? = some u):VR S w u ((CF e).cells.getD j .any):=by
 match j,hj with
 | 0,_=>cases hu;exact .int
 | 1,_=>cases hu;exact .str
 | 2,_=>cases hu;exact .int
theorem jH{α:Type}[Inhabited α](f:α->AV)(l:List α){i:Nat}(hi:i<l.length):(List.map f l).getD i .any=f (l.getD i default):=by
 rw[gdE,List.getElem?_map,gdE,geE hi];rfl
theorem cK{S:Nat->Prop}{w:World}{N n:Nat}{T:TypeId}{v:Value}{l:List Ac}(h:w.ownsRow N T 3 v l.length (Pr l))(hS:∀ b,v.ownBlock=some b->¬ S b):VR S w v (.sl 3 (List.map CF l)):=by
 obtain⟨_,h⟩:=h;rcases h with⟨rfl,hn⟩|⟨g,cap,cur,rfl,hb,hh,hle,_,hs,ht⟩
 ·have:l=[]:=List.length_eq_zero_iff.1 hn;subst this;exact .sl 0 0 (fun _ _=>undef) rfl (Nat.le_refl _) (by omega) (fun h=>absurd h (by simp)) (fun i hi=>absurd hi (by simp)) (fun i j hi=>absurd hi (by simp)) (fun i j hi=>absurd hi (by simp))
 ·have hget:∀ i j,i<l.length->j<3->cur[i*3+j]? = (Ur (l.getD i default))[j]?:=fun i j hi hj=>by
   rw[← dR l i j hi hj,← ht,List.getElem?_take_of_lt (by omega),Array.getElem?_toList]
  have hsome:∀ i j,i<l.length->j<3->cur[i*3+j]? = some (cur.getD (i*3+j) undef):=fun i j hi hj=>by
   rw[agD,hget i j hi hj,geE (by simpa[Ur] using hj)];rfl
  refine .sl g 0 (fun i j=>cur.getD (i*3+j) undef) (by simp) hle (by omega) (fun _=>⟨rfl,hS g rfl⟩) (fun i hi=>?_) (fun i j hi hj=>?_) (fun i j hi hj=>?_)
  ·rw[jH _ _ (by simpa using hi)];exact⟨rfl,rfl⟩
  ·rw[Nat.zero_add,cell_of_row w g (i*3+j) cur T (0,0) hh];exact hsome i j (by simpa using hi) hj
  ·have hi':i<l.length:=by simpa using hi
   rw[jH _ _ hi'];exact nS _ hj (by rw[← hget i j hi' hj,hsome i j hi' hj])
theorem LS.ptr{S:Nat->Prop}{N rb:Nat}{w:World}{r:Hu}{v:Value}(h:LS N rb w r v)(hS:¬ S rb)(hv:∀ b,v.ownBlock=some b->¬ S b):VR S w (.pointer (some ⟨rb,0,none⟩)) (.ptr 4 [FE r] 0 0):=by
 obtain⟨T,hb⟩:=h.blk;have hr:=cK (n:=0) h.row hv;have one:∀ {i:Nat},i < [FE r].length->i=0:=fun h=>by simpa using h
 refine VR.ptr (sz:=4) (els:=[FE r]) (i0:=0) (o0:=0) rb 0 (fun _ j=>(#[Value.string ⟨r.s_.toArray⟩,.int .i64 r.at_,.int .i64 r.stamp_,v]:Array Value).getD j undef) (by omega) (by simp) hS (fun i hi=>?_) (fun i j hi hj=>?_) (fun i j hi hj=>?_)
 ·cases one hi;exact⟨rfl,rfl⟩
 ·cases one hi
  rw[Nat.zero_add,Nat.zero_mul,Nat.zero_add,cell_of_row w rb j _ T (0,0) hb]
  match j,hj with
  | 0,_=>rfl
  | 1,_=>rfl
  | 2,_=>rfl
  | 3,_=>rfl
 ·cases one hi
  match j,hj with
  | 0,_=>exact .str
  | 1,_=>exact .int
  | 2,_=>exact .int
  | 3,_=>exact hr
theorem LS.same{N rb:Nat}{w w':World}{r:Hu}{v:Value}(h:LS N rb w r v)(hs:AR (fun _=>False) w w'):LS N rb w' r v:=by
 have lt:∀ {b:Nat} {o:Obj},w.heap[b]? = some o->w'.heap[b]? = some o:=fun {b o} hb=>by
  have:b<w.heap.size:=by
   rcases Nat.lt_or_ge b w.heap.size with h' | h'
   ·exact h'
   ·rw[Array.getElem?_eq_none h'] at hb;cases hb
  rw[hs.block b this (fun c=>c),hb]
 refine⟨?_,⟨h.row.1,?_⟩,h.own,h.low⟩
 ·obtain⟨T,hb⟩:=h.blk;exact⟨T,lt hb⟩
 ·rcases h.row.2 with h1|⟨g,cap,cur,h1,h2,h3,h4⟩
  ·exact .inl h1
  ·exact .inr ⟨g,cap,cur,h1,h2,lt h3,h4⟩
theorem yZ:(match Tryz.f105.body with|some c=>Qg Tryz.prog 130 gA 12 c cw.body|none=>false)=true:=by kernel_rfl
theorem AGx:Ix Tryz.prog (AP Bw) :=
 LN (AF ANB (AF AMy (AF AMv (AF Vo (AF AFJ (AF ANA (AF AMz AL)))))))
structure AFh(N rb:Nat)(w0:World)(r:Hu)(v:Value)(q:Int×Int×Ac)(tmps:Array Value)(w:World)(eb:Nat):Prop where
 size:tmps.size=130
 t0:tmps.getD 0 undef = .pointer (some ⟨rb,0,none⟩)
 t3:tmps.getD 3 undef = .int .i64 q.1
 t10:tmps.getD 10 undef = .int .i64 q.2.1
 t9:tmps.getD 9 undef = .pointer (some ⟨eb,0,none⟩)
 cell:∀ j u,(Ur q.2.2)[j]? = some u->w.cell? ⟨eb,j,none⟩=some u
 same:AR (fun _=>False) w0 w
 eb:w0.heap.size<=eb
theorem AEX{S:Nat->Prop}{w:World}{arr:Array Value}{e:Ac}(h:∀ j,j<3->VR S w (arr.getD j undef) ((CF e).cells.getD j .any)){j:Nat}{u:Value}(hu:(Ur e)[j]? = some u):arr.getD j undef=u∧j<3:=by
 have hj:j<3:=by
  rcases Nat.lt_or_ge j 3 with h' | h'
  ·exact h'
  ·rw[List.getElem?_eq_none (by simpa[Ur] using h')] at hu;cases hu
 refine⟨?_,hj⟩;have:=h j hj;revert this;generalize arr.getD j undef=x
 match j,hj with
 | 0,_=>intro h;cases h;cases hu;rfl
 | 1,_=>intro h;cases h;cases hu;rfl
 | 2,_=>intro h;cases h;cases hu;rfl
theorem yY{N rb:Nat}{w:World}{r:Hu}{v:Value}{y:Option (Int×Int×Ac)}{c:Code}{R:Ending->World->Prop}(hpre:HE r=some y)(hL:LS N rb w r v)(hG:GT (fun _=>False) w)
  (hb:Tryz.f105.body=some c)
  (hnone:y=none->∀ tmps' w',AR (fun _=>False) w w'->tmps'.getD 2 undef = .bool false->tmps'.size=130->bodyPost Tryz.prog Tryz.f105 R .ret ⟨tmps',[]⟩ w')
  (hsome:∀ q,y=some q->∀ tmps' w' eb,AFh N rb w r v q tmps' w' eb->(bu 12 c).wp Tryz.prog (bodyPost Tryz.prog Tryz.f105 R) ⟨tmps',[]⟩ w') :
  Calls Tryz.prog 105 #[.pointer (some ⟨rb,0,none⟩)] w R:=by
 refine calls_of_wp Tryz.func105 hb ?_;have hck:=yZ;rw[hb] at hck;simp only at hck;obtain⟨L,hpre⟩:=tM (.pointer (some ⟨rb,0,none⟩)) hpre;have hend:=hpre L (Nat.le_refl _);clear hpre;rw[Tryz.ntmps105];generalize hE:Aq (AP Bw) L cw.body _=res at hend
 have hset:∀ b,AW (fun _=>False) ⟨fun _=>0,fun _=>0⟩ ([]:CI) b->False:=by
  rintro b (h|⟨k,⟨⟨hm,hk⟩,_⟩,_⟩)
  ·exact h
  ·cases hk
 have hnl:∀ k,¬ KW (⟨fun _=>0,fun _=>0⟩:Gh) ([]:CI) k:=fun k ⟨⟨hm,hk⟩,_⟩=>by cases hk
 have hsz:(#[Value.pointer (some ⟨rb,0,none⟩)]++Array.replicate (130-(#[Value.pointer (some ⟨rb,0,none⟩)]:Array Value).size) undef).size=130:=by simp
 have h0:(#[Value.pointer (some ⟨rb,0,none⟩)]++Array.replicate (130-(#[Value.pointer (some ⟨rb,0,none⟩)]:Array Value).size) undef).getD 0 undef = .pointer (some ⟨rb,0,none⟩):=by
  rw[ND,if_pos (by simp)];rfl
 have hfx:FX (fun _=>False) (fun _=>False) w ⟨fun _=>0,fun _=>0⟩ [] ⟨fun _=>0,fun _=>0⟩ w (#[Value.pointer (some ⟨rb,0,none⟩)]++Array.replicate (130-(#[Value.pointer (some ⟨rb,0,none⟩)]:Array Value).size) undef) gA []
   ⟨[.ptr 4 [FE r] 0 0,.any,.any,.any,.any,.any,.any,.any,.any,.any,.cv (.pointer (some ⟨rb,0,none⟩))],[],[],true⟩:=by
  refine⟨⟨fun k h hk=>(by cases hk),fun k k' a=>(hnl k a).elim,fun k a=>(hnl k a).elim,fun b hb=>hb.elim,rfl,rfl,fun i hi=>?_,fun i hi=>absurd hi (by simp),fun t ht=>?_,hG.mono (AR.refl _ _) fun b _ c=>hset b c⟩,AR.refl _ _,fun k a=>(hnl k a).elim,fun b hb=>hb.elim,fun k hm _ hg=>(by cases hg)⟩
  ·match i,hi with
   | 0,_=>
    show VR _ w ((_:Array Value).getD 0 undef) _;rw[h0];exact hL.ptr (fun c=>hset _ c) fun b _ c=>hset b c
   | 1,_=>exact SR.any
   | 2,_=>exact SR.any
   | 3,_=>exact SR.any
   | 4,_=>exact SR.any
   | 5,_=>exact SR.any
   | 6,_=>exact SR.any
   | 7,_=>exact SR.any
   | 8,_=>exact SR.any
   | 9,_=>exact SR.any
   | 10,_=>
    show VR _ w ((_:Array Value).getD 0 undef) _;rw[h0];exact VR.cv
  ·rw[hsz];rcases ht with ht|ht
   ·simp only[gA,List.mem_cons,List.not_mem_nil,or_false] at ht;omega
   ·simp at ht
 have hok:res.2.ok=true:=by
  cases y with
  | none=>exact hend.2.1
  | some q=>exact hend.2.1
 refine jz (L:=L) (ds:=[]) AGx 12 c cw.body hck hfx hsz (by rw[hE];exact hok) fun tmps' w' g' hn' hfx'=>?_
 rw[hE] at hfx' ⊢;cases y with
 | none=>
  obtain⟨h1,_,h2⟩:=hend;rw[h1];have hv:=hfx'.vs 1 (by decide);rw[h2] at hv;exact hnone rfl tmps' w' hfx'.same (Lj hv) hn'
 | some q=>
  obtain⟨h1,_,h2,h3,h4,k,h5,h6⟩:=hend;rw[h1];have v2:=hfx'.vs 2 (by decide);have v9:=hfx'.vs 9 (by decide);have v10:=hfx'.vs 10 (by decide);have v8:=hfx'.vs 8 (by decide);rw[h2] at v2;rw[h3] at v9;rw[h4] at v10;rw[h5] at v8;have hH:=hfx'.home k _ h6;obtain⟨hm,ho,_,hv8⟩:=v8;rw[h6] at ho;cases ho
  have hcap:0<g'.cap k:=hH.len;obtain⟨arr,T,fz,hr,hf,hs,hvr⟩:=hH.row hcap;have hlv:KW g' res.2.ob k:=⟨⟨_,h6⟩,hcap⟩
  have hvr':∀ j,j<3->VR _ w' (arr.getD j undef) ((CF q.2.2).cells.getD j .any):=fun j hj=>by
   have:=hvr 0 j (by simp) hj;rw[Nat.zero_mul,Nat.zero_add] at this;exact this
  refine hsome q rfl tmps' w' (g'.β k) ⟨hn',?_,?_,?_,?_,fun j u hu=>?_,hfx'.same,?_⟩
  ·have e:∀ {x p:Value},SR (AW (fun _=>False) g' res.2.ob) w' g' res.2.ob x (.cv p)->x=p:=fun h=>by cases h;rfl
   exact e v10
  ·have e:∀ {x:Value},SR (AW (fun _=>False) g' res.2.ob) w' g' res.2.ob x (.int .i64 q.1)->x = .int .i64 q.1:=fun h=>by cases h;rfl
   exact e v2
  ·have e:∀ {x:Value},SR (AW (fun _=>False) g' res.2.ob) w' g' res.2.ob x (.int .i64 q.2.1)->x = .int .i64 q.2.1:=fun h=>by cases h;rfl
   exact e v9
  ·rw[Nat.zero_mul] at hv8;exact hv8
  ·obtain⟨e1,e2⟩:=AEX hvr' hu;rw[cell_of_row w' (g'.β k) j arr T fz hr,← e1,agD,Array.getElem?_eq_getElem (by have hs':arr.size=g'.cap k*3:=hs;omega)];rfl
  ·rcases hfx'.hio k hlv with h|h
   ·exact h
   ·exact h.elim
theorem AET(t:Array Value){n:Nat}(h:t.size=n):t=((List.range n).map fun i=>t.getD i undef).toArray:=by
 subst h;apply Array.ext
 ·simp
 ·intro i h1 h2;simp[agD,Array.getElem?_eq_getElem h1]
theorem zq:(Tryz.prog.info? 112).map (fun i=>(i.zero,i.size,i.bytes))=some (some (.agg #[.int .i64 0,.string ⟨#[]⟩,.int .i64 0]),3,32):=by kernel_rfl
theorem vf:Tryz.prog.underlying 66=some (.slice 112):=by kernel_rfl
theorem AGp{w:World}{N n:Nat}{T:TypeId}{v:Value}{xs:List Value}{sz b:Nat}(h:w.ownsRow N T sz v n xs)(hb:v.ownBlock=some b):b<w.heap.size:=by
 rcases h.2 with⟨rfl,_⟩|⟨g,cap,cur,rfl,_,hh,_⟩
 ·cases hb
 ·obtain rfl:g=b:=by simpa[Value.ownBlock] using hb
  rcases Nat.lt_or_ge g w.heap.size with h' | h'
  ·exact h'
  ·rw[Array.getElem?_eq_none h'] at hh;cases hh
def oG(N rb:Nat)(w:World)(r:Hu)(b:Bool)(e:Ending)(w':World):Prop:=e = .returned (.bool b)∧Below N w w'∧∃ v,LS N rb w' r v
theorem aY{N:Nat}{w w':World}(h:AR (fun _=>False) w w')(hN:N<=w.heap.size):Below N w w':=⟨h.os,h.tape,h.output,h.size,fun k hk=>h.block k (by omega) fun c=>c⟩
theorem nR(l:List Ac)(e:Ac):Pr (l++[e])=Pr l++Ur e:=by simp[Pr]
theorem yX{N rb:Nat}{w w1 w2:World}{r:Hu}{v:Value}{e:Ac}{T:TypeId}{at' st:Int}{o:Obj}{g cap:Nat}(hN:N<=w.heap.size)(hsame:AR (fun _=>False) w w1)
  (hblk:w1.heap[rb]? = some (.cells #[.string ⟨r.s_.toArray⟩,.int .i64 r.at_,.int .i64 r.stamp_,v] T (0,0))) (lrb:rb<w1.heap.size) (hlow:N<=rb) (hne:v.ownBlock≠some rb) (hbase:∀ b,v.ownBlock=some b->N<=b)
  (hown1:w2.ownsRow N 112 3 (.slice (some ⟨g,0,none⟩) (r.list_.length+1) cap) (r.list_.length+1) (Pr r.list_++Ur e))
  (hgrow:((w1.alloc o).drew).grownBy w2 v.ownBlock) (hat:v.ownBlock=some g∨g=w1.heap.size+1) :
  oG N rb w ⟨r.s_,at',st,r.list_++[e]⟩ true (.returned (.bool true))
   (((w2.setCell ⟨rb,3,none⟩ (.slice (some ⟨g,0,none⟩) (r.list_.length+1) cap)).setCell ⟨rb,2,none⟩ (.int .i64 st)).setCell ⟨rb,1,none⟩ (.int .i64 at')):=by
 have hgr:g≠rb:=by
  rcases hat with h|h
  ·intro c;exact hne (by rw[h,c])
  ·omega
 have hN1:N<=w1.heap.size:=Nat.le_trans hN hsame.size;have hsz:((w1.alloc o).drew).heap.size=w1.heap.size+1:=by show (w1.heap.push o).size=_;simp
 have h2:w2.heap[rb]? = some (.cells #[.string ⟨r.s_.toArray⟩,.int .i64 r.at_,.int .i64 r.stamp_,v] T (0,0)):=by
  rw[hgrow.block rb (by omega) (fun c=>hne c.symm),← hblk];exact Below.heap_alloc w1 o rb lrb
 refine⟨rfl,?_,.slice (some ⟨g,0,none⟩) (r.list_.length+1) cap,?_⟩
 ·refine ((Below.setCell ?_ hlow _).setCell hlow _).setCell hlow _;refine Below.grown ?_ hgrow (by omega) hbase;exact ((aY hsame hN).alloc hN1 o).drew
 ·refine⟨⟨T,?_⟩,?_,?_,hlow⟩
  ·rw[heap_setCell_same _ rb 1 _ T _ (heap_setCell_same _ rb 2 _ T _ (heap_setCell_same _ rb 3 _ T _ h2))];rfl
  ·rw[nR,List.length_append,List.length_singleton];refine ownsRow_setCell_other (ownsRow_setCell_other (ownsRow_setCell_other hown1 ?_ _) ?_ _) ?_ _<;>(simp[Value.ownBlock];exact hgr)
  ·simp[Value.ownBlock];exact hgr
set_option maxRecDepth 100000 in
theorem tH{N rb:Nat}{w w1:World}{r:Hu}{v:Value}{q:Int×Int×Ac}{tmps:Array Value}{eb:Nat}{c:Code}(hb:Tryz.f105.body=some c)(hL:LS N rb w r v)(hM:AFh N rb w r v q tmps w1 eb)
  (hN:N<=w.heap.size) (h63:r.list_.length+1<=maxLen) (hbytes:(r.list_.length+1)*32<=140737488355328) :
  (bu 12 c).wp Tryz.prog (bodyPost Tryz.prog Tryz.f105 (oG N rb w ⟨r.s_,i64.wrap (q.1+1),q.2.1,r.list_++[q.2.2]⟩ true)) ⟨tmps,[]⟩ w1:=by
 obtain⟨hsz,t0,t3,t10,t9,hcell,hsame,heb⟩:=hM;have hlit:=AET tmps hsz;simp only[List.range,List.range.loop,List.map_cons,List.map_nil,t0,t3,t10,t9] at hlit;obtain⟨en,st,⟨d,s,x⟩⟩:=q;dsimp only at hcell hlit ⊢;rw[show i64.wrap (en+1)=wrap64 (en+1) from by rw[IntKind.wrap_i64];unfold wrap64;rfl];obtain⟨gg,hgg⟩:∃ gg:Nat->Value,gg=fun i=>tmps.getD i undef:=⟨_,rfl⟩
 have hgg':∀ i,tmps.getD i undef=gg i:=fun i=>by rw[hgg]
 simp only[hgg'] at hlit;rw[hlit];clear hlit hgg' hgg t0 t3 t10 t9 hsz tmps;have hL1:=hL.same hsame;obtain⟨⟨T,hblk⟩,hown,hne,hlow⟩:=hL1;have c3:w1.cell? ⟨rb,3,none⟩=some v:=by rw[cell_of_row w1 rb 3 _ T (0,0) hblk];rfl
 have lrb:=World.block_lt_of_cell? w1 _ c3
 have f3:w1.frozen? ⟨rb,3,none⟩=false:=by
  simp only[World.frozen?,hblk];rfl
 have f3':∀ o:Obj,((w1.alloc o).drew).frozen? ⟨rb,3,none⟩=false:=fun o=>by
  have e:((w1.alloc o).drew).heap[rb]? = w1.heap[rb]?:=Below.heap_alloc w1 o rb lrb;simp only[World.frozen?,e,hblk];rfl
 have c3':∀ o:Obj,((w1.alloc o).drew).cell? ⟨rb,3,none⟩=some v:=fun o=>by
  rw[← c3];exact Ek (Below.heap_alloc w1 o rb lrb)
 have c2:w1.cell? ⟨rb,2,none⟩=some (.int .i64 r.stamp_):=by rw[cell_of_row w1 rb 2 _ T (0,0) hblk];rfl
 have c1:w1.cell? ⟨rb,1,none⟩=some (.int .i64 r.at_):=by rw[cell_of_row w1 rb 1 _ T (0,0) hblk];rfl
 have cA:∀ (o:Obj) (k:Nat),((w1.alloc o).drew).cell? ⟨rb,k,none⟩=w1.cell? ⟨rb,k,none⟩:=fun o k=>Ek (Below.heap_alloc w1 o rb lrb)
 have fA:∀ (o:Obj) (k:Nat),((w1.alloc o).drew).frozen? ⟨rb,k,none⟩=false:=fun o k=>by
  have e:((w1.alloc o).drew).heap[rb]? = w1.heap[rb]?:=Below.heap_alloc w1 o rb lrb;simp only[World.frozen?,e,hblk]
  match k with
  | 0=>rfl
  | k+1=>rfl
 have HCA:=Lib.hid cA;have HFA:=Lib.hid fA;have HF3:=Lib.hid f3';have HC3:=Lib.hid c3';clear cA fA f3' c3';have hne2:v.ownBlock≠some eb:=fun e=>by have:=AGp hL.row e;omega
 have e0:w1.cell? ⟨eb,0,none⟩=some (.int .i64 d):=hcell 0 _ rfl;have e1:w1.cell? ⟨eb,1,none⟩=some (.string ⟨s.toArray⟩):=hcell 1 _ rfl;have e2:w1.cell? ⟨eb,2,none⟩=some (.int .i64 x):=hcell 2 _ rfl;have leb:=World.block_lt_of_cell? w1 _ e0;obtain⟨i0,hi0,hz0,hz1,hz2⟩:=info_parts zq;generalize hsb:(⟨s.toArray⟩:ByteArray)=sb at e1
 have hend:=fun (g cap:Nat) (w2:World)=>yX (e:=⟨d,s,x⟩) (at':=wrap64 (en+1)) (st:=st) (o:=.cells #[.int .i64 d,.string sb,.int .i64 x] 112) (g:=g) (cap:=cap) (w2:=w2) hN hsame hblk lrb hlow hne (fun b hb=>by
  rcases hown.2 with⟨rfl,_⟩|⟨g,cap,cur,rfl,h,_⟩
  ·cases hb
  ·obtain rfl:g=b:=by simpa[Value.ownBlock] using hb
   exact h)
 have HEND:=Lib.hid hend;have HB:=Lib.hid hblk;have HC:=Lib.hid hcell;have HS:=Lib.hid hsame;have HSB:=Lib.hid hsb;clear hblk hcell hsame hsb hL hend hN;unfold Tryz.f105 at hb;dsimp only at hb;cases hb
 dsimp only[bu]
 go_wp2_with fail
 go_region_law
  ((
   refine step_append_lies _ (by rfl) _ _ _ (by rfl) N 112 i0 _ 3 32 vf hi0 hz0 hz1 hz2 rfl (by omega) v r.list_.length (Pr r.list_) (by rfl) ((hown.alloc _).drew)
    ⟨w1.heap.size,0,none⟩ 1 1 [.int .i64 d,.string sb,.int .i64 x] (by rfl) (by rfl) (World.news_of_block (cs:=#[.int .i64 d,.string sb,.int .i64 x]) (t:=112) (fr:=(0,0)) (heap_alloc_new w1 _)) (by simp[Value.oneCell'])
    (by omega) h63 hbytes (by simp;omega) (w1.heap.size+1) (by simp) ?_;intro g cap w2 hown1 hgrow hat hlt
   have k3:w2.cell? ⟨rb,3,none⟩=some v:=by rw[hgrow.cell_far _ (by simp;omega) (Ne.symm hne)];exact HC3.out _
   have k3':w2.frozen? ⟨rb,3,none⟩=false:=by rw[hgrow.frozen_far _ (by simp;omega) (Ne.symm hne)];exact HF3.out _
   have k2:w2.cell? ⟨rb,2,none⟩=some (.int .i64 r.stamp_):=by rw[hgrow.cell_far _ (by simp;omega) (Ne.symm hne),HCA.out];exact c2
   have k2':w2.frozen? ⟨rb,2,none⟩=false:=by rw[hgrow.frozen_far _ (by simp;omega) (Ne.symm hne)];exact HFA.out _ _
   have k1:w2.cell? ⟨rb,1,none⟩=some (.int .i64 r.at_):=by rw[hgrow.cell_far _ (by simp;omega) (Ne.symm hne),HCA.out];exact c1
   have k1':w2.frozen? ⟨rb,1,none⟩=false:=by rw[hgrow.frozen_far _ (by simp;omega) (Ne.symm hne)];exact HFA.out _ _))
 all_goals go_wp2
 all_goals
  go_ret
  exact⟨by simp,(HEND.out g cap w2 (by rw[← HSB.out] at hown1;exact hown1) hgrow hat).2⟩
theorem km{n:Nat}{e:Ac}(h:EY (n+([e]:List Ac).length) 32=true):n+1<=maxLen∧(n+1)*32<=140737488355328:=by
 have h:=of_decide_eq_true h;simp only[List.length_singleton] at h;refine⟨?_,h⟩;unfold maxLen;omega
theorem mf{N rb:Nat}{w:World}{r r':Hu}{v:Value}{b:Bool}(h:GS r=some (b,r'))(hL:LS N rb w r v)(hG:GT (fun _=>False) w)(hN:N<=w.heap.size):
  Calls Tryz.prog 105 #[.pointer (some ⟨rb,0,none⟩)] w (oG N rb w r' b):=by
 unfold GS at h;obtain⟨y,hy,h⟩:=AB h;have hb:∃ c,Tryz.f105.body=some c:=⟨_,rfl⟩;obtain⟨c,hb⟩:=hb;refine yY hy hL hG hb (fun e tmps' w' hs h2 hn=>?_) (fun q e tmps' w' eb hM=>?_)
 ·subst e;cases AA h
  have hv:tmps'.getD 2 undef = .bool false:=h2;refine bodyPost_ret (results_tmp rfl _ _ _) rfl ?_;exact⟨by rw[hv],aY hs hN,v,hL.same hs⟩
 ·subst e;obtain⟨hk,h⟩:=AC h;cases AA h
  obtain⟨h1,h2⟩:=km hk;exact tH hb hL hM hN h1 h2
theorem wC(w:World)(sb:ByteArray)(s:List UInt8)(h:(⟨s.toArray⟩:ByteArray)=sb){T T':TypeId}(hT:T=112:=by rfl):
  LS w.heap.size (w.heap.size+1) ((w.alloc (.cells #[] T)).alloc (.cells #[.string sb,.int .i64 0,.int .i64 0,.slice (some ⟨w.heap.size,0,none⟩) 0 0] T')) ⟨s,0,0,[]⟩ (.slice (some ⟨w.heap.size,0,none⟩) 0 0):=by
 subst h;subst hT;have e1:(w.alloc (.cells #[] 112)).heap.size=w.heap.size+1:=by show (w.heap.push _).size=_;simp
 refine⟨⟨T',?_⟩,⟨rfl,.inr ⟨w.heap.size,0,#[],rfl,Nat.le_refl _,?_,Nat.le_refl _,Nat.zero_le _,rfl,rfl⟩⟩,by simp[Value.ownBlock],by omega⟩
 ·rw[← e1];exact heap_alloc_new _ _
 ·rw[Below.heap_alloc _ _ _ (by omega)];exact heap_alloc_new _ _
theorem Px{w w':World}(h:Below w.heap.size w w'):AR (fun _=>False) w w':=⟨h.os,h.tape,h.output,h.size,fun b hb _=>h.block b hb⟩
set_option maxRecDepth 100000 in
theorem lX{s:List UInt8}{y:Hu}(h:Fh s=some y)(w:World)(hG:GT (fun _=>False) w):
  Calls Tryz.prog 66 #[.string ⟨s.toArray⟩] w fun e w'=>∃ rb v,e = .returned (.pointer (some ⟨rb,0,none⟩))∧Below w.heap.size w w'∧LS w.heap.size rb w' y v:=by
 generalize hsb:(⟨s.toArray⟩:ByteArray)=sb;have HSB:=Lib.hid hsb;have HG:=Lib.hid hG;have HH:=Lib.hid h;clear hsb hG h
 go_enter Tryz.func66,Tryz.ntmps66
 go_wp2_with fail
 obtain⟨n0,hn0⟩:=Lh (show AS FT (Hu.mk s 0 0 [])=some y from HH.out)
 let J:Nat->Act->World->Prop:=fun n a w'=>∃ r v x8 x9,a=⟨#[Value.string sb,undef,Value.pointer none,Value.pointer (some ⟨w.heap.size+1,0,none⟩),Value.string sb,Value.slice (some ⟨w.heap.size,0,none⟩) 0 0,
  Value.agg #[Value.string sb,Value.int IntKind.i64 0,Value.int IntKind.i64 0,Value.slice (some ⟨w.heap.size,0,none⟩) 0 0],Value.pointer (some ⟨w.heap.size+1,0,none⟩),x8,x9,undef],[]⟩ ∧
  LS w.heap.size (w.heap.size+1) w' r v∧Below w.heap.size w w'∧Kd FT n r=some y
 refine wp_loop (fun a w=>∃ n,J n a w) (fun a w=>NX fun n=>J n a w) ⟨n0,Hu.mk s 0 0 [],.slice (some ⟨w.heap.size,0,none⟩) 0 0,undef,undef,rfl,wC w sb s HSB.out,((Below.refl w.heap.size w).alloc (Nat.le_refl _) _).alloc (by show w.heap.size<=(w.heap.push _).size;simp) _,hn0⟩ fun a w' hI=>?_
 have hfind:=(Ko hI).1;revert hfind;generalize hle:NX (fun n=>J n a w')=n;rintro⟨r,v,x8,x9,rfl,hL,hB,hit⟩;cases n with
 | zero=>cases hit
 | succ n=>
  simp only[Kd] at hit;cases ho:FT r with
  | none=>rw[ho] at hit;cases hit
  | some o=>
   rw[ho] at hit;unfold FT at ho;obtain⟨⟨b,r'⟩,hb,ho⟩:=AB ho;have hX:=mf hb hL (HG.out.mono (Px hB) fun _ _ c=>c) hB.size;cases b with
   | true=>
    cases AA ho
    have HN:∀ w2 v2 x8 x9,LS w.heap.size (w.heap.size+1) w2 r' v2->Below w.heap.size w' w2->∀ a2,a2=(⟨#[Value.string sb,undef,Value.pointer none,Value.pointer (some ⟨w.heap.size+1,0,none⟩),Value.string sb,Value.slice (some ⟨w.heap.size,0,none⟩) 0 0,
      Value.agg #[Value.string sb,Value.int IntKind.i64 0,Value.int IntKind.i64 0,Value.slice (some ⟨w.heap.size,0,none⟩) 0 0],Value.pointer (some ⟨w.heap.size+1,0,none⟩),x8,x9,undef],[]⟩:Act) ->
      (∃ n,J n a2 w2)∧(NX fun n=>J n a2 w2)<n+1:=fun w2 v2 x8 x9 hL2 hB2 a2 ha=>by
     have hJ:J n a2 w2:=⟨r',v2,x8,x9,ha,hL2,hB.trans hB2,hit⟩;exact⟨⟨n,hJ⟩,Nat.lt_succ_of_le ((Ko ⟨n,hJ⟩).2 n hJ)⟩
    have HN:=Lib.hid HN;clear hL hB hit hb hle hI
    go_wp2_with (go_at_call 105;refine hX.mono ?_;rintro e w2 ⟨rfl,hB2,v2,hL2⟩)
    exact HN.out w2 v2 _ _ hL2 hB2 _ rfl
   | false=>
    cases AA ho
    cases hit
    clear hL hb hle hI
    go_wp2_with (go_at_call 105;refine hX.mono ?_;rintro e w2 ⟨rfl,hB2,v2,hL2⟩)
    go_ret
    exact⟨_,rfl,hB.trans hB2,v2,hL2⟩
def wU:List AV->Rs
 | [.str s]=>match Fh s with
  | some r=>⟨true,.mem 4 [FE r] 0,[.any]⟩
  | none=>Rs.bad
 | _=>Rs.bad
def Gl:Ak:=⟨[.bor],false,wU⟩
theorem OA{s_:List UInt8}{y_:Hu}(h:Fh s_=some y_):Gl.F [.str s_]=⟨true,.mem 4 [FE y_] 0,[.any]⟩:=by
 show (match Fh s_ with
  | some r=>(⟨true,.mem 4 [FE r] 0,[.any]⟩:Rs)
  | none=>Rs.bad)=_
 rw[h]
theorem aq:Gl.modes=[.bor]:=rfl
theorem WB:Gl.flat=false:=rfl
attribute [go_sem] aq WB
theorem qN{args:List AV}(h:(wU args).ok=true):∃ s y,Fh s=some y∧args=[.str s]:=by
 unfold wU at h;split at h
 ·rename_i s;split at h
  ·rename_i r hr;exact⟨s,r,hr,rfl⟩
  ·cases h
 ·cases h
theorem ta{S:Nat->Prop}{N rb:Nat}{w:World}{r:Hu}{v:Value}(h:LS N rb w r v)(hv:∀ b,v.ownBlock=some b->¬ S b):GL S w rb 1 4 [FE r]:=by
 obtain⟨T,hb⟩:=h.blk;have hr:=cK (n:=0) h.row hv;have one:∀ {i:Nat},i < [FE r].length->i=0:=fun h=>by simpa using h
 refine⟨by omega,by simp,fun i hi=>?_,fun _=>⟨_,T,(0,0),hb,.inl rfl,rfl,fun i j hi hj=>?_⟩⟩
 ·cases one hi;exact⟨rfl,rfl⟩
 ·cases one hi
  match j,hj with
  | 0,_=>exact .str
  | 1,_=>exact .int
  | 2,_=>exact .int
  | 3,_=>exact hr
theorem Ye:AQ Tryz.prog 66 Gl:=by
 refine⟨fun e=>Bool.noConfusion e,fun F g0 w args vargs hsh hsz hfr hok=>⟨fun e=>Bool.noConfusion e,?_⟩⟩;obtain⟨s,y,hy,rfl⟩:=qN hok;have h0:=FD hfr (i:=0) (by simp);rw[MP hsz];generalize vargs.getD 0 undef=x at h0;cases h0
 have he:=Go.Proofs.enters_of (P:=Tryz.prog) Tryz.func66 (by kernel_rfl) rfl;unfold CZ;rw[he];rw[OA hy];refine (lX hy w (hfr.tab.mono (AR.refl _ _) fun _ _ c=>c.elim)).mono ?_;rintro e' w' ⟨rb,v,rfl,hB,hL⟩
 have only:∀ k h,AK k [(0,(⟨4,[FE y]⟩:Hm))]=some h->k=0∧h=⟨4,[FE y]⟩:=by
  intro k h hg;simp only[AK,AO,beq_iff_eq] at hg;split at hg
  ·rename_i e;cases hg;exact⟨e.symm,rfl⟩
  ·cases hg
 have hlow:∀ b,w.heap.size<=b->¬ F b:=fun b hb hF=>by have:=hfr.fb _ hF;omega
 have hown:∀ b,v.ownBlock=some b->w.heap.size<=b:=fun b hb=>by
  rcases hL.row.2 with⟨rfl,_⟩|⟨g,cap,cur,rfl,h,_⟩
  ·cases hb
  ·obtain rfl:g=b:=by simpa[Value.ownBlock] using hb
   exact h
 refine⟨_,⟨fun _=>rb,fun _=>1⟩,[(0,⟨4,[FE y]⟩)],fun _=>0,rfl,⟨(Px hB).mono fun _ _ c=>c.elim,fun k h hg=>?_,fun k k' a b _=>?_,fun k a=>hlow _ hL.low,fun k a=>.inl hL.low,⟨rfl,rfl,rfl⟩,fun i j hi hj _=>?_,fun i j _ hj=>absurd hj (vI rfl j),fun j hj=>absurd hj (vI rfl j)⟩⟩
 ·obtain⟨rfl,rfl⟩:=only k h hg;refine ta hL fun b hb=>?_
  rintro (c|⟨k,_,e⟩)
  ·exact hlow b (hown b hb) c
  ·exact hL.own (by rw[hb,← e])
 ·obtain⟨⟨h,hg⟩,_⟩:=a;obtain⟨⟨h',hg'⟩,_⟩:=b;rw[(only k h hg).1,(only k' h' hg').1]
 ·rw[hi.1,hj.1]
