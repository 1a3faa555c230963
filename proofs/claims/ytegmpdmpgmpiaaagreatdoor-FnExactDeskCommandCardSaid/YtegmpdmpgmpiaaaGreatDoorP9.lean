/- Lemmas. No condition. -/
import Derived.Test.YtegmpdmpgmpiaaaGreatDoorP8
open Bool renaming true->b3
open Go.Proofs.Tryz renaming prog->a'
open Go.Proofs.YtegmpdmpgmpiaaaGreatDoor.AV renaming int->b4,str->bb
open Inhabited renaming default->b6
open List renaming map->b2,getD_cons_zero->b7,getD_cons_succ->b8,length_set->b9,map_set->bh
open Option renaming some->b5
set_option linter.defProp false
set_option linter.unusedSimpArgs false
set_option linter.unusedVariables false
set_option maxRecDepth 10000
set_option maxHeartbeats 64000000
open Go.IntKind (i64 u64)
noncomputable section
namespace Go.Proofs.YtegmpdmpgmpiaaaGreatDoor
open Go Go.RowKit
instance:Sd a' 106 KP:=⟨fS⟩
variable{C:List AA}{j:L8}
@[go_sem]def Yt:=cr (fun y=>@Sq C j y)
def AIE:=Af a' Tryz.f174 [0,1,2,3,4,6] [] [] []
abbrev AMT:=CV [(173,yY)] AIE [.bor,.bor,.bor]
instance:Sd a' 174 AMT:=Am
variable{J U:L8}{R I:Int}
attribute [local go_sem] FI in
@[go_sem]def G_36{aa:Int}{ab C:L8}{ae:Int}{J:Bool}{ad:Int}{I:Bool}{aj:Int}:Q7 (FI (AA.mk aa ab C ae J) (AA.mk R U j ad I) aj) AMT [.agg ([.i aa,.str ab,.str C,.i ae,.bool J]),.agg ([.i R,.str U,.str j,.i ad,.bool I]),.i aj] .bool [.any,.any,.any]:=CK AIE trivial
def AIG:=Af a' Tryz.f172 [0,1,2,3,4,7,8,9] [(100,128),(101,64),(102,128),(103,128),(104,128),(105,64),(106,128),(107,128)] [(1,[8,9],[[0,1,2,3,5,4,6,7,8,9,10,11],[0,1,2,3,5,4,6,7,9,8,10,11],[0,1,2,3,5,4,6,8,9,7,10,11],[0,1,2,3,5,4,6,8,9,10,7,11],[0,1,2,3,5,4,6,9,8,7,10,11],[0,1,2,3,5,4,6,9,8,10,7,11],[0,1,2,3,5,4,8,9,6,7,10,11],[0,1,2,3,5,4,8,9,6,10,7,11],[0,1,2,3,5,4,8,9,10,6,7,11],[0,1,2,3,5,4,9,8,6,7,10,11],[0,1,2,3,5,4,9,8,6,10,7,11],[0,1,2,3,5,4,9,8,10,6,7,11],[0,1,2,3,5,8,9,4,6,7,10,11],[0,1,2,3,5,8,9,4,6,10,7,11],[0,1,2,3,5,8,9,4,10,6,7,11],[0,1,2,3,5,8,9,10,4,6,7,11],[0,1,2,3,5,9,8,4,6,7,10,11],[0,1,2,3,5,9,8,4,6,10,7,11],[0,1,2,3,5,9,8,4,10,6,7,11],[0,1,2,3,5,9,8,10,4,6,7,11]])] []
abbrev AMS:=CV [(173,yY),(174,AMT)] AIG [.bor,.bor,.bor,.bor,.bor]
instance:Sd a' 172 AMS:=Am
variable{j i:Int}
attribute [local go_sem] DP in
@[go_sem]def G_37{k:Int}{t3:Int}:Q7 (DP i k C t3 j) AMS [.i i,.i k,.ptr 1 [.sl 5 (b2 AC C)] 0 0,.ptr 1 [.i t3] 0 0,.ptr 1 [.i j] 0 0] .bool [.any,.any,.any,.any,.any]:=CK AIG trivial
def jA:=Af a' Tryz.f171 [0,1,4,5,6,7,9,10,11] [] [] [(203,8,4),(251,203,4)]
def mq:List (Nat×Ao):=[(172,AMS)]
instance:SdL a' mq:=by unfold mq;infer_instance
abbrev AMR:=Vi mq jA [.bor,.bor]
instance:Sd a' 171 AMR:=Ow
def Zc(n:Int)(c:List AA)(c2 c3 i t9 t10:Int):((List (List Int))×Int)->St
 |(out,k)=>⟨[.i n,.fn (.func 172) [] [.ptr 1 [.sl 5 (b2 AC c)] 0 0,.ptr 1 [.i c2] 0 0,.ptr 1 [.i c3] 0 0],.any,.own 3200000,.i i,.i k,.i t9,.i t10,.any],[],[(3200000,⟨1,b2 (tM 1 (b4 .i64)) out⟩)],b3⟩
def ZW(n:Int)(c:List AA)(c2 c3 i t9 t10:Int)(y:(List (List Int))):FM:=(.exit 2,⟨[.i n,.fn (.func 172) [] [.ptr 1 [.sl 5 (b2 AC c)] 0 0,.ptr 1 [.i c2] 0 0,.ptr 1 [.i c3] 0 0],.any,.own 3200000,.any,.any,.i t9,.i t10,.any],[],[(3200000,⟨1,b2 (tM 1 (b4 .i64)) y⟩)],b3⟩)
attribute [local go_sem] Ah mq Zc ZW in
def Ed{n:Int}{c:List AA}{c2 c3 i t9 t10:Int}:L7 (Ah n c c2 c3 i t9 t10) mq jA 1 (Zc n c c2 c3 i t9 t10) (ZW n c c2 c3 i t9 t10):=Jd jA trivial
def mX(n:Int)(c:List AA)(c2 c3 t9:Int):((List (List Int))×Int)->St
 |(out,t10)=>⟨[.i n,.fn (.func 172) [] [.ptr 1 [.sl 5 (b2 AC c)] 0 0,.ptr 1 [.i c2] 0 0,.ptr 1 [.i c3] 0 0],.any,.own 3200000,.any,.any,.i t9,.i t10,.any],[],[(3200000,⟨1,b2 (tM 1 (b4 .i64)) out⟩)],b3⟩
def ll(n:Int)(c:List AA)(c2 c3 t9:Int)(y:(List (List Int))):FM:=(.exit 0,⟨[.any,.any,.any,.own 3200000,.any,.any,.any,.any,.any],[],[(3200000,⟨1,b2 (tM 1 (b4 .i64)) y⟩)],b3⟩)
attribute [local go_sem] Ac mq mX ll Zc ZW in
def JI{n:Int}{c:List AA}{c2 c3 t9:Int}:L7 (Ac n c c2 c3 t9) mq jA 0 (mX n c c2 c3 t9) (ll n c c2 c3 t9):=Jd jA @Ed
variable{n:Int}
attribute [local go_sem] BV mq Zc ZW mX ll in
@[go_sem]def G_38{I:List AA}{C:Int}:Q7 (BV n I C j) AMR [.i n,.fn (.func 172) [] [.ptr 1 [.sl 5 (b2 AC I)] 0 0,.ptr 1 [.i C] 0 0,.ptr 1 [.i j] 0 0]] (fun h=>.fresh 1 (b2 (tM 1 (b4 .i64)) h)) [.any,.any]:=CK jA (an @Ed @JI)
def AIs:=Af a' Tryz.f109 [0,1,2,3,4,5,6,7] [] [] []
abbrev AMQ:=Vi [(70,pU),(154,fo),(171,AMR)] AIs [.bor,.bor,.bor]
instance:Sd a' 109 AMQ:=Ow
attribute [local go_sem] CU in
@[go_sem]def G_39:Q7 (CU C j I) AMQ [.sl 5 (b2 AC C),.i j,.i I] (fun h=>.tup [.fresh 1 (b2 (tM 1 (b4 .i64)) (h.1)),.i (h.2)]) [.any,.any,.any]:=CK AIs trivial
def AIk:=Af a' Tryz.f119 [0,1,2,3] [] [] []
abbrev AGN:=CV [(154,fo),(168,lF),(181,sC)] AIk [.bor]
instance:Sd a' 119 AGN:=Am
variable{C:Int}
attribute [local go_sem] Kq in
@[go_sem]def G_40:Q7 (Kq (Star.mk J C R j I)) AGN [.agg ([.str J,.i C,.i R,.i j,.i I])] .bool [.any]:=CK AIk trivial
def AIj:=Af a' Tryz.f120 [0,1,2] [] [] []
abbrev AGM:=CV [] AIj [.bor]
instance:Sd a' 120 AGM:=Am
attribute [local go_sem] DH in
@[go_sem]def G_41:Q7 (DH (Star.mk J C R j I)) AGM [.agg ([.str J,.i C,.i R,.i j,.i I])] .str [.any]:=CK AIj trivial
def uW:=Af a' Tryz.f118 [0,1,2,3,8,9,10,15,16,17,18] [(602,32)] [] [(909,0,16)]
def wW:List (Nat×Ao):=[(119,AGN),(120,AGM)]
instance:SdL a' wW:=by unfold wW;infer_instance
abbrev AMP:=CV wW uW [.bor,.bor,.bor,.bor]
instance:Sd a' 118 AMP:=Am
def mW(j I:List Star)(C:Int):Int->St
 |t17=>⟨[.sl 5 (b2 AN j),.any,.fn (.func 119) [] [],.fn (.func 120) [] [],.any,.any,.any,.sl 5 (b2 AN I),.i C,.i t17,.any],[],[],b3⟩
def lk(j I:List Star)(C:Int):(Unit⊕Bool)->FM
 |.inl y=>(.exit 0,⟨[.any,.any,.any,.any,.any,.any,.any,.any,.any,.any,.any],[],[],b3⟩)
 |.inr y=>(.ret,⟨[.any,.any,.any,.any,.bool y,.any,.any,.any,.any,.any,.any],[],[],b3⟩)
attribute [local go_sem] Ag wW mW lk in
def Fz{j R:List Star}{J:Int}:L7 (Ag j R J) wW uW 0 (mW j R J) (lk j R J):=Jd uW trivial
variable{C:List Star}
attribute [local go_sem] BJ wW mW lk in
@[go_sem]def G_42:Q7 (BJ C j) AMP [.sl 5 (b2 AN C),.i j,.fn (.func 119) [] [],.fn (.func 120) [] []] .bool [.any,.any,.any,.any]:=CK uW @Fz
def AOy:=Af a' Tryz.f69 [0,2] [] [] []
abbrev AGL:=CV [(118,AMP)] AOy [.bor]
instance:Sd a' 69 AGL:=Am
attribute [local go_sem] GQ in
@[go_sem]def G_43{j:List Star}:Q7 (GQ j) AGL [.sl 5 (b2 AN j)] .bool [.any]:=CK AOy trivial
def AIf:=Af a' Tryz.f124 [0,1,2,3] [] [] []
abbrev AMO:=CV [] AIf [.bor,.bor]
instance:Sd a' 124 AMO:=Am
attribute [local go_sem] KE in
@[go_sem]def G_44{C:Int}:Q7 (KE (Star.mk J C R j I) U) AMO [.agg ([.str J,.i C,.i R,.i j,.i I]),.ptr 1 [.str U] 0 0] .bool [.any,.any]:=CK AIf trivial
def uJ:=Af a' Tryz.f186 [0,1,4,5,7,8,9] [] [] [(51,0,4)]
def wV:List (Nat×Ao):=[(124,AMO)]
instance:SdL a' wV:=by unfold wV;infer_instance
abbrev AMN:=CV wV uJ [.bor,.bor]
instance:Sd a' 186 AMN:=Am
def mV(s_:List Star)(c:L8)(j:Int):Int->St
 |t8=>⟨[.sl 5 (b2 AN s_),.fn (.func 124) [] [.ptr 1 [.str c] 0 0],.any,.any,.i j,.i t8,.any],[],[],b3⟩
def lj(s_:List Star)(c:L8)(j:Int):(Unit⊕Int)->FM
 |.inl y=>(.exit 0,⟨[.any,.any,.any,.any,.any,.any,.any],[],[],b3⟩)
 |.inr y=>(.ret,⟨[.any,.any,.i y,.any,.any,.any,.any],[],[],b3⟩)
attribute [local go_sem] Al wV mV lj in
def FN{s_:List Star}{c:L8}{I:Int}:L7 (Al s_ c I) wV uJ 0 (mV s_ c I) (lj s_ c I):=Jd uJ trivial
variable{j:L8}{s_:List Star}
attribute [local go_sem] Ay wV mV lj in
@[go_sem]def G_45:Q7 (Ay s_ j) AMN [.sl 5 (b2 AN s_),.fn (.func 124) [] [.ptr 1 [.str j] 0 0]] .i [.any,.any]:=CK uJ @FN
def AIg:=Af a' Tryz.f123 [0,1,4] [] [] []
abbrev AMM:=CV [(186,AMN)] AIg [.bor,.bor]
instance:Sd a' 123 AMM:=Am
attribute [local go_sem] Ar in
@[go_sem]def G_46:Q7 (Ar s_ j) AMM [.sl 5 (b2 AN s_),.fn (.func 124) [] [.ptr 1 [.str j] 0 0]] .bool [.any,.any]:=CK AIg trivial
def AOx:=Af a' Tryz.f71 [0,1,3,4] [] [] []
abbrev sB:=CV [(123,AMM)] AOx [.bor,.bor]
instance s_47:Sd a' 71 sB:=Am
attribute [local go_sem] EC in
@[go_sem]def AQZ:Q7 (EC C j) sB [.sl 5 (b2 AN C),.str j] .bool [.any,.any]:=CK AOx trivial
def ARy{I:Bool}(h:EC C j=b5 I):sB.F [.sl 5 (b2 AN C),.str j]=⟨b3,.bool I,[.any,.any]⟩:=(Q8 AQZ h:)
def qV:Cd a' 247 Lq:=oW
instance:Sd a' 247 Lq:=⟨qV⟩
def uF:=Af a' Tryz.f206 [0,1,2,4,6,7] [(402,64)] [(4,[],[[2,0,1,3,4,5,6],[2,0,3,1,4,5,6],[2,0,3,4,1,5,6],[2,3,0,1,4,5,6],[2,3,0,4,1,5,6],[2,3,4,0,1,5,6]])] [(45,41,16)]
def wU:List (Nat×Ao):=[(120,AGM),(56,c_1),(247,Lq)]
instance:SdL a' wU:=by unfold wU;infer_instance
abbrev AML:=CV wU uF [.bor,.bor,.bor]
instance:Sd a' 206 AML:=Am
def mU(j:List Star)(x:Star):Int->St
 |k=>⟨[.sl 5 (b2 AN j),.any,.fn (.func 120) [] [],.ref 3200000 0 0,.any,.i k],[],[(3200000,⟨5,[AN x]⟩)],b3⟩
def li(j:List Star)(x:Star)(y:Int):FM:=(.exit 0,⟨[.sl 5 (b2 AN j),.any,.any,.ref 3200000 0 0,.any,.i y],[],[(3200000,⟨5,[AN x]⟩)],b3⟩)
attribute [local go_sem] Aw wU mU li in
def JU{j:List Star}{x:Star}:L7 (Aw j x) wU uF 0 (mU j x) (li j x):=Jd uF trivial
variable{C j:Int}{U:List Star}
attribute [local go_sem] Bq wU mU li in
@[go_sem]def G_49:Q7 (Bq U (Star.mk J C R j I)) AML [.sl 5 (b2 AN U),.agg ([.str J,.i C,.i R,.i j,.i I]),.fn (.func 120) [] []] (fun h=>.fresh 5 (b2 AN h)) [.any,.any,.any]:=CK uF (an @JU (@pu _ AN))
def AIO:=Af a' Tryz.f157 [0,1,3,4,5] [] [] []
abbrev ACJ:=CV [(69,AGL),(119,AGN),(71,sB),(206,AML)] AIO [.bor,.bor]
instance s_50:Sd a' 157 ACJ:=Am
attribute [local go_sem] Fo in
@[go_sem]def AQY:Q7 (Fo U (Star.mk J C R j I)) ACJ [.sl 5 (b2 AN U),.agg ([.str J,.i C,.i R,.i j,.i I])] (fun h=>.tup [.fresh 5 (b2 AN (h.1)),.i (h.2)]) [.any,.any]:=CK AIO trivial
variable{C:Bool}
def ARx{j:List Star}{x:Star}{C:(List Star)×Int}(h:Fo j x=b5 C):ACJ.F [.sl 5 (b2 AN j),AN x]=⟨b3,.tup [.fresh 5 (b2 AN C.1),.int .i64 C.2],[.any,.any]⟩:=(Q8 AQY h:)
def Zv:Cd a' 208 Hv:=Yl
instance:Sd a' 208 Hv:=⟨Zv⟩
def uE:=Af a' Tryz.f207 [0,1,2,4,6,7,8,9,10,11] [(506,32)] [] [(461,205,48)]
def wT:List (Nat×Ao):=[(122,AGO)]
instance:SdL a' wT:=by unfold wT;infer_instance
abbrev AMK:=CV wT uE [.bor,.bor,.bor]
instance:Sd a' 207 AMK:=Am
def mT(x:List AA)(C:AA)(n:Int):(Int×Int)->St
 |(i,j)=>⟨[.sl 5 (b2 AC x),.any,.fn (.func 122) [] [],.ref 3200000 0 0,.any,.any,.i n,.i i,.i j,.any],[],[(3200000,⟨5,[AC C]⟩)],b3⟩
def lh(x:List AA)(j:AA)(n y:Int):FM:=(.exit 0,⟨[.sl 5 (b2 AC x),.any,.fn (.func 122) [] [],.ref 3200000 0 0,.any,.any,.i n,.i y,.any,.any],[],[(3200000,⟨5,[AC j]⟩)],b3⟩)
attribute [local go_sem] AI wT mT lh in
def Cc{x:List AA}{j:AA}{n:Int}:L7 (AI x j n) wT uE 0 (mT x j n) (lh x j n):=Jd uE trivial
attribute [local go_sem] AL wT mT lh in
@[go_sem]def G_52{x:List AA}{j:L8}:Q7 (AL x (AA.mk I J j R C)) AMK [.sl 5 (b2 AC x),.agg ([.i I,.str J,.str j,.i R,.bool C]),.fn (.func 122) [] []] (fun h=>.tup [.i (h.1),.bool (h.2)]) [.any,.any,.any]:=CK uE @Cc
def AIN:=Af a' Tryz.f158 [0,1,3,4,5,6,7] [(1002,64),(1007,64)] [(10,[],[[2,0,1,3,4,5,6,7],[2,0,3,1,4,5,6,7],[2,0,3,4,1,5,6,7],[2,3,0,1,4,5,6,7],[2,3,0,4,1,5,6,7],[2,3,4,0,1,5,6,7]])] []
abbrev ACI:=CV [(70,pU),(121,AGQ),(207,AMK),(57,c_2),(208,Hv)] AIN [.bor,.bor]
instance s_53:Sd a' 158 ACI:=Am
attribute [local go_sem] Ce in
@[go_sem]def AQX{U:List AA}{j:L8}:Q7 (Ce U (AA.mk I J j R C)) ACI [.sl 5 (b2 AC U),.agg ([.i I,.str J,.str j,.i R,.bool C])] (fun h=>.tup [.fresh 5 (b2 AC (h.1)),.i (h.2)]) [.any,.any]:=CK AIN (@Yu _ AC)
variable{C:L8}
def ARw{j:List AA}{I:AA}{C:(List AA)×Int}(h:Ce j I=b5 C):ACI.F [.sl 5 (b2 AC j),AC I]=⟨b3,.tup [.fresh 5 (b2 AC C.1),.int .i64 C.2],[.any,.any]⟩:=(Q8 AQX h:)
def AIp:=Af a' Tryz.f112 [0,1,2] [(102,16),(110,16)] [] []
abbrev ACH:=CV [(110,Un)] AIp [.bor]
instance:Sd a' 112 ACH:=Am
attribute [local go_sem] Ei in
@[go_sem]def G_54:Q7 (Ei (AU.mk I C j)) ACH [.agg ([.i I,.str C,.i j])] .str [.any]:=CK AIp trivial
def uD:=Af a' Tryz.f211 [0,1,3,4,5,6,7,14,15,16] [] [] [(432,16,8)]
def wS:List (Nat×Ao):=[(112,ACH)]
instance:SdL a' wS:=by unfold wS;infer_instance
abbrev AGK:=CV wS uD [.bor,.bor]
instance:Sd a' 211 AGK:=Am
def mS(j:L8)(C:Int):(Int×Int)->St
 |(sum,t15)=>⟨[.any,.any,.any,.any,.i sum,.str j,.any,.i C,.i t15,.any],[],[],b3⟩
def lf(j:L8)(C y:Int):FM:=(.exit 0,⟨[.any,.any,.any,.any,.i y,.any,.any,.any,.any,.any],[],[],b3⟩)
attribute [local go_sem] NK wS mS lf in
def Xc{j:L8}{J:Int}:L7 (NK j J) wS uD 0 (mS j J) (lf j J):=Jd uD trivial
attribute [local go_sem] JF wS mS lf in
@[go_sem]def G_55{J:Int}:Q7 (JF I (AU.mk J C j)) AGK [.i I,.agg ([.i J,.str C,.i j])] .i [.any,.any]:=CK uD @Xc
def AHm:=Af a' Tryz.f210 [0,1,2,4] [] [] []
abbrev AMJ:=CV [(112,ACH),(110,Un)] AHm [.bor,.bor]
instance:Sd a' 210 AMJ:=Am
attribute [local go_sem] MF in
@[go_sem]def G_56{J:Int}:Q7 (MF (AU.mk J C j) I) AMJ [.agg ([.i J,.str C,.i j]),.i I] .str [.any,.any]:=CK AHm trivial
def AHn:=Af a' Tryz.f209 [0,1,2] [] [] []
abbrev AGJ:=CV [(154,fo),(168,lF)] AHn [.bor]
instance:Sd a' 209 AGJ:=Am
attribute [local go_sem] FJ in
@[go_sem]def G_57:Q7 (FJ (AU.mk I C j)) AGJ [.agg ([.i I,.str C,.i j])] .bool [.any]:=CK AHn trivial
def AHa:=Af a' Tryz.f233 [0,2,3,4,5,6,7,8,9,10,11,12] [(801,64),(802,64),(803,64),(806,64),(809,64),(814,64),(815,64)] [(8,[],[[0,1,2,3,4,5,6,7,8,9,10,11,13,12,14,15]])] []
abbrev AMI:=Vi [(97,Nd),(101,Me),(209,AGJ)] AHa [.bor]
instance:Sd a' 233 AMI:=Ow
variable{line:L8}
attribute [local go_sem] Fw in
@[go_sem]def G_58:Q7 (Fw line) AMI [.str line] (fun h=>.tup [Br (h.1),.i (h.2.1),.bool (h.2.2)]) [.any]:=CK AHa @Xw
def uI:=Af a' Tryz.f187 [0,2,3,4,5,6,7,8,9,11,12,13,14] [] [] [(241,0,14)]
def wR:List (Nat×Ao):=[(25,RM),(233,AMI),(211,AGK)]
instance:SdL a' wR:=by unfold wR;infer_instance
abbrev AMH:=CV wR uI [.bor]
instance:Sd a' 187 AMH:=Am
def mR(log:L8):((List AU)×Int×Int×Int)->St
 |(entries,used,last,day)=>⟨[.str log,.any,.any,.any,.own 3200000,.i used,.i last,.i day,.any,.any,.any,.any,.any],[],[(3200000,⟨3,b2 Br entries⟩)],b3⟩
def ld(log:L8)(y:(List AU)×Int×Int):FM:=(.ret,⟨[.any,.own 3200000,.i y.2.1,.i y.2.2,.any,.any,.any,.any,.any,.any,.any,.any,.any],[],[(3200000,⟨3,b2 Br y.1⟩)],b3⟩)
attribute [local go_sem] GO wR mR ld in
def UZ{log:L8}:L7 (GO log) wR uI 0 (mR log) (ld log):=Jd uI @Wd
attribute [local go_sem] Ip wR mR ld in
@[go_sem]def G_59{log:L8}:Q7 (Ip log) AMH [.str log] (fun h=>.tup [.fresh 3 (b2 Br (h.1)),.i (h.2.1),.i (h.2.2)]) [.any]:=CK uI (an @UZ @Wd)
def AIe:=Af a' Tryz.f125 [0,2,3,4,5,6,7] [] [] []
abbrev AGI:=CV [(187,AMH)] AIe [.bor]
instance:Sd a' 125 AGI:=Am
attribute [local go_sem] Fm in
@[go_sem]def G_60{log:L8}:Q7 (Fm log) AGI [.str log] (fun h=>.tup [.fresh 3 (b2 Br (h.1)),.i (h.2.1),.i (h.2.2)]) [.any]:=CK AIe trivial
def AIM:=Af a' Tryz.f159 [0,1,3,4,5,6,7,8] [(804,16),(805,16)] [] []
abbrev ACG:=CV [(125,AGI),(209,AGJ),(211,AGK),(210,AMJ)] AIM [.bor,.bor]
instance s_61:Sd a' 159 ACG:=Am
attribute [local go_sem] Du in
@[go_sem]def AQW{log:L8}:Q7 (Du log (AU.mk I C j)) ACG [.str log,.agg ([.i I,.str C,.i j])] (fun h=>.tup [.str (h.1),.i (h.2)]) [.any,.any]:=CK AIM trivial
def ARv{log:L8}{C:AU}{j:L8×Int}(h:Du log C=b5 j):ACG.F [.str log,Br C]=⟨b3,.tup [.str j.1,.int .i64 j.2],[.any,.any]⟩:=(Q8 AQW h:)
def AOw:=Af a' Tryz.f72 [0,2,3,4,6] [] [] []
abbrev ACF:=CV [(125,AGI)] AOw [.bor]
instance:Sd a' 72 ACF:=Am
attribute [local go_sem] EY in
@[go_sem]def G_62{log:L8}:Q7 (EY log) ACF [.str log] (fun h=>.tup [.fresh 3 (b2 Br (h.1)),.i (h.2)]) [.any]:=CK AOw trivial
def AHl:=Af a' Tryz.f213 [0,1,2,3] [] [] []
abbrev AMG:=CV [] AHl [.bor,.bor]
instance:Sd a' 213 AMG:=Am
attribute [local go_sem] JW in
@[go_sem]def G_63:Q7 (JW (AU.mk I C j) J) AMG [.agg ([.i I,.str C,.i j]),.ptr 1 [.str J] 0 0] .bool [.any,.any]:=CK AHl trivial
def uC:=Af a' Tryz.f212 [0,1,4,5,7,9,10,11,12] [] [] [(234,8,4)]
def wQ:List (Nat×Ao):=[(213,AMG)]
instance:SdL a' wQ:=by unfold wQ;infer_instance
abbrev AMF:=CV wQ uC [.bor,.bor]
instance:Sd a' 212 AMF:=Am
def mQ(c:L8)(t9:List AU)(t10:Int):((List Int)×Int)->St
 |(out,t11)=>⟨[.any,.fn (.func 213) [] [.ptr 1 [.str c] 0 0],.any,.own 3200000,.any,.sl 3 (b2 Br t9),.i t10,.i t11,.any],[],[(3200000,⟨1,b2 (b4 .i64) out⟩)],b3⟩
def lc(c:L8)(t9:List AU)(t10:Int)(y:(List Int)):FM:=(.exit 0,⟨[.any,.any,.any,.own 3200000,.any,.any,.any,.any,.any],[],[(3200000,⟨1,b2 (b4 .i64) y⟩)],b3⟩)
attribute [local go_sem] Bj wQ mQ lc in
def LK{c:L8}{t9:List AU}{t10:Int}:L7 (Bj c t9 t10) wQ uC 0 (mQ c t9 t10) (lc c t9 t10):=Jd uC trivial
variable{C:Int}
attribute [local go_sem] Ct wQ mQ lc in
@[go_sem]def G_64{C:List AU}{j:L8}:Q7 (Ct C j) AMF [.sl 3 (b2 Br C),.fn (.func 213) [] [.ptr 1 [.str j] 0 0]] (fun h=>.fresh 1 (b2 (b4 .i64) h)) [.any,.any]:=CK uC @LK
def AIL:=Af a' Tryz.f160 [0,1,3,4,5,6,7] [] [] []
abbrev ACE:=CV [(72,ACF),(168,lF),(212,AMF)] AIL [.bor,.bor]
instance s_65:Sd a' 160 ACE:=Am
variable{what:L8}
attribute [local go_sem] Ds in
@[go_sem]def AQV{log:L8}:Q7 (Ds log what) ACE [.str log,.str what] (fun h=>.tup [.fresh 1 (b2 (b4 .i64) (h.1)),.i (h.2)]) [.any,.any]:=CK AIL trivial
def ARu{log:L8}{j:(List Int)×Int}(h:Ds log what=b5 j):ACE.F [.str log,.str what]=⟨b3,.tup [.fresh 1 (b2 (b4 .i64) j.1),.int .i64 j.2],[.any,.any]⟩:=(Q8 AQV h:)
def AHk:=Af a' Tryz.f214 [0,2] [] [] []
abbrev AME:=CV [] AHk [.bor]
instance:Sd a' 214 AME:=Am
attribute [local go_sem] Fx in
@[go_sem]def G_66{j:List Star}:Q7 (Fx j) AME [.sl 5 (b2 AN j)] .i [.any]:=CK AHk trivial
def AHj:=Af a' Tryz.f215 [0,2] [] [] []
abbrev AMD:=CV [] AHj [.bor]
instance:Sd a' 215 AMD:=Am
attribute [local go_sem] ET in
@[go_sem]def G_67{j:List AA}:Q7 (ET j) AMD [.sl 5 (b2 AC j)] .i [.any]:=CK AHj trivial
def AIK:=Af a' Tryz.f162 [0,1,2] [(102,16),(103,16),(107,16),(108,16)] [] []
abbrev ACD:=CV [(214,AME),(110,Un),(215,AMD)] AIK [.bor]
instance s_68:Sd a' 162 ACD:=Am
attribute [local go_sem] DD in
@[go_sem]def AQU{C:List Star}{j:List AA}{I:L8}:Q7 (DD (Ad.mk C j I)) ACD [.agg ([.sl 5 (b2 AN C),.sl 5 (b2 AC j),.str I])] .str [.any]:=CK AIK trivial
def ARt{d:Ad}{j:L8}(h:DD d=b5 j):ACD.F [BC d]=⟨b3,.str j,[.any]⟩:=(Q8 AQU h:)
def AIu:=Af a' Tryz.f107 [0,1,4,5] [] [] []
abbrev sA:=CV [] AIu [.bor,.bor]
instance s_69:Sd a' 107 sA:=Am
attribute [local go_sem] DY in
@[go_sem]def AQT:Q7 (DY line j) sA [.str line,.i j] (fun h=>.tup [.fresh 1 (b2 bb (h.1)),.i (h.2)]) [.any,.any]:=CK AIu trivial
def AKD{line:L8}{j:Int}{C:(List L8)×Int}(h:DY line j=b5 C):sA.F [.str line,.int .i64 j]=⟨b3,.tup [.fresh 1 (b2 bb C.1),.int .i64 C.2],[.any,.any]⟩:=(Q8 AQT h:)
def uN:=Af a' Tryz.f161 [0,2,3,5,6,7,8,9] [] [] [(116,4,2)]
def AED:List (Nat×Ao):=[]
instance:SdL a' AED:=SdL0
abbrev yW:=CV AED uN [.bor]
instance s_70:Sd a' 161 yW:=Am
def mP(C:List Int)(j:Int):(Int×Int)->St
 |(n,t8)=>⟨[.any,.any,.i n,.any,.sl 1 (b2 (b4 .i64) C),.i j,.i t8,.any],[],[],b3⟩
def la(C:List Int)(j y:Int):FM:=(.exit 0,⟨[.any,.any,.i y,.any,.any,.any,.any,.any],[],[],b3⟩)
attribute [local go_sem] Io mP la in
def ar{J:List Int}{I:Int}:L7 (Io J I) AED uN 0 (mP J I) (la J I):=Jd uN trivial
variable{j:List Int}
attribute [local go_sem] Hp AED mP la in
@[go_sem]def AQS:Q7 (Hp j) yW [.sl 1 (b2 (b4 .i64) j)] .i [.any]:=CK uN @ar
def ARs(h:Hp j=b5 C):yW.F [.sl 1 (b2 (b4 .i64) j)]=⟨b3,.int .i64 C,[.any]⟩:=(Q8 AQS h:)
def APK:=Af a' Tryz.f104 [0,1,3,4,5,6,7,8,9,15] [(1021,32),(1208,16),(1421,32),(415,32)] [(10,[],[[1,2,3,4,5,6,7,8,9,10,11,12,13,14,15,16,17,18,19,20,21,0,22,23,24,26,27,25,28,29],[1,2,3,4,5,6,7,8,9,10,11,12,13,14,15,16,17,18,19,20,21,0,22,23,24,26,27,28,25,29],[1,2,3,4,5,6,7,8,9,10,11,12,13,14,15,16,17,18,19,20,21,22,0,23,24,26,27,25,28,29],[1,2,3,4,5,6,7,8,9,10,11,12,13,14,15,16,17,18,19,20,21,22,0,23,24,26,27,28,25,29]]),(14,[],[[1,2,3,4,5,6,7,8,9,10,11,12,13,14,15,16,17,18,19,20,21,0,22,23,24,26,27,25,28,29],[1,2,3,4,5,6,7,8,9,10,11,12,13,14,15,16,17,18,19,20,21,0,22,23,24,26,27,28,25,29],[1,2,3,4,5,6,7,8,9,10,11,12,13,14,15,16,17,18,19,20,21,22,0,23,24,26,27,25,28,29],[1,2,3,4,5,6,7,8,9,10,11,12,13,14,15,16,17,18,19,20,21,22,0,23,24,26,27,28,25,29]]),(4,[],[[1,2,3,4,5,6,7,8,9,10,11,12,13,14,15,0,16,17,18,20,21,19,22,23],[1,2,3,4,5,6,7,8,9,10,11,12,13,14,15,0,16,17,18,20,21,22,19,23],[1,2,3,4,5,6,7,8,9,10,11,12,13,14,15,16,0,17,18,20,21,19,22,23],[1,2,3,4,5,6,7,8,9,10,11,12,13,14,15,16,0,17,18,20,21,22,19,23]])] []
abbrev APY:=Vi [(157,ACJ),(162,ACD),(107,sA),(71,sB),(158,ACI),(159,ACG),(160,ACE),(161,yW),(110,Un)] APK [.io,.bor]
instance:Sd a' 104 APY:=Ow
def AHi:=Af a' Tryz.f217 [0,1,2,3] [] [] []
abbrev AMC:=CV [] AHi [.bor,.bor]
instance:Sd a' 217 AMC:=Am
attribute [local go_sem] KF in
@[go_sem]def G_72{j:L8}{C:Bool}{U:L8}:Q7 (KF (AA.mk I J j R C) U) AMC [.agg ([.i I,.str J,.str j,.i R,.bool C]),.ptr 1 [.str U] 0 0] .bool [.any,.any]:=CK AHi trivial
def uB:=Af a' Tryz.f216 [0,1,4,5,7,9,10,11,12] [] [] [(234,8,4)]
def wP:List (Nat×Ao):=[(217,AMC)]
instance:SdL a' wP:=by unfold wP;infer_instance
abbrev AMB:=CV wP uB [.bor,.bor]
instance:Sd a' 216 AMB:=Am
def mO(c:L8)(t9:List AA)(t10:Int):((List AA)×Int)->St
 |(out,t11)=>⟨[.any,.fn (.func 217) [] [.ptr 1 [.str c] 0 0],.any,.own 3200000,.any,.sl 5 (b2 AC t9),.i t10,.i t11,.any],[],[(3200000,⟨5,b2 AC out⟩)],b3⟩
def lZ(c:L8)(t9:List AA)(t10:Int)(y:(List AA)):FM:=(.exit 0,⟨[.any,.any,.any,.own 3200000,.any,.any,.any,.any,.any],[],[(3200000,⟨5,b2 AC y⟩)],b3⟩)
attribute [local go_sem] BD wP mO lZ in
def IH{c:L8}{t9:List AA}{t10:Int}:L7 (BD c t9 t10) wP uB 0 (mO c t9 t10) (lZ c t9 t10):=Jd uB trivial
attribute [local go_sem] BK wP mO lZ in
@[go_sem]def G_73{C:List AA}{j:L8}:Q7 (BK C j) AMB [.sl 5 (b2 AC C),.fn (.func 217) [] [.ptr 1 [.str j] 0 0]] (fun h=>.fresh 5 (b2 AC h)) [.any,.any]:=CK uB @IH
def AHT:=Af a' Tryz.f251 [0,2] [] [] []
abbrev AMA:=CV [] AHT [.bor]
instance:Sd a' 251 AMA:=Am
attribute [local go_sem] JV in
@[go_sem]def G_74:Q7 (JV j) AMA [.sl 1 (b2 (b4 .i64) j)] .i [.any]:=CK AHT trivial
def AHM:=Af a' Tryz.f275 [0,1,4,5] [] [] []
abbrev AGH:=CV [] AHM [.bor,.bor]
instance:Sd a' 275 AGH:=Am
variable{a b:Int}
attribute [local go_sem] En in
@[go_sem]def G_75:Q7 (En a b) AGH [.i a,.i b] .i [.any,.any]:=CK AHM trivial
def AHU:=Af a' Tryz.f250 [0,1,4,5,6] [] [] []
abbrev ALz:=CV [(275,AGH)] AHU [.bor,.bor]
instance:Sd a' 250 ALz:=Am
attribute [local go_sem] MX in
@[go_sem]def G_76{j:Int}:Q7 (MX j C) ALz [.i j,.i C] .i [.any,.any]:=CK AHU trivial
def AHh:=Af a' Tryz.f218 [0,2] [] [] []
abbrev ALy:=CV [(161,yW),(251,AMA),(250,ALz)] AHh [.bor]
instance:Sd a' 218 ALy:=Am
attribute [local go_sem] OJ in
@[go_sem]def G_77:Q7 (OJ j) ALy [.sl 1 (b2 (b4 .i64) j)] .i [.any]:=CK AHh trivial
def jB:=Af a' Tryz.f163 [0,1,3,4,5,6,7,8,9,10] [] [] [(224,64,24),(992,992,24)]
def mp:List (Nat×Ao):=[(70,pU),(168,lF),(216,AMB),(218,ALy)]
instance:SdL a' mp:=by unfold mp;infer_instance
abbrev ALx:=CV mp jB [.bor,.bor]
instance:Sd a' 163 ALx:=Am
def Zb(C:List AA)(out:List AJ)(j:Int):(Int×(List Int))->St
 |(i,I)=>⟨[.any,.any,.any,.any,.any,.own 3200000,.own 3200032,.i i,.own 3200064,.i j],[],[(3200000,⟨5,b2 AC C⟩),(3200032,⟨2,b2 AQ out⟩),(3200064,⟨1,b2 (b4 .i64) I⟩)],b3⟩
def ZV(C:List AA)(out:List AJ)(j:Int)(y:Int×(List Int)):FM:=(.exit 3,⟨[.any,.any,.any,.any,.any,.own 3200000,.own 3200032,.i y.1,.own 3200064,.i j],[],[(3200000,⟨5,b2 AC C⟩),(3200032,⟨2,b2 AQ out⟩),(3200064,⟨1,b2 (b4 .i64) y.2⟩)],b3⟩)
attribute [local go_sem] GR mp Zb ZV in
def Oj{C:List AA}{out:List AJ}{j:Int}:L7 (GR C out j) mp jB 1 (Zb C out j) (ZV C out j):=Jd jB trivial
def mN(j:List AA):((List AJ)×Int)->St
 |(out,i)=>⟨[.any,.any,.any,.any,.any,.own 3200000,.own 3200032,.i i,.any,.any],[],[(3200000,⟨5,b2 AC j⟩),(3200032,⟨2,b2 AQ out⟩)],b3⟩
def lY(j:List AA)(y:(List AJ)):FM:=(.exit 1,⟨[.any,.any,.any,.any,.any,.any,.own 3200000,.any,.any,.any],[],[(3200000,⟨2,b2 AQ y⟩)],b3⟩)
attribute [local go_sem] IY mp mN lY Zb ZV in
def Ub{j:List AA}:L7 (IY j) mp jB 0 (mN j) (lY j):=Jd jB @Oj
variable{j:Int}
attribute [local go_sem] Jp mp Zb ZV mN lY in
@[go_sem]def G_78{C:List AA}{j:L8}:Q7 (Jp C j) ALx [.sl 5 (b2 AC C),.str j] (fun h=>.tup [.fresh 2 (b2 AQ (h.1)),.i (h.2)]) [.any,.any]:=CK jB (an @Oj @Ub)
def oO:=Af a' Tryz.f219 [0,2,3,4,8,9,10,11] [(602,16)] [] [(113,0,2)]
def fP:List (Nat×Ao):=[(182,yX),(181,sC)]
instance:SdL a' fP:=by unfold fP;infer_instance
abbrev ACC:=CV fP oO [.bor]
instance:Sd a' 219 ACC:=Am
def Za(j C:List AJ)(t9:Int):Int->St
 |t10=>⟨[.sl 2 (b2 AQ j),.any,.any,.any,.sl 2 (b2 AQ C),.i t9,.i t10,.any],[],[],b3⟩
def ZU(j C:List AJ)(t9:Int):(Unit⊕Bool)->FM
 |.inl y=>(.exit 0,⟨[.any,.any,.any,.any,.any,.any,.any,.any],[],[],b3⟩)
 |.inr y=>(.ret,⟨[.any,.bool y,.any,.any,.any,.any,.any,.any],[],[],b3⟩)
attribute [local go_sem] Za ZU in
theorem Rj{aa t8:List AJ}{t9 a8:Int}{ba:Unit⊕Bool}(h:AE (Cq aa t8 t9) a8=b5 ba):∃L0,∀L,L0<=L->Hf fP L oO 0 (Za aa t8 t9 a8)=ZU aa t8 t9 ba:=by
 have aj:oO=oO:=rfl
 conv at aj=>rhs;cbv
 simp only[aj,Hf,My,JQ,b7,b8];refine OA (E:=Za aa t8 t9) (R:=ZU aa t8 t9) (fun y=>by first|(intro c;cases c)|(rcases y with y|y<;>(intro c;cases c))|(rcases y with y|y|y<;>(intro c;cases c))) ?_ h;clear h;intro t10 o_ h;dsimp only[Cq]at h;rcases Au h with⟨z2,h⟩|⟨z2,h⟩
 .try simp only[go_sem,n1,n2,n3,n4]at z2
  all_goals
  obtain⟨z3,h⟩:=AY h;have ax:=Kk z3;have az:=CR AQ t8 ax;try simp only[go_sem]at ax
  try simp only[go_sem]at az
  try simp only[go_sem,n1,n2,n3,n4,z2]at z3
  all_goals
  obtain⟨b1,z4,h⟩:=AO h;have a6:=ASC z4;try simp only[go_sem,z2,z3]at a6
  obtain⟨z5,h⟩:=AY h;rcases Ev z5 with⟨I,z5⟩|I
  .try simp only[go_sem,n1,n2,n3,n4,z2,z3]at I
   all_goals
   obtain⟨b0,J⟩:=zX z5;have a7:=ASG J;try simp only[go_sem,n1,n2,n3,n4,z2,z3,I]at J
   all_goals
   try simp only[go_sem,z2,z3,I]at a7
   obtain⟨z6,h⟩:=AY h;rcases Ev z6 with⟨ay,z6⟩|ay
   .try simp only[go_sem,n1,n2,n3,n4,z2,z3,I,J]at ay
    all_goals
    have be:=Kk z6;have bo:=CR AQ aa be;try simp only[go_sem]at be
    try simp only[go_sem]at bo
    try simp only[go_sem,n1,n2,n3,n4,z2,z3,I,J,ay]at z6
    all_goals
    rcases Au h with⟨z7,h⟩|⟨z7,h⟩
    all_goals
    try simp only[go_sem,n1,n2,n3,n4,z2,z3,I,J,ay,z6]at z7
    all_goals
    obtain rfl:=AX h;refine⟨0,fun L hL=>?_⟩;simp only[go_sem,aj,fP,z2,z3,ax,az,a6,I,J,a7,ay,z6,be,bo,z7]
   .rcases AJG ay with a1|⟨a1,au⟩
    .have ao:=Ov a1;rcases AEg ao with U|⟨U,ab⟩
     .try simp only[go_sem,n1,n2,n3,n4,z2,z3,I,J]at U
      all_goals
      (simp_all)
     .have j:=Ov U;have C:=TU ab;try simp only[go_sem,n1,n2,n3,n4,z2,z3,I,J]at j
      all_goals
      try simp only[go_sem,n1,n2,n3,n4,z2,z3,I,J,j]at C
      all_goals
      rcases Au h with⟨z7,h⟩|⟨z7,h⟩
      .try simp only[go_sem,n1,n2,n3,n4,z2,z3,I,J,j,C]at z7
       all_goals
       obtain rfl:=AX h;refine⟨0,fun L hL=>?_⟩;simp only[go_sem,aj,fP,z2,z3,ax,az,a6,I,J,a7,j,C,z7]
      .try simp only[go_sem,n1,n2,n3,n4,z2,z3,I,J,j,C]at z7
       all_goals
       (simp_all)
    .have ao:=TU a1;obtain⟨U,ab⟩:=AKi ao;have j:=Ov U;have C:=Ov ab;try simp only[go_sem,n1,n2,n3,n4,z2,z3,I,J]at j
     all_goals
     try simp only[go_sem,n1,n2,n3,n4,z2,z3,I,J,j]at C
     all_goals
     try simp only[go_sem,n1,n2,n3,n4,z2,z3,I,J,j,C]at au
     all_goals
     rcases Au h with⟨z7,h⟩|⟨z7,h⟩
     .try simp only[go_sem,n1,n2,n3,n4,z2,z3,I,J,j,C,au]at z7
      all_goals
      (simp_all)
     .try simp only[go_sem,n1,n2,n3,n4,z2,z3,I,J,j,C,au]at z7
      all_goals
      obtain rfl:=AX h;refine⟨0,fun L hL=>?_⟩;simp only[go_sem,aj,fP,z2,z3,ax,az,a6,I,J,a7,j,C,au,z7]
  .have bs:=Ov I;have ad:=TU bs;try simp only[go_sem,n1,n2,n3,n4,z2,z3]at ad
   all_goals
   obtain⟨z6,h⟩:=AY h;rcases Au h with⟨z7,h⟩|⟨z7,h⟩
   .try simp only[go_sem,n1,n2,n3,n4,z2,z3,ad]at z7
    all_goals
    obtain rfl:=AX h;refine⟨0,fun L hL=>?_⟩;simp only[go_sem,aj,fP,z2,z3,ax,az,a6,ad,z7]
   .try simp only[go_sem,n1,n2,n3,n4,z2,z3,ad]at z7
    all_goals
    (simp_all)
 .try simp only[go_sem,n1,n2,n3,n4]at z2
  all_goals
  obtain rfl:=AX h;refine⟨0,fun L hL=>?_⟩;simp only[go_sem,aj,fP,z2]
attribute [local go_sem] Ec fP Za ZU in
@[go_sem]def G_79{j:List AJ}:Q7 (Ec j) ACC [.sl 2 (b2 AQ j)] .bool [.any]:=CK oO @Rj
def AHS:=Af a' Tryz.f252 [0,1,2] [] [] []
abbrev ALw:=CV [(154,fo)] AHS [.bor]
instance:Sd a' 252 ALw:=Am
attribute [local go_sem] FY in
@[go_sem]def G_80:Q7 (FY (CI.mk C I j)) ALw [.agg ([.i C,.i I,.i j])] .bool [.any]:=CK AHS trivial
def AHg:=Af a' Tryz.f223 [0,1,2,4,6] [] [] []
abbrev ALv:=CV [(219,ACC),(252,ALw)] AHg [.bor,.bor,.bor]
instance:Sd a' 223 ALv:=Am
attribute [local go_sem] KC in
@[go_sem]def G_81{J:List AJ}:Q7 (KC J (CI.mk C R j) I) ALv [.sl 2 (b2 AQ J),.agg ([.i C,.i R,.i j]),.i I] .i [.any,.any,.any]:=CK AHg trivial
def tz:=Af a' Tryz.f225 [0,1,2,3,4] [] [] [(26,8,4)]
def AEC:List (Nat×Ao):=[]
instance:SdL a' AEC:=SdL0
abbrev ALu:=CV AEC tz [.bor]
instance:Sd a' 225 ALu:=Am
def mM(x:CI):((List Int)×Int)->St
 |(out,p)=>⟨[.any,.ref 3200000 0 0,.any,.own 3200032,.i p],[],[(3200000,⟨3,[QT x]⟩),(3200032,⟨1,b2 (b4 .i64) out⟩)],b3⟩
def lX(x:CI)(y:(List Int)):FM:=(.exit 0,⟨[.any,.any,.any,.own 3200000,.any],[],[(3200000,⟨1,b2 (b4 .i64) y⟩)],b3⟩)
attribute [local go_sem] ED mM lX in
def Oz{x:CI}:L7 (ED x) AEC tz 0 (mM x) (lX x):=Jd tz trivial
attribute [local go_sem] FG AEC mM lX in
@[go_sem]def G_82:Q7 (FG (CI.mk C I j)) ALu [.agg ([.i C,.i I,.i j])] (fun h=>.fresh 1 (b2 (b4 .i64) h)) [.any]:=CK tz @Oz
def AHL:=Af a' Tryz.f278 [0,2] [] [] []
abbrev ALt:=CV [] AHL [.bor]
instance:Sd a' 278 ALt:=Am
attribute [local go_sem] KD in
@[go_sem]def G_83{t0:Int}:Q7 (KD t0) ALt [.i t0] .bool [.any]:=CK AHL trivial
def tt:=Af a' Tryz.f277 [0,1,4,5,6,8,9,10] [] [] [(106,8,4)]
def wO:List (Nat×Ao):=[(278,ALt)]
instance:SdL a' wO:=by unfold wO;infer_instance
abbrev ALs:=CV wO tt [.bor,.bor]
instance:Sd a' 277 ALs:=Am
def mL(j:Int):((List Int)×Int)->St
 |(out,t9)=>⟨[.any,.fn (.func 278) [] [],.any,.own 3200000,.any,.i j,.i t9,.any],[],[(3200000,⟨1,b2 (b4 .i64) out⟩)],b3⟩
def lW(j:Int)(y:(List Int)):FM:=(.exit 0,⟨[.any,.any,.any,.own 3200000,.any,.any,.any,.any],[],[(3200000,⟨1,b2 (b4 .i64) y⟩)],b3⟩)
attribute [local go_sem] Be wO mL lW in
def KV{I:Int}:L7 (Be I) wO tt 0 (mL I) (lW I):=Jd tt trivial
attribute [local go_sem] Bk wO mL lW in
@[go_sem]def G_84:Q7 (Bk n) ALs [.i n,.fn (.func 278) [] []] (fun h=>.fresh 1 (b2 (b4 .i64) h)) [.any,.any]:=CK tt @KV
def AHI:=Af a' Tryz.f281 [0,1,4] [] [] []
abbrev ALr:=CV [(275,AGH)] AHI [.bor,.bor]
instance:Sd a' 281 ALr:=Am
attribute [local go_sem] Oi in
@[go_sem]def G_85:Q7 (Oi a b) ALr [.i a,.i b] .i [.any,.any]:=CK AHI trivial
def AHP:=Af a' Tryz.f257 [0,1,2,4] [] [] []
abbrev ALq:=CV [(281,ALr)] AHP [.bor,.bor]
instance:Sd a' 257 ALq:=Am
attribute [local go_sem] Dm in
@[go_sem]def G_86:Q7 (Dm (AG.mk C j) I) ALq [.agg ([.i C,.i j]),.i I] .i [.any,.any]:=CK AHP trivial
def AHQ:=Af a' Tryz.f256 [0,1,2,4] [(106,16)] [] []
abbrev ALp:=CV [(257,ALq)] AHQ [.bor,.bor,.bor]
instance:Sd a' 256 ALp:=Am
variable{I:List AJ}
attribute [local go_sem] De in
@[go_sem]def G_87:Q7 (De i (AG.mk C j) I) ALp [.i i,.ptr 2 [(.agg ([.i C,.i j]))] 0 0,.ptr 1 [.sl 2 (b2 AQ I)] 0 0] .i [.any,.any,.any]:=CK AHQ trivial
def AHJ:=Af a' Tryz.f280 [0,1,2,5,6,7] [(102,32),(105,32)] [] []
abbrev yV:=CV [(256,ALp)] AHJ [.bor,.bor,.bor]
instance:Sd a' 280 yV:=Am
attribute [local go_sem] BL in
@[go_sem]def AQR:Q7 (BL a b (AG.mk C j) I) yV [.i a,.i b,.ptr 1 [.fn (.func 256) [] [.ptr 2 [(.agg ([.i C,.i j]))] 0 0,.ptr 1 [.sl 2 (b2 AQ I)] 0 0]] 0 0] .i [.any,.any,.any]:=CK AHJ trivial
def ARr{C:AG}{j:List AJ}{I:Int}(h:BL a b C j=b5 I):yV.F [.int .i64 a,.int .i64 b,.ptr 1 [.fn (.func 256) [] [.ptr 2 [Bf C] 0 0,.ptr 1 [.sl 2 (b2 AQ j)] 0 0]] 0 0]=⟨b3,.int .i64 I,[.any,.any,.any]⟩:=(Q8 AQR h:)
def ah:=Af a' Tryz.f295 [0,1,2,3,8,9] [(601,64),(603,64),(604,64),(606,64),(607,64),(611,64)] [(6,[],[[0,1,3,4,5,6,7,8,9,10,11,12,13,14,2,15,16,17],[0,1,3,4,5,6,7,8,9,10,11,12,13,14,15,2,16,17]])] [(31,1,1),(63,31,1)]
def Yh:List (Nat×Ao):=[(280,yV)]
instance:SdL a' Yh:=by unfold Yh;infer_instance
abbrev ALo:=Vi Yh ah [.io,.bor,.bor,.bor]
instance:Sd a' 295 ALo:=Ow
def Wi(a b:Int)(c:AG)(c2:List AJ)(i:Int):((List Int)×Int)->St
 |(data,j)=>⟨[.own 31,.i a,.i b,.fn (.func 280) [] [.ptr 1 [.fn (.func 256) [] [.ptr 2 [Bf c] 0 0,.ptr 1 [.sl 2 (b2 AQ c2)] 0 0]] 0 0],.i i,.i j],[],[(31,⟨1,b2 (b4 .i64) data⟩)],b3⟩
def WU(a b:Int)(c:AG)(c2:List AJ)(i:Int)(y:(List Int)):FM:=(.exit 2,⟨[.own 31,.i a,.i b,.fn (.func 280) [] [.ptr 1 [.fn (.func 256) [] [.ptr 2 [Bf c] 0 0,.ptr 1 [.sl 2 (b2 AQ c2)] 0 0]] 0 0],.i i,.any],[],[(31,⟨1,b2 (b4 .i64) y⟩)],b3⟩)
attribute [local go_sem] Wi WU in
theorem DL{a b:Int}{c:AG}{c2:List AJ}{i:Int}{au:(List Int)×Int}{ax:(List Int)}(h:AE (Bw a b c c2 i) au=b5 ax):∃L0,∀L,L0<=L->Hf Yh L ah 1 (Wi a b c c2 i au)=WU a b c c2 i ax:=by
 have aa:ah=ah:=rfl
 conv at aa=>rhs;cbv
 simp only[aa,Hf,My,JQ,b7,b8];refine OA (E:=Wi a b c c2 i) (R:=WU a b c c2 i) (fun y=>by first|(intro c;cases c)|(rcases y with y|y<;>(intro c;cases c))|(rcases y with y|y|y<;>(intro c;cases c))) ?_ h;clear h;rintro⟨data,j⟩ o_ h;dsimp only[Bw]at h;obtain⟨z2,h⟩:=AY h;rcases Ev z2 with⟨C,z2⟩|C
 .try simp only[go_sem,n1,n2,n3,n4]at C
  all_goals
  have ab:=Kk z2;have ad:=CR (b4 .i64) data ab;try simp only[go_sem]at ab
  try simp only[go_sem]at ad
  try simp only[go_sem,n1,n2,n3,n4,C]at z2
  all_goals
  obtain⟨z3,h⟩:=AY h;rcases Ev z3 with⟨I,z3⟩|I
  .try simp only[go_sem,n1,n2,n3,n4,C,z2]at I
   all_goals
   have ae:=Kk z3;have aj:=CR (b4 .i64) data ae;try simp only[go_sem]at ae
   try simp only[go_sem]at aj
   try simp only[go_sem,n1,n2,n3,n4,C,z2,I]at z3
   all_goals
   obtain⟨z4,h⟩:=AY h;rcases Ev z4 with⟨J,z4⟩|J
   .try simp only[go_sem,n1,n2,n3,n4,C,z2,I,z3]at J
    all_goals
    obtain⟨be,U⟩:=zX z4;have az:=ARr U;try simp only[go_sem,n1,n2,n3,n4,C,z2,I,z3,J]at U
    all_goals
    try simp only[go_sem,C,z2,I,z3,J]at az
    rcases Au h with⟨z5,h⟩|⟨z5,h⟩
    .try simp only[go_sem,n1,n2,n3,n4,C,z2,I,z3,J,U]at z5
     all_goals
     obtain⟨z6,h⟩:=AY h;have ao:=Kk z6;have a7:=CR (b4 .i64) data ao;try simp only[go_sem]at ao
     try simp only[go_sem]at a7
     try simp only[go_sem,n1,n2,n3,n4,C,z2,I,z3,J,U,z5]at z6
     all_goals
     obtain⟨z7,h⟩:=AY h;have ay:=Kk z7;have a6:=CR (b4 .i64) data ay;try simp only[go_sem]at ay
     try simp only[go_sem]at a6
     try simp only[go_sem,n1,n2,n3,n4,C,z2,I,z3,J,U,z5,z6]at z7
     all_goals
     have a1:=(by rw[←bh];exact CR (b4 .i64) (data.set j.toNat (data.getD (i64.wrap (j-1)).toNat b6)) (by first|(rw[b9];exact ao)|(simp;omega)):((b2 (b4 .i64) data).set j.toNat ((b4 .i64) (data.getD (i64.wrap (j-1)).toNat b6))).getD ((i64.wrap (j-1)).toNat) .any=(b4 .i64) ((data.set j.toNat (data.getD (i64.wrap (j-1)).toNat b6)).getD ((i64.wrap (j-1)).toNat) b6));try simp only[go_sem]at a1
     obtain rfl:=AX h;refine⟨0,fun L hL=>?_⟩;simp only[go_sem,aa,Yh,C,z2,ab,ad,I,z3,ae,aj,J,U,az,z5,z6,ao,a7,z7,ay,a6,a1]
    .try simp only[go_sem,n1,n2,n3,n4,C,z2,I,z3,J,U]at z5
     all_goals
     obtain rfl:=AX h;refine⟨0,fun L hL=>?_⟩;simp only[go_sem,aa,Yh,C,z2,ab,ad,I,z3,ae,aj,J,U,az,z5]
   .try simp only[go_sem,n1,n2,n3,n4,C,z2,I,z3]at J
    all_goals
    rcases Au h with⟨z5,h⟩|⟨z5,h⟩
    .try simp only[go_sem,n1,n2,n3,n4,C,z2,I,z3,J]at z5
     all_goals
     (simp_all)
    .try simp only[go_sem,n1,n2,n3,n4,C,z2,I,z3,J]at z5
     all_goals
     obtain rfl:=AX h;refine⟨0,fun L hL=>?_⟩;simp only[go_sem,aa,Yh,C,z2,ab,ad,I,z3,ae,aj,J,z5]
  .try simp only[go_sem,n1,n2,n3,n4,C,z2]at I
   all_goals
   obtain⟨z4,h⟩:=AY h;rcases Au h with⟨z5,h⟩|⟨z5,h⟩
   .try simp only[go_sem,n1,n2,n3,n4,C,z2,I]at z5
    all_goals
    (simp_all)
   .try simp only[go_sem,n1,n2,n3,n4,C,z2,I]at z5
    all_goals
    obtain rfl:=AX h;refine⟨0,fun L hL=>?_⟩;simp only[go_sem,aa,Yh,C,z2,ab,ad,I,z5]
 .try simp only[go_sem,n1,n2,n3,n4]at C
  all_goals
  obtain⟨z3,h⟩:=AY h;obtain⟨z4,h⟩:=AY h;rcases Au h with⟨z5,h⟩|⟨z5,h⟩
  .try simp only[go_sem,n1,n2,n3,n4,C]at z5
   all_goals
   (simp_all)
  .try simp only[go_sem,n1,n2,n3,n4,C]at z5
   all_goals
   obtain rfl:=AX h;refine⟨0,fun L hL=>?_⟩;simp only[go_sem,aa,Yh,C,z5]
def mK(a b:Int)(c:AG)(c2:List AJ):((List Int)×Int)->St
 |(data,i)=>⟨[.own 31,.i a,.i b,.fn (.func 280) [] [.ptr 1 [.fn (.func 256) [] [.ptr 2 [Bf c] 0 0,.ptr 1 [.sl 2 (b2 AQ c2)] 0 0]] 0 0],.i i,.any],[],[(31,⟨1,b2 (b4 .i64) data⟩)],b3⟩
def lV(a b:Int)(c:AG)(c2:List AJ)(y:(List Int)):FM:=(.exit 0,⟨[.own 31,.any,.any,.any,.any,.any],[],[(31,⟨1,b2 (b4 .i64) y⟩)],b3⟩)
attribute [local go_sem] By Yh mK lV Wi WU in
def Fs{a b:Int}{c:AG}{c2:List AJ}:L7 (By a b c c2) Yh ah 0 (mK a b c c2) (lV a b c c2):=Jd ah @DL
variable{data:List Int}
attribute [local go_sem] BF Yh Wi WU mK lV in
@[go_sem]def G_89:Q7 (BF data a b (AG.mk C j) I) ALo [.fresh 1 (b2 (b4 .i64) data),.i a,.i b,.fn (.func 280) [] [.ptr 1 [.fn (.func 256) [] [.ptr 2 [(.agg ([.i C,.i j]))] 0 0,.ptr 1 [.sl 2 (b2 AQ I)] 0 0]] 0 0]] (fun _=>.cv undef) [.fresh 1 (b2 (b4 .i64) (gd (BF data a b (AG.mk C j) I))),.any,.any,.any]:=CK ah (an @DL @Fs)
def oN:=Af a' Tryz.f298 [0,1,2,3,4,10] [(301,64),(302,64),(303,64),(305,64),(306,64),(307,64),(309,64),(310,64),(311,64),(315,64),(316,64),(317,64)] [(3,[],[[0,1,2,3,5,6,7,8,9,10,11,12,13,14,15,16,17,18,19,20,4,21,22,23],[0,1,2,3,5,6,7,8,9,10,11,12,13,14,15,16,17,18,19,20,21,4,22,23]])] [(47,1,1)]
def wN:List (Nat×Ao):=[]
instance:SdL a' wN:=SdL0
abbrev ALn:=Vi wN oN [.io,.bor,.bor,.bor,.bor]
instance:Sd a' 298 ALn:=Ow
def Wh(a b n:Int):((List Int)×Int)->St
 |(data,i)=>⟨[.own 31,.i a,.i b,.i n,.any,.i i],[],[(31,⟨1,b2 (b4 .i64) data⟩)],b3⟩
def WT(a b n:Int)(y:(List Int)):FM:=(.exit 0,⟨[.own 31,.any,.any,.any,.any,.any],[],[(31,⟨1,b2 (b4 .i64) y⟩)],b3⟩)
theorem Gf{a b n:Int}{I:(List Int)×Int}{J:(List Int)}(h:AE (CS a b n) I=b5 J):∃L0,∀L,L0<=L->Hf wN L oN 0 (Wh a b n I)=WT a b n J:=by
 have C:oN=oN:=rfl
 conv at C=>rhs;cbv
 simp only[C,Hf,My,JQ,b7,b8];refine OA (E:=Wh a b n) (R:=WT a b n) (fun y=>by first|(intro c;cases c)|(rcases y with y|y<;>(intro c;cases c))|(rcases y with y|y|y<;>(intro c;cases c))) ?_ h;clear h;rintro⟨data,i⟩ o_ h;dsimp only[CS]at h;rcases Au h with⟨U,h⟩|⟨U,h⟩
 .try simp only[go_sem,n1,n2,n3,n4]at U
  all_goals
  obtain⟨z2,h⟩:=AY h;have j:=Kk z2;have ae:=CR (b4 .i64) data j;try simp only[go_sem]at j
  try simp only[go_sem]at ae
  try simp only[go_sem,n1,n2,n3,n4,U]at z2
  all_goals
  obtain⟨z3,h⟩:=AY h;have aa:=Kk z3;have ad:=CR (b4 .i64) data aa;try simp only[go_sem]at aa
  try simp only[go_sem]at ad
  try simp only[go_sem,n1,n2,n3,n4,U,z2]at z3
  all_goals
  have ab:=(by rw[←bh];exact CR (b4 .i64) (data.set ((i64.wrap (a+i)).toNat) (data.getD (i64.wrap (b+i)).toNat b6)) (by first|(rw[b9];exact j)|(simp;omega)):((b2 (b4 .i64) data).set ((i64.wrap (a+i)).toNat) ((b4 .i64) (data.getD (i64.wrap (b+i)).toNat b6))).getD ((i64.wrap (b+i)).toNat) .any=(b4 .i64) ((data.set ((i64.wrap (a+i)).toNat) (data.getD (i64.wrap (b+i)).toNat b6)).getD ((i64.wrap (b+i)).toNat) b6));try simp only[go_sem]at ab
  obtain rfl:=AX h;refine⟨0,fun L hL=>?_⟩;simp only[go_sem,C,wN,Wh,WT,U,z2,j,ae,z3,aa,ad,ab]
 .try simp only[go_sem,n1,n2,n3,n4]at U
  all_goals
  obtain rfl:=AX h;refine⟨0,fun L hL=>?_⟩;simp only[go_sem,C,wN,Wh,WT,U]
attribute [local go_sem] Ax wN Wh WT in
@[go_sem]def G_90:Q7 (Ax data a b n (AG.mk C j) I) ALn [.fresh 1 (b2 (b4 .i64) data),.i a,.i b,.i n,.fn (.func 280) [] [.ptr 1 [.fn (.func 256) [] [.ptr 2 [(.agg ([.i C,.i j]))] 0 0,.ptr 1 [.sl 2 (b2 AQ I)] 0 0]] 0 0]] (fun _=>.cv undef) [.fresh 1 (b2 (b4 .i64) (gd (Ax data a b n (AG.mk C j) I))),.any,.any,.any,.any]:=CK oN @Gf
def tr:=Af a' Tryz.f297 [0,1,2,3,4,10,11] [] [] [(117,53,1)]
def wM:List (Nat×Ao):=[(298,ALn)]
instance:SdL a' wM:=by unfold wM;infer_instance
abbrev AGG:=Vi wM tr [.io,.bor,.bor,.bor,.bor]
instance:Sd a' 297 AGG:=Ow
def mJ(m:Int)(c:AG)(c2:List AJ):((List Int)×Int×Int)->St
 |(data,i,j)=>⟨[.own 31,.any,.i m,.any,.fn (.func 280) [] [.ptr 1 [.fn (.func 256) [] [.ptr 2 [Bf c] 0 0,.ptr 1 [.sl 2 (b2 AQ c2)] 0 0]] 0 0],.i i,.i j],[],[(31,⟨1,b2 (b4 .i64) data⟩)],b3⟩
def lU(m:Int)(c:AG)(c2:List AJ)(y:(List Int)×Int):FM:=(.exit 0,⟨[.own 31,.any,.i m,.any,.fn (.func 280) [] [.ptr 1 [.fn (.func 256) [] [.ptr 2 [Bf c] 0 0,.ptr 1 [.sl 2 (b2 AQ c2)] 0 0]] 0 0],.i y.2,.any],[],[(31,⟨1,b2 (b4 .i64) y.1⟩)],b3⟩)
attribute [local go_sem] Cp wM mJ lU in
def IB{m:Int}{c:AG}{c2:List AJ}:L7 (Cp m c c2) wM tr 0 (mJ m c c2) (lU m c c2):=Jd tr trivial
variable{m:Int}
attribute [local go_sem] Bd wM mJ lU in
@[go_sem]def G_91:Q7 (Bd data a m b (AG.mk C j) I) AGG [.fresh 1 (b2 (b4 .i64) data),.i a,.i m,.i b,.fn (.func 280) [] [.ptr 1 [.fn (.func 256) [] [.ptr 2 [(.agg ([.i C,.i j]))] 0 0,.ptr 1 [.sl 2 (b2 AQ I)] 0 0]] 0 0]] (fun _=>.cv undef) [.fresh 1 (b2 (b4 .i64) (gd (Bd data a m b (AG.mk C j) I))),.any,.any,.any,.any]:=CK tr @IB
def NZ:=Af a' Tryz.f296 [0,1,2,3,4,10,11,12,13,14,15,16,17,18,19,20,21,22,23,24] [(509,32),(1101,64),(1103,64),(1104,64),(1106,64),(1107,64),(1111,64),(1709,32),(2301,64),(2303,64),(2304,64),(2306,64),(2307,64),(2311,64),(3511,32)] [(11,[],[[0,1,3,4,5,6,7,8,9,10,11,12,13,14,2,15,16,17],[0,1,3,4,5,6,7,8,9,10,11,12,13,14,15,2,16,17]]),(23,[],[[0,1,3,4,5,6,7,8,9,10,11,12,13,14,2,15,16,17],[0,1,3,4,5,6,7,8,9,10,11,12,13,14,15,2,16,17]])] [(115,35,1),(289,1,1),(1557,517,1),(4609,1,1),(253983,57375,1)]
def Ae:Nat->Ao
 |0=>AMo [.io,.bor,.bor,.bor,.bor]
 |j+1=>Vi [(280,yV),(297,AGG),(296,(Ae j))] NZ [.io,.bor,.bor,.bor,.bor]
def EG(j:Nat):(Ae j).modes=[.io,.bor,.bor,.bor,.bor]:=by cases j<;>rfl
def Dw(j:Nat):(Ae j).flat=false:=by cases j<;>rfl
attribute [go_sem] EG Dw
def Qb (j:Nat):List (Nat×Ao):=[(280,yV),(297,AGG),(296,(Ae j))]
theorem ID(j:Nat):Ae (j+1)=Vi (Qb j) NZ [.io,.bor,.bor,.bor,.bor]:=rfl
theorem EF:∀j:Nat,Sd a' 296 (Ae j)
 |0=>⟨sN⟩
 | j+1=>by
  haveI:=EF j
  haveI:SdL a' (Qb j):=by unfold Qb;infer_instance
  exact Ow (l:=Qb j)
def ACB:Ao:=Ae 64
instance:Sd a' 296 ACB:=EF 64
def M_92:ACB.modes=[.io,.bor,.bor,.bor,.bor]:=EG 64
def ASI:ACB.flat=false:=Dw 64
attribute [go_sem] M_92 ASI
def Wg(data:List Int)(a:Int)(c:AG)(c2:List AJ):(Int×Int)->St
 |(i,j)=>⟨[.own 31,.i a,.any,.any,.fn (.func 280) [] [.ptr 1 [.fn (.func 256) [] [.ptr 2 [Bf c] 0 0,.ptr 1 [.sl 2 (b2 AQ c2)] 0 0]] 0 0],.i i,.i j,.any,.any,.any,.any,.any,.any,.any,.any,.any,.any,.any,.any,.any],[],[(31,⟨1,b2 (b4 .i64) data⟩)],b3⟩
def WS(data:List Int)(a:Int)(c:AG)(c2:List AJ)(y:Int):FM:=(.exit 0,⟨[.own 31,.i a,.any,.any,.any,.i y,.any,.any,.any,.any,.any,.any,.any,.any,.any,.any,.any,.any,.any,.any],[],[(31,⟨1,b2 (b4 .i64) data⟩)],b3⟩)
attribute [local go_sem] Cb Qb Wg WS in
def Hd(I:Nat){data:List Int}{a:Int}{c:AG}{c2:List AJ}{j:Int×Int}{C:Int}(h:AE (Cb data a c c2) j=b5 C):∃J,∀L,J<=L->Hf (Qb I) L NZ 0 (Wg data a c c2 j)=WS data a c c2 C:=Jd NZ trivial
def Wf(i:Int):((List Int)×Int)->St
 |(data,k)=>⟨[.own 31,.any,.any,.any,.any,.i i,.any,.any,.i k,.any,.any,.any,.any,.any,.any,.any,.any,.any,.any,.any],[],[(31,⟨1,b2 (b4 .i64) data⟩)],b3⟩
def WR(i:Int)(y:(List Int)):FM:=(.exit 2,⟨[.own 31,.any,.any,.any,.any,.any,.any,.any,.any,.any,.any,.any,.any,.any,.any,.any,.any,.any,.any,.any],[],[(31,⟨1,b2 (b4 .i64) y⟩)],b3⟩)
attribute [local go_sem] Wf WR Wg WS in
theorem Hc(n_:Nat){i:Int}{ad:(List Int)×Int}{ae:(List Int)}(h:AE (Ca i) ad=b5 ae):∃L0,∀L,L0<=L->Hf (Qb n_) L NZ 1 (Wf i ad)=WR i ae:=by
 have J:NZ=NZ:=rfl
 conv at J=>rhs;cbv
 simp only[J,Hf,My,JQ,b7,b8];refine OA (E:=Wf i) (R:=WR i) (fun y=>by first|(intro c;cases c)|(rcases y with y|y<;>(intro c;cases c))|(rcases y with y|y|y<;>(intro c;cases c))) ?_ h;clear h;rintro⟨data,k⟩ o_ h;dsimp only[Ca]at h;rcases Au h with⟨z9,h⟩|⟨z9,h⟩
 .try simp only[go_sem,n1,n2,n3,n4]at z9
  all_goals
  obtain⟨I,h⟩:=AY h;have j:=Kk I;have ab:=CR (b4 .i64) data j;try simp only[go_sem]at j
  try simp only[go_sem]at ab
  try simp only[go_sem,n1,n2,n3,n4,z9]at I
  all_goals
  obtain⟨aj,h⟩:=AY h;have C:=Kk aj;have aa:=CR (b4 .i64) data C;try simp only[go_sem]at C
  try simp only[go_sem]at aa
  try simp only[go_sem,n1,n2,n3,n4,z9,I]at aj
  all_goals
  have U:=(by rw[←bh];exact CR (b4 .i64) (data.set k.toNat (data.getD (i64.wrap (k+1)).toNat b6)) (by first|(rw[b9];exact j)|(simp;omega)):((b2 (b4 .i64) data).set k.toNat ((b4 .i64) (data.getD (i64.wrap (k+1)).toNat b6))).getD ((i64.wrap (k+1)).toNat) .any=(b4 .i64) ((data.set k.toNat (data.getD (i64.wrap (k+1)).toNat b6)).getD ((i64.wrap (k+1)).toNat) b6));try simp only[go_sem]at U
  obtain rfl:=AX h;refine⟨0,fun L hL=>?_⟩;simp only[go_sem,J,Qb,z9,I,j,ab,aj,C,aa,U]
 .try simp only[go_sem,n1,n2,n3,n4]at z9
  all_goals
  obtain rfl:=AX h;refine⟨0,fun L hL=>?_⟩;simp only[go_sem,J,Qb,z9]
def ZZ(data:List Int)(m:Int)(c:AG)(c2:List AJ):(Int×Int)->St
 |(i,j)=>⟨[.own 31,.any,.i m,.any,.fn (.func 280) [] [.ptr 1 [.fn (.func 256) [] [.ptr 2 [Bf c] 0 0,.ptr 1 [.sl 2 (b2 AQ c2)] 0 0]] 0 0],.any,.any,.any,.any,.i i,.i j,.any,.any,.any,.any,.any,.any,.any,.any,.any],[],[(31,⟨1,b2 (b4 .i64) data⟩)],b3⟩
def ZT(data:List Int)(m:Int)(c:AG)(c2:List AJ)(y:Int):FM:=(.exit 4,⟨[.own 31,.any,.i m,.any,.any,.any,.any,.any,.any,.i y,.any,.any,.any,.any,.any,.any,.any,.any,.any,.any],[],[(31,⟨1,b2 (b4 .i64) data⟩)],b3⟩)
attribute [local go_sem] CZ Qb ZZ ZT in
def Hb(I:Nat){data:List Int}{m:Int}{c:AG}{c2:List AJ}{j:Int×Int}{C:Int}(h:AE (CZ data m c c2) j=b5 C):∃J,∀L,J<=L->Hf (Qb I) L NZ 2 (ZZ data m c c2 j)=ZT data m c c2 C:=Jd NZ trivial
def ZY(i:Int):((List Int)×Int)->St
 |(data,k)=>⟨[.own 31,.any,.any,.any,.any,.any,.any,.any,.any,.i i,.any,.any,.i k,.any,.any,.any,.any,.any,.any,.any],[],[(31,⟨1,b2 (b4 .i64) data⟩)],b3⟩
def ZS(i:Int)(y:(List Int)):FM:=(.exit 6,⟨[.own 31,.any,.any,.any,.any,.any,.any,.any,.any,.any,.any,.any,.any,.any,.any,.any,.any,.any,.any,.any],[],[(31,⟨1,b2 (b4 .i64) y⟩)],b3⟩)
attribute [local go_sem] ZY ZS Wg WS Wf WR ZZ ZT in
theorem Ha(n_:Nat){i:Int}{ab:(List Int)×Int}{ad:(List Int)}(h:AE (CY i) ab=b5 ad):∃L0,∀L,L0<=L->Hf (Qb n_) L NZ 3 (ZY i ab)=ZS i ad:=by
 have I:NZ=NZ:=rfl
 conv at I=>rhs;cbv
 simp only[I,Hf,My,JQ,b7,b8];refine OA (E:=ZY i) (R:=ZS i) (fun y=>by first|(intro c;cases c)|(rcases y with y|y<;>(intro c;cases c))|(rcases y with y|y|y<;>(intro c;cases c))) ?_ h;clear h;rintro⟨data,k⟩ o_ h;dsimp only[CY]at h;rcases Au h with⟨z23,h⟩|⟨z23,h⟩
 .try simp only[go_sem,n1,n2,n3,n4]at z23
  all_goals
  obtain⟨z24,h⟩:=AY h;have j:=Kk z24;have aa:=CR (b4 .i64) data j;try simp only[go_sem]at j
  try simp only[go_sem]at aa
  try simp only[go_sem,n1,n2,n3,n4,z23]at z24
  all_goals
  obtain⟨z25,h⟩:=AY h;have C:=Kk z25;have U:=CR (b4 .i64) data C;try simp only[go_sem]at C
  try simp only[go_sem]at U
  try simp only[go_sem,n1,n2,n3,n4,z23,z24]at z25
  all_goals
  have J:=(by rw[←bh];exact CR (b4 .i64) (data.set k.toNat (data.getD (i64.wrap (k-1)).toNat b6)) (by first|(rw[b9];exact j)|(simp;omega)):((b2 (b4 .i64) data).set k.toNat ((b4 .i64) (data.getD (i64.wrap (k-1)).toNat b6))).getD ((i64.wrap (k-1)).toNat) .any=(b4 .i64) ((data.set k.toNat (data.getD (i64.wrap (k-1)).toNat b6)).getD ((i64.wrap (k-1)).toNat) b6));try simp only[go_sem]at J
  obtain rfl:=AX h;refine⟨0,fun L hL=>?_⟩;simp only[go_sem,I,Qb,z23,z24,j,aa,z25,C,U,J]
 .try simp only[go_sem,n1,n2,n3,n4]at z23
  all_goals
  obtain rfl:=AX h;refine⟨0,fun L hL=>?_⟩;simp only[go_sem,I,Qb,z23]
def mI(data:List Int)(a m b:Int)(c:AG)(c2:List AJ)(j n p:Int):(Int×Int)->St
 |(start,r)=>⟨[.own 31,.i a,.i m,.i b,.fn (.func 280) [] [.ptr 1 [.fn (.func 256) [] [.ptr 2 [Bf c] 0 0,.ptr 1 [.sl 2 (b2 AQ c2)] 0 0]] 0 0],.any,.any,.any,.any,.any,.any,.any,.any,.i j,.i n,.i start,.i r,.i p,.any,.any],[],[(31,⟨1,b2 (b4 .i64) data⟩)],b3⟩
def lT(data:List Int)(a m b:Int)(c:AG)(c2:List AJ)(j n p y:Int):FM:=(.exit 8,⟨[.own 31,.i a,.i m,.i b,.fn (.func 280) [] [.ptr 1 [.fn (.func 256) [] [.ptr 2 [Bf c] 0 0,.ptr 1 [.sl 2 (b2 AQ c2)] 0 0]] 0 0],.any,.any,.any,.any,.any,.any,.any,.any,.i j,.i n,.i y,.any,.any,.any,.any],[],[(31,⟨1,b2 (b4 .i64) data⟩)],b3⟩)
attribute [local go_sem] CX Qb mI lT in
def Gz(J:Nat){data:List Int}{a m b:Int}{c:AG}{c2:List AJ}{I n p:Int}{j:Int×Int}{C:Int}(h:AE (CX data a m b c c2 I n p) j=b5 C):∃R,∀L,R<=L->Hf (Qb J) L NZ 4 (mI data a m b c c2 I n p j)=lT data a m b c c2 I n p C:=Jd NZ trivial
def mH(data:List Int)(a m b:Int)(c:AG)(c2:List AJ)(j n p:Int):(Int×Int)->St
 |(start,r)=>⟨[.own 31,.i a,.i m,.i b,.fn (.func 280) [] [.ptr 1 [.fn (.func 256) [] [.ptr 2 [Bf c] 0 0,.ptr 1 [.sl 2 (b2 AQ c2)] 0 0]] 0 0],.any,.any,.any,.any,.any,.any,.any,.any,.i j,.i n,.i start,.i r,.i p,.any,.any],[],[(31,⟨1,b2 (b4 .i64) data⟩)],b3⟩
def lS(data:List Int)(a m b:Int)(c:AG)(c2:List AJ)(j n p y:Int):FM:=(.exit 8,⟨[.own 31,.i a,.i m,.i b,.fn (.func 280) [] [.ptr 1 [.fn (.func 256) [] [.ptr 2 [Bf c] 0 0,.ptr 1 [.sl 2 (b2 AQ c2)] 0 0]] 0 0],.any,.any,.any,.any,.any,.any,.any,.any,.i j,.i n,.i y,.any,.any,.any,.any],[],[(31,⟨1,b2 (b4 .i64) data⟩)],b3⟩)
attribute [local go_sem] CW Qb mH lS in
def Gy(J:Nat){data:List Int}{a m b:Int}{c:AG}{c2:List AJ}{I n p:Int}{j:Int×Int}{C:Int}(h:AE (CW data a m b c c2 I n p) j=b5 C):∃R,∀L,R<=L->Hf (Qb J) L NZ 4 (mH data a m b c c2 I n p j)=lS data a m b c c2 I n p C:=Jd NZ trivial
attribute [local go_sem] AH Qb Wg WS Wf WR ZZ ZT ZY ZS mI lT mH lS in
def IK:∀(J:Nat) {data:List Int} {a:Int} {m:Int} {b:Int} {C:Int} {j:Int} {I:List AJ} (h:(AH J data a m b (AG.mk C j) I).isSome=b3),(Ae J).F [.fresh 1 (b2 (b4 .i64) data),.int .i64 a,.int .i64 m,.int .i64 b,.fn (.func 280) [] [.ptr 1 [.fn (.func 256) [] [.ptr 2 [(.agg ([.int .i64 C,.int .i64 j]))] 0 0,.ptr 1 [.sl 2 (b2 AQ I)] 0 0]] 0 0]]=⟨b3,.cv undef,[.fresh 1 (b2 (b4 .i64) (gd (AH J data a m b (AG.mk C j) I))),.any,.any,.any,.any]⟩:=by
 intro J
 induction J with
 |zero=>intro data a m b C j I h;cases h
 | succ J R=>
  intro data a m b C j I h;rw[ID];exact CK NZ (an (@Hd J) (an (@Hc J) (an (@Hb J) (an (@Ha J) (an (@Gz J) (@Gy J))))))
@[go_sem]def G_92(h:(BW data a m b (AG.mk C j) I).isSome=b3):ACB.F [.fresh 1 (b2 (b4 .i64) data),.int .i64 a,.int .i64 m,.int .i64 b,.fn (.func 280) [] [.ptr 1 [.fn (.func 256) [] [.ptr 2 [(.agg ([.int .i64 C,.int .i64 j]))] 0 0,.ptr 1 [.sl 2 (b2 AQ I)] 0 0]] 0 0]]=⟨b3,.cv undef,[.fresh 1 (b2 (b4 .i64) (gd (BW data a m b (AG.mk C j) I))),.any,.any,.any,.any]⟩:=IK 64 h
def YM:=Af a' Tryz.f291 [0,1,2,6,7,8,9] [] [] [(63,31,1),(15,1,1),(63,31,1)]
def fO:List (Nat×Ao):=[(295,ALo),(296,ACB)]
instance:SdL a' fO:=by unfold fO;infer_instance
abbrev ALm:=Vi fO YM [.io,.bor,.bor]
instance:Sd a' 291 ALm:=Ow
def We(n:Int)(c:AG)(c2:List AJ)(j:Int):((List Int)×Int×Int)->St
 |(data,a,b)=>⟨[.own 31,.i n,.fn (.func 280) [] [.ptr 1 [.fn (.func 256) [] [.ptr 2 [Bf c] 0 0,.ptr 1 [.sl 2 (b2 AQ c2)] 0 0]] 0 0],.i j,.i a,.i b,.any],[],[(31,⟨1,b2 (b4 .i64) data⟩)],b3⟩
def WQ(n:Int)(c:AG)(c2:List AJ)(j:Int)(y:(List Int)×Int):FM:=(.exit 0,⟨[.own 31,.i n,.fn (.func 280) [] [.ptr 1 [.fn (.func 256) [] [.ptr 2 [Bf c] 0 0,.ptr 1 [.sl 2 (b2 AQ c2)] 0 0]] 0 0],.i j,.i y.2,.any,.any],[],[(31,⟨1,b2 (b4 .i64) y.1⟩)],b3⟩)
attribute [local go_sem] Co fO We WQ in
def IA{n:Int}{c:AG}{c2:List AJ}{j:Int}:L7 (Co n c c2 j) fO YM 0 (We n c c2 j) (WQ n c c2 j):=Jd YM trivial
def ZX(n:Int)(c:AG)(c2:List AJ)(j:Int):((List Int)×Int×Int)->St
 |(data,a,b)=>⟨[.own 31,.i n,.fn (.func 280) [] [.ptr 1 [.fn (.func 256) [] [.ptr 2 [Bf c] 0 0,.ptr 1 [.sl 2 (b2 AQ c2)] 0 0]] 0 0],.i j,.i a,.i b,.any],[],[(31,⟨1,b2 (b4 .i64) data⟩)],b3⟩
def ZR(n:Int)(c:AG)(c2:List AJ)(j:Int)(y:(List Int)×Int):FM:=(.exit 4,⟨[.own 31,.i n,.fn (.func 280) [] [.ptr 1 [.fn (.func 256) [] [.ptr 2 [Bf c] 0 0,.ptr 1 [.sl 2 (b2 AQ c2)] 0 0]] 0 0],.i j,.i y.2,.any,.any],[],[(31,⟨1,b2 (b4 .i64) y.1⟩)],b3⟩)
attribute [local go_sem] BR fO ZX ZR We WQ in
def Dv{n:Int}{c:AG}{c2:List AJ}{j:Int}:L7 (BR n c c2 j) fO YM 2 (ZX n c c2 j) (ZR n c c2 j):=Jd YM trivial
def mG(n:Int)(c:AG)(c2:List AJ):((List Int)×Int)->St
 |(data,j)=>⟨[.own 31,.i n,.fn (.func 280) [] [.ptr 1 [.fn (.func 256) [] [.ptr 2 [Bf c] 0 0,.ptr 1 [.sl 2 (b2 AQ c2)] 0 0]] 0 0],.i j,.any,.any,.any],[],[(31,⟨1,b2 (b4 .i64) data⟩)],b3⟩
def lR(n:Int)(c:AG)(c2:List AJ)(y:(List Int)):FM:=(.exit 2,⟨[.own 31,.any,.any,.any,.any,.any,.any],[],[(31,⟨1,b2 (b4 .i64) y⟩)],b3⟩)
attribute [local go_sem] BS fO mG lR We WQ ZX ZR in
def Hz{n:Int}{c:AG}{c2:List AJ}:L7 (BS n c c2) fO YM 1 (mG n c c2) (lR n c c2):=Jd YM @Dv
attribute [local go_sem] BI fO We WQ ZX ZR mG lR in
@[go_sem]def G_93:Q7 (BI data n (AG.mk C j) I) ALm [.fresh 1 (b2 (b4 .i64) data),.i n,.fn (.func 280) [] [.ptr 1 [.fn (.func 256) [] [.ptr 2 [(.agg ([.i C,.i j]))] 0 0,.ptr 1 [.sl 2 (b2 AQ I)] 0 0]] 0 0]] (fun _=>.cv undef) [.fresh 1 (b2 (b4 .i64) (gd (BI data n (AG.mk C j) I))),.any,.any]:=CK YM (an @IA (an @Dv @Hz))
def AHK:=Af a' Tryz.f279 [0,1] [] [] []
abbrev ALl:=Vi [(291,ALm)] AHK [.io,.bor]
instance:Sd a' 279 ALl:=Ow
attribute [local go_sem] BG in
@[go_sem]def G_94{x:List Int}:Q7 (BG x (AG.mk C j) I) ALl [.fresh 1 (b2 (b4 .i64) x),.fn (.func 280) [] [.ptr 1 [.fn (.func 256) [] [.ptr 2 [(.agg ([.i C,.i j]))] 0 0,.ptr 1 [.sl 2 (b2 AQ I)] 0 0]] 0 0]] (fun _=>.cv undef) [.fresh 1 (b2 (b4 .i64) (gd (BG x (AG.mk C j) I))),.any]:=CK AHK trivial
def AHR:=Af a' Tryz.f255 [0,1,3,4,5] [] [] []
abbrev ALk:=CV [(277,ALs),(279,ALl)] AHR [.bor,.bor]
instance:Sd a' 255 ALk:=Am
attribute [local go_sem] Cu in
@[go_sem]def G_95:Q7 (Cu n (AG.mk C j) I) ALk [.i n,.fn (.func 256) [] [.ptr 2 [(.agg ([.i C,.i j]))] 0 0,.ptr 1 [.sl 2 (b2 AQ I)] 0 0]] (fun h=>.fresh 1 (b2 (b4 .i64) h)) [.any,.any]:=CK AHR trivial
def AHd:=Af a' Tryz.f227 [0,1,2,3,4] [] [] []
abbrev AGF:=CV [(255,ALk)] AHd [.bor,.bor]
instance:Sd a' 227 AGF:=Am
attribute [local go_sem] Hr in
@[go_sem]def G_96:Q7 (Hr (AG.mk C j) I) AGF [.agg ([.i C,.i j]),.sl 2 (b2 AQ I)] (fun h=>.fresh 1 (b2 (b4 .i64) h)) [.any,.any]:=CK AHd trivial
def tu:=Af a' Tryz.f276 [0,1,4,5,6,7,8,9,14,15,16,17] [(712,16)] [] [(1817,16,4)]
def wL:List (Nat×Ao):=[(227,AGF),(173,yY)]
instance:SdL a' wL:=by unfold wL;infer_instance
abbrev ALj:=CV wL tu [.bor,.bor]
instance:Sd a' 276 ALj:=Am
def mF(C:List AJ)(j:List Int)(I:Int):(Int×Int)->St
 |(length,t16)=>⟨[.sl 2 (b2 AQ C),.any,.any,.own 3200000,.i length,.any,.any,.any,.own 3200000,.i I,.i t16,.any],[],[(3200000,⟨1,b2 (b4 .i64) j⟩)],b3⟩
def lQ(C:List AJ)(j:List Int)(I y:Int):FM:=(.exit 0,⟨[.any,.any,.any,.any,.i y,.any,.any,.any,.any,.any,.any,.any],[],[],b3⟩)
attribute [local go_sem] CC wL mF lQ in
def QF{C:List AJ}{j:List Int}{R:Int}:L7 (CC C j R) wL tu 0 (mF C j R) (lQ C j R):=Jd tu trivial
variable{C:List AJ}
attribute [local go_sem] Dd wL mF lQ in
@[go_sem]def G_97:Q7 (Dd C j) ALj [.sl 2 (b2 AQ C),.i j] .i [.any,.any]:=CK tu @QF
def tw:=Af a' Tryz.f253 [0,1,4,5,7,9,10,11,12] [] [] [(233,8,4)]
def wK:List (Nat×Ao):=[(276,ALj)]
instance:SdL a' wK:=by unfold wK;infer_instance
abbrev ALi:=CV wK tw [.bor,.bor]
instance:Sd a' 253 ALi:=Am
def mE(j:List AJ)(t9:List Int)(t10:Int):((List Int)×Int)->St
 |(out,t11)=>⟨[.sl 2 (b2 AQ j),.any,.any,.own 3200000,.any,.sl 1 (b2 (b4 .i64) t9),.i t10,.i t11,.any],[],[(3200000,⟨1,b2 (b4 .i64) out⟩)],b3⟩
def lP(j:List AJ)(t9:List Int)(t10:Int)(y:(List Int)):FM:=(.exit 0,⟨[.any,.any,.any,.own 3200000,.any,.any,.any,.any,.any],[],[(3200000,⟨1,b2 (b4 .i64) y⟩)],b3⟩)
attribute [local go_sem] EP wK mE lP in
def Pg{j:List AJ}{t9:List Int}{t10:Int}:L7 (EP j t9 t10) wK tw 0 (mE j t9 t10) (lP j t9 t10):=Jd tw trivial
attribute [local go_sem] FU wK mE lP in
@[go_sem]def G_98{j:List Int}:Q7 (FU C j) ALi [.sl 2 (b2 AQ C),.sl 1 (b2 (b4 .i64) j)] (fun h=>.fresh 1 (b2 (b4 .i64) h)) [.any,.any]:=CK tw @Pg
def AEP:Cd a' 222 PU:=ABH
instance:Sd a' 222 PU:=⟨AEP⟩
variable{a:List Int}
@[go_sem]def yl:=cr (fun y=>@ADn a y)
def tv:=Af a' Tryz.f254 [0,1,4,5,7,8,9] [] [] [(51,0,4)]
def tG:List (Nat×Ao):=[]
instance:SdL a' tG:=SdL0
abbrev ADG:=CV tG tv [.bor,.bor]
instance:Sd a' 254 ADG:=Am
def fF(s_:List Int)(v j:Int):Int->St
 |t8=>⟨[.sl 1 (b2 (b4 .i64) s_),.i v,.any,.any,.i j,.i t8,.any],[],[],b3⟩
def dY(s_:List Int)(v j:Int):(Unit⊕Int)->FM
 |.inl y=>(.exit 0,⟨[.any,.any,.any,.any,.any,.any,.any],[],[],b3⟩)
 |.inr y=>(.ret,⟨[.any,.any,.i y,.any,.any,.any,.any],[],[],b3⟩)
attribute [local go_sem] Cr fF dY in
def Mx{s_:List Int}{v I:Int}:L7 (Cr s_ v I) tG tv 0 (fF s_ v I) (dY s_ v I):=Jd tv trivial
attribute [local go_sem] DU tG fF dY in
@[go_sem]def ARq{s_:List Int}{v:Int}:Q7 (DU s_ v) ADG [.sl 1 (b2 (b4 .i64) s_),.i v] .i [.any,.any]:=CK tv @Mx
def AHf:=Af a' Tryz.f224 [0,1,4,5] [] [] []
abbrev ADF:=CV [(253,ALi),(222,PU),(254,ADG)] AHf [.bor,.bor]
instance:Sd a' 224 ADF:=Am
attribute [local go_sem] Lc in
@[go_sem]def ARp{j:List Int}:Q7 (Lc C j) ADF [.sl 2 (b2 AQ C),.sl 1 (b2 (b4 .i64) j)] .i [.any,.any]:=CK AHf trivial
def AII:=Af a' Tryz.f165 [0,1,3,4,5,6] [] [] []
abbrev ADE:=CV [(223,ALv),(225,ALu),(224,ADF)] AII [.bor,.bor]
instance:Sd a' 165 ADE:=Am
variable{C:Int}
attribute [local go_sem] GS in
@[go_sem]def ARo{J:Int}:Q7 (GS I (CI.mk C J j)) ADE [.sl 2 (b2 AQ I),.agg ([.i C,.i J,.i j])] (fun h=>.tup [.i (h.1),.i (h.2)]) [.any,.any]:=CK AII trivial
def uA:=Af a' Tryz.f220 [0,2,3,5,7,8,9,10] [] [] [(116,4,2)]
def tF:List (Nat×Ao):=[]
instance:SdL a' tF:=SdL0
abbrev ADD:=CV tF uA [.bor]
instance:Sd a' 220 ADD:=Am
def fE(C:List AJ)(j:Int):((List Int)×Int)->St
 |(out,t9)=>⟨[.any,.any,.own 3200000,.any,.sl 2 (b2 AQ C),.i j,.i t9,.any],[],[(3200000,⟨1,b2 (b4 .i64) out⟩)],b3⟩
def dX(C:List AJ)(j:Int)(y:(List Int)):FM:=(.exit 0,⟨[.any,.any,.own 3200000,.any,.any,.any,.any,.any],[],[(3200000,⟨1,b2 (b4 .i64) y⟩)],b3⟩)
attribute [local go_sem] JT fE dX in
def Vw{J:List AJ}{I:Int}:L7 (JT J I) tF uA 0 (fE J I) (dX J I):=Jd uA trivial
attribute [local go_sem] ME tF fE dX in
@[go_sem]def ARn{j:List AJ}:Q7 (ME j) ADD [.sl 2 (b2 AQ j)] (fun h=>.fresh 1 (b2 (b4 .i64) h)) [.any]:=CK uA @Vw
def AEQ:Cd a' 221 RK:=ABI
instance:Sd a' 221 RK:=⟨AEQ⟩
@[go_sem]def ym:=cr (fun y=>@ADo a y)
def AIJ:=Af a' Tryz.f164 [0,2,3,4] [] [] []
abbrev ADC:=CV [(219,ACC),(220,ADD),(221,RK),(222,PU)] AIJ [.bor]
instance:Sd a' 164 ADC:=Am
attribute [local go_sem] FZ in
@[go_sem]def ARm{j:List AJ}:Q7 (FZ j) ADC [.sl 2 (b2 AQ j)] (fun h=>.tup [.i (h.1),.i (h.2)]) [.any]:=CK AIJ trivial
def AHe:=Af a' Tryz.f226 [0,1,2] [] [] []
abbrev ADB:=CV [(182,yX),(154,fo)] AHe [.bor]
instance:Sd a' 226 ADB:=Am
attribute [local go_sem] Ga in
@[go_sem]def ARl:Q7 (Ga (AG.mk C j)) ADB [.agg ([.i C,.i j])] .bool [.any]:=CK AHe trivial
def AIH:=Af a' Tryz.f166 [0,1,2,4,5] [] [] []
abbrev ADA:=CV [(226,ADB),(219,ACC),(227,AGF)] AIH [.bor,.bor]
instance:Sd a' 166 ADA:=Am
attribute [local go_sem] Hs in
@[go_sem]def ARk:Q7 (Hs (AG.mk C j) I) ADA [.agg ([.i C,.i j]),.sl 2 (b2 AQ I)] (fun h=>.tup [.fresh 1 (b2 (b4 .i64) (h.1)),.i (h.2)]) [.any,.any]:=CK AIH trivial
def AER:Cd a' 170 Lj:=ABJ
instance:Sd a' 170 Lj:=⟨AER⟩
@[go_sem]def yn{a:List L8}{b:L8}:=cr (fun y=>@di a b y)
def uM:=Af a' Tryz.f167 [0,2,3,5,7,8,9,10] [] [] [(116,4,2)]
def gz:List (Nat×Ao):=[(110,Un),(170,Lj)]
instance:SdL a' gz:=by unfold gz;infer_instance
abbrev ACz:=CV gz uM [.bor]
instance:Sd a' 167 ACz:=Am
def fD(C:List Int)(j:Int):((List L8)×Int)->St
 |(words,t9)=>⟨[.any,.any,.own 3200000,.any,.sl 1 (b2 (b4 .i64) C),.i j,.i t9,.any],[],[(3200000,⟨1,b2 bb words⟩)],b3⟩
def dW(C:List Int)(j:Int)(y:(List L8)):FM:=(.exit 0,⟨[.any,.any,.own 3200000,.any,.any,.any,.any,.any],[],[(3200000,⟨1,b2 bb y⟩)],b3⟩)
attribute [local go_sem] Hq gz fD dW in
def Vx{J:List Int}{I:Int}:L7 (Hq J I) gz uM 0 (fD J I) (dW J I):=Jd uM trivial
variable{j:List L8}
attribute [local go_sem] MG gz fD dW in
@[go_sem]def ARj{j:List Int}:Q7 (MG j) ACz [.sl 1 (b2 (b4 .i64) j)] .str [.any]:=CK uM (an @Vx @di)
def AIC:=Af a' Tryz.f176 [0,2] [] [] []
abbrev ACy:=CV [] AIC [.bor]
instance:Sd a' 176 ACy:=Am
attribute [local go_sem] Iq in
@[go_sem]def ARi:Q7 (Iq j) ACy [.sl 1 (b2 bb j)] .i [.any]:=CK AIC trivial
def AIo:=Af a' Tryz.f113 [0,2] [] [] []
abbrev vf:=CV [(176,ACy),(110,Un)] AIo [.mov]
instance:Sd a' 113 vf:=Am
attribute [local go_sem] Gs in
@[go_sem]def ARh:Q7 (Gs j) vf [.fresh 1 (b2 bb j)] (fun h=>.fresh 1 (b2 bb h)) [.any]:=CK AIo trivial
def uX:=Af a' Tryz.f105 [0,1,3,4,5,6,7,8,9,10,11,12,13,14,15,17,38,100,101,102,103] [(1010,32),(2103,16),(2107,16),(2109,32)] [] [(933888,16384,24)]
def gy:List (Nat×Ao):=[(163,ALx),(164,ADC),(110,Un),(107,sA),(165,ADE),(166,ADA),(167,ACz),(155,ACK),(113,vf)]
instance:SdL a' gy:=by unfold gy;infer_instance
abbrev ACx:=CV gy uX [.bor,.bor]
instance:Sd a' 105 ACx:=Am
def fC(C:List AJ)(j:Int):((List L8)×Int)->St
 |(lines,t102)=>⟨[.any,.any,.any,.any,.any,.any,.any,.any,.any,.any,.any,.any,.any,.any,.own 3200000,.any,.any,.own 3200032,.i j,.i t102,.any],[],[(3200000,⟨1,b2 bb lines⟩),(3200032,⟨2,b2 AQ C⟩)],b3⟩
def dV(C:List AJ)(j:Int)(y:(List L8)):FM:=(.exit 1,⟨[.any,.any,.any,.any,.any,.any,.any,.any,.any,.any,.any,.any,.any,.any,.own 3200000,.any,.any,.any,.any,.any,.any],[],[(3200000,⟨1,b2 bb y⟩)],b3⟩)
attribute [local go_sem] Dn gy fC dV in
def QG{C:List AJ}{j:Int}:L7 (Dn C j) gy uX 0 (fC C j) (dV C j):=Jd uX trivial
attribute [local go_sem] BX gy fC dV in
@[go_sem]def ARg{J:List Star}{j:List AA}{aa:L8}{U:List L8}{C:List Int}{I R:Bool}:Q7 (BX (Ad.mk J j aa) (Cm.mk U C I R)) ACx [.ptr 3 [(.agg ([.sl 5 (b2 AN J),.sl 5 (b2 AC j),.str aa]))] 0 0,.agg ([.sl 1 (b2 bb U),.sl 1 (b2 (b4 .i64) C),.bool I,.bool R])] (fun h=>.tup [.fresh 1 (b2 bb (h.1)),.i (h.2)]) [.any,.any]:=CK uX (an @QG @AKD)
def AIt:=Af a' Tryz.f108 [0,1,2,3] [(402,16),(408,32),(409,16)] [] []
abbrev ACw:=CV [(155,ACK),(110,Un),(170,Lj)] AIt [.bor]
instance:Sd a' 108 ACw:=Am
attribute [local go_sem] Ee in
@[go_sem]def ARf{I:Int}{j:L8}{C:Bool}:Q7 (Ee (AA.mk I J j R C)) ACw [.agg ([.i I,.str J,.str j,.i R,.bool C])] .str [.any]:=CK AIt @di
def AIq:=Af a' Tryz.f111 [0,2] [] [] []
abbrev ACv:=CV [] AIq [.bor]
instance:Sd a' 111 ACv:=Am
attribute [local go_sem] FW in
@[go_sem]def ARe{j:List (List Int)}:Q7 (FW j) ACv [.sl 1 (b2 (tM 1 (b4 .i64)) j)] .i [.any]:=CK AIq trivial
def oM:=Af a' Tryz.f59 [0,1,3,4,5,6,7,8,9,10,11,12,14,18,19,28,92,93,94,95] [(1200,128),(1201,128),(1202,128),(1203,128),(1204,128),(1205,128),(1206,128),(1207,128),(1209,128),(1210,128),(1211,128),(1214,64)] [(12,[6],[[0,1,2,3,4,5,6,7,8,9,10,12,11,13,14],[0,1,2,3,4,5,6,7,8,9,10,12,13,11,14],[0,1,2,3,4,5,6,7,12,8,9,10,11,13,14],[0,1,2,3,4,5,6,7,12,8,9,10,13,11,14]])] [(461825,3073,25)]
def Tb:List (Nat×Ao):=[(104,APY),(105,ACx),(106,KP),(108,ACw),(107,sA),(109,AMQ),(111,ACv),(110,Un),(72,ACF),(112,ACH),(113,vf)]
instance:SdL a' Tb:=by unfold Tb;infer_instance
end Go.Proofs.YtegmpdmpgmpiaaaGreatDoor
