/- Lemmas. No condition. -/
import Derived.Test.YtegmpdmpgmpiaaaGreatDoorP9
import Derived.Test.YtegmpdmpgmpiaaaGreatDoorPC
open Bool renaming true->bR,false->bX,noConfusion->fx
open Go renaming undef->dT,World->dU,cell_of_row->e7,ownsRow_setCell_other->eu,heap_setCell_same->eL,heap_alloc_new->fp
open Go.Lib renaming hid->e5
open Go.Proofs.Tryz renaming prog->bI,f177->e6,func114->fB
open Go.Proofs.YtegmpdmpgmpiaaaGreatDoor.AV renaming int->cI,str->c'
open Go.RowKit.Below renaming heap_alloc->d'
open Go.Value renaming pointer->cB,string->e3,ownBlock->e4,slice->ew,int->fa,agg->f'
open List renaming map->bN,getD_cons_zero->ef,getD_cons_succ->ek,length_singleton->fm,flatMap_cons->fs,length_cons->fu,length_nil->fy,range->fI
open Nat renaming zero_add->e8,le_refl->e9,zero_mul->ev,lt_or_ge->fi
open Option renaming some->bS,none->cS
set_option linter.defProp false
set_option linter.unusedSimpArgs false
set_option linter.unusedVariables false
set_option maxRecDepth 100000
set_option maxHeartbeats 64000000
open Go.IntKind (i64 u64)
noncomputable section
namespace Go.Proofs.YtegmpdmpgmpiaaaGreatDoor
open Go Go.RowKit
def zg:List AV->Rs
 | [.str l]=>match LL l with
  |some y=>⟨bR,.str y,[.any]⟩
  |none=>Rs.bad
 |_=>Rs.bad
def Ku:Ao:=⟨[.bor],bR,zg⟩
theorem da:Ku.modes=[.bor]:=rfl
theorem Yw:Ku.flat=true:=rfl
attribute [go_sem] da Yw
def Sb{S:Nat->Prop}{w:dU}{u:Value}{d:Ad}(h:VR S w u (BC d)):∃C j,u = .agg #[C,j,.string ⟨d.Log.toArray⟩]/\VR S w C (.sl 5 (bN AN d.Stars))/\VR S w j (.sl 5 (bN AC d.Estimates)):=by
 have h:VR S w u (.agg [.sl 5 (bN AN d.Stars),.sl 5 (bN AC d.Estimates),.str d.Log]):=h;cases h with
 | @agg cs U I ha h=>
  have R:=h 0 p';have J:=h 1 p';have h2:=h 2 p';obtain⟨l⟩:=cs
  match l,I with
  | [a,b,c],_=>
   have h2:VR S w c (.str d.Log):=h2;cases h2
   exact⟨a,b,rfl,R,J⟩
set_option maxHeartbeats 64000000
def AHt:=Af bI Tryz.f189 [0,2] [] [] []
abbrev ACu:=CV [] AHt [.bor]
instance:Sd bI 189 ACu:=Am
variable{c:UInt8}
attribute [local go_sem] Gn in
@[go_sem]def ARd:Q7 (Gn c) ACu [.int .u8 (c.toNat:Int)] .bool [.any]:=CK AHt trivial
def AId:=Af bI Tryz.f126 [0,2] [] [] []
abbrev pZ:=CV [] AId [.bor]
instance:Sd bI 126 pZ:=Am
attribute [local go_sem] Dq in
@[go_sem]def ARc:Q7 (Dq c) pZ [.int .u8 (c.toNat:Int)] .bool [.any]:=CK AId trivial
def uT:=Af bI Tryz.f131 [0,2,3] [] [] [(5,0,2)]
def gw:List (Nat×Ao):=[(189,ACu),(126,pZ)]
instance:SdL bI gw:=by unfold gw;infer_instance
abbrev Yd:=CV gw uT [.bor]
instance:Sd bI 131 Yd:=Am
def ez(s_:L8):Int->St
 |i=>⟨[.str s_,.any,.i i],[],[],bR⟩
def dS(s_:L8):(Unit⊕Bool)->FM
 |.inl y=>(.exit 0,⟨[.any,.any,.any],[],[],bR⟩)
 |.inr y=>(.ret,⟨[.any,.bool y,.any],[],[],bR⟩)
attribute [local go_sem] JO gw ez dS in
def VJ{s_:L8}:L7 (JO s_) gw uT 0 (ez s_) (dS s_):=Jd uT trivial
variable{s_:L8}
attribute [local go_sem] CO gw ez dS in
@[go_sem]def ARa:Q7 (CO s_) Yd [.str s_] .bool [.any]:=CK uT @VJ
def AOt:=Af bI Tryz.f75 [0,1,2,6] [] [] []
abbrev PV:=CV [] AOt [.bor,.bor,.bor]
instance:Sd bI 75 PV:=Am
variable{n low j:Int}
attribute [local go_sem] Bu in
@[go_sem]def AKA:Q7 (Bu n low j) PV [.i n,.i low,.i j] .bool [.any,.any,.any]:=CK AOt trivial
variable{C:Bool}
def mC(h:Bu n low j=bS C):PV.F [.int .i64 n,.int .i64 low,.int .i64 j]=⟨bR,.bool C,[.any,.any,.any]⟩:=(Q8 AKA h:)
def AIB:=Af bI Tryz.f178 [0,2] [] [] []
abbrev ACs:=CV [(75,PV)] AIB [.bor]
instance:Sd bI 178 ACs:=Am
attribute [local go_sem] Es in
@[go_sem]def ARZ:Q7 (Es n) ACs [.i n] .bool [.any]:=CK AIB trivial
def AIA:=Af bI Tryz.f179 [0,2] [] [] []
abbrev ACr:=CV [(75,PV)] AIA [.bor]
instance:Sd bI 179 ACr:=Am
attribute [local go_sem] Ih in
@[go_sem]def ARY:Q7 (Ih n) ACr [.i n] .bool [.any]:=CK AIA trivial
def AIc:=Af bI Tryz.f127 [0,2] [] [] []
abbrev bu:=CV [(75,PV)] AIc [.bor]
instance:Sd bI 127 bu:=Am
variable{m:Int}
attribute [local go_sem] Bv in
@[go_sem]def AJz:Q7 (Bv m) bu [.i m] .bool [.any]:=CK AIc trivial
def mB{j:Bool}(h:Bv m=bS j):bu.F [.int .i64 m]=⟨bR,.bool j,[.any]⟩:=(Q8 AJz h:)
def AIn:=Af bI Tryz.f115 [0,2] [(104,16)] [] []
abbrev vZ:=CV [(131,Yd),(178,ACs),(179,ACr),(127,bu)] AIn [.bor]
instance:Sd bI 115 vZ:=Am
variable{J:L8}{R I:Int}
attribute [local go_sem] Kg in
@[go_sem]def ARX{C:Int}:Q7 (Kg (Star.mk J C R j I)) vZ [.ptr 5 [(.agg ([.str J,.i C,.i R,.i j,.i I]))] 0 0] .bool [.any]:=CK AIn trivial
def AFM:=Af bI Tryz.f64 [0,2,3] [(403,16)] [] [(5,1,2)]
def gq:List (Nat×Ao):=[(115,vZ)]
instance:SdL bI gq:=by unfold gq;infer_instance
abbrev vY:=CV gq AFM [.bor]
instance:Sd bI 64 vY:=Am
def ey(j:List Star):Int->St
 |i=>⟨[.sl 5 (bN AN j),.any,.i i],[],[],bR⟩
def dR(j:List Star):(Unit⊕Bool)->FM
 |.inl y=>(.exit 0,⟨[.sl 5 (bN AN j),.any,.any],[],[],bR⟩)
 |.inr y=>(.ret,⟨[.any,.bool y,.any],[],[],bR⟩)
attribute [local go_sem] JA gq ey dR in
def XF{j:List Star}:L7 (JA j) gq AFM 0 (ey j) (dR j):=Jd AFM trivial
variable{j:L8}
attribute [local go_sem] Lm gq ey dR in
@[go_sem]def ARW{j:List Star}:Q7 (Lm j) vY [.sl 5 (bN AN j)] .bool [.any]:=CK AFM @XF
def AFK:=Af bI Tryz.f66 [0,1,4,5] [] [] [(11,0,4)]
def tD:List (Nat×Ao):=[]
instance:SdL bI tD:=SdL0
abbrev jj:=CV tD AFK [.bor,.bor]
instance s_127:Sd bI 66 jj:=Am
def ex(C:List Star)(j:L8):Int->St
 |i=>⟨[.sl 5 (bN AN C),.str j,.any,.i i],[],[],bR⟩
def dQ(C:List Star)(j:L8):(Unit⊕Int)->FM
 |.inl y=>(.exit 0,⟨[.any,.any,.any,.any],[],[],bR⟩)
 |.inr y=>(.ret,⟨[.any,.any,.i y,.any],[],[],bR⟩)
attribute [local go_sem] IQ ex dQ in
def UF{C:List Star}{j:L8}:L7 (IQ C j) tD AFK 0 (ex C j) (dQ C j):=Jd AFK trivial
attribute [local go_sem] Fh tD ex dQ in
@[go_sem]def AJy{C:List Star}:Q7 (Fh C j) jj [.sl 5 (bN AN C),.str j] .i [.any,.any]:=CK AFK @UF
theorem AQO:jj.modes=[.bor,.bor]:=rfl
def ANh{C:List Star}(h:Fh C j=bS I):jj.F [.sl 5 (bN AN C),.str j]=⟨bR,.int .i64 I,[.any,.any]⟩:=(Q8 AJy h:)
def AFI:=Af bI Tryz.f78 [0,1,3,4,5,6,7] [] [] [(37,37,24)]
def gp:List (Nat×Ao):=[(64,vY),(115,vZ),(66,jj)]
instance:SdL bI gp:=by unfold gp;infer_instance
abbrev vX:=CV gp AFI [.bor,.bor]
instance s_128:Sd bI 78 vX:=Am
def er(j:List Star)(x:Star):Int->St
 |k=>⟨[.sl 5 (bN AN j),.any,.ref 3200000 0 0,.any,.any,.i k,.any],[],[(3200000,⟨5,[AN x]⟩)],bR⟩
def dP(j:List Star)(x:Star)(y:Int):FM:=(.exit 0,⟨[.sl 5 (bN AN j),.any,.ref 3200000 0 0,.any,.any,.i y,.any],[],[(3200000,⟨5,[AN x]⟩)],bR⟩)
attribute [local go_sem] IS gp er dP in
def UH{j:List Star}{x:Star}:L7 (IS j x) gp AFI 0 (er j x) (dP j x):=Jd AFI trivial
variable{U:List AA}
attribute [local go_sem] Ge gp er dP in
@[go_sem]def AJx{U:List Star}{C j:Int}:Q7 (Ge U (Star.mk J C R j I)) vX [.sl 5 (bN AN U),.agg ([.str J,.i C,.i R,.i j,.i I])] (fun h=>.tup [.fresh 5 (bN AN (h.1)),.i (h.2)]) [.any,.any]:=CK AFI @UH
theorem AQN:vX.modes=[.bor,.bor]:=rfl
def ANg{j:List Star}{x:Star}{C:(List Star)×Int}(h:Ge j x=bS C):vX.F [.sl 5 (bN AN j),AN x]=⟨bR,.tup [.fresh 5 (bN AN C.1),.int .i64 C.2],[.any,.any]⟩:=(Q8 AJx h:)
def AHz:=Af bI Tryz.f180 [0,2] [] [] []
abbrev ji:=CV [(75,PV)] AHz [.bor]
instance:Sd bI 180 ji:=Am
attribute [local go_sem] Gc in
@[go_sem]def AJw:Q7 (Gc n) ji [.i n] .bool [.any]:=CK AHz trivial
def ANf{j:Bool}(h:Gc n=bS j):ji.F [.int .i64 n]=⟨bR,.bool j,[.any]⟩:=(Q8 AJw h:)
def AIm:=Af bI Tryz.f116 [0,2] [] [] []
abbrev vW:=CV [(180,ji),(131,Yd),(127,bu)] AIm [.bor]
instance:Sd bI 116 vW:=Am
attribute [local go_sem] Kf in
@[go_sem]def ARV:Q7 (Kf (AA.mk I J j R C)) vW [.ptr 5 [(.agg ([.i I,.str J,.str j,.i R,.bool C]))] 0 0] .bool [.any]:=CK AIm trivial
def AIl:=Af bI Tryz.f117 [0,1,4] [] [] []
abbrev pY:=CV [] AIl [.bor,.bor]
instance:Sd bI 117 pY:=Am
variable{aa:Int}{ab:L8}
attribute [local go_sem] DQ in
@[go_sem]def ARU{C:L8}{ae:Int}{J:Bool}{U:L8}{ad:Int}{I:Bool}:Q7 (DQ (AA.mk aa ab C ae J) (AA.mk R U j ad I)) pY [.ptr 5 [(.agg ([.i aa,.str ab,.str C,.i ae,.bool J]))] 0 0,.ptr 5 [(.agg ([.i R,.str U,.str j,.i ad,.bool I]))] 0 0] .bool [.any,.any]:=CK AIl trivial
def AFL:=Af bI Tryz.f65 [0,2,3] [(403,16)] [] [(5,1,2)]
def gl:List (Nat×Ao):=[(116,vW),(117,pY)]
instance:SdL bI gl:=by unfold gl;infer_instance
abbrev bt:=CV gl AFL [.bor]
instance:Sd bI 65 bt:=Am
def eq(j:List AA):Int->St
 |i=>⟨[.sl 5 (bN AC j),.any,.i i],[],[],bR⟩
def dO(j:List AA):(Unit⊕Bool)->FM
 |.inl y=>(.exit 0,⟨[.sl 5 (bN AC j),.any,.any],[],[],bR⟩)
 |.inr y=>(.ret,⟨[.any,.bool y,.any],[],[],bR⟩)
attribute [local go_sem] Iz gl eq dO in
def XE{j:List AA}:L7 (Iz j) gl AFL 0 (eq j) (dO j):=Jd AFL trivial
attribute [local go_sem] Hj gl eq dO in
@[go_sem]def ART{j:List AA}:Q7 (Hj j) bt [.sl 5 (bN AC j)] .bool [.any]:=CK AFL @XE
def uV:=Af bI Tryz.f129 [0,1,4,5] [] [] [(11,0,4)]
def gj:List (Nat×Ao):=[(117,pY)]
instance:SdL bI gj:=by unfold gj;infer_instance
abbrev ACq:=CV gj uV [.bor,.bor]
instance:Sd bI 129 ACq:=Am
def ep(j:List AA)(C:AA):Int->St
 |i=>⟨[.sl 5 (bN AC j),.ptr 5 [AC C] 0 0,.any,.i i],[],[],bR⟩
def dN(j:List AA)(C:AA):(Unit⊕Int)->FM
 |.inl y=>(.exit 0,⟨[.any,.any,.any,.any],[],[],bR⟩)
 |.inr y=>(.ret,⟨[.any,.any,.i y,.any],[],[],bR⟩)
attribute [local go_sem] IP gj ep dN in
def UE{j:List AA}{J:AA}:L7 (IP j J) gj uV 0 (ep j J) (dN j J):=Jd uV trivial
attribute [local go_sem] LB gj ep dN in
@[go_sem]def ARS:Q7 (LB U (AA.mk I J j R C)) ACq [.sl 5 (bN AC U),.ptr 5 [(.agg ([.i I,.str J,.str j,.i R,.bool C]))] 0 0] .i [.any,.any]:=CK uV @UE
def uU:=Af bI Tryz.f130 [0,1,3,4,5,6] [] [] [(21,21,8)]
def gi:List (Nat×Ao):=[(117,pY)]
instance:SdL bI gi:=by unfold gi;infer_instance
abbrev ACp:=CV gi uU [.bor,.bor]
instance:Sd bI 130 ACp:=Am
def em(j:List AA)(C:AA):Int->St
 |k=>⟨[.sl 5 (bN AC j),.any,.ref 3200000 0 0,.any,.i k,.any],[],[(3200000,⟨5,[AC C]⟩)],bR⟩
def dM(j:List AA)(C:AA)(y:Int):FM:=(.exit 0,⟨[.sl 5 (bN AC j),.any,.ref 3200000 0 0,.any,.i y,.any],[],[(3200000,⟨5,[AC C]⟩)],bR⟩)
attribute [local go_sem] JN gi em dM in
def VF{j:List AA}{J:AA}:L7 (JN j J) gi uU 0 (em j J) (dM j J):=Jd uU trivial
attribute [local go_sem] NU gi em dM in
@[go_sem]def ARR:Q7 (NU U (AA.mk I J j R C)) ACp [.sl 5 (bN AC U),.agg ([.i I,.str J,.str j,.i R,.bool C])] (fun h=>.fresh 5 (bN AC h)) [.any,.any]:=CK uU @VF
def AOr:=Af bI Tryz.f80 [0,1,3,4,5] [] [] []
abbrev vV:=CV [(65,bt),(116,vW),(129,ACq),(130,ACp)] AOr [.bor,.bor]
instance s_135:Sd bI 80 vV:=Am
attribute [local go_sem] Dx in
@[go_sem]def AJv:Q7 (Dx U (AA.mk I J j R C)) vV [.sl 5 (bN AC U),.agg ([.i I,.str J,.str j,.i R,.bool C])] (fun h=>.tup [.fresh 5 (bN AC (h.1)),.i (h.2)]) [.any,.any]:=CK AOr trivial
theorem AQM:vV.modes=[.bor,.bor]:=rfl
variable{C:Int}
def ANe{j:List AA}{I:AA}{C:(List AA)×Int}(h:Dx j I=bS C):vV.F [.sl 5 (bN AC j),AC I]=⟨bR,.tup [.fresh 5 (bN AC C.1),.int .i64 C.2],[.any,.any]⟩:=(Q8 AJv h:)
def AHZ:=Af bI Tryz.f234 [0,1,4,5] [] [] []
abbrev vU:=CV [] AHZ [.bor,.bor]
instance:Sd bI 234 vU:=Am
attribute [local go_sem] JC in
@[go_sem]def ARQ{j:Int}:Q7 (JC j C) vU [.i j,.i C] .i [.any,.any]:=CK AHZ trivial
def AHr:=Af bI Tryz.f191 [0,1,4] [] [] []
abbrev ACo:=CV [(234,vU)] AHr [.bor,.bor]
instance:Sd bI 191 ACo:=Am
attribute [local go_sem] KJ in
@[go_sem]def ARP{j:Int}:Q7 (KJ j C) ACo [.i j,.i C] .i [.any,.any]:=CK AHr trivial
def jC:=Af bI Tryz.f138 [0,1,4,5,6,7,8,9] [(1308,16),(1309,32),(1310,32)] [] [(27,8,4),(251,251,4)]
def YC:List (Nat×Ao):=[(191,ACo)]
instance:SdL bI YC:=by unfold YC;infer_instance
abbrev ACn:=CV YC jC [.bor,.bor]
instance:Sd bI 138 ACn:=Am
def Wp(C:List AA)(j:L8)(out:List AJ)(i:Int):(Int×Int×Int)->St
 |(sum,n,k)=>⟨[.sl 5 (bN AC C),.str j,.any,.own 3200000,.i i,.i sum,.i n,.i k],[],[(3200000,⟨2,bN AQ out⟩)],bR⟩
def Wb(C:List AA)(j:L8)(out:List AJ)(i:Int)(y:Int×Int×Int):FM:=(.exit 2,⟨[.sl 5 (bN AC C),.str j,.any,.own 3200000,.i i,.i y.1,.i y.2.1,.i y.2.2],[],[(3200000,⟨2,bN AQ out⟩)],bR⟩)
attribute [local go_sem] Gl YC Wp Wb in
def Ps{C:List AA}{j:L8}{out:List AJ}{i:Int}:L7 (Gl C j out i) YC jC 1 (Wp C j out i) (Wb C j out i):=Jd jC trivial
def ei(C:List AA)(j:L8):((List AJ)×Int)->St
 |(out,i)=>⟨[.sl 5 (bN AC C),.str j,.any,.own 3200000,.i i,.any,.any,.any],[],[(3200000,⟨2,bN AQ out⟩)],bR⟩
def dL(C:List AA)(j:L8)(y:(List AJ)):FM:=(.exit 0,⟨[.any,.any,.any,.own 3200000,.any,.any,.any,.any],[],[(3200000,⟨2,bN AQ y⟩)],bR⟩)
attribute [local go_sem] Iy YC ei dL Wp Wb in
def XD{C:List AA}{j:L8}:L7 (Iy C j) YC jC 0 (ei C j) (dL C j):=Jd jC @Ps
variable{C:List AA}
attribute [local go_sem] OQ YC Wp Wb ei dL in
@[go_sem]def ARO:Q7 (OQ C j) ACn [.sl 5 (bN AC C),.str j] (fun h=>.fresh 2 (bN AQ h)) [.any,.any]:=CK jC (an @Ps @XD)
def AOm:=Af bI Tryz.f90 [0,1,4,5] [] [] []
abbrev vT:=CV [(65,bt),(131,Yd),(138,ACn)] AOm [.bor,.bor]
instance s_139:Sd bI 90 vT:=Am
attribute [local go_sem] Gd in
@[go_sem]def AJu:Q7 (Gd C j) vT [.sl 5 (bN AC C),.str j] (fun h=>.tup [.fresh 2 (bN AQ (h.1)),.i (h.2)]) [.any,.any]:=CK AOm trivial
theorem AQL:vT.modes=[.bor,.bor]:=rfl
def ANd{I:(List AJ)×Int}(h:Gd C j=bS I):vT.F [.sl 5 (bN AC C),.str j]=⟨bR,.tup [.fresh 2 (bN AQ I.1),.int .i64 I.2],[.any,.any]⟩:=(Q8 AJu h:)
def oP:=Af bI Tryz.f139 [0,2,3] [(405,16)] [] [(5,1,2)]
def Ta:List (Nat×Ao):=[(180,ji),(127,bu)]
instance:SdL bI Ta:=by unfold Ta;infer_instance
abbrev pX:=CV Ta oP [.bor]
instance:Sd bI 139 pX:=Am
def Wo(j:List AJ):Int->St
 |i=>⟨[.sl 2 (bN AQ j),.any,.i i],[],[],bR⟩
def Wa(j:List AJ):(Unit⊕Bool)->FM
 |.inl y=>(.exit 0,⟨[.sl 2 (bN AQ j),.any,.any],[],[],bR⟩)
 |.inr y=>(.ret,⟨[.any,.bool y,.any],[],[],bR⟩)
attribute [local go_sem] Wo Wa in
theorem XC{U:List AJ}{ba:Int}{bb:Unit⊕Bool}(h:AE (ND U) ba=bS bb):∃L0,∀L,L0<=L->Hf Ta L oP 0 (Wo U ba)=Wa U bb:=by
 have ao:oP=oP:=rfl
 conv at ao=>rhs;cbv
 simp only[ao,Hf,My,JQ,ef,ek];refine OA (E:=Wo U) (R:=Wa U) (fun y=>by first|(intro c;cases c)|(rcases y with y|y<;>(intro c;cases c))|(rcases y with y|y|y<;>(intro c;cases c))) ?_ h;clear h;intro i o_ h;dsimp only[ND]at h;rcases Au h with⟨z1,h⟩|⟨z1,h⟩
 .try simp only[go_sem,n1,n2,n3,n4]at z1
  all_goals
  obtain⟨z2,h⟩:=AY h;have ay:=Kk z2;have a1:=CR AQ U ay;try simp only[go_sem]at ay
  try simp only[go_sem]at a1
  try simp only[go_sem,n1,n2,n3,n4,z1]at z2
  all_goals
  obtain⟨b0,z3,h⟩:=AO h;have a7:=ANf z3;try simp only[go_sem,z1,z2]at a7
  obtain⟨z4,h⟩:=AY h;rcases Ev z4 with⟨I,z4⟩|I
  .try simp only[go_sem,n1,n2,n3,n4,z1,z2]at I
   all_goals
   obtain⟨bz,J⟩:=zX z4;have a8:=mB J;try simp only[go_sem,n1,n2,n3,n4,z1,z2,I]at J
   all_goals
   try simp only[go_sem,z1,z2,I]at a8
   obtain⟨z5,h⟩:=AY h;rcases Ev z5 with⟨az,z5⟩|az
   .try simp only[go_sem,n1,n2,n3,n4,z1,z2,I,J]at az
    all_goals
    have be:=Kk z5;have bh:=CR AQ U be;try simp only[go_sem]at be
    try simp only[go_sem]at bh
    try simp only[go_sem,n1,n2,n3,n4,z1,z2,I,J,az]at z5
    all_goals
    rcases Au h with⟨z6,h⟩|⟨z6,h⟩
    all_goals
    try simp only[go_sem,n1,n2,n3,n4,z1,z2,I,J,az,z5]at z6
    all_goals
    obtain rfl:=AX h;refine⟨0,fun L hL=>?_⟩;simp only[go_sem,ao,Ta,z1,z2,ay,a1,a7,I,J,a8,az,z5,be,bh,z6]
   .rcases AJG az with a6|⟨a6,ax⟩
    .have au:=Ov a6;rcases AEg au with ab|⟨ab,ad⟩
     .try simp only[go_sem,n1,n2,n3,n4,z1,z2,I,J]at ab
      all_goals
      (simp_all)
     .have j:=Ov ab;have C:=TU ad;try simp only[go_sem,n1,n2,n3,n4,z1,z2,I,J]at j
      all_goals
      try simp only[go_sem,n1,n2,n3,n4,z1,z2,I,J,j]at C
      all_goals
      rcases Au h with⟨z6,h⟩|⟨z6,h⟩
      .try simp only[go_sem,n1,n2,n3,n4,z1,z2,I,J,j,C]at z6
       all_goals
       obtain rfl:=AX h;refine⟨0,fun L hL=>?_⟩;simp only[go_sem,ao,Ta,z1,z2,ay,a1,a7,I,J,a8,j,C,z6]
      .try simp only[go_sem,n1,n2,n3,n4,z1,z2,I,J,j,C]at z6
       all_goals
       (simp_all)
    .have au:=TU a6;obtain⟨ab,ad⟩:=AKi au;have j:=Ov ab;have C:=Ov ad;try simp only[go_sem,n1,n2,n3,n4,z1,z2,I,J]at j
     all_goals
     try simp only[go_sem,n1,n2,n3,n4,z1,z2,I,J,j]at C
     all_goals
     try simp only[go_sem,n1,n2,n3,n4,z1,z2,I,J,j,C]at ax
     all_goals
     rcases Au h with⟨z6,h⟩|⟨z6,h⟩
     .try simp only[go_sem,n1,n2,n3,n4,z1,z2,I,J,j,C,ax]at z6
      all_goals
      (simp_all)
     .try simp only[go_sem,n1,n2,n3,n4,z1,z2,I,J,j,C,ax]at z6
      all_goals
      obtain rfl:=AX h;refine⟨0,fun L hL=>?_⟩;simp only[go_sem,ao,Ta,z1,z2,ay,a1,a7,I,J,a8,j,C,ax,z6]
  .have bo:=Ov I;have ae:=TU bo;try simp only[go_sem,n1,n2,n3,n4,z1,z2]at ae
   all_goals
   obtain⟨z5,h⟩:=AY h;rcases Au h with⟨z6,h⟩|⟨z6,h⟩
   .try simp only[go_sem,n1,n2,n3,n4,z1,z2,ae]at z6
    all_goals
    obtain rfl:=AX h;refine⟨0,fun L hL=>?_⟩;simp only[go_sem,ao,Ta,z1,z2,ay,a1,a7,ae,z6]
   .try simp only[go_sem,n1,n2,n3,n4,z1,z2,ae]at z6
    all_goals
    (simp_all)
 .try simp only[go_sem,n1,n2,n3,n4]at z1
  all_goals
  obtain rfl:=AX h;refine⟨0,fun L hL=>?_⟩;simp only[go_sem,ao,Ta,z1]
variable{j:List AJ}
attribute [local go_sem] Jn Ta Wo Wa in
@[go_sem]def ARN:Q7 (Jn j) pX [.sl 2 (bN AQ j)] .bool [.any]:=CK oP @XC
def AIV:=Af bI Tryz.f140 [0,1,4] [] [] []
abbrev ACm:=CV [] AIV [.bor,.bor]
instance:Sd bI 140 ACm:=Am
variable{a b:Int}
attribute [local go_sem] Lx in
@[go_sem]def ARM:Q7 (Lx a b) ACm [.i a,.i b] .i [.any,.any]:=CK AIV trivial
def AIU:=Af bI Tryz.f141 [0,1,4] [] [] []
abbrev ACl:=CV [] AIU [.bor,.bor]
instance:Sd bI 141 ACl:=Am
attribute [local go_sem] Ly in
@[go_sem]def ARL:Q7 (Ly a b) ACl [.i a,.i b] .i [.any,.any]:=CK AIU trivial
def AFC:=Af bI Tryz.f92 [0,2,3,4,5,6] [] [] [(57,24,6)]
def gh:List (Nat×Ao):=[(139,pX),(140,ACm),(141,ACl)]
instance:SdL bI gh:=by unfold gh;infer_instance
abbrev vS:=CV gh AFC [.bor]
instance s_143:Sd bI 92 vS:=Am
def eh(j:List AJ):(Int×Int×Int)->St
 |(low,high,i)=>⟨[.sl 2 (bN AQ j),.any,.any,.i low,.i high,.i i],[],[],bR⟩
def dK(j:List AJ)(y:Int×Int):FM:=(.exit 0,⟨[.any,.any,.any,.i y.1,.i y.2,.any],[],[],bR⟩)
attribute [local go_sem] FC gh eh dK in
def Qd{j:List AJ}:L7 (FC j) gh AFC 0 (eh j) (dK j):=Jd AFC trivial
attribute [local go_sem] DB gh eh dK in
@[go_sem]def AJt:Q7 (DB j) vS [.sl 2 (bN AQ j)] (fun h=>.tup [.i (h.1),.i (h.2)]) [.any]:=CK AFC @Qd
theorem AQK:vS.modes=[.bor]:=rfl
variable{C:Int}
def ANc{C:Int×Int}(h:DB j=bS C):vS.F [.sl 2 (bN AQ j)]=⟨bR,.tup [.int .i64 C.1,.int .i64 C.2],[.any]⟩:=(Q8 AJt h:)
def AIa:=Af bI Tryz.f132 [0,2] [] [] []
abbrev vR:=CV [] AIa [.bor]
instance:Sd bI 132 vR:=Am
attribute [local go_sem] Fi in
@[go_sem]def ARK:Q7 (Fi n) vR [.i n] .i [.any]:=CK AIa trivial
def AHN:=Af bI Tryz.f265 [0,1,2,4] [] [] []
abbrev ACk:=CV [(234,vU)] AHN [.bor,.bor]
instance:Sd bI 265 ACk:=Am
variable{j:Int}
attribute [local go_sem] LY in
@[go_sem]def ARJ:Q7 (LY (AG.mk C j) I) ACk [.agg ([.i C,.i j]),.i I] .i [.any,.any]:=CK AHN trivial
def AHW:=Af bI Tryz.f237 [0,1,2,4] [(106,16)] [] []
abbrev ACj:=CV [(265,ACk)] AHW [.bor,.bor]
instance:Sd bI 237 ACj:=Am
attribute [local go_sem] El in
@[go_sem]def ARI:Q7 (El (AG.mk C j) I) ACj [.agg ([.i C,.i j]),.i I] .i [.any,.any]:=CK AHW trivial
def AHV:=Af bI Tryz.f238 [0,2] [] [] []
abbrev vQ:=CV [] AHV [.bor]
instance:Sd bI 238 vQ:=Am
attribute [local go_sem] Lw in
@[go_sem]def AJs{j:List Int}:Q7 (Lw j) vQ [.sl 1 (bN (cI .i64) j)] (fun h=>.fresh 1 (bN (cI .i64) h)) [.any]:=CK AHV trivial
def ANb{j:List Int}{C:(List Int)}(h:Lw j=bS C):vQ.F [.sl 1 (bN (cI .i64) j)]=⟨bR,.fresh 1 (bN (cI .i64) C),[.any]⟩:=(Q8 AJs h:)
def ai:=Af bI Tryz.f195 [0,1,2,4,5,6,7,8] [] [] [(54,16,8),(118,118,8)]
def TZ:List (Nat×Ao):=[(237,ACj),(238,vQ)]
instance:SdL bI TZ:=by unfold TZ;infer_instance
abbrev vP:=CV TZ ai [.bor,.bor]
instance:Sd bI 195 vP:=Am
def Wm(j:List AJ)(C:AG)(out:List Int)(i:Int):Int->St
 |k=>⟨[.any,.sl 2 (bN AQ j),.ref 3200000 0 0,.any,.own 3200032,.i i,.i k,.any],[],[(3200000,⟨2,[Bf C]⟩),(3200032,⟨1,bN (cI .i64) out⟩)],bR⟩
def WY(j:List AJ)(C:AG)(out:List Int)(i y:Int):FM:=(.exit 2,⟨[.any,.sl 2 (bN AQ j),.ref 3200000 0 0,.any,.own 3200032,.i i,.i y,.any],[],[(3200000,⟨2,[Bf C]⟩),(3200032,⟨1,bN (cI .i64) out⟩)],bR⟩)
attribute [local go_sem] GK TZ Wm WY in
def OP{j:List AJ}{J:AG}{out:List Int}{i:Int}:L7 (GK j J out i) TZ ai 1 (Wm j J out i) (WY j J out i):=Jd ai trivial
def Wn(j:List AJ)(C:AG):((List Int)×Int)->St
 |(out,i)=>⟨[.any,.sl 2 (bN AQ j),.ref 3200000 0 0,.any,.own 3200032,.i i,.any,.any],[],[(3200000,⟨2,[Bf C]⟩),(3200032,⟨1,bN (cI .i64) out⟩)],bR⟩
def WZ(j:List AJ)(C:AG)(y:(List Int)):FM:=(.exit 0,⟨[.any,.any,.any,.any,.own 3200000,.any,.any,.any],[],[(3200000,⟨1,bN (cI .i64) y⟩)],bR⟩)
attribute [local go_sem] Wn WZ Wm WY in
theorem UC{j:List AJ}{e_:AG}{aa:(List Int)×Int}{ab:(List Int)}(h:AE (GL j e_) aa=bS ab):∃L0,∀L,L0<=L->Hf TZ L ai 0 (Wn j e_ aa)=WZ j e_ ab:=by
 have J:ai=ai:=rfl
 conv at J=>rhs;cbv
 simp only[J,Hf,My,JQ,ef,ek];refine OA (E:=Wn j e_) (R:=WZ j e_) (fun y=>by first|(intro c;cases c)|(rcases y with y|y<;>(intro c;cases c))|(rcases y with y|y|y<;>(intro c;cases c))) ?_ h;clear h;rintro⟨out,i⟩ o_ h;dsimp only[GL]at h;rcases Au h with⟨I,h⟩|⟨I,h⟩
 .try simp only[go_sem,n1,n2,n3,n4]at I
  all_goals
  obtain⟨az,z8,h⟩:=AO h;obtain⟨au,U⟩:=OP z8;obtain⟨z9,h⟩:=AY h;try simp only[go_sem,n1,n2,n3,n4,I]at z9
  all_goals
  obtain⟨ax,ao,h⟩:=AO h;have ad:=ANb ao;try simp only[go_sem,I,z9]at ad
  obtain⟨C,h⟩:=AY h;try simp only[go_sem,n1,n2,n3,n4,I,z9]at C
  all_goals
  obtain⟨z12,h⟩:=AY h;try simp only[go_sem,n1,n2,n3,n4,I,z9,C]at z12
  all_goals
  obtain⟨ae,h⟩:=AY h;try simp only[go_sem,n1,n2,n3,n4,I,z9,C,z12]at ae
  all_goals
  obtain rfl:=AX h;refine⟨au,fun L hL=>?_⟩;have U:=U L n';try simp only[go_sem,J,TZ,I,z9,C,z12,ae]at U
  simp only[go_sem,J,TZ,I,z9,ad,C,z12,ae,U]
 .try simp only[go_sem,n1,n2,n3,n4]at I
  all_goals
  obtain rfl:=AX h;refine⟨0,fun L hL=>?_⟩;simp only[go_sem,J,TZ,I]
variable{I:List AJ}
attribute [local go_sem] Ig TZ Wm WY Wn WZ in
@[go_sem]def ARH:Q7 (Ig (AG.mk C j) I) vP [.agg ([.i C,.i j]),.sl 2 (bN AQ I)] (fun h=>.fresh 1 (bN (cI .i64) h)) [.any,.any]:=CK ai (an @OP @UC)
def uH:=Af bI Tryz.f193 [0,1,4,5,6,7,8] [(715,16)] [] [(57,16,4)]
def gZ:List (Nat×Ao):=[(195,vP),(132,vR)]
instance:SdL bI gZ:=by unfold gZ;infer_instance
abbrev ACi:=CV gZ uH [.bor,.bor]
instance:Sd bI 193 ACi:=Am
def ee(C:List AJ)(j:List Int):(Int×Int)->St
 |(sum,i)=>⟨[.sl 2 (bN AQ C),.any,.any,.own 3200000,.i sum,.i i,.any],[],[(3200000,⟨1,bN (cI .i64) j⟩)],bR⟩
def dJ(C:List AJ)(j:List Int)(y:Int):FM:=(.exit 0,⟨[.any,.any,.any,.any,.i y,.any,.any],[],[],bR⟩)
attribute [local go_sem] Er gZ ee dJ in
def Rt{C:List AJ}{j:List Int}:L7 (Er C j) gZ uH 0 (ee C j) (dJ C j):=Jd uH trivial
attribute [local go_sem] Fr gZ ee dJ in
@[go_sem]def ARG{C:List AJ}:Q7 (Fr C j) ACi [.sl 2 (bN AQ C),.i j] .i [.any,.any]:=CK uH @Rt
def uP:=Af bI Tryz.f144 [0,1,3,4,5,6] [] [] [(53,16,8)]
def gY:List (Nat×Ao):=[(193,ACi)]
instance:SdL bI gY:=by unfold gY;infer_instance
abbrev ACh:=CV gY uP [.bor,.bor]
instance:Sd bI 144 ACh:=Am
def eZ(j:List AJ)(x:CI):((List Int)×Int)->St
 |(out,p)=>⟨[.sl 2 (bN AQ j),.any,.ref 3200000 0 0,.any,.own 3200032,.i p],[],[(3200000,⟨3,[QT x]⟩),(3200032,⟨1,bN (cI .i64) out⟩)],bR⟩
def dI(j:List AJ)(x:CI)(y:(List Int)):FM:=(.exit 0,⟨[.any,.any,.any,.any,.own 3200000,.any],[],[(3200000,⟨1,bN (cI .i64) y⟩)],bR⟩)
attribute [local go_sem] JM gY eZ dI in
def VE{j:List AJ}{x:CI}:L7 (JM j x) gY uP 0 (eZ j x) (dI j x):=Jd uP trivial
variable{J:Int}
attribute [local go_sem] Lv gY eZ dI in
@[go_sem]def ARE:Q7 (Lv I (CI.mk C J j)) ACh [.sl 2 (bN AQ I),.agg ([.i C,.i J,.i j])] (fun h=>.fresh 1 (bN (cI .i64) h)) [.any,.any]:=CK uP @VE
def uQ:=Af bI Tryz.f143 [0,1,2,6,7,8] [] [] [(55,16,8)]
def tC:List (Nat×Ao):=[]
instance:SdL bI tC:=SdL0
abbrev ACg:=CV tC uQ [.bor,.bor,.bor]
instance:Sd bI 143 ACg:=Am
def eY(J:List Int)(j I:Int):(Int×Int)->St
 |(C,k)=>⟨[.sl 1 (bN (cI .i64) J),.i j,.i I,.any,.i C,.i k],[],[],bR⟩
def dH(I:List Int)(j C y:Int):FM:=(.exit 0,⟨[.any,.any,.any,.any,.i y,.any],[],[],bR⟩)
attribute [local go_sem] GJ eY dH in
def UB{R:List Int}{j J:Int}:L7 (GJ R j J) tC uQ 0 (eY R j J) (dH R j J):=Jd uQ trivial
attribute [local go_sem] LA tC eY dH in
@[go_sem]def ARD{I:List Int}:Q7 (LA I j C) ACg [.sl 1 (bN (cI .i64) I),.i j,.i C] .i [.any,.any,.any]:=CK uQ @UB
def AHX:=Af bI Tryz.f236 [0,2] [] [] []
abbrev vO:=CV [(75,PV)] AHX [.bor]
instance:Sd bI 236 vO:=Am
attribute [local go_sem] Di in
@[go_sem]def ARC:Q7 (Di n) vO [.i n] .bool [.any]:=CK AHX trivial
def AHO:=Af bI Tryz.f264 [0,1,2] [] [] []
abbrev ACf:=CV [] AHO [.bor]
instance:Sd bI 264 ACf:=Am
attribute [local go_sem] KI in
@[go_sem]def ARB{I:Int}:Q7 (KI (CI.mk C I j)) ACf [.agg ([.i C,.i I,.i j])] .i [.any]:=CK AHO trivial
def AHY:=Af bI Tryz.f235 [0,1,2] [] [] []
abbrev ACe:=CV [(236,vO),(75,PV),(264,ACf)] AHY [.bor]
instance:Sd bI 235 ACe:=Am
attribute [local go_sem] Ll in
@[go_sem]def ARA{I:Int}:Q7 (Ll (CI.mk C I j)) ACe [.agg ([.i C,.i I,.i j])] .bool [.any]:=CK AHY trivial
def AHq:=Af bI Tryz.f192 [0,1,3,4] [] [] []
abbrev ACd:=CV [(139,pX),(235,ACe)] AHq [.bor,.bor]
instance:Sd bI 192 ACd:=Am
attribute [local go_sem] MO in
@[go_sem]def AQz:Q7 (MO I (CI.mk C J j)) ACd [.sl 2 (bN AQ I),.agg ([.i C,.i J,.i j])] .i [.any,.any]:=CK AHq trivial
def AIT:=Af bI Tryz.f142 [0,1,3,4,5] [] [] []
abbrev ACc:=CV [(192,ACd)] AIT [.bor,.bor]
instance:Sd bI 142 ACc:=Am
attribute [local go_sem] LX in
@[go_sem]def AQy:Q7 (LX I (CI.mk C J j)) ACc [.sl 2 (bN AQ I),.agg ([.i C,.i J,.i j])] .i [.any,.any]:=CK AIT trivial
def AOl:=Af bI Tryz.f93 [0,1,3,4,5,6] [(406,32),(407,16)] [] []
abbrev vN:=CV [(142,ACc),(144,ACh),(143,ACg)] AOl [.bor,.bor]
instance s_157:Sd bI 93 vN:=Am
attribute [local go_sem] Cz in
@[go_sem]def AJr:Q7 (Cz I (CI.mk C J j)) vN [.sl 2 (bN AQ I),.agg ([.i C,.i J,.i j])] (fun h=>.tup [.i (h.1),.i (h.2)]) [.any,.any]:=CK AOl trivial
theorem AQJ:vN.modes=[.bor,.bor]:=rfl
def ANa{j:List AJ}{x:CI}{C:Int×Int}(h:Cz j x=bS C):vN.F [.sl 2 (bN AQ j),QT x]=⟨bR,.tup [.int .i64 C.1,.int .i64 C.2],[.any,.any]⟩:=(Q8 AJr h:)
def AHp:=Af bI Tryz.f194 [0,1,2] [] [] []
abbrev ACb:=CV [(180,ji),(236,vO)] AHp [.bor]
instance:Sd bI 194 ACb:=Am
attribute [local go_sem] OO in
@[go_sem]def AQx:Q7 (OO (AG.mk C j)) ACb [.agg ([.i C,.i j])] .bool [.any]:=CK AHp trivial
def AIS:=Af bI Tryz.f145 [0,1,2,4,5] [] [] []
abbrev vM:=CV [(194,ACb),(139,pX),(195,vP)] AIS [.bor,.bor]
instance s_159:Sd bI 145 vM:=Am
attribute [local go_sem] Et in
@[go_sem]def AJq:Q7 (Et (AG.mk C j) I) vM [.agg ([.i C,.i j]),.sl 2 (bN AQ I)] (fun h=>.tup [.fresh 1 (bN (cI .i64) (h.1)),.i (h.2)]) [.any,.any]:=CK AIS trivial
theorem AQI:vM.modes=[.bor,.bor]:=rfl
variable{C:List AA}{I:Int}
def ANZ{I:AG}{j:List AJ}{C:(List Int)×Int}(h:Et I j=bS C):vM.F [Bf I,.sl 2 (bN AQ j)]=⟨bR,.tup [.fresh 1 (bN (cI .i64) C.1),.int .i64 C.2],[.any,.any]⟩:=(Q8 AJq h:)
def AFH:=Af bI Tryz.f81 [0,1,4,5,6] [] [] [(23,4,12)]
def gX:List (Nat×Ao):=[(65,bt),(131,Yd)]
instance:SdL bI gX:=by unfold gX;infer_instance
abbrev vL:=Vi gX AFH [.bor,.bor]
instance s_160:Sd bI 81 vL:=Ow
def eX(C:List AA)(j:L8)(I:AA):Int->St
 |i=>⟨[.sl 5 (bN AC C),.str j,.ref 3200000 0 0,.any,.i i],[],[(3200000,⟨5,[AC I]⟩)],bR⟩
def dG(C:List AA)(j:L8)(I:AA):(Unit⊕(AA×Int))->FM
 |.inl y=>(.exit 0,⟨[.any,.any,.ref 3200000 0 0,.any,.any],[],[(3200000,⟨5,[AC I]⟩)],bR⟩)
 |.inr y=>(.ret,⟨[.any,.any,.ref 3200000 0 0,.i y.2,.any],[],[(3200000,⟨5,[AC y.1]⟩)],bR⟩)
attribute [local go_sem] Hk gX eX dG in
def VI{C:List AA}{j:L8}{R:AA}:L7 (Hk C j R) gX AFH 0 (eX C j R) (dG C j R):=Jd AFH trivial
attribute [local go_sem] Gp gX eX dG in
@[go_sem]def AJp{j:L8}:Q7 (Gp C j) vL [.sl 5 (bN AC C),.str j] (fun h=>.tup [AC (h.1),.i (h.2)]) [.any,.any]:=CK AFH @VI
theorem AQH:vL.modes=[.bor,.bor]:=rfl
def ANY{j:L8}{I:AA×Int}(h:Gp C j=bS I):vL.F [.sl 5 (bN AC C),.str j]=⟨bR,.tup [AC I.1,.int .i64 I.2],[.any,.any]⟩:=(Q8 AJp h:)
def AOq:=Af bI Tryz.f83 [0,1,2,6] [(709,16)] [] []
abbrev ACa:=CV [(132,vR)] AOq [.bor,.bor,.bor]
instance:Sd bI 83 ACa:=Am
attribute [local go_sem] GM in
@[go_sem]def AQw{C:L8}{ae:Int}{J:Bool}{U j:L8}{ad:Int}{I:Bool}{aj:Int}:Q7 (GM (AA.mk aa ab C ae J) (AA.mk R U j ad I) aj) ACa [.ptr 5 [(.agg ([.i aa,.str ab,.str C,.i ae,.bool J]))] 0 0,.ptr 5 [(.agg ([.i R,.str U,.str j,.i ad,.bool I]))] 0 0,.i aj] .bool [.any,.any,.any]:=CK AOq trivial
def xh:=Af bI Tryz.f49 [0,1,2,6,7,8,9,10] [] [] [(103,32,24),(231,103,24)]
def YB:List (Nat×Ao):=[(65,bt),(75,PV),(83,ACa)]
instance:SdL bI YB:=by unfold YB;infer_instance
abbrev vK:=Vi YB xh [.bor,.bor,.bor]
instance s_162:Sd bI 49 vK:=Ow
def Wl(C:List AA)(j I i:Int):((List (List Int))×Int)->St
 |(out,k)=>⟨[.sl 5 (bN AC C),.i j,.i I,.any,.any,.own 3200000,.i i,.i k],[],[(3200000,⟨1,bN (tM 1 (cI .i64)) out⟩)],bR⟩
def WX(C:List AA)(j I i:Int)(y:(List (List Int))):FM:=(.exit 2,⟨[.sl 5 (bN AC C),.i j,.i I,.any,.any,.own 3200000,.i i,.any],[],[(3200000,⟨1,bN (tM 1 (cI .i64)) y⟩)],bR⟩)
attribute [local go_sem] Cj YB Wl WX in
def LO{C:List AA}{j R i:Int}:L7 (Cj C j R i) YB xh 1 (Wl C j R i) (WX C j R i):=Jd xh trivial
def eV(C:List AA)(j I:Int):((List (List Int))×Int)->St
 |(out,i)=>⟨[.sl 5 (bN AC C),.i j,.i I,.any,.any,.own 3200000,.i i,.any],[],[(3200000,⟨1,bN (tM 1 (cI .i64)) out⟩)],bR⟩
def dF(C:List AA)(j I:Int)(y:(List (List Int))):FM:=(.exit 0,⟨[.any,.any,.any,.any,.any,.own 3200000,.any,.any],[],[(3200000,⟨1,bN (tM 1 (cI .i64)) y⟩)],bR⟩)
attribute [local go_sem] Ck YB eV dF Wl WX in
def Ou{C:List AA}{j R:Int}:L7 (Ck C j R) YB xh 0 (eV C j R) (dF C j R):=Jd xh @LO
attribute [local go_sem] Cw YB Wl WX eV dF in
@[go_sem]def AJo:Q7 (Cw C j I) vK [.sl 5 (bN AC C),.i j,.i I] (fun h=>.tup [.fresh 1 (bN (tM 1 (cI .i64)) (h.1)),.i (h.2)]) [.any,.any,.any]:=CK xh (an @LO @Ou)
theorem AQG:vK.modes=[.bor,.bor,.bor]:=rfl
def ANX{J:(List (List Int))×Int}(h:Cw C j I=bS J):vK.F [.sl 5 (bN AC C),.int .i64 j,.int .i64 I]=⟨bR,.tup [.fresh 1 (bN (tM 1 (cI .i64)) J.1),.int .i64 J.2],[.any,.any,.any]⟩:=(Q8 AJo h:)
def AIY:=Af bI Tryz.f134 [0,2] [] [] []
abbrev Ib:=CV [] AIY [.bor]
instance s_spec_l27R_day:Sd bI 134 Ib:=Am
variable{C:L8}
attribute [local go_sem] Ff in
@[go_sem]def Ra{J:L8}{C:List AU}:Q7 (Ff (Hx.mk J I j C)) Ib [.ptr 4 [(.agg ([.str J,.i I,.i j,.sl 3 (bN Br C)]))] 0 0] .i [.any]:=CK AIY trivial
def Xv{r:Hx}(h:Ff r=bS j):Ib.F [.ptr 4 [FB r] 0 0]=⟨bR,.int .i64 j,[.any]⟩:=(Q8 Ra h:)
def AFF:=Af bI Tryz.f84 [0,2,3,4,5] [] [] [(13,5,2)]
def sy:List (Nat×Ao):=[]
instance:SdL bI sy:=SdL0
abbrev Sl:=CV sy AFF [.bor]
instance s_164:Sd bI 84 Sl:=Am
def eU(n:Int):(L8×Int)->St
 |(out,k)=>⟨[.i n,.any,.own 3200000,.i k,.any],[],[(3200000,⟨1,bN Js out⟩)],bR⟩
def dE(n:Int)(y:L8):FM:=(.exit 0,⟨[.i n,.any,.own 3200000,.any,.any],[],[(3200000,⟨1,bN Js y⟩)],bR⟩)
attribute [local go_sem] ES eU dE in
def VH{n:Int}:L7 (ES n) sy AFF 0 (eU n) (dE n):=Jd AFF trivial
attribute [local go_sem] BE sy eU dE in
@[go_sem]def AJn:Q7 (BE n) Sl [.i n] .str [.any]:=CK AFF @VH
theorem AQF:Sl.modes=[.bor]:=rfl
def ANW{j:L8}(h:BE n=bS j):Sl.F [.int .i64 n]=⟨bR,.str j,[.any]⟩:=(Q8 AJn h:)
def AOn:=Af bI Tryz.f88 [0,2] [(104,16),(116,16)] [] []
abbrev Yc:=CV [(84,Sl)] AOn [.bor]
instance s_165:Sd bI 88 Yc:=Am
attribute [local go_sem] EQ in
@[go_sem]def AJm:Q7 (EQ (AU.mk I C j)) Yc [.ptr 3 [(.agg ([.i I,.str C,.i j]))] 0 0] .str [.any]:=CK AOn trivial
theorem AQE:Yc.modes=[.bor]:=rfl
def ADp{C:AU}{j:L8}(h:EQ C=bS j):Yc.F [.ptr 3 [Br C] 0 0]=⟨bR,.str j,[.any]⟩:=(Q8 AJm h:)
def uR:=Af bI Tryz.f136 [0,1,4,5,6] [] [] [(26,8,4)]
def sx:List (Nat×Ao):=[]
instance:SdL bI sx:=SdL0
abbrev jh:=CV sx uR [.bor,.bor]
instance s_166:Sd bI 136 jh:=Am
def eT(j:L8):(Int×Int)->St
 |(sum,i)=>⟨[.any,.str j,.any,.i sum,.i i],[],[],bR⟩
def dD(j:L8)(y:Int):FM:=(.exit 0,⟨[.any,.any,.any,.i y,.any],[],[],bR⟩)
attribute [local go_sem] Ef eT dD in
def TO{j:L8}:L7 (Ef j) sx uR 0 (eT j) (dD j):=Jd uR trivial
attribute [local go_sem] Fe sx eT dD in
@[go_sem]def AJl:Q7 (Fe j C) jh [.i j,.str C] .i [.any,.any]:=CK uR @TO
def ANV(h:Fe j C=bS I):jh.F [.int .i64 j,.str C]=⟨bR,.int .i64 I,[.any,.any]⟩:=(Q8 AJl h:)
def AIX:=Af bI Tryz.f135 [0,1,4] [] [] []
abbrev jg:=CV [(88,Yc),(84,Sl)] AIX [.bor,.bor]
instance s_167:Sd bI 135 jg:=Am
attribute [local go_sem] If in
@[go_sem]def AJk:Q7 (If I (AU.mk J C j)) jg [.i I,.ptr 3 [(.agg ([.i J,.str C,.i j]))] 0 0] .str [.any,.any]:=CK AIX trivial
def ANU{I:AU}(h:If j I=bS C):jg.F [.int .i64 j,.ptr 3 [Br I] 0 0]=⟨bR,.str C,[.any,.any]⟩:=(Q8 AJk h:)
def AFa:=Af bI Tryz.f18 [0,1,4,5,6,7] [] [] [(59,25,4)]
def su:List (Nat×Ao):=[]
instance:SdL bI su:=SdL0
abbrev br:=CV su AFa [.bor,.bor]
instance s_168:Sd bI 18 br:=Am
def eS(s_:L8)(j:UInt8):((List L8)×Int×Int)->St
 |(out,from_,i)=>⟨[.str s_,.int .u8 (j.toNat:Int),.any,.own 3200000,.i from_,.i i],[],[(3200000,⟨1,bN c' out⟩)],bR⟩
def dC(s_:L8)(j:UInt8)(y:(List L8)×Int):FM:=(.exit 0,⟨[.str s_,.any,.any,.own 3200000,.i y.2,.any],[],[(3200000,⟨1,bN c' y.1⟩)],bR⟩)
attribute [local go_sem] FQ eS dC in
def TP{s_:L8}{I:UInt8}:L7 (FQ s_ I) su AFa 0 (eS s_ I) (dC s_ I):=Jd AFa trivial
attribute [local go_sem] ER su eS dC in
@[go_sem]def AJj{j:UInt8}:Q7 (ER s_ j) br [.str s_,.int .u8 (j.toNat:Int)] (fun h=>.fresh 1 (bN c' h)) [.any,.any]:=CK AFa @TP
theorem AQD:br.modes=[.bor,.bor]:=rfl
def sZ{j:UInt8}{C:(List L8)}(h:ER s_ j=bS C):br.F [.str s_,.int .u8 (j.toNat:Int)]=⟨bR,.fresh 1 (bN c' C),[.any,.any]⟩:=(Q8 AJj h:)
def xg:=Af bI Tryz.f76 [0,2,3,4,5,6] [] [] [(57,25,6)]
def YA:List (Nat×Ao):=[(126,pZ),(84,Sl)]
instance:SdL bI YA:=by unfold YA;infer_instance
abbrev bq:=CV YA xg [.bor]
instance s_169:Sd bI 76 bq:=Am
def Wk(s_ t:L8):(Int×Int)->St
 |(n,i)=>⟨[.str s_,.any,.any,.str t,.i n,.i i],[],[],bR⟩
def WW(s_ t:L8):(Int⊕(Int×Bool))->FM
 |.inl y=>(.exit 0,⟨[.str s_,.any,.any,.str t,.i y,.any],[],[],bR⟩)
 |.inr y=>(.ret,⟨[.any,.i y.1,.bool y.2,.any,.any,.any],[],[],bR⟩)
attribute [local go_sem] EL YA Wk WW in
def Rv{s_ t:L8}:L7 (EL s_ t) YA xg 0 (Wk s_ t) (WW s_ t):=Jd xg trivial
def eR(s_ t:L8):(Int×Int)->St
 |(n,i)=>⟨[.str s_,.any,.any,.str t,.i n,.i i],[],[],bR⟩
def dB(s_ t:L8):(Int⊕(Int×Bool))->FM
 |.inl y=>(.exit 0,⟨[.str s_,.any,.any,.str t,.i y,.any],[],[],bR⟩)
 |.inr y=>(.ret,⟨[.any,.i y.1,.bool y.2,.any,.any,.any],[],[],bR⟩)
attribute [local go_sem] KY YA eR dB Wk WW in
def Ru{s_ t:L8}:L7 (KY s_ t) YA xg 0 (eR s_ t) (dB s_ t):=Jd xg trivial
attribute [local go_sem] Bo YA Wk WW eR dB in
@[go_sem]def AJi:Q7 (Bo s_) bq [.str s_] (fun h=>.tup [.i (h.1),.bool (h.2)]) [.any]:=CK xg (an @Rv @Ru)
theorem AQC:bq.modes=[.bor]:=rfl
def Xx{j:Int×Bool}(h:Bo s_=bS j):bq.F [.str s_]=⟨bR,.tup [.int .i64 j.1,.bool j.2],[.any]⟩:=(Q8 AJi h:)
def AHs:=Af bI Tryz.f190 [0,2] [] [] []
abbrev ACZ:=CV [(75,PV)] AHs [.bor]
instance:Sd bI 190 ACZ:=Am
attribute [local go_sem] NT in
@[go_sem]def AQv:Q7 (NT n) ACZ [.i n] .bool [.any]:=CK AHs trivial
def AIZ:=Af bI Tryz.f133 [0,2] [] [] []
abbrev jf:=CV [(190,ACZ),(131,Yd),(75,PV)] AIZ [.bor]
instance s_171:Sd bI 133 jf:=Am
attribute [local go_sem] Ix in
@[go_sem]def AJh:Q7 (Ix (AU.mk I C j)) jf [.ptr 3 [(.agg ([.i I,.str C,.i j]))] 0 0] .bool [.any]:=CK AIZ trivial
def ANT{C:AU}{j:Bool}(h:Ix C=bS j):jf.F [.ptr 3 [Br C] 0 0]=⟨bR,.bool j,[.any]⟩:=(Q8 AJh h:)
section
variable (PINV:Value)
def ak:IR:=.seq (.test bX [ PM 15 2,PM 16 0,PO 17 (.nilck (.s 0)),PO 18 (.fldAddr 0 (.s 0)),PO 19 (.load bX 1 (.s 0)),PO 20 (.len bR (.s 0)),PO 21 (.bin bX .lss (.s 5) (.s 0)),PO 22 (.mov (.s 0)),⟨.push,23,(bS ((.s 0),bR)),.mov (.v 0)⟩,⟨.push,24,(bS ((.s 1),bR)),.nilck (.s 0)⟩,⟨.push,25,(bS ((.s 2),bR)),.fldAddr 0 (.s 0)⟩,⟨.push,26,(bS ((.s 3),bR)),.load bX 1 (.s 0)⟩,⟨.push,27,(bS ((.s 4),bR)),.mov (.v 2)⟩,⟨.push,28,(bS ((.s 5),bR)),.ixStr (.s 1) (.s 0)⟩,⟨.push,29,(bS ((.s 6),bR)),.bin bX .neq (.s 0) (.c (.int .u8 (10)))⟩,PO 30 (.pick (.s 7) (.s 0) (.c (.bool bX)))] (.s 0) (.skip) (.exit 0)) (.block 1 (.region bX [ PM 31 2,PO 32 (.bin bX .add (.s 0) (I6 1)),VS 2 3 0]))
def Vs:List Bool:=[bR,bR,bR,bX,bX,bX,bX,bX,bR,bR,bR]
def Vr:List Bool:=[bR,bR,bR,bX,bX,bX,bX,bX,bR,bR,bR]
def Vq:List Bool:=[bX,bR,bR,bX,bX,bX,bX,bX,bR,bR,bR]
def kQ:List Nat:=[0,2,3,4,5,6,7,8,9,10,0]
def iz:Bg:=⟨1,11,.seq (.region bX [ VO 1 2 (.mov (.c (.bool bX)))]) (.seq (.region bX [ PM 11 0,PO 12 (.nilck (.s 0)),PO 13 (.fldAddr 1 (.s 0)),PO 14 (.load bX 1 (.s 0)),VS 2 3 0]) (.seq (.block 0 (.loop Vs Vr Vq ak)) (.seq (.test bX [ PM 33 2,PM 34 0,PO 35 (.nilck (.s 0)),PO 36 (.fldAddr 0 (.s 0)),PO 37 (.load bX 1 (.s 0)),PO 38 (.len bR (.s 0)),PO 39 (.bin bX .geq (.s 5) (.s 0))] (.s 0) (.seq (.region bX [ VO 1 2 (.mov (.c (.bool bX)))]) (.ret)) (.skip)) (.seq (.anyo 11 [ SO 0 40 (.mov (.v 0)),SO 1 41 (.nilck (.s 0)), SO 2 42 (.fldAddr 0 (.s 1)),SO 3 43 (.load bX 1 (.s 2)),SO 4 44 (.mov (.v 0)),SO 5 45 (.nilck (.s 4)),SO 6 46 (.fldAddr 1 (.s 5)),SO 7 47 (.load bX 1 (.s 6)),SO 8 48 (.mov (.v 2)),SO 9 49 (.pur (.slice 0 (.s 3) (bS (.s 7)) (bS (.s 8)))),SO 10 50 (.pur (.call 18 [(.s 9),(.c (.int .u8 (32)))])),VS 3 4 10] [] .skip) (.seq (.test bX [ PM 51 3,PO 52 (.len bX (.s 0)),PO 53 (.bin bX .neq (.s 0) (I6 4))] (.s 0) (.seq (.region bX [ VO 1 2 (.mov (.c (.bool bX)))]) (.ret)) (.skip)) (.seq (.region bX [ PM 55 3,PO 56 (.ixAddr 1 (.s 0) (I6 0)),PO 57 (.load bX 1 (.s 0)),PO 58 (.call 76 [(.s 0)]),PO 54 (.mov (.s 0)),PO 59 (.ext (.s 0) 0),PO 60 (.ext (.s 1) 1),VS 4 5 1,VS 5 6 0]) (.seq (.region bX [ PM 62 3,PO 63 (.ixAddr 1 (.s 0) (I6 2)),PO 64 (.load bX 1 (.s 0)),PO 65 (.call 76 [(.s 0)]),PO 61 (.mov (.s 0)),PO 66 (.ext (.s 0) 0),PO 67 (.ext (.s 1) 1),VS 6 7 1,VS 7 8 0]) (.seq (.region bX [ PM 68 4,PM 69 3,PO 70 (.ixAddr 1 (.s 0) (I6 1)),PO 71 (.load bX 1 (.s 0)),PM 72 6,PO 73 (.build [.int .i64 (0),.str [],.int .i64 (0)] [(0,1,(.s 4)),(1,1,(.s 1)),(2,1,(.s 0))]),VO 8 9 (.alloc (.agg [.int .i64 (0),.str [],.int .i64 (0)])),⟨.no,0,cS,.store 3 (.v 8) (.s 0)⟩]) (.seq (.anyo 17 [ SO 0 74 (.mov (.v 5)),SO 1 75 (.un .not (.s 0)),SO 2 76 (.mov (.s 1)),⟨.slot 3,77,(bS ((.s 2),bX)),.mov (.v 7)⟩,⟨.slot 4,78,(bS ((.s 2),bX)),.un .not (.s 3)⟩,SO 5 79 (.pick (.s 2) (.c (.bool bR)) (.s 4)),SO 6 80 (.mov (.s 5)),⟨.slot 7,81,(bS ((.s 6),bX)),.call 133 [(.v 8)]⟩,⟨.slot 8,82,(bS ((.s 6),bX)),.un .not (.s 7)⟩,SO 9 83 (.pick (.s 6) (.c (.bool bR)) (.s 8)),SO 10 84 (.mov (.s 9)),⟨.slot 11,85,(bS ((.s 10),bX)),.fldAddr 0 (.v 8)⟩,⟨.slot 12,86,(bS ((.s 10),bX)),.load bX 1 (.s 11)⟩,⟨.slot 13,87,(bS ((.s 10),bX)),.mov (.v 0)⟩,⟨.slot 14,88,(bS ((.s 10),bX)),.call 134 [(.s 13)]⟩,⟨.slot 15,89,(bS ((.s 10),bX)),.bin bX .lss (.s 12) (.s 14)⟩,SO 16 90 (.pick (.s 10) (.c (.bool bR)) (.s 15))] [] (.cond (.s 16) (.seq (.region bX [ VO 1 2 (.mov (.c (.bool bX)))]) (.ret)) (.skip))) (.seq (.anyo 6 [ SO 0 91 (.mov (.v 0)),SO 1 92 (.nilck (.s 0)),SO 2 93 (.fldAddr 2 (.s 1)),SO 3 94 (.load bX 1 (.s 2)),SO 4 95 (.callp 88 [(.v 8)]),SO 5 96 (.callp 136 [(.s 3),(.s 4)]),VS 9 10 5] [] .skip) (.seq (.anyo 14 [ SO 0 97 (.mov (.v 9)),SO 1 98 (.callp 135 [(.s 0),(.v 8)]),SO 2 99 (.mov (.v 0)),SO 3 100 (.nilck (.s 2)),SO 4 101 (.fldAddr 0 (.s 3)),SO 5 102 (.load bX 1 (.s 4)),SO 6 103 (.mov (.v 0)),SO 7 104 (.nilck (.s 6)),SO 8 105 (.fldAddr 1 (.s 7)),SO 9 106 (.load bX 1 (.s 8)),SO 10 107 (.mov (.v 2)),SO 11 108 (.bin bX .add (.s 10) (I6 1)),SO 12 109 (.pur (.slice 0 (.s 5) (bS (.s 9)) (bS (.s 11)))),SO 13 110 (.bin bX .neq (.s 1) (.s 12))] [] (.cond (.s 13) (.seq (.region bX [ VO 1 2 (.mov (.c (.bool bX)))]) (.ret)) (.skip))) (.skip)))))))))))),[.t 1,.t 2,.t 8,.t 9]⟩
def Cf:List (Nat×Ao):=[(18,br),(76,bq),(133,jf),(134,Ib),(88,Yc),(136,jh),(135,jg)]
theorem Ri:MI Cf 18=bS br:=rfl
theorem Rh:MI Cf 76=bS bq:=rfl
theorem Qo:MI Cf 133=bS jf:=rfl
theorem Qn:MI Cf 134=bS Ib:=rfl
theorem Rf:MI Cf 88=bS Yc:=rfl
theorem Ql:MI Cf 136=bS jh:=rfl
theorem Qm:MI Cf 135=bS jg:=rfl
attribute [go_sem] Ri Rh Qo Qn Rf Ql Qm
def Iv(r:Hx)(j:Bool):Int->St
 |end_=>⟨[.ptr 4 [FB r] 0 0,.bool j,.i end_,.any,.any,.any,.any,.any,.any,.any,.cv PINV],[],[],bR⟩
def Iu(r:Hx)(j:Bool)(y:Int):FM:=(.exit 0,⟨[.ptr 4 [FB r] 0 0,.bool j,.i y,.any,.any,.any,.any,.any,.any,.any,.cv PINV],[],[],bR⟩)
variable{r:Hx}
attribute [local go_sem] iz Iv Iu ak Vs Vr Vq in
def Rd{U:Bool}{C I:Int}(h:AE (Dh r U) C=bS I):∃L0,∀L,L0<=L->Og (CH (MI Cf) L ak) Vs Vr Vq L (Iv PINV r U C)=Iu PINV r U I:=by
 refine OA (E:=Iv PINV r U) (R:=Iu PINV r U) (fun y=>by first|(intro c;cases c)|(rcases y with y|y<;>(intro c;cases c))|(rcases y with y|y|y<;>(intro c;cases c))) ?_ h;clear h;intro end_ o_ h;dsimp only[Dh]at h;obtain⟨J,h⟩:=AY h;rcases Ev J with⟨j,J⟩|j
 .try simp only[go_sem,n1,n2,n3,n4]at j
  all_goals
  try simp only[go_sem,n1,n2,n3,n4,j]at J
  all_goals
  rcases Au h with⟨z2,h⟩|⟨z2,h⟩
  all_goals
  try simp only[go_sem,n1,n2,n3,n4,j,J]at z2
  all_goals
  obtain rfl:=AX h;refine⟨0,fun L hL=>?_⟩;simp only[go_sem,j,J,z2]
 .try simp only[go_sem,n1,n2,n3,n4]at j
  all_goals
  rcases Au h with⟨z2,h⟩|⟨z2,h⟩
  .try simp only[go_sem,n1,n2,n3,n4,j]at z2
   all_goals
   (simp_all)
  .try simp only[go_sem,n1,n2,n3,n4,j]at z2
   all_goals
   obtain rfl:=AX h;refine⟨0,fun L hL=>?_⟩;simp only[go_sem,j,z2]
def ANo(q:FM)(y:Option (Int×Int×AU)):Prop:=match y with
 |none=>q.1 = .ret/\(q.2.ok=bR/\q.2.vs.getD 1 .any = .bool bX)
 |some p=>q.1 = .norm/\(q.2.ok=bR/\(q.2.vs.getD 2 .any = .int .i64 p.1/\(q.2.vs.getD 9 .any = .int .i64 p.2.1/\q.2.vs.getD 10 .any = .cv PINV/\∃k,q.2.vs.getD 8 .any = .ref k 0 0/\AK k q.2.ob=bS ⟨3,[Br p.2.2]⟩)))
attribute [local go_sem] Iv Iu Vs Vr Vq iz in
def xb{y_:Option (Int×Int×AU)}(h:Jw r=bS y_):∃L0,∀L,L0<=L->ANo PINV (CH (MI Cf) L iz.body ⟨[.ptr 4 [FB r] 0 0,.any,.any,.any,.any,.any,.any,.any,.any,.any,.cv PINV],[],[],bR⟩) y_:=by
 dsimp only[Jw]at h;obtain⟨dx,z3,h⟩:=AO h;obtain⟨bo,U⟩:=Rd PINV z3;rcases Au h with⟨z4,h⟩|⟨z4,h⟩
 .try simp only[go_sem,n1,n2,n3,n4]at z4
  all_goals
  obtain rfl:=AX h;refine⟨bo,fun L hL=>?_⟩;have U:=U L n';try simp only[go_sem,z4]at U
  simp only[go_sem,z4,U];exact⟨rfl,rfl,rfl⟩
 .try simp only[go_sem,n1,n2,n3,n4]at z4
  all_goals
  obtain⟨z5,h⟩:=AY h;try simp only[go_sem,n1,n2,n3,n4,z4]at z5
  all_goals
  obtain⟨cb,z6,h⟩:=AO h;have be:=sZ z6;try simp only[go_sem,z4,z5]at be
  rcases Au h with⟨z7,h⟩|⟨z7,h⟩
  .try simp only[go_sem,n1,n2,n3,n4,z4,z5]at z7
   all_goals
   obtain rfl:=AX h;refine⟨bo,fun L hL=>?_⟩;have U:=U L n';try simp only[go_sem,z4,z5,z7]at U
   simp only[go_sem,z4,z5,be,z7,U];exact⟨rfl,rfl,rfl⟩
  .try simp only[go_sem,n1,n2,n3,n4,z4,z5]at z7
   all_goals
   obtain⟨z8,h⟩:=AY h;have bb:=Kk z8;have bz:=CR c' cb bb;try simp only[go_sem]at bb
   try simp only[go_sem]at bz
   try simp only[go_sem,n1,n2,n3,n4,z4,z5,z7]at z8
   all_goals
   obtain⟨dw,z9,h⟩:=AO h;have b0:=Xx z9;try simp only[go_sem,z4,z5,z7,z8]at b0
   obtain⟨C,h⟩:=AY h;have az:=Kk C;have a6:=CR c' cb az;try simp only[go_sem]at az
   try simp only[go_sem]at a6
   try simp only[go_sem,n1,n2,n3,n4,z4,z5,z7,z8]at C
   all_goals
   obtain⟨dc,ct,h⟩:=AO h;have a7:=Xx ct;try simp only[go_sem,z4,z5,z7,z8,C]at a7
   obtain⟨z12,h⟩:=AY h;have ay:=Kk z12;have a1:=CR c' cb ay;try simp only[go_sem]at ay
   try simp only[go_sem]at a1
   try simp only[go_sem,n1,n2,n3,n4,z4,z5,z7,z8,C]at z12
   all_goals
   obtain⟨ca,h⟩:=AY h;rcases Ev ca with⟨j,ca⟩|j
   .try simp only[go_sem,n1,n2,n3,n4,z4,z5,z7,z8,C,z12]at j
    all_goals
    obtain⟨db,I⟩:=zX ca;have bh:=ANT I;try simp only[go_sem,n1,n2,n3,n4,z4,z5,z7,z8,C,z12,j]at I
    all_goals
    try simp only[go_sem,z4,z5,z7,z8,C,z12,j]at bh
    obtain⟨b2,h⟩:=AY h;rcases Ev b2 with⟨aa,b2⟩|aa
    .try simp only[go_sem,n1,n2,n3,n4,z4,z5,z7,z8,C,z12,j,I]at aa
     all_goals
     obtain⟨c8,ad⟩:=zX b2;have b1:=Xv ad;try simp only[go_sem,n1,n2,n3,n4,z4,z5,z7,z8,C,z12,j,I,aa]at ad
     all_goals
     try simp only[go_sem,z4,z5,z7,z8,C,z12,j,I,aa]at b1
     rcases Au h with⟨R,h⟩|⟨R,h⟩
     .try simp only[go_sem,n1,n2,n3,n4,z4,z5,z7,z8,C,z12,j,I,aa,ad]at R
      all_goals
      obtain rfl:=AX h;refine⟨bo,fun L hL=>?_⟩;have U:=U L n';try simp only[go_sem,z4,z5,z7,z8,C,z12,j,I,aa,ad,R]at U
      simp only[go_sem,z4,z5,be,z7,z8,bb,bz,b0,C,az,a6,a7,z12,ay,a1,j,I,bh,aa,ad,b1,R,U];exact⟨rfl,rfl,rfl⟩
     .try simp only[go_sem,n1,n2,n3,n4,z4,z5,z7,z8,C,z12,j,I,aa,ad]at R
      all_goals
      obtain⟨c7,cn,h⟩:=AO h;have b7:=ADp cn;try simp only[go_sem,z4,z5,z7,z8,C,z12,j,I,aa,ad,R]at b7
      obtain⟨c6,cm,h⟩:=AO h;have b6:=ANV cm;try simp only[go_sem,z4,z5,z7,z8,C,z12,j,I,aa,ad,R]at b6
      obtain⟨cw,cl,h⟩:=AO h;have b5:=ANU cl;try simp only[go_sem,z4,z5,z7,z8,C,z12,j,I,aa,ad,R]at b5
      obtain⟨bs,h⟩:=AY h;try simp only[go_sem,n1,n2,n3,n4,z4,z5,z7,z8,C,z12,j,I,aa,ad,R]at bs
      all_goals
      rcases Au h with⟨z20,h⟩|⟨z20,h⟩
      .try simp only[go_sem,n1,n2,n3,n4,z4,z5,z7,z8,C,z12,j,I,aa,ad,R,bs]at z20
       all_goals
       obtain rfl:=AX h;refine⟨bo,fun L hL=>?_⟩;have U:=U L n';try simp only[go_sem,z4,z5,z7,z8,C,z12,j,I,aa,ad,R,bs,z20]at U
       simp only[go_sem,z4,z5,be,z7,z8,bb,bz,b0,C,az,a6,a7,z12,ay,a1,j,I,bh,aa,ad,b1,R,b7,b6,b5,bs,z20,U];exact⟨rfl,rfl,rfl⟩
      .try simp only[go_sem,n1,n2,n3,n4,z4,z5,z7,z8,C,z12,j,I,aa,ad,R,bs]at z20
       all_goals
       obtain rfl:=AX h;refine⟨bo,fun L hL=>?_⟩;have U:=U L n';try simp only[go_sem,z4,z5,z7,z8,C,z12,j,I,aa,ad,R,bs,z20]at U
       simp only[go_sem,z4,z5,be,z7,z8,bb,bz,b0,C,az,a6,a7,z12,ay,a1,j,I,bh,aa,ad,b1,R,b7,b6,b5,bs,z20,U];exact⟨rfl,rfl,rfl,rfl,rfl,_,rfl,rfl⟩
    .have cd:=Ov aa;rcases AEg cd with a8|⟨a8,b8⟩
     .try simp only[go_sem,n1,n2,n3,n4,z4,z5,z7,z8,C,z12,j,I]at a8
      all_goals
      (simp_all)
     .obtain⟨b4,b3⟩:=AKi a8;have ab:=Ov b4;have aj:=Ov b3;have au:=TU b8;try simp only[go_sem,n1,n2,n3,n4,z4,z5,z7,z8,C,z12,j,I]at ab
      all_goals
      try simp only[go_sem,n1,n2,n3,n4,z4,z5,z7,z8,C,z12,j,I,ab]at aj
      all_goals
      try simp only[go_sem,n1,n2,n3,n4,z4,z5,z7,z8,C,z12,j,I,ab,aj]at au
      all_goals
      rcases Au h with⟨R,h⟩|⟨R,h⟩
      .try simp only[go_sem,n1,n2,n3,n4,z4,z5,z7,z8,C,z12,j,I,ab,aj,au]at R
       all_goals
       obtain rfl:=AX h;refine⟨bo,fun L hL=>?_⟩;have U:=U L n';try simp only[go_sem,z4,z5,z7,z8,C,z12,j,I,ab,aj,au,R]at U
       simp only[go_sem,z4,z5,be,z7,z8,bb,bz,b0,C,az,a6,a7,z12,ay,a1,j,I,bh,ab,aj,au,R,U];exact⟨rfl,rfl,rfl⟩
      .try simp only[go_sem,n1,n2,n3,n4,z4,z5,z7,z8,C,z12,j,I,ab,aj,au]at R
       all_goals
       (simp_all)
   .have cf:=Ov j;rcases AEg cf with ba|⟨ba,b9⟩
    .have J:=TU ba;try simp only[go_sem,n1,n2,n3,n4,z4,z5,z7,z8,C,z12]at J
     all_goals
     obtain⟨b2,h⟩:=AY h;rcases Au h with⟨R,h⟩|⟨R,h⟩
     .try simp only[go_sem,n1,n2,n3,n4,z4,z5,z7,z8,C,z12,J]at R
      all_goals
      obtain rfl:=AX h;refine⟨bo,fun L hL=>?_⟩;have U:=U L n';try simp only[go_sem,z4,z5,z7,z8,C,z12,J,R]at U
      simp only[go_sem,z4,z5,be,z7,z8,bb,bz,b0,C,az,a6,a7,z12,ay,a1,J,R,U];exact⟨rfl,rfl,rfl⟩
     .try simp only[go_sem,n1,n2,n3,n4,z4,z5,z7,z8,C,z12,J]at R
      all_goals
      (simp_all)
    .have J:=Ov ba;have ax:=TU b9;try simp only[go_sem,n1,n2,n3,n4,z4,z5,z7,z8,C,z12]at J
     all_goals
     try simp only[go_sem,n1,n2,n3,n4,z4,z5,z7,z8,C,z12,J]at ax
     all_goals
     obtain⟨b2,h⟩:=AY h;rcases Au h with⟨R,h⟩|⟨R,h⟩
     .try simp only[go_sem,n1,n2,n3,n4,z4,z5,z7,z8,C,z12,J,ax]at R
      all_goals
      obtain rfl:=AX h;refine⟨bo,fun L hL=>?_⟩;have U:=U L n';try simp only[go_sem,z4,z5,z7,z8,C,z12,J,ax,R]at U
      simp only[go_sem,z4,z5,be,z7,z8,bb,bz,b0,C,az,a6,a7,z12,ay,a1,J,ax,R,U];exact⟨rfl,rfl,rfl⟩
     .try simp only[go_sem,n1,n2,n3,n4,z4,z5,z7,z8,C,z12,J,ax]at R
      all_goals
      (simp_all)
end
def gE:Nat->Code->Code
 |n+1,.seq _ b=>gE n b
 |_,c=>c
def qN(c:Code):gE 0 c=c:=by cases c<;>rfl
def Uk(P:Program)(n:Nat)(j:List Nat):Nat->Code->IR->Bool
 |0,_,.skip=>bR
 |m+1,.seq a b,.seq a' C=>rp P n j a a'&&Uk P n j m b C
 |_,_,_=>bX
def pG{F ad:Nat->Prop}{w0:dU}{g0:Gh}{o0:Cx}{ds:List Deferred}{vm:List Nat}{P:Program}{T:Le}{n L:Nat}(hT:Ls P T):
  ∀(m:Nat) (c:Code) (J:IR) {Q:Exit->Act->dU->Prop} {s:St} {g:Gh} {w:dU} {tmps:Array Value},Uk P n vm m c J=bR->FX F ad w0 g0 o0 g w tmps vm [] s->tmps.size=n->(CH T L J s).2.ok=bR ->
  (∀C w' g',C.size=n->FX F ad w0 g0 o0 g' w' C vm [] (CH T L J s).2->Exit.then ((gE m c).wp P Q) Q (Wu (CH T L J s).1) ⟨C,ds⟩ w')->c.wp P Q ⟨tmps,ds⟩ w
 | 0,c,J,Q,s,g,w,tmps,hc,h,hn,j,R=>by
  cases J<;>first|(simp[Uk]at hc;done)|skip
  have:=R tmps w g hn h;rw[qN]at this;exact this
 | m+1,c,J,Q,s,g,w,tmps,hc,h,hn,j,R=>by
  cases c<;>first|(simp[Uk]at hc;done)|skip
  rename_i a b;cases J<;>first|(simp[Uk]at hc;done)|skip
  rename_i a' b';simp only[Uk,baT]at hc;simp only[CH]at j R
  have ab:(CH T L a' s).2.ok=bR:=by
   revert j;generalize CH T L a' s=r;intro j;obtain⟨e,s'⟩:=r;cases e
   .have h3:=Ej b' j;exact h3
   .exact j
   .exact j
  refine wp_seq (LM hT trivial a a' hc.1 h hn ab fun C w' g' U I=>?_);revert j R I;generalize CH T L a' s=r;intro j R I;obtain⟨e,s'⟩:=r;cases e
  .exact pG hT m b b' hc.2 I U j R
  .exact R _ _ _ U I
  .exact R _ _ _ U I
def Xi(e:AU):List Value:=[.int .i64 e.Day,.string ⟨e.What.toArray⟩,.int .i64 e.Value]
def Tg(l:List AU):List Value:=l.flatMap Xi
def jU:∀(l:List AU) (i j:Nat),i<l.length->j<3->(Tg l)[i*3+j]? = (Xi (l.getD i default))[j]?
 |[],i,j,hi,_=>absurd hi p'
 | e::l,0,j,_,C=>by
  simp only[Tg,fs,ev,e8,ef];exact List.getElem?_append_left (by simpa[Xi]using C)
 | e::l,i+1,j,hi,C=>by
  have I:=jU l i j (by simpa using hi) C;simp only[Tg,fs,ek]at I ⊢;rw[List.getElem?_append_right (by simp only[Xi,fu,fy];omega),←I]
  congr 1
  simp only[Xi,fu,fy];omega
structure LS(N rb:Nat)(w:dU)(r:Hx)(v:Value):Prop where
 blk:∃T,w.heap[rb]? = bS (.cells #[.string ⟨r.s_.toArray⟩,.int .i64 r.at_,.int .i64 r.stamp_,v] T (0,0))
 row:w.ownsRow N 131 3 v r.list_.length (Tg r.list_)
 own:v.ownBlock≠bS rb
 low:N<=rb
variable{j:Nat}{S:Nat->Prop}{w:dU}{u:Value}
def rc(e:AU)(I:j<3)(C:(Xi e)[j]? = bS u):VR S w u ((Br e).cells.getD j .any):=by
 match j,I with
 |0,_=>cases C;exact .int
 |1,_=>cases C;exact .str
 |2,_=>cases C;exact .int
def nq{α:Type}[Inhabited α](f:α->AV)(l:List α){i:Nat}(hi:i<l.length):(bN f l).getD i .any=f (l.getD i default):=by
 rw[gdE,List.getElem?_map,gdE,geE hi];rfl
def iL{S:Nat->Prop}{w:dU}{N n:Nat}{T:TypeId}{v:Value}{l:List AU}(h:w.ownsRow N T 3 v l.length (Tg l))(hS:∀b,v.ownBlock=bS b->¬ S b):VR S w v (.sl 3 (bN Br l)):=by
 obtain⟨_,h⟩:=h;rcases h with⟨rfl,hn⟩|⟨g,cap,cur,rfl,hb,hh,hle,_,hs,U⟩
 .have:l=[]:=List.length_eq_zero_iff.1 hn;subst this;exact .sl 0 0 (fun _ _=>dT) rfl (e9 _) n' (fun h=>absurd h p') (fun i hi=>absurd hi p') (fun i j hi=>absurd hi p') (fun i j hi=>absurd hi p')
 .have J:∀i j,i<l.length->j<3->cur[i*3+j]? = (Xi (l.getD i default))[j]?:=fun i j hi I=>by
   rw[←jU l i j hi I,←U,List.getElem?_take_of_lt n',Array.getElem?_toList]
  have C:∀i j,i<l.length->j<3->cur[i*3+j]? = bS (cur.getD (i*3+j) dT):=fun i j hi I=>by
   rw[agD,J i j hi I,geE (by simpa[Xi]using I)];rfl
  refine .sl g 0 (fun i j=>cur.getD (i*3+j) dT) p' hle n' (fun _=>⟨rfl,hS g rfl⟩) (fun i hi=>?_) (fun i j hi I=>?_) (fun i j hi I=>?_)
  .rw[nq _ _ (by simpa using hi)];exact⟨rfl,rfl⟩
  .rw[e8,e7 w g (i*3+j) cur T (0,0) hh];exact C i j (by simpa using hi) I
  .have R:i<l.length:=by simpa using hi
   rw[nq _ _ R];exact rc _ I (by rw[←J i j R I,C i j R I])
def LS.ptr{S:Nat->Prop}{N C:Nat}{w:dU}{r:Hx}{v:Value}(h:LS N C w r v)(U:¬ S C)(J:∀b,v.ownBlock=bS b->¬ S b):VR S w (.pointer (bS ⟨C,0,cS⟩)) (.ptr 4 [FB r] 0 0):=by
 obtain⟨T,hb⟩:=h.blk;have R:=iL (n:=0) h.row J;have one:∀{i:Nat},i < [FB r].length->i=0:=fun h=>by simpa using h
 refine VR.ptr (sz:=4) (els:=[FB r]) (i0:=0) (o0:=0) C 0 (fun _ j=>(#[e3 ⟨r.s_.toArray⟩,.int .i64 r.at_,.int .i64 r.stamp_,v]:Array Value).getD j dT) n' p' U (fun i hi=>?_) (fun i j hi I=>?_) (fun i j hi I=>?_)
 .cases one hi;exact⟨rfl,rfl⟩
 .cases one hi
  rw[e8,ev,e8,e7 w C j _ T (0,0) hb]
  match j,I with
  |0,_=>rfl
  |1,_=>rfl
  |2,_=>rfl
  |3,_=>rfl
 .cases one hi
  match j,I with
  |0,_=>exact .str
  |1,_=>exact .int
  |2,_=>exact .int
  |3,_=>exact R
def LS.same{N I:Nat}{w w':dU}{r:Hx}{v:Value}(h:LS N I w r v)(hs:AD C' w w'):LS N I w' r v:=by
 have lt:∀{b:Nat} {o:Obj},w.heap[b]? = bS o->w'.heap[b]? = bS o:=fun{b o} hb=>by
  have:b<w.heap.size:=by
   rcases fi b w.heap.size with C |C
   .exact C
   .rw[Array.getElem?_eq_none C]at hb;cases hb
  rw[hs.block b this (fun c=>c),hb]
 refine⟨?_,⟨h.row.1,?_⟩,h.own,h.low⟩
 .obtain⟨T,hb⟩:=h.blk;exact⟨T,lt hb⟩
 .rcases h.row.2 with j|⟨g,cap,cur,j,h2,R,J⟩
  .exact .inl j
  .exact .inr ⟨g,cap,cur,j,h2,lt R,J⟩
def AAk:(match e6.body with|some c=>Uk bI 130 kQ 12 c iz.body|none=>bX)=bR:=o'
def ALE:Ls bI (MI Cf) :=
 Oe (NV s_168.s (NV s_169.s (NV s_171.s (NV s_spec_l27R_day.s (NV s_165.s (NV s_166.s (NV s_167.s tK)))))))
structure AJK(N rb:Nat)(w0:dU)(r:Hx)(v:Value)(q:Int×Int×AU)(tmps:Array Value)(w:dU)(eb:Nat):Prop where
 size:tmps.size=130
 t0:tmps.getD 0 dT = .pointer (bS ⟨rb,0,cS⟩)
 t3:tmps.getD 3 dT = .int .i64 q.1
 t10:tmps.getD 10 dT = .int .i64 q.2.1
 t9:tmps.getD 9 dT = .pointer (bS ⟨eb,0,cS⟩)
 cell:∀j u,(Xi q.2.2)[j]? = bS u->w.cell? ⟨eb,j,cS⟩=bS u
 same:AD C' w0 w
 eb:w0.heap.size<=eb
variable{C:Nat}{e:AU}
def AGd{C:Array Value}(h:∀j,j<3->VR S w (C.getD j dT) ((Br e).cells.getD j .any))(I:(Xi e)[j]? = bS u):C.getD j dT=u/\j<3:=by
 have J:j<3:=by
  rcases fi j 3 with R |R
  .exact R
  .rw[List.getElem?_eq_none (by simpa[Xi]using R)]at I;cases I
 refine⟨?_,J⟩;have:=h j J;revert this;generalize C.getD j dT=x
 match j,J with
 |0,_=>intro h;cases h;cases I;rfl
 |1,_=>intro h;cases h;cases I;rfl
 |2,_=>intro h;cases h;cases I;rfl
variable{N:Nat}{r:Hx}{v:Value}{c:Code}{R:Int}
def AAj{rb:Nat}{y:Option (Int×Int×AU)}{R:Ending->dU->Prop}(U:Jw r=bS y)(hL:LS N rb w r v)(hG:GT C' w)
  (hb:e6.body=bS c)
  (aj:y=cS->∀C w',AD C' w w'->C.getD 2 dT = .bool bX->C.size=130->bodyPost bI e6 R .ret ⟨C,[]⟩ w')
  (ae:∀q,y=bS q->∀C w' eb,AJK N rb w r v q C w' eb->(gE 12 c).wp bI (bodyPost bI e6 R) ⟨C,[]⟩ w') :
  Calls bI 177 #[.pointer (bS ⟨rb,0,cS⟩)] w R:=by
 refine calls_of_wp Tryz.func177 hb ?_;have au:=AAk;rw[hb]at au;simp only at au;obtain⟨L,U⟩:=xb (.pointer (bS ⟨rb,0,cS⟩)) U;have J:=U L (e9 _);clear U;rw[Tryz.ntmps177];generalize hE:CH (MI Cf) L iz.body _=res at J
 have ab:∀b,AR C' ⟨fun _=>0,fun _=>0⟩ ([]:Cx) b->False:=by
  rintro b (h|⟨k,⟨⟨hm,hk⟩,_⟩,_⟩)
  .exact h
  .cases hk
 have ao:∀k,¬ Mo (⟨fun _=>0,fun _=>0⟩:Gh) ([]:Cx) k:=fun k ⟨⟨hm,hk⟩,_⟩=>by cases hk
 have a1:(#[cB (bS ⟨rb,0,cS⟩)]++Array.replicate (130-(#[cB (bS ⟨rb,0,cS⟩)]:Array Value).size) dT).size=130:=p'
 have h0:(#[cB (bS ⟨rb,0,cS⟩)]++Array.replicate (130-(#[cB (bS ⟨rb,0,cS⟩)]:Array Value).size) dT).getD 0 dT = .pointer (bS ⟨rb,0,cS⟩):=by
  rw[QS,if_pos p'];rfl
 have be:FX C' C' w ⟨fun _=>0,fun _=>0⟩ [] ⟨fun _=>0,fun _=>0⟩ w (#[cB (bS ⟨rb,0,cS⟩)]++Array.replicate (130-(#[cB (bS ⟨rb,0,cS⟩)]:Array Value).size) dT) kQ []
   ⟨[.ptr 4 [FB r] 0 0,.any,.any,.any,.any,.any,.any,.any,.any,.any,.cv (.pointer (bS ⟨rb,0,cS⟩))],[],[],bR⟩:=by
  refine⟨⟨fun k h hk=>(by cases hk),fun k k' a=>(ao k a).elim,fun k a=>(ao k a).elim,fun b hb=>hb.elim,rfl,rfl,fun i hi=>?_,fun i hi=>absurd hi p',fun t ht=>?_,hG.mono (AD.refl _ _) fun b _ c=>ab b c⟩,AD.refl _ _,fun k a=>(ao k a).elim,fun b hb=>hb.elim,fun k hm _ hg=>(by cases hg)⟩
  .match i,hi with
   | 0,_=>
    show VR _ w ((_:Array Value).getD 0 dT) _;rw[h0];exact hL.ptr (fun c=>ab _ c) fun b _ c=>ab b c
   |1,_=>exact SR.any
   |2,_=>exact SR.any
   |3,_=>exact SR.any
   |4,_=>exact SR.any
   |5,_=>exact SR.any
   |6,_=>exact SR.any
   |7,_=>exact SR.any
   |8,_=>exact SR.any
   |9,_=>exact SR.any
   | 10,_=>
    show VR _ w ((_:Array Value).getD 0 dT) _;rw[h0];exact VR.cv
  .rw[a1];rcases ht with ht|ht
   .simp only[kQ,List.mem_cons,List.not_mem_nil,or_false]at ht;omega
   .simp at ht
 have ba:res.2.ok=bR:=by
  cases y with
  |none=>exact J.2.1
  |some q=>exact J.2.1
 refine pG (L:=L) (ds:=[]) ALE 12 c iz.body au be a1 (by rw[hE];exact ba) fun C w' g' a6 I=>?_
 rw[hE]at I ⊢;cases y with
 | none=>
  obtain⟨h1,_,h2⟩:=J;rw[h1];have hv:=I.vs 1 x';rw[h2]at hv;exact aj rfl C w' I.same (PC hv) a6
 | some q=>
  obtain⟨h1,_,h2,h3,h4,k,h5,h6⟩:=J;rw[h1];have v2:=I.vs 2 x';have v9:=I.vs 9 x';have v10:=I.vs 10 x';have v8:=I.vs 8 x';rw[h2]at v2;rw[h3]at v9;rw[h4]at v10;rw[h5]at v8;have hH:=I.home k _ h6;obtain⟨hm,ho,_,ay⟩:=v8;rw[h6]at ho;cases ho
  have ad:0<g'.cap k:=hH.len;obtain⟨arr,T,fz,hr,hf,hs,a8⟩:=hH.row ad;have bb:Mo g' res.2.ob k:=⟨⟨_,h6⟩,ad⟩
  have ax:∀j,j<3->VR _ w' (arr.getD j dT) ((Br q.2.2).cells.getD j .any):=fun j hj=>by
   have:=a8 0 j p' hj;rw[ev,e8]at this;exact this
  refine ae q rfl C w' (g'.β k) ⟨a6,?_,?_,?_,?_,fun j u hu=>?_,I.same,?_⟩
  .have e:∀{x p:Value},SR (AR C' g' res.2.ob) w' g' res.2.ob x (.cv p)->x=p:=fun h=>by cases h;rfl
   exact e v10
  .have e:∀{x:Value},SR (AR C' g' res.2.ob) w' g' res.2.ob x (.int .i64 q.1)->x = .int .i64 q.1:=fun h=>by cases h;rfl
   exact e v2
  .have e:∀{x:Value},SR (AR C' g' res.2.ob) w' g' res.2.ob x (.int .i64 q.2.1)->x = .int .i64 q.2.1:=fun h=>by cases h;rfl
   exact e v9
  .rw[ev]at ay;exact ay
  .obtain⟨e1,e2⟩:=AGd ax hu;rw[e7 w' (g'.β k) j arr T fz hr,←e1,agD,Array.getElem?_eq_getElem (by have b4:arr.size=g'.cap k*3:=hs;omega)];rfl
  .rcases I.hio k bb with h|h
   .exact h
   .exact h.elim
variable{n:Nat}
def AGY(t:Array Value)(h:t.size=n):t=((fI n).map fun i=>t.getD i dT).toArray:=by
 subst h;apply Array.ext
 .simp
 .intro i j h2;simp[agD,Array.getElem?_eq_getElem j]
def ABd:(bI.info? 131).map (fun i=>(i.zero,i.size,i.bytes))=bS (bS (.agg #[.int .i64 0,.string ⟨#[]⟩,.int .i64 0]),3,32):=o'
def yz:bI.underlying 110=bS (.slice 131):=o'
variable{T:TypeId}{b:List L8}
def AKg{xs:List Value}{sz b:Nat}(h:w.ownsRow N T sz v n xs)(hb:v.ownBlock=bS b):b<w.heap.size:=by
 rcases h.2 with⟨rfl,_⟩|⟨g,cap,cur,rfl,_,C,_⟩
 .cases hb
 .obtain rfl:g=b:=by simpa[e4]using hb
  rcases fi g w.heap.size with j |j
  .exact j
  .rw[Array.getElem?_eq_none j]at C;cases C
def sW(N j:Nat)(w:dU)(r:Hx)(b:Bool)(e:Ending)(w':dU):Prop:=e = .returned (.bool b)/\Below N w w'/\∃v,LS N j w' r v
variable{w':dU}
def cE(h:AD C' w w')(C:N<=w.heap.size):Below N w w':=⟨h.os,h.tape,h.output,h.size,fun k j=>h.block k n' fun c=>c⟩
def ra(l:List AU)(e:AU):Tg (l++[e])=Tg l++Xi e:=by simp[Tg]
def AAi{N j:Nat}{w R w2:dU}{r:Hx}{v:Value}{e:AU}{T:TypeId}{at' st:Int}{o:Obj}{g cap:Nat}(hN:N<=w.heap.size)(I:AD C' w R)
  (ae:R.heap[j]? = bS (.cells #[.string ⟨r.s_.toArray⟩,.int .i64 r.at_,.int .i64 r.stamp_,v] T (0,0))) (aj:j<R.heap.size) (C:N<=j) (ab:v.ownBlock≠bS j) (aa:∀b,v.ownBlock=bS b->N<=b)
  (U:w2.ownsRow N 131 3 (.slice (bS ⟨g,0,cS⟩) (r.list_.length+1) cap) (r.list_.length+1) (Tg r.list_++Xi e))
  (J:((R.alloc o).drew).grownBy w2 v.ownBlock) (ao:v.ownBlock=bS g\/g=R.heap.size+1) :
  sW N j w ⟨r.s_,at',st,r.list_++[e]⟩ bR (.returned (.bool bR))
   (((w2.setCell ⟨j,3,cS⟩ (.slice (bS ⟨g,0,cS⟩) (r.list_.length+1) cap)).setCell ⟨j,2,cS⟩ (.int .i64 st)).setCell ⟨j,1,cS⟩ (.int .i64 at')):=by
 have ad:g≠j:=by
  rcases ao with h|h
  .intro c;exact ab (by rw[h,c])
  .omega
 have au:N<=R.heap.size:=Nat.le_trans hN I.size;have ay:((R.alloc o).drew).heap.size=R.heap.size+1:=by show(R.heap.push o).size=_;simp
 have h2:w2.heap[j]? = bS (.cells #[.string ⟨r.s_.toArray⟩,.int .i64 r.at_,.int .i64 r.stamp_,v] T (0,0)):=by
  rw[J.block j n' (fun c=>ab c.symm),←ae];exact d' R o j aj
 refine⟨rfl,?_,.slice (bS ⟨g,0,cS⟩) (r.list_.length+1) cap,?_⟩
 .refine((Below.setCell ?_ C _).setCell C _).setCell C _;refine Below.grown ?_ J n' aa;exact((cE I hN).alloc au o).drew
 .refine⟨⟨T,?_⟩,?_,?_,C⟩
  .rw[eL _ j 1 _ T _ (eL _ j 2 _ T _ (eL _ j 3 _ T _ h2))];rfl
  .rw[ra,List.length_append,fm];refine eu (eu (eu U ?_ _) ?_ _) ?_ _<;>(simp[e4];exact ad)
  .simp[e4];exact ad
variable{I:Int}
set_option maxRecDepth 100000 in
def xW{I:Nat}{C:dU}{q:Int×Int×AU}{tmps:Array Value}{eb:Nat}(hb:e6.body=bS c)(hL:LS N I w r v)(hM:AJK N I w r v q tmps C eb)
  (hN:N<=w.heap.size) (b3:r.list_.length+1<=maxLen) (aj:(r.list_.length+1)*32<=140737488355328) :
  (gE 12 c).wp bI (bodyPost bI e6 (sW N I w ⟨r.s_,i64.wrap (q.1+1),q.2.1,r.list_++[q.2.2]⟩ bR)) ⟨tmps,[]⟩ C:=by
 obtain⟨ay,t0,t3,t10,t9,R,U,cn⟩:=hM;have aa:=AGY tmps ay;simp only[fI,List.range.loop,List.map_cons,List.map_nil,t0,t3,t10,t9]at aa;obtain⟨en,st,⟨d,s,x⟩⟩:=q;dsimp only at R aa ⊢;rw[show i64.wrap (en+1)=wrap64 (en+1)from by rw[IntKind.wrap_i64];unfold wrap64;rfl];obtain⟨gg,a6⟩:∃gg:Nat->Value,gg=fun i=>tmps.getD i undef:=⟨_,rfl⟩
 have au:∀i,tmps.getD i dT=gg i:=fun i=>by rw[a6]
 simp only[au]at aa;rw[aa];clear aa au a6 t0 t3 t10 t9 ay tmps;have b1:=hL.same U;obtain⟨⟨T,J⟩,ao,ab,a1⟩:=b1;have c3:C.cell? ⟨I,3,cS⟩=bS v:=by rw[e7 C I 3 _ T (0,0) J];rfl
 have ad:=World.block_lt_of_cell? C _ c3
 have f3:C.frozen? ⟨I,3,cS⟩=bX:=by
  simp only[World.frozen?,J];rfl
 have a7:∀o:Obj,((C.alloc o).drew).frozen? ⟨I,3,cS⟩=false:=fun o=>by
  have e:((C.alloc o).drew).heap[I]? = C.heap[I]?:=d' C o I ad;simp only[World.frozen?,e,J];rfl
 have a8:∀o:Obj,((C.alloc o).drew).cell? ⟨I,3,cS⟩=bS v:=fun o=>by
  rw[←c3];exact Gv (d' C o I ad)
 have c2:C.cell? ⟨I,2,cS⟩=bS (.int .i64 r.stamp_):=by rw[e7 C I 2 _ T (0,0) J];rfl
 have c1:C.cell? ⟨I,1,cS⟩=bS (.int .i64 r.at_):=by rw[e7 C I 1 _ T (0,0) J];rfl
 have cA:∀(o:Obj) (k:Nat),((C.alloc o).drew).cell? ⟨I,k,cS⟩=C.cell? ⟨I,k,cS⟩:=fun o k=>Gv (d' C o I ad)
 have fA:∀(o:Obj) (k:Nat),((C.alloc o).drew).frozen? ⟨I,k,cS⟩=false:=fun o k=>by
  have e:((C.alloc o).drew).heap[I]? = C.heap[I]?:=d' C o I ad;simp only[World.frozen?,e,J]
  match k with
  |0=>rfl
  |k+1=>rfl
 have be:=e5 cA;have ba:=e5 fA;have b6:=e5 a7;have b7:=e5 a8;clear cA fA a7 a8;have b8:v.ownBlock≠bS eb:=fun e=>by have:=AKg hL.row e;omega
 have e0:C.cell? ⟨eb,0,cS⟩=bS (.int .i64 d):=R 0 _ rfl;have e1:C.cell? ⟨eb,1,cS⟩=bS (.string ⟨s.toArray⟩):=R 1 _ rfl;have e2:C.cell? ⟨eb,2,cS⟩=bS (.int .i64 x):=R 2 _ rfl;have cc:=World.block_lt_of_cell? C _ e0;obtain⟨i0,bz,bs,bo,bh⟩:=info_parts ABd;generalize az:(⟨s.toArray⟩:ByteArray)=sb at e1
 have ax:=fun(g cap:Nat) (w2:dU)=>AAi (e:=⟨d,s,x⟩) (at':=wrap64 (en+1)) (st:=st) (o:=.cells #[.int .i64 d,.string sb,.int .i64 x] 131) (g:=g) (cap:=cap) (w2:=w2) hN U J ad a1 ab (fun b hb=>by
  rcases ao.2 with⟨rfl,_⟩|⟨g,cap,cur,rfl,h,_⟩
  .cases hb
  .obtain rfl:g=b:=by simpa[e4]using hb
   exact h)
 have bb:=e5 ax;have HB:=e5 J;have HC:=e5 R;have HS:=e5 U;have b5:=e5 az;clear J R U az hL ax hN;unfold e6 at hb;dsimp only at hb;cases hb
 dsimp only[gE]
 go_wp2_with fail
 go_region_law
  ((
   refine step_append_lies _ (by rfl) _ _ _ (by rfl) N 131 i0 _ 3 32 yz bz bs bo bh rfl n' v r.list_.length (Tg r.list_) (by rfl) ((ao.alloc _).drew)
    ⟨C.heap.size,0,cS⟩ 1 1 [.int .i64 d,.string sb,.int .i64 x] (by rfl) (by rfl) (World.news_of_block (cs:=#[.int .i64 d,.string sb,.int .i64 x]) (t:=131) (fr:=(0,0)) (fp C _)) (by simp[Value.oneCell'])
    n' b3 aj t' (C.heap.size+1) p' ?_;intro g cap w2 ae j b0 cm
   have k3:w2.cell? ⟨I,3,cS⟩=bS v:=by rw[j.cell_far _ t' (Ne.symm ab)];exact b7.out _
   have cd:w2.frozen? ⟨I,3,cS⟩=bX:=by rw[j.frozen_far _ t' (Ne.symm ab)];exact b6.out _
   have k2:w2.cell? ⟨I,2,cS⟩=bS (.int .i64 r.stamp_):=by rw[j.cell_far _ t' (Ne.symm ab),be.out];exact c2
   have cf:w2.frozen? ⟨I,2,cS⟩=bX:=by rw[j.frozen_far _ t' (Ne.symm ab)];exact ba.out _ _
   have k1:w2.cell? ⟨I,1,cS⟩=bS (.int .i64 r.at_):=by rw[j.cell_far _ t' (Ne.symm ab),be.out];exact c1
   have cl:w2.frozen? ⟨I,1,cS⟩=bX:=by rw[j.frozen_far _ t' (Ne.symm ab)];exact ba.out _ _))
 all_goals go_wp2
 all_goals
  go_ret
  exact⟨p',(bb.out g cap w2 (by rw[←b5.out]at ae;exact ae) j b0).2⟩
def pi(h:Dg (n+([e]:List AU).length) 32=bR):n+1<=maxLen/\(n+1)*32<=140737488355328:=by
 have h:=of_decide_eq_true h;simp only[fm]at h;refine⟨?_,h⟩;unfold maxLen;omega
def qz{r':Hx}{b:Bool}(h:JL r=bS (b,r'))(I:LS N C w r v)(hG:GT C' w)(J:N<=w.heap.size):
  Calls bI 177 #[.pointer (bS ⟨C,0,cS⟩)] w (sW N C w r' b):=by
 unfold JL at h;obtain⟨y,R,h⟩:=AO h;have hb:∃c,e6.body=bS c:=⟨_,rfl⟩;obtain⟨c,hb⟩:=hb;refine AAj R I hG hb (fun e j w' hs h2 hn=>?_) (fun q e j w' eb hM=>?_)
 .subst e;cases AX h
  have U:j.getD 2 dT = .bool false:=h2;refine bodyPost_ret (results_tmp rfl _ _ _) rfl ?_;exact⟨by rw[U],cE hs J,v,I.same hs⟩
 .subst e;obtain⟨hk,h⟩:=AY h;cases AX h
  obtain⟨h1,h2⟩:=pi hk;exact xW hb I hM J h1 h2
variable{j:L8}
def zP(w:dU)(sb:ByteArray)(s:L8)(h:(⟨s.toArray⟩:ByteArray)=sb){j:TypeId}(C:T=131:=by rfl):
  LS w.heap.size (w.heap.size+1) ((w.alloc (.cells #[] T)).alloc (.cells #[.string sb,.int .i64 0,.int .i64 0,.slice (bS ⟨w.heap.size,0,cS⟩) 0 0] j)) ⟨s,0,0,[]⟩ (.slice (bS ⟨w.heap.size,0,cS⟩) 0 0):=by
 subst h;subst C;have I:(w.alloc (.cells #[] 131)).heap.size=w.heap.size+1:=by show(w.heap.push _).size=_;simp
 refine⟨⟨j,?_⟩,⟨rfl,.inr ⟨w.heap.size,0,#[],rfl,e9 _,?_,e9 _,Nat.zero_le _,rfl,rfl⟩⟩,by simp[e4],n'⟩
 .rw[←I];exact fp _ _
 .rw[d' _ _ _ n'];exact fp _ _
def Tk(h:Below w.heap.size w w'):AD C' w w':=⟨h.os,h.tape,h.output,h.size,fun b hb _=>h.block b hb⟩
set_option maxRecDepth 100000 in
def qf{s:L8}{y:Hx}(h:Ie s=bS y)(w:dU)(hG:GT C' w):
  Calls bI 114 #[.string ⟨s.toArray⟩] w fun e w'=>∃rb v,e = .returned (.pointer (bS ⟨rb,0,cS⟩))/\Below w.heap.size w w'/\LS w.heap.size rb w' y v:=by
 generalize ab:(⟨s.toArray⟩:ByteArray)=sb;have ax:=e5 ab;have HG:=e5 hG;have HH:=e5 h;clear ab hG h
 go_enter fB,Tryz.ntmps114
 go_wp2_with fail
 obtain⟨n0,ae⟩:=Jf (show AE IM (Hx.mk s 0 0 [])=bS y from HH.out)
 let J:Nat->Act->dU->Prop:=fun n a w'=>∃r v x8 U,a=⟨#[e3 sb,dT,cB cS,cB (bS ⟨w.heap.size+1,0,cS⟩),e3 sb,ew (bS ⟨w.heap.size,0,cS⟩) 0 0,
  f' #[e3 sb,fa IntKind.i64 0,fa IntKind.i64 0,ew (bS ⟨w.heap.size,0,cS⟩) 0 0],cB (bS ⟨w.heap.size+1,0,cS⟩),x8,U,dT],[]⟩ /\
  LS w.heap.size (w.heap.size+1) w' r v/\Below w.heap.size w w'/\Km IM n r=bS y
 refine wp_loop (fun a w=>∃n,J n a w) (fun a w=>Qp fun n=>J n a w) ⟨n0,Hx.mk s 0 0 [],.slice (bS ⟨w.heap.size,0,cS⟩) 0 0,dT,dT,rfl,zP w sb s ax.out,((Below.refl w.heap.size w).alloc (e9 _) _).alloc (by show w.heap.size<=(w.heap.push _).size;simp) _,ae⟩ fun a w' hI=>?_
 have R:=(OB hI).1;revert R;generalize hle:Qp (fun n=>J n a w')=n;rintro⟨r,v,x8,U,rfl,hL,hB,hit⟩;cases n with
 |zero=>cases hit
 | succ n=>
  simp only[Km]at hit;cases I:IM r with
  |none=>rw[I]at hit;cases hit
  | some o=>
   rw[I]at hit;unfold IM at I;obtain⟨⟨b,r'⟩,hb,I⟩:=AO I;have hX:=qz hb hL (HG.out.mono (Tk hB) fun _ _ c=>c) hB.size;cases b with
   | true=>
    cases AX I
    have HN:∀w2 v2 x8 U,LS w.heap.size (w.heap.size+1) w2 r' v2->Below w.heap.size w' w2->∀a2,a2=(⟨#[e3 sb,dT,cB cS,cB (bS ⟨w.heap.size+1,0,cS⟩),e3 sb,ew (bS ⟨w.heap.size,0,cS⟩) 0 0,
      f' #[e3 sb,fa IntKind.i64 0,fa IntKind.i64 0,ew (bS ⟨w.heap.size,0,cS⟩) 0 0],cB (bS ⟨w.heap.size+1,0,cS⟩),x8,U,dT],[]⟩:Act) ->
      (∃n,J n a2 w2)/\(Qp fun n=>J n a2 w2)<n+1:=fun w2 v2 x8 U j C a2 ha=>by
     have hJ:J n a2 w2:=⟨r',v2,x8,U,ha,j,hB.trans C,hit⟩;exact⟨⟨n,hJ⟩,Nat.lt_succ_of_le ((OB ⟨n,hJ⟩).2 n hJ)⟩
    have HN:=e5 HN;clear hL hB hit hb hle hI
    go_wp2_with (go_at_call 177;refine hX.mono ?_;rintro e w2 ⟨rfl,C,v2,j⟩)
    exact HN.out w2 v2 _ _ j C _ rfl
   | false=>
    cases AX I
    cases hit
    clear hL hb hle hI
    go_wp2_with (go_at_call 177;refine hX.mono ?_;rintro e w2 ⟨rfl,C,v2,j⟩)
    go_ret
    exact⟨_,rfl,hB.trans C,v2,j⟩
def zn:List AV->Rs
 | [.str s]=>match Ie s with
  |some r=>⟨bR,.mem 4 [FB r] 0,[.any]⟩
  |none=>Rs.bad
 |_=>Rs.bad
def Jb:Ao:=⟨[.bor],bX,zn⟩
def Rb{s_:L8}{j:Hx}(h:Ie s_=bS j):Jb.F [.str s_]=⟨bR,.mem 4 [FB j] 0,[.any]⟩:=by
 show(match Ie s_ with
  |some r=>(⟨bR,.mem 4 [FB r] 0,[.any]⟩:Rs)
  |none=>Rs.bad)=_
 rw[h]
theorem dZ:Jb.modes=[.bor]:=rfl
theorem Yv:Jb.flat=false:=rfl
attribute [go_sem] dZ Yv
def wx{args:List AV}(h:(zn args).ok=bR):∃s y,Ie s=bS y/\args=[.str s]:=by
 unfold zn at h;split at h
 .rename_i s;split at h
  .rename_i r j;exact⟨s,r,j,rfl⟩
  .cases h
 .cases h
def xj(h:LS N C w r v)(I:∀b,v.ownBlock=bS b->¬ S b):Hy S w C 1 4 [FB r]:=by
 obtain⟨T,hb⟩:=h.blk;have J:=iL (n:=0) h.row I;have one:∀{i:Nat},i < [FB r].length->i=0:=fun h=>by simpa using h
 refine⟨n',p',fun i hi=>?_,fun _=>⟨_,T,(0,0),hb,.inl rfl,rfl,fun i j hi R=>?_⟩⟩
 .cases one hi;exact⟨rfl,rfl⟩
 .cases one hi
  match j,R with
  |0,_=>exact .str
  |1,_=>exact .int
  |2,_=>exact .int
  |3,_=>exact J
def Zt:Cd bI 114 Jb:=by
 refine⟨fun e=>fx e,fun F g0 w args vargs ay ab J ad=>⟨fun e=>fx e,?_⟩⟩;obtain⟨s,y,hy,rfl⟩:=wx ad;have h0:=Hw J (i:=0) p';rw[Pm ab];generalize vargs.getD 0 dT=x at h0;cases h0
 have he:=Go.Proofs.enters_of (P:=bI) fB o' rfl;unfold DJ;rw[he];rw[Rb hy];refine(qf hy w (J.tab.mono (AD.refl _ _) fun _ _ c=>c.elim)).mono ?_;rintro e' w' ⟨rb,v,rfl,hB,hL⟩
 have only:∀k h,AK k [(0,(⟨4,[FB y]⟩:Hm))]=bS h->k=0/\h=⟨4,[FB y]⟩:=by
  intro k h I;simp only[AK,AM,beq_iff_eq]at I;split at I
  .rename_i e;cases I;exact⟨e.symm,rfl⟩
  .cases I
 have C:∀b,w.heap.size<=b->¬ F b:=fun b hb hF=>by have:=J.fb _ hF;omega
 have R:∀b,v.ownBlock=bS b->w.heap.size<=b:=fun b hb=>by
  rcases hL.row.2 with⟨rfl,_⟩|⟨g,cap,cur,rfl,h,_⟩
  .cases hb
  .obtain rfl:g=b:=by simpa[e4]using hb
   exact h
 refine⟨_,⟨fun _=>rb,fun _=>1⟩,[(0,⟨4,[FB y]⟩)],fun _=>0,rfl,⟨(Tk hB).mono fun _ _ c=>c.elim,fun k h I=>?_,fun k k' a b _=>?_,fun k a=>C _ hL.low,fun k a=>.inl hL.low,⟨rfl,rfl,rfl⟩,fun i j hi U _=>?_,fun i j _ U=>absurd U (yc rfl j),fun j U=>absurd U (yc rfl j)⟩⟩
 .obtain⟨rfl,rfl⟩:=only k h I;refine xj hL fun b hb=>?_
  rintro(c|⟨k,_,e⟩)
  .exact C b (R b hb) c
  .exact hL.own (by rw[hb,←e])
 .obtain⟨⟨h,I⟩,_⟩:=a;obtain⟨⟨h',ae⟩,_⟩:=b;rw[(only k h I).1,(only k' h' ae).1]
 .rw[hi.1,U.1]
set_option maxHeartbeats 64000000
instance:Sd bI 114 Jb:=⟨Zt⟩
variable{s_:L8}
@[go_sem]def Xu:=cr (fun y=>@Rb s_ y)
def APB:=Af bI Tryz.f63 [0,2,3,4] [] [] []
abbrev bp:=Vi [(114,Jb)] APB [.bor]
instance s_173:Sd bI 63 bp:=Ow
attribute [local go_sem] Ea in
@[go_sem]def AJg:Q7 (Ea s_) bp [.str s_] (fun h=>.tup [.mem 4 [FB (h.1)] 0,.i (h.2)]) [.any]:=CK APB trivial
theorem AQB:bp.modes=[.bor]:=rfl
def ANS{j:Hx×Int}(h:Ea s_=bS j):bp.F [.str s_]=⟨bR,.tup [.mem 4 [FB j.1] 0,.int .i64 j.2],[.any]⟩:=(Q8 AJg h:)
def AOo:=Af bI Tryz.f85 [0,1,3,4,5,6,7,8] [(603,16),(805,16),(806,16),(807,16)] [] []
abbrev vJ:=CV [(63,bp),(133,jf),(134,Ib),(88,Yc),(136,jh),(135,jg)] AOo [.bor,.bor]
instance s_174:Sd bI 85 vJ:=Am
variable{C:L8}
attribute [local go_sem] Fk in
@[go_sem]def AJf{log:L8}{j:Int}:Q7 (Fk log (AU.mk I C j)) vJ [.str log,.agg ([.i I,.str C,.i j])] (fun h=>.tup [.str (h.1),.i (h.2)]) [.any,.any]:=CK AOo trivial
theorem AQA:vJ.modes=[.bor,.bor]:=rfl
def ANR{log:L8}{C:AU}{j:L8×Int}(h:Fk log C=bS j):vJ.F [.str log,Br C]=⟨bR,.tup [.str j.1,.int .i64 j.2],[.any,.any]⟩:=(Q8 AJf h:)
def AIW:=Af bI Tryz.f137 [0,1,4,5,6,7] [] [] []
abbrev ACY:=Vi [(63,bp),(131,Yd)] AIW [.bor,.bor]
instance:Sd bI 137 ACY:=Ow
variable{what:L8}
attribute [local go_sem] Jm in
@[go_sem]def AQu{log:L8}:Q7 (Jm log what) ACY [.str log,.str what] (fun h=>.tup [.mem 4 [FB (h.1)] 0,.i (h.2)]) [.any,.any]:=CK AIW trivial
def AFE:=Af bI Tryz.f86 [0,1,4,5,6,7,8,9] [] [] [(210,64,12)]
def gW:List (Nat×Ao):=[(137,ACY)]
instance:SdL bI gW:=by unfold gW;infer_instance
abbrev vI:=CV gW AFE [.bor,.bor]
instance s_176:Sd bI 86 vI:=Am
def eQ(what:L8)(r:Hx):((List Int)×Int)->St
 |(out,i)=>⟨[.any,.str what,.any,.any,.ref 3200000 0 0,.any,.own 3200032,.i i],[],[(3200000,⟨4,[FB r]⟩),(3200032,⟨1,bN (cI .i64) out⟩)],bR⟩
def dA(what:L8)(r:Hx)(y:(List Int)):FM:=(.exit 0,⟨[.any,.any,.any,.any,.any,.any,.own 3200000,.any],[],[(3200000,⟨1,bN (cI .i64) y⟩)],bR⟩)
attribute [local go_sem] Gx gW eQ dA in
def TQ{what:L8}{r:Hx}:L7 (Gx what r) gW AFE 0 (eQ what r) (dA what r):=Jd AFE trivial
attribute [local go_sem] Em gW eQ dA in
@[go_sem]def AJe{log:L8}:Q7 (Em log what) vI [.str log,.str what] (fun h=>.tup [.fresh 1 (bN (cI .i64) (h.1)),.i (h.2)]) [.any,.any]:=CK AFE @TQ
theorem APz:vI.modes=[.bor,.bor]:=rfl
def ANQ{log:L8}{j:(List Int)×Int}(h:Em log what=bS j):vI.F [.str log,.str what]=⟨bR,.tup [.fresh 1 (bN (cI .i64) j.1),.int .i64 j.2],[.any,.any]⟩:=(Q8 AJe h:)
def AHu:=Af bI Tryz.f188 [0,2] [] [] []
abbrev ACX:=CV [(84,Sl)] AHu [.bor]
instance:Sd bI 188 ACX:=Am
attribute [local go_sem] JB in
@[go_sem]def AQt{n:Int}:Q7 (JB n) ACX [.i n] .str [.any]:=CK AHu trivial
def AIb:=Af bI Tryz.f128 [0,2,3] [] [] []
abbrev je:=CV [(84,Sl),(188,ACX)] AIb [.bor]
instance s_178:Sd bI 128 je:=Am
variable{m:Int}
attribute [local go_sem] Ch in
@[go_sem]def AJd:Q7 (Ch m) je [.i m] .str [.any]:=CK AIb trivial
theorem APy:je.modes=[.bor]:=rfl
def mA(h:Ch m=bS j):je.F [.int .i64 m]=⟨bR,.str j,[.any]⟩:=(Q8 AJd h:)
def AFG:=Af bI Tryz.f82 [0,2,3,4,5] [(605,16)] [] [(13,4,2)]
def gV:List (Nat×Ao):=[(84,Sl),(128,je)]
instance:SdL bI gV:=by unfold gV;infer_instance
abbrev vH:=CV gV AFG [.bor]
instance s_179:Sd bI 82 vH:=Am
def eP(j:List AA):(L8×Int)->St
 |(out,i)=>⟨[.sl 5 (bN AC j),.any,.own 3200000,.i i,.any],[],[(3200000,⟨1,bN Js out⟩)],bR⟩
def cz(j:List AA)(y:L8):FM:=(.exit 0,⟨[.any,.any,.own 3200000,.any,.any],[],[(3200000,⟨1,bN Js y⟩)],bR⟩)
attribute [local go_sem] Jy gV eP cz in
def UD{j:List AA}:L7 (Jy j) gV AFG 0 (eP j) (cz j):=Jd AFG trivial
attribute [local go_sem] Fg gV eP cz in
@[go_sem]def AJc{j:List AA}:Q7 (Fg j) vH [.sl 5 (bN AC j)] .str [.any]:=CK AFG @UD
theorem APx:vH.modes=[.bor]:=rfl
def ANP{j:List AA}(h:Fg j=bS C):vH.F [.sl 5 (bN AC j)]=⟨bR,.str C,[.any]⟩:=(Q8 AJc h:)
def APG:=Af bI Tryz.f44 [0,2,3,16] [] [] []
abbrev vG:=CV [] APG [.bor]
instance s_180:Sd bI 44 vG:=Am
attribute [local go_sem] Bz in
@[go_sem]def AJb:Q7 (Bz j) vG [.str j] .str [.any]:=CK APG trivial
theorem APw:vG.modes=[.bor]:=rfl
def ANO(h:Bz j=bS C):vG.F [.str j]=⟨bR,.str C,[.any]⟩:=(Q8 AJb h:)
def rK:=Af bI Tryz.f77 [0,2,3,4,5,6,7,8,9] [] [] [(361,97,6)]
def GX:List (Nat×Ao):=[(18,br),(76,bq),(75,PV),(126,pZ),(127,bu),(128,je)]
instance:SdL bI GX:=by unfold GX;infer_instance
abbrev pW:=CV GX rK [.bor]
instance s_181:Sd bI 77 pW:=Am
def Wj(s_:L8)(w:List L8)(j:Bool):(Int×Int)->St
 |(n,i)=>⟨[.str s_,.any,.any,.own 3200000,.any,.bool j,.i n,.any,.i i],[],[(3200000,⟨1,bN c' w⟩)],bR⟩
def WV(s_:L8)(w:List L8)(j:Bool):(Int⊕(Int×Bool))->FM
 |.inl y=>(.exit 0,⟨[.str s_,.any,.any,.any,.any,.bool j,.i y,.any,.any],[],[],bR⟩)
 |.inr y=>(.ret,⟨[.any,.i y.1,.bool y.2,.any,.any,.any,.any,.any,.any],[],[],bR⟩)
variable{j:Bool}{w:List L8}
attribute [local go_sem] Cy GX Wj WV in
def UG:L7 (Cy s_ w j) GX rK 0 (Wj s_ w j) (WV s_ w j):=Jd rK trivial
def eN(s_:L8)(w:List L8)(j:Bool):(Int×Int)->St
 |(n,i)=>⟨[.str s_,.any,.any,.own 3200000,.any,.bool j,.i n,.any,.i i],[],[(3200000,⟨1,bN c' w⟩)],bR⟩
def cy(s_:L8)(w:List L8)(j:Bool):(Int⊕(Int×Bool))->FM
 |.inl y=>(.exit 0,⟨[.str s_,.any,.any,.any,.any,.bool j,.i y,.any,.any],[],[],bR⟩)
 |.inr y=>(.ret,⟨[.any,.i y.1,.bool y.2,.any,.any,.any,.any,.any,.any],[],[],bR⟩)
attribute [local go_sem] Lf GX eN cy Wj WV in
def OS:L7 (Lf s_ w j) GX rK 0 (eN s_ w j) (cy s_ w j):=Jd rK trivial
attribute [local go_sem] Wj WV eN cy in
theorem ANl{y_:Int×Bool}(h:Ci s_=bS y_):pW.F [.str s_]=⟨bR,.tup [.int .i64 y_.1,.bool y_.2],[.any]⟩:=by
 have ab:rK=rK:=rfl
 conv at ab=>rhs;cbv
 refine tW rfl ?_;dsimp only[Ci]at h;obtain⟨dc,z1,h⟩:=AO h;have fz1:=sZ z1;try simp only[go_sem]at fz1
 obtain⟨z2,h⟩:=AY h;rcases Ev z2 with⟨j,z2⟩|j
 .try simp only[go_sem,n1,n2,n3,n4]at j
  all_goals
  have az:=Kk z2;have a1:=CR c' dc az;try simp only[go_sem]at az
  try simp only[go_sem]at a1
  try simp only[go_sem,n1,n2,n3,n4,j]at z2
  all_goals
  rcases Au h with⟨z3,h⟩|⟨z3,h⟩
  .try simp only[go_sem,n1,n2,n3,n4,j,z2]at z3
   all_goals
   obtain rfl:=AX h;refine⟨0,fun L hL=>?_⟩;simp only[go_sem,ab,GX,fz1,j,z2,az,a1,z3]
  .try simp only[go_sem,n1,n2,n3,n4,j,z2]at z3
   all_goals
   obtain⟨z4,h⟩:=AY h;have a6:=Kk z4;have ba:=CR c' dc a6;try simp only[go_sem]at a6
   try simp only[go_sem]at ba
   try simp only[go_sem,n1,n2,n3,n4,j,z2,z3]at z4
   all_goals
   obtain⟨z5,h⟩:=AY h;rcases Ev z5 with⟨C,z5⟩|C
   .try simp only[go_sem,n1,n2,n3,n4,j,z2,z3,z4]at C
    all_goals
    try simp only[go_sem,n1,n2,n3,n4,j,z2,z3,z4,C]at z5
    all_goals
    rcases Au h with⟨R,h⟩|⟨R,h⟩
    .try simp only[go_sem,n1,n2,n3,n4,j,z2,z3,z4,C,z5]at R
     all_goals
     obtain⟨z7,h⟩:=AY h;try simp only[go_sem,n1,n2,n3,n4,j,z2,z3,z4,C,z5,R]at z7
     all_goals
     obtain⟨et,z8,h⟩:=AO h;have b8:=Xx z8;try simp only[go_sem,j,z2,z3,z4,C,z5,R,z7]at b8
     obtain⟨z9,h⟩:=AY h;rcases Ev z9 with⟨ao,z9⟩|ao
     .try simp only[go_sem,n1,n2,n3,n4,j,z2,z3,z4,C,z5,R,z7]at ao
      all_goals
      obtain⟨eo,ax⟩:=zX z9;have ca:=mC ax;try simp only[go_sem,n1,n2,n3,n4,j,z2,z3,z4,C,z5,R,z7,ao]at ax
      all_goals
      try simp only[go_sem,j,z2,z3,z4,C,z5,R,z7,ao]at ca
      rcases Au h with⟨aj,h⟩|⟨aj,h⟩
      .try simp only[go_sem,n1,n2,n3,n4,j,z2,z3,z4,C,z5,R,z7,ao,ax]at aj
       all_goals
       obtain rfl:=AX h;refine⟨0,fun L hL=>?_⟩;simp only[go_sem,ab,GX,fz1,j,z2,az,a1,z3,z4,a6,ba,C,z5,R,z7,b8,ao,ax,ca,aj]
      .try simp only[go_sem,n1,n2,n3,n4,j,z2,z3,z4,C,z5,R,z7,ao,ax]at aj
       all_goals
       obtain⟨db,dx,h⟩:=AO h;obtain⟨cc,ay⟩:=UG dx;rcases db with ed|ea
       .dsimp only at h;obtain⟨ej,dw,h⟩:=AO h;have cb:=mB dw;try simp only[go_sem,j,z2,z3,z4,C,z5,R,z7,ao,ax,aj]at cb
        obtain⟨cl,h⟩:=AY h;rcases Ev cl with⟨bh,cl⟩|bh
        .try simp only[go_sem,n1,n2,n3,n4,j,z2,z3,z4,C,z5,R,z7,ao,ax,aj]at bh
         all_goals
         obtain⟨eg,b2⟩:=zX cl;have cd:=mA b2;try simp only[go_sem,n1,n2,n3,n4,j,z2,z3,z4,C,z5,R,z7,ao,ax,aj,bh]at b2
         all_goals
         try simp only[go_sem,j,z2,z3,z4,C,z5,R,z7,ao,ax,aj,bh]at cd
         rcases Au h with⟨bz,h⟩|⟨bz,h⟩
         all_goals
         try simp only[go_sem,n1,n2,n3,n4,j,z2,z3,z4,C,z5,R,z7,ao,ax,aj,bh,b2]at bz
         all_goals
         obtain rfl:=AX h;refine⟨cc,fun L hL=>?_⟩;have ay:=ay L n';try simp only[go_sem,ab,GX,j,z2,z3,z4,C,z5,R,z7,ao,ax,aj,bh,b2,bz]at ay
         simp only[go_sem,ab,GX,fz1,j,z2,az,a1,z3,z4,a6,ba,C,z5,R,z7,b8,ao,ax,ca,aj,cb,bh,b2,cd,bz,ay]
        .have ct:=Ov bh;have bb:=TU ct;try simp only[go_sem,n1,n2,n3,n4,j,z2,z3,z4,C,z5,R,z7,ao,ax,aj]at bb
         all_goals
         rcases Au h with⟨bz,h⟩|⟨bz,h⟩
         .try simp only[go_sem,n1,n2,n3,n4,j,z2,z3,z4,C,z5,R,z7,ao,ax,aj,bb]at bz
          all_goals
          obtain rfl:=AX h;refine⟨cc,fun L hL=>?_⟩;have ay:=ay L n';try simp only[go_sem,ab,GX,j,z2,z3,z4,C,z5,R,z7,ao,ax,aj,bb,bz]at ay
          simp only[go_sem,ab,GX,fz1,j,z2,az,a1,z3,z4,a6,ba,C,z5,R,z7,b8,ao,ax,ca,aj,cb,bb,bz,ay]
         .try simp only[go_sem,n1,n2,n3,n4,j,z2,z3,z4,C,z5,R,z7,ao,ax,aj,bb]at bz
          all_goals
          (simp_all)
       .dsimp only at h;obtain rfl:=AX h;refine⟨cc,fun L hL=>?_⟩;have ay:=ay L n';try simp only[go_sem,ab,GX,j,z2,z3,z4,C,z5,R,z7,ao,ax,aj]at ay
        simp only[go_sem,ab,GX,fz1,j,z2,az,a1,z3,z4,a6,ba,C,z5,R,z7,b8,ao,ax,ca,aj,ay]
     .have df:=Ov ao;have b0:=TU df;try simp only[go_sem,n1,n2,n3,n4,j,z2,z3,z4,C,z5,R,z7]at b0
      all_goals
      rcases Au h with⟨aj,h⟩|⟨aj,h⟩
      .try simp only[go_sem,n1,n2,n3,n4,j,z2,z3,z4,C,z5,R,z7,b0]at aj
       all_goals
       obtain rfl:=AX h;refine⟨0,fun L hL=>?_⟩;simp only[go_sem,ab,GX,fz1,j,z2,az,a1,z3,z4,a6,ba,C,z5,R,z7,b8,b0,aj]
      .try simp only[go_sem,n1,n2,n3,n4,j,z2,z3,z4,C,z5,R,z7,b0]at aj
       all_goals
       (simp_all)
    .try simp only[go_sem,n1,n2,n3,n4,j,z2,z3,z4,C,z5]at R
     all_goals
     obtain⟨c8,z20,h⟩:=AO h;have au:=Xx z20;try simp only[go_sem,j,z2,z3,z4,C,z5,R]at au
     obtain⟨z21,h⟩:=AY h;rcases Ev z21 with⟨I,z21⟩|I
     .try simp only[go_sem,n1,n2,n3,n4,j,z2,z3,z4,C,z5,R]at I
      all_goals
      obtain⟨c7,J⟩:=zX z21;have a8:=mC J;try simp only[go_sem,n1,n2,n3,n4,j,z2,z3,z4,C,z5,R,I]at J
      all_goals
      try simp only[go_sem,j,z2,z3,z4,C,z5,R,I]at a8
      rcases Au h with⟨z22,h⟩|⟨z22,h⟩
      .try simp only[go_sem,n1,n2,n3,n4,j,z2,z3,z4,C,z5,R,I,J]at z22
       all_goals
       obtain rfl:=AX h;refine⟨0,fun L hL=>?_⟩;simp only[go_sem,ab,GX,fz1,j,z2,az,a1,z3,z4,a6,ba,C,z5,R,au,I,J,a8,z22]
      .try simp only[go_sem,n1,n2,n3,n4,j,z2,z3,z4,C,z5,R,I,J]at z22
       all_goals
       obtain⟨b9,z28,h⟩:=AO h;obtain⟨bs,U⟩:=OS z28;rcases b9 with cn|cm
       .dsimp only at h;obtain⟨c6,cf,h⟩:=AO h;have bo:=mB cf;try simp only[go_sem,j,z2,z3,z4,C,z5,R,I,J,z22]at bo
        obtain⟨b5,h⟩:=AY h;rcases Ev b5 with⟨ad,b5⟩|ad
        .try simp only[go_sem,n1,n2,n3,n4,j,z2,z3,z4,C,z5,R,I,J,z22]at ad
         all_goals
         obtain⟨cw,a7⟩:=zX b5;have b3:=mA a7;try simp only[go_sem,n1,n2,n3,n4,j,z2,z3,z4,C,z5,R,I,J,z22,ad]at a7
         all_goals
         try simp only[go_sem,j,z2,z3,z4,C,z5,R,I,J,z22,ad]at b3
         rcases Au h with⟨z31,h⟩|⟨z31,h⟩
         all_goals
         try simp only[go_sem,n1,n2,n3,n4,j,z2,z3,z4,C,z5,R,I,J,z22,ad,a7]at z31
         all_goals
         obtain rfl:=AX h;refine⟨bs,fun L hL=>?_⟩;have U:=U L n';try simp only[go_sem,ab,GX,j,z2,z3,z4,C,z5,R,I,J,z22,ad,a7,z31]at U
         simp only[go_sem,ab,GX,fz1,j,z2,az,a1,z3,z4,a6,ba,C,z5,R,au,I,J,a8,z22,bo,ad,a7,b3,z31,U]
        .have b6:=Ov ad;have aa:=TU b6;try simp only[go_sem,n1,n2,n3,n4,j,z2,z3,z4,C,z5,R,I,J,z22]at aa
         all_goals
         rcases Au h with⟨z31,h⟩|⟨z31,h⟩
         .try simp only[go_sem,n1,n2,n3,n4,j,z2,z3,z4,C,z5,R,I,J,z22,aa]at z31
          all_goals
          obtain rfl:=AX h;refine⟨bs,fun L hL=>?_⟩;have U:=U L n';try simp only[go_sem,ab,GX,j,z2,z3,z4,C,z5,R,I,J,z22,aa,z31]at U
          simp only[go_sem,ab,GX,fz1,j,z2,az,a1,z3,z4,a6,ba,C,z5,R,au,I,J,a8,z22,bo,aa,z31,U]
         .try simp only[go_sem,n1,n2,n3,n4,j,z2,z3,z4,C,z5,R,I,J,z22,aa]at z31
          all_goals
          (simp_all)
       .dsimp only at h;obtain rfl:=AX h;refine⟨bs,fun L hL=>?_⟩;have U:=U L n';try simp only[go_sem,ab,GX,j,z2,z3,z4,C,z5,R,I,J,z22]at U
        simp only[go_sem,ab,GX,fz1,j,z2,az,a1,z3,z4,a6,ba,C,z5,R,au,I,J,a8,z22,U]
     .have b7:=Ov I;have ae:=TU b7;try simp only[go_sem,n1,n2,n3,n4,j,z2,z3,z4,C,z5,R]at ae
      all_goals
      rcases Au h with⟨z22,h⟩|⟨z22,h⟩
      .try simp only[go_sem,n1,n2,n3,n4,j,z2,z3,z4,C,z5,R,ae]at z22
       all_goals
       obtain rfl:=AX h;refine⟨0,fun L hL=>?_⟩;simp only[go_sem,ab,GX,fz1,j,z2,az,a1,z3,z4,a6,ba,C,z5,R,au,ae,z22]
      .try simp only[go_sem,n1,n2,n3,n4,j,z2,z3,z4,C,z5,R,ae]at z22
       all_goals
       (simp_all)
   .try simp only[go_sem,n1,n2,n3,n4,j,z2,z3,z4]at C
    all_goals
    rcases Au h with⟨R,h⟩|⟨R,h⟩
    .try simp only[go_sem,n1,n2,n3,n4,j,z2,z3,z4,C]at R
     all_goals
     (simp_all)
    .try simp only[go_sem,n1,n2,n3,n4,j,z2,z3,z4,C]at R
     all_goals
     obtain⟨c8,z20,h⟩:=AO h;have au:=Xx z20;try simp only[go_sem,j,z2,z3,z4,C,R]at au
     obtain⟨z21,h⟩:=AY h;rcases Ev z21 with⟨I,z21⟩|I
     .try simp only[go_sem,n1,n2,n3,n4,j,z2,z3,z4,C,R]at I
      all_goals
      obtain⟨c7,J⟩:=zX z21;have a8:=mC J;try simp only[go_sem,n1,n2,n3,n4,j,z2,z3,z4,C,R,I]at J
      all_goals
      try simp only[go_sem,j,z2,z3,z4,C,R,I]at a8
      rcases Au h with⟨z22,h⟩|⟨z22,h⟩
      .try simp only[go_sem,n1,n2,n3,n4,j,z2,z3,z4,C,R,I,J]at z22
       all_goals
       obtain rfl:=AX h;refine⟨0,fun L hL=>?_⟩;simp only[go_sem,ab,GX,fz1,j,z2,az,a1,z3,z4,a6,ba,C,R,au,I,J,a8,z22]
      .try simp only[go_sem,n1,n2,n3,n4,j,z2,z3,z4,C,R,I,J]at z22
       all_goals
       obtain⟨b9,z28,h⟩:=AO h;obtain⟨bs,U⟩:=OS z28;rcases b9 with cn|cm
       .dsimp only at h;obtain⟨c6,cf,h⟩:=AO h;have bo:=mB cf;try simp only[go_sem,j,z2,z3,z4,C,R,I,J,z22]at bo
        obtain⟨b5,h⟩:=AY h;rcases Ev b5 with⟨ad,b5⟩|ad
        .try simp only[go_sem,n1,n2,n3,n4,j,z2,z3,z4,C,R,I,J,z22]at ad
         all_goals
         obtain⟨cw,a7⟩:=zX b5;have b3:=mA a7;try simp only[go_sem,n1,n2,n3,n4,j,z2,z3,z4,C,R,I,J,z22,ad]at a7
         all_goals
         try simp only[go_sem,j,z2,z3,z4,C,R,I,J,z22,ad]at b3
         rcases Au h with⟨z31,h⟩|⟨z31,h⟩
         all_goals
         try simp only[go_sem,n1,n2,n3,n4,j,z2,z3,z4,C,R,I,J,z22,ad,a7]at z31
         all_goals
         obtain rfl:=AX h;refine⟨bs,fun L hL=>?_⟩;have U:=U L n';try simp only[go_sem,ab,GX,j,z2,z3,z4,C,R,I,J,z22,ad,a7,z31]at U
         simp only[go_sem,ab,GX,fz1,j,z2,az,a1,z3,z4,a6,ba,C,R,au,I,J,a8,z22,bo,ad,a7,b3,z31,U]
        .have b6:=Ov ad;have aa:=TU b6;try simp only[go_sem,n1,n2,n3,n4,j,z2,z3,z4,C,R,I,J,z22]at aa
         all_goals
         rcases Au h with⟨z31,h⟩|⟨z31,h⟩
         .try simp only[go_sem,n1,n2,n3,n4,j,z2,z3,z4,C,R,I,J,z22,aa]at z31
          all_goals
          obtain rfl:=AX h;refine⟨bs,fun L hL=>?_⟩;have U:=U L n';try simp only[go_sem,ab,GX,j,z2,z3,z4,C,R,I,J,z22,aa,z31]at U
          simp only[go_sem,ab,GX,fz1,j,z2,az,a1,z3,z4,a6,ba,C,R,au,I,J,a8,z22,bo,aa,z31,U]
         .try simp only[go_sem,n1,n2,n3,n4,j,z2,z3,z4,C,R,I,J,z22,aa]at z31
          all_goals
          (simp_all)
       .dsimp only at h;obtain rfl:=AX h;refine⟨bs,fun L hL=>?_⟩;have U:=U L n';try simp only[go_sem,ab,GX,j,z2,z3,z4,C,R,I,J,z22]at U
        simp only[go_sem,ab,GX,fz1,j,z2,az,a1,z3,z4,a6,ba,C,R,au,I,J,a8,z22,U]
     .have b7:=Ov I;have ae:=TU b7;try simp only[go_sem,n1,n2,n3,n4,j,z2,z3,z4,C,R]at ae
      all_goals
      rcases Au h with⟨z22,h⟩|⟨z22,h⟩
      .try simp only[go_sem,n1,n2,n3,n4,j,z2,z3,z4,C,R,ae]at z22
       all_goals
       obtain rfl:=AX h;refine⟨0,fun L hL=>?_⟩;simp only[go_sem,ab,GX,fz1,j,z2,az,a1,z3,z4,a6,ba,C,R,au,ae,z22]
      .try simp only[go_sem,n1,n2,n3,n4,j,z2,z3,z4,C,R,ae]at z22
       all_goals
       (simp_all)
 .have ds:=Ov j;have b1:=TU ds;try simp only[go_sem,n1,n2,n3,n4]at b1
  all_goals
  rcases Au h with⟨z3,h⟩|⟨z3,h⟩
  .try simp only[go_sem,n1,n2,n3,n4,b1]at z3
   all_goals
   obtain rfl:=AX h;refine⟨0,fun L hL=>?_⟩;simp only[go_sem,ab,GX,fz1,b1,z3]
  .try simp only[go_sem,n1,n2,n3,n4,b1]at z3
   all_goals
   (simp_all)
@[go_sem]def AJa(h:(Ci s_).isSome=bR):pW.F [.str s_]=⟨bR,.tup [.int .i64 ((gd (Ci s_)).1),.bool ((gd (Ci s_)).2)],[.any]⟩:=by obtain⟨y,e⟩:=isX h;have q:=ANl e;simpa only[e,Aj]using q
theorem APv:pW.modes=[.bor]:=rfl
variable{j:Int}
def ANN{j:Int×Bool}(h:Ci s_=bS j):pW.F [.str s_]=⟨bR,.tup [.int .i64 j.1,.bool j.2],[.any]⟩:=by
 have q:=AJa (Kw h);simp only[h,Aj]at q;exact q
def ALL:=Af bI Tryz.f43 [0,2,3] [] [] []
abbrev pV:=CV [(75,PV)] ALL [.bor]
instance s_182:Sd bI 43 pV:=Am
theorem ANk{R:L8}(h:Fj j=bS R):pV.F [.int .i64 j]=⟨bR,.str R,[.any]⟩:=by
 have I:ALL=ALL:=rfl
 conv at I=>rhs;cbv
 refine tW rfl ?_;dsimp only[Fj]at h;obtain⟨aa,U,h⟩:=AO h;have fz1:=mC U;try simp only[go_sem]at fz1
 rcases Au h with⟨z2,h⟩|⟨z2,h⟩
 .try simp only[go_sem,n1,n2,n3,n4]at z2
  all_goals
  obtain rfl:=AX h;refine⟨0,fun L hL=>?_⟩;simp only[go_sem,I,fz1,z2]
 .try simp only[go_sem,n1,n2,n3,n4]at z2
  all_goals
  obtain⟨z3,h⟩:=AY h;have C:=Kk z3;have J:=CR c' ([([111,107]:L8),([105,110,118,97,108,105,100]:L8),([114,97,110,103,101]:L8),([110,111,116,45,102,111,117,110,100]:L8),([101,120,105,115,116,115]:L8),([102,117,108,108]:L8),([115,116,97,116,101]:L8),([115,121,110,116,97,120]:L8),([102,111,114,109,97,116]:L8),([99,108,97,115,104]:L8),([99,108,111,117,100,121]:L8)]:List L8) C;try simp only[go_sem]at C
  try simp only[go_sem]at J
  try simp only[go_sem,n1,n2,n3,n4,z2]at z3
  all_goals
  obtain rfl:=AX h;refine⟨0,fun L hL=>?_⟩;simp only[go_sem,I,fz1,z2,z3,C,J]
@[go_sem]def AJZ(h:(Fj j).isSome=bR):pV.F [.int .i64 j]=⟨bR,.str (gd (Fj j)),[.any]⟩:=by obtain⟨y,e⟩:=isX h;have q:=ANk e;simpa only[e,Aj]using q
theorem APu:pV.modes=[.bor]:=rfl
def ANM(h:Fj j=bS C):pV.F [.int .i64 j]=⟨bR,.str C,[.any]⟩:=by
 have q:=AJZ (Kw h);simp only[h,Aj]at q;exact q
def AOs:=Af bI Tryz.f79 [0,2] [(105,16),(112,16)] [] []
abbrev vF:=CV [(84,Sl)] AOs [.bor]
instance s_184:Sd bI 79 vF:=Am
variable{C:List Star}
attribute [local go_sem] Ep in
@[go_sem]def AJY{j:List AA}{I:L8}:Q7 (Ep (Ad.mk C j I)) vF [.ptr 3 [(.agg ([.sl 5 (bN AN C),.sl 5 (bN AC j),.str I]))] 0 0] .str [.any]:=CK AOs trivial
theorem APt:vF.modes=[.bor]:=rfl
variable{d:Ad}
def ANL{j:L8}(h:Ep d=bS j):vF.F [.ptr 3 [BC d] 0 0]=⟨bR,.str j,[.any]⟩:=(Q8 AJY h:)
def AFD:=Af bI Tryz.f87 [0,2,3,4] [] [] [(13,4,2)]
def sr:List (Nat×Ao):=[]
instance:SdL bI sr:=SdL0
abbrev vE:=CV sr AFD [.bor]
instance s_186:Sd bI 87 vE:=Am
def eM(j:List Int):(Int×Int)->St
 |(sum,i)=>⟨[.sl 1 (bN (cI .i64) j),.any,.i sum,.i i],[],[],bR⟩
def cx(j:List Int)(y:Int):FM:=(.exit 0,⟨[.any,.any,.i y,.any],[],[],bR⟩)
attribute [local go_sem] OR eM cx in
def VG{j:List Int}:L7 (OR j) sr AFD 0 (eM j) (cx j):=Jd AFD trivial
attribute [local go_sem] Jg sr eM cx in
@[go_sem]def AJX{j:List Int}:Q7 (Jg j) vE [.sl 1 (bN (cI .i64) j)] .i [.any]:=CK AFD @VG
theorem APs:vE.modes=[.bor]:=rfl
def ANK{j:List Int}{C:Int}(h:Jg j=bS C):vE.F [.sl 1 (bN (cI .i64) j)]=⟨bR,.int .i64 C,[.any]⟩:=(Q8 AJX h:)
def APD:=Af bI Tryz.f61 [0,1,2,4] [] [] []
abbrev ACW:=CV [] APD [.bor,.bor]
instance:Sd bI 61 ACW:=Am
variable{J:L8}{U:Int}
attribute [local go_sem] MB in
@[go_sem]def AQs{C:Int}:Q7 (MB (Star.mk J C R j I) U) ACW [.agg ([.str J,.i C,.i R,.i j,.i I]),.i U] .i [.any,.any]:=CK APD trivial
def AFZ:=Af bI Tryz.f29 [0,1,4,5] [] [] [(11,2,4)]
def gU:List (Nat×Ao):=[(61,ACW)]
instance:SdL bI gU:=by unfold gU;infer_instance
abbrev ACV:=CV gU AFZ [.bor,.bor]
instance:Sd bI 29 ACV:=Am
def eK(a:List Star):(Int×Int)->St
 |(j,i)=>⟨[.sl 5 (bN AN a),.i j,.any,.i i],[],[],bR⟩
def cu(a:List Star):(Int⊕Int)->FM
 |.inl y=>(.exit 0,⟨[.any,.i y,.any,.any],[],[],bR⟩)
 |.inr y=>(.ret,⟨[.any,.any,.i y,.any],[],[],bR⟩)
attribute [local go_sem] IT gU eK cu in
def US{a:List Star}:L7 (IT a) gU AFZ 0 (eK a) (cu a):=Jd AFZ trivial
variable{a:List Star}
attribute [local go_sem] LH gU eK cu in
@[go_sem]def AQr:Q7 (LH a j) ACV [.sl 5 (bN AN a),.i j] .i [.any,.any]:=CK AFZ @US
def APC:=Af bI Tryz.f62 [0,1,2,4] [] [] []
abbrev ACU:=CV [] APC [.bor,.bor]
instance:Sd bI 62 ACU:=Am
attribute [local go_sem] IU in
@[go_sem]def AQq{j:L8}{C:Bool}:Q7 (IU (AA.mk I J j U C) R) ACU [.agg ([.i I,.str J,.str j,.i U,.bool C]),.i R] .i [.any,.any]:=CK APC trivial
def AFY:=Af bI Tryz.f30 [0,1,4,5] [] [] [(11,2,4)]
def gT:List (Nat×Ao):=[(62,ACU)]
instance:SdL bI gT:=by unfold gT;infer_instance
abbrev ACT:=CV gT AFY [.bor,.bor]
instance:Sd bI 30 ACT:=Am
def eJ(a:List AA):(Int×Int)->St
 |(j,i)=>⟨[.sl 5 (bN AC a),.i j,.any,.i i],[],[],bR⟩
def cq(a:List AA):(Int⊕Int)->FM
 |.inl y=>(.exit 0,⟨[.any,.i y,.any,.any],[],[],bR⟩)
 |.inr y=>(.ret,⟨[.any,.any,.i y,.any],[],[],bR⟩)
attribute [local go_sem] FD gT eJ cq in
def Qr{a:List AA}:L7 (FD a) gT AFY 0 (eJ a) (cq a):=Jd AFY trivial
attribute [local go_sem] Hg gT eJ cq in
@[go_sem]def AQo{a:List AA}:Q7 (Hg a j) ACT [.sl 5 (bN AC a),.i j] .i [.any,.any]:=CK AFY @Qr
def ir7:=Af bI Tryz.f7 [0,1,2,4] [] [] []
abbrev vD:=CV [(29,ACV),(30,ACT)] ir7 [.bor,.bor]
instance s_191:Sd bI 7 vD:=Am
attribute [local go_sem] Ji in
@[go_sem]def AJW{j:List AA}:Q7 (Ji (Ad.mk C j J) I) vD [.agg ([.sl 5 (bN AN C),.sl 5 (bN AC j),.str J]),.i I] .i [.any,.any]:=CK ir7 trivial
def ANJ{a:Ad}{C:Int}(h:Ji a j=bS C):vD.F [BC a,.int .i64 j]=⟨bR,.int .i64 C,[.any,.any]⟩:=(Q8 AJW h:)
def AOv:=Af bI Tryz.f73 [0,1,2,3,4] [] [] []
abbrev ACS:=CV [] AOv [.bor,.bor]
instance:Sd bI 73 ACS:=Am
attribute [local go_sem] MC in
@[go_sem]def AQn{ad:L8}{J ae:Int}{aa:L8}{C ab:Int}:Q7 (MC (Star.mk ad J ae I U) (Star.mk aa C ab j R)) ACS [.agg ([.str ad,.i J,.i ae,.i I,.i U]),.agg ([.str aa,.i C,.i ab,.i j,.i R])] .bool [.any,.any]:=CK AOv trivial
def AFT:=Af bI Tryz.f36 [0,1,4,5] [(608,16)] [] [(11,0,4)]
def gR:List (Nat×Ao):=[(73,ACS)]
instance:SdL bI gR:=by unfold gR;infer_instance
abbrev ACR:=CV gR AFT [.bor,.bor]
instance:Sd bI 36 ACR:=Am
def eI(a b:List Star):Int->St
 |i=>⟨[.sl 5 (bN AN a),.sl 5 (bN AN b),.any,.i i],[],[],bR⟩
def cp(a b:List Star):(Unit⊕Bool)->FM
 |.inl y=>(.exit 0,⟨[.any,.any,.any,.any],[],[],bR⟩)
 |.inr y=>(.ret,⟨[.any,.any,.bool y,.any],[],[],bR⟩)
attribute [local go_sem] IV gR eI cp in
def UT{a b:List Star}:L7 (IV a b) gR AFT 0 (eI a b) (cp a b):=Jd AFT trivial
attribute [local go_sem] LI gR eI cp in
@[go_sem]def AQm{b:List Star}:Q7 (LI a b) ACR [.sl 5 (bN AN a),.sl 5 (bN AN b)] .bool [.any,.any]:=CK AFT @UT
def AOu:=Af bI Tryz.f74 [0,1,2,3,4] [] [] []
abbrev ACQ:=CV [] AOu [.bor,.bor]
instance:Sd bI 74 ACQ:=Am
variable{j:List AA}{U:L8}
attribute [local go_sem] IW in
@[go_sem]def AQl{aa:Int}{ab C:L8}{ae:Int}{J:Bool}{j:L8}{ad:Int}{I:Bool}:Q7 (IW (AA.mk aa ab C ae J) (AA.mk R U j ad I)) ACQ [.agg ([.i aa,.str ab,.str C,.i ae,.bool J]),.agg ([.i R,.str U,.str j,.i ad,.bool I])] .bool [.any,.any]:=CK AOu trivial
def AFS:=Af bI Tryz.f37 [0,1,4,5] [(608,16)] [] [(11,0,4)]
def gQ:List (Nat×Ao):=[(74,ACQ)]
instance:SdL bI gQ:=by unfold gQ;infer_instance
abbrev ACP:=CV gQ AFS [.bor,.bor]
instance:Sd bI 37 ACP:=Am
def eH(a b:List AA):Int->St
 |i=>⟨[.sl 5 (bN AC a),.sl 5 (bN AC b),.any,.i i],[],[],bR⟩
def cj(a b:List AA):(Unit⊕Bool)->FM
 |.inl y=>(.exit 0,⟨[.any,.any,.any,.any],[],[],bR⟩)
 |.inr y=>(.ret,⟨[.any,.any,.bool y,.any],[],[],bR⟩)
attribute [local go_sem] FE gQ eH cj in
def Qu{a b:List AA}:L7 (FE a b) gQ AFS 0 (eH a b) (cj a b):=Jd AFS trivial
attribute [local go_sem] Hi gQ eH cj in
@[go_sem]def AQk{a b:List AA}:Q7 (Hi a b) ACP [.sl 5 (bN AC a),.sl 5 (bN AC b)] .bool [.any,.any]:=CK AFS @Qu
def APJ:=Af bI Tryz.f11 [0,1,2,3,4] [] [] []
abbrev vC:=CV [(36,ACR),(37,ACP)] APJ [.bor,.bor]
instance s_196:Sd bI 11 vC:=Am
attribute [local go_sem] Im in
@[go_sem]def AJV{J:List Star}{C:List AA}{I:List Star}{R:L8}:Q7 (Im (Ad.mk J C U) (Ad.mk I j R)) vC [.agg ([.sl 5 (bN AN J),.sl 5 (bN AC C),.str U]),.agg ([.sl 5 (bN AN I),.sl 5 (bN AC j),.str R])] .bool [.any,.any]:=CK APJ trivial
def ANI{a b:Ad}{j:Bool}(h:Im a b=bS j):vC.F [BC a,BC b]=⟨bR,.bool j,[.any,.any]⟩:=(Q8 AJV h:)
def AFd:=Af bI Tryz.f12 [0,1,4,5] [] [] [(11,0,4)]
def sq:List (Nat×Ao):=[]
instance:SdL bI sq:=SdL0
abbrev vB:=CV sq AFd [.bor,.bor]
instance s_197:Sd bI 12 vB:=Am
def eG(a b:List L8):Int->St
 |i=>⟨[.sl 1 (bN c' a),.sl 1 (bN c' b),.any,.i i],[],[],bR⟩
def ch(a b:List L8):(Unit⊕Bool)->FM
 |.inl y=>(.exit 0,⟨[.any,.any,.any,.any],[],[],bR⟩)
 |.inr y=>(.ret,⟨[.any,.any,.bool y,.any],[],[],bR⟩)
attribute [local go_sem] GB eG ch in
def SG{a b:List L8}:L7 (GB a b) sq AFd 0 (eG a b) (ch a b):=Jd AFd trivial
attribute [local go_sem] Fu sq eG ch in
@[go_sem]def AJU{a:List L8}:Q7 (Fu a b) vB [.sl 1 (bN c' a),.sl 1 (bN c' b)] .bool [.any,.any]:=CK AFd @SG
def ANH{a:List L8}{j:Bool}(h:Fu a b=bS j):vB.F [.sl 1 (bN c' a),.sl 1 (bN c' b)]=⟨bR,.bool j,[.any,.any]⟩:=(Q8 AJU h:)
def AFP:=Af bI Tryz.f40 [0,2,3] [] [] [(5,4,2)]
def sn:List (Nat×Ao):=[]
instance:SdL bI sn:=SdL0
abbrev Yb:=CV sn AFP [.bor]
instance:Sd bI 40 Yb:=Am
def eF :(Int×L8)->St
 |(k,out)=>⟨[.i k,.any,.str out],[],[],bR⟩
def cg  (y:L8):FM:=(.exit 0,⟨[.any,.any,.str y],[],[],bR⟩)
attribute [local go_sem] Hh eF cg in
def TV:L7 (Hh) sn AFP 0 eF cg:=Jd AFP trivial
variable{k:Int}
attribute [local go_sem] BT sn eF cg in
@[go_sem]def AQj:Q7 (BT k) Yb [.i k] .str [.any]:=CK AFP @TV
def AFO:=Af bI Tryz.f41 [0,1,4,5] [(406,16)] [] [(11,2,4)]
def gP:List (Nat×Ao):=[(40,Yb)]
instance:SdL bI gP:=by unfold gP;infer_instance
abbrev ACO:=CV gP AFO [.bor,.bor]
instance:Sd bI 41 ACO:=Am
def eE(a:List Star):(Int×Int)->St
 |(k,i)=>⟨[.sl 5 (bN AN a),.i k,.any,.i i],[],[],bR⟩
def ce(a:List Star):(Int⊕Int)->FM
 |.inl y=>(.exit 0,⟨[.any,.i y,.any,.any],[],[],bR⟩)
 |.inr y=>(.ret,⟨[.any,.any,.i y,.any],[],[],bR⟩)
attribute [local go_sem] Il gP eE ce in
def SE{a:List Star}:L7 (Il a) gP AFO 0 (eE a) (ce a):=Jd AFO trivial
attribute [local go_sem] JR gP eE ce in
@[go_sem]def AQi:Q7 (JR a k) ACO [.sl 5 (bN AN a),.i k] .i [.any,.any]:=CK AFO @SE
def AFN:=Af bI Tryz.f42 [0,1,4,5] [(706,16),(1006,16)] [] [(11,2,4)]
def gO:List (Nat×Ao):=[(40,Yb)]
instance:SdL bI gO:=by unfold gO;infer_instance
abbrev ACN:=CV gO AFN [.bor,.bor]
instance:Sd bI 42 ACN:=Am
def eC(a:List AA):(Int×Int)->St
 |(k,i)=>⟨[.sl 5 (bN AC a),.i k,.any,.i i],[],[],bR⟩
def cZ(a:List AA):(Int⊕Int)->FM
 |.inl y=>(.exit 0,⟨[.any,.i y,.any,.any],[],[],bR⟩)
 |.inr y=>(.ret,⟨[.any,.any,.i y,.any],[],[],bR⟩)
attribute [local go_sem] FO gO eC cZ in
def Pe{a:List AA}:L7 (FO a) gO AFN 0 (eC a) (cZ a):=Jd AFN trivial
attribute [local go_sem] FT gO eC cZ in
@[go_sem]def AQh{a:List AA}:Q7 (FT a k) ACN [.sl 5 (bN AC a),.i k] .i [.any,.any]:=CK AFN @Pe
def API:=Af bI Tryz.f15 [0,1,2,4] [] [] []
abbrev vA:=CV [(41,ACO),(42,ACN)] API [.bor,.bor]
instance s_201:Sd bI 15 vA:=Am
attribute [local go_sem] Gr in
@[go_sem]def AJT{I:L8}:Q7 (Gr (Ad.mk C j I) k) vA [.agg ([.sl 5 (bN AN C),.sl 5 (bN AC j),.str I]),.i k] .i [.any,.any]:=CK API trivial
def ANG{a:Ad}{j:Int}(h:Gr a k=bS j):vA.F [BC a,.int .i64 k]=⟨bR,.int .i64 j,[.any,.any]⟩:=(Q8 AJT h:)
def AFb:=Af bI Tryz.f16 [0,1,4,5] [(405,16)] [] [(11,2,4)]
def gN:List (Nat×Ao):=[(40,Yb)]
instance:SdL bI gN:=by unfold gN;infer_instance
abbrev uz:=CV gN AFb [.bor,.bor]
instance s_202:Sd bI 16 uz:=Am
def eB(a:List L8):(Int×Int)->St
 |(k,i)=>⟨[.sl 1 (bN c' a),.i k,.any,.i i],[],[],bR⟩
def cY(a:List L8):(Int⊕Int)->FM
 |.inl y=>(.exit 0,⟨[.any,.i y,.any,.any],[],[],bR⟩)
 |.inr y=>(.ret,⟨[.any,.any,.i y,.any],[],[],bR⟩)
attribute [local go_sem] GZ gN eB cY in
def Qt{a:List L8}:L7 (GZ a) gN AFb 0 (eB a) (cY a):=Jd AFb trivial
attribute [local go_sem] Eh gN eB cY in
@[go_sem]def AJS{a:List L8}:Q7 (Eh a k) uz [.sl 1 (bN c' a),.i k] .i [.any,.any]:=CK AFb @Qt
def ANF{a:List L8}{j:Int}(h:Eh a k=bS j):uz.F [.sl 1 (bN c' a),.int .i64 k]=⟨bR,.int .i64 j,[.any,.any]⟩:=(Q8 AJS h:)
def AFR:=Af bI Tryz.f38 [0,1,4,5] [] [] [(11,3,5)]
def gM:List (Nat×Ao):=[(40,Yb)]
instance:SdL bI gM:=by unfold gM;infer_instance
abbrev uy:=Vi gM AFR [.io,.bor]
instance s_203:Sd bI 38 uy:=Ow
def eA :((List Star)×Int×Int)->St
 |(a,k,i)=>⟨[.own 31,.i k,.any,.i i],[],[(31,⟨5,bN AN a⟩)],bR⟩
def cX  (y:(List Star)×Int):FM:=(.exit 0,⟨[.own 31,.i y.2,.any,.any],[],[(31,⟨5,bN AN y.1⟩)],bR⟩)
attribute [local go_sem] Ew gM eA cX in
def SD:L7 (Ew) gM AFR 0 eA cX:=Jd AFR trivial
attribute [local go_sem] Dl gM eA cX in
@[go_sem]def AJR:Q7 (Dl a k) uy [.fresh 5 (bN AN a),.i k] (fun h=>.i (h.1)) [.fresh 5 (bN AN ((gd (Dl a k)).2)),.any]:=CK AFR @SD
theorem APm:uy.modes=[.io,.bor]:=rfl
def ANE{j:Int×(List Star)}(h:Dl a k=bS j):uy.F [.fresh 5 (bN AN a),.int .i64 k]=⟨bR,.int .i64 j.1,[.fresh 5 (bN AN j.2),.any]⟩:=by
 have q:=AJR (Kw h);simp only[h,Aj]at q;exact q
def AFQ:=Af bI Tryz.f39 [0,1,4,5] [] [] [(11,3,5)]
def gL:List (Nat×Ao):=[(40,Yb)]
instance:SdL bI gL:=by unfold gL;infer_instance
abbrev ux:=Vi gL AFQ [.io,.bor]
instance s_204:Sd bI 39 ux:=Ow
def dy :((List AA)×Int×Int)->St
 |(a,k,i)=>⟨[.own 31,.i k,.any,.i i],[],[(31,⟨5,bN AC a⟩)],bR⟩
def cW  (y:(List AA)×Int):FM:=(.exit 0,⟨[.own 31,.i y.2,.any,.any],[],[(31,⟨5,bN AC y.1⟩)],bR⟩)
attribute [local go_sem] Da gL dy cW in
def Pd:L7 (Da) gL AFQ 0 dy cW:=Jd AFQ trivial
attribute [local go_sem] CL gL dy cW in
@[go_sem]def AJQ{a:List AA}:Q7 (CL a k) ux [.fresh 5 (bN AC a),.i k] (fun h=>.i (h.1)) [.fresh 5 (bN AC ((gd (CL a k)).2)),.any]:=CK AFQ @Pd
theorem APl:ux.modes=[.io,.bor]:=rfl
def ANC{a:List AA}{j:Int×(List AA)}(h:CL a k=bS j):ux.F [.fresh 5 (bN AC a),.int .i64 k]=⟨bR,.int .i64 j.1,[.fresh 5 (bN AC j.2),.any]⟩:=by
 have q:=AJQ (Kw h);simp only[h,Aj]at q;exact q
def AFc:=Af bI Tryz.f14 [0,1,4,5] [] [] [(11,3,5)]
def gK:List (Nat×Ao):=[(40,Yb)]
instance:SdL bI gK:=by unfold gK;infer_instance
abbrev uw:=Vi gK AFc [.io,.bor]
instance s_205:Sd bI 14 uw:=Ow
def du :((List L8)×Int×Int)->St
 |(a,k,i)=>⟨[.own 31,.i k,.any,.i i],[],[(31,⟨1,bN c' a⟩)],bR⟩
def cV  (y:(List L8)×Int):FM:=(.exit 0,⟨[.own 31,.i y.2,.any,.any],[],[(31,⟨1,bN c' y.1⟩)],bR⟩)
attribute [local go_sem] EJ gK du cV in
def Qs:L7 (EJ) gK AFc 0 du cV:=Jd AFc trivial
attribute [local go_sem] DX gK du cV in
@[go_sem]def AJP{a:List L8}:Q7 (DX a k) uw [.fresh 1 (bN c' a),.i k] (fun h=>.i (h.1)) [.fresh 1 (bN c' ((gd (DX a k)).2)),.any]:=CK AFc @Qs
theorem APk:uw.modes=[.io,.bor]:=rfl
def ANB{a:List L8}{j:Int×(List L8)}(h:DX a k=bS j):uw.F [.fresh 1 (bN c' a),.int .i64 k]=⟨bR,.int .i64 j.1,[.fresh 1 (bN c' j.2),.any]⟩:=by
 have q:=AJP (Kw h);simp only[h,Aj]at q;exact q
def APA:=Af bI Tryz.f67 [0,1,2,3] [] [] []
abbrev ACM:=Vi [] APA [.bor]
instance:Sd bI 67 ACM:=Ow
attribute [local go_sem] NX in
@[go_sem]def AQg{C j:Int}:Q7 (NX (Star.mk J C R j I)) ACM [.agg ([.str J,.i C,.i R,.i j,.i I])] (fun h=>AN h) [.any]:=CK APA trivial
def AFW:=Af bI Tryz.f33 [0,2,3,4] [] [] [(13,4,2)]
def gJ:List (Nat×Ao):=[(67,ACM)]
instance:SdL bI gJ:=by unfold gJ;infer_instance
abbrev uv:=CV gJ AFW [.bor]
instance s_207:Sd bI 33 uv:=Am
def dt(a:List Star):((List Star)×Int)->St
 |(out,i)=>⟨[.sl 5 (bN AN a),.any,.own 3200000,.i i],[],[(3200000,⟨5,bN AN out⟩)],bR⟩
def cU(a:List Star)(y:(List Star)):FM:=(.exit 0,⟨[.any,.any,.own 3200000,.any],[],[(3200000,⟨5,bN AN y⟩)],bR⟩)
attribute [local go_sem] Jz gJ dt cU in
def UR{a:List Star}:L7 (Jz a) gJ AFW 0 (dt a) (cU a):=Jd AFW trivial
attribute [local go_sem] Gg gJ dt cU in
@[go_sem]def AJO:Q7 (Gg a) uv [.sl 5 (bN AN a)] (fun h=>.fresh 5 (bN AN h)) [.any]:=CK AFW @UR
def ANA{j:(List Star)}(h:Gg a=bS j):uv.F [.sl 5 (bN AN a)]=⟨bR,.fresh 5 (bN AN j),[.any]⟩:=(Q8 AJO h:)
def AOz:=Af bI Tryz.f68 [0,1,2,3] [] [] []
abbrev ACL:=Vi [] AOz [.bor]
instance:Sd bI 68 ACL:=Ow
attribute [local go_sem] KA in
@[go_sem]def AQf{j:L8}{C:Bool}:Q7 (KA (AA.mk I J j R C)) ACL [.agg ([.i I,.str J,.str j,.i R,.bool C])] (fun h=>AC h) [.any]:=CK AOz trivial
def AFV:=Af bI Tryz.f34 [0,2,3,4] [] [] [(13,4,2)]
def gI:List (Nat×Ao):=[(68,ACL)]
instance:SdL bI gI:=by unfold gI;infer_instance
abbrev uu:=CV gI AFV [.bor]
instance s_209:Sd bI 34 uu:=Am
def dq(a:List AA):((List AA)×Int)->St
 |(out,i)=>⟨[.sl 5 (bN AC a),.any,.own 3200000,.i i],[],[(3200000,⟨5,bN AC out⟩)],bR⟩
def cT(a:List AA)(y:(List AA)):FM:=(.exit 0,⟨[.any,.any,.own 3200000,.any],[],[(3200000,⟨5,bN AC y⟩)],bR⟩)
attribute [local go_sem] GY gI dq cT in
def Qq{a:List AA}:L7 (GY a) gI AFV 0 (dq a) (cT a):=Jd AFV trivial
variable{a:List AA}
attribute [local go_sem] Dy gI dq cT in
@[go_sem]def AJN:Q7 (Dy a) uu [.sl 5 (bN AC a)] (fun h=>.fresh 5 (bN AC h)) [.any]:=CK AFV @Qq
def AMz{j:(List AA)}(h:Dy a=bS j):uu.F [.sl 5 (bN AC a)]=⟨bR,.fresh 5 (bN AC j),[.any]⟩:=(Q8 AJN h:)
def AFX:=Af bI Tryz.f31 [0,2,4,5] [(712,16)] [] [(9,0,2)]
def gH:List (Nat×Ao):=[(63,bp),(64,vY),(65,bt),(66,jj)]
instance:SdL bI gH:=by unfold gH;infer_instance
abbrev ut:=CV gH AFX [.bor]
instance s_210:Sd bI 31 ut:=Am
def dp(d:Ad):Int->St
 |i=>⟨[.ptr 3 [BC d] 0 0,.any,.any,.i i],[],[],bR⟩
def cR(d:Ad):(Unit⊕Bool)->FM
 |.inl y=>(.exit 0,⟨[.any,.any,.any,.any],[],[],bR⟩)
 |.inr y=>(.ret,⟨[.any,.bool y,.any,.any],[],[],bR⟩)
attribute [local go_sem] KH gH dp cR in
def XB{d:Ad}:L7 (KH d) gH AFX 0 (dp d) (cR d):=Jd AFX trivial
variable{I:L8}
attribute [local go_sem] Ke gH dp cR in
@[go_sem]def AJM:Q7 (Ke (Ad.mk C j I)) ut [.ptr 3 [(.agg ([.sl 5 (bN AN C),.sl 5 (bN AC j),.str I]))] 0 0] .bool [.any]:=CK AFX @XB
def AMy{j:Bool}(h:Ke d=bS j):ut.F [.ptr 3 [BC d] 0 0]=⟨bR,.bool j,[.any]⟩:=(Q8 AJM h:)
def AFU:=Af bI Tryz.f35 [0,1,2,4,6,18,19,20,21] [] [] [(226,2,4)]
def gG:List (Nat×Ao):=[(69,AGL),(70,pU),(71,sB),(72,ACF)]
instance:SdL bI gG:=by unfold gG;infer_instance
abbrev us:=CV gG AFU [.bor]
instance s_211:Sd bI 35 us:=Am
def dm(d:Ad)(C:List AA)(j:Int):Int->St
 |t20=>⟨[.any,.ref 3200000 0 0,.any,.any,.any,.sl 5 (bN AC C),.i j,.i t20,.any],[],[(3200000,⟨3,[BC d]⟩)],bR⟩
def cQ(d:Ad)(C:List AA)(j:Int):(Unit⊕Bool)->FM
 |.inl y=>(.exit 0,⟨[.any,.ref 3200000 0 0,.any,.any,.any,.any,.any,.any,.any],[],[(3200000,⟨3,[BC d]⟩)],bR⟩)
 |.inr y=>(.ret,⟨[.any,.any,.bool y,.any,.any,.any,.any,.any,.any],[],[],bR⟩)
attribute [local go_sem] GC gG dm cQ in
def SL{d:Ad}{J:List AA}{I:Int}:L7 (GC d J I) gG AFU 0 (dm d J I) (cQ d J I):=Jd AFU trivial
attribute [local go_sem] Fy gG dm cQ in
@[go_sem]def AJL:Q7 (Fy (Ad.mk C j I)) us [.agg ([.sl 5 (bN AN C),.sl 5 (bN AC j),.str I])] .bool [.any]:=CK AFU @SL
def AMx{j:Bool}(h:Fy d=bS j):us.F [BC d]=⟨bR,.bool j,[.any]⟩:=(Q8 AJL h:)
end Go.Proofs.YtegmpdmpgmpiaaaGreatDoor
