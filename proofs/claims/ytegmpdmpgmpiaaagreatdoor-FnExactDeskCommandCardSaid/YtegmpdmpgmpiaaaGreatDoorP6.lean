/- Lemmas. No condition. -/
import Derived.Test.YtegmpdmpgmpiaaaGreatDoorP4
import Derived.Test.YtegmpdmpgmpiaaaGreatDoorP5
open Bool renaming true->a6
open Go.Proofs.Tryz renaming prog->a1
open List renaming map->a7
set_option linter.defProp false
set_option linter.unusedSimpArgs false
set_option linter.unusedVariables false
set_option maxRecDepth 10000
noncomputable section
namespace Go.Proofs.YtegmpdmpgmpiaaaGreatDoor
open Go Go.RowKit
set_option maxHeartbeats 64000000
def APF:=Af a1 Tryz.f56 [0,2] [] [] []
abbrev c_1:=CV [] APF [.bor]
instance s_1:Sd a1 56 c_1:=Am
variable{j:List Star}
attribute [local go_sem] Bt in
@[go_sem]def G_1:Q7 (Bt j) c_1 [.sl 5 (a7 AN j)] (fun h=>.fresh 5 (a7 AN h)) [.any]:=CK APF trivial
variable{C:L8}
def ASH{C:(List Star)}(h:Bt j=some C):c_1.F [.sl 5 (a7 AN j)]=⟨a6,.fresh 5 (a7 AN C),[.any]⟩:=(Q8 G_1 h:)
def APE:=Af a1 Tryz.f57 [0,2] [] [] []
abbrev c_2:=CV [] APE [.bor]
instance s_2:Sd a1 57 c_2:=Am
variable{j:List AA}
attribute [local go_sem] BZ in
@[go_sem]def G_2:Q7 (BZ j) c_2 [.sl 5 (a7 AC j)] (fun h=>.fresh 5 (a7 AC h)) [.any]:=CK APE trivial
def ASE{C:(List AA)}(h:BZ j=some C):c_2.F [.sl 5 (a7 AC j)]=⟨a6,.fresh 5 (a7 AC C),[.any]⟩:=(Q8 G_2 h:)
def ALK:=Af a1 Tryz.f60 [0,2,3] [] [] []
abbrev c_3:=CV [] ALK [.bor]
instance s_3:Sd a1 60 c_3:=Am
variable{j:Int}
theorem Fo_3{U:L8}(h:Dt j=some U):c_3.F [.int .i64 j]=⟨a6,.str U,[.any]⟩:=by
 have I:ALK=ALK:=rfl
 conv at I=>rhs;cbv
 refine tW rfl ?_;dsimp only[Dt]at h;rcases Au h with⟨J,h⟩|⟨J,h⟩
 .try simp only[go_sem,n1,n2,n3,n4]at J
  all_goals
  obtain rfl:=AX h;refine⟨0,fun L hL=>?_⟩;simp only[go_sem,I,J]
 .try simp only[go_sem,n1,n2,n3,n4]at J
  all_goals
  obtain⟨z2,h⟩:=AY h;have C:=Kk z2;have R:=CR AV.str ([([111,107]:L8),([105,110,118,97,108,105,100]:L8),([114,97,110,103,101]:L8),([110,111,116,45,102,111,117,110,100]:L8),([101,120,105,115,116,115]:L8),([102,117,108,108]:L8),([115,116,97,116,101]:L8),([115,121,110,116,97,120]:L8),([102,111,114,109,97,116]:L8),([99,108,97,115,104]:L8),([99,108,111,117,100,121]:L8)]:List L8) C;try simp only[go_sem]at C
  try simp only[go_sem]at R
  try simp only[go_sem,n1,n2,n3,n4,J]at z2
  all_goals
  obtain rfl:=AX h;refine⟨0,fun L hL=>?_⟩;simp only[go_sem,I,J,z2,C,R]
@[go_sem]def G_3(h:(Dt j).isSome=a6):c_3.F [.int .i64 j]=⟨a6,.str (gd (Dt j)),[.any]⟩:=by obtain⟨y,e⟩:=isX h;have q:=Fo_3 e;simpa only[e,Aj]using q
def AMw(h:Dt j=some C):c_3.F [.int .i64 j]=⟨a6,.str C,[.any]⟩:=by
 have q:=G_3 (Kw h);simp only[h,Aj]at q;exact q
def nI:Cd a1 97 Nd:=xl
instance:Sd a1 97 Nd:=⟨nI⟩
variable{a b:L8}
@[go_sem]def sX:=cr (fun y=>@Xw a b y)
def AOk:=Af a1 Tryz.f98 [0,2,3,8] [] [] []
abbrev c_5:=CV [] AOk [.bor]
instance s_5:Sd a1 98 c_5:=Am
variable{j:L8}
attribute [local go_sem] Bm in
@[go_sem]def G_5:Q7 (Bm j) c_5 [.str j] .str [.any]:=CK AOk trivial
theorem M_5:c_5.modes=[.bor]:=rfl
def Fs_5(h:Bm j=some C):c_5.F [.str j]=⟨a6,.str C,[.any]⟩:=(Q8 G_5 h:)
def AIw:=Af a1 Tryz.f100 [0] [] [] []
abbrev c_6:=CV [] AIw []
instance s_6:Sd a1 100 c_6:=Am
attribute [local go_sem] Ht in
@[go_sem]def G_6  :Q7 (Ht) c_6 [] (fun h=>.fresh 1 (a7 AV.str h)) []:=CK AIw trivial
theorem M_6:c_6.modes=[]:=rfl
def Fs_6{j:(List L8)}(h:Ht=some j):c_6.F []=⟨a6,.fresh 1 (a7 AV.str j),[]⟩:=(Q8 G_6 h:)
def uO:=Af a1 Tryz.f151 [0,1,4,5,7,8,9] [] [] [(51,0,4)]
def t_7:List (Nat×Ao):=[]
instance:SdL a1 t_7:=SdL0
abbrev c_7:=CV t_7 uO [.bor,.bor]
instance:Sd a1 151 c_7:=Am
def sd(s_:List L8)(v:L8)(j:Int):Int->St
 |t8=>⟨[.sl 1 (a7 AV.str s_),.str v,.any,.any,.i j,.i t8,.any],[],[],a6⟩
def sQ(s_:List L8)(v:L8)(j:Int):(Unit⊕Int)->FM
 |.inl y=>(.exit 0,⟨[.any,.any,.any,.any,.any,.any,.any],[],[],a6⟩)
 |.inr y=>(.ret,⟨[.any,.any,.i y,.any,.any,.any,.any],[],[],a6⟩)
attribute [local go_sem] CP sd sQ in
def MP{s_:List L8}{v:L8}{I:Int}:L7 (CP s_ v I) t_7 uO 0 (sd s_ v I) (sQ s_ v I):=Jd uO trivial
variable{s_:List L8}{v:L8}
attribute [local go_sem] Dj t_7 sd sQ in
@[go_sem]def G_7:Q7 (Dj s_ v) c_7 [.sl 1 (a7 AV.str s_),.str v] .i [.any,.any]:=CK uO @MP
def AOj:=Af a1 Tryz.f99 [0,1,4] [] [] []
abbrev c_8:=CV [(151,c_7)] AOj [.bor,.bor]
instance s_8:Sd a1 99 c_8:=Am
attribute [local go_sem] Bp in
@[go_sem]def G_8:Q7 (Bp s_ v) c_8 [.sl 1 (a7 AV.str s_),.str v] .bool [.any,.any]:=CK AOj trivial
theorem M_8:c_8.modes=[.bor,.bor]:=rfl
def Fs_8{j:Bool}(h:Bp s_ v=some j):c_8.F [.sl 1 (a7 AV.str s_),.str v]=⟨a6,.bool j,[.any,.any]⟩:=(Q8 G_8 h:)
def nJ:Cd a1 101 Me:=xm
instance:Sd a1 101 Me:=⟨nJ⟩
@[go_sem]def sY:=cr (fun y=>@jp a y)
def AHo:=Af a1 Tryz.f205 [0,1,4] [] [] []
abbrev AMb:=CV [] AHo [.bor,.bor]
instance:Sd a1 205 AMb:=Am
variable{s_:L8}
attribute [local go_sem] DC in
@[go_sem]def G_10:Q7 (DC s_ j) AMb [.str s_,.str j] .bool [.any,.any]:=CK AHo trivial
def AIP:=Af a1 Tryz.f156 [0,1,4,5] [] [] []
abbrev AMa:=CV [(205,AMb)] AIP [.bor,.bor]
instance:Sd a1 156 AMa:=Am
attribute [local go_sem] CF in
@[go_sem]def G_11:Q7 (CF s_ j) AMa [.str s_,.str j] (fun h=>.tup [.str (h.1),.bool (h.2)]) [.any,.any]:=CK AIP trivial
def AIv:=Af a1 Tryz.f103 [0,1,4,5] [] [] []
abbrev ACt:=CV [(156,AMa)] AIv [.bor,.bor]
instance s_12:Sd a1 103 ACt:=Am
attribute [local go_sem] Cg in
@[go_sem]def ARb:Q7 (Cg s_ j) ACt [.str s_,.str j] (fun h=>.tup [.str (h.1),.bool (h.2)]) [.any,.any]:=CK AIv trivial
theorem M_12:ACt.modes=[.bor,.bor]:=rfl
def AKE{s_ j:L8}{C:L8×Bool}(h:Cg s_ j=some C):ACt.F [.str s_,.str j]=⟨a6,.tup [.str C.1,.bool C.2],[.any,.any]⟩:=(Q8 ARb h:)
def zb:Cd a1 25 RM:=AFh
instance:Sd a1 25 RM:=⟨zb⟩
@[go_sem]def ADl:=cr (fun y=>@Wd a b y)
def AIR:=Af a1 Tryz.f154 [0,1,2,6] [] [] []
abbrev fo:=CV [] AIR [.bor,.bor,.bor]
instance:Sd a1 154 fo:=Am
variable{n:Int}
attribute [local go_sem] EB in
@[go_sem]def G_14{low j:Int}:Q7 (EB n low j) fo [.i n,.i low,.i j] .bool [.any,.any,.any]:=CK AIR trivial
def AHy:=Af a1 Tryz.f181 [0,2] [] [] []
abbrev sC:=CV [(154,fo)] AHy [.bor]
instance:Sd a1 181 sC:=Am
variable{m:Int}
attribute [local go_sem] Ba in
@[go_sem]def ARF:Q7 (Ba m) sC [.i m] .bool [.any]:=CK AHy trivial
def ASG{j:Bool}(h:Ba m=some j):sC.F [.int .i64 m]=⟨a6,.bool j,[.any]⟩:=(Q8 ARF h:)
def AIF:=Af a1 Tryz.f173 [0,2] [] [] []
abbrev yY:=CV [] AIF [.bor]
instance:Sd a1 173 yY:=Am
attribute [local go_sem] EU in
@[go_sem]def G_16:Q7 (EU n) yY [.i n] .i [.any]:=CK AIF trivial
def AKY:Cd a1 230 RL:=AFf
instance:Sd a1 230 RL:=⟨AKY⟩
@[go_sem]def ADk{b:Int}:=cr (fun y=>@AGi n b y)
def AID:=Af a1 Tryz.f175 [0,1,4] [] [] []
abbrev AMZ:=CV [(230,RL)] AID [.bor,.bor]
instance:Sd a1 175 AMZ:=Am
attribute [local go_sem] Id in
@[go_sem]def G_18{i base:Int}:Q7 (Id i base) AMZ [.i i,.i base] .str [.any,.any]:=CK AID trivial
def AIr:=Af a1 Tryz.f110 [0,2] [] [] []
abbrev Un:=CV [(175,AMZ)] AIr [.bor]
instance s_19:Sd a1 110 Un:=Am
attribute [local go_sem] Av in
@[go_sem]def AQp:Q7 (Av n) Un [.i n] .str [.any]:=CK AIr trivial
def ASF(h:Av n=some j):Un.F [.int .i64 n]=⟨a6,.str j,[.any]⟩:=(Q8 AQp h:)
def uG:=Af a1 Tryz.f204 [0,1,4,5] [] [] [(10,8,4)]
def wZ:List (Nat×Ao):=[(110,Un)]
instance:SdL a1 wZ:=by unfold wZ;infer_instance
abbrev AMY:=CV wZ uG [.bor,.bor]
instance:Sd a1 204 AMY:=Am
def mc(j:Int):L8->St
 |s_=>⟨[.any,.i j,.any,.str s_],[],[],a6⟩
def ly(j:Int)(y:L8):FM:=(.exit 0,⟨[.any,.any,.any,.str y],[],[],a6⟩)
attribute [local go_sem] JS wZ mc ly in
def Vv{j:Int}:L7 (JS j) wZ uG 0 (mc j) (ly j):=Jd uG trivial
attribute [local go_sem] Jj wZ mc ly in
@[go_sem]def G_20{j:Int}:Q7 (Jj n j) AMY [.i n,.i j] .str [.any,.any]:=CK uG @Vv
def AIQ:=Af a1 Tryz.f155 [0,2,3] [] [] []
abbrev ACK:=CV [(181,sC),(173,yY),(110,Un),(204,AMY)] AIQ [.bor]
instance:Sd a1 155 ACK:=Am
attribute [local go_sem] Df in
@[go_sem]def G_21:Q7 (Df m) ACK [.i m] .str [.any]:=CK AIQ trivial
def uY:=Af a1 Tryz.f102 [0,2,3,4,5,6,7,9,10,11,12,13,44,45,46,47] [] [] [(29265,529,6)]
def wY:List (Nat×Ao):=[(103,ACt),(25,RM),(101,Me),(154,fo),(155,ACK)]
instance:SdL a1 wY:=by unfold wY;infer_instance
abbrev AGR:=CV wY uY [.bor]
instance s_22:Sd a1 102 AGR:=Am
def mb(s_:L8)(j:Bool)(C:L8)(J:List Int)(I:Int):(Int×Int)->St
 |(m,t46)=>⟨[.str s_,.any,.any,.any,.bool j,.any,.str C,.any,.any,.i m,.any,.any,.own 3200000,.i I,.i t46,.any],[],[(3200000,⟨1,a7 (AV.int .i64) J⟩)],a6⟩
def lx(s_:L8)(j:Bool)(C:L8)(J:List Int)(I y:Int):FM:=(.exit 0,⟨[.str s_,.any,.any,.any,.bool j,.any,.any,.any,.any,.i y,.any,.any,.any,.any,.any,.any],[],[],a6⟩)
attribute [local go_sem] CJ wY mb lx in
def Ua{s_:L8}{j:Bool}{C:L8}{U:List Int}{R:Int}:L7 (CJ s_ j C U R) wY uY 0 (mb s_ j C U R) (lx s_ j C U R):=Jd uY trivial
attribute [local go_sem] CN wY mb lx in
@[go_sem]def AQe:Q7 (CN s_) AGR [.str s_] (fun h=>.tup [.i (h.1),.bool (h.2)]) [.any]:=CK uY (an @Ua (an @AKE @Wd))
theorem M_22:AGR.modes=[.bor]:=rfl
def ASD{j:Int×Bool}(h:CN s_=some j):AGR.F [.str s_]=⟨a6,.tup [.int .i64 j.1,.bool j.2],[.any]⟩:=(Q8 AQe h:)
end Go.Proofs.YtegmpdmpgmpiaaaGreatDoor
