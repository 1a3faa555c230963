/- Lemmas and walks, several texts in one. No condition. -/
import Derived.Test.YtegmpdmpgmpiaaaGreatDoorP3
import Derived.Test.YtegmpdmpgmpiaaaGreatDoorP4
import Derived.Test.YtegmpdmpgmpiaaaGreatDoorP5
import Derived.Test.YtegmpdmpgmpiaaaGreatDoorRows
import Derived.WalkKit
open Bool renaming true->a6
open Go.Proofs.Tryz renaming prog->a1
open List renaming map->a7
set_option linter.defProp false
set_option linter.unusedSimpArgs false
set_option linter.unusedVariables false
set_option maxRecDepth 10000
namespace Go.Proofs.YtegmpdmpgmpiaaaGreatDoor
open Go Go.RowKit
set_option maxHeartbeats 64000000
noncomputable def AKC:Bl:=Aj a1 Tryz.f23 [0] [] [] []
noncomputable abbrev c_0:Ar:=Xl [] AKC []
instance s_0:Sd a1 23 c_0:=SN
attribute [local go_sem] KJ in
@[go_sem]theorem G_0  (h:(KJ).isSome=a6):c_0.F []=⟨a6,EL (gd (KJ)),[]⟩:=Cj AKC trivial
theorem M_0:c_0.modes=[]:=rfl
theorem Fs_0{g:Bp}(h:KJ=some g):c_0.F []=⟨a6,EL g,[]⟩:=by
 have q:=G_0 (MZ h);simp only[h,BA] at q;exact q
noncomputable def AKA:Bl:=Aj a1 Tryz.f56 [0,2] [] [] []
noncomputable abbrev c_1:Ar:=Cw [] AKA [.bor]
instance:Sd a1 56 c_1:=Aq
attribute [local go_sem] CG in
@[go_sem]theorem G_1{g:List Star}(h:(CG g).isSome=a6):c_1.F [.sl 5 (a7 Ao g)]=⟨a6,.fresh 5 (a7 Ao (gd (CG g))),[.any]⟩:=Cj AKA trivial
theorem Fs_1{g:List Star}{i:(List Star)}(h:CG g=some i):c_1.F [.sl 5 (a7 Ao g)]=⟨a6,.fresh 5 (a7 Ao i),[.any]⟩:=by
 have q:=G_1 (MZ h);simp only[h,BA] at q;exact q
noncomputable def AJz:Bl:=Aj a1 Tryz.f57 [0,2] [] [] []
noncomputable abbrev c_2:Ar:=Cw [] AJz [.bor]
instance:Sd a1 57 c_2:=Aq
attribute [local go_sem] Bb in
@[go_sem]theorem G_2{g:List AA}(h:(Bb g).isSome=a6):c_2.F [.sl 5 (a7 AC g)]=⟨a6,.fresh 5 (a7 AC (gd (Bb g))),[.any]⟩:=Cj AJz trivial
theorem Fs_2{g:List AA}{i:(List AA)}(h:Bb g=some i):c_2.F [.sl 5 (a7 AC g)]=⟨a6,.fresh 5 (a7 AC i),[.any]⟩:=by
 have q:=G_2 (MZ h);simp only[h,BA] at q;exact q
noncomputable def AGX:Bl:=Aj a1 Tryz.f60 [0,2,3] [] [] []
noncomputable abbrev c_3:Ar:=Cw [] AGX [.bor]
instance:Sd a1 60 c_3:=Aq
theorem Fo_3{g:Int}{I:(List UInt8)}(h:DM g=some I):c_3.F [.int .i64 g]=⟨a6,.str I,[.any]⟩:=by
 have j:AGX=AGX:=rfl
 conv at j=>rhs;cbv
 refine pY rfl ?_;dsimp only[DM] at h;rcases Ab h with⟨o,h⟩|⟨o,h⟩
 ·try simp only[go_sem,n1,n2,n3,n4] at o
  all_goals
  obtain rfl:=AR h;refine⟨0,fun L J=>?_⟩;simp only[go_sem,j,o]
 ·try simp only[go_sem,n1,n2,n3,n4] at o
  all_goals
  obtain⟨C,h⟩:=AO h;have i:=GX C;have p:=BX AV.str ([([111,107]:List UInt8),([105,110,118,97,108,105,100]:List UInt8),([114,97,110,103,101]:List UInt8),([110,111,116,45,102,111,117,110,100]:List UInt8),([101,120,105,115,116,115]:List UInt8),([102,117,108,108]:List UInt8),([115,116,97,116,101]:List UInt8),([115,121,110,116,97,120]:List UInt8),([102,111,114,109,97,116]:List UInt8),([99,108,97,115,104]:List UInt8),([99,108,111,117,100,121]:List UInt8)]:List (List UInt8)) i;try simp only[go_sem] at i
  try simp only[go_sem] at p
  try simp only[go_sem,n1,n2,n3,n4,o] at C
  all_goals
  obtain rfl:=AR h;refine⟨0,fun L J=>?_⟩;simp only[go_sem,j,o,C,i,p]
@[go_sem]theorem G_3{g:Int}(h:(DM g).isSome=a6):c_3.F [.int .i64 g]=⟨a6,.str (gd (DM g)),[.any]⟩:=by obtain⟨y,e⟩:=isX h;have q:=Fo_3 e;simpa only[e,BA] using q
theorem AMQ{g:Int}{i:(List UInt8)}(h:DM g=some i):c_3.F [.int .i64 g]=⟨a6,.str i,[.any]⟩:=by
 have q:=G_3 (MZ h);simp only[h,BA] at q;exact q
theorem jj:CF a1 97 MX:=tY
instance i_c_hSplit:Sd a1 97 MX:=⟨jj⟩
@[go_sem]def oq{a b:List UInt8}:=cr (fun y=>@We a b y)
noncomputable def AJm:Bl:=Aj a1 Tryz.f98 [0,2,3,8] [] [] []
noncomputable abbrev c_5:Ar:=Cw [] AJm [.bor]
instance s_5:Sd a1 98 c_5:=Aq
attribute [local go_sem] Bg in
@[go_sem]theorem G_5{g:List UInt8}(h:(Bg g).isSome=a6):c_5.F [.str g]=⟨a6,.str (gd (Bg g)),[.any]⟩:=Cj AJm trivial
theorem M_5:c_5.modes=[.bor]:=rfl
theorem Fs_5{g:List UInt8}{i:(List UInt8)}(h:Bg g=some i):c_5.F [.str g]=⟨a6,.str i,[.any]⟩:=by
 have q:=G_5 (MZ h);simp only[h,BA] at q;exact q
noncomputable def AEQ:Bl:=Aj a1 Tryz.f100 [0] [] [] []
noncomputable abbrev c_6:Ar:=Cw [] AEQ []
instance s_6:Sd a1 100 c_6:=Aq
attribute [local go_sem] Gc in
@[go_sem]theorem G_6  (h:(Gc).isSome=a6):c_6.F []=⟨a6,.fresh 1 (a7 AV.str (gd (Gc))),[]⟩:=Cj AEQ trivial
theorem M_6:c_6.modes=[]:=rfl
theorem Fs_6{g:(List (List UInt8))}(h:Gc=some g):c_6.F []=⟨a6,.fresh 1 (a7 AV.str g),[]⟩:=by
 have q:=G_6 (MZ h);simp only[h,BA] at q;exact q
noncomputable def qN:Bl:=Aj a1 Tryz.f151 [0,1,4,5,7,8,9] [] [] [(51,0,4)]
noncomputable def t_7:List (Nat×Ar):=[]
instance:SdL a1 t_7:=SdL0
noncomputable abbrev c_7:Ar:=Cw t_7 qN [.bor,.bor]
instance:Sd a1 151 c_7:=Aq
noncomputable def pA(s_:List (List UInt8))(v:List UInt8)(i:Int):Int->St
 | g=>⟨[.sl 1 (a7 AV.str s_),.str v,.any,.any,.int .i64 i,.int .i64 g,.any],[],[],a6⟩
noncomputable def og(s_:List (List UInt8))(v:List UInt8)(g:Int):(Unit⊕Int)->FU
 | .inl y=>(.exit 0,⟨[.any,.any,.any,.any,.any,.any,.any],[],[],a6⟩)
 | .inr y=>(.ret,⟨[.any,.any,.int .i64 y,.any,.any,.any,.any],[],[],a6⟩)
attribute [local go_sem] CJ pA og in
theorem LM{s_:List (List UInt8)}{v:List UInt8}{j g:Int}{i:Unit⊕Int}(h:AE (CJ s_ v j) g=some i):∃ o,∀ L,o<=L->Jj t_7 L qN 0 (pA s_ v j g)=og s_ v j i:=LF qN trivial
attribute [local go_sem] DW t_7 pA og in
@[go_sem]theorem G_7{s_:List (List UInt8)}{v:List UInt8}(h:(DW s_ v).isSome=a6):c_7.F [.sl 1 (a7 AV.str s_),.str v]=⟨a6,.int .i64 (gd (DW s_ v)),[.any,.any]⟩:=Cj qN @LM
noncomputable def AJl:Bl:=Aj a1 Tryz.f99 [0,1,4] [] [] []
noncomputable abbrev c_8:Ar:=Cw [(151,c_7)] AJl [.bor,.bor]
instance s_8:Sd a1 99 c_8:=Aq
attribute [local go_sem] Bj in
@[go_sem]theorem G_8{s_:List (List UInt8)}{v:List UInt8}(h:(Bj s_ v).isSome=a6):c_8.F [.sl 1 (a7 AV.str s_),.str v]=⟨a6,.bool (gd (Bj s_ v)),[.any,.any]⟩:=Cj AJl trivial
theorem M_8:c_8.modes=[.bor,.bor]:=rfl
theorem Fs_8{s_:List (List UInt8)}{v:List UInt8}{g:Bool}(h:Bj s_ v=some g):c_8.F [.sl 1 (a7 AV.str s_),.str v]=⟨a6,.bool g,[.any,.any]⟩:=by
 have q:=G_8 (MZ h);simp only[h,BA] at q;exact q
theorem jk:CF a1 101 Lg:=tZ
instance i_c_hRdDec:Sd a1 101 Lg:=⟨jk⟩
@[go_sem]def ou{a:List UInt8}:=cr (fun y=>@fM a y)
noncomputable def ADH:Bl:=Aj a1 Tryz.f205 [0,1,4] [] [] []
noncomputable abbrev AHs:Ar:=Cw [] ADH [.bor,.bor]
instance:Sd a1 205 AHs:=Aq
attribute [local go_sem] Cs in
@[go_sem]theorem G_10{s_ g:List UInt8}(h:(Cs s_ g).isSome=a6):AHs.F [.str s_,.str g]=⟨a6,.bool (gd (Cs s_ g)),[.any,.any]⟩:=Cj ADH trivial
noncomputable def ADi:Bl:=Aj a1 Tryz.f156 [0,1,4,5] [] [] []
noncomputable abbrev AHr:Ar:=Cw [(205,AHs)] ADi [.bor,.bor]
instance:Sd a1 156 AHr:=Aq
attribute [local go_sem] CA in
@[go_sem]theorem G_11{s_ g:List UInt8}(h:(CA s_ g).isSome=a6):AHr.F [.str s_,.str g]=⟨a6,.tup [.str ((gd (CA s_ g)).1),.bool ((gd (CA s_ g)).2)],[.any,.any]⟩:=Cj ADi trivial
noncomputable def AEP:Bl:=Aj a1 Tryz.f103 [0,1,4,5] [] [] []
noncomputable abbrev yU:Ar:=Cw [(156,AHr)] AEP [.bor,.bor]
instance s_12:Sd a1 103 yU:=Aq
attribute [local go_sem] CX in
@[go_sem]theorem ALw{s_ g:List UInt8}(h:(CX s_ g).isSome=a6):yU.F [.str s_,.str g]=⟨a6,.tup [.str ((gd (CX s_ g)).1),.bool ((gd (CX s_ g)).2)],[.any,.any]⟩:=Cj AEP trivial
theorem M_12:yU.modes=[.bor,.bor]:=rfl
theorem AFR{s_ g:List UInt8}{i:(List UInt8)×Bool}(h:CX s_ g=some i):yU.F [.str s_,.str g]=⟨a6,.tup [.str i.1,.bool i.2],[.any,.any]⟩:=by
 have q:=ALw (MZ h);simp only[h,BA] at q;exact q
theorem vP:CF a1 25 QG:=AAy
instance i_c_hCut:Sd a1 25 QG:=⟨vP⟩
@[go_sem]def zM{a b:List UInt8}:=cr (fun y=>@VG a b y)
noncomputable def ADk:Bl:=Aj a1 Tryz.f154 [0,1,2,6] [] [] []
noncomputable abbrev cU:Ar:=Cw [] ADk [.bor,.bor,.bor]
instance:Sd a1 154 cU:=Aq
attribute [local go_sem] Dk in
@[go_sem]theorem G_14{n low g:Int}(h:(Dk n low g).isSome=a6):cU.F [.int .i64 n,.int .i64 low,.int .i64 g]=⟨a6,.bool (gd (Dk n low g)),[.any,.any,.any]⟩:=Cj ADk trivial
noncomputable def ADR:Bl:=Aj a1 Tryz.f181 [0,2] [] [] []
noncomputable abbrev oP:Ar:=Cw [(154,cU)] ADR [.bor]
instance:Sd a1 181 oP:=Aq
attribute [local go_sem] BT in
@[go_sem]theorem ALa{m:Int}(h:(BT m).isSome=a6):oP.F [.int .i64 m]=⟨a6,.bool (gd (BT m)),[.any]⟩:=Cj ADR trivial
theorem AMU{m:Int}{g:Bool}(h:BT m=some g):oP.F [.int .i64 m]=⟨a6,.bool g,[.any]⟩:=by
 have q:=ALa (MZ h);simp only[h,BA] at q;exact q
noncomputable def ADY:Bl:=Aj a1 Tryz.f173 [0,2] [] [] []
noncomputable abbrev uO:Ar:=Cw [] ADY [.bor]
instance:Sd a1 173 uO:=Aq
attribute [local go_sem] EC in
@[go_sem]theorem G_16{n:Int}(h:(EC n).isSome=a6):uO.F [.int .i64 n]=⟨a6,.int .i64 (gd (EC n)),[.any]⟩:=Cj ADY trivial
theorem AFk:CF a1 230 QF:=AAw
instance i_c_hFmt:Sd a1 230 QF:=⟨AFk⟩
@[go_sem]def zL{n b:Int}:=cr (fun y=>@ABy n b y)
noncomputable def ADW:Bl:=Aj a1 Tryz.f175 [0,1,4] [] [] []
noncomputable abbrev AHq:Ar:=Cw [(230,QF)] ADW [.bor,.bor]
instance:Sd a1 175 AHq:=Aq
attribute [local go_sem] Hc in
@[go_sem]theorem G_18{i base:Int}(h:(Hc i base).isSome=a6):AHq.F [.int .i64 i,.int .i64 base]=⟨a6,.str (gd (Hc i base)),[.any,.any]⟩:=Cj ADW trivial
noncomputable def AEK:Bl:=Aj a1 Tryz.f110 [0,2] [] [] []
noncomputable abbrev WU:Ar:=Cw [(175,AHq)] AEK [.bor]
instance:Sd a1 110 WU:=Aq
attribute [local go_sem] BJ in
@[go_sem]theorem G_19{n:Int}(h:(BJ n).isSome=a6):WU.F [.int .i64 n]=⟨a6,.str (gd (BJ n)),[.any]⟩:=Cj AEK trivial
noncomputable def qF:Bl:=Aj a1 Tryz.f204 [0,1,4,5] [] [] [(10,8,4)]
noncomputable def sD:List (Nat×Ar):=[(110,WU)]
instance:SdL a1 sD:=by unfold sD;infer_instance
noncomputable abbrev AHp:Ar:=Cw sD qF [.bor,.bor]
instance:Sd a1 204 AHp:=Aq
noncomputable def jO(g:Int):(List UInt8)->St
 | s_=>⟨[.any,.int .i64 g,.any,.str s_],[],[],a6⟩
noncomputable def ia(g:Int)(y:(List UInt8)):FU:=(.exit 0,⟨[.any,.any,.any,.str y],[],[],a6⟩)
attribute [local go_sem] IV sD jO ia in
theorem Ue{g:Int}{i j:(List UInt8)}(h:AE (IV g) i=some j):∃ o,∀ L,o<=L->Jj sD L qF 0 (jO g i)=ia g j:=LF qF trivial
attribute [local go_sem] Im sD jO ia in
@[go_sem]theorem G_20{n g:Int}(h:(Im n g).isSome=a6):AHp.F [.int .i64 n,.int .i64 g]=⟨a6,.str (gd (Im n g)),[.any,.any]⟩:=Cj qF @Ue
noncomputable def ADj:Bl:=Aj a1 Tryz.f155 [0,2,3] [] [] []
noncomputable abbrev xw:Ar:=Cw [(181,oP),(173,uO),(110,WU),(204,AHp)] ADj [.bor]
instance:Sd a1 155 xw:=Aq
attribute [local go_sem] DT in
@[go_sem]theorem G_21{m:Int}(h:(DT m).isSome=a6):xw.F [.int .i64 m]=⟨a6,.str (gd (DT m)),[.any]⟩:=Cj ADj trivial
noncomputable def qW:Bl:=Aj a1 Tryz.f102 [0,2,3,4,5,6,7,9,10,11,12,13,44,45,46,47] [] [] [(29265,529,6)]
noncomputable def sC:List (Nat×Ar):=[(103,yU),(25,QG),(101,Lg),(154,cU),(155,xw)]
instance:SdL a1 sC:=by unfold sC;infer_instance
noncomputable abbrev ABf:Ar:=Cw sC qW [.bor]
instance s_22:Sd a1 102 ABf:=Aq
noncomputable def jN(s_:List UInt8)(g:Bool)(i:List UInt8)(p:List Int)(o:Int):(Int×Int)->St
 | (m,j)=>⟨[.str s_,.any,.any,.any,.bool g,.any,.str i,.any,.any,.int .i64 m,.any,.any,.own 3200000,.int .i64 o,.int .i64 j,.any],[],[(3200000,⟨1,a7 (AV.int .i64) p⟩)],a6⟩
noncomputable def iY(s_:List UInt8)(g:Bool)(i:List UInt8)(o:List Int)(j y:Int):FU:=(.exit 0,⟨[.str s_,.any,.any,.any,.bool g,.any,.any,.any,.any,.int .i64 y,.any,.any,.any,.any,.any,.any],[],[],a6⟩)
attribute [local go_sem] CC sC jN iY in
theorem TM{s_:List UInt8}{g:Bool}{i:List UInt8}{C:List Int}{p:Int}{j:Int×Int}{o:Int}(h:AE (CC s_ g i C p) j=some o):∃ I,∀ L,I<=L->Jj sC L qW 0 (jN s_ g i C p j)=iY s_ g i C p o:=LF qW trivial
attribute [local go_sem] CH sC jN iY in
@[go_sem]theorem ALN{s_:List UInt8}(h:(CH s_).isSome=a6):ABf.F [.str s_]=⟨a6,.tup [.int .i64 ((gd (CH s_)).1),.bool ((gd (CH s_)).2)],[.any]⟩:=Cj qW (an @TM (an @AFR @VG))
theorem M_22:ABf.modes=[.bor]:=rfl
theorem AMT{s_:List UInt8}{g:Int×Bool}(h:CH s_=some g):ABf.F [.str s_]=⟨a6,.tup [.int .i64 g.1,.bool g.2],[.any]⟩:=by
 have q:=ALN (MZ h);simp only[h,BA] at q;exact q
